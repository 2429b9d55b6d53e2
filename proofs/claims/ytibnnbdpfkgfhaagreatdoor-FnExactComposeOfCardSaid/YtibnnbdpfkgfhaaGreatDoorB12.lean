/- The walk of l4Apply. -/
import Derived.Test.YtibnnbdpfkgfhaaGreatDoorB11
namespace Go.Proofs.YtibnnbdpfkgfhaaGreatDoor
open Go.RowKit

theorem write_any (d : Nat) : WriteSaid d := by
  induction d using Nat.strongRecOn with
  | _ d ih => exact write_step d ih

/-- What l4Apply leaves: 'o' is what the reference's machine writes. -/
def SAppPost (F : Nat → Prop) (o : Option Bd) (w : World) (en : Ending) (w' : World) : Prop :=
  ∃ s v a1 n1 c1 a2 n2 c2, en = .returned (.tuple #[.agg #[str s, .int .i64 v, .slice a1 n1 c1, .slice a2 n2 c2], .bool o.isSome]) ∧ Below w.heap.size w w' ∧
    ∀ x, o = some x → Reps (fun i => F i ∨ w.heap.size ≤ i) w' (encN x) [str s, .int .i64 v, .slice a1 n1 c1, .slice a2 n2 c2]

theorem SAppPost.drew {F : Nat → Prop} {o : Option Bd} {w w' : World} {en : Ending} (h : SAppPost F o w en w') : SAppPost F o w en w'.drew := by
  obtain ⟨s, v, a1, n1, c1, a2, n2, c2, e, hb, hr⟩ := h
  exact ⟨s, v, a1, n1, c1, a2, n2, c2, e, Below.drew hb, fun x hx => (hr x hx).drew⟩

/-- What is asked of a call of l4Apply. -/
structure SAppPre (F : Nat → Prop) (t a : Ty) (rest bs : List Ty) (m n : Bd) (tv bv : Value) (ms ns : Bs) (mv nv : Int) (ma1 ma2 na1 na2 : Option Addr) (mn1 mc1 mn2 mc2 nn1 nc1 nn2 nc2 : Nat) (w : World) : Prop where
  ts : t.args = a :: rest
  t15 : atomsT t ≤ 15
  bl : bs.length ≤ 100
  b15 : ∀ t ∈ bs, atomsT t ≤ 15
  fit : EvFit (bs ++ rest) m (betweenEnv bs a n rest) []
  wm : wfB m
  wn : wfB n
  rt : Rep F w (encS t) tv
  rm : Reps F w (encN m) [str ms, .int .i64 mv, .slice ma1 mn1 mc1, .slice ma2 mn2 mc2]
  rn : Reps F w (encN n) [str ns, .int .i64 nv, .slice na1 nn1 nc1, .slice na2 nn2 nc2]
  rb : Rep F w (.sl 46 1 bs.length (encSs bs)) bv
  hF : ∀ i, F i → i < w.heap.size

set_option maxRecDepth 100000 in
set_option maxHeartbeats 8000000 in
theorem l4Apply_any (F : Nat → Prop) (t a : Ty) (rest bs : List Ty) (m n : Bd) (tv bv : Value) (ms ns : Bs) (mv nv : Int) (ma1 ma2 na1 na2 : Option Addr) (mn1 mc1 mn2 mc2 nn1 nc1 nn2 nc2 : Nat) (w : World) (h : SAppPre F t a rest bs m n tv bv ms ns mv nv ma1 ma2 na1 na2 mn1 mc1 mn2 mc2 nn1 nc1 nn2 nc2 w) :
    Calls Tryz.prog 61 #[.agg #[tv], .agg #[str ms, .int .i64 mv, .slice ma1 mn1 mc1, .slice ma2 mn2 mc2], .agg #[str ns, .int .i64 nv, .slice na1 nn1 nc1, .slice na2 nn2 nc2], bv] w
      (SAppPost F (writes m (betweenEnv bs a n rest) (bs.length + rest.length)) w) := by
  have hrt := h.rt
  rw [encS_eq] at hrt
  obtain ⟨ta, tc, e, htc, _, hta⟩ := Rep_sl1_open hrt
  subst e
  rw [h.ts] at hrt htc hta
  obtain ⟨kb, ko, u, d1, e, hkF, hkw, hd1, hk0, hru⟩ := hta 0 (by simp)
  subst e
  simp only [encSs, List.getElem?_cons_zero, Option.some.injEq] at hd1
  subst hd1
  obtain ⟨ua, uc, rfl⟩ := encS_slice hru
  obtain ⟨ba, bc, ebv, _⟩ := Rep_sl1_open h.rb
  subst ebv
  have hbl := h.bl
  have hFw := h.hF
  have hlen : t.args.length = rest.length + 1 := by rw [h.ts]; rfl
  rw [hlen]
  have h15 := args_atoms h.t15
  have hrl : rest.length ≤ 15 := by have := h15.2; omega
  have hk0' : w.cell? ⟨kb, ko, none⟩ = some (.slice ua a.args.length uc) := hk0
  obtain ⟨W, hW⟩ : ∃ W, ((((w.alloc (.cells #[.slice (some ⟨kb, ko, none⟩) (rest.length + 1) tc] 46)).alloc (.cells #[str ms, .int .i64 mv, .slice ma1 mn1 mc1, .slice ma2 mn2 mc2] 51)).alloc (.cells #[str ns, .int .i64 nv, .slice na1 nn1 nc1, .slice na2 nn2 nc2] 51)).alloc (.cells #[str [], .int .i64 0, .slice none 0 0, .slice none 0 0] 51)).alloc (.cells #[.int .i64 200, .int .i64 0] 57) = W := ⟨_, rfl⟩
  have hzW : W.heap.size = w.heap.size + 5 := by rw [← hW]; simp only [size_alloc]
  have hbW : Below w.heap.size w W := by rw [← hW]; exact (((((Below.refl _ _).alloc (Nat.le_refl _) _).alloc (by simp only [size_alloc]; omega) _).alloc (by simp only [size_alloc]; omega) _).alloc (by simp only [size_alloc]; omega) _).alloc (by simp only [size_alloc]; omega) _
  have bT : W.heap[w.heap.size]? = some (.cells #[.slice (some ⟨kb, ko, none⟩) (rest.length + 1) tc] 46 (0, 0)) := by rw [← hW]; exact heap_past (heap_past (heap_past (heap_past (heap_new _ _))))
  have bM : W.heap[w.heap.size + 1]? = some (.cells #[str ms, .int .i64 mv, .slice ma1 mn1 mc1, .slice ma2 mn2 mc2] 51 (0, 0)) := by
    rw [← hW]; refine heap_past (heap_past (heap_past ?_))
    have := heap_new (w.alloc (.cells #[.slice (some ⟨kb, ko, none⟩) (rest.length + 1) tc] 46)) (.cells #[str ms, .int .i64 mv, .slice ma1 mn1 mc1, .slice ma2 mn2 mc2] 51)
    rwa [size_alloc] at this
  have bN : W.heap[w.heap.size + 2]? = some (.cells #[str ns, .int .i64 nv, .slice na1 nn1 nc1, .slice na2 nn2 nc2] 51 (0, 0)) := by
    rw [← hW]; refine heap_past (heap_past ?_)
    have := heap_new ((w.alloc (.cells #[.slice (some ⟨kb, ko, none⟩) (rest.length + 1) tc] 46)).alloc (.cells #[str ms, .int .i64 mv, .slice ma1 mn1 mc1, .slice ma2 mn2 mc2] 51)) (.cells #[str ns, .int .i64 nv, .slice na1 nn1 nc1, .slice na2 nn2 nc2] 51)
    simpa only [size_alloc] using this
  have bR : NewN (w.heap.size + 3) 0 (.slice none 0 0) (.slice none 0 0) W := by
    unfold NewN
    rw [← hW]; refine heap_past ?_
    have := heap_new (((w.alloc (.cells #[.slice (some ⟨kb, ko, none⟩) (rest.length + 1) tc] 46)).alloc (.cells #[str ms, .int .i64 mv, .slice ma1 mn1 mc1, .slice ma2 mn2 mc2] 51)).alloc (.cells #[str ns, .int .i64 nv, .slice na1 nn1 nc1, .slice na2 nn2 nc2] 51)) (.cells #[str [], .int .i64 0, .slice none 0 0, .slice none 0 0] 51)
    simpa only [size_alloc] using this
  have bW : Wri W (w.heap.size + 4) 200 0 := by
    unfold Wri
    rw [← hW]
    have := heap_new ((((w.alloc (.cells #[.slice (some ⟨kb, ko, none⟩) (rest.length + 1) tc] 46)).alloc (.cells #[str ms, .int .i64 mv, .slice ma1 mn1 mc1, .slice ma2 mn2 mc2] 51)).alloc (.cells #[str ns, .int .i64 nv, .slice na1 nn1 nc1, .slice na2 nn2 nc2] 51)).alloc (.cells #[str [], .int .i64 0, .slice none 0 0, .slice none 0 0] 51)) (.cells #[.int .i64 200, .int .i64 0] 57)
    simpa only [size_alloc] using this
  have C1 := l4Opens_any F 0 bs _ W (Rep.below hbW (fun _ h => h) h.rb) (by omega) (by omega)
  rw [show ((0 : Nat) : Int) = 0 from rfl] at C1
  have C1 := Lib.hid C1
  have HP := Lib.hid h
  have HFw := Lib.hid hFw; clear hFw
  have HT := Lib.hid (And.intro hrt (And.intro hru (And.intro htc (And.intro h15 hlen))))
  have HW := Lib.hid (And.intro hW (And.intro hzW (And.intro hbW (And.intro bT (And.intro bM (And.intro bN (And.intro bR bW)))))))
  clear h hrt hru htc h15 hlen hta hW hzW hbW bT bM bN bR bW hk0
  go_enter Tryz.func61, Tryz.ntmps61
  go_upto_region 2 with (fail)
  rw [HW.out.1]
  go_wp2_with fail
  (with_reducible refine C1.out.mono ?_)
  rintro en w1 ⟨oa, oc, oxs, rfl, ho1, hr1, hb1, hf1⟩
  have hzW := HW.out.2.1
  have hz1 := hb1.size
  have b1 := fun {i : Nat} {o : Obj} (hi : i < W.heap.size) (h : W.heap[i]? = some o) => (hb1.block i hi).trans h
  have bT1 := b1 (by omega) HW.out.2.2.2.1
  have bN1 := b1 (by omega) HW.out.2.2.2.2.2.1
  obtain ⟨n0, n1, n2, n3⟩ := cells4 bN1
  have t0 : w1.cell? ⟨w.heap.size, 0, none⟩ = some (.slice (some ⟨kb, ko, none⟩) (rest.length + 1) tc) := by simp [World.cell?, bT1]
  have k1 : w1.cell? ⟨kb, ko, none⟩ = some (.slice ua a.args.length uc) := (hb1.cell (by show kb < W.heap.size; omega)).trans ((HW.out.2.2.1.cell hkw).trans hk0')
  have SX : Hid (∀ w', Below w1.heap.size w1 w' → w'.cell? ⟨w.heap.size + 2, 0, none⟩ = some (str ns) ∧ w'.cell? ⟨w.heap.size + 2, 1, none⟩ = some (.int .i64 nv) ∧ w'.cell? ⟨w.heap.size + 2, 2, none⟩ = some (.slice na1 nn1 nc1) ∧ w'.cell? ⟨w.heap.size + 2, 3, none⟩ = some (.slice na2 nn2 nc2) ∧
      w'.cell? ⟨w.heap.size, 0, none⟩ = some (.slice (some ⟨kb, ko, none⟩) (rest.length + 1) tc) ∧ w'.cell? ⟨kb, ko, none⟩ = some (.slice ua a.args.length uc)) := by
    show ∀ w', _ → _
    intro w' hb'
    exact ⟨(hb'.cell (World.block_lt_of_cell? _ _ n0)).trans n0, (hb'.cell (World.block_lt_of_cell? _ _ n1)).trans n1, (hb'.cell (World.block_lt_of_cell? _ _ n2)).trans n2, (hb'.cell (World.block_lt_of_cell? _ _ n3)).trans n3, (hb'.cell (World.block_lt_of_cell? _ _ t0)).trans t0, (hb'.cell (World.block_lt_of_cell? _ _ k1)).trans k1⟩
  have H1 := Lib.hid (And.intro ho1 (And.intro hr1 (And.intro hb1 hf1)))
  clear ho1 hr1 hb1 hf1 b1 bT1 bN1 n0 n1 n2 n3 t0 k1 hk0' C1
  go_wp2_with fail
  refine wp_region_noPanic ?_
  refine wp_region_S (fun w' => Below w1.heap.size w1 w') (fun _ => false) (by kernel_rfl) ?_
  have hSd : Below w1.heap.size w1 w1.drew := Below.drew (Below.refl _ _)
  refine wpAnyS_take 0 (v := ?_) (by kernel_rfl) (by kernel_rfl) (by kernel_rfl) (by kernel_rfl) (fun _ _ _ _ h => h) hSd ?_ ?_
  rotate_left
  · (intro oi ho; simp at ho; subst ho; refine Or.inl ⟨by rfl, fun w' hw' => ?_⟩; obtain ⟨e0, e1, e2, e3, e4, e5⟩ := SX.out w' hw'; go_simp; try with_reducible rfl)
  (intro d hd; simp at hd; subst hd; simp only [Act.put, List.setIfInBounds_toArray, List.set_cons_zero, List.set_cons_succ])
  refine wpAnyS_take 1 (v := ?_) (by kernel_rfl) (by kernel_rfl) (by kernel_rfl) (by kernel_rfl) (fun _ _ _ _ h => h) hSd ?_ ?_
  rotate_left
  · (intro oi ho; simp at ho; subst ho; refine Or.inl ⟨by rfl, fun w' hw' => ?_⟩; go_simp; try with_reducible rfl)
  (intro d hd; simp at hd; subst hd; simp only [Act.put, List.setIfInBounds_toArray, List.set_cons_zero, List.set_cons_succ])
  refine wpAnyS_take 2 (v := ?_) (by kernel_rfl) (by kernel_rfl) (by kernel_rfl) (by kernel_rfl) (fun _ _ _ _ h => h) hSd ?_ ?_
  rotate_left
  · (intro oi ho; simp at ho; subst ho; refine Or.inl ⟨by rfl, fun w' hw' => ?_⟩; obtain ⟨e0, e1, e2, e3, e4, e5⟩ := SX.out w' hw'; go_simp; try with_reducible rfl)
  (intro d hd; simp at hd; subst hd; simp only [Act.put, List.setIfInBounds_toArray, List.set_cons_zero, List.set_cons_succ])
  refine wpAnyS_take 3 (v := ?_) (by kernel_rfl) (by kernel_rfl) (by kernel_rfl) (by kernel_rfl) (fun _ _ _ _ h => h) hSd ?_ ?_
  rotate_left
  · (intro oi ho; simp at ho; subst ho; refine Or.inl ⟨by rfl, fun w' hw' => ?_⟩; go_simp; try with_reducible rfl)
  (intro d hd; simp at hd; subst hd; simp only [Act.put, List.setIfInBounds_toArray, List.set_cons_zero, List.set_cons_succ])
  refine wpAnyS_take 4 (v := ?_) (by kernel_rfl) (by kernel_rfl) (by kernel_rfl) (by kernel_rfl) (fun _ _ _ _ h => h) hSd ?_ ?_
  rotate_left
  · (intro oi ho; simp at ho; subst ho; refine Or.inl ⟨by rfl, fun w' hw' => ?_⟩; obtain ⟨e0, e1, e2, e3, e4, e5⟩ := SX.out w' hw'; go_simp; try with_reducible rfl)
  (intro d hd; simp at hd; subst hd; simp only [Act.put, List.setIfInBounds_toArray, List.set_cons_zero, List.set_cons_succ])
  refine wpAnyS_take 5 (v := ?_) (by kernel_rfl) (by kernel_rfl) (by kernel_rfl) (by kernel_rfl) (fun _ _ _ _ h => h) hSd ?_ ?_
  rotate_left
  · (intro oi ho; simp at ho; subst ho; refine Or.inl ⟨by rfl, fun w' hw' => ?_⟩; go_simp; try with_reducible rfl)
  (intro d hd; simp at hd; subst hd; simp only [Act.put, List.setIfInBounds_toArray, List.set_cons_zero, List.set_cons_succ])
  refine wpAnyS_take 6 (v := ?_) (by kernel_rfl) (by kernel_rfl) (by kernel_rfl) (by kernel_rfl) (fun _ _ _ _ h => h) hSd ?_ ?_
  rotate_left
  · (intro oi ho; simp at ho; subst ho; refine Or.inl ⟨by rfl, fun w' hw' => ?_⟩; go_simp; try with_reducible rfl)
  (intro d hd; simp at hd; subst hd; simp only [Act.put, List.setIfInBounds_toArray, List.set_cons_zero, List.set_cons_succ])
  refine wpAnyS_one 7 (by kernel_rfl) ?_
  (intro o7 ho K' hK; simp at ho; subst ho)
  go_simp
  refine hK.out _ _ (fun _ => ?_) ?_
  · exact hSd.alloc (Nat.le_refl _) _
  clear hK K'
  (try simp only [Act.put, List.setIfInBounds_toArray, List.set_cons_zero, List.set_cons_succ])
  refine wpAnyS_one 8 (by kernel_rfl) ?_
  (intro o8 ho K' hK; simp at ho; subst ho)
  go_simp
  refine hK.out _ _ (fun _ => ?_) ?_
  · exact hSd.alloc (Nat.le_refl _) _
  clear hK K'
  (try simp only [Act.put, List.setIfInBounds_toArray, List.set_cons_zero, List.set_cons_succ])
  refine wpAnyS_done (by kernel_rfl) (NoPanic.normal ?_) _
  obtain ⟨W2, hW2⟩ : ∃ W2, (w1.alloc (.cells #[.int .i64 (-1), .string ⟨ns.toArray⟩, .int .i64 nv, .slice na1 nn1 nc1, .slice na2 nn2 nc2, .slice ua a.args.length uc, .slice oa bs.length oc, .int .i64 0, .int .i64 0] 60)).drew = W2 := ⟨_, rfl⟩
  rw [hW2]
  have hb2 : Below w1.heap.size w1 W2 := by rw [← hW2]; exact Below.drew ((Below.refl _ _).alloc (Nat.le_refl _) _)
  have hz2 : W2.heap.size = w1.heap.size + 1 := by rw [← hW2]; exact size_alloc _ _
  have hF2 : W2.heap[w1.heap.size]? = some (.cells #[.int .i64 (-1), str ns, .int .i64 nv, .slice na1 nn1 nc1, .slice na2 nn2 nc2, .slice ua a.args.length uc, .slice oa bs.length oc, .int .i64 0, .int .i64 0] 60 (0, 0)) := by rw [← hW2]; exact heap_new _ _
  have SY : Hid (∀ w', Below W2.heap.size W2 w' → w'.cell? ⟨w1.heap.size, 0, none⟩ = some (.int .i64 (-1)) ∧ w'.cell? ⟨w1.heap.size, 1, none⟩ = some (str ns) ∧ w'.cell? ⟨w1.heap.size, 2, none⟩ = some (.int .i64 nv) ∧ w'.cell? ⟨w1.heap.size, 3, none⟩ = some (.slice na1 nn1 nc1) ∧ w'.cell? ⟨w1.heap.size, 4, none⟩ = some (.slice na2 nn2 nc2) ∧
      w'.cell? ⟨w1.heap.size, 5, none⟩ = some (.slice ua a.args.length uc) ∧ w'.cell? ⟨w1.heap.size, 6, none⟩ = some (.slice oa bs.length oc) ∧ w'.cell? ⟨w1.heap.size, 7, none⟩ = some (.int .i64 0) ∧ w'.cell? ⟨w1.heap.size, 8, none⟩ = some (.int .i64 0)) := by
    show ∀ w', _ → _
    intro w' hb'
    have h := (hb'.block w1.heap.size (by omega)).trans hF2
    simp [World.cell?, h]
  have hsrc2 : SrcSl 9 (.slice oa bs.length oc) bs.length oxs w1 := H1.out.1.src (oneCell_encWs _ _ H1.out.2.1)
  have SRC : Hid (∀ w', Below W2.heap.size W2 w' → SrcSl 9 (.slice oa bs.length oc) bs.length oxs w') := by
    show ∀ w', _ → _
    intro w' hb'
    exact (hsrc2.belowAll hb2 (Nat.le_refl _)).belowAll hb' (Nat.le_refl _)
  have H2 := Lib.hid (And.intro hb2 (And.intro hz2 hF2))
  clear hW2 hb2 hF2 hsrc2 hSd hz2 hzW hz1
  go_wp2_with fail
  refine wp_region_noPanic ?_
  refine wp_region_S (fun w' => Below W2.heap.size W2 w') (fun _ => false) (by kernel_rfl) ?_
  have hSd : Below W2.heap.size W2 W2.drew := Below.drew (Below.refl _ _)
  refine wpAnyS_take 1 (v := ?_) (by kernel_rfl) (by kernel_rfl) (by kernel_rfl) (by kernel_rfl) (fun _ _ _ _ h => h) hSd ?_ ?_
  rotate_left
  · (intro oi ho; simp at ho; subst ho; refine Or.inl ⟨by rfl, fun w' hw' => ?_⟩; go_simp; try with_reducible rfl)
  (intro d hd; simp at hd; subst hd; simp only [Act.put, List.setIfInBounds_toArray, List.set_cons_zero, List.set_cons_succ])
  refine wpAnyS_take 3 (v := ?_) (by kernel_rfl) (by kernel_rfl) (by kernel_rfl) (by kernel_rfl) (fun _ _ _ _ h => h) hSd ?_ ?_
  rotate_left
  · (intro oi ho; simp at ho; subst ho; refine Or.inl ⟨by rfl, fun w' hw' => ?_⟩; obtain ⟨e0, e1, e2, e3, e4, e5, e6, e7, e8⟩ := SY.out w' hw'; go_simp; try with_reducible rfl)
  (intro d hd; simp at hd; subst hd; simp only [Act.put, List.setIfInBounds_toArray, List.set_cons_zero, List.set_cons_succ])
  refine wpAnyS_two 0 4 (by kernel_rfl) ?_ ?_
  · (intro o0 ho K' hK; simp at ho; subst ho)
    go_simp
    refine hK.out _ _ (fun _ => ?_) ?_
    · exact (hSd.alloc (Nat.le_refl _) (.cells #[] 60))
    clear hK K'
    (try simp only [Act.put, List.setIfInBounds_toArray, List.set_cons_zero, List.set_cons_succ])
    refine wpAnyS_two 2 4 (by kernel_rfl) ?_ ?_
    · (intro o2 ho K' hK; simp at ho; subst ho)
      refine step_append_gen (by rfl) _ _ _ (by rfl) 60 (.agg #[.int .i64 0, str [], .int .i64 0, .slice none 0 0, .slice none 0 0, .slice none 0 0, .slice none 0 0, .int .i64 0, .int .i64 0]) 9 144 Tryz.underlying58 Tryz.infoBo rfl (by decide) (.slice (some ⟨W2.heap.size, 0, none⟩) 0 0) 0 [] (by rfl) (Own.litAt #[] 0 _ rfl (by decide) rfl) _ bs.length oxs (by rfl) (SRC.out _ (hSd.alloc (Nat.le_refl _) (.cells #[] 60))) (by unfold maxLen; omega) (by omega) ?_
      intro a5 c5 w5 ho5 hb5 hg5
      simp only [Nat.zero_add, List.nil_append] at ho5 hg5 ⊢
      have hB5 : Below W2.heap.size W2 w5 := (hSd.alloc (Nat.le_refl _) (.cells #[] 60)).trans (hb5.toBelow ((hSd.alloc (Nat.le_refl _) (.cells #[] 60))).size fun i hi e => by simp [Value.ownBlock] at e; omega)
      have HG5 : Hid (∀ g, (Value.slice a5 (bs.length) c5).ownBlock = some g → W2.heap.size ≤ g) := fun g hg => by rcases hg5 g hg with h | h; simp [Value.ownBlock] at h; omega; have h : g = W2.heap.size + 1 := h.trans (size_alloc _ _); omega
      refine hK.out _ _ (fun _ => ?_) ?_
      · exact hB5
      clear hK K'
      (try simp only [Act.put, List.setIfInBounds_toArray, List.set_cons_zero, List.set_cons_succ])
      refine wpAnyS_one 4 (by kernel_rfl) ?_
      (intro o4 ho K' hK; simp at ho; subst ho)
      go_simp
      refine hK.out _ _ (fun _ => ?_) ?_
      · exact hB5.alloc hB5.size _
      clear hK K'
      (try simp only [Act.put, List.setIfInBounds_toArray, List.set_cons_zero, List.set_cons_succ])
      refine wpAnyS_one 5 (by kernel_rfl) ?_
      (intro o5 ho K' hK; simp at ho; subst ho)
      refine step_append_gen (by rfl) _ _ _ (by rfl) 60 (.agg #[.int .i64 0, str [], .int .i64 0, .slice none 0 0, .slice none 0 0, .slice none 0 0, .slice none 0 0, .int .i64 0, .int .i64 0]) 9 144 Tryz.underlying58 Tryz.infoBo rfl (by decide) (.slice a5 (bs.length) c5) (bs.length) oxs (by rfl) (ho5.alloc _) _ 1 [.int .i64 (-1), str ns, .int .i64 nv, .slice na1 nn1 nc1, .slice na2 nn2 nc2, .slice ua a.args.length uc, .slice oa bs.length oc, .int .i64 0, .int .i64 0] (by rfl) (SrcSl.lit1 #[.int .i64 (-1), str ns, .int .i64 nv, .slice na1 nn1 nc1, .slice na2 nn2 nc2, .slice ua a.args.length uc, .slice oa bs.length oc, .int .i64 0, .int .i64 0] rfl (by simp [str, Value.oneCell']) _ (by rfl)) (by unfold maxLen; omega) (by omega) ?_
      intro a7 c7 w7 ho7 hb7 hg7
      have hB7 : Below W2.heap.size W2 w7 := (hB5.alloc hB5.size (.cells #[.int .i64 (-1), str ns, .int .i64 nv, .slice na1 nn1 nc1, .slice na2 nn2 nc2, .slice ua a.args.length uc, .slice oa bs.length oc, .int .i64 0, .int .i64 0] 60)).trans (hb7.toBelow ((hB5.alloc hB5.size (.cells #[.int .i64 (-1), str ns, .int .i64 nv, .slice na1 nn1 nc1, .slice na2 nn2 nc2, .slice ua a.args.length uc, .slice oa bs.length oc, .int .i64 0, .int .i64 0] 60))).size fun i hi e => by have := HG5.out i e; omega)
      have hg7' : ∀ g, (Value.slice a7 (bs.length + 1) c7).ownBlock = some g → W2.heap.size ≤ g := fun g hg => by rcases hg7 g hg with h | h; exact HG5.out g h; exact Nat.le_trans ((hB5.alloc hB5.size (.cells #[.int .i64 (-1), str ns, .int .i64 nv, .slice na1 nn1 nc1, .slice na2 nn2 nc2, .slice ua a.args.length uc, .slice oa bs.length oc, .int .i64 0, .int .i64 0] 60))).size (Nat.le_of_eq h.symm)
      refine hK.out _ _ (fun _ => ?_) ?_
      · exact hB7
      clear hK K'
      (try simp only [Act.put, List.setIfInBounds_toArray, List.set_cons_zero, List.set_cons_succ])
      refine wpAnyS_one 6 (by kernel_rfl) ?_
      (intro o6 ho K' hK; simp at ho; subst ho)
      go_simp
      refine hK.out _ _ (fun _ => ?_) ?_
      · exact hB7
      clear hK K'
      (try simp only [Act.put, List.setIfInBounds_toArray, List.set_cons_zero, List.set_cons_succ])
      refine wpAnyS_done (by kernel_rfl) (NoPanic.normal ?_) _
      clear hb5 hg5 ho5 hb7 hg7 hB5 hSd HG5
      have H7 := Lib.hid (And.intro ho7 (And.intro hB7 hg7')); clear ho7 hB7 hg7'
      have hb27 : Below w1.heap.size w1 w7 := H2.out.1.trans (H7.out.2.1.mono (by have := H2.out.2.1; omega))
      have hbW7 : Below W.heap.size W w7 := H1.out.2.2.1.trans (hb27.mono H1.out.2.2.1.size)
      have hbw7 : Below w.heap.size w w7 := HW.out.2.2.1.trans (hbW7.mono HW.out.2.2.1.size)
      have t7 : w7.cell? ⟨w.heap.size, 0, none⟩ = some (.slice (some ⟨kb, ko, none⟩) (rest.length + 1) tc) := by
        have h := (hbW7.block w.heap.size (by have := HW.out.2.1; omega)).trans HW.out.2.2.2.1
        simp [World.cell?, h]
      have hT2 : ¬ tc = 1 → Rep F w7 (.sl 46 1 rest.length (encSs rest)) (.slice (some ⟨kb, ko + 1, none⟩) rest.length (tc - 1)) := fun _ => Rep.below hbw7 (fun _ h => h) (Rep_sl1_tail (d := encS a) HT.out.1)
      have hT1 : tc = 1 → rest = [] ∧ Rep F w7 (.sl 46 1 rest.length (encSs rest)) (.slice (some ⟨kb, ko, none⟩) rest.length 0) := fun h => by
        obtain rfl : rest = [] := by
          have h1 := HT.out.2.2.1
          rw [h] at h1
          simp at h1; exact h1
        exact ⟨rfl, Rep_sl.2 ⟨by simp [encSs], _, _, rfl, Nat.zero_le _, fun h => by simp at h, .inl rfl⟩⟩
      have H8 := Lib.hid (And.intro hb27 (And.intro hbW7 hbw7)); clear hb27 hbW7 hbw7
      by_cases htc1 : tc = 1
      · have hT7 := (hT1 htc1).2
        subst htc1
        have htc0 : (rest.length : Int) = 0 := by have := HT.out.2.2.1; simp at this; simp [this]
        clear hT1 hT2
        have C6 := Lib.hid (l4Opens_any F bs.length rest _ w7 hT7 (by omega) (by omega)); clear hT7
        go_wp2_with fail
        (with_reducible refine C6.out.mono ?_)
        rintro en w8 ⟨a8, c8, xs8, rfl, ho8, hr8, hb8, hf8⟩
        have ho78 := H7.out.1.keep (w' := w8) fun g o hg hh => by rw [hb8.block g (lt_of_heap hh)]; exact hh
        have hsrc8 := ho8.src (oneCell_encWs _ _ hr8)
        have HA := Lib.hid (And.intro ho78 (And.intro hsrc8 (And.intro hr8 hb8))); clear ho78 hsrc8 ho8 hr8 hb8 hf8
        go_wp2_with (at_builtin; refine wpList_append_gen rfl _ _ 58 rfl 60 (.agg #[.int .i64 0, str [], .int .i64 0, .slice none 0 0, .slice none 0 0, .slice none 0 0, .slice none 0 0, .int .i64 0, .int .i64 0]) 9 144 Tryz.underlying58 Tryz.infoBo rfl (by decide) (.slice a7 (bs.length + 1) c7) (bs.length + 1) _ rfl HA.out.1 _ rest.length xs8 rfl HA.out.2.1 (by unfold maxLen; omega) (by omega) ?_)
        intro a9 c9 w9 ho9 hb9 hg9
        have hb79 : Below W2.heap.size W2 w9 := (H7.out.2.1.trans (HA.out.2.2.2.mono H7.out.2.1.size)).trans (hb9.toBelow (by have := H7.out.2.1.size; have := HA.out.2.2.2.size; omega) fun i hi e => by have := H7.out.2.2 i e; omega)
        have hg9' : ∀ g, (Value.slice a9 (bs.length + 1 + rest.length) c9).ownBlock = some g → W2.heap.size ≤ g := fun g hg => by
          rcases hg9 g hg with h | h
          · exact H7.out.2.2 g h
          · have := H7.out.2.1.size; have := HA.out.2.2.2.size; omega
        have hbW9 : Below W.heap.size W w9 := H1.out.2.2.1.trans ((H2.out.1.trans (hb79.mono (by have := H2.out.2.1; omega))).mono H1.out.2.2.1.size)
        have hzW := HW.out.2.1
        have hk9 : ∀ {i : Nat} {o : Obj}, i < W.heap.size → W.heap[i]? = some o → w9.heap[i]? = some o := fun hi h => (hbW9.block _ hi).trans h
        have bT9 := hk9 (by omega) HW.out.2.2.2.1
        have bM9 := hk9 (by omega) HW.out.2.2.2.2.1
        have bR9 : NewN (w.heap.size + 3) 0 (.slice none 0 0) (.slice none 0 0) w9 := hk9 (by omega) HW.out.2.2.2.2.2.2.1
        have bW9 : Wri w9 (w.heap.size + 4) 200 0 := hk9 (by omega) HW.out.2.2.2.2.2.2.2
        obtain ⟨m0, m1, m2, m3⟩ := cells4 bM9
        have t9 : w9.cell? ⟨w.heap.size, 0, none⟩ = some (.slice (some ⟨kb, ko, none⟩) (rest.length + 1) 1) := by simp [World.cell?, bT9]
        have t9' : (w9.alloc (.cells #[] 112)).cell? ⟨w.heap.size, 0, none⟩ = some (.slice (some ⟨kb, ko, none⟩) (rest.length + 1) 1) := cell_alloc t9
        have hbw9 : Below w.heap.size w (w9.alloc (.cells #[] 112)) := (HW.out.2.2.1.trans (hbW9.mono HW.out.2.2.1.size)).alloc (by have := hbW9.size; omega) _
        have hr9 : Reps (fun i => (F i ∧ i < w.heap.size) ∨ w.heap.size + 5 ≤ i) w9 (encWs (betweenEnv bs a n rest)) (oxs ++ ([.int .i64 (-1), str ns, .int .i64 nv, .slice na1 nn1 nc1, .slice na2 nn2 nc2, .slice ua a.args.length uc, .slice oa bs.length oc, .int .i64 0, .int .i64 0] ++ xs8)) := by
          have kw : ∀ (i : Nat) (o : Obj), F i → w.heap[i]? = some o → ((F i ∧ i < w.heap.size) ∨ w.heap.size + 5 ≤ i) ∧ w9.heap[i]? = some o := fun i o hi ho => ⟨.inl ⟨hi, lt_of_heap ho⟩, by rw [hbW9.block i (by have := lt_of_heap ho; omega), HW.out.2.2.1.block i (lt_of_heap ho)]; exact ho⟩
          have h29 : ∀ (i : Nat), i < w1.heap.size → w9.heap[i]? = w1.heap[i]? := fun i hi => by rw [hb79.block i (by have := H2.out.2.1; omega), H2.out.1.block i hi]
          have kf : ∀ (i : Nat), F i → (F i ∧ i < w.heap.size) ∨ w.heap.size + 5 ≤ i := fun i hi => by
            rcases Nat.lt_or_ge i w.heap.size with h | h
            · exact .inl ⟨hi, h⟩
            · exact .inr (by have := HFw.out i hi; omega)
          have hopens : Reps (fun i => (F i ∧ i < w.heap.size) ∨ w.heap.size + 5 ≤ i) w9 (encWs (opens 0 bs)) oxs := (Rep.keep fun i o hi ho => ⟨kf i hi, by rw [h29 i (lt_of_heap ho)]; exact ho⟩).2 _ _ H1.out.2.1
          unfold betweenEnv
          rw [encWs_append, encWs, encW]
          refine Reps.append hopens ?_
          refine Reps.append (vs := [.int .i64 (-1), str ns, .int .i64 nv, .slice na1 nn1 nc1, .slice na2 nn2 nc2, .slice ua a.args.length uc, .slice oa bs.length oc, .int .i64 0, .int .i64 0]) ?_ ?_
          · refine Reps.append (vs := [.int .i64 (-1)]) (Reps.one (Rep_val.2 rfl)) (Reps.append (ds := encN n) (vs := [str ns, .int .i64 nv, .slice na1 nn1 nc1, .slice na2 nn2 nc2]) ((Rep.keep kw).2 _ _ HP.out.rn) ?_)
            refine Reps_cons.2 ⟨_, _, rfl, (Rep.keep kw).1 _ _ HT.out.2.1, Reps_cons.2 ⟨_, _, rfl, ?_, Reps_cons.2 ⟨_, _, rfl, Rep_val.2 rfl, Reps_cons.2 ⟨_, _, rfl, Rep_any.2 ⟨_, rfl⟩, Reps_nil.2 rfl⟩⟩⟩⟩
            rw [opens_length]
            refine (H1.out.1.keep (w' := w9) fun g o hg hh => by rw [h29 g (lt_of_heap hh)]; exact hh).rep (fun g hg => .inr (by have := H1.out.2.2.2 g hg; omega)) hopens
          · refine (Rep.keep fun i o hi ho => ⟨kf i hi, ?_⟩).2 _ _ HA.out.2.2.1
            have hl := lt_of_heap ho
            rw [hb9.block i hl (fun e => ?_)]; exact ho
            have := H7.out.2.2 i e
            have h1 := HFw.out i hi
            have h2 := H2.out.1.size
            have h3 := H1.out.2.2.1.size
            omega
        have hlen9 : (betweenEnv bs a n rest).length = bs.length + 1 + rest.length := by unfold betweenEnv; simp [opens_length]; omega
        have hre9 : Rep (fun i => (F i ∧ i < w.heap.size) ∨ w.heap.size + 5 ≤ i) (w9.alloc (.cells #[] 112)) (.sl 60 9 (betweenEnv bs a n rest).length (encWs (betweenEnv bs a n rest))) (.slice a9 (bs.length + 1 + rest.length) c9) := by
          rw [hlen9]
          refine (Rep.keep fun i o hi ho => ⟨hi, heap_past ho⟩).1 _ _ (ho9.rep (fun g hg => .inr ?_) hr9)
          have := hg9' g hg
          have h2 := H2.out.1.size
          have h3 := H1.out.2.2.1.size
          omega
        have hrm9 : Reps (fun i => (F i ∧ i < w.heap.size) ∨ w.heap.size + 5 ≤ i) (w9.alloc (.cells #[] 112)) (encN m) [str ms, .int .i64 mv, .slice ma1 mn1 mc1, .slice ma2 mn2 mc2] :=
          (Rep.keep fun i o hi ho => ⟨.inl ⟨hi, lt_of_heap ho⟩, by rw [hbw9.block i (lt_of_heap ho)]; exact ho⟩).2 _ _ HP.out.rm
        have hatoms := HT.out.2.2.2.1
        have hr15 : ∀ x ∈ rest, atomsT x ≤ 15 := fun x hx => hatoms.1 x (by rw [HP.out.ts]; simp [hx])
        have ha15 : atomsT a ≤ 15 := hatoms.1 a (by rw [HP.out.ts]; simp)
        have hwE : Wri (w9.alloc (.cells #[] 112)) (w.heap.size + 4) ((200 : Nat) : Int) (20000 - ((20000 : Nat) : Int)) := heap_past bW9
        have C7 := write_any 20000 (fun i => (F i ∧ i < w.heap.size) ∨ w.heap.size + 5 ≤ i) (w.heap.size + 4) 200 20000 (bs.length + rest.length) (bs ++ rest) m (betweenEnv bs a n rest) [] ms mv ma1 ma2 mn1 mc1 mn2 mc2 (.slice a9 (bs.length + 1 + rest.length) c9) (.slice (some ⟨w9.heap.size, 0, none⟩) 0 0) (w9.alloc (.cells #[] 112))
          { wri := hwE, hF := fun i hi => (by
              rcases hi with h | h
              · have := h.2; omega
              · omega), ld := Nat.le_refl _, d20 := Nat.le_refl _, k200 := Nat.le_refl _, fit := HP.out.fit, hn := by simp, el := by rw [hlen9]; omega, nl := by omega, stl := by simp,
            ok := okMs_append _ _ (okMs_opens _ _ HP.out.b15 (by omega)) ⟨by rw [okM]; exact ⟨ha15, by rw [opens_length]; omega, okMs_opens _ _ HP.out.b15 (by omega)⟩, okMs_opens _ _ hr15 (by omega)⟩, okg := trivial,
            wf := ⟨HP.out.wm, wfMs_append _ _ (wfMs_opens _ _) ⟨⟨HP.out.wn, wfMs_opens _ _⟩, wfMs_opens _ _⟩, by simp⟩, rb := hrm9, re := hre9, rs := Rep_sl.2 ⟨by simp [encFs], _, _, rfl, Nat.le_refl _, fun h => by simp at h, .inl rfl⟩ }
        rw [show ((bs.length + rest.length : Nat) : Int) = (bs.length : Int) from by omega, show w.heap.size + 4 = w.heap.size + 1 + 1 + 1 + 1 from rfl] at C7
        have C7 := Lib.hid C7
        have hb9z := Lib.hid (show w8.heap.size ≤ w9.heap.size from hb9.size)
        have H9 := Lib.hid (And.intro hbw9 (And.intro bR9 hzW))
        clear hk9 bT9 bM9 bR9 bW9 hbw9 hr9 hlen9 hre9 hrm9 hatoms hr15 ha15 hwE hb79 hg9' hbW9 hzW ho9 hb9 hg9
        go_wp2_with fail
        (with_reducible refine C7.out.mono ?_)
        rintro en w11 ⟨s, v, b1, p1, d1, b2, p2, d2, rfl, hb11, hn11, hy11⟩
        obtain ⟨L, S, hWL, hL⟩ : ∃ L S : Int, Wri w11 (w.heap.size + 4) L S ∧ decide (0 ≤ L) = (writes m (betweenEnv bs a n rest) (bs.length + rest.length)).isSome := by
          unfold writes
          cases hq : evN 20000 200 20000 m (betweenEnv bs a n rest) (bs.length + rest.length) (List.map Fr.gf []) with
          | none =>
            obtain ⟨st, u1, _, _⟩ := hn11 hq
            exact ⟨-1, st, u1, by rw [show (List.map Fr.gf [] : List Gf) = [] from rfl] at hq; rw [hq]; rfl⟩
          | some x =>
            obtain ⟨u1, _⟩ := hy11 x hq
            exact ⟨_, _, u1, by rw [show (List.map Fr.gf [] : List Gf) = [] from rfl] at hq; rw [hq]; simp⟩
        have hR11 : NewN (w.heap.size + 3) 0 (.slice none 0 0) (.slice none 0 0) w11 := NewN.but (heap_past H9.out.2.1) hb11 (show ¬ (w.heap.size + 3 = w.heap.size + 1 + 1 + 1 + 1) by omega)
        have hbw11 : Below w.heap.size w w11 := H9.out.1.trans (hb11.toBelow H9.out.1.size fun i hi e => by have e : i = w.heap.size + 1 + 1 + 1 + 1 := e; omega)
        obtain ⟨W12, hW12⟩ : ∃ W, w11.alloc (.cells #[str s, .int .i64 v, .slice b1 p1 d1, .slice b2 p2 d2] 51) = W := ⟨_, rfl⟩
        have hb12 : Below w11.heap.size w11 W12 := by rw [← hW12]; exact (Below.refl _ _).alloc (Nat.le_refl _) _
        have ho12 : W12.heap[w11.heap.size]? = some (.cells #[str s, .int .i64 v, .slice b1 p1 d1, .slice b2 p2 d2] 51 (0, 0)) := by rw [← hW12]; exact heap_new _ _
        have hR12 : NewN (w.heap.size + 3) 0 (.slice none 0 0) (.slice none 0 0) W12 := hR11.below hb12 (lt_of_heap hR11)
        have hL12 : W12.cell? ⟨w.heap.size + 4, 0, none⟩ = some (.int .i64 L) := (hb12.cell (p := ⟨w.heap.size + 4, 0, none⟩) hWL.cell.2.2.2).trans hWL.cell.1
        obtain ⟨o0, o1, o2, o3⟩ := cells4 ho12
        obtain ⟨r0, r1, r2, r3, rlt, rf⟩ := hR12.cells
        have rf0 := rf 0; have rf1 := rf 1; have rf2 := rf 2; have rf3 := rf 3
        have hzw11 := hbw11.size
        have hne : w11.heap.size ≠ w.heap.size + 3 := by have := lt_of_heap hR11; omega
        have SZ : Hid (∀ w', But (fun i => i = w.heap.size + 3) W12 w' → w'.cell? ⟨w11.heap.size, 0, none⟩ = some (str s) ∧ w'.cell? ⟨w11.heap.size, 1, none⟩ = some (.int .i64 v) ∧ w'.cell? ⟨w11.heap.size, 2, none⟩ = some (.slice b1 p1 d1) ∧ w'.cell? ⟨w11.heap.size, 3, none⟩ = some (.slice b2 p2 d2) ∧ w'.cell? ⟨w.heap.size + 4, 0, none⟩ = some (.int .i64 L)) := by
          show ∀ w', _ → _
          intro w' hb'
          have k : ∀ {p : Addr} {u : Value}, p.block ≠ w.heap.size + 3 → W12.cell? p = some u → w'.cell? p = some u := fun hn hu => (hb'.cell (World.block_lt_of_cell? _ _ hu) hn).trans hu
          exact ⟨k hne o0, k hne o1, k hne o2, k hne o3, k (by show w.heap.size + 4 ≠ w.heap.size + 3; omega) hL12⟩
        obtain ⟨W13, hW13, s0', s1', s2', s3', hkb, hkk⟩ := hR12.store (str s) (.int .i64 v) (.slice b1 p1 d1) (.slice b2 p2 d2)
        have hfin : SAppPost F (writes m (betweenEnv bs a n rest) (bs.length + rest.length)) w (.returned (.tuple #[.agg #[str s, .int .i64 v, .slice b1 p1 d1, .slice b2 p2 d2], .bool (decide (0 ≤ L))])) W13 := by
          refine ⟨s, v, b1, p1, d1, b2, p2, d2, by rw [hL], hkb _ _ (hbw11.trans (hb12.mono hbw11.size)) (by omega), fun x hx => ?_⟩
          unfold writes at hx
          rw [Option.map_eq_some_iff] at hx
          obtain ⟨y, hy, rfl⟩ := hx
          obtain ⟨_, u2⟩ := hy11 y hy
          refine (Rep.keep fun i o hi ho => ?_).2 _ _ u2
          have hl := lt_of_heap ho
          have h9 : w.heap.size + 5 ≤ (w9.alloc (.cells #[] 112)).heap.size := by
            have := lt_of_heap (H9.out.2.1)
            have h5 := H9.out.2.2
            have := HA.out.2.2.2.size; have := H7.out.2.1.size; have := H2.out.1.size; have := H1.out.2.2.1.size; have := hb9z.out
            rw [size_alloc]; omega
          have hc : (F i ∨ w.heap.size ≤ i) ∧ i ≠ w.heap.size + 3 := by
            rcases hi with (h | h) | h
            · exact ⟨.inl h.1, by have := h.2; omega⟩
            · exact ⟨.inr (by omega), by omega⟩
            · exact ⟨.inr (by omega), by omega⟩
          exact ⟨hc.1, hkk i _ hc.2 (by rw [hb12.block i hl]; exact ho)⟩
        have HF := Lib.hid (And.intro hW12 (And.intro hW13 (And.intro hfin hkb)))
        clear hW12 hb12 ho12 hR12 hL12 rf hW13 hfin hkb hkk hL hWL hR11 hbw11 hb11 hn11 hy11
        go_wp2_with fail
        rw [HF.out.1]
        refine wp_region_noPanic ?_
        refine wp_region_S (fun w' => But (fun i => i = w.heap.size + 3) W12 w') (fun _ => false) (by kernel_rfl) ?_
        have hSd : But (fun i => i = w.heap.size + 3) W12 W12.drew := (But.refl _ W12).drew
        refine wpAnyS_take 0 (v := ?_) (by kernel_rfl) (by kernel_rfl) (by kernel_rfl) (by kernel_rfl) (fun _ _ _ _ h => h) hSd ?_ ?_
        rotate_left
        · (intro oi ho; simp at ho; subst ho; refine Or.inl ⟨by rfl, fun w' hw' => ?_⟩; obtain ⟨e0, e1, e2, e3, e4⟩ := SZ.out w' hw'; go_simp; try with_reducible rfl)
        (intro d hd; simp at hd; subst hd; simp only [Act.put, List.setIfInBounds_toArray, List.set_cons_zero, List.set_cons_succ])
        refine wpAnyS_take 1 (v := ?_) (by kernel_rfl) (by kernel_rfl) (by kernel_rfl) (by kernel_rfl) (fun _ _ _ _ h => h) hSd ?_ ?_
        rotate_left
        · (intro oi ho; simp at ho; subst ho; refine Or.inl ⟨by rfl, fun w' hw' => ?_⟩; go_simp; try with_reducible rfl)
        (intro d hd; simp at hd; subst hd; simp only [Act.put, List.setIfInBounds_toArray, List.set_cons_zero, List.set_cons_succ])
        refine wpAnyS_take 2 (v := ?_) (by kernel_rfl) (by kernel_rfl) (by kernel_rfl) (by kernel_rfl) (fun _ _ _ _ h => h) hSd ?_ ?_
        rotate_left
        · (intro oi ho; simp at ho; subst ho; refine Or.inl ⟨by rfl, fun w' hw' => ?_⟩; go_simp; try with_reducible rfl)
        (intro d hd; simp at hd; subst hd; simp only [Act.put, List.setIfInBounds_toArray, List.set_cons_zero, List.set_cons_succ])
        refine wpAnyS_take 3 (v := ?_) (by kernel_rfl) (by kernel_rfl) (by kernel_rfl) (by kernel_rfl) (fun _ _ _ _ h => h) hSd ?_ ?_
        rotate_left
        · (intro oi ho; simp at ho; subst ho; refine Or.inl ⟨by rfl, fun w' hw' => ?_⟩; go_simp; try with_reducible rfl)
        (intro d hd; simp at hd; subst hd; simp only [Act.put, List.setIfInBounds_toArray, List.set_cons_zero, List.set_cons_succ])
        refine wpAnyS_take 4 (v := ?_) (by kernel_rfl) (by kernel_rfl) (by kernel_rfl) (by kernel_rfl) (fun _ _ _ _ h => h) hSd ?_ ?_
        rotate_left
        · (intro oi ho; simp at ho; subst ho; refine Or.inl ⟨by rfl, fun w' hw' => ?_⟩; obtain ⟨e0, e1, e2, e3, e4⟩ := SZ.out w' hw'; go_simp; try with_reducible rfl)
        (intro d hd; simp at hd; subst hd; simp only [Act.put, List.setIfInBounds_toArray, List.set_cons_zero, List.set_cons_succ])
        refine wpAnyS_take 5 (v := ?_) (by kernel_rfl) (by kernel_rfl) (by kernel_rfl) (by kernel_rfl) (fun _ _ _ _ h => h) hSd ?_ ?_
        rotate_left
        · (intro oi ho; simp at ho; subst ho; refine Or.inl ⟨by rfl, fun w' hw' => ?_⟩; go_simp; try with_reducible rfl)
        (intro d hd; simp at hd; subst hd; simp only [Act.put, List.setIfInBounds_toArray, List.set_cons_zero, List.set_cons_succ])
        refine wpAnyS_one 6 (by kernel_rfl) ?_
        (intro o6 ho K' hK; simp at ho; subst ho)
        go_simp
        refine hK.out _ _ (fun _ => ?_) ?_
        · exact (((hSd.setCell (p := ⟨w.heap.size + 3, 0, none⟩) (.inl rfl) _).setCell (p := ⟨w.heap.size + 3, 1, none⟩) (.inl rfl) _).setCell (p := ⟨w.heap.size + 3, 2, none⟩) (.inl rfl) _).setCell (p := ⟨w.heap.size + 3, 3, none⟩) (.inl rfl) _
        clear hK K'
        (try simp only [Act.put, List.setIfInBounds_toArray, List.set_cons_zero, List.set_cons_succ])
        refine wpAnyS_one 7 (by kernel_rfl) ?_
        (intro o7 ho K' hK; simp at ho; subst ho)
        go_simp
        refine hK.out _ _ (fun _ => ?_) ?_
        · exact (((hSd.setCell (p := ⟨w.heap.size + 3, 0, none⟩) (.inl rfl) _).setCell (p := ⟨w.heap.size + 3, 1, none⟩) (.inl rfl) _).setCell (p := ⟨w.heap.size + 3, 2, none⟩) (.inl rfl) _).setCell (p := ⟨w.heap.size + 3, 3, none⟩) (.inl rfl) _
        clear hK K'
        (try simp only [Act.put, List.setIfInBounds_toArray, List.set_cons_zero, List.set_cons_succ])
        refine wpAnyS_done (by kernel_rfl) (NoPanic.normal ?_) _
        go_wp2_with fail
        obtain ⟨-, hW13, hfin, -⟩ := HF.out
        rw [← hW13]
        refine bodyPost_ret (v := .tuple #[.agg #[str s, .int .i64 v, .slice b1 p1 d1, .slice b2 p2 d2], .bool (decide (0 ≤ L))]) (by simp [results, Tryz.results61, go_sem, s0', s1', s2', s3']) rfl ?_
        exact hfin.drew
      · have hT7 := hT2 htc1
        have htc2 : rest.length + 1 ≤ tc := by have := HT.out.2.2.1; simpa using this
        clear hT1 hT2
        have C6 := Lib.hid (l4Opens_any F bs.length rest _ w7 hT7 (by omega) (by omega)); clear hT7
        go_wp2_with fail
        (with_reducible refine C6.out.mono ?_)
        rintro en w8 ⟨a8, c8, xs8, rfl, ho8, hr8, hb8, hf8⟩
        have ho78 := H7.out.1.keep (w' := w8) fun g o hg hh => by rw [hb8.block g (lt_of_heap hh)]; exact hh
        have hsrc8 := ho8.src (oneCell_encWs _ _ hr8)
        have HA := Lib.hid (And.intro ho78 (And.intro hsrc8 (And.intro hr8 hb8))); clear ho78 hsrc8 ho8 hr8 hb8 hf8
        go_wp2_with (at_builtin; refine wpList_append_gen rfl _ _ 58 rfl 60 (.agg #[.int .i64 0, str [], .int .i64 0, .slice none 0 0, .slice none 0 0, .slice none 0 0, .slice none 0 0, .int .i64 0, .int .i64 0]) 9 144 Tryz.underlying58 Tryz.infoBo rfl (by decide) (.slice a7 (bs.length + 1) c7) (bs.length + 1) _ rfl HA.out.1 _ rest.length xs8 rfl HA.out.2.1 (by unfold maxLen; omega) (by omega) ?_)
        intro a9 c9 w9 ho9 hb9 hg9
        have hb79 : Below W2.heap.size W2 w9 := (H7.out.2.1.trans (HA.out.2.2.2.mono H7.out.2.1.size)).trans (hb9.toBelow (by have := H7.out.2.1.size; have := HA.out.2.2.2.size; omega) fun i hi e => by have := H7.out.2.2 i e; omega)
        have hg9' : ∀ g, (Value.slice a9 (bs.length + 1 + rest.length) c9).ownBlock = some g → W2.heap.size ≤ g := fun g hg => by
          rcases hg9 g hg with h | h
          · exact H7.out.2.2 g h
          · have := H7.out.2.1.size; have := HA.out.2.2.2.size; omega
        have hbW9 : Below W.heap.size W w9 := H1.out.2.2.1.trans ((H2.out.1.trans (hb79.mono (by have := H2.out.2.1; omega))).mono H1.out.2.2.1.size)
        have hzW := HW.out.2.1
        have hk9 : ∀ {i : Nat} {o : Obj}, i < W.heap.size → W.heap[i]? = some o → w9.heap[i]? = some o := fun hi h => (hbW9.block _ hi).trans h
        have bT9 := hk9 (by omega) HW.out.2.2.2.1
        have bM9 := hk9 (by omega) HW.out.2.2.2.2.1
        have bR9 : NewN (w.heap.size + 3) 0 (.slice none 0 0) (.slice none 0 0) w9 := hk9 (by omega) HW.out.2.2.2.2.2.2.1
        have bW9 : Wri w9 (w.heap.size + 4) 200 0 := hk9 (by omega) HW.out.2.2.2.2.2.2.2
        obtain ⟨m0, m1, m2, m3⟩ := cells4 bM9
        have t9 : w9.cell? ⟨w.heap.size, 0, none⟩ = some (.slice (some ⟨kb, ko, none⟩) (rest.length + 1) tc) := by simp [World.cell?, bT9]
        have t9' : (w9.alloc (.cells #[] 112)).cell? ⟨w.heap.size, 0, none⟩ = some (.slice (some ⟨kb, ko, none⟩) (rest.length + 1) tc) := cell_alloc t9
        have hbw9 : Below w.heap.size w (w9.alloc (.cells #[] 112)) := (HW.out.2.2.1.trans (hbW9.mono HW.out.2.2.1.size)).alloc (by have := hbW9.size; omega) _
        have hr9 : Reps (fun i => (F i ∧ i < w.heap.size) ∨ w.heap.size + 5 ≤ i) w9 (encWs (betweenEnv bs a n rest)) (oxs ++ ([.int .i64 (-1), str ns, .int .i64 nv, .slice na1 nn1 nc1, .slice na2 nn2 nc2, .slice ua a.args.length uc, .slice oa bs.length oc, .int .i64 0, .int .i64 0] ++ xs8)) := by
          have kw : ∀ (i : Nat) (o : Obj), F i → w.heap[i]? = some o → ((F i ∧ i < w.heap.size) ∨ w.heap.size + 5 ≤ i) ∧ w9.heap[i]? = some o := fun i o hi ho => ⟨.inl ⟨hi, lt_of_heap ho⟩, by rw [hbW9.block i (by have := lt_of_heap ho; omega), HW.out.2.2.1.block i (lt_of_heap ho)]; exact ho⟩
          have h29 : ∀ (i : Nat), i < w1.heap.size → w9.heap[i]? = w1.heap[i]? := fun i hi => by rw [hb79.block i (by have := H2.out.2.1; omega), H2.out.1.block i hi]
          have kf : ∀ (i : Nat), F i → (F i ∧ i < w.heap.size) ∨ w.heap.size + 5 ≤ i := fun i hi => by
            rcases Nat.lt_or_ge i w.heap.size with h | h
            · exact .inl ⟨hi, h⟩
            · exact .inr (by have := HFw.out i hi; omega)
          have hopens : Reps (fun i => (F i ∧ i < w.heap.size) ∨ w.heap.size + 5 ≤ i) w9 (encWs (opens 0 bs)) oxs := (Rep.keep fun i o hi ho => ⟨kf i hi, by rw [h29 i (lt_of_heap ho)]; exact ho⟩).2 _ _ H1.out.2.1
          unfold betweenEnv
          rw [encWs_append, encWs, encW]
          refine Reps.append hopens ?_
          refine Reps.append (vs := [.int .i64 (-1), str ns, .int .i64 nv, .slice na1 nn1 nc1, .slice na2 nn2 nc2, .slice ua a.args.length uc, .slice oa bs.length oc, .int .i64 0, .int .i64 0]) ?_ ?_
          · refine Reps.append (vs := [.int .i64 (-1)]) (Reps.one (Rep_val.2 rfl)) (Reps.append (ds := encN n) (vs := [str ns, .int .i64 nv, .slice na1 nn1 nc1, .slice na2 nn2 nc2]) ((Rep.keep kw).2 _ _ HP.out.rn) ?_)
            refine Reps_cons.2 ⟨_, _, rfl, (Rep.keep kw).1 _ _ HT.out.2.1, Reps_cons.2 ⟨_, _, rfl, ?_, Reps_cons.2 ⟨_, _, rfl, Rep_val.2 rfl, Reps_cons.2 ⟨_, _, rfl, Rep_any.2 ⟨_, rfl⟩, Reps_nil.2 rfl⟩⟩⟩⟩
            rw [opens_length]
            refine (H1.out.1.keep (w' := w9) fun g o hg hh => by rw [h29 g (lt_of_heap hh)]; exact hh).rep (fun g hg => .inr (by have := H1.out.2.2.2 g hg; omega)) hopens
          · refine (Rep.keep fun i o hi ho => ⟨kf i hi, ?_⟩).2 _ _ HA.out.2.2.1
            have hl := lt_of_heap ho
            rw [hb9.block i hl (fun e => ?_)]; exact ho
            have := H7.out.2.2 i e
            have h1 := HFw.out i hi
            have h2 := H2.out.1.size
            have h3 := H1.out.2.2.1.size
            omega
        have hlen9 : (betweenEnv bs a n rest).length = bs.length + 1 + rest.length := by unfold betweenEnv; simp [opens_length]; omega
        have hre9 : Rep (fun i => (F i ∧ i < w.heap.size) ∨ w.heap.size + 5 ≤ i) (w9.alloc (.cells #[] 112)) (.sl 60 9 (betweenEnv bs a n rest).length (encWs (betweenEnv bs a n rest))) (.slice a9 (bs.length + 1 + rest.length) c9) := by
          rw [hlen9]
          refine (Rep.keep fun i o hi ho => ⟨hi, heap_past ho⟩).1 _ _ (ho9.rep (fun g hg => .inr ?_) hr9)
          have := hg9' g hg
          have h2 := H2.out.1.size
          have h3 := H1.out.2.2.1.size
          omega
        have hrm9 : Reps (fun i => (F i ∧ i < w.heap.size) ∨ w.heap.size + 5 ≤ i) (w9.alloc (.cells #[] 112)) (encN m) [str ms, .int .i64 mv, .slice ma1 mn1 mc1, .slice ma2 mn2 mc2] :=
          (Rep.keep fun i o hi ho => ⟨.inl ⟨hi, lt_of_heap ho⟩, by rw [hbw9.block i (lt_of_heap ho)]; exact ho⟩).2 _ _ HP.out.rm
        have hatoms := HT.out.2.2.2.1
        have hr15 : ∀ x ∈ rest, atomsT x ≤ 15 := fun x hx => hatoms.1 x (by rw [HP.out.ts]; simp [hx])
        have ha15 : atomsT a ≤ 15 := hatoms.1 a (by rw [HP.out.ts]; simp)
        have hwE : Wri (w9.alloc (.cells #[] 112)) (w.heap.size + 4) ((200 : Nat) : Int) (20000 - ((20000 : Nat) : Int)) := heap_past bW9
        have C7 := write_any 20000 (fun i => (F i ∧ i < w.heap.size) ∨ w.heap.size + 5 ≤ i) (w.heap.size + 4) 200 20000 (bs.length + rest.length) (bs ++ rest) m (betweenEnv bs a n rest) [] ms mv ma1 ma2 mn1 mc1 mn2 mc2 (.slice a9 (bs.length + 1 + rest.length) c9) (.slice (some ⟨w9.heap.size, 0, none⟩) 0 0) (w9.alloc (.cells #[] 112))
          { wri := hwE, hF := fun i hi => (by
              rcases hi with h | h
              · have := h.2; omega
              · omega), ld := Nat.le_refl _, d20 := Nat.le_refl _, k200 := Nat.le_refl _, fit := HP.out.fit, hn := by simp, el := by rw [hlen9]; omega, nl := by omega, stl := by simp,
            ok := okMs_append _ _ (okMs_opens _ _ HP.out.b15 (by omega)) ⟨by rw [okM]; exact ⟨ha15, by rw [opens_length]; omega, okMs_opens _ _ HP.out.b15 (by omega)⟩, okMs_opens _ _ hr15 (by omega)⟩, okg := trivial,
            wf := ⟨HP.out.wm, wfMs_append _ _ (wfMs_opens _ _) ⟨⟨HP.out.wn, wfMs_opens _ _⟩, wfMs_opens _ _⟩, by simp⟩, rb := hrm9, re := hre9, rs := Rep_sl.2 ⟨by simp [encFs], _, _, rfl, Nat.le_refl _, fun h => by simp at h, .inl rfl⟩ }
        rw [show ((bs.length + rest.length : Nat) : Int) = (bs.length : Int) + ((rest.length : Int) + 1) - 1 from by omega, show w.heap.size + 4 = w.heap.size + 1 + 1 + 1 + 1 from rfl] at C7
        have C7 := Lib.hid C7
        have hb9z := Lib.hid (show w8.heap.size ≤ w9.heap.size from hb9.size)
        have H9 := Lib.hid (And.intro hbw9 (And.intro bR9 hzW))
        clear hk9 bT9 bM9 bR9 bW9 hbw9 hr9 hlen9 hre9 hrm9 hatoms hr15 ha15 hwE hb79 hg9' hbW9 hzW ho9 hb9 hg9
        go_wp2_with fail
        (with_reducible refine C7.out.mono ?_)
        rintro en w11 ⟨s, v, b1, p1, d1, b2, p2, d2, rfl, hb11, hn11, hy11⟩
        obtain ⟨L, S, hWL, hL⟩ : ∃ L S : Int, Wri w11 (w.heap.size + 4) L S ∧ decide (0 ≤ L) = (writes m (betweenEnv bs a n rest) (bs.length + rest.length)).isSome := by
          unfold writes
          cases hq : evN 20000 200 20000 m (betweenEnv bs a n rest) (bs.length + rest.length) (List.map Fr.gf []) with
          | none =>
            obtain ⟨st, u1, _, _⟩ := hn11 hq
            exact ⟨-1, st, u1, by rw [show (List.map Fr.gf [] : List Gf) = [] from rfl] at hq; rw [hq]; rfl⟩
          | some x =>
            obtain ⟨u1, _⟩ := hy11 x hq
            exact ⟨_, _, u1, by rw [show (List.map Fr.gf [] : List Gf) = [] from rfl] at hq; rw [hq]; simp⟩
        have hR11 : NewN (w.heap.size + 3) 0 (.slice none 0 0) (.slice none 0 0) w11 := NewN.but (heap_past H9.out.2.1) hb11 (show ¬ (w.heap.size + 3 = w.heap.size + 1 + 1 + 1 + 1) by omega)
        have hbw11 : Below w.heap.size w w11 := H9.out.1.trans (hb11.toBelow H9.out.1.size fun i hi e => by have e : i = w.heap.size + 1 + 1 + 1 + 1 := e; omega)
        obtain ⟨W12, hW12⟩ : ∃ W, w11.alloc (.cells #[str s, .int .i64 v, .slice b1 p1 d1, .slice b2 p2 d2] 51) = W := ⟨_, rfl⟩
        have hb12 : Below w11.heap.size w11 W12 := by rw [← hW12]; exact (Below.refl _ _).alloc (Nat.le_refl _) _
        have ho12 : W12.heap[w11.heap.size]? = some (.cells #[str s, .int .i64 v, .slice b1 p1 d1, .slice b2 p2 d2] 51 (0, 0)) := by rw [← hW12]; exact heap_new _ _
        have hR12 : NewN (w.heap.size + 3) 0 (.slice none 0 0) (.slice none 0 0) W12 := hR11.below hb12 (lt_of_heap hR11)
        have hL12 : W12.cell? ⟨w.heap.size + 4, 0, none⟩ = some (.int .i64 L) := (hb12.cell (p := ⟨w.heap.size + 4, 0, none⟩) hWL.cell.2.2.2).trans hWL.cell.1
        obtain ⟨o0, o1, o2, o3⟩ := cells4 ho12
        obtain ⟨r0, r1, r2, r3, rlt, rf⟩ := hR12.cells
        have rf0 := rf 0; have rf1 := rf 1; have rf2 := rf 2; have rf3 := rf 3
        have hzw11 := hbw11.size
        have hne : w11.heap.size ≠ w.heap.size + 3 := by have := lt_of_heap hR11; omega
        have SZ : Hid (∀ w', But (fun i => i = w.heap.size + 3) W12 w' → w'.cell? ⟨w11.heap.size, 0, none⟩ = some (str s) ∧ w'.cell? ⟨w11.heap.size, 1, none⟩ = some (.int .i64 v) ∧ w'.cell? ⟨w11.heap.size, 2, none⟩ = some (.slice b1 p1 d1) ∧ w'.cell? ⟨w11.heap.size, 3, none⟩ = some (.slice b2 p2 d2) ∧ w'.cell? ⟨w.heap.size + 4, 0, none⟩ = some (.int .i64 L)) := by
          show ∀ w', _ → _
          intro w' hb'
          have k : ∀ {p : Addr} {u : Value}, p.block ≠ w.heap.size + 3 → W12.cell? p = some u → w'.cell? p = some u := fun hn hu => (hb'.cell (World.block_lt_of_cell? _ _ hu) hn).trans hu
          exact ⟨k hne o0, k hne o1, k hne o2, k hne o3, k (by show w.heap.size + 4 ≠ w.heap.size + 3; omega) hL12⟩
        obtain ⟨W13, hW13, s0', s1', s2', s3', hkb, hkk⟩ := hR12.store (str s) (.int .i64 v) (.slice b1 p1 d1) (.slice b2 p2 d2)
        have hfin : SAppPost F (writes m (betweenEnv bs a n rest) (bs.length + rest.length)) w (.returned (.tuple #[.agg #[str s, .int .i64 v, .slice b1 p1 d1, .slice b2 p2 d2], .bool (decide (0 ≤ L))])) W13 := by
          refine ⟨s, v, b1, p1, d1, b2, p2, d2, by rw [hL], hkb _ _ (hbw11.trans (hb12.mono hbw11.size)) (by omega), fun x hx => ?_⟩
          unfold writes at hx
          rw [Option.map_eq_some_iff] at hx
          obtain ⟨y, hy, rfl⟩ := hx
          obtain ⟨_, u2⟩ := hy11 y hy
          refine (Rep.keep fun i o hi ho => ?_).2 _ _ u2
          have hl := lt_of_heap ho
          have h9 : w.heap.size + 5 ≤ (w9.alloc (.cells #[] 112)).heap.size := by
            have := lt_of_heap (H9.out.2.1)
            have h5 := H9.out.2.2
            have := HA.out.2.2.2.size; have := H7.out.2.1.size; have := H2.out.1.size; have := H1.out.2.2.1.size; have := hb9z.out
            rw [size_alloc]; omega
          have hc : (F i ∨ w.heap.size ≤ i) ∧ i ≠ w.heap.size + 3 := by
            rcases hi with (h | h) | h
            · exact ⟨.inl h.1, by have := h.2; omega⟩
            · exact ⟨.inr (by omega), by omega⟩
            · exact ⟨.inr (by omega), by omega⟩
          exact ⟨hc.1, hkk i _ hc.2 (by rw [hb12.block i hl]; exact ho)⟩
        have HF := Lib.hid (And.intro hW12 (And.intro hW13 (And.intro hfin hkb)))
        clear hW12 hb12 ho12 hR12 hL12 rf hW13 hfin hkb hkk hL hWL hR11 hbw11 hb11 hn11 hy11
        go_wp2_with fail
        rw [HF.out.1]
        refine wp_region_noPanic ?_
        refine wp_region_S (fun w' => But (fun i => i = w.heap.size + 3) W12 w') (fun _ => false) (by kernel_rfl) ?_
        have hSd : But (fun i => i = w.heap.size + 3) W12 W12.drew := (But.refl _ W12).drew
        refine wpAnyS_take 0 (v := ?_) (by kernel_rfl) (by kernel_rfl) (by kernel_rfl) (by kernel_rfl) (fun _ _ _ _ h => h) hSd ?_ ?_
        rotate_left
        · (intro oi ho; simp at ho; subst ho; refine Or.inl ⟨by rfl, fun w' hw' => ?_⟩; obtain ⟨e0, e1, e2, e3, e4⟩ := SZ.out w' hw'; go_simp; try with_reducible rfl)
        (intro d hd; simp at hd; subst hd; simp only [Act.put, List.setIfInBounds_toArray, List.set_cons_zero, List.set_cons_succ])
        refine wpAnyS_take 1 (v := ?_) (by kernel_rfl) (by kernel_rfl) (by kernel_rfl) (by kernel_rfl) (fun _ _ _ _ h => h) hSd ?_ ?_
        rotate_left
        · (intro oi ho; simp at ho; subst ho; refine Or.inl ⟨by rfl, fun w' hw' => ?_⟩; go_simp; try with_reducible rfl)
        (intro d hd; simp at hd; subst hd; simp only [Act.put, List.setIfInBounds_toArray, List.set_cons_zero, List.set_cons_succ])
        refine wpAnyS_take 2 (v := ?_) (by kernel_rfl) (by kernel_rfl) (by kernel_rfl) (by kernel_rfl) (fun _ _ _ _ h => h) hSd ?_ ?_
        rotate_left
        · (intro oi ho; simp at ho; subst ho; refine Or.inl ⟨by rfl, fun w' hw' => ?_⟩; go_simp; try with_reducible rfl)
        (intro d hd; simp at hd; subst hd; simp only [Act.put, List.setIfInBounds_toArray, List.set_cons_zero, List.set_cons_succ])
        refine wpAnyS_take 3 (v := ?_) (by kernel_rfl) (by kernel_rfl) (by kernel_rfl) (by kernel_rfl) (fun _ _ _ _ h => h) hSd ?_ ?_
        rotate_left
        · (intro oi ho; simp at ho; subst ho; refine Or.inl ⟨by rfl, fun w' hw' => ?_⟩; go_simp; try with_reducible rfl)
        (intro d hd; simp at hd; subst hd; simp only [Act.put, List.setIfInBounds_toArray, List.set_cons_zero, List.set_cons_succ])
        refine wpAnyS_take 4 (v := ?_) (by kernel_rfl) (by kernel_rfl) (by kernel_rfl) (by kernel_rfl) (fun _ _ _ _ h => h) hSd ?_ ?_
        rotate_left
        · (intro oi ho; simp at ho; subst ho; refine Or.inl ⟨by rfl, fun w' hw' => ?_⟩; obtain ⟨e0, e1, e2, e3, e4⟩ := SZ.out w' hw'; go_simp; try with_reducible rfl)
        (intro d hd; simp at hd; subst hd; simp only [Act.put, List.setIfInBounds_toArray, List.set_cons_zero, List.set_cons_succ])
        refine wpAnyS_take 5 (v := ?_) (by kernel_rfl) (by kernel_rfl) (by kernel_rfl) (by kernel_rfl) (fun _ _ _ _ h => h) hSd ?_ ?_
        rotate_left
        · (intro oi ho; simp at ho; subst ho; refine Or.inl ⟨by rfl, fun w' hw' => ?_⟩; go_simp; try with_reducible rfl)
        (intro d hd; simp at hd; subst hd; simp only [Act.put, List.setIfInBounds_toArray, List.set_cons_zero, List.set_cons_succ])
        refine wpAnyS_one 6 (by kernel_rfl) ?_
        (intro o6 ho K' hK; simp at ho; subst ho)
        go_simp
        refine hK.out _ _ (fun _ => ?_) ?_
        · exact (((hSd.setCell (p := ⟨w.heap.size + 3, 0, none⟩) (.inl rfl) _).setCell (p := ⟨w.heap.size + 3, 1, none⟩) (.inl rfl) _).setCell (p := ⟨w.heap.size + 3, 2, none⟩) (.inl rfl) _).setCell (p := ⟨w.heap.size + 3, 3, none⟩) (.inl rfl) _
        clear hK K'
        (try simp only [Act.put, List.setIfInBounds_toArray, List.set_cons_zero, List.set_cons_succ])
        refine wpAnyS_one 7 (by kernel_rfl) ?_
        (intro o7 ho K' hK; simp at ho; subst ho)
        go_simp
        refine hK.out _ _ (fun _ => ?_) ?_
        · exact (((hSd.setCell (p := ⟨w.heap.size + 3, 0, none⟩) (.inl rfl) _).setCell (p := ⟨w.heap.size + 3, 1, none⟩) (.inl rfl) _).setCell (p := ⟨w.heap.size + 3, 2, none⟩) (.inl rfl) _).setCell (p := ⟨w.heap.size + 3, 3, none⟩) (.inl rfl) _
        clear hK K'
        (try simp only [Act.put, List.setIfInBounds_toArray, List.set_cons_zero, List.set_cons_succ])
        refine wpAnyS_done (by kernel_rfl) (NoPanic.normal ?_) _
        go_wp2_with fail
        obtain ⟨-, hW13, hfin, -⟩ := HF.out
        rw [← hW13]
        refine bodyPost_ret (v := .tuple #[.agg #[str s, .int .i64 v, .slice b1 p1 d1, .slice b2 p2 d2], .bool (decide (0 ≤ L))]) (by simp [results, Tryz.results61, go_sem, s0', s1', s2', s3']) rfl ?_
        exact hfin.drew
    · (intro o4 ho K' hK; simp at ho; subst ho)
      go_simp
      refine hK.out _ _ (fun _ => ?_) ?_
      · exact ((hSd.alloc (Nat.le_refl _) (.cells #[] 60)).alloc (by rw [size_alloc]; exact Nat.le_succ _) (.cells #[.int .i64 (-1), str ns, .int .i64 nv, .slice na1 nn1 nc1, .slice na2 nn2 nc2, .slice ua a.args.length uc, .slice oa bs.length oc, .int .i64 0, .int .i64 0] 60))
      clear hK K'
      (try simp only [Act.put, List.setIfInBounds_toArray, List.set_cons_zero, List.set_cons_succ])
      refine wpAnyS_one 2 (by kernel_rfl) ?_
      (intro o2 ho K' hK; simp at ho; subst ho)
      refine step_append_gen (by rfl) _ _ _ (by rfl) 60 (.agg #[.int .i64 0, str [], .int .i64 0, .slice none 0 0, .slice none 0 0, .slice none 0 0, .slice none 0 0, .int .i64 0, .int .i64 0]) 9 144 Tryz.underlying58 Tryz.infoBo rfl (by decide) (.slice (some ⟨W2.heap.size, 0, none⟩) 0 0) 0 [] (by rfl) ((Own.litAt #[] 0 _ rfl (by decide) rfl).alloc _) _ bs.length oxs (by rfl) (SRC.out _ ((hSd.alloc (Nat.le_refl _) (.cells #[] 60)).alloc (by rw [size_alloc]; exact Nat.le_succ _) (.cells #[.int .i64 (-1), str ns, .int .i64 nv, .slice na1 nn1 nc1, .slice na2 nn2 nc2, .slice ua a.args.length uc, .slice oa bs.length oc, .int .i64 0, .int .i64 0] 60))) (by unfold maxLen; omega) (by omega) ?_
      intro a5 c5 w5 ho5 hb5 hg5
      simp only [Nat.zero_add, List.nil_append] at ho5 hg5 ⊢
      have hB5 : Below W2.heap.size W2 w5 := ((hSd.alloc (Nat.le_refl _) (.cells #[] 60)).alloc (by rw [size_alloc]; exact Nat.le_succ _) (.cells #[.int .i64 (-1), str ns, .int .i64 nv, .slice na1 nn1 nc1, .slice na2 nn2 nc2, .slice ua a.args.length uc, .slice oa bs.length oc, .int .i64 0, .int .i64 0] 60)).trans (hb5.toBelow (((hSd.alloc (Nat.le_refl _) (.cells #[] 60)).alloc (by rw [size_alloc]; exact Nat.le_succ _) (.cells #[.int .i64 (-1), str ns, .int .i64 nv, .slice na1 nn1 nc1, .slice na2 nn2 nc2, .slice ua a.args.length uc, .slice oa bs.length oc, .int .i64 0, .int .i64 0] 60))).size fun i hi e => by simp [Value.ownBlock] at e; omega)
      have HG5 : Hid (∀ g, (Value.slice a5 (bs.length) c5).ownBlock = some g → W2.heap.size ≤ g) := fun g hg => by rcases hg5 g hg with h | h; simp [Value.ownBlock] at h; omega; have h : g = W2.heap.size + 1 + 1 := h.trans (size_alloc2 W2 _ _); omega
      have hS5 : SrcSl 9 (.slice (some ⟨W2.heap.size + 1, 0, none⟩) 1 1) 1 #[.int .i64 (-1), str ns, .int .i64 nv, .slice na1 nn1 nc1, .slice na2 nn2 nc2, .slice ua a.args.length uc, .slice oa bs.length oc, .int .i64 0, .int .i64 0].toList w5 := (SrcSl.lit1 #[.int .i64 (-1), str ns, .int .i64 nv, .slice na1 nn1 nc1, .slice na2 nn2 nc2, .slice ua a.args.length uc, .slice oa bs.length oc, .int .i64 0, .int .i64 0] rfl (by simp [str, Value.oneCell']) _ (by simp) : SrcSl 9 (.slice (some ⟨W2.heap.size + 1, 0, none⟩) 1 1) 1 #[.int .i64 (-1), str ns, .int .i64 nv, .slice na1 nn1 nc1, .slice na2 nn2 nc2, .slice ua a.args.length uc, .slice oa bs.length oc, .int .i64 0, .int .i64 0].toList ((W2.drew.alloc (.cells #[] 60)).alloc (.cells #[.int .i64 (-1), str ns, .int .i64 nv, .slice na1 nn1 nc1, .slice na2 nn2 nc2, .slice ua a.args.length uc, .slice oa bs.length oc, .int .i64 0, .int .i64 0] 60))).thru hb5 (fun e => by simp [Value.ownBlock] at e)
      refine hK.out _ _ (fun _ => ?_) ?_
      · exact hB5
      clear hK K'
      (try simp only [Act.put, List.setIfInBounds_toArray, List.set_cons_zero, List.set_cons_succ])
      refine wpAnyS_one 5 (by kernel_rfl) ?_
      (intro o5 ho K' hK; simp at ho; subst ho)
      refine step_append_gen (by rfl) _ _ _ (by rfl) 60 (.agg #[.int .i64 0, str [], .int .i64 0, .slice none 0 0, .slice none 0 0, .slice none 0 0, .slice none 0 0, .int .i64 0, .int .i64 0]) 9 144 Tryz.underlying58 Tryz.infoBo rfl (by decide) (.slice a5 (bs.length) c5) (bs.length) oxs (by rfl) (ho5) _ 1 [.int .i64 (-1), str ns, .int .i64 nv, .slice na1 nn1 nc1, .slice na2 nn2 nc2, .slice ua a.args.length uc, .slice oa bs.length oc, .int .i64 0, .int .i64 0] (by rfl) (hS5) (by unfold maxLen; omega) (by omega) ?_
      intro a7 c7 w7 ho7 hb7 hg7
      have hB7 : Below W2.heap.size W2 w7 := hB5.trans (hb7.toBelow (hB5).size fun i hi e => by have := HG5.out i e; omega)
      have hg7' : ∀ g, (Value.slice a7 (bs.length + 1) c7).ownBlock = some g → W2.heap.size ≤ g := fun g hg => by rcases hg7 g hg with h | h; exact HG5.out g h; exact Nat.le_trans (hB5).size (Nat.le_of_eq h.symm)
      refine hK.out _ _ (fun _ => ?_) ?_
      · exact hB7
      clear hK K'
      (try simp only [Act.put, List.setIfInBounds_toArray, List.set_cons_zero, List.set_cons_succ])
      refine wpAnyS_one 6 (by kernel_rfl) ?_
      (intro o6 ho K' hK; simp at ho; subst ho)
      go_simp
      refine hK.out _ _ (fun _ => ?_) ?_
      · exact hB7
      clear hK K'
      (try simp only [Act.put, List.setIfInBounds_toArray, List.set_cons_zero, List.set_cons_succ])
      refine wpAnyS_done (by kernel_rfl) (NoPanic.normal ?_) _
      clear hb5 hg5 ho5 hb7 hg7 hB5 hSd HG5
      have H7 := Lib.hid (And.intro ho7 (And.intro hB7 hg7')); clear ho7 hB7 hg7'
      have hb27 : Below w1.heap.size w1 w7 := H2.out.1.trans (H7.out.2.1.mono (by have := H2.out.2.1; omega))
      have hbW7 : Below W.heap.size W w7 := H1.out.2.2.1.trans (hb27.mono H1.out.2.2.1.size)
      have hbw7 : Below w.heap.size w w7 := HW.out.2.2.1.trans (hbW7.mono HW.out.2.2.1.size)
      have t7 : w7.cell? ⟨w.heap.size, 0, none⟩ = some (.slice (some ⟨kb, ko, none⟩) (rest.length + 1) tc) := by
        have h := (hbW7.block w.heap.size (by have := HW.out.2.1; omega)).trans HW.out.2.2.2.1
        simp [World.cell?, h]
      have hT2 : ¬ tc = 1 → Rep F w7 (.sl 46 1 rest.length (encSs rest)) (.slice (some ⟨kb, ko + 1, none⟩) rest.length (tc - 1)) := fun _ => Rep.below hbw7 (fun _ h => h) (Rep_sl1_tail (d := encS a) HT.out.1)
      have hT1 : tc = 1 → rest = [] ∧ Rep F w7 (.sl 46 1 rest.length (encSs rest)) (.slice (some ⟨kb, ko, none⟩) rest.length 0) := fun h => by
        obtain rfl : rest = [] := by
          have h1 := HT.out.2.2.1
          rw [h] at h1
          simp at h1; exact h1
        exact ⟨rfl, Rep_sl.2 ⟨by simp [encSs], _, _, rfl, Nat.zero_le _, fun h => by simp at h, .inl rfl⟩⟩
      have H8 := Lib.hid (And.intro hb27 (And.intro hbW7 hbw7)); clear hb27 hbW7 hbw7
      by_cases htc1 : tc = 1
      · have hT7 := (hT1 htc1).2
        subst htc1
        have htc0 : (rest.length : Int) = 0 := by have := HT.out.2.2.1; simp at this; simp [this]
        clear hT1 hT2
        have C6 := Lib.hid (l4Opens_any F bs.length rest _ w7 hT7 (by omega) (by omega)); clear hT7
        go_wp2_with fail
        (with_reducible refine C6.out.mono ?_)
        rintro en w8 ⟨a8, c8, xs8, rfl, ho8, hr8, hb8, hf8⟩
        have ho78 := H7.out.1.keep (w' := w8) fun g o hg hh => by rw [hb8.block g (lt_of_heap hh)]; exact hh
        have hsrc8 := ho8.src (oneCell_encWs _ _ hr8)
        have HA := Lib.hid (And.intro ho78 (And.intro hsrc8 (And.intro hr8 hb8))); clear ho78 hsrc8 ho8 hr8 hb8 hf8
        go_wp2_with (at_builtin; refine wpList_append_gen rfl _ _ 58 rfl 60 (.agg #[.int .i64 0, str [], .int .i64 0, .slice none 0 0, .slice none 0 0, .slice none 0 0, .slice none 0 0, .int .i64 0, .int .i64 0]) 9 144 Tryz.underlying58 Tryz.infoBo rfl (by decide) (.slice a7 (bs.length + 1) c7) (bs.length + 1) _ rfl HA.out.1 _ rest.length xs8 rfl HA.out.2.1 (by unfold maxLen; omega) (by omega) ?_)
        intro a9 c9 w9 ho9 hb9 hg9
        have hb79 : Below W2.heap.size W2 w9 := (H7.out.2.1.trans (HA.out.2.2.2.mono H7.out.2.1.size)).trans (hb9.toBelow (by have := H7.out.2.1.size; have := HA.out.2.2.2.size; omega) fun i hi e => by have := H7.out.2.2 i e; omega)
        have hg9' : ∀ g, (Value.slice a9 (bs.length + 1 + rest.length) c9).ownBlock = some g → W2.heap.size ≤ g := fun g hg => by
          rcases hg9 g hg with h | h
          · exact H7.out.2.2 g h
          · have := H7.out.2.1.size; have := HA.out.2.2.2.size; omega
        have hbW9 : Below W.heap.size W w9 := H1.out.2.2.1.trans ((H2.out.1.trans (hb79.mono (by have := H2.out.2.1; omega))).mono H1.out.2.2.1.size)
        have hzW := HW.out.2.1
        have hk9 : ∀ {i : Nat} {o : Obj}, i < W.heap.size → W.heap[i]? = some o → w9.heap[i]? = some o := fun hi h => (hbW9.block _ hi).trans h
        have bT9 := hk9 (by omega) HW.out.2.2.2.1
        have bM9 := hk9 (by omega) HW.out.2.2.2.2.1
        have bR9 : NewN (w.heap.size + 3) 0 (.slice none 0 0) (.slice none 0 0) w9 := hk9 (by omega) HW.out.2.2.2.2.2.2.1
        have bW9 : Wri w9 (w.heap.size + 4) 200 0 := hk9 (by omega) HW.out.2.2.2.2.2.2.2
        obtain ⟨m0, m1, m2, m3⟩ := cells4 bM9
        have t9 : w9.cell? ⟨w.heap.size, 0, none⟩ = some (.slice (some ⟨kb, ko, none⟩) (rest.length + 1) 1) := by simp [World.cell?, bT9]
        have t9' : (w9.alloc (.cells #[] 112)).cell? ⟨w.heap.size, 0, none⟩ = some (.slice (some ⟨kb, ko, none⟩) (rest.length + 1) 1) := cell_alloc t9
        have hbw9 : Below w.heap.size w (w9.alloc (.cells #[] 112)) := (HW.out.2.2.1.trans (hbW9.mono HW.out.2.2.1.size)).alloc (by have := hbW9.size; omega) _
        have hr9 : Reps (fun i => (F i ∧ i < w.heap.size) ∨ w.heap.size + 5 ≤ i) w9 (encWs (betweenEnv bs a n rest)) (oxs ++ ([.int .i64 (-1), str ns, .int .i64 nv, .slice na1 nn1 nc1, .slice na2 nn2 nc2, .slice ua a.args.length uc, .slice oa bs.length oc, .int .i64 0, .int .i64 0] ++ xs8)) := by
          have kw : ∀ (i : Nat) (o : Obj), F i → w.heap[i]? = some o → ((F i ∧ i < w.heap.size) ∨ w.heap.size + 5 ≤ i) ∧ w9.heap[i]? = some o := fun i o hi ho => ⟨.inl ⟨hi, lt_of_heap ho⟩, by rw [hbW9.block i (by have := lt_of_heap ho; omega), HW.out.2.2.1.block i (lt_of_heap ho)]; exact ho⟩
          have h29 : ∀ (i : Nat), i < w1.heap.size → w9.heap[i]? = w1.heap[i]? := fun i hi => by rw [hb79.block i (by have := H2.out.2.1; omega), H2.out.1.block i hi]
          have kf : ∀ (i : Nat), F i → (F i ∧ i < w.heap.size) ∨ w.heap.size + 5 ≤ i := fun i hi => by
            rcases Nat.lt_or_ge i w.heap.size with h | h
            · exact .inl ⟨hi, h⟩
            · exact .inr (by have := HFw.out i hi; omega)
          have hopens : Reps (fun i => (F i ∧ i < w.heap.size) ∨ w.heap.size + 5 ≤ i) w9 (encWs (opens 0 bs)) oxs := (Rep.keep fun i o hi ho => ⟨kf i hi, by rw [h29 i (lt_of_heap ho)]; exact ho⟩).2 _ _ H1.out.2.1
          unfold betweenEnv
          rw [encWs_append, encWs, encW]
          refine Reps.append hopens ?_
          refine Reps.append (vs := [.int .i64 (-1), str ns, .int .i64 nv, .slice na1 nn1 nc1, .slice na2 nn2 nc2, .slice ua a.args.length uc, .slice oa bs.length oc, .int .i64 0, .int .i64 0]) ?_ ?_
          · refine Reps.append (vs := [.int .i64 (-1)]) (Reps.one (Rep_val.2 rfl)) (Reps.append (ds := encN n) (vs := [str ns, .int .i64 nv, .slice na1 nn1 nc1, .slice na2 nn2 nc2]) ((Rep.keep kw).2 _ _ HP.out.rn) ?_)
            refine Reps_cons.2 ⟨_, _, rfl, (Rep.keep kw).1 _ _ HT.out.2.1, Reps_cons.2 ⟨_, _, rfl, ?_, Reps_cons.2 ⟨_, _, rfl, Rep_val.2 rfl, Reps_cons.2 ⟨_, _, rfl, Rep_any.2 ⟨_, rfl⟩, Reps_nil.2 rfl⟩⟩⟩⟩
            rw [opens_length]
            refine (H1.out.1.keep (w' := w9) fun g o hg hh => by rw [h29 g (lt_of_heap hh)]; exact hh).rep (fun g hg => .inr (by have := H1.out.2.2.2 g hg; omega)) hopens
          · refine (Rep.keep fun i o hi ho => ⟨kf i hi, ?_⟩).2 _ _ HA.out.2.2.1
            have hl := lt_of_heap ho
            rw [hb9.block i hl (fun e => ?_)]; exact ho
            have := H7.out.2.2 i e
            have h1 := HFw.out i hi
            have h2 := H2.out.1.size
            have h3 := H1.out.2.2.1.size
            omega
        have hlen9 : (betweenEnv bs a n rest).length = bs.length + 1 + rest.length := by unfold betweenEnv; simp [opens_length]; omega
        have hre9 : Rep (fun i => (F i ∧ i < w.heap.size) ∨ w.heap.size + 5 ≤ i) (w9.alloc (.cells #[] 112)) (.sl 60 9 (betweenEnv bs a n rest).length (encWs (betweenEnv bs a n rest))) (.slice a9 (bs.length + 1 + rest.length) c9) := by
          rw [hlen9]
          refine (Rep.keep fun i o hi ho => ⟨hi, heap_past ho⟩).1 _ _ (ho9.rep (fun g hg => .inr ?_) hr9)
          have := hg9' g hg
          have h2 := H2.out.1.size
          have h3 := H1.out.2.2.1.size
          omega
        have hrm9 : Reps (fun i => (F i ∧ i < w.heap.size) ∨ w.heap.size + 5 ≤ i) (w9.alloc (.cells #[] 112)) (encN m) [str ms, .int .i64 mv, .slice ma1 mn1 mc1, .slice ma2 mn2 mc2] :=
          (Rep.keep fun i o hi ho => ⟨.inl ⟨hi, lt_of_heap ho⟩, by rw [hbw9.block i (lt_of_heap ho)]; exact ho⟩).2 _ _ HP.out.rm
        have hatoms := HT.out.2.2.2.1
        have hr15 : ∀ x ∈ rest, atomsT x ≤ 15 := fun x hx => hatoms.1 x (by rw [HP.out.ts]; simp [hx])
        have ha15 : atomsT a ≤ 15 := hatoms.1 a (by rw [HP.out.ts]; simp)
        have hwE : Wri (w9.alloc (.cells #[] 112)) (w.heap.size + 4) ((200 : Nat) : Int) (20000 - ((20000 : Nat) : Int)) := heap_past bW9
        have C7 := write_any 20000 (fun i => (F i ∧ i < w.heap.size) ∨ w.heap.size + 5 ≤ i) (w.heap.size + 4) 200 20000 (bs.length + rest.length) (bs ++ rest) m (betweenEnv bs a n rest) [] ms mv ma1 ma2 mn1 mc1 mn2 mc2 (.slice a9 (bs.length + 1 + rest.length) c9) (.slice (some ⟨w9.heap.size, 0, none⟩) 0 0) (w9.alloc (.cells #[] 112))
          { wri := hwE, hF := fun i hi => (by
              rcases hi with h | h
              · have := h.2; omega
              · omega), ld := Nat.le_refl _, d20 := Nat.le_refl _, k200 := Nat.le_refl _, fit := HP.out.fit, hn := by simp, el := by rw [hlen9]; omega, nl := by omega, stl := by simp,
            ok := okMs_append _ _ (okMs_opens _ _ HP.out.b15 (by omega)) ⟨by rw [okM]; exact ⟨ha15, by rw [opens_length]; omega, okMs_opens _ _ HP.out.b15 (by omega)⟩, okMs_opens _ _ hr15 (by omega)⟩, okg := trivial,
            wf := ⟨HP.out.wm, wfMs_append _ _ (wfMs_opens _ _) ⟨⟨HP.out.wn, wfMs_opens _ _⟩, wfMs_opens _ _⟩, by simp⟩, rb := hrm9, re := hre9, rs := Rep_sl.2 ⟨by simp [encFs], _, _, rfl, Nat.le_refl _, fun h => by simp at h, .inl rfl⟩ }
        rw [show ((bs.length + rest.length : Nat) : Int) = (bs.length : Int) from by omega, show w.heap.size + 4 = w.heap.size + 1 + 1 + 1 + 1 from rfl] at C7
        have C7 := Lib.hid C7
        have hb9z := Lib.hid (show w8.heap.size ≤ w9.heap.size from hb9.size)
        have H9 := Lib.hid (And.intro hbw9 (And.intro bR9 hzW))
        clear hk9 bT9 bM9 bR9 bW9 hbw9 hr9 hlen9 hre9 hrm9 hatoms hr15 ha15 hwE hb79 hg9' hbW9 hzW ho9 hb9 hg9
        go_wp2_with fail
        (with_reducible refine C7.out.mono ?_)
        rintro en w11 ⟨s, v, b1, p1, d1, b2, p2, d2, rfl, hb11, hn11, hy11⟩
        obtain ⟨L, S, hWL, hL⟩ : ∃ L S : Int, Wri w11 (w.heap.size + 4) L S ∧ decide (0 ≤ L) = (writes m (betweenEnv bs a n rest) (bs.length + rest.length)).isSome := by
          unfold writes
          cases hq : evN 20000 200 20000 m (betweenEnv bs a n rest) (bs.length + rest.length) (List.map Fr.gf []) with
          | none =>
            obtain ⟨st, u1, _, _⟩ := hn11 hq
            exact ⟨-1, st, u1, by rw [show (List.map Fr.gf [] : List Gf) = [] from rfl] at hq; rw [hq]; rfl⟩
          | some x =>
            obtain ⟨u1, _⟩ := hy11 x hq
            exact ⟨_, _, u1, by rw [show (List.map Fr.gf [] : List Gf) = [] from rfl] at hq; rw [hq]; simp⟩
        have hR11 : NewN (w.heap.size + 3) 0 (.slice none 0 0) (.slice none 0 0) w11 := NewN.but (heap_past H9.out.2.1) hb11 (show ¬ (w.heap.size + 3 = w.heap.size + 1 + 1 + 1 + 1) by omega)
        have hbw11 : Below w.heap.size w w11 := H9.out.1.trans (hb11.toBelow H9.out.1.size fun i hi e => by have e : i = w.heap.size + 1 + 1 + 1 + 1 := e; omega)
        obtain ⟨W12, hW12⟩ : ∃ W, w11.alloc (.cells #[str s, .int .i64 v, .slice b1 p1 d1, .slice b2 p2 d2] 51) = W := ⟨_, rfl⟩
        have hb12 : Below w11.heap.size w11 W12 := by rw [← hW12]; exact (Below.refl _ _).alloc (Nat.le_refl _) _
        have ho12 : W12.heap[w11.heap.size]? = some (.cells #[str s, .int .i64 v, .slice b1 p1 d1, .slice b2 p2 d2] 51 (0, 0)) := by rw [← hW12]; exact heap_new _ _
        have hR12 : NewN (w.heap.size + 3) 0 (.slice none 0 0) (.slice none 0 0) W12 := hR11.below hb12 (lt_of_heap hR11)
        have hL12 : W12.cell? ⟨w.heap.size + 4, 0, none⟩ = some (.int .i64 L) := (hb12.cell (p := ⟨w.heap.size + 4, 0, none⟩) hWL.cell.2.2.2).trans hWL.cell.1
        obtain ⟨o0, o1, o2, o3⟩ := cells4 ho12
        obtain ⟨r0, r1, r2, r3, rlt, rf⟩ := hR12.cells
        have rf0 := rf 0; have rf1 := rf 1; have rf2 := rf 2; have rf3 := rf 3
        have hzw11 := hbw11.size
        have hne : w11.heap.size ≠ w.heap.size + 3 := by have := lt_of_heap hR11; omega
        have SZ : Hid (∀ w', But (fun i => i = w.heap.size + 3) W12 w' → w'.cell? ⟨w11.heap.size, 0, none⟩ = some (str s) ∧ w'.cell? ⟨w11.heap.size, 1, none⟩ = some (.int .i64 v) ∧ w'.cell? ⟨w11.heap.size, 2, none⟩ = some (.slice b1 p1 d1) ∧ w'.cell? ⟨w11.heap.size, 3, none⟩ = some (.slice b2 p2 d2) ∧ w'.cell? ⟨w.heap.size + 4, 0, none⟩ = some (.int .i64 L)) := by
          show ∀ w', _ → _
          intro w' hb'
          have k : ∀ {p : Addr} {u : Value}, p.block ≠ w.heap.size + 3 → W12.cell? p = some u → w'.cell? p = some u := fun hn hu => (hb'.cell (World.block_lt_of_cell? _ _ hu) hn).trans hu
          exact ⟨k hne o0, k hne o1, k hne o2, k hne o3, k (by show w.heap.size + 4 ≠ w.heap.size + 3; omega) hL12⟩
        obtain ⟨W13, hW13, s0', s1', s2', s3', hkb, hkk⟩ := hR12.store (str s) (.int .i64 v) (.slice b1 p1 d1) (.slice b2 p2 d2)
        have hfin : SAppPost F (writes m (betweenEnv bs a n rest) (bs.length + rest.length)) w (.returned (.tuple #[.agg #[str s, .int .i64 v, .slice b1 p1 d1, .slice b2 p2 d2], .bool (decide (0 ≤ L))])) W13 := by
          refine ⟨s, v, b1, p1, d1, b2, p2, d2, by rw [hL], hkb _ _ (hbw11.trans (hb12.mono hbw11.size)) (by omega), fun x hx => ?_⟩
          unfold writes at hx
          rw [Option.map_eq_some_iff] at hx
          obtain ⟨y, hy, rfl⟩ := hx
          obtain ⟨_, u2⟩ := hy11 y hy
          refine (Rep.keep fun i o hi ho => ?_).2 _ _ u2
          have hl := lt_of_heap ho
          have h9 : w.heap.size + 5 ≤ (w9.alloc (.cells #[] 112)).heap.size := by
            have := lt_of_heap (H9.out.2.1)
            have h5 := H9.out.2.2
            have := HA.out.2.2.2.size; have := H7.out.2.1.size; have := H2.out.1.size; have := H1.out.2.2.1.size; have := hb9z.out
            rw [size_alloc]; omega
          have hc : (F i ∨ w.heap.size ≤ i) ∧ i ≠ w.heap.size + 3 := by
            rcases hi with (h | h) | h
            · exact ⟨.inl h.1, by have := h.2; omega⟩
            · exact ⟨.inr (by omega), by omega⟩
            · exact ⟨.inr (by omega), by omega⟩
          exact ⟨hc.1, hkk i _ hc.2 (by rw [hb12.block i hl]; exact ho)⟩
        have HF := Lib.hid (And.intro hW12 (And.intro hW13 (And.intro hfin hkb)))
        clear hW12 hb12 ho12 hR12 hL12 rf hW13 hfin hkb hkk hL hWL hR11 hbw11 hb11 hn11 hy11
        go_wp2_with fail
        rw [HF.out.1]
        refine wp_region_noPanic ?_
        refine wp_region_S (fun w' => But (fun i => i = w.heap.size + 3) W12 w') (fun _ => false) (by kernel_rfl) ?_
        have hSd : But (fun i => i = w.heap.size + 3) W12 W12.drew := (But.refl _ W12).drew
        refine wpAnyS_take 0 (v := ?_) (by kernel_rfl) (by kernel_rfl) (by kernel_rfl) (by kernel_rfl) (fun _ _ _ _ h => h) hSd ?_ ?_
        rotate_left
        · (intro oi ho; simp at ho; subst ho; refine Or.inl ⟨by rfl, fun w' hw' => ?_⟩; obtain ⟨e0, e1, e2, e3, e4⟩ := SZ.out w' hw'; go_simp; try with_reducible rfl)
        (intro d hd; simp at hd; subst hd; simp only [Act.put, List.setIfInBounds_toArray, List.set_cons_zero, List.set_cons_succ])
        refine wpAnyS_take 1 (v := ?_) (by kernel_rfl) (by kernel_rfl) (by kernel_rfl) (by kernel_rfl) (fun _ _ _ _ h => h) hSd ?_ ?_
        rotate_left
        · (intro oi ho; simp at ho; subst ho; refine Or.inl ⟨by rfl, fun w' hw' => ?_⟩; go_simp; try with_reducible rfl)
        (intro d hd; simp at hd; subst hd; simp only [Act.put, List.setIfInBounds_toArray, List.set_cons_zero, List.set_cons_succ])
        refine wpAnyS_take 2 (v := ?_) (by kernel_rfl) (by kernel_rfl) (by kernel_rfl) (by kernel_rfl) (fun _ _ _ _ h => h) hSd ?_ ?_
        rotate_left
        · (intro oi ho; simp at ho; subst ho; refine Or.inl ⟨by rfl, fun w' hw' => ?_⟩; go_simp; try with_reducible rfl)
        (intro d hd; simp at hd; subst hd; simp only [Act.put, List.setIfInBounds_toArray, List.set_cons_zero, List.set_cons_succ])
        refine wpAnyS_take 3 (v := ?_) (by kernel_rfl) (by kernel_rfl) (by kernel_rfl) (by kernel_rfl) (fun _ _ _ _ h => h) hSd ?_ ?_
        rotate_left
        · (intro oi ho; simp at ho; subst ho; refine Or.inl ⟨by rfl, fun w' hw' => ?_⟩; go_simp; try with_reducible rfl)
        (intro d hd; simp at hd; subst hd; simp only [Act.put, List.setIfInBounds_toArray, List.set_cons_zero, List.set_cons_succ])
        refine wpAnyS_take 4 (v := ?_) (by kernel_rfl) (by kernel_rfl) (by kernel_rfl) (by kernel_rfl) (fun _ _ _ _ h => h) hSd ?_ ?_
        rotate_left
        · (intro oi ho; simp at ho; subst ho; refine Or.inl ⟨by rfl, fun w' hw' => ?_⟩; obtain ⟨e0, e1, e2, e3, e4⟩ := SZ.out w' hw'; go_simp; try with_reducible rfl)
        (intro d hd; simp at hd; subst hd; simp only [Act.put, List.setIfInBounds_toArray, List.set_cons_zero, List.set_cons_succ])
        refine wpAnyS_take 5 (v := ?_) (by kernel_rfl) (by kernel_rfl) (by kernel_rfl) (by kernel_rfl) (fun _ _ _ _ h => h) hSd ?_ ?_
        rotate_left
        · (intro oi ho; simp at ho; subst ho; refine Or.inl ⟨by rfl, fun w' hw' => ?_⟩; go_simp; try with_reducible rfl)
        (intro d hd; simp at hd; subst hd; simp only [Act.put, List.setIfInBounds_toArray, List.set_cons_zero, List.set_cons_succ])
        refine wpAnyS_one 6 (by kernel_rfl) ?_
        (intro o6 ho K' hK; simp at ho; subst ho)
        go_simp
        refine hK.out _ _ (fun _ => ?_) ?_
        · exact (((hSd.setCell (p := ⟨w.heap.size + 3, 0, none⟩) (.inl rfl) _).setCell (p := ⟨w.heap.size + 3, 1, none⟩) (.inl rfl) _).setCell (p := ⟨w.heap.size + 3, 2, none⟩) (.inl rfl) _).setCell (p := ⟨w.heap.size + 3, 3, none⟩) (.inl rfl) _
        clear hK K'
        (try simp only [Act.put, List.setIfInBounds_toArray, List.set_cons_zero, List.set_cons_succ])
        refine wpAnyS_one 7 (by kernel_rfl) ?_
        (intro o7 ho K' hK; simp at ho; subst ho)
        go_simp
        refine hK.out _ _ (fun _ => ?_) ?_
        · exact (((hSd.setCell (p := ⟨w.heap.size + 3, 0, none⟩) (.inl rfl) _).setCell (p := ⟨w.heap.size + 3, 1, none⟩) (.inl rfl) _).setCell (p := ⟨w.heap.size + 3, 2, none⟩) (.inl rfl) _).setCell (p := ⟨w.heap.size + 3, 3, none⟩) (.inl rfl) _
        clear hK K'
        (try simp only [Act.put, List.setIfInBounds_toArray, List.set_cons_zero, List.set_cons_succ])
        refine wpAnyS_done (by kernel_rfl) (NoPanic.normal ?_) _
        go_wp2_with fail
        obtain ⟨-, hW13, hfin, -⟩ := HF.out
        rw [← hW13]
        refine bodyPost_ret (v := .tuple #[.agg #[str s, .int .i64 v, .slice b1 p1 d1, .slice b2 p2 d2], .bool (decide (0 ≤ L))]) (by simp [results, Tryz.results61, go_sem, s0', s1', s2', s3']) rfl ?_
        exact hfin.drew
      · have hT7 := hT2 htc1
        have htc2 : rest.length + 1 ≤ tc := by have := HT.out.2.2.1; simpa using this
        clear hT1 hT2
        have C6 := Lib.hid (l4Opens_any F bs.length rest _ w7 hT7 (by omega) (by omega)); clear hT7
        go_wp2_with fail
        (with_reducible refine C6.out.mono ?_)
        rintro en w8 ⟨a8, c8, xs8, rfl, ho8, hr8, hb8, hf8⟩
        have ho78 := H7.out.1.keep (w' := w8) fun g o hg hh => by rw [hb8.block g (lt_of_heap hh)]; exact hh
        have hsrc8 := ho8.src (oneCell_encWs _ _ hr8)
        have HA := Lib.hid (And.intro ho78 (And.intro hsrc8 (And.intro hr8 hb8))); clear ho78 hsrc8 ho8 hr8 hb8 hf8
        go_wp2_with (at_builtin; refine wpList_append_gen rfl _ _ 58 rfl 60 (.agg #[.int .i64 0, str [], .int .i64 0, .slice none 0 0, .slice none 0 0, .slice none 0 0, .slice none 0 0, .int .i64 0, .int .i64 0]) 9 144 Tryz.underlying58 Tryz.infoBo rfl (by decide) (.slice a7 (bs.length + 1) c7) (bs.length + 1) _ rfl HA.out.1 _ rest.length xs8 rfl HA.out.2.1 (by unfold maxLen; omega) (by omega) ?_)
        intro a9 c9 w9 ho9 hb9 hg9
        have hb79 : Below W2.heap.size W2 w9 := (H7.out.2.1.trans (HA.out.2.2.2.mono H7.out.2.1.size)).trans (hb9.toBelow (by have := H7.out.2.1.size; have := HA.out.2.2.2.size; omega) fun i hi e => by have := H7.out.2.2 i e; omega)
        have hg9' : ∀ g, (Value.slice a9 (bs.length + 1 + rest.length) c9).ownBlock = some g → W2.heap.size ≤ g := fun g hg => by
          rcases hg9 g hg with h | h
          · exact H7.out.2.2 g h
          · have := H7.out.2.1.size; have := HA.out.2.2.2.size; omega
        have hbW9 : Below W.heap.size W w9 := H1.out.2.2.1.trans ((H2.out.1.trans (hb79.mono (by have := H2.out.2.1; omega))).mono H1.out.2.2.1.size)
        have hzW := HW.out.2.1
        have hk9 : ∀ {i : Nat} {o : Obj}, i < W.heap.size → W.heap[i]? = some o → w9.heap[i]? = some o := fun hi h => (hbW9.block _ hi).trans h
        have bT9 := hk9 (by omega) HW.out.2.2.2.1
        have bM9 := hk9 (by omega) HW.out.2.2.2.2.1
        have bR9 : NewN (w.heap.size + 3) 0 (.slice none 0 0) (.slice none 0 0) w9 := hk9 (by omega) HW.out.2.2.2.2.2.2.1
        have bW9 : Wri w9 (w.heap.size + 4) 200 0 := hk9 (by omega) HW.out.2.2.2.2.2.2.2
        obtain ⟨m0, m1, m2, m3⟩ := cells4 bM9
        have t9 : w9.cell? ⟨w.heap.size, 0, none⟩ = some (.slice (some ⟨kb, ko, none⟩) (rest.length + 1) tc) := by simp [World.cell?, bT9]
        have t9' : (w9.alloc (.cells #[] 112)).cell? ⟨w.heap.size, 0, none⟩ = some (.slice (some ⟨kb, ko, none⟩) (rest.length + 1) tc) := cell_alloc t9
        have hbw9 : Below w.heap.size w (w9.alloc (.cells #[] 112)) := (HW.out.2.2.1.trans (hbW9.mono HW.out.2.2.1.size)).alloc (by have := hbW9.size; omega) _
        have hr9 : Reps (fun i => (F i ∧ i < w.heap.size) ∨ w.heap.size + 5 ≤ i) w9 (encWs (betweenEnv bs a n rest)) (oxs ++ ([.int .i64 (-1), str ns, .int .i64 nv, .slice na1 nn1 nc1, .slice na2 nn2 nc2, .slice ua a.args.length uc, .slice oa bs.length oc, .int .i64 0, .int .i64 0] ++ xs8)) := by
          have kw : ∀ (i : Nat) (o : Obj), F i → w.heap[i]? = some o → ((F i ∧ i < w.heap.size) ∨ w.heap.size + 5 ≤ i) ∧ w9.heap[i]? = some o := fun i o hi ho => ⟨.inl ⟨hi, lt_of_heap ho⟩, by rw [hbW9.block i (by have := lt_of_heap ho; omega), HW.out.2.2.1.block i (lt_of_heap ho)]; exact ho⟩
          have h29 : ∀ (i : Nat), i < w1.heap.size → w9.heap[i]? = w1.heap[i]? := fun i hi => by rw [hb79.block i (by have := H2.out.2.1; omega), H2.out.1.block i hi]
          have kf : ∀ (i : Nat), F i → (F i ∧ i < w.heap.size) ∨ w.heap.size + 5 ≤ i := fun i hi => by
            rcases Nat.lt_or_ge i w.heap.size with h | h
            · exact .inl ⟨hi, h⟩
            · exact .inr (by have := HFw.out i hi; omega)
          have hopens : Reps (fun i => (F i ∧ i < w.heap.size) ∨ w.heap.size + 5 ≤ i) w9 (encWs (opens 0 bs)) oxs := (Rep.keep fun i o hi ho => ⟨kf i hi, by rw [h29 i (lt_of_heap ho)]; exact ho⟩).2 _ _ H1.out.2.1
          unfold betweenEnv
          rw [encWs_append, encWs, encW]
          refine Reps.append hopens ?_
          refine Reps.append (vs := [.int .i64 (-1), str ns, .int .i64 nv, .slice na1 nn1 nc1, .slice na2 nn2 nc2, .slice ua a.args.length uc, .slice oa bs.length oc, .int .i64 0, .int .i64 0]) ?_ ?_
          · refine Reps.append (vs := [.int .i64 (-1)]) (Reps.one (Rep_val.2 rfl)) (Reps.append (ds := encN n) (vs := [str ns, .int .i64 nv, .slice na1 nn1 nc1, .slice na2 nn2 nc2]) ((Rep.keep kw).2 _ _ HP.out.rn) ?_)
            refine Reps_cons.2 ⟨_, _, rfl, (Rep.keep kw).1 _ _ HT.out.2.1, Reps_cons.2 ⟨_, _, rfl, ?_, Reps_cons.2 ⟨_, _, rfl, Rep_val.2 rfl, Reps_cons.2 ⟨_, _, rfl, Rep_any.2 ⟨_, rfl⟩, Reps_nil.2 rfl⟩⟩⟩⟩
            rw [opens_length]
            refine (H1.out.1.keep (w' := w9) fun g o hg hh => by rw [h29 g (lt_of_heap hh)]; exact hh).rep (fun g hg => .inr (by have := H1.out.2.2.2 g hg; omega)) hopens
          · refine (Rep.keep fun i o hi ho => ⟨kf i hi, ?_⟩).2 _ _ HA.out.2.2.1
            have hl := lt_of_heap ho
            rw [hb9.block i hl (fun e => ?_)]; exact ho
            have := H7.out.2.2 i e
            have h1 := HFw.out i hi
            have h2 := H2.out.1.size
            have h3 := H1.out.2.2.1.size
            omega
        have hlen9 : (betweenEnv bs a n rest).length = bs.length + 1 + rest.length := by unfold betweenEnv; simp [opens_length]; omega
        have hre9 : Rep (fun i => (F i ∧ i < w.heap.size) ∨ w.heap.size + 5 ≤ i) (w9.alloc (.cells #[] 112)) (.sl 60 9 (betweenEnv bs a n rest).length (encWs (betweenEnv bs a n rest))) (.slice a9 (bs.length + 1 + rest.length) c9) := by
          rw [hlen9]
          refine (Rep.keep fun i o hi ho => ⟨hi, heap_past ho⟩).1 _ _ (ho9.rep (fun g hg => .inr ?_) hr9)
          have := hg9' g hg
          have h2 := H2.out.1.size
          have h3 := H1.out.2.2.1.size
          omega
        have hrm9 : Reps (fun i => (F i ∧ i < w.heap.size) ∨ w.heap.size + 5 ≤ i) (w9.alloc (.cells #[] 112)) (encN m) [str ms, .int .i64 mv, .slice ma1 mn1 mc1, .slice ma2 mn2 mc2] :=
          (Rep.keep fun i o hi ho => ⟨.inl ⟨hi, lt_of_heap ho⟩, by rw [hbw9.block i (lt_of_heap ho)]; exact ho⟩).2 _ _ HP.out.rm
        have hatoms := HT.out.2.2.2.1
        have hr15 : ∀ x ∈ rest, atomsT x ≤ 15 := fun x hx => hatoms.1 x (by rw [HP.out.ts]; simp [hx])
        have ha15 : atomsT a ≤ 15 := hatoms.1 a (by rw [HP.out.ts]; simp)
        have hwE : Wri (w9.alloc (.cells #[] 112)) (w.heap.size + 4) ((200 : Nat) : Int) (20000 - ((20000 : Nat) : Int)) := heap_past bW9
        have C7 := write_any 20000 (fun i => (F i ∧ i < w.heap.size) ∨ w.heap.size + 5 ≤ i) (w.heap.size + 4) 200 20000 (bs.length + rest.length) (bs ++ rest) m (betweenEnv bs a n rest) [] ms mv ma1 ma2 mn1 mc1 mn2 mc2 (.slice a9 (bs.length + 1 + rest.length) c9) (.slice (some ⟨w9.heap.size, 0, none⟩) 0 0) (w9.alloc (.cells #[] 112))
          { wri := hwE, hF := fun i hi => (by
              rcases hi with h | h
              · have := h.2; omega
              · omega), ld := Nat.le_refl _, d20 := Nat.le_refl _, k200 := Nat.le_refl _, fit := HP.out.fit, hn := by simp, el := by rw [hlen9]; omega, nl := by omega, stl := by simp,
            ok := okMs_append _ _ (okMs_opens _ _ HP.out.b15 (by omega)) ⟨by rw [okM]; exact ⟨ha15, by rw [opens_length]; omega, okMs_opens _ _ HP.out.b15 (by omega)⟩, okMs_opens _ _ hr15 (by omega)⟩, okg := trivial,
            wf := ⟨HP.out.wm, wfMs_append _ _ (wfMs_opens _ _) ⟨⟨HP.out.wn, wfMs_opens _ _⟩, wfMs_opens _ _⟩, by simp⟩, rb := hrm9, re := hre9, rs := Rep_sl.2 ⟨by simp [encFs], _, _, rfl, Nat.le_refl _, fun h => by simp at h, .inl rfl⟩ }
        rw [show ((bs.length + rest.length : Nat) : Int) = (bs.length : Int) + ((rest.length : Int) + 1) - 1 from by omega, show w.heap.size + 4 = w.heap.size + 1 + 1 + 1 + 1 from rfl] at C7
        have C7 := Lib.hid C7
        have hb9z := Lib.hid (show w8.heap.size ≤ w9.heap.size from hb9.size)
        have H9 := Lib.hid (And.intro hbw9 (And.intro bR9 hzW))
        clear hk9 bT9 bM9 bR9 bW9 hbw9 hr9 hlen9 hre9 hrm9 hatoms hr15 ha15 hwE hb79 hg9' hbW9 hzW ho9 hb9 hg9
        go_wp2_with fail
        (with_reducible refine C7.out.mono ?_)
        rintro en w11 ⟨s, v, b1, p1, d1, b2, p2, d2, rfl, hb11, hn11, hy11⟩
        obtain ⟨L, S, hWL, hL⟩ : ∃ L S : Int, Wri w11 (w.heap.size + 4) L S ∧ decide (0 ≤ L) = (writes m (betweenEnv bs a n rest) (bs.length + rest.length)).isSome := by
          unfold writes
          cases hq : evN 20000 200 20000 m (betweenEnv bs a n rest) (bs.length + rest.length) (List.map Fr.gf []) with
          | none =>
            obtain ⟨st, u1, _, _⟩ := hn11 hq
            exact ⟨-1, st, u1, by rw [show (List.map Fr.gf [] : List Gf) = [] from rfl] at hq; rw [hq]; rfl⟩
          | some x =>
            obtain ⟨u1, _⟩ := hy11 x hq
            exact ⟨_, _, u1, by rw [show (List.map Fr.gf [] : List Gf) = [] from rfl] at hq; rw [hq]; simp⟩
        have hR11 : NewN (w.heap.size + 3) 0 (.slice none 0 0) (.slice none 0 0) w11 := NewN.but (heap_past H9.out.2.1) hb11 (show ¬ (w.heap.size + 3 = w.heap.size + 1 + 1 + 1 + 1) by omega)
        have hbw11 : Below w.heap.size w w11 := H9.out.1.trans (hb11.toBelow H9.out.1.size fun i hi e => by have e : i = w.heap.size + 1 + 1 + 1 + 1 := e; omega)
        obtain ⟨W12, hW12⟩ : ∃ W, w11.alloc (.cells #[str s, .int .i64 v, .slice b1 p1 d1, .slice b2 p2 d2] 51) = W := ⟨_, rfl⟩
        have hb12 : Below w11.heap.size w11 W12 := by rw [← hW12]; exact (Below.refl _ _).alloc (Nat.le_refl _) _
        have ho12 : W12.heap[w11.heap.size]? = some (.cells #[str s, .int .i64 v, .slice b1 p1 d1, .slice b2 p2 d2] 51 (0, 0)) := by rw [← hW12]; exact heap_new _ _
        have hR12 : NewN (w.heap.size + 3) 0 (.slice none 0 0) (.slice none 0 0) W12 := hR11.below hb12 (lt_of_heap hR11)
        have hL12 : W12.cell? ⟨w.heap.size + 4, 0, none⟩ = some (.int .i64 L) := (hb12.cell (p := ⟨w.heap.size + 4, 0, none⟩) hWL.cell.2.2.2).trans hWL.cell.1
        obtain ⟨o0, o1, o2, o3⟩ := cells4 ho12
        obtain ⟨r0, r1, r2, r3, rlt, rf⟩ := hR12.cells
        have rf0 := rf 0; have rf1 := rf 1; have rf2 := rf 2; have rf3 := rf 3
        have hzw11 := hbw11.size
        have hne : w11.heap.size ≠ w.heap.size + 3 := by have := lt_of_heap hR11; omega
        have SZ : Hid (∀ w', But (fun i => i = w.heap.size + 3) W12 w' → w'.cell? ⟨w11.heap.size, 0, none⟩ = some (str s) ∧ w'.cell? ⟨w11.heap.size, 1, none⟩ = some (.int .i64 v) ∧ w'.cell? ⟨w11.heap.size, 2, none⟩ = some (.slice b1 p1 d1) ∧ w'.cell? ⟨w11.heap.size, 3, none⟩ = some (.slice b2 p2 d2) ∧ w'.cell? ⟨w.heap.size + 4, 0, none⟩ = some (.int .i64 L)) := by
          show ∀ w', _ → _
          intro w' hb'
          have k : ∀ {p : Addr} {u : Value}, p.block ≠ w.heap.size + 3 → W12.cell? p = some u → w'.cell? p = some u := fun hn hu => (hb'.cell (World.block_lt_of_cell? _ _ hu) hn).trans hu
          exact ⟨k hne o0, k hne o1, k hne o2, k hne o3, k (by show w.heap.size + 4 ≠ w.heap.size + 3; omega) hL12⟩
        obtain ⟨W13, hW13, s0', s1', s2', s3', hkb, hkk⟩ := hR12.store (str s) (.int .i64 v) (.slice b1 p1 d1) (.slice b2 p2 d2)
        have hfin : SAppPost F (writes m (betweenEnv bs a n rest) (bs.length + rest.length)) w (.returned (.tuple #[.agg #[str s, .int .i64 v, .slice b1 p1 d1, .slice b2 p2 d2], .bool (decide (0 ≤ L))])) W13 := by
          refine ⟨s, v, b1, p1, d1, b2, p2, d2, by rw [hL], hkb _ _ (hbw11.trans (hb12.mono hbw11.size)) (by omega), fun x hx => ?_⟩
          unfold writes at hx
          rw [Option.map_eq_some_iff] at hx
          obtain ⟨y, hy, rfl⟩ := hx
          obtain ⟨_, u2⟩ := hy11 y hy
          refine (Rep.keep fun i o hi ho => ?_).2 _ _ u2
          have hl := lt_of_heap ho
          have h9 : w.heap.size + 5 ≤ (w9.alloc (.cells #[] 112)).heap.size := by
            have := lt_of_heap (H9.out.2.1)
            have h5 := H9.out.2.2
            have := HA.out.2.2.2.size; have := H7.out.2.1.size; have := H2.out.1.size; have := H1.out.2.2.1.size; have := hb9z.out
            rw [size_alloc]; omega
          have hc : (F i ∨ w.heap.size ≤ i) ∧ i ≠ w.heap.size + 3 := by
            rcases hi with (h | h) | h
            · exact ⟨.inl h.1, by have := h.2; omega⟩
            · exact ⟨.inr (by omega), by omega⟩
            · exact ⟨.inr (by omega), by omega⟩
          exact ⟨hc.1, hkk i _ hc.2 (by rw [hb12.block i hl]; exact ho)⟩
        have HF := Lib.hid (And.intro hW12 (And.intro hW13 (And.intro hfin hkb)))
        clear hW12 hb12 ho12 hR12 hL12 rf hW13 hfin hkb hkk hL hWL hR11 hbw11 hb11 hn11 hy11
        go_wp2_with fail
        rw [HF.out.1]
        refine wp_region_noPanic ?_
        refine wp_region_S (fun w' => But (fun i => i = w.heap.size + 3) W12 w') (fun _ => false) (by kernel_rfl) ?_
        have hSd : But (fun i => i = w.heap.size + 3) W12 W12.drew := (But.refl _ W12).drew
        refine wpAnyS_take 0 (v := ?_) (by kernel_rfl) (by kernel_rfl) (by kernel_rfl) (by kernel_rfl) (fun _ _ _ _ h => h) hSd ?_ ?_
        rotate_left
        · (intro oi ho; simp at ho; subst ho; refine Or.inl ⟨by rfl, fun w' hw' => ?_⟩; obtain ⟨e0, e1, e2, e3, e4⟩ := SZ.out w' hw'; go_simp; try with_reducible rfl)
        (intro d hd; simp at hd; subst hd; simp only [Act.put, List.setIfInBounds_toArray, List.set_cons_zero, List.set_cons_succ])
        refine wpAnyS_take 1 (v := ?_) (by kernel_rfl) (by kernel_rfl) (by kernel_rfl) (by kernel_rfl) (fun _ _ _ _ h => h) hSd ?_ ?_
        rotate_left
        · (intro oi ho; simp at ho; subst ho; refine Or.inl ⟨by rfl, fun w' hw' => ?_⟩; go_simp; try with_reducible rfl)
        (intro d hd; simp at hd; subst hd; simp only [Act.put, List.setIfInBounds_toArray, List.set_cons_zero, List.set_cons_succ])
        refine wpAnyS_take 2 (v := ?_) (by kernel_rfl) (by kernel_rfl) (by kernel_rfl) (by kernel_rfl) (fun _ _ _ _ h => h) hSd ?_ ?_
        rotate_left
        · (intro oi ho; simp at ho; subst ho; refine Or.inl ⟨by rfl, fun w' hw' => ?_⟩; go_simp; try with_reducible rfl)
        (intro d hd; simp at hd; subst hd; simp only [Act.put, List.setIfInBounds_toArray, List.set_cons_zero, List.set_cons_succ])
        refine wpAnyS_take 3 (v := ?_) (by kernel_rfl) (by kernel_rfl) (by kernel_rfl) (by kernel_rfl) (fun _ _ _ _ h => h) hSd ?_ ?_
        rotate_left
        · (intro oi ho; simp at ho; subst ho; refine Or.inl ⟨by rfl, fun w' hw' => ?_⟩; go_simp; try with_reducible rfl)
        (intro d hd; simp at hd; subst hd; simp only [Act.put, List.setIfInBounds_toArray, List.set_cons_zero, List.set_cons_succ])
        refine wpAnyS_take 4 (v := ?_) (by kernel_rfl) (by kernel_rfl) (by kernel_rfl) (by kernel_rfl) (fun _ _ _ _ h => h) hSd ?_ ?_
        rotate_left
        · (intro oi ho; simp at ho; subst ho; refine Or.inl ⟨by rfl, fun w' hw' => ?_⟩; obtain ⟨e0, e1, e2, e3, e4⟩ := SZ.out w' hw'; go_simp; try with_reducible rfl)
        (intro d hd; simp at hd; subst hd; simp only [Act.put, List.setIfInBounds_toArray, List.set_cons_zero, List.set_cons_succ])
        refine wpAnyS_take 5 (v := ?_) (by kernel_rfl) (by kernel_rfl) (by kernel_rfl) (by kernel_rfl) (fun _ _ _ _ h => h) hSd ?_ ?_
        rotate_left
        · (intro oi ho; simp at ho; subst ho; refine Or.inl ⟨by rfl, fun w' hw' => ?_⟩; go_simp; try with_reducible rfl)
        (intro d hd; simp at hd; subst hd; simp only [Act.put, List.setIfInBounds_toArray, List.set_cons_zero, List.set_cons_succ])
        refine wpAnyS_one 6 (by kernel_rfl) ?_
        (intro o6 ho K' hK; simp at ho; subst ho)
        go_simp
        refine hK.out _ _ (fun _ => ?_) ?_
        · exact (((hSd.setCell (p := ⟨w.heap.size + 3, 0, none⟩) (.inl rfl) _).setCell (p := ⟨w.heap.size + 3, 1, none⟩) (.inl rfl) _).setCell (p := ⟨w.heap.size + 3, 2, none⟩) (.inl rfl) _).setCell (p := ⟨w.heap.size + 3, 3, none⟩) (.inl rfl) _
        clear hK K'
        (try simp only [Act.put, List.setIfInBounds_toArray, List.set_cons_zero, List.set_cons_succ])
        refine wpAnyS_one 7 (by kernel_rfl) ?_
        (intro o7 ho K' hK; simp at ho; subst ho)
        go_simp
        refine hK.out _ _ (fun _ => ?_) ?_
        · exact (((hSd.setCell (p := ⟨w.heap.size + 3, 0, none⟩) (.inl rfl) _).setCell (p := ⟨w.heap.size + 3, 1, none⟩) (.inl rfl) _).setCell (p := ⟨w.heap.size + 3, 2, none⟩) (.inl rfl) _).setCell (p := ⟨w.heap.size + 3, 3, none⟩) (.inl rfl) _
        clear hK K'
        (try simp only [Act.put, List.setIfInBounds_toArray, List.set_cons_zero, List.set_cons_succ])
        refine wpAnyS_done (by kernel_rfl) (NoPanic.normal ?_) _
        go_wp2_with fail
        obtain ⟨-, hW13, hfin, -⟩ := HF.out
        rw [← hW13]
        refine bodyPost_ret (v := .tuple #[.agg #[str s, .int .i64 v, .slice b1 p1 d1, .slice b2 p2 d2], .bool (decide (0 ≤ L))]) (by simp [results, Tryz.results61, go_sem, s0', s1', s2', s3']) rfl ?_
        exact hfin.drew
  · (intro o4 ho K' hK; simp at ho; subst ho)
    go_simp
    refine hK.out _ _ (fun _ => ?_) ?_
    · exact (hSd.alloc (Nat.le_refl _) (.cells #[.int .i64 (-1), str ns, .int .i64 nv, .slice na1 nn1 nc1, .slice na2 nn2 nc2, .slice ua a.args.length uc, .slice oa bs.length oc, .int .i64 0, .int .i64 0] 60))
    clear hK K'
    (try simp only [Act.put, List.setIfInBounds_toArray, List.set_cons_zero, List.set_cons_succ])
    refine wpAnyS_one 0 (by kernel_rfl) ?_
    (intro o0 ho K' hK; simp at ho; subst ho)
    go_simp
    refine hK.out _ _ (fun _ => ?_) ?_
    · exact ((hSd.alloc (Nat.le_refl _) (.cells #[.int .i64 (-1), str ns, .int .i64 nv, .slice na1 nn1 nc1, .slice na2 nn2 nc2, .slice ua a.args.length uc, .slice oa bs.length oc, .int .i64 0, .int .i64 0] 60)).alloc (by rw [size_alloc]; exact Nat.le_succ _) (.cells #[] 60))
    clear hK K'
    (try simp only [Act.put, List.setIfInBounds_toArray, List.set_cons_zero, List.set_cons_succ])
    refine wpAnyS_one 2 (by kernel_rfl) ?_
    (intro o2 ho K' hK; simp at ho; subst ho)
    refine step_append_gen (by rfl) _ _ _ (by rfl) 60 (.agg #[.int .i64 0, str [], .int .i64 0, .slice none 0 0, .slice none 0 0, .slice none 0 0, .slice none 0 0, .int .i64 0, .int .i64 0]) 9 144 Tryz.underlying58 Tryz.infoBo rfl (by decide) (.slice (some ⟨W2.heap.size + 1, 0, none⟩) 0 0) 0 [] (by rfl) (Own.litAt #[] 0 _ (by simp) (by decide) rfl) _ bs.length oxs (by rfl) (SRC.out _ ((hSd.alloc (Nat.le_refl _) (.cells #[.int .i64 (-1), str ns, .int .i64 nv, .slice na1 nn1 nc1, .slice na2 nn2 nc2, .slice ua a.args.length uc, .slice oa bs.length oc, .int .i64 0, .int .i64 0] 60)).alloc (by rw [size_alloc]; exact Nat.le_succ _) (.cells #[] 60))) (by unfold maxLen; omega) (by omega) ?_
    intro a5 c5 w5 ho5 hb5 hg5
    simp only [Nat.zero_add, List.nil_append] at ho5 hg5 ⊢
    have hB5 : Below W2.heap.size W2 w5 := ((hSd.alloc (Nat.le_refl _) (.cells #[.int .i64 (-1), str ns, .int .i64 nv, .slice na1 nn1 nc1, .slice na2 nn2 nc2, .slice ua a.args.length uc, .slice oa bs.length oc, .int .i64 0, .int .i64 0] 60)).alloc (by rw [size_alloc]; exact Nat.le_succ _) (.cells #[] 60)).trans (hb5.toBelow (((hSd.alloc (Nat.le_refl _) (.cells #[.int .i64 (-1), str ns, .int .i64 nv, .slice na1 nn1 nc1, .slice na2 nn2 nc2, .slice ua a.args.length uc, .slice oa bs.length oc, .int .i64 0, .int .i64 0] 60)).alloc (by rw [size_alloc]; exact Nat.le_succ _) (.cells #[] 60))).size fun i hi e => by simp [Value.ownBlock] at e; omega)
    have HG5 : Hid (∀ g, (Value.slice a5 (bs.length) c5).ownBlock = some g → W2.heap.size ≤ g) := fun g hg => by rcases hg5 g hg with h | h; simp [Value.ownBlock] at h; omega; have h : g = W2.heap.size + 1 + 1 := h.trans (size_alloc2 W2 _ _); omega
    have hS5 : SrcSl 9 (.slice (some ⟨W2.heap.size, 0, none⟩) 1 1) 1 #[.int .i64 (-1), str ns, .int .i64 nv, .slice na1 nn1 nc1, .slice na2 nn2 nc2, .slice ua a.args.length uc, .slice oa bs.length oc, .int .i64 0, .int .i64 0].toList w5 := ((SrcSl.lit1 #[.int .i64 (-1), str ns, .int .i64 nv, .slice na1 nn1 nc1, .slice na2 nn2 nc2, .slice ua a.args.length uc, .slice oa bs.length oc, .int .i64 0, .int .i64 0] rfl (by simp [str, Value.oneCell']) _ (by simp) : SrcSl 9 (.slice (some ⟨W2.heap.size, 0, none⟩) 1 1) 1 #[.int .i64 (-1), str ns, .int .i64 nv, .slice na1 nn1 nc1, .slice na2 nn2 nc2, .slice ua a.args.length uc, .slice oa bs.length oc, .int .i64 0, .int .i64 0].toList (W2.drew.alloc (.cells #[.int .i64 (-1), str ns, .int .i64 nv, .slice na1 nn1 nc1, .slice na2 nn2 nc2, .slice ua a.args.length uc, .slice oa bs.length oc, .int .i64 0, .int .i64 0] 60))).alloc (.cells #[] 60)).thru hb5 (fun e => by simp [Value.ownBlock] at e)
    refine hK.out _ _ (fun _ => ?_) ?_
    · exact hB5
    clear hK K'
    (try simp only [Act.put, List.setIfInBounds_toArray, List.set_cons_zero, List.set_cons_succ])
    refine wpAnyS_one 5 (by kernel_rfl) ?_
    (intro o5 ho K' hK; simp at ho; subst ho)
    refine step_append_gen (by rfl) _ _ _ (by rfl) 60 (.agg #[.int .i64 0, str [], .int .i64 0, .slice none 0 0, .slice none 0 0, .slice none 0 0, .slice none 0 0, .int .i64 0, .int .i64 0]) 9 144 Tryz.underlying58 Tryz.infoBo rfl (by decide) (.slice a5 (bs.length) c5) (bs.length) oxs (by rfl) (ho5) _ 1 [.int .i64 (-1), str ns, .int .i64 nv, .slice na1 nn1 nc1, .slice na2 nn2 nc2, .slice ua a.args.length uc, .slice oa bs.length oc, .int .i64 0, .int .i64 0] (by rfl) (hS5) (by unfold maxLen; omega) (by omega) ?_
    intro a7 c7 w7 ho7 hb7 hg7
    have hB7 : Below W2.heap.size W2 w7 := hB5.trans (hb7.toBelow (hB5).size fun i hi e => by have := HG5.out i e; omega)
    have hg7' : ∀ g, (Value.slice a7 (bs.length + 1) c7).ownBlock = some g → W2.heap.size ≤ g := fun g hg => by rcases hg7 g hg with h | h; exact HG5.out g h; exact Nat.le_trans (hB5).size (Nat.le_of_eq h.symm)
    refine hK.out _ _ (fun _ => ?_) ?_
    · exact hB7
    clear hK K'
    (try simp only [Act.put, List.setIfInBounds_toArray, List.set_cons_zero, List.set_cons_succ])
    refine wpAnyS_one 6 (by kernel_rfl) ?_
    (intro o6 ho K' hK; simp at ho; subst ho)
    go_simp
    refine hK.out _ _ (fun _ => ?_) ?_
    · exact hB7
    clear hK K'
    (try simp only [Act.put, List.setIfInBounds_toArray, List.set_cons_zero, List.set_cons_succ])
    refine wpAnyS_done (by kernel_rfl) (NoPanic.normal ?_) _
    clear hb5 hg5 ho5 hb7 hg7 hB5 hSd HG5
    have H7 := Lib.hid (And.intro ho7 (And.intro hB7 hg7')); clear ho7 hB7 hg7'
    have hb27 : Below w1.heap.size w1 w7 := H2.out.1.trans (H7.out.2.1.mono (by have := H2.out.2.1; omega))
    have hbW7 : Below W.heap.size W w7 := H1.out.2.2.1.trans (hb27.mono H1.out.2.2.1.size)
    have hbw7 : Below w.heap.size w w7 := HW.out.2.2.1.trans (hbW7.mono HW.out.2.2.1.size)
    have t7 : w7.cell? ⟨w.heap.size, 0, none⟩ = some (.slice (some ⟨kb, ko, none⟩) (rest.length + 1) tc) := by
      have h := (hbW7.block w.heap.size (by have := HW.out.2.1; omega)).trans HW.out.2.2.2.1
      simp [World.cell?, h]
    have hT2 : ¬ tc = 1 → Rep F w7 (.sl 46 1 rest.length (encSs rest)) (.slice (some ⟨kb, ko + 1, none⟩) rest.length (tc - 1)) := fun _ => Rep.below hbw7 (fun _ h => h) (Rep_sl1_tail (d := encS a) HT.out.1)
    have hT1 : tc = 1 → rest = [] ∧ Rep F w7 (.sl 46 1 rest.length (encSs rest)) (.slice (some ⟨kb, ko, none⟩) rest.length 0) := fun h => by
      obtain rfl : rest = [] := by
        have h1 := HT.out.2.2.1
        rw [h] at h1
        simp at h1; exact h1
      exact ⟨rfl, Rep_sl.2 ⟨by simp [encSs], _, _, rfl, Nat.zero_le _, fun h => by simp at h, .inl rfl⟩⟩
    have H8 := Lib.hid (And.intro hb27 (And.intro hbW7 hbw7)); clear hb27 hbW7 hbw7
    by_cases htc1 : tc = 1
    · have hT7 := (hT1 htc1).2
      subst htc1
      have htc0 : (rest.length : Int) = 0 := by have := HT.out.2.2.1; simp at this; simp [this]
      clear hT1 hT2
      have C6 := Lib.hid (l4Opens_any F bs.length rest _ w7 hT7 (by omega) (by omega)); clear hT7
      go_wp2_with fail
      (with_reducible refine C6.out.mono ?_)
      rintro en w8 ⟨a8, c8, xs8, rfl, ho8, hr8, hb8, hf8⟩
      have ho78 := H7.out.1.keep (w' := w8) fun g o hg hh => by rw [hb8.block g (lt_of_heap hh)]; exact hh
      have hsrc8 := ho8.src (oneCell_encWs _ _ hr8)
      have HA := Lib.hid (And.intro ho78 (And.intro hsrc8 (And.intro hr8 hb8))); clear ho78 hsrc8 ho8 hr8 hb8 hf8
      go_wp2_with (at_builtin; refine wpList_append_gen rfl _ _ 58 rfl 60 (.agg #[.int .i64 0, str [], .int .i64 0, .slice none 0 0, .slice none 0 0, .slice none 0 0, .slice none 0 0, .int .i64 0, .int .i64 0]) 9 144 Tryz.underlying58 Tryz.infoBo rfl (by decide) (.slice a7 (bs.length + 1) c7) (bs.length + 1) _ rfl HA.out.1 _ rest.length xs8 rfl HA.out.2.1 (by unfold maxLen; omega) (by omega) ?_)
      intro a9 c9 w9 ho9 hb9 hg9
      have hb79 : Below W2.heap.size W2 w9 := (H7.out.2.1.trans (HA.out.2.2.2.mono H7.out.2.1.size)).trans (hb9.toBelow (by have := H7.out.2.1.size; have := HA.out.2.2.2.size; omega) fun i hi e => by have := H7.out.2.2 i e; omega)
      have hg9' : ∀ g, (Value.slice a9 (bs.length + 1 + rest.length) c9).ownBlock = some g → W2.heap.size ≤ g := fun g hg => by
        rcases hg9 g hg with h | h
        · exact H7.out.2.2 g h
        · have := H7.out.2.1.size; have := HA.out.2.2.2.size; omega
      have hbW9 : Below W.heap.size W w9 := H1.out.2.2.1.trans ((H2.out.1.trans (hb79.mono (by have := H2.out.2.1; omega))).mono H1.out.2.2.1.size)
      have hzW := HW.out.2.1
      have hk9 : ∀ {i : Nat} {o : Obj}, i < W.heap.size → W.heap[i]? = some o → w9.heap[i]? = some o := fun hi h => (hbW9.block _ hi).trans h
      have bT9 := hk9 (by omega) HW.out.2.2.2.1
      have bM9 := hk9 (by omega) HW.out.2.2.2.2.1
      have bR9 : NewN (w.heap.size + 3) 0 (.slice none 0 0) (.slice none 0 0) w9 := hk9 (by omega) HW.out.2.2.2.2.2.2.1
      have bW9 : Wri w9 (w.heap.size + 4) 200 0 := hk9 (by omega) HW.out.2.2.2.2.2.2.2
      obtain ⟨m0, m1, m2, m3⟩ := cells4 bM9
      have t9 : w9.cell? ⟨w.heap.size, 0, none⟩ = some (.slice (some ⟨kb, ko, none⟩) (rest.length + 1) 1) := by simp [World.cell?, bT9]
      have t9' : (w9.alloc (.cells #[] 112)).cell? ⟨w.heap.size, 0, none⟩ = some (.slice (some ⟨kb, ko, none⟩) (rest.length + 1) 1) := cell_alloc t9
      have hbw9 : Below w.heap.size w (w9.alloc (.cells #[] 112)) := (HW.out.2.2.1.trans (hbW9.mono HW.out.2.2.1.size)).alloc (by have := hbW9.size; omega) _
      have hr9 : Reps (fun i => (F i ∧ i < w.heap.size) ∨ w.heap.size + 5 ≤ i) w9 (encWs (betweenEnv bs a n rest)) (oxs ++ ([.int .i64 (-1), str ns, .int .i64 nv, .slice na1 nn1 nc1, .slice na2 nn2 nc2, .slice ua a.args.length uc, .slice oa bs.length oc, .int .i64 0, .int .i64 0] ++ xs8)) := by
        have kw : ∀ (i : Nat) (o : Obj), F i → w.heap[i]? = some o → ((F i ∧ i < w.heap.size) ∨ w.heap.size + 5 ≤ i) ∧ w9.heap[i]? = some o := fun i o hi ho => ⟨.inl ⟨hi, lt_of_heap ho⟩, by rw [hbW9.block i (by have := lt_of_heap ho; omega), HW.out.2.2.1.block i (lt_of_heap ho)]; exact ho⟩
        have h29 : ∀ (i : Nat), i < w1.heap.size → w9.heap[i]? = w1.heap[i]? := fun i hi => by rw [hb79.block i (by have := H2.out.2.1; omega), H2.out.1.block i hi]
        have kf : ∀ (i : Nat), F i → (F i ∧ i < w.heap.size) ∨ w.heap.size + 5 ≤ i := fun i hi => by
          rcases Nat.lt_or_ge i w.heap.size with h | h
          · exact .inl ⟨hi, h⟩
          · exact .inr (by have := HFw.out i hi; omega)
        have hopens : Reps (fun i => (F i ∧ i < w.heap.size) ∨ w.heap.size + 5 ≤ i) w9 (encWs (opens 0 bs)) oxs := (Rep.keep fun i o hi ho => ⟨kf i hi, by rw [h29 i (lt_of_heap ho)]; exact ho⟩).2 _ _ H1.out.2.1
        unfold betweenEnv
        rw [encWs_append, encWs, encW]
        refine Reps.append hopens ?_
        refine Reps.append (vs := [.int .i64 (-1), str ns, .int .i64 nv, .slice na1 nn1 nc1, .slice na2 nn2 nc2, .slice ua a.args.length uc, .slice oa bs.length oc, .int .i64 0, .int .i64 0]) ?_ ?_
        · refine Reps.append (vs := [.int .i64 (-1)]) (Reps.one (Rep_val.2 rfl)) (Reps.append (ds := encN n) (vs := [str ns, .int .i64 nv, .slice na1 nn1 nc1, .slice na2 nn2 nc2]) ((Rep.keep kw).2 _ _ HP.out.rn) ?_)
          refine Reps_cons.2 ⟨_, _, rfl, (Rep.keep kw).1 _ _ HT.out.2.1, Reps_cons.2 ⟨_, _, rfl, ?_, Reps_cons.2 ⟨_, _, rfl, Rep_val.2 rfl, Reps_cons.2 ⟨_, _, rfl, Rep_any.2 ⟨_, rfl⟩, Reps_nil.2 rfl⟩⟩⟩⟩
          rw [opens_length]
          refine (H1.out.1.keep (w' := w9) fun g o hg hh => by rw [h29 g (lt_of_heap hh)]; exact hh).rep (fun g hg => .inr (by have := H1.out.2.2.2 g hg; omega)) hopens
        · refine (Rep.keep fun i o hi ho => ⟨kf i hi, ?_⟩).2 _ _ HA.out.2.2.1
          have hl := lt_of_heap ho
          rw [hb9.block i hl (fun e => ?_)]; exact ho
          have := H7.out.2.2 i e
          have h1 := HFw.out i hi
          have h2 := H2.out.1.size
          have h3 := H1.out.2.2.1.size
          omega
      have hlen9 : (betweenEnv bs a n rest).length = bs.length + 1 + rest.length := by unfold betweenEnv; simp [opens_length]; omega
      have hre9 : Rep (fun i => (F i ∧ i < w.heap.size) ∨ w.heap.size + 5 ≤ i) (w9.alloc (.cells #[] 112)) (.sl 60 9 (betweenEnv bs a n rest).length (encWs (betweenEnv bs a n rest))) (.slice a9 (bs.length + 1 + rest.length) c9) := by
        rw [hlen9]
        refine (Rep.keep fun i o hi ho => ⟨hi, heap_past ho⟩).1 _ _ (ho9.rep (fun g hg => .inr ?_) hr9)
        have := hg9' g hg
        have h2 := H2.out.1.size
        have h3 := H1.out.2.2.1.size
        omega
      have hrm9 : Reps (fun i => (F i ∧ i < w.heap.size) ∨ w.heap.size + 5 ≤ i) (w9.alloc (.cells #[] 112)) (encN m) [str ms, .int .i64 mv, .slice ma1 mn1 mc1, .slice ma2 mn2 mc2] :=
        (Rep.keep fun i o hi ho => ⟨.inl ⟨hi, lt_of_heap ho⟩, by rw [hbw9.block i (lt_of_heap ho)]; exact ho⟩).2 _ _ HP.out.rm
      have hatoms := HT.out.2.2.2.1
      have hr15 : ∀ x ∈ rest, atomsT x ≤ 15 := fun x hx => hatoms.1 x (by rw [HP.out.ts]; simp [hx])
      have ha15 : atomsT a ≤ 15 := hatoms.1 a (by rw [HP.out.ts]; simp)
      have hwE : Wri (w9.alloc (.cells #[] 112)) (w.heap.size + 4) ((200 : Nat) : Int) (20000 - ((20000 : Nat) : Int)) := heap_past bW9
      have C7 := write_any 20000 (fun i => (F i ∧ i < w.heap.size) ∨ w.heap.size + 5 ≤ i) (w.heap.size + 4) 200 20000 (bs.length + rest.length) (bs ++ rest) m (betweenEnv bs a n rest) [] ms mv ma1 ma2 mn1 mc1 mn2 mc2 (.slice a9 (bs.length + 1 + rest.length) c9) (.slice (some ⟨w9.heap.size, 0, none⟩) 0 0) (w9.alloc (.cells #[] 112))
        { wri := hwE, hF := fun i hi => (by
            rcases hi with h | h
            · have := h.2; omega
            · omega), ld := Nat.le_refl _, d20 := Nat.le_refl _, k200 := Nat.le_refl _, fit := HP.out.fit, hn := by simp, el := by rw [hlen9]; omega, nl := by omega, stl := by simp,
          ok := okMs_append _ _ (okMs_opens _ _ HP.out.b15 (by omega)) ⟨by rw [okM]; exact ⟨ha15, by rw [opens_length]; omega, okMs_opens _ _ HP.out.b15 (by omega)⟩, okMs_opens _ _ hr15 (by omega)⟩, okg := trivial,
          wf := ⟨HP.out.wm, wfMs_append _ _ (wfMs_opens _ _) ⟨⟨HP.out.wn, wfMs_opens _ _⟩, wfMs_opens _ _⟩, by simp⟩, rb := hrm9, re := hre9, rs := Rep_sl.2 ⟨by simp [encFs], _, _, rfl, Nat.le_refl _, fun h => by simp at h, .inl rfl⟩ }
      rw [show ((bs.length + rest.length : Nat) : Int) = (bs.length : Int) from by omega, show w.heap.size + 4 = w.heap.size + 1 + 1 + 1 + 1 from rfl] at C7
      have C7 := Lib.hid C7
      have hb9z := Lib.hid (show w8.heap.size ≤ w9.heap.size from hb9.size)
      have H9 := Lib.hid (And.intro hbw9 (And.intro bR9 hzW))
      clear hk9 bT9 bM9 bR9 bW9 hbw9 hr9 hlen9 hre9 hrm9 hatoms hr15 ha15 hwE hb79 hg9' hbW9 hzW ho9 hb9 hg9
      go_wp2_with fail
      (with_reducible refine C7.out.mono ?_)
      rintro en w11 ⟨s, v, b1, p1, d1, b2, p2, d2, rfl, hb11, hn11, hy11⟩
      obtain ⟨L, S, hWL, hL⟩ : ∃ L S : Int, Wri w11 (w.heap.size + 4) L S ∧ decide (0 ≤ L) = (writes m (betweenEnv bs a n rest) (bs.length + rest.length)).isSome := by
        unfold writes
        cases hq : evN 20000 200 20000 m (betweenEnv bs a n rest) (bs.length + rest.length) (List.map Fr.gf []) with
        | none =>
          obtain ⟨st, u1, _, _⟩ := hn11 hq
          exact ⟨-1, st, u1, by rw [show (List.map Fr.gf [] : List Gf) = [] from rfl] at hq; rw [hq]; rfl⟩
        | some x =>
          obtain ⟨u1, _⟩ := hy11 x hq
          exact ⟨_, _, u1, by rw [show (List.map Fr.gf [] : List Gf) = [] from rfl] at hq; rw [hq]; simp⟩
      have hR11 : NewN (w.heap.size + 3) 0 (.slice none 0 0) (.slice none 0 0) w11 := NewN.but (heap_past H9.out.2.1) hb11 (show ¬ (w.heap.size + 3 = w.heap.size + 1 + 1 + 1 + 1) by omega)
      have hbw11 : Below w.heap.size w w11 := H9.out.1.trans (hb11.toBelow H9.out.1.size fun i hi e => by have e : i = w.heap.size + 1 + 1 + 1 + 1 := e; omega)
      obtain ⟨W12, hW12⟩ : ∃ W, w11.alloc (.cells #[str s, .int .i64 v, .slice b1 p1 d1, .slice b2 p2 d2] 51) = W := ⟨_, rfl⟩
      have hb12 : Below w11.heap.size w11 W12 := by rw [← hW12]; exact (Below.refl _ _).alloc (Nat.le_refl _) _
      have ho12 : W12.heap[w11.heap.size]? = some (.cells #[str s, .int .i64 v, .slice b1 p1 d1, .slice b2 p2 d2] 51 (0, 0)) := by rw [← hW12]; exact heap_new _ _
      have hR12 : NewN (w.heap.size + 3) 0 (.slice none 0 0) (.slice none 0 0) W12 := hR11.below hb12 (lt_of_heap hR11)
      have hL12 : W12.cell? ⟨w.heap.size + 4, 0, none⟩ = some (.int .i64 L) := (hb12.cell (p := ⟨w.heap.size + 4, 0, none⟩) hWL.cell.2.2.2).trans hWL.cell.1
      obtain ⟨o0, o1, o2, o3⟩ := cells4 ho12
      obtain ⟨r0, r1, r2, r3, rlt, rf⟩ := hR12.cells
      have rf0 := rf 0; have rf1 := rf 1; have rf2 := rf 2; have rf3 := rf 3
      have hzw11 := hbw11.size
      have hne : w11.heap.size ≠ w.heap.size + 3 := by have := lt_of_heap hR11; omega
      have SZ : Hid (∀ w', But (fun i => i = w.heap.size + 3) W12 w' → w'.cell? ⟨w11.heap.size, 0, none⟩ = some (str s) ∧ w'.cell? ⟨w11.heap.size, 1, none⟩ = some (.int .i64 v) ∧ w'.cell? ⟨w11.heap.size, 2, none⟩ = some (.slice b1 p1 d1) ∧ w'.cell? ⟨w11.heap.size, 3, none⟩ = some (.slice b2 p2 d2) ∧ w'.cell? ⟨w.heap.size + 4, 0, none⟩ = some (.int .i64 L)) := by
        show ∀ w', _ → _
        intro w' hb'
        have k : ∀ {p : Addr} {u : Value}, p.block ≠ w.heap.size + 3 → W12.cell? p = some u → w'.cell? p = some u := fun hn hu => (hb'.cell (World.block_lt_of_cell? _ _ hu) hn).trans hu
        exact ⟨k hne o0, k hne o1, k hne o2, k hne o3, k (by show w.heap.size + 4 ≠ w.heap.size + 3; omega) hL12⟩
      obtain ⟨W13, hW13, s0', s1', s2', s3', hkb, hkk⟩ := hR12.store (str s) (.int .i64 v) (.slice b1 p1 d1) (.slice b2 p2 d2)
      have hfin : SAppPost F (writes m (betweenEnv bs a n rest) (bs.length + rest.length)) w (.returned (.tuple #[.agg #[str s, .int .i64 v, .slice b1 p1 d1, .slice b2 p2 d2], .bool (decide (0 ≤ L))])) W13 := by
        refine ⟨s, v, b1, p1, d1, b2, p2, d2, by rw [hL], hkb _ _ (hbw11.trans (hb12.mono hbw11.size)) (by omega), fun x hx => ?_⟩
        unfold writes at hx
        rw [Option.map_eq_some_iff] at hx
        obtain ⟨y, hy, rfl⟩ := hx
        obtain ⟨_, u2⟩ := hy11 y hy
        refine (Rep.keep fun i o hi ho => ?_).2 _ _ u2
        have hl := lt_of_heap ho
        have h9 : w.heap.size + 5 ≤ (w9.alloc (.cells #[] 112)).heap.size := by
          have := lt_of_heap (H9.out.2.1)
          have h5 := H9.out.2.2
          have := HA.out.2.2.2.size; have := H7.out.2.1.size; have := H2.out.1.size; have := H1.out.2.2.1.size; have := hb9z.out
          rw [size_alloc]; omega
        have hc : (F i ∨ w.heap.size ≤ i) ∧ i ≠ w.heap.size + 3 := by
          rcases hi with (h | h) | h
          · exact ⟨.inl h.1, by have := h.2; omega⟩
          · exact ⟨.inr (by omega), by omega⟩
          · exact ⟨.inr (by omega), by omega⟩
        exact ⟨hc.1, hkk i _ hc.2 (by rw [hb12.block i hl]; exact ho)⟩
      have HF := Lib.hid (And.intro hW12 (And.intro hW13 (And.intro hfin hkb)))
      clear hW12 hb12 ho12 hR12 hL12 rf hW13 hfin hkb hkk hL hWL hR11 hbw11 hb11 hn11 hy11
      go_wp2_with fail
      rw [HF.out.1]
      refine wp_region_noPanic ?_
      refine wp_region_S (fun w' => But (fun i => i = w.heap.size + 3) W12 w') (fun _ => false) (by kernel_rfl) ?_
      have hSd : But (fun i => i = w.heap.size + 3) W12 W12.drew := (But.refl _ W12).drew
      refine wpAnyS_take 0 (v := ?_) (by kernel_rfl) (by kernel_rfl) (by kernel_rfl) (by kernel_rfl) (fun _ _ _ _ h => h) hSd ?_ ?_
      rotate_left
      · (intro oi ho; simp at ho; subst ho; refine Or.inl ⟨by rfl, fun w' hw' => ?_⟩; obtain ⟨e0, e1, e2, e3, e4⟩ := SZ.out w' hw'; go_simp; try with_reducible rfl)
      (intro d hd; simp at hd; subst hd; simp only [Act.put, List.setIfInBounds_toArray, List.set_cons_zero, List.set_cons_succ])
      refine wpAnyS_take 1 (v := ?_) (by kernel_rfl) (by kernel_rfl) (by kernel_rfl) (by kernel_rfl) (fun _ _ _ _ h => h) hSd ?_ ?_
      rotate_left
      · (intro oi ho; simp at ho; subst ho; refine Or.inl ⟨by rfl, fun w' hw' => ?_⟩; go_simp; try with_reducible rfl)
      (intro d hd; simp at hd; subst hd; simp only [Act.put, List.setIfInBounds_toArray, List.set_cons_zero, List.set_cons_succ])
      refine wpAnyS_take 2 (v := ?_) (by kernel_rfl) (by kernel_rfl) (by kernel_rfl) (by kernel_rfl) (fun _ _ _ _ h => h) hSd ?_ ?_
      rotate_left
      · (intro oi ho; simp at ho; subst ho; refine Or.inl ⟨by rfl, fun w' hw' => ?_⟩; go_simp; try with_reducible rfl)
      (intro d hd; simp at hd; subst hd; simp only [Act.put, List.setIfInBounds_toArray, List.set_cons_zero, List.set_cons_succ])
      refine wpAnyS_take 3 (v := ?_) (by kernel_rfl) (by kernel_rfl) (by kernel_rfl) (by kernel_rfl) (fun _ _ _ _ h => h) hSd ?_ ?_
      rotate_left
      · (intro oi ho; simp at ho; subst ho; refine Or.inl ⟨by rfl, fun w' hw' => ?_⟩; go_simp; try with_reducible rfl)
      (intro d hd; simp at hd; subst hd; simp only [Act.put, List.setIfInBounds_toArray, List.set_cons_zero, List.set_cons_succ])
      refine wpAnyS_take 4 (v := ?_) (by kernel_rfl) (by kernel_rfl) (by kernel_rfl) (by kernel_rfl) (fun _ _ _ _ h => h) hSd ?_ ?_
      rotate_left
      · (intro oi ho; simp at ho; subst ho; refine Or.inl ⟨by rfl, fun w' hw' => ?_⟩; obtain ⟨e0, e1, e2, e3, e4⟩ := SZ.out w' hw'; go_simp; try with_reducible rfl)
      (intro d hd; simp at hd; subst hd; simp only [Act.put, List.setIfInBounds_toArray, List.set_cons_zero, List.set_cons_succ])
      refine wpAnyS_take 5 (v := ?_) (by kernel_rfl) (by kernel_rfl) (by kernel_rfl) (by kernel_rfl) (fun _ _ _ _ h => h) hSd ?_ ?_
      rotate_left
      · (intro oi ho; simp at ho; subst ho; refine Or.inl ⟨by rfl, fun w' hw' => ?_⟩; go_simp; try with_reducible rfl)
      (intro d hd; simp at hd; subst hd; simp only [Act.put, List.setIfInBounds_toArray, List.set_cons_zero, List.set_cons_succ])
      refine wpAnyS_one 6 (by kernel_rfl) ?_
      (intro o6 ho K' hK; simp at ho; subst ho)
      go_simp
      refine hK.out _ _ (fun _ => ?_) ?_
      · exact (((hSd.setCell (p := ⟨w.heap.size + 3, 0, none⟩) (.inl rfl) _).setCell (p := ⟨w.heap.size + 3, 1, none⟩) (.inl rfl) _).setCell (p := ⟨w.heap.size + 3, 2, none⟩) (.inl rfl) _).setCell (p := ⟨w.heap.size + 3, 3, none⟩) (.inl rfl) _
      clear hK K'
      (try simp only [Act.put, List.setIfInBounds_toArray, List.set_cons_zero, List.set_cons_succ])
      refine wpAnyS_one 7 (by kernel_rfl) ?_
      (intro o7 ho K' hK; simp at ho; subst ho)
      go_simp
      refine hK.out _ _ (fun _ => ?_) ?_
      · exact (((hSd.setCell (p := ⟨w.heap.size + 3, 0, none⟩) (.inl rfl) _).setCell (p := ⟨w.heap.size + 3, 1, none⟩) (.inl rfl) _).setCell (p := ⟨w.heap.size + 3, 2, none⟩) (.inl rfl) _).setCell (p := ⟨w.heap.size + 3, 3, none⟩) (.inl rfl) _
      clear hK K'
      (try simp only [Act.put, List.setIfInBounds_toArray, List.set_cons_zero, List.set_cons_succ])
      refine wpAnyS_done (by kernel_rfl) (NoPanic.normal ?_) _
      go_wp2_with fail
      obtain ⟨-, hW13, hfin, -⟩ := HF.out
      rw [← hW13]
      refine bodyPost_ret (v := .tuple #[.agg #[str s, .int .i64 v, .slice b1 p1 d1, .slice b2 p2 d2], .bool (decide (0 ≤ L))]) (by simp [results, Tryz.results61, go_sem, s0', s1', s2', s3']) rfl ?_
      exact hfin.drew
    · have hT7 := hT2 htc1
      have htc2 : rest.length + 1 ≤ tc := by have := HT.out.2.2.1; simpa using this
      clear hT1 hT2
      have C6 := Lib.hid (l4Opens_any F bs.length rest _ w7 hT7 (by omega) (by omega)); clear hT7
      go_wp2_with fail
      (with_reducible refine C6.out.mono ?_)
      rintro en w8 ⟨a8, c8, xs8, rfl, ho8, hr8, hb8, hf8⟩
      have ho78 := H7.out.1.keep (w' := w8) fun g o hg hh => by rw [hb8.block g (lt_of_heap hh)]; exact hh
      have hsrc8 := ho8.src (oneCell_encWs _ _ hr8)
      have HA := Lib.hid (And.intro ho78 (And.intro hsrc8 (And.intro hr8 hb8))); clear ho78 hsrc8 ho8 hr8 hb8 hf8
      go_wp2_with (at_builtin; refine wpList_append_gen rfl _ _ 58 rfl 60 (.agg #[.int .i64 0, str [], .int .i64 0, .slice none 0 0, .slice none 0 0, .slice none 0 0, .slice none 0 0, .int .i64 0, .int .i64 0]) 9 144 Tryz.underlying58 Tryz.infoBo rfl (by decide) (.slice a7 (bs.length + 1) c7) (bs.length + 1) _ rfl HA.out.1 _ rest.length xs8 rfl HA.out.2.1 (by unfold maxLen; omega) (by omega) ?_)
      intro a9 c9 w9 ho9 hb9 hg9
      have hb79 : Below W2.heap.size W2 w9 := (H7.out.2.1.trans (HA.out.2.2.2.mono H7.out.2.1.size)).trans (hb9.toBelow (by have := H7.out.2.1.size; have := HA.out.2.2.2.size; omega) fun i hi e => by have := H7.out.2.2 i e; omega)
      have hg9' : ∀ g, (Value.slice a9 (bs.length + 1 + rest.length) c9).ownBlock = some g → W2.heap.size ≤ g := fun g hg => by
        rcases hg9 g hg with h | h
        · exact H7.out.2.2 g h
        · have := H7.out.2.1.size; have := HA.out.2.2.2.size; omega
      have hbW9 : Below W.heap.size W w9 := H1.out.2.2.1.trans ((H2.out.1.trans (hb79.mono (by have := H2.out.2.1; omega))).mono H1.out.2.2.1.size)
      have hzW := HW.out.2.1
      have hk9 : ∀ {i : Nat} {o : Obj}, i < W.heap.size → W.heap[i]? = some o → w9.heap[i]? = some o := fun hi h => (hbW9.block _ hi).trans h
      have bT9 := hk9 (by omega) HW.out.2.2.2.1
      have bM9 := hk9 (by omega) HW.out.2.2.2.2.1
      have bR9 : NewN (w.heap.size + 3) 0 (.slice none 0 0) (.slice none 0 0) w9 := hk9 (by omega) HW.out.2.2.2.2.2.2.1
      have bW9 : Wri w9 (w.heap.size + 4) 200 0 := hk9 (by omega) HW.out.2.2.2.2.2.2.2
      obtain ⟨m0, m1, m2, m3⟩ := cells4 bM9
      have t9 : w9.cell? ⟨w.heap.size, 0, none⟩ = some (.slice (some ⟨kb, ko, none⟩) (rest.length + 1) tc) := by simp [World.cell?, bT9]
      have t9' : (w9.alloc (.cells #[] 112)).cell? ⟨w.heap.size, 0, none⟩ = some (.slice (some ⟨kb, ko, none⟩) (rest.length + 1) tc) := cell_alloc t9
      have hbw9 : Below w.heap.size w (w9.alloc (.cells #[] 112)) := (HW.out.2.2.1.trans (hbW9.mono HW.out.2.2.1.size)).alloc (by have := hbW9.size; omega) _
      have hr9 : Reps (fun i => (F i ∧ i < w.heap.size) ∨ w.heap.size + 5 ≤ i) w9 (encWs (betweenEnv bs a n rest)) (oxs ++ ([.int .i64 (-1), str ns, .int .i64 nv, .slice na1 nn1 nc1, .slice na2 nn2 nc2, .slice ua a.args.length uc, .slice oa bs.length oc, .int .i64 0, .int .i64 0] ++ xs8)) := by
        have kw : ∀ (i : Nat) (o : Obj), F i → w.heap[i]? = some o → ((F i ∧ i < w.heap.size) ∨ w.heap.size + 5 ≤ i) ∧ w9.heap[i]? = some o := fun i o hi ho => ⟨.inl ⟨hi, lt_of_heap ho⟩, by rw [hbW9.block i (by have := lt_of_heap ho; omega), HW.out.2.2.1.block i (lt_of_heap ho)]; exact ho⟩
        have h29 : ∀ (i : Nat), i < w1.heap.size → w9.heap[i]? = w1.heap[i]? := fun i hi => by rw [hb79.block i (by have := H2.out.2.1; omega), H2.out.1.block i hi]
        have kf : ∀ (i : Nat), F i → (F i ∧ i < w.heap.size) ∨ w.heap.size + 5 ≤ i := fun i hi => by
          rcases Nat.lt_or_ge i w.heap.size with h | h
          · exact .inl ⟨hi, h⟩
          · exact .inr (by have := HFw.out i hi; omega)
        have hopens : Reps (fun i => (F i ∧ i < w.heap.size) ∨ w.heap.size + 5 ≤ i) w9 (encWs (opens 0 bs)) oxs := (Rep.keep fun i o hi ho => ⟨kf i hi, by rw [h29 i (lt_of_heap ho)]; exact ho⟩).2 _ _ H1.out.2.1
        unfold betweenEnv
        rw [encWs_append, encWs, encW]
        refine Reps.append hopens ?_
        refine Reps.append (vs := [.int .i64 (-1), str ns, .int .i64 nv, .slice na1 nn1 nc1, .slice na2 nn2 nc2, .slice ua a.args.length uc, .slice oa bs.length oc, .int .i64 0, .int .i64 0]) ?_ ?_
        · refine Reps.append (vs := [.int .i64 (-1)]) (Reps.one (Rep_val.2 rfl)) (Reps.append (ds := encN n) (vs := [str ns, .int .i64 nv, .slice na1 nn1 nc1, .slice na2 nn2 nc2]) ((Rep.keep kw).2 _ _ HP.out.rn) ?_)
          refine Reps_cons.2 ⟨_, _, rfl, (Rep.keep kw).1 _ _ HT.out.2.1, Reps_cons.2 ⟨_, _, rfl, ?_, Reps_cons.2 ⟨_, _, rfl, Rep_val.2 rfl, Reps_cons.2 ⟨_, _, rfl, Rep_any.2 ⟨_, rfl⟩, Reps_nil.2 rfl⟩⟩⟩⟩
          rw [opens_length]
          refine (H1.out.1.keep (w' := w9) fun g o hg hh => by rw [h29 g (lt_of_heap hh)]; exact hh).rep (fun g hg => .inr (by have := H1.out.2.2.2 g hg; omega)) hopens
        · refine (Rep.keep fun i o hi ho => ⟨kf i hi, ?_⟩).2 _ _ HA.out.2.2.1
          have hl := lt_of_heap ho
          rw [hb9.block i hl (fun e => ?_)]; exact ho
          have := H7.out.2.2 i e
          have h1 := HFw.out i hi
          have h2 := H2.out.1.size
          have h3 := H1.out.2.2.1.size
          omega
      have hlen9 : (betweenEnv bs a n rest).length = bs.length + 1 + rest.length := by unfold betweenEnv; simp [opens_length]; omega
      have hre9 : Rep (fun i => (F i ∧ i < w.heap.size) ∨ w.heap.size + 5 ≤ i) (w9.alloc (.cells #[] 112)) (.sl 60 9 (betweenEnv bs a n rest).length (encWs (betweenEnv bs a n rest))) (.slice a9 (bs.length + 1 + rest.length) c9) := by
        rw [hlen9]
        refine (Rep.keep fun i o hi ho => ⟨hi, heap_past ho⟩).1 _ _ (ho9.rep (fun g hg => .inr ?_) hr9)
        have := hg9' g hg
        have h2 := H2.out.1.size
        have h3 := H1.out.2.2.1.size
        omega
      have hrm9 : Reps (fun i => (F i ∧ i < w.heap.size) ∨ w.heap.size + 5 ≤ i) (w9.alloc (.cells #[] 112)) (encN m) [str ms, .int .i64 mv, .slice ma1 mn1 mc1, .slice ma2 mn2 mc2] :=
        (Rep.keep fun i o hi ho => ⟨.inl ⟨hi, lt_of_heap ho⟩, by rw [hbw9.block i (lt_of_heap ho)]; exact ho⟩).2 _ _ HP.out.rm
      have hatoms := HT.out.2.2.2.1
      have hr15 : ∀ x ∈ rest, atomsT x ≤ 15 := fun x hx => hatoms.1 x (by rw [HP.out.ts]; simp [hx])
      have ha15 : atomsT a ≤ 15 := hatoms.1 a (by rw [HP.out.ts]; simp)
      have hwE : Wri (w9.alloc (.cells #[] 112)) (w.heap.size + 4) ((200 : Nat) : Int) (20000 - ((20000 : Nat) : Int)) := heap_past bW9
      have C7 := write_any 20000 (fun i => (F i ∧ i < w.heap.size) ∨ w.heap.size + 5 ≤ i) (w.heap.size + 4) 200 20000 (bs.length + rest.length) (bs ++ rest) m (betweenEnv bs a n rest) [] ms mv ma1 ma2 mn1 mc1 mn2 mc2 (.slice a9 (bs.length + 1 + rest.length) c9) (.slice (some ⟨w9.heap.size, 0, none⟩) 0 0) (w9.alloc (.cells #[] 112))
        { wri := hwE, hF := fun i hi => (by
            rcases hi with h | h
            · have := h.2; omega
            · omega), ld := Nat.le_refl _, d20 := Nat.le_refl _, k200 := Nat.le_refl _, fit := HP.out.fit, hn := by simp, el := by rw [hlen9]; omega, nl := by omega, stl := by simp,
          ok := okMs_append _ _ (okMs_opens _ _ HP.out.b15 (by omega)) ⟨by rw [okM]; exact ⟨ha15, by rw [opens_length]; omega, okMs_opens _ _ HP.out.b15 (by omega)⟩, okMs_opens _ _ hr15 (by omega)⟩, okg := trivial,
          wf := ⟨HP.out.wm, wfMs_append _ _ (wfMs_opens _ _) ⟨⟨HP.out.wn, wfMs_opens _ _⟩, wfMs_opens _ _⟩, by simp⟩, rb := hrm9, re := hre9, rs := Rep_sl.2 ⟨by simp [encFs], _, _, rfl, Nat.le_refl _, fun h => by simp at h, .inl rfl⟩ }
      rw [show ((bs.length + rest.length : Nat) : Int) = (bs.length : Int) + ((rest.length : Int) + 1) - 1 from by omega, show w.heap.size + 4 = w.heap.size + 1 + 1 + 1 + 1 from rfl] at C7
      have C7 := Lib.hid C7
      have hb9z := Lib.hid (show w8.heap.size ≤ w9.heap.size from hb9.size)
      have H9 := Lib.hid (And.intro hbw9 (And.intro bR9 hzW))
      clear hk9 bT9 bM9 bR9 bW9 hbw9 hr9 hlen9 hre9 hrm9 hatoms hr15 ha15 hwE hb79 hg9' hbW9 hzW ho9 hb9 hg9
      go_wp2_with fail
      (with_reducible refine C7.out.mono ?_)
      rintro en w11 ⟨s, v, b1, p1, d1, b2, p2, d2, rfl, hb11, hn11, hy11⟩
      obtain ⟨L, S, hWL, hL⟩ : ∃ L S : Int, Wri w11 (w.heap.size + 4) L S ∧ decide (0 ≤ L) = (writes m (betweenEnv bs a n rest) (bs.length + rest.length)).isSome := by
        unfold writes
        cases hq : evN 20000 200 20000 m (betweenEnv bs a n rest) (bs.length + rest.length) (List.map Fr.gf []) with
        | none =>
          obtain ⟨st, u1, _, _⟩ := hn11 hq
          exact ⟨-1, st, u1, by rw [show (List.map Fr.gf [] : List Gf) = [] from rfl] at hq; rw [hq]; rfl⟩
        | some x =>
          obtain ⟨u1, _⟩ := hy11 x hq
          exact ⟨_, _, u1, by rw [show (List.map Fr.gf [] : List Gf) = [] from rfl] at hq; rw [hq]; simp⟩
      have hR11 : NewN (w.heap.size + 3) 0 (.slice none 0 0) (.slice none 0 0) w11 := NewN.but (heap_past H9.out.2.1) hb11 (show ¬ (w.heap.size + 3 = w.heap.size + 1 + 1 + 1 + 1) by omega)
      have hbw11 : Below w.heap.size w w11 := H9.out.1.trans (hb11.toBelow H9.out.1.size fun i hi e => by have e : i = w.heap.size + 1 + 1 + 1 + 1 := e; omega)
      obtain ⟨W12, hW12⟩ : ∃ W, w11.alloc (.cells #[str s, .int .i64 v, .slice b1 p1 d1, .slice b2 p2 d2] 51) = W := ⟨_, rfl⟩
      have hb12 : Below w11.heap.size w11 W12 := by rw [← hW12]; exact (Below.refl _ _).alloc (Nat.le_refl _) _
      have ho12 : W12.heap[w11.heap.size]? = some (.cells #[str s, .int .i64 v, .slice b1 p1 d1, .slice b2 p2 d2] 51 (0, 0)) := by rw [← hW12]; exact heap_new _ _
      have hR12 : NewN (w.heap.size + 3) 0 (.slice none 0 0) (.slice none 0 0) W12 := hR11.below hb12 (lt_of_heap hR11)
      have hL12 : W12.cell? ⟨w.heap.size + 4, 0, none⟩ = some (.int .i64 L) := (hb12.cell (p := ⟨w.heap.size + 4, 0, none⟩) hWL.cell.2.2.2).trans hWL.cell.1
      obtain ⟨o0, o1, o2, o3⟩ := cells4 ho12
      obtain ⟨r0, r1, r2, r3, rlt, rf⟩ := hR12.cells
      have rf0 := rf 0; have rf1 := rf 1; have rf2 := rf 2; have rf3 := rf 3
      have hzw11 := hbw11.size
      have hne : w11.heap.size ≠ w.heap.size + 3 := by have := lt_of_heap hR11; omega
      have SZ : Hid (∀ w', But (fun i => i = w.heap.size + 3) W12 w' → w'.cell? ⟨w11.heap.size, 0, none⟩ = some (str s) ∧ w'.cell? ⟨w11.heap.size, 1, none⟩ = some (.int .i64 v) ∧ w'.cell? ⟨w11.heap.size, 2, none⟩ = some (.slice b1 p1 d1) ∧ w'.cell? ⟨w11.heap.size, 3, none⟩ = some (.slice b2 p2 d2) ∧ w'.cell? ⟨w.heap.size + 4, 0, none⟩ = some (.int .i64 L)) := by
        show ∀ w', _ → _
        intro w' hb'
        have k : ∀ {p : Addr} {u : Value}, p.block ≠ w.heap.size + 3 → W12.cell? p = some u → w'.cell? p = some u := fun hn hu => (hb'.cell (World.block_lt_of_cell? _ _ hu) hn).trans hu
        exact ⟨k hne o0, k hne o1, k hne o2, k hne o3, k (by show w.heap.size + 4 ≠ w.heap.size + 3; omega) hL12⟩
      obtain ⟨W13, hW13, s0', s1', s2', s3', hkb, hkk⟩ := hR12.store (str s) (.int .i64 v) (.slice b1 p1 d1) (.slice b2 p2 d2)
      have hfin : SAppPost F (writes m (betweenEnv bs a n rest) (bs.length + rest.length)) w (.returned (.tuple #[.agg #[str s, .int .i64 v, .slice b1 p1 d1, .slice b2 p2 d2], .bool (decide (0 ≤ L))])) W13 := by
        refine ⟨s, v, b1, p1, d1, b2, p2, d2, by rw [hL], hkb _ _ (hbw11.trans (hb12.mono hbw11.size)) (by omega), fun x hx => ?_⟩
        unfold writes at hx
        rw [Option.map_eq_some_iff] at hx
        obtain ⟨y, hy, rfl⟩ := hx
        obtain ⟨_, u2⟩ := hy11 y hy
        refine (Rep.keep fun i o hi ho => ?_).2 _ _ u2
        have hl := lt_of_heap ho
        have h9 : w.heap.size + 5 ≤ (w9.alloc (.cells #[] 112)).heap.size := by
          have := lt_of_heap (H9.out.2.1)
          have h5 := H9.out.2.2
          have := HA.out.2.2.2.size; have := H7.out.2.1.size; have := H2.out.1.size; have := H1.out.2.2.1.size; have := hb9z.out
          rw [size_alloc]; omega
        have hc : (F i ∨ w.heap.size ≤ i) ∧ i ≠ w.heap.size + 3 := by
          rcases hi with (h | h) | h
          · exact ⟨.inl h.1, by have := h.2; omega⟩
          · exact ⟨.inr (by omega), by omega⟩
          · exact ⟨.inr (by omega), by omega⟩
        exact ⟨hc.1, hkk i _ hc.2 (by rw [hb12.block i hl]; exact ho)⟩
      have HF := Lib.hid (And.intro hW12 (And.intro hW13 (And.intro hfin hkb)))
      clear hW12 hb12 ho12 hR12 hL12 rf hW13 hfin hkb hkk hL hWL hR11 hbw11 hb11 hn11 hy11
      go_wp2_with fail
      rw [HF.out.1]
      refine wp_region_noPanic ?_
      refine wp_region_S (fun w' => But (fun i => i = w.heap.size + 3) W12 w') (fun _ => false) (by kernel_rfl) ?_
      have hSd : But (fun i => i = w.heap.size + 3) W12 W12.drew := (But.refl _ W12).drew
      refine wpAnyS_take 0 (v := ?_) (by kernel_rfl) (by kernel_rfl) (by kernel_rfl) (by kernel_rfl) (fun _ _ _ _ h => h) hSd ?_ ?_
      rotate_left
      · (intro oi ho; simp at ho; subst ho; refine Or.inl ⟨by rfl, fun w' hw' => ?_⟩; obtain ⟨e0, e1, e2, e3, e4⟩ := SZ.out w' hw'; go_simp; try with_reducible rfl)
      (intro d hd; simp at hd; subst hd; simp only [Act.put, List.setIfInBounds_toArray, List.set_cons_zero, List.set_cons_succ])
      refine wpAnyS_take 1 (v := ?_) (by kernel_rfl) (by kernel_rfl) (by kernel_rfl) (by kernel_rfl) (fun _ _ _ _ h => h) hSd ?_ ?_
      rotate_left
      · (intro oi ho; simp at ho; subst ho; refine Or.inl ⟨by rfl, fun w' hw' => ?_⟩; go_simp; try with_reducible rfl)
      (intro d hd; simp at hd; subst hd; simp only [Act.put, List.setIfInBounds_toArray, List.set_cons_zero, List.set_cons_succ])
      refine wpAnyS_take 2 (v := ?_) (by kernel_rfl) (by kernel_rfl) (by kernel_rfl) (by kernel_rfl) (fun _ _ _ _ h => h) hSd ?_ ?_
      rotate_left
      · (intro oi ho; simp at ho; subst ho; refine Or.inl ⟨by rfl, fun w' hw' => ?_⟩; go_simp; try with_reducible rfl)
      (intro d hd; simp at hd; subst hd; simp only [Act.put, List.setIfInBounds_toArray, List.set_cons_zero, List.set_cons_succ])
      refine wpAnyS_take 3 (v := ?_) (by kernel_rfl) (by kernel_rfl) (by kernel_rfl) (by kernel_rfl) (fun _ _ _ _ h => h) hSd ?_ ?_
      rotate_left
      · (intro oi ho; simp at ho; subst ho; refine Or.inl ⟨by rfl, fun w' hw' => ?_⟩; go_simp; try with_reducible rfl)
      (intro d hd; simp at hd; subst hd; simp only [Act.put, List.setIfInBounds_toArray, List.set_cons_zero, List.set_cons_succ])
      refine wpAnyS_take 4 (v := ?_) (by kernel_rfl) (by kernel_rfl) (by kernel_rfl) (by kernel_rfl) (fun _ _ _ _ h => h) hSd ?_ ?_
      rotate_left
      · (intro oi ho; simp at ho; subst ho; refine Or.inl ⟨by rfl, fun w' hw' => ?_⟩; obtain ⟨e0, e1, e2, e3, e4⟩ := SZ.out w' hw'; go_simp; try with_reducible rfl)
      (intro d hd; simp at hd; subst hd; simp only [Act.put, List.setIfInBounds_toArray, List.set_cons_zero, List.set_cons_succ])
      refine wpAnyS_take 5 (v := ?_) (by kernel_rfl) (by kernel_rfl) (by kernel_rfl) (by kernel_rfl) (fun _ _ _ _ h => h) hSd ?_ ?_
      rotate_left
      · (intro oi ho; simp at ho; subst ho; refine Or.inl ⟨by rfl, fun w' hw' => ?_⟩; go_simp; try with_reducible rfl)
      (intro d hd; simp at hd; subst hd; simp only [Act.put, List.setIfInBounds_toArray, List.set_cons_zero, List.set_cons_succ])
      refine wpAnyS_one 6 (by kernel_rfl) ?_
      (intro o6 ho K' hK; simp at ho; subst ho)
      go_simp
      refine hK.out _ _ (fun _ => ?_) ?_
      · exact (((hSd.setCell (p := ⟨w.heap.size + 3, 0, none⟩) (.inl rfl) _).setCell (p := ⟨w.heap.size + 3, 1, none⟩) (.inl rfl) _).setCell (p := ⟨w.heap.size + 3, 2, none⟩) (.inl rfl) _).setCell (p := ⟨w.heap.size + 3, 3, none⟩) (.inl rfl) _
      clear hK K'
      (try simp only [Act.put, List.setIfInBounds_toArray, List.set_cons_zero, List.set_cons_succ])
      refine wpAnyS_one 7 (by kernel_rfl) ?_
      (intro o7 ho K' hK; simp at ho; subst ho)
      go_simp
      refine hK.out _ _ (fun _ => ?_) ?_
      · exact (((hSd.setCell (p := ⟨w.heap.size + 3, 0, none⟩) (.inl rfl) _).setCell (p := ⟨w.heap.size + 3, 1, none⟩) (.inl rfl) _).setCell (p := ⟨w.heap.size + 3, 2, none⟩) (.inl rfl) _).setCell (p := ⟨w.heap.size + 3, 3, none⟩) (.inl rfl) _
      clear hK K'
      (try simp only [Act.put, List.setIfInBounds_toArray, List.set_cons_zero, List.set_cons_succ])
      refine wpAnyS_done (by kernel_rfl) (NoPanic.normal ?_) _
      go_wp2_with fail
      obtain ⟨-, hW13, hfin, -⟩ := HF.out
      rw [← hW13]
      refine bodyPost_ret (v := .tuple #[.agg #[str s, .int .i64 v, .slice b1 p1 d1, .slice b2 p2 d2], .bool (decide (0 ≤ L))]) (by simp [results, Tryz.results61, go_sem, s0', s1', s2', s3']) rfl ?_
      exact hfin.drew

end Go.Proofs.YtibnnbdpfkgfhaaGreatDoor

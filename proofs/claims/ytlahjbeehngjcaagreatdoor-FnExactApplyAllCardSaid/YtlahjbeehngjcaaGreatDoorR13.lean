/- The row and the card of FnExactApplyAll: for all arguments the law returns true. Conditions: the listed variables of the library hold what their initialisers lay (the card ties that to the program's text). -/
import Derived.Test.YtlahjbeehngjcaaGreatDoorL5
import Derived.Test.YtlahjbeehngjcaaGreatDoorRows
import Derived.Test.YtlahjbeehngjcaaGreatDoorTie
import Derived.Test.YtlahjbeehngjcaaGreatDoorCards
import Derived.ChangeSame
import Derived.ChangeVars
import Derived.ChangeMaps5
import Derived.JoinedOf
import Derived.RowKit
import Derived.LaidLaws
import Derived.LaidMore
import Derived.LaidHandle
import Derived.MakeChecks
import Derived.Lib.LaidTab
import Derived.Stop.LaidErr
import Derived.Stop.Joined
import Derived.Deep.Strs
import Derived.OpenVars
import Derived.ProofKit
namespace Go.Proofs.YtlahjbeehngjcaaGreatDoor
open Go Go.ChangeShapes Go.WideShapes Go.RowKit Go.Deep
open Go.ChangeMaps (open_string shut_string)

theorem own : ownKnob Tryz.prog.godebug = none := by kernel_rfl
theorem laidOut : laidOutB Tryz.prog = true := by kernel_rfl
theorem gt0 : (Tryz.prog.globals[1]?).map (·.type) = some 132 := by kernel_rfl
theorem gt1 : (Tryz.prog.globals[2]?).map (·.type) = some 132 := by kernel_rfl
theorem gt2 : (Tryz.prog.globals[3]?).map (·.type) = some 249 := by kernel_rfl
theorem gt3 : (Tryz.prog.globals[0]?).map (·.type) = some 132 := by kernel_rfl

theorem gnT : Tryz.prog.globalNamed "loop.example/innocentgames/impl.errTooMany" = some 0 := by kernel_rfl
theorem var_cell {P : Program} {w : World} {nm : String} {g : Nat} {x : Value} (hg : P.globalNamed nm = some g) (h : w.var? P nm = some #[x]) : w.cell? ⟨g, 0, none⟩ = some x := by
  unfold World.var? at h
  rw [hg] at h
  simp only [Option.bind_some] at h
  unfold World.cell?
  cases ho : w.heap[g]? with
  | none => rw [ho] at h; simp at h
  | some o =>
    rw [ho] at h
    cases o with
    | cells cs e fz => simp only [Option.some.injEq] at h; subst h; simp
    | _ => simp at h

/-- The door's own heap meets the condition. -/
theorem door_met (os : Os) (args : Array Value) : laidMet Tryz.prog Rows.fnExactApplyAllRow.laid ((World.doorLaid Tryz.prog 4000 os).forCall (fun _ _ => 0) ⟨#[], args, []⟩).memory :=
  laidMet_of_run' 8 (by kernel_rfl) (by kernel_rfl)

theorem row71 : ∀ u, Tryz.prog.typeName? 3 u = some "*errors.errorString" → u = 254 := by
  have star : "*" ++ "errors.errorString" = "*errors.errorString" := by decide
  exact fun u hu => typeName_ptr_named (nm := "errors.errorString") (by rw [star]; kernel_rfl) (by kernel_rfl) (by decide) u (by rw [star]; exact hu)

theorem glob_of_laid {W : World} (h : laidMet Tryz.prog Rows.fnExactApplyAllRow.laid W) : Glob W ∧ GlobE W := by
  have h3 := h.tail.tail
  have h4 := h3.tail
  have h5 := h4.tail
  have h6 := h5.tail
  obtain ⟨a1, s1, v1, _⟩ := laid_sentinel h4 Tryz.gn1 gt1 Tryz.underlying132 row71 Tryz.underlying254 Tryz.underlying256 rfl rfl Tryz.underlying9 (by kernel_rfl) (by kernel_rfl)
  obtain ⟨a0, s0, v0, _⟩ := laid_sentinel h5 Tryz.gn0 gt0 Tryz.underlying132 row71 Tryz.underlying254 Tryz.underlying256 rfl rfl Tryz.underlying9 (by kernel_rfl) (by kernel_rfl)
  obtain ⟨a2, s2, v2, _⟩ := laid_sentinel h6 gnT gt3 Tryz.underlying132 row71 Tryz.underlying254 Tryz.underlying256 rfl rfl Tryz.underlying9 (by kernel_rfl) (by kernel_rfl)
  exact ⟨⟨⟨_, _, v0⟩, ⟨_, _, v1⟩, Lib.tabIs_of_head (zs := Lib.pow10Tab) Tryz.gn2 gt2 Tryz.underlying249 Tryz.underlying230 (by kernel_rfl) (by kernel_rfl) h3⟩, ⟨_, var_cell gnT v2⟩⟩

theorem str_self (s : ByteArray) : Value.string s = str s.data.toList := by cases s; simp [str]

/-- A slice of strings, read. -/
theorem strs_of {H : Type} {enc : TypeId × Value → H} {W : World} {v : Value} {d : DataW H} {p : List MemPlace} {a : Option Addr} {len cap : Nat} (hv : v = .slice a len cap) (h : DataW.Trod enc Tryz.prog W 0 (fun _ => true) true 27 v d p) :
    ∃ xs : List Bs, xs.length = len ∧ StrsAt W a xs ∧ len ≤ maxLen ∧ ∀ x ∈ xs, x.length ≤ maxLen := by
  subst hv
  obtain ⟨fuel, hf⟩ := h
  rcases open_strs Tryz.underlying27 Tryz.underlying9 (by kernel_rfl) hf with ⟨hcs, _⟩ | ⟨a', len', cap', m, Sx, hcs, _, hl, hm, hmm, _, hcell⟩
  · simp [Value.cells] at hcs
    obtain ⟨rfl, rfl, rfl⟩ := hcs
    exact ⟨[], rfl, fun k s h => by simp at h, Nat.zero_le _, fun x h => by simp at h⟩
  · simp [Value.cells] at hcs
    obtain ⟨rfl, rfl, rfl⟩ := hcs
    simp only [if_true] at hmm
    subst hmm
    refine ⟨(List.range len).map fun i => (Sx i).data.toList, by simp, fun k s h => ?_, by omega, fun x hx => ?_⟩
    · rw [List.getElem?_map, Option.map_eq_some_iff] at h
      obtain ⟨i, hi, rfl⟩ := h
      obtain ⟨hk, rfl⟩ := List.getElem?_eq_some_iff.1 hi
      simp only [List.length_range] at hk
      simp only [List.getElem_range]
      obtain ⟨b, off, spot⟩ := a'
      have h0 := (hcell k (by omega)).1
      have hspot : spot = none := by simpa [Addr.add] using World.cell?_spot (hcell 0 (by omega)).1
      subst hspot
      exact ⟨b, off, rfl, by rw [← str_self, ← add_plain]; exact h0⟩
    · simp only [List.mem_map, List.mem_range] at hx
      obtain ⟨i, hi, rfl⟩ := hx
      have := (hcell i (by omega)).2
      simpa using this

set_option maxRecDepth 100000 in
theorem lifted (os : Os) (started : os.Started) (H : Type) (enc : TypeId × Value → H) :
    ReturnsInHanded {} Tryz.checked os 5 .any (fun w args => (Rows.fnExactApplyAllSpec.pre enc Tryz.prog Tryz.f5 [] false w args ∧ laidMetH Tryz.prog Rows.fnExactApplyAllRow.laid w) ∧ sizedMet enc Tryz.prog Tryz.f5 (OpenSpec.ofChange Rows.fnExactApplyAllSpec) false w args)
      (Rows.fnExactApplyAllSpec.post enc Tryz.prog Tryz.f5 false true false false) := by
  refine returnsInHanded_of_change_and (C := Tryz.checked) (X := fun w _ => laidMetH Tryz.prog Rows.fnExactApplyAllRow.laid w) (fun _ _ _ hh h => h.of_heap hh) own started (by kernel_rfl) Tryz.func5
    (ChangeSpec.witness_shaped (enc := enc) (C := Tryz.checked) (os := os) (X := fun w _ => laidMetH Tryz.prog Rows.fnExactApplyAllRow.laid w) false (World.doorLaid Tryz.prog 4000 os) #[.string ⟨#[]⟩, .string ⟨#[]⟩, .slice none 0 0] 8 rfl (World.shaped_of_RefB (by kernel_rfl) (by kernel_rfl)) (by kernel_rfl) (by kernel_rfl) (by kernel_rfl)
      (by show laidMetH _ _ _; rw [MakeChecks.laidMetH_plain _ _ _ (by kernel_rfl)]; exact door_met os _)) ?_
  intro W base args ds gs before hval0 hW _ _ hL _
  have hval : ∀ (j : Nat) t v, Tryz.f5.params[j]? = some t → args[j]? = some v → Value.okWide Tryz.prog W .any base t v := hval0
  have hW' := hW
  obtain ⟨p, q, hA0, hV, rfl, hfz, hnd⟩ := hW
  have hA : DataW.TrodAll enc Tryz.prog W 0 (fun _ => true) true Tryz.f5.params.toList args.toList ds p := hA0
  rw [Tryz.params5] at hA hval
  obtain ⟨v0, v1, v2, d0, d1, d2, p0, p1, p2, rfl, rfl, rfl, h0, h1, h2⟩ := trodAll_three hA
  obtain ⟨g, _, _, _, gd, _, rfl, _⟩ := trodVars_one hV
  have k0 := h0; have k1 := h1; have k2 := h2
  have lt : ∀ {t : TypeId} {v : Value} {d : DataW H} {ps : List MemPlace}, DataW.Trod enc Tryz.prog W 0 (fun _ => true) true t v d ps → ∀ x ∈ ps, x.block < W.heap.size := fun h x hx => by obtain ⟨m, hm⟩ := h; exact DataW.trod_lt m _ _ _ hm x hx
  obtain ⟨s0, rfl, rfl, rfl, z0⟩ := open_string Tryz.underlying9 (hval 0 _ v0 rfl rfl) h0
  obtain ⟨s1, rfl, rfl, rfl, z1⟩ := open_string Tryz.underlying9 (hval 1 _ v1 rfl rfl) h1
  obtain ⟨a2, len2, cap2, rfl⟩ := okWide_slice Tryz.underlying27 (hval 2 27 v2 rfl rfl)
  obtain ⟨xs2, rfl, hx2, hl2, hxs2⟩ := strs_of rfl h2
  have hg := glob_of_laid (by have h : laidMetH Tryz.prog Rows.fnExactApplyAllRow.laid W := hL; rwa [MakeChecks.laidMetH_plain _ _ _ (by kernel_rfl)] at h)
  obtain ⟨⟨l0⟩⟩ := s0
  obtain ⟨⟨l1⟩⟩ := s1
  refine (fnExactApplyAll_any l0 l1 xs2 a2 cap2 W hg.1 hg.2 hx2 (Nat.le_trans hl2 (by unfold maxLen; omega)) (fun x h => Nat.le_trans (hxs2 x h) (by unfold maxLen; omega))).mono fun e W' ⟨he, hb⟩ => ?_
  subst he
  refine ⟨_, rfl, _, _, _, [], [] ++ [] ++ p2, q, hW', trodAll_mk1 (shut_bool Tryz.underlying4 true), ?_, hb.trodVars laidOut (by kernel_rfl) hV, hb.frame _, fun h => by cases h⟩
  exact trodAll_mk3 (Below.trod laidOut (by kernel_rfl) (of_decide_eq_true (by kernel_rfl)) k0 hb (lt k0)) (Below.trod laidOut (by kernel_rfl) (of_decide_eq_true (by kernel_rfl)) k1 hb (lt k1)) (Below.trod laidOut (by kernel_rfl) (of_decide_eq_true (by kernel_rfl)) k2 hb (lt k2))

theorem row_holds : Rows.FnExactApplyAllSaid :=
  OpenClaim.holds_of_wide 5 Tryz.f5 rfl rfl rfl rfl rfl rfl rfl ⟨rfl, rfl, rfl, rfl, rfl⟩ rfl rfl rfl rfl rfl (by kernel_rfl) Tryz.func5 (by kernel_rfl)
    (of_decide_eq_true (by kernel_rfl)) (by unfold Func.isWrapper; first | (rw [if_pos (by decide +kernel)]; kernel_rfl) | (rw [if_neg (by decide +kernel)]; exact ⟨rfl, rfl⟩))
    (fun os started H enc _ => lifted os started H enc)

theorem card_holds : Rows.FnExactApplyAllCardSaid :=
  Claim7.holds_tied_plain_at .later [] [.data, .data, .data, .sentinel, .sentinel, .sentinel] true Rows.fnExactApplyAllCard.stood.harness true
    row_holds (fun _ h => by cases h) (by kernel_rfl) (fun _ h => by cases h) fnExactApplyAll_row_tie rfl ⟨rfl, rfl⟩ (by kernel_rfl) rfl
    (fun f fn hf hfn => by
      obtain rfl : f = 5 := Option.some.inj ((show Tryz.prog.funcNamed "loop.example/innocentgames/laws.FnExactApplyAll" = some 5 by kernel_rfl).symm.trans hf) |>.symm
      obtain rfl : fn = Tryz.f5 := (Option.some.inj (Tryz.func5.symm.trans hfn)).symm
      exact ⟨by kernel_rfl, fun j t ht => by
        rw [Tryz.params5] at ht
        have h9 : t = 9 ∨ t = 27 := by
          rcases j with _ | _ | _ | j
          · exact .inl (by simpa using ht.symm)
          · exact .inl (by simpa using ht.symm)
          · exact .inr (by simpa using ht.symm)
          · simp at ht
        rcases h9 with rfl | rfl
        · exact (show Tryz.prog.wantsStandIn 9 = false by kernel_rfl)
        · exact (show Tryz.prog.wantsStandIn 27 = false by kernel_rfl)⟩)
    (by kernel_rfl)
#print axioms card_holds

end Go.Proofs.YtlahjbeehngjcaaGreatDoor

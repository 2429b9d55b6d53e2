/- The row and the card of FnExactComposeOf: for all arguments the law returns true. Conditions: the listed variables of the library hold what their initialisers lay (the card ties that to the program's text). -/
import Derived.Test.YtibnnbdpfkgfhaaGreatDoorL6
import Derived.Test.YtibnnbdpfkgfhaaGreatDoorRows
import Derived.Test.YtibnnbdpfkgfhaaGreatDoorTie
import Derived.Test.YtibnnbdpfkgfhaaGreatDoorCards
import Derived.ChangeSame
import Derived.ChangeVars
import Derived.ChangeMaps5
import Derived.JoinedOf
import Derived.RowKit
import Derived.Carry
import Derived.LaidLaws
import Derived.LaidMore
import Derived.LaidHandle
import Derived.MakeChecks
import Derived.Lib.LaidTab
import Derived.Stop.LaidErr
import Derived.Stop.Joined
import Derived.Deep.Strs
import Derived.OpenVars
import Derived.ProofKit
namespace Go.Proofs.YtibnnbdpfkgfhaaGreatDoor
open Go Go.ChangeShapes Go.WideShapes Go.RowKit Go.Deep
open Go.ChangeMaps (open_string shut_string)

theorem own : ownKnob Tryz.prog.godebug = none := by kernel_rfl
theorem laidOut : laidOutB Tryz.prog = true := by kernel_rfl
theorem gt0 : (Tryz.prog.globals[1]?).map (·.type) = some 127 := by kernel_rfl
theorem gt1 : (Tryz.prog.globals[2]?).map (·.type) = some 127 := by kernel_rfl
theorem gt2 : (Tryz.prog.globals[3]?).map (·.type) = some 244 := by kernel_rfl
theorem gt3 : (Tryz.prog.globals[0]?).map (·.type) = some 127 := by kernel_rfl

theorem gnT : Tryz.prog.globalNamed "loop.example/innocentgames/impl.errTooMany" = some 0 := by kernel_rfl
theorem var_cell {P : Program} {w : World} {nm : String} {g : Nat} {x : Value} (hg : P.globalNamed nm = some g) (h : w.var? P nm = some #[x]) : w.cell? ⟨g, 0, none⟩ = some x := by
  unfold World.var? at h
  rw [hg] at h
  simp only [Option.bind_some] at h
  unfold World.cell?
  cases ho : w.heap[g]? with
  | none => rw [ho] at h; simp at h
  | some o =>
    rw [ho] at h
    cases o with
    | cells cs e fz => simp only [Option.some.injEq] at h; subst h; simp
    | _ => simp at h

/-- The door's own heap meets the condition. -/
theorem door_met (os : Os) (args : Array Value) : laidMet Tryz.prog Rows.fnExactComposeOfRow.laid ((World.doorLaid Tryz.prog 4000 os).forCall (fun _ _ => 0) ⟨#[], args, []⟩).memory :=
  laidMet_of_run' 8 (by kernel_rfl) (by kernel_rfl)

theorem row71 : ∀ u, Tryz.prog.typeName? 3 u = some "*errors.errorString" → u = 249 := by
  have star : "*" ++ "errors.errorString" = "*errors.errorString" := by decide
  exact fun u hu => typeName_ptr_named (nm := "errors.errorString") (by rw [star]; kernel_rfl) (by kernel_rfl) (by decide) u (by rw [star]; exact hu)

theorem glob_of_laid {W : World} (h : laidMet Tryz.prog Rows.fnExactComposeOfRow.laid W) : Glob W ∧ GlobE W := by
  have h3 := h.tail.tail
  have h4 := h3.tail
  have h5 := h4.tail
  have h6 := h5.tail
  obtain ⟨a1, s1, v1, _⟩ := laid_sentinel h4 Tryz.gn1 gt1 Tryz.underlying127 row71 Tryz.underlying249 Tryz.underlying251 rfl rfl Tryz.underlying9 (by kernel_rfl) (by kernel_rfl)
  obtain ⟨a0, s0, v0, _⟩ := laid_sentinel h5 Tryz.gn0 gt0 Tryz.underlying127 row71 Tryz.underlying249 Tryz.underlying251 rfl rfl Tryz.underlying9 (by kernel_rfl) (by kernel_rfl)
  obtain ⟨a2, s2, v2, _⟩ := laid_sentinel h6 gnT gt3 Tryz.underlying127 row71 Tryz.underlying249 Tryz.underlying251 rfl rfl Tryz.underlying9 (by kernel_rfl) (by kernel_rfl)
  exact ⟨⟨⟨_, _, v0⟩, ⟨_, _, v1⟩, Lib.tabIs_of_head (zs := Lib.pow10Tab) Tryz.gn2 gt2 Tryz.underlying244 Tryz.underlying225 (by kernel_rfl) (by kernel_rfl) h3⟩, ⟨_, var_cell gnT v2⟩⟩

theorem str_self (s : ByteArray) : Value.string s = str s.data.toList := by cases s; simp [str]

section
variable {H : Type} {enc : TypeId × Value → H} {P : Program} {w : World} {base : Nat} {spare : Nat → Bool} {held : Bool}
theorem trodAll_five {t t' t'' t3 t4 : TypeId} {args : Array Value} {ds : List (DataW H)} {ps : List MemPlace} (h : DataW.TrodAll enc P w base spare held [t, t', t'', t3, t4] args.toList ds ps) :
    ∃ v v' v'' v3 v4 d d' d'' d3 d4 p p' p'' p3 p4, args = #[v, v', v'', v3, v4] ∧ ds = [d, d', d'', d3, d4] ∧ ps = p ++ p' ++ p'' ++ p3 ++ p4 ∧ DataW.Trod enc P w base spare held t v d p ∧ DataW.Trod enc P w base spare held t' v' d' p' ∧ DataW.Trod enc P w base spare held t'' v'' d'' p'' ∧ DataW.Trod enc P w base spare held t3 v3 d3 p3 ∧ DataW.Trod enc P w base spare held t4 v4 d4 p4 := by
  obtain ⟨v, vs, d, ds', p, q, hargs, rfl, rfl, hd, hrest⟩ := trodAll_cons h
  obtain ⟨v', vs', d', ds'', p', q', rfl, rfl, rfl, hd', hrest'⟩ := trodAll_cons hrest
  obtain ⟨v'', vs'', d'', ds3, p'', q'', rfl, rfl, rfl, hd'', hrest''⟩ := trodAll_cons hrest'
  obtain ⟨v3, vs3, d3, ds4, p3, q3, rfl, rfl, rfl, hd3, hrest3⟩ := trodAll_cons hrest''
  obtain ⟨v4, vs4, d4, ds5, p4, q4, rfl, rfl, rfl, hd4, hrest4⟩ := trodAll_cons hrest3
  obtain ⟨rfl, rfl, rfl⟩ := trodAll_nil hrest4
  exact ⟨v, v', v'', v3, v4, d, d', d'', d3, d4, p, p', p'', p3, p4, by cases args; simp_all, rfl, by simp, hd, hd', hd'', hd3, hd4⟩
theorem trodAll_mk5 {t t' t'' t3 t4 : TypeId} {v v' v'' v3 v4 : Value} {d d' d'' d3 d4 : DataW H} {p p' p'' p3 p4 : List MemPlace} (h : DataW.Trod enc P w base spare held t v d p) (h' : DataW.Trod enc P w base spare held t' v' d' p')
    (h'' : DataW.Trod enc P w base spare held t'' v'' d'' p'') (h3 : DataW.Trod enc P w base spare held t3 v3 d3 p3) (h4 : DataW.Trod enc P w base spare held t4 v4 d4 p4) : DataW.TrodAll enc P w base spare held [t, t', t'', t3, t4] [v, v', v'', v3, v4] [d, d', d'', d3, d4] (p ++ (p' ++ (p'' ++ (p3 ++ p4)))) := ⟨p, p' ++ (p'' ++ (p3 ++ p4)), h, trodAll_mk4 h' h'' h3 h4, rfl⟩
end

set_option maxRecDepth 100000 in
theorem lifted (os : Os) (started : os.Started) (H : Type) (enc : TypeId × Value → H) :
    ReturnsInHanded {} Tryz.checked os 3 .any (fun w args => (Rows.fnExactComposeOfSpec.pre enc Tryz.prog Tryz.f3 [] false w args ∧ laidMetH Tryz.prog Rows.fnExactComposeOfRow.laid w) ∧ sizedMet enc Tryz.prog Tryz.f3 (OpenSpec.ofChange Rows.fnExactComposeOfSpec) false w args)
      (Rows.fnExactComposeOfSpec.post enc Tryz.prog Tryz.f3 false true false false) := by
  refine returnsInHanded_of_change_and (C := Tryz.checked) (X := fun w _ => laidMetH Tryz.prog Rows.fnExactComposeOfRow.laid w) (fun _ _ _ hh h => h.of_heap hh) own started (by kernel_rfl) Tryz.func3
    (ChangeSpec.witness_shaped (enc := enc) (C := Tryz.checked) (os := os) (X := fun w _ => laidMetH Tryz.prog Rows.fnExactComposeOfRow.laid w) false (World.doorLaid Tryz.prog 4000 os) #[.string ⟨#[]⟩, .string ⟨#[]⟩, .string ⟨#[]⟩, .string ⟨#[]⟩, .string ⟨#[]⟩] 8 rfl (World.shaped_of_RefB (by kernel_rfl) (by kernel_rfl)) (by kernel_rfl) (by kernel_rfl) (by kernel_rfl)
      (by show laidMetH _ _ _; rw [MakeChecks.laidMetH_plain _ _ _ (by kernel_rfl)]; exact door_met os _)) ?_
  intro W base args ds gs before hval0 hW _ _ hL _
  have hval : ∀ (j : Nat) t v, Tryz.f3.params[j]? = some t → args[j]? = some v → Value.okWide Tryz.prog W .any base t v := hval0
  have hW' := hW
  obtain ⟨p, q, hA0, hV, rfl, hfz, hnd⟩ := hW
  have hA : DataW.TrodAll enc Tryz.prog W 0 (fun _ => true) true Tryz.f3.params.toList args.toList ds p := hA0
  rw [Tryz.params3] at hA hval
  obtain ⟨v0, v1, v2, v3, v4, d0, d1, d2, d3, d4, p0, p1, p2, p3, p4, rfl, rfl, rfl, h0, h1, h2, h3, h4⟩ := trodAll_five hA
  obtain ⟨g, _, _, _, gd, _, rfl, _⟩ := trodVars_one hV
  have k0 := h0; have k1 := h1; have k2 := h2; have k3 := h3; have k4 := h4
  have lt : ∀ {t : TypeId} {v : Value} {d : DataW H} {ps : List MemPlace}, DataW.Trod enc Tryz.prog W 0 (fun _ => true) true t v d ps → ∀ x ∈ ps, x.block < W.heap.size := fun h x hx => by obtain ⟨m, hm⟩ := h; exact DataW.trod_lt m _ _ _ hm x hx
  obtain ⟨s0, rfl, rfl, rfl, z0⟩ := open_string Tryz.underlying9 (hval 0 _ v0 rfl rfl) h0
  obtain ⟨s1, rfl, rfl, rfl, z1⟩ := open_string Tryz.underlying9 (hval 1 _ v1 rfl rfl) h1
  obtain ⟨s2, rfl, rfl, rfl, z2⟩ := open_string Tryz.underlying9 (hval 2 _ v2 rfl rfl) h2
  obtain ⟨s3, rfl, rfl, rfl, z3⟩ := open_string Tryz.underlying9 (hval 3 _ v3 rfl rfl) h3
  obtain ⟨s4, rfl, rfl, rfl, z4⟩ := open_string Tryz.underlying9 (hval 4 _ v4 rfl rfl) h4
  have hg := glob_of_laid (by have h : laidMetH Tryz.prog Rows.fnExactComposeOfRow.laid W := hL; rwa [MakeChecks.laidMetH_plain _ _ _ (by kernel_rfl)] at h)
  obtain ⟨⟨l0⟩⟩ := s0
  obtain ⟨⟨l1⟩⟩ := s1
  obtain ⟨⟨l2⟩⟩ := s2
  obtain ⟨⟨l3⟩⟩ := s3
  obtain ⟨⟨l4⟩⟩ := s4
  refine (fnExactComposeOf_any l0 l1 l2 l3 l4 W hg.1 hg.2).mono fun e W' ⟨he, hb⟩ => ?_
  subst he
  refine ⟨_, rfl, _, _, _, [], [] ++ [] ++ [] ++ [] ++ [], q, hW', trodAll_mk1 (shut_bool Tryz.underlying4 true), ?_, hb.trodVars laidOut (by kernel_rfl) hV, hb.frame _, fun h => by cases h⟩
  exact trodAll_mk5 (Below.trod laidOut (by kernel_rfl) (of_decide_eq_true (by kernel_rfl)) k0 hb (lt k0)) (Below.trod laidOut (by kernel_rfl) (of_decide_eq_true (by kernel_rfl)) k1 hb (lt k1)) (Below.trod laidOut (by kernel_rfl) (of_decide_eq_true (by kernel_rfl)) k2 hb (lt k2)) (Below.trod laidOut (by kernel_rfl) (of_decide_eq_true (by kernel_rfl)) k3 hb (lt k3)) (Below.trod laidOut (by kernel_rfl) (of_decide_eq_true (by kernel_rfl)) k4 hb (lt k4))

theorem row_holds : Rows.FnExactComposeOfSaid :=
  OpenClaim.holds_of_wide 3 Tryz.f3 rfl rfl rfl rfl rfl rfl rfl ⟨rfl, rfl, rfl, rfl, rfl⟩ rfl rfl rfl rfl rfl (by kernel_rfl) Tryz.func3 (by kernel_rfl)
    (of_decide_eq_true (by kernel_rfl)) (by unfold Func.isWrapper; first | (rw [if_pos (by decide +kernel)]; kernel_rfl) | (rw [if_neg (by decide +kernel)]; exact ⟨rfl, rfl⟩))
    (fun os started H enc _ => lifted os started H enc)

theorem card_holds : Rows.FnExactComposeOfCardSaid :=
  Claim7.holds_tied_plain_at .later [] [.data, .data, .data, .sentinel, .sentinel, .sentinel] true Rows.fnExactComposeOfCard.stood.harness true
    row_holds (fun _ h => by cases h) (by kernel_rfl) (fun _ h => by cases h) fnExactComposeOf_row_tie rfl ⟨rfl, rfl⟩ (by kernel_rfl) rfl
    (fun f fn hf hfn => by
      obtain rfl : f = 3 := Option.some.inj ((show Tryz.prog.funcNamed "loop.example/innocentgames/laws.FnExactComposeOf" = some 3 by kernel_rfl).symm.trans hf) |>.symm
      obtain rfl : fn = Tryz.f3 := (Option.some.inj (Tryz.func3.symm.trans hfn)).symm
      exact ⟨by kernel_rfl, fun j t ht => by
        rw [Tryz.params3] at ht
        have h9 : t = 9 := by
          rcases j with _ | _ | _ | _ | _ | j
          · exact by simpa using ht.symm
          · exact by simpa using ht.symm
          · exact by simpa using ht.symm
          · exact by simpa using ht.symm
          · exact by simpa using ht.symm
          · simp at ht
        rcases h9 with rfl
        · exact (show Tryz.prog.wantsStandIn 9 = false by kernel_rfl)⟩)
    (by kernel_rfl)
#print axioms card_holds

end Go.Proofs.YtibnnbdpfkgfhaaGreatDoor

/- The row and the card of FnExactViewsOf: for all arguments the law returns true. Conditions: the listed variables of the library hold what their initialisers lay (the card ties that to the program's text). -/
import Derived.Test.YthoimoenbccflaaDoorQ18
import Derived.Test.YthoimoenbccflaaDoorRows
import Derived.Test.YthoimoenbccflaaDoorTie
import Derived.Test.YthoimoenbccflaaDoorCards
import Derived.ChangeSame
import Derived.ChangeVars
import Derived.ChangeMaps5
import Derived.JoinedOf
import Derived.RowKit
import Derived.LaidLaws
import Derived.LaidMore
import Derived.LaidHandle
import Derived.MakeChecks
import Derived.Lib.LaidTab
import Derived.Stop.LaidErr
import Derived.Stop.Joined
import Derived.ProofKit
namespace Go.Proofs.YthoimoenbccflaaDoor
open Go Go.ChangeShapes Go.WideShapes Go.RowKit
open Go.ChangeMaps (open_string shut_string)
theorem own:ownKnob Tryd.prog.godebug=none:=by kernel_rfl
theorem gt0:(Tryd.prog.globals[0]?).map (·.type)=some 110:=by kernel_rfl
theorem gt1:(Tryd.prog.globals[1]?).map (·.type)=some 110:=by kernel_rfl
theorem gt2:(Tryd.prog.globals[2]?).map (·.type)=some 155:=by kernel_rfl
theorem door_met (os:Os) (args:Array Value):laidMet Tryd.prog Rows.fnExactViewsOfRow.laid ((World.doorLaid Tryd.prog 4000 os).forCall (fun _ _=>0) ⟨#[],args,[]⟩).memory :=
 laidMet_of_run' 8 (by kernel_rfl) (by kernel_rfl)
theorem row71:∀ u,Tryd.prog.typeName? 3 u=some "*errors.errorString"->u=161:=by
 have star : "*" ++ "errors.errorString" = "*errors.errorString":=by decide
 exact fun u hu=>typeName_ptr_named (nm:= "errors.errorString") (by rw [star];kernel_rfl) (by kernel_rfl) (by decide) u (by rw [star];exact hu)
theorem glob_of_laid {W:World} (h:laidMet Tryd.prog Rows.fnExactViewsOfRow.laid W):Glob W:=by
 have h3:=h.tail.tail
 have h4:=h3.tail
 have h5:=h4.tail
 obtain ⟨a1,s1,v1,_⟩:=laid_sentinel h4 Tryd.gn1 gt1 Tryd.underlying110 row71 Tryd.underlying161 Tryd.underlying163 rfl rfl Tryd.underlying9 (by kernel_rfl) (by kernel_rfl)
 obtain ⟨a0,s0,v0,_⟩:=laid_sentinel h5 Tryd.gn0 gt0 Tryd.underlying110 row71 Tryd.underlying161 Tryd.underlying163 rfl rfl Tryd.underlying9 (by kernel_rfl) (by kernel_rfl)
 exact ⟨⟨_,_,v0⟩,⟨_,_,v1⟩,Lib.tabIs_of_head (zs:=Lib.pow10Tab) Tryd.gn2 gt2 Tryd.underlying155 Tryd.underlying138 (by kernel_rfl) (by kernel_rfl) h3⟩
set_option maxRecDepth 100000 in
theorem lifted (os:Os) (started:os.Started) (H:Type) (enc:TypeId×Value->H) :
 ReturnsInHanded {} Tryd.checked os 3 .any (fun w args=>(Rows.fnExactViewsOfSpec.pre enc Tryd.prog Tryd.f3 [] false w args/\laidMetH Tryd.prog Rows.fnExactViewsOfRow.laid w)/\sizedMet enc Tryd.prog Tryd.f3 (OpenSpec.ofChange Rows.fnExactViewsOfSpec) false w args)
  (Rows.fnExactViewsOfSpec.post enc Tryd.prog Tryd.f3 false true false false):=by
 refine returnsInHanded_of_change_and (C:=Tryd.checked) (X:=fun w _=>laidMetH Tryd.prog Rows.fnExactViewsOfRow.laid w) (fun _ _ _ hh h=>h.of_heap hh) own started (by kernel_rfl) Tryd.func3
  (ChangeSpec.witness_shaped (enc:=enc) (C:=Tryd.checked) (os:=os) (X:=fun w _=>laidMetH Tryd.prog Rows.fnExactViewsOfRow.laid w) false (World.doorLaid Tryd.prog 4000 os) #[.string ⟨#[]⟩,.string ⟨#[]⟩] 8 rfl (World.shaped_of_RefB (by kernel_rfl) (by kernel_rfl)) (by kernel_rfl) (by kernel_rfl) (by kernel_rfl)
   (by show laidMetH _ _ _;rw [MakeChecks.laidMetH_plain _ _ _ (by kernel_rfl)];exact door_met os _)) ?_
 intro W base args ds gs before hval0 hW _ _ hL _
 have hval:∀ (j:Nat) t v,Tryd.f3.params[j]? = some t->args[j]? = some v->Value.okWide Tryd.prog W .any base t v:=hval0
 have hW':=hW
 obtain ⟨p,q,hA0,hV,rfl,hfz,hnd⟩:=hW
 have hA:DataW.TrodAll enc Tryd.prog W 0 (fun _=>true) true Tryd.f3.params.toList args.toList ds p:=hA0
 rw [Tryd.params3] at hA hval
 obtain ⟨v0,v1,d0,d1,p0,p1,rfl,rfl,rfl,h0,h1⟩:=trodAll_two hA
 obtain ⟨rfl,rfl⟩:=trodVars_none hV
 obtain ⟨s0,rfl,rfl,rfl,z0⟩:=open_string Tryd.underlying9 (hval 0 _ v0 rfl rfl) h0
 obtain ⟨s1,rfl,rfl,rfl,z1⟩:=open_string Tryd.underlying9 (hval 1 _ v1 rfl rfl) h1
 have hg:Glob W:=glob_of_laid (by have h:laidMetH Tryd.prog Rows.fnExactViewsOfRow.laid W:=hL;rwa [MakeChecks.laidMetH_plain _ _ _ (by kernel_rfl)] at h)
 obtain ⟨⟨l0⟩⟩:=s0
 obtain ⟨⟨l1⟩⟩:=s1
 refine (fnExactViewsOf_any l0 l1 W hg).mono fun e W' ⟨he,hb⟩=>?_
 subst he
 have e1:Rows.fnExactViewsOfSpec.fn H ([.lit (.string l0),.lit (.string l1)]++[])={ results:=[.lit (.bool true)],args:=[.lit (.string l0),.lit (.string l1)] }:=by simp [Rows.fnExactViewsOfSpec]
 refine ⟨_,rfl,_,_,_,[],[],[],hW',?_,?_,?_,hb.frame _,fun h=>by cases h⟩
 ·rw [e1];exact trodAll_mk1 (shut_bool Tryd.underlying4 true)
 ·rw [e1];exact trodAll_mk2 (shut_string Tryd.underlying9 z0) (shut_string Tryd.underlying9 z1)
 ·rw [e1];rfl
theorem row_holds:Rows.FnExactViewsOfSaid :=
 OpenClaim.holds_of_wide 3 Tryd.f3 rfl rfl rfl rfl rfl rfl rfl ⟨rfl,rfl,rfl,rfl,rfl⟩ rfl rfl rfl rfl rfl (by kernel_rfl) Tryd.func3 (by kernel_rfl)
  (of_decide_eq_true (by kernel_rfl)) (by unfold Func.isWrapper;first | (rw [if_pos (by decide +kernel)];kernel_rfl) | (rw [if_neg (by decide +kernel)];exact ⟨rfl,rfl⟩))
  (fun os started H enc _=>lifted os started H enc)
theorem card_holds:Rows.FnExactViewsOfCardSaid :=
 Claim7.holds_tied_plain_at .later [] [.data,.data,.data,.sentinel,.sentinel] true Rows.fnExactViewsOfCard.stood.harness true
  row_holds (fun _ h=>by cases h) (by kernel_rfl) (fun _ h=>by cases h) fnExactViewsOf_row_tie rfl ⟨rfl,rfl⟩ (by kernel_rfl) rfl
  (fun f fn hf hfn=>by
   obtain rfl:f=3:=Option.some.inj ((show Tryd.prog.funcNamed "loop.example/innocentgames/laws.FnExactViewsOf" = some 3 by kernel_rfl).symm.trans hf) |>.symm
   obtain rfl:fn=Tryd.f3:=(Option.some.inj (Tryd.func3.symm.trans hfn)).symm
   exact ⟨by kernel_rfl,fun j t ht=>by
    rw [Tryd.params3] at ht
    have h9:t=9:=by
     rcases j with _ | _ | j
     ·simpa using ht.symm
     ·simpa using ht.symm
     ·simp at ht
    subst h9
    exact (show Tryd.prog.wantsStandIn 9=false by kernel_rfl)⟩)
  (by kernel_rfl)
#print axioms card_holds
end Go.Proofs.YthoimoenbccflaaDoor

/- The row and the card of FnExactStrategyPlays: for all arguments the law returns true. Conditions: the listed variables of the library hold what their initialisers lay (the card ties that to the program's text). -/
import Derived.Test.YtdfkiicodfbibaaGreatDoorQ13
import Derived.Test.YtdfkiicodfbibaaGreatDoorRows
import Derived.Test.YtdfkiicodfbibaaGreatDoorTie
import Derived.Test.YtdfkiicodfbibaaGreatDoorCards
import Derived.ChangeSame
import Derived.ChangeVars
import Derived.ChangeMaps5
import Derived.JoinedOf
import Derived.RowKit
import Derived.LaidLaws
import Derived.LaidMore
import Derived.LaidHandle
import Derived.MakeChecks
import Derived.Lib.LaidTab
import Derived.Stop.LaidErr
import Derived.Stop.Joined
import Derived.ProofKit
import Derived.Lib.SmallJoins
import Derived.Deep.Strs
namespace Go.Proofs.YtdfkiicodfbibaaGreatDoor
open Go Go.ChangeShapes Go.WideShapes Go.RowKit Go.Deep
open Go.ChangeMaps (open_string shut_string)
theorem own:ownKnob Tryz.prog.godebug=none:=by kernel_rfl
theorem gt0:(Tryz.prog.globals[2]?).map (·.type)=some 161:=by kernel_rfl
theorem gt1:(Tryz.prog.globals[3]?).map (·.type)=some 161:=by kernel_rfl
theorem gt2:(Tryz.prog.globals[4]?).map (·.type)=some 313:=by kernel_rfl
theorem door_met (os:Os) (args:Array Value):laidMet Tryz.prog Rows.fnExactStrategyPlaysRow.laid ((World.doorLaid Tryz.prog 4000 os).forCall (fun _ _=>0) ⟨#[],args,[]⟩).memory :=
 laidMet_of_run' 8 (by kernel_rfl) (by kernel_rfl)
theorem row71:∀ u,Tryz.prog.typeName? 3 u=some "*errors.errorString"->u=316:=by
 have star : "*" ++ "errors.errorString" = "*errors.errorString":=by decide
 exact fun u hu=>typeName_ptr_named (nm:= "errors.errorString") (by rw [star];kernel_rfl) (by kernel_rfl) (by decide) u (by rw [star];exact hu)
theorem glob_of_laid {W:World} (h:laidMet Tryz.prog Rows.fnExactStrategyPlaysRow.laid W):Glob W:=by
 have h3:=h.tail.tail
 have h4:=h3.tail
 have h5:=h4.tail
 obtain ⟨a1,s1,v1,_⟩:=laid_sentinel h4 Tryz.gn1 gt1 Tryz.underlying161 row71 Tryz.underlying316 Tryz.underlying318 rfl rfl Tryz.underlying9 (by kernel_rfl) (by kernel_rfl)
 obtain ⟨a0,s0,v0,_⟩:=laid_sentinel h5 Tryz.gn0 gt0 Tryz.underlying161 row71 Tryz.underlying316 Tryz.underlying318 rfl rfl Tryz.underlying9 (by kernel_rfl) (by kernel_rfl)
 exact ⟨⟨_,_,v0⟩,⟨_,_,v1⟩,Lib.tabIs_of_head (zs:=Lib.pow10Tab) Tryz.gn2 gt2 Tryz.underlying313 Tryz.underlying271 (by kernel_rfl) (by kernel_rfl) h3⟩
set_option maxRecDepth 100000 in
theorem lifted (os:Os) (started:os.Started) (H:Type) (enc:TypeId×Value->H) :
 ReturnsInHanded {} Tryz.checked os 6 .any (fun w args=>(Rows.fnExactStrategyPlaysSpec.pre enc Tryz.prog Tryz.f6 [] false w args/\laidMetH Tryz.prog Rows.fnExactStrategyPlaysRow.laid w)/\sizedMet enc Tryz.prog Tryz.f6 (OpenSpec.ofChange Rows.fnExactStrategyPlaysSpec) false w args)
  (Rows.fnExactStrategyPlaysSpec.post enc Tryz.prog Tryz.f6 false true false false):=by
 refine returnsInHanded_of_change_and (C:=Tryz.checked) (X:=fun w _=>laidMetH Tryz.prog Rows.fnExactStrategyPlaysRow.laid w) (fun _ _ _ hh h=>h.of_heap hh) own started (by kernel_rfl) Tryz.func6
  (ChangeSpec.witness_shaped (enc:=enc) (C:=Tryz.checked) (os:=os) (X:=fun w _=>laidMetH Tryz.prog Rows.fnExactStrategyPlaysRow.laid w) false (World.doorLaid Tryz.prog 4000 os) #[.string ⟨#[]⟩,.string ⟨#[]⟩,.int .i64 0] 8 rfl (World.shaped_of_RefB (by kernel_rfl) (by kernel_rfl)) (by kernel_rfl) (by kernel_rfl) (by kernel_rfl)
   (by show laidMetH _ _ _;rw [MakeChecks.laidMetH_plain _ _ _ (by kernel_rfl)];exact door_met os _)) ?_
 intro W base args ds gs before hval0 hW _ _ hL _
 have hval:∀ (j:Nat) t v,Tryz.f6.params[j]? = some t->args[j]? = some v->Value.okWide Tryz.prog W .any base t v:=hval0
 have hW':=hW
 obtain ⟨p,q,hA0,hV,rfl,hfz,hnd⟩:=hW
 have hA:DataW.TrodAll enc Tryz.prog W 0 (fun _=>true) true Tryz.f6.params.toList args.toList ds p:=hA0
 rw [Tryz.params6] at hA hval
 obtain ⟨v0,v1,v2,d0,d1,d2,p0,p1,p2,rfl,rfl,rfl,h0,h1,h2⟩:=trodAll_three hA
 have k0:=h0;have k1:=h1;have k2:=h2
 have lt:∀ {t:TypeId} {v:Value} {d:DataW H} {ps:List MemPlace},DataW.Trod enc Tryz.prog W 0 (fun _=>true) true t v d ps->∀ x∈ps,x.block<W.heap.size:=fun h x hx=>by obtain ⟨m,hm⟩:=h;exact DataW.trod_lt m _ _ _ hm x hx
 obtain ⟨rfl,rfl⟩:=trodVars_none hV
 obtain ⟨s0,rfl,rfl,rfl,z0⟩:=open_string Tryz.underlying9 (hval 0 _ v0 rfl rfl) h0
 obtain ⟨s1,rfl,rfl,rfl,z1⟩:=open_string Tryz.underlying9 (hval 1 _ v1 rfl rfl) h1
 obtain ⟨n,rfl,rfl,rfl,hwn⟩:=open_int Tryz.underlying3 (hval 2 _ v2 rfl rfl) h2
 have hg:Glob W:=glob_of_laid (by have h:laidMetH Tryz.prog Rows.fnExactStrategyPlaysRow.laid W:=hL;rwa [MakeChecks.laidMetH_plain _ _ _ (by kernel_rfl)] at h)
 obtain ⟨⟨l0⟩⟩:=s0
 obtain ⟨⟨l1⟩⟩:=s1
 refine (fnExactStrategyPlays_any l0 l1 n W hg).mono fun e W' ⟨he,hb⟩=>?_
 subst he
 have e1:Rows.fnExactStrategyPlaysSpec.fn H ([.lit (.string l0),.lit (.string l1),.lit (.int .i64 n)]++[])={ results:=[.lit (.bool true)],args:=[.lit (.string l0),.lit (.string l1),.lit (.int .i64 n)] }:=by simp [Rows.fnExactStrategyPlaysSpec]
 refine ⟨_,rfl,_,_,_,[],[]++[]++[],[],hW',?_,?_,?_,hb.frame _,fun h=>by cases h⟩
 ·rw [e1];exact trodAll_mk1 (shut_bool Tryz.underlying4 true)
 ·rw [e1];exact trodAll_mk3 (shut_string Tryz.underlying9 z0) (shut_string Tryz.underlying9 z1) (shut_int Tryz.underlying3 hwn)
 ·rw [e1];rfl
theorem bandT {a b:Bool} (h:a=true) (k:b=true):(a && b)=true:=by rw [h,k];rfl
theorem jf0:Rows.fnExactStrategyPlaysRow.wf (OpenSpec.ofChange Rows.fnExactStrategyPlaysSpec)=true:=by kernel_rfl
theorem jf1:laidOutB Tryz.prog=true:=by kernel_rfl
theorem jf2:mapsRowed Tryz.prog=true:=by kernel_rfl
theorem jf3:Tryz.f6.params.all (Tryz.prog.readableRec ·)=true:=by kernel_rfl
theorem jf4:namedTie Tryz.prog Rows.fnExactStrategyPlaysRow.named Rows.fnExactStrategyPlaysSpec.vars=true:=by kernel_rfl
theorem jf5:(Rows.fnExactStrategyPlaysRow.stops == [])=true:=by kernel_rfl
theorem jf6:(Tryz.prog.stops == [])=true:=by kernel_rfl
theorem jf7:(Rows.fnExactStrategyPlaysRow.knobs == [])=true:=by kernel_rfl
theorem jf8:(Tryz.prog.stopKnobs == [])=true:=by kernel_rfl
theorem jf9:(Rows.fnExactStrategyPlaysRow.inPlace == Tryz.prog.inPlace 6)=true:=by kernel_rfl
theorem jf10:(Rows.fnExactStrategyPlaysRow.unfollowed == Tryz.prog.unfollowed 6)=true:=by kernel_rfl
theorem jf11:(Rows.fnExactStrategyPlaysRow.recurses == Tryz.prog.recurses 6)=true:=by kernel_rfl
theorem jf12:(Rows.fnExactStrategyPlaysRow.named == Tryz.prog.varsNamed 6)=true:=by kernel_rfl
theorem jf13:(Rows.fnExactStrategyPlaysRow.maps == (Tryz.f6.params.toList++Rows.fnExactStrategyPlaysSpec.plain.varTypes Tryz.prog).any (Tryz.prog.mapsRec ·))=true:=by kernel_rfl
theorem jf14:(Rows.fnExactStrategyPlaysRow.ifaces == (Tryz.f6.params.toList++Rows.fnExactStrategyPlaysSpec.plain.varTypes Tryz.prog).any (Tryz.prog.ifacesRec ·))=true:=by kernel_rfl
theorem jf15:(Rows.fnExactStrategyPlaysRow.mapsOut == Tryz.prog.mapsAmong Tryz.f6.resultTypes.toList)=true:=by kernel_rfl
theorem jf16:(Rows.fnExactStrategyPlaysRow.loops == (Tryz.f6.params.toList++Rows.fnExactStrategyPlaysSpec.plain.varTypes Tryz.prog).any (Tryz.prog.loopsFrom ·))=true:=by kernel_rfl
theorem jf17:(Rows.fnExactStrategyPlaysRow.wideKeys == (Tryz.f6.params.toList++Rows.fnExactStrategyPlaysSpec.plain.varTypes Tryz.prog++Tryz.f6.resultTypes.toList).any (Tryz.prog.wideKeysFrom ·))=true:=by kernel_rfl
theorem jf18:Rows.fnExactStrategyPlaysSpec.vars.all (Tryz.prog.varReadable ·)=true:=by kernel_rfl
theorem jf19:Tryz.f6.resultTypes.all (fun t=>Tryz.prog.readableRec t && decide (t<Tryz.prog.types.size))=true:=by kernel_rfl
theorem jf20:(Rows.fnExactStrategyPlaysRow.ifacesOut == Tryz.f6.resultTypes.toList.any (Tryz.prog.ifacesRec ·))=true:=by kernel_rfl
theorem jf21:(Rows.fnExactStrategyPlaysRow.loopsOut == Tryz.f6.resultTypes.toList.any (Tryz.prog.loopsFrom ·))=true:=by kernel_rfl
theorem jf22:(Rows.fnExactStrategyPlaysRow.plainKeys == Tryz.prog.plainKeys)=true:=by kernel_rfl
theorem jf23:Rows.fnExactStrategyPlaysRow.shortTexts.isNone=true:=by kernel_rfl
theorem jf24:Tryz.prog.stopsHeard=true:=by kernel_rfl
theorem jf25:Tryz.prog.mayEnter=true:=by kernel_rfl
theorem jf26:(Rows.fnExactStrategyPlaysRow.lifted == Tryz.prog.liftsFinal)=true:=by kernel_rfl
theorem jf27:(Tryz.prog.make == some Rows.fnExactStrategyPlaysRow.make)=true:=by kernel_rfl
theorem jf28:(Rows.fnExactStrategyPlaysRow.kinds == (if Rows.fnExactStrategyPlaysRow.domain.isEmpty then [] else Tryz.f6.params.toList.map fun t=>match Tryz.prog.underlying t with | some (.int k)=>some k | _=>none))=true:=by kernel_rfl
theorem jf29:(Rows.fnExactStrategyPlaysRow.pinned == Rows.fnExactStrategyPlaysRow.pinnedBy)=true:=by kernel_rfl
theorem jf30:(Rows.fnExactStrategyPlaysRow.veiled == (Tryz.f6.params.toList++Rows.fnExactStrategyPlaysSpec.plain.varTypes Tryz.prog++Tryz.f6.resultTypes.toList).any (Tryz.prog.veiledRec ·))=true:=by kernel_rfl
theorem jf31:Rows.fnExactStrategyPlaysRow.veiledFits Tryz.prog Tryz.f6.params.toList (Tryz.f6.params.toList++Rows.fnExactStrategyPlaysSpec.plain.varTypes Tryz.prog++Tryz.f6.resultTypes.toList)=true:=by kernel_rfl
set_option maxRecDepth 100000 in
theorem joined:joinedFacts Tryz.prog 6 Tryz.f6 Rows.fnExactStrategyPlaysSpec Rows.fnExactStrategyPlaysRow=true:=by
 unfold joinedFacts
 exact bandT (bandT (bandT (bandT (bandT (bandT (bandT (bandT (bandT (bandT (bandT (bandT (bandT (bandT (bandT (bandT (bandT (bandT (bandT (bandT (bandT (bandT (bandT (bandT (bandT (bandT (bandT (bandT (bandT (bandT (bandT jf0 jf1) jf2) jf3) jf4) jf5) jf6) jf7) jf8) jf9) jf10) jf11) jf12) jf13) jf14) jf15) jf16) jf17) jf18) jf19) jf20) jf21) jf22) jf23) jf24) jf25) jf26) jf27) jf28) jf29) jf30) jf31
theorem row_holds:Rows.FnExactStrategyPlaysSaid :=
 OpenClaim.holds_of_wide 6 Tryz.f6 rfl rfl rfl rfl rfl rfl rfl ⟨rfl,rfl,rfl,rfl,rfl⟩ rfl rfl rfl rfl rfl (by kernel_rfl) Tryz.func6 joined
  (of_decide_eq_true (by kernel_rfl)) (by unfold Func.isWrapper;first | (rw [if_pos (by decide +kernel)];kernel_rfl) | (rw [if_neg (by decide +kernel)];exact ⟨rfl,rfl⟩))
  (fun os started H enc _=>lifted os started H enc)
theorem cf_main:Tryz.prog.mainIs=some (Rows.fnExactStrategyPlaysCard.stood.harness.1,Rows.fnExactStrategyPlaysCard.stood.harness.2.toList):=by kernel_rfl
theorem cf_looks:true=Tryz.prog.looks []:=by kernel_rfl
theorem cf_goes:false=Rows.fnExactStrategyPlaysRow.goesBy Tryz.prog:=by kernel_rfl
theorem cf_wf:Rows.fnExactStrategyPlaysRow.wfByText (OpenSpec.ofChange Rows.fnExactStrategyPlaysSpec)=true:=by kernel_rfl
theorem cf_named:Tryz.prog.funcNamed "loop.example/innocentgames/laws.FnExactStrategyPlays" = some 6:=by kernel_rfl
theorem cf_ws0:Tryz.prog.wantsStandIn 3=false:=by kernel_rfl
theorem cf_ws1:Tryz.prog.wantsStandIn 9=false:=by kernel_rfl
theorem card_holds:Rows.FnExactStrategyPlaysCardSaid :=
 Claim7.holds_tied_plain_at .later [] [.data,.data,.data,.sentinel,.sentinel] true Rows.fnExactStrategyPlaysCard.stood.harness true
  row_holds (fun _ h=>by cases h) cf_wf (fun _ h=>by cases h) fnExactStrategyPlays_row_tie rfl ⟨rfl,rfl⟩ cf_main rfl
  (fun f fn hf hfn=>by
   obtain rfl:f=6:=Option.some.inj (cf_named.symm.trans hf) |>.symm
   obtain rfl:fn=Tryz.f6:=(Option.some.inj (Tryz.func6.symm.trans hfn)).symm
   exact ⟨cf_looks,fun j t ht=>by
    rw [Tryz.params6] at ht
    have h9:t=9\/t=3:=by
     rcases j with _ | _ | _ | j
     ·exact .inl (by simpa using ht.symm)
     ·exact .inl (by simpa using ht.symm)
     ·exact .inr (by simpa using ht.symm)
     ·simp at ht
    rcases h9 with rfl | rfl
    ·exact cf_ws1
    ·exact cf_ws0⟩)
  cf_goes
#print axioms card_holds
end Go.Proofs.YtdfkiicodfbibaaGreatDoor

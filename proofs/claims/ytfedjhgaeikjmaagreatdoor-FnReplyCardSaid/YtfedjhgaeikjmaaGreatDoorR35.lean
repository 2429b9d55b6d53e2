/- The row and the card of FnReply: for all arguments the law returns true. Conditions: the listed variables of the library hold what their initialisers lay (the card ties that to the program's text). -/
import Derived.Test.YtfedjhgaeikjmaaGreatDoorQ13
import Derived.Test.YtfedjhgaeikjmaaGreatDoorRows
import Derived.Test.YtfedjhgaeikjmaaGreatDoorTie
import Derived.Test.YtfedjhgaeikjmaaGreatDoorCards
import Derived.ChangeSame
import Derived.ChangeVars
import Derived.ChangeMaps5
import Derived.JoinedOf
import Derived.RowKit
import Derived.OpenShut
import Derived.ShutString
import Derived.ChangeOld
import Derived.Below
import Derived.LaidLaws
import Derived.LaidMore
import Derived.LaidHandle
import Derived.MakeChecks
import Derived.Lib.LaidTab
import Derived.Stop.LaidErr
import Derived.Stop.Joined
import Derived.ProofKit
namespace Go.Proofs.YtfedjhgaeikjmaaGreatDoor
open Go Go.ChangeShapes Go.WideShapes Go.ChangeAt Go.RowKit
open Go.ChangeMaps (open_string shut_string)
theorem own:ownKnob Tryz.prog.godebug=none:=by kernel_rfl
theorem laidOut:laidOutB Tryz.prog=true:=by kernel_rfl
theorem gt0:(Tryz.prog.globals[1]?).map (·.type)=some 128:=by kernel_rfl
theorem gt1:(Tryz.prog.globals[2]?).map (·.type)=some 128:=by kernel_rfl
theorem gt2:(Tryz.prog.globals[3]?).map (·.type)=some 247:=by kernel_rfl
theorem door_met (os:Os) (args:Array Value):laidMet Tryz.prog Rows.fnReplyRow.laid ((World.doorLaid Tryz.prog 4000 os).forCall (fun _ _=>0) ⟨#[],args,[]⟩).memory :=
 laidMet_of_run' 8 (by kernel_rfl) (by kernel_rfl)
theorem row71:∀ u,Tryz.prog.typeName? 3 u=some "*errors.errorString"->u=253:=by
 have star : "*" ++ "errors.errorString" = "*errors.errorString":=by decide
 exact fun u hu=>typeName_ptr_named (nm:= "errors.errorString") (by rw [star];kernel_rfl) (by kernel_rfl) (by decide) u (by rw [star];exact hu)
theorem glob_of_laid {W:World} (h:laidMet Tryz.prog Rows.fnReplyRow.laid W):jD W:=by
 have h3:=h.tail.tail
 have h4:=h3.tail
 have h5:=h4.tail
 obtain ⟨a1,s1,v1,_⟩:=laid_sentinel h4 Tryz.gn1 gt1 Tryz.underlying128 row71 Tryz.underlying253 Tryz.underlying255 rfl rfl Tryz.underlying9 (by kernel_rfl) (by kernel_rfl)
 obtain ⟨a0,s0,v0,_⟩:=laid_sentinel h5 Tryz.gn0 gt0 Tryz.underlying128 row71 Tryz.underlying253 Tryz.underlying255 rfl rfl Tryz.underlying9 (by kernel_rfl) (by kernel_rfl)
 exact ⟨⟨_,_,v0⟩,⟨_,_,v1⟩,Lib.tabIs_of_head (zs:=Lib.pow10Tab) Tryz.gn2 gt2 Tryz.underlying247 Tryz.underlying232 (by kernel_rfl) (by kernel_rfl) h3⟩
set_option maxRecDepth 100000 in
theorem lifted (os:Os) (started:os.Started) (H:Type) (enc:TypeId×Value->H) :
 ReturnsInHanded {} Tryz.checked os 7 .any (fun w args=>(Rows.fnReplySpec.pre enc Tryz.prog Tryz.f7 [] false w args/\laidMetH Tryz.prog Rows.fnReplyRow.laid w)/\sizedMet enc Tryz.prog Tryz.f7 (OpenSpec.ofChange Rows.fnReplySpec) false w args)
  (Rows.fnReplySpec.post enc Tryz.prog Tryz.f7 false true false false):=by
 refine returnsInHanded_of_change_and (C:=Tryz.checked) (X:=fun w _=>laidMetH Tryz.prog Rows.fnReplyRow.laid w) (fun _ _ _ hh h=>h.of_heap hh) own started (by kernel_rfl) Tryz.func7
  (ChangeSpec.witness_shaped (enc:=enc) (C:=Tryz.checked) (os:=os) (X:=fun w _=>laidMetH Tryz.prog Rows.fnReplyRow.laid w) false (World.doorLaid Tryz.prog 4000 os) #[.slice none 0 0] 8 rfl (World.shaped_of_RefB (by kernel_rfl) (by kernel_rfl)) (by kernel_rfl) (by kernel_rfl) (by kernel_rfl)
   (by show laidMetH _ _ _;rw [MakeChecks.laidMetH_plain _ _ _ (by kernel_rfl)];exact door_met os _)) ?_
 intro W base args ds gs before Dp hW _ _ hL _
 have dr:∀ (j:Nat) t v,Tryz.f7.params[j]? = some t->args[j]? = some v->Value.okWide Tryz.prog W .any base t v:=Dp
 have hW':=hW
 obtain ⟨p,q,hA0,hV,rfl,hfz,hnd⟩:=hW
 have hA:DataW.TrodAll enc Tryz.prog W 0 (fun _=>true) true Tryz.f7.params.toList args.toList ds p:=hA0
 rw [Tryz.params7] at hA dr
 obtain ⟨v0,vs0,d0,ds0,p0,q0,eO,rfl,rfl,h0,r0⟩:=trodAll_cons hA
 obtain ⟨rfl,rfl,rfl⟩:=trodAll_nil r0
 obtain rfl:args=#[v0]:=by cases args;simp_all
 obtain ⟨rfl,rfl⟩:=trodVars_none hV
 obtain ⟨a0,Dg,FS,rfl⟩:=okWide_slice Tryz.underlying22 (dr 0 22 v0 rfl rfl)
 have k0:=h0
 have lt0:∀ x∈p0,x.block<W.heap.size:=by obtain ⟨m,hm⟩:=k0;exact DataW.trod_lt m _ _ _ hm
 obtain ⟨z0,w0⟩:∃ zs,Row8 W a0 Dg FS zs:=by
  obtain ⟨fuel,hf⟩:=h0
  rcases open_ints Tryz.underlying22 Tryz.underlying5 (by kernel_rfl) hf with ⟨hcs,_⟩ | ⟨x,l,c,zs,hcs,_,hl,hm,hz,_,dJ,hwz⟩
  ·simp [Value.cells] at hcs
   obtain ⟨rfl,rfl,rfl⟩:=hcs
   exact ⟨[],.inl ⟨rfl,rfl,rfl,rfl⟩⟩
  ·simp [Value.cells] at hcs
   obtain ⟨rfl,rfl,rfl⟩:=hcs
   exact ⟨zs,.inr ⟨_,rfl,hl,hm,by simpa using hz,dJ,hwz⟩⟩
 have hg:jD W:=glob_of_laid (by have h:laidMetH Tryz.prog Rows.fnReplyRow.laid W:=hL;rwa [MakeChecks.laidMetH_plain _ _ _ (by kernel_rfl)] at h)
 refine (fnReply_any a0 Dg FS z0 W w0 hg).mono fun e W' ⟨he,bel⟩=>?_
 subst he
 exact ⟨_,rfl,_,_,_,[],_,[],hW',trodAll_mk1 (shut_bool Tryz.underlying4 _),(trodAll_cons_mk (Below.trod laidOut (by kernel_rfl) (of_decide_eq_true (by kernel_rfl)) k0 bel lt0) trodAll_mk0),rfl,bel.frame _,fun h=>by cases h⟩
theorem qG {a b:Bool} (h:a=true) (k:b=true):(a && b)=true:=by rw [h,k];rfl
theorem jf0:Rows.fnReplyRow.wf (OpenSpec.ofChange Rows.fnReplySpec)=true:=by kernel_rfl
theorem jf1:laidOutB Tryz.prog=true:=by kernel_rfl
theorem jf2:mapsRowed Tryz.prog=true:=by kernel_rfl
theorem jf3:Tryz.f7.params.all (Tryz.prog.readableRec ·)=true:=by kernel_rfl
theorem jf4:namedTie Tryz.prog Rows.fnReplyRow.named Rows.fnReplySpec.vars=true:=by kernel_rfl
theorem jf5:(Rows.fnReplyRow.stops == [])=true:=by kernel_rfl
theorem jf6:(Tryz.prog.stops == [])=true:=by kernel_rfl
theorem jf7:(Rows.fnReplyRow.knobs == [])=true:=by kernel_rfl
theorem jf8:(Tryz.prog.stopKnobs == [])=true:=by kernel_rfl
theorem jf9:(Rows.fnReplyRow.inPlace == Tryz.prog.inPlace 7)=true:=by kernel_rfl
theorem jf10:(Rows.fnReplyRow.unfollowed == Tryz.prog.unfollowed 7)=true:=by kernel_rfl
theorem jf11:(Rows.fnReplyRow.recurses == Tryz.prog.recurses 7)=true:=by kernel_rfl
theorem jf12:(Rows.fnReplyRow.named == Tryz.prog.varsNamed 7)=true:=by kernel_rfl
theorem jf13:(Rows.fnReplyRow.maps == (Tryz.f7.params.toList++Rows.fnReplySpec.plain.varTypes Tryz.prog).any (Tryz.prog.mapsRec ·))=true:=by kernel_rfl
theorem jf14:(Rows.fnReplyRow.ifaces == (Tryz.f7.params.toList++Rows.fnReplySpec.plain.varTypes Tryz.prog).any (Tryz.prog.ifacesRec ·))=true:=by kernel_rfl
theorem jf15:(Rows.fnReplyRow.mapsOut == Tryz.prog.mapsAmong Tryz.f7.resultTypes.toList)=true:=by kernel_rfl
theorem jf16:(Rows.fnReplyRow.loops == (Tryz.f7.params.toList++Rows.fnReplySpec.plain.varTypes Tryz.prog).any (Tryz.prog.loopsFrom ·))=true:=by kernel_rfl
theorem jf17:(Rows.fnReplyRow.wideKeys == (Tryz.f7.params.toList++Rows.fnReplySpec.plain.varTypes Tryz.prog++Tryz.f7.resultTypes.toList).any (Tryz.prog.wideKeysFrom ·))=true:=by kernel_rfl
theorem jf18:Rows.fnReplySpec.vars.all (Tryz.prog.varReadable ·)=true:=by kernel_rfl
theorem jf19:Tryz.f7.resultTypes.all (fun t=>Tryz.prog.readableRec t && decide (t<Tryz.prog.types.size))=true:=by kernel_rfl
theorem jf20:(Rows.fnReplyRow.ifacesOut == Tryz.f7.resultTypes.toList.any (Tryz.prog.ifacesRec ·))=true:=by kernel_rfl
theorem jf21:(Rows.fnReplyRow.loopsOut == Tryz.f7.resultTypes.toList.any (Tryz.prog.loopsFrom ·))=true:=by kernel_rfl
theorem jf22:(Rows.fnReplyRow.plainKeys == Tryz.prog.plainKeys)=true:=by kernel_rfl
theorem jf23:Rows.fnReplyRow.shortTexts.isNone=true:=by kernel_rfl
theorem jf24:Tryz.prog.stopsHeard=true:=by kernel_rfl
theorem jf25:Tryz.prog.mayEnter=true:=by kernel_rfl
theorem jf26:(Rows.fnReplyRow.lifted == Tryz.prog.liftsFinal)=true:=by kernel_rfl
theorem jf27:(Tryz.prog.make == some Rows.fnReplyRow.make)=true:=by kernel_rfl
theorem jf28:(Rows.fnReplyRow.kinds == (if Rows.fnReplyRow.domain.isEmpty then [] else Tryz.f7.params.toList.map fun t=>match Tryz.prog.underlying t with | some (.int k)=>some k | _=>none))=true:=by kernel_rfl
theorem jf29:(Rows.fnReplyRow.pinned == Rows.fnReplyRow.pinnedBy)=true:=by kernel_rfl
theorem jf30:(Rows.fnReplyRow.veiled == (Tryz.f7.params.toList++Rows.fnReplySpec.plain.varTypes Tryz.prog++Tryz.f7.resultTypes.toList).any (Tryz.prog.veiledRec ·))=true:=by kernel_rfl
theorem jf31:Rows.fnReplyRow.veiledFits Tryz.prog Tryz.f7.params.toList (Tryz.f7.params.toList++Rows.fnReplySpec.plain.varTypes Tryz.prog++Tryz.f7.resultTypes.toList)=true:=by kernel_rfl
set_option maxRecDepth 100000 in
theorem joined:joinedFacts Tryz.prog 7 Tryz.f7 Rows.fnReplySpec Rows.fnReplyRow=true:=by
 unfold joinedFacts
 exact qG (qG (qG (qG (qG (qG (qG (qG (qG (qG (qG (qG (qG (qG (qG (qG (qG (qG (qG (qG (qG (qG (qG (qG (qG (qG (qG (qG (qG (qG (qG jf0 jf1) jf2) jf3) jf4) jf5) jf6) jf7) jf8) jf9) jf10) jf11) jf12) jf13) jf14) jf15) jf16) jf17) jf18) jf19) jf20) jf21) jf22) jf23) jf24) jf25) jf26) jf27) jf28) jf29) jf30) jf31
theorem row_holds:Rows.FnReplySaid :=
 OpenClaim.holds_of_wide 7 Tryz.f7 rfl rfl rfl rfl rfl rfl rfl ⟨rfl,rfl,rfl,rfl,rfl⟩ rfl rfl rfl rfl rfl (by kernel_rfl) Tryz.func7 joined
  (of_decide_eq_true (by kernel_rfl)) (by unfold Func.isWrapper;first | (rw [if_pos (by decide +kernel)];kernel_rfl) | (rw [if_neg (by decide +kernel)];exact ⟨rfl,rfl⟩))
  (fun os started H enc _=>lifted os started H enc)
theorem cf_main:Tryz.prog.mainIs=some (Rows.fnReplyCard.stood.harness.1,Rows.fnReplyCard.stood.harness.2.toList):=by kernel_rfl
theorem cf_looks:true=Tryz.prog.looks []:=by kernel_rfl
theorem cf_goes:false=Rows.fnReplyRow.goesBy Tryz.prog:=by kernel_rfl
theorem cf_wf:Rows.fnReplyRow.wfByText (OpenSpec.ofChange Rows.fnReplySpec)=true:=by kernel_rfl
theorem cf_named:Tryz.prog.funcNamed "loop.example/innocentgames/laws.FnReply" = some 7:=by kernel_rfl
theorem cf_ws0:Tryz.prog.wantsStandIn 22=false:=by kernel_rfl
theorem card_holds:Rows.FnReplyCardSaid :=
 Claim7.holds_tied_plain_at .later [] [.data,.data,.data,.sentinel,.sentinel] true Rows.fnReplyCard.stood.harness true
  row_holds (fun _ h=>by cases h) cf_wf (fun _ h=>by cases h) fnReply_row_tie rfl ⟨rfl,rfl⟩ cf_main rfl
  (fun f fn hf fD=>by
   obtain rfl:f=7:=Option.some.inj (cf_named.symm.trans hf) |>.symm
   obtain rfl:fn=Tryz.f7:=(Option.some.inj (Tryz.func7.symm.trans fD)).symm
   exact ⟨cf_looks,fun j t ht=>by
    rw [Tryz.params7] at ht
    have h9:t=22:=by
     rcases j with _ | j
     ·simpa using ht.symm
     ·simp at ht
    subst h9
    exact cf_ws0⟩)
  cf_goes
#print axioms card_holds
end Go.Proofs.YtfedjhgaeikjmaaGreatDoor

/- The row and the card of FnExactTermRun: for all arguments the law returns true. Conditions: the listed variables of the library hold what their initialisers lay (the card ties that to the program's text). -/
import Derived.Test.YtnfenijemllkbaaGreatDoorQ18
import Derived.Test.YtnfenijemllkbaaGreatDoorRows
import Derived.Test.YtnfenijemllkbaaGreatDoorTie
import Derived.Test.YtnfenijemllkbaaGreatDoorCards
import Derived.ChangeSame
import Derived.ChangeVars
import Derived.ChangeMaps5
import Derived.JoinedOf
import Derived.RowKit
import Derived.LaidLaws
import Derived.LaidMore
import Derived.LaidHandle
import Derived.MakeChecks
import Derived.Lib.LaidTab
import Derived.Stop.LaidErr
import Derived.Stop.Joined
import Derived.Deep.Strs
import Derived.OpenVars
import Derived.ProofKit
namespace Go.Proofs.YtnfenijemllkbaaGreatDoor
open Go Go.ChangeShapes Go.WideShapes Go.RowKit Go.Deep
open Go.ChangeMaps (open_string shut_string)
theorem own:ownKnob Tryz.prog.godebug=none:=by kernel_rfl
theorem laidOut:laidOutB Tryz.prog=true:=by kernel_rfl
theorem gt0:(Tryz.prog.globals[5]?).map (·.type)=some 127:=by kernel_rfl
theorem gt1:(Tryz.prog.globals[6]?).map (·.type)=some 127:=by kernel_rfl
theorem gt2:(Tryz.prog.globals[1]?).map (·.type)=some 222:=by kernel_rfl
theorem gt3:(Tryz.prog.globals[0]?).map (·.type)=some 127:=by kernel_rfl
theorem gnT:Tryz.prog.globalNamed "loop.example/innocentgames/impl.errTooMany" = some 0:=by kernel_rfl
theorem var_cell {P:Program} {w:World} {nm:String} {g:Nat} {x:Value} (hg:P.globalNamed nm=some g) (h:w.var? P nm=some #[x]):w.cell? ⟨g,0,none⟩=some x:=by
 unfold World.var? at h
 rw [hg] at h
 simp only [Option.bind_some] at h
 unfold World.cell?
 cases ho:w.heap[g]? with
 | none=>rw [ho] at h;simp at h
 | some o =>
   rw [ho] at h
   cases o with
   | cells cs e fz=>simp only [Option.some.injEq] at h;subst h;simp
   | _=>simp at h
theorem door_met (os:Os) (args:Array Value):laidMet Tryz.prog Rows.fnExactTermRunRow.laid ((World.doorLaid Tryz.prog 4000 os).forCall (fun _ _=>0) ⟨#[],args,[]⟩).memory :=
 laidMet_of_run' 8 (by kernel_rfl) (by kernel_rfl)
theorem row71:∀ u,Tryz.prog.typeName? 3 u=some "*errors.errorString"->u=268:=by
 have star : "*" ++ "errors.errorString" = "*errors.errorString":=by decide
 exact fun u hu=>typeName_ptr_named (nm:= "errors.errorString") (by rw [star];kernel_rfl) (by kernel_rfl) (by decide) u (by rw [star];exact hu)
theorem glob_of_laid {W:World} (h:laidMet Tryz.prog Rows.fnExactTermRunRow.laid W):uC W/\yF W:=by
 have h3:=h.tail.tail
 have h4:=h3.tail
 have h5:=h4.tail
 have h6:=h5.tail
 obtain ⟨a1,s1,v1,_⟩:=laid_sentinel h4 Tryz.gn1 gt1 Tryz.underlying127 row71 Tryz.underlying268 Tryz.underlying270 rfl rfl Tryz.underlying9 (by kernel_rfl) (by kernel_rfl)
 obtain ⟨a0,s0,v0,_⟩:=laid_sentinel h5 Tryz.gn0 gt0 Tryz.underlying127 row71 Tryz.underlying268 Tryz.underlying270 rfl rfl Tryz.underlying9 (by kernel_rfl) (by kernel_rfl)
 obtain ⟨a2,s2,v2,_⟩:=laid_sentinel h6 gnT gt3 Tryz.underlying127 row71 Tryz.underlying268 Tryz.underlying270 rfl rfl Tryz.underlying9 (by kernel_rfl) (by kernel_rfl)
 exact ⟨⟨⟨_,_,v0⟩,⟨_,_,v1⟩,Lib.tabIs_of_head (zs:=Lib.pow10Tab) Tryz.gn2 gt2 Tryz.underlying222 Tryz.underlying195 (by kernel_rfl) (by kernel_rfl) h3⟩,⟨_,var_cell gnT v2⟩⟩
theorem str_self (s:ByteArray):Value.string s=str s.data.toList:=by cases s;simp [str]
theorem strs_of {H:Type} {enc:TypeId×Value->H} {W:World} {v:Value} {d:DataW H} {p:List MemPlace} {a:Option Addr} {len cap:Nat} (hv:v=.slice a len cap) (h:DataW.Trod enc Tryz.prog W 0 (fun _=>true) true 22 v d p) :
 ∃ xs:List Bs,xs.length=len/\vw W a xs/\len<=maxLen/\∀ x∈xs,x.length<=maxLen:=by
 subst hv
 obtain ⟨fuel,hf⟩:=h
 rcases open_strs Tryz.underlying22 Tryz.underlying9 (by kernel_rfl) hf with ⟨aP,_⟩ | ⟨a',len',cap',m,Sx,aP,_,hl,hm,Gx,_,a_⟩
 ·simp [Value.cells] at aP
  obtain ⟨rfl,rfl,rfl⟩:=aP
  exact ⟨[],rfl,fun k s h=>by simp at h,Nat.zero_le _,fun x h=>by simp at h⟩
 ·simp [Value.cells] at aP
  obtain ⟨rfl,rfl,rfl⟩:=aP
  simp only [if_true] at Gx
  subst Gx
  refine ⟨(List.range len).map fun i=>(Sx i).data.toList,by simp,fun k s h=>?_,by omega,fun x hx=>?_⟩
  ·rw [List.getElem?_map,Option.map_eq_some_iff] at h
   obtain ⟨i,hi,rfl⟩:=h
   obtain ⟨hk,rfl⟩:=List.getElem?_eq_some_iff.1 hi
   simp only [List.length_range] at hk
   simp only [List.getElem_range]
   obtain ⟨b,off,spot⟩:=a'
   have h0:=(a_ k (by omega)).1
   have OX:spot=none:=by simpa [Addr.add] using World.cell?_spot (a_ 0 (by omega)).1
   subst OX
   exact ⟨b,off,rfl,by rw [<- str_self,<- add_plain];exact h0⟩
  ·simp only [List.mem_map,List.mem_range] at hx
   obtain ⟨i,hi,rfl⟩:=hx
   have:=(a_ i (by omega)).2
   simpa using this
set_option maxRecDepth 100000 in
theorem lifted (os:Os) (started:os.Started) (H:Type) (enc:TypeId×Value->H) :
 ReturnsInHanded {} Tryz.checked os 3 .any (fun w args=>(Rows.fnExactTermRunSpec.pre enc Tryz.prog Tryz.f3 [] false w args/\laidMetH Tryz.prog Rows.fnExactTermRunRow.laid w)/\sizedMet enc Tryz.prog Tryz.f3 (OpenSpec.ofChange Rows.fnExactTermRunSpec) false w args)
  (Rows.fnExactTermRunSpec.post enc Tryz.prog Tryz.f3 false true false false):=by
 refine returnsInHanded_of_change_and (C:=Tryz.checked) (X:=fun w _=>laidMetH Tryz.prog Rows.fnExactTermRunRow.laid w) (fun _ _ _ hh h=>h.of_heap hh) own started (by kernel_rfl) Tryz.func3
  (ChangeSpec.witness_shaped (enc:=enc) (C:=Tryz.checked) (os:=os) (X:=fun w _=>laidMetH Tryz.prog Rows.fnExactTermRunRow.laid w) false (World.doorLaid Tryz.prog 4000 os) #[.string ⟨#[]⟩,.slice none 0 0] 8 rfl (World.shaped_of_RefB (by kernel_rfl) (by kernel_rfl)) (by kernel_rfl) (by kernel_rfl) (by kernel_rfl)
   (by show laidMetH _ _ _;rw [MakeChecks.laidMetH_plain _ _ _ (by kernel_rfl)];exact door_met os _)) ?_
 intro W base args ds gs before OK hW _ _ hL _
 have G4:∀ (j:Nat) t v,Tryz.f3.params[j]? = some t->args[j]? = some v->Value.okWide Tryz.prog W .any base t v:=OK
 have NX:=hW
 obtain ⟨p,q,Lc,hV,rfl,hfz,Gw⟩:=hW
 have hA:DataW.TrodAll enc Tryz.prog W 0 (fun _=>true) true Tryz.f3.params.toList args.toList ds p:=Lc
 rw [Tryz.params3] at hA G4
 obtain ⟨v0,v1,d0,d1,p0,p1,rfl,rfl,rfl,h0,h1⟩:=trodAll_two hA
 obtain ⟨g,_,_,_,gd,_,rfl,_⟩:=trodVars_one hV
 have k0:=h0;have k1:=h1
 have lt:∀ {t:TypeId} {v:Value} {d:DataW H} {ps:List MemPlace},DataW.Trod enc Tryz.prog W 0 (fun _=>true) true t v d ps->∀ x∈ps,x.block<W.heap.size:=fun h x hx=>by obtain ⟨m,hm⟩:=h;exact DataW.trod_lt m _ _ _ hm x hx
 obtain ⟨s0,rfl,rfl,rfl,z0⟩:=open_string Tryz.underlying9 (G4 0 _ v0 rfl rfl) h0
 obtain ⟨a1,len1,cap1,rfl⟩:=okWide_slice Tryz.underlying22 (G4 1 22 v1 rfl rfl)
 obtain ⟨xs1,rfl,Ba,Gy,hxs1⟩:=strs_of rfl h1
 have hg:=glob_of_laid (by have h:laidMetH Tryz.prog Rows.fnExactTermRunRow.laid W:=hL;rwa [MakeChecks.laidMetH_plain _ _ _ (by kernel_rfl)] at h)
 obtain ⟨⟨l0⟩⟩:=s0
 refine (cn l0 xs1 a1 cap1 W hg.1 hg.2 Ba (sU Gy (by unfold maxLen;omega)) (fun x h=>sU (hxs1 x h) (by unfold maxLen;omega))).mono fun e W' ⟨he,hb⟩=>?_
 subst he
 refine ⟨_,rfl,_,_,_,[],[]++p1,q,NX,trodAll_mk1 (shut_bool Tryz.underlying4 true),?_,hb.trodVars laidOut (by kernel_rfl) hV,hb.frame _,fun h=>by cases h⟩
 exact trodAll_mk2 (Below.trod laidOut (by kernel_rfl) (of_decide_eq_true (by kernel_rfl)) k0 hb (lt k0)) (Below.trod laidOut (by kernel_rfl) (of_decide_eq_true (by kernel_rfl)) k1 hb (lt k1))
theorem ji {a b:Bool} (h:a=true) (k:b=true):(a && b)=true:=by rw [h,k];rfl
theorem jf0:Rows.fnExactTermRunRow.wf (OpenSpec.ofChange Rows.fnExactTermRunSpec)=true:=by kernel_rfl
theorem jf1:laidOutB Tryz.prog=true:=by kernel_rfl
theorem jf2:mapsRowed Tryz.prog=true:=by kernel_rfl
theorem jf3:Tryz.f3.params.all (Tryz.prog.readableRec ·)=true:=by kernel_rfl
theorem jf4:namedTie Tryz.prog Rows.fnExactTermRunRow.named Rows.fnExactTermRunSpec.vars=true:=by kernel_rfl
theorem jf5:(Rows.fnExactTermRunRow.stops == [])=true:=by kernel_rfl
theorem jf6:(Tryz.prog.stops == [])=true:=by kernel_rfl
theorem jf7:(Rows.fnExactTermRunRow.knobs == [])=true:=by kernel_rfl
theorem jf8:(Tryz.prog.stopKnobs == [])=true:=by kernel_rfl
theorem jf9:(Rows.fnExactTermRunRow.inPlace == Tryz.prog.inPlace 3)=true:=by kernel_rfl
theorem jf10:(Rows.fnExactTermRunRow.unfollowed == Tryz.prog.unfollowed 3)=true:=by kernel_rfl
theorem jf11:(Rows.fnExactTermRunRow.recurses == Tryz.prog.recurses 3)=true:=by kernel_rfl
theorem jf12:(Rows.fnExactTermRunRow.named == Tryz.prog.varsNamed 3)=true:=by kernel_rfl
theorem jf13:(Rows.fnExactTermRunRow.maps == (Tryz.f3.params.toList++Rows.fnExactTermRunSpec.plain.varTypes Tryz.prog).any (Tryz.prog.mapsRec ·))=true:=by kernel_rfl
theorem jf14:(Rows.fnExactTermRunRow.ifaces == (Tryz.f3.params.toList++Rows.fnExactTermRunSpec.plain.varTypes Tryz.prog).any (Tryz.prog.ifacesRec ·))=true:=by kernel_rfl
theorem jf15:(Rows.fnExactTermRunRow.mapsOut == Tryz.prog.mapsAmong Tryz.f3.resultTypes.toList)=true:=by kernel_rfl
theorem jf16:(Rows.fnExactTermRunRow.loops == (Tryz.f3.params.toList++Rows.fnExactTermRunSpec.plain.varTypes Tryz.prog).any (Tryz.prog.loopsFrom ·))=true:=by kernel_rfl
theorem jf17:(Rows.fnExactTermRunRow.wideKeys == (Tryz.f3.params.toList++Rows.fnExactTermRunSpec.plain.varTypes Tryz.prog++Tryz.f3.resultTypes.toList).any (Tryz.prog.wideKeysFrom ·))=true:=by kernel_rfl
theorem jf18:Rows.fnExactTermRunSpec.vars.all (Tryz.prog.varReadable ·)=true:=by kernel_rfl
theorem jf19:Tryz.f3.resultTypes.all (fun t=>Tryz.prog.readableRec t && decide (t<Tryz.prog.types.size))=true:=by kernel_rfl
theorem jf20:(Rows.fnExactTermRunRow.ifacesOut == Tryz.f3.resultTypes.toList.any (Tryz.prog.ifacesRec ·))=true:=by kernel_rfl
theorem jf21:(Rows.fnExactTermRunRow.loopsOut == Tryz.f3.resultTypes.toList.any (Tryz.prog.loopsFrom ·))=true:=by kernel_rfl
theorem jf22:(Rows.fnExactTermRunRow.plainKeys == Tryz.prog.plainKeys)=true:=by kernel_rfl
theorem jf23:Rows.fnExactTermRunRow.shortTexts.isNone=true:=by kernel_rfl
theorem jf24:Tryz.prog.stopsHeard=true:=by kernel_rfl
theorem jf25:Tryz.prog.mayEnter=true:=by kernel_rfl
theorem jf26:(Rows.fnExactTermRunRow.lifted == Tryz.prog.liftsFinal)=true:=by kernel_rfl
theorem jf27:(Tryz.prog.make == some Rows.fnExactTermRunRow.make)=true:=by kernel_rfl
theorem jf28:(Rows.fnExactTermRunRow.kinds == (if Rows.fnExactTermRunRow.domain.isEmpty then [] else Tryz.f3.params.toList.map fun t=>match Tryz.prog.underlying t with | some (.int k)=>some k | _=>none))=true:=by kernel_rfl
theorem jf29:(Rows.fnExactTermRunRow.pinned == Rows.fnExactTermRunRow.pinnedBy)=true:=by kernel_rfl
theorem jf30:(Rows.fnExactTermRunRow.veiled == (Tryz.f3.params.toList++Rows.fnExactTermRunSpec.plain.varTypes Tryz.prog++Tryz.f3.resultTypes.toList).any (Tryz.prog.veiledRec ·))=true:=by kernel_rfl
theorem jf31:Rows.fnExactTermRunRow.veiledFits Tryz.prog Tryz.f3.params.toList (Tryz.f3.params.toList++Rows.fnExactTermRunSpec.plain.varTypes Tryz.prog++Tryz.f3.resultTypes.toList)=true:=by kernel_rfl
set_option maxRecDepth 100000 in
theorem joined:joinedFacts Tryz.prog 3 Tryz.f3 Rows.fnExactTermRunSpec Rows.fnExactTermRunRow=true:=by
 unfold joinedFacts
 exact ji (ji (ji (ji (ji (ji (ji (ji (ji (ji (ji (ji (ji (ji (ji (ji (ji (ji (ji (ji (ji (ji (ji (ji (ji (ji (ji (ji (ji (ji (ji jf0 jf1) jf2) jf3) jf4) jf5) jf6) jf7) jf8) jf9) jf10) jf11) jf12) jf13) jf14) jf15) jf16) jf17) jf18) jf19) jf20) jf21) jf22) jf23) jf24) jf25) jf26) jf27) jf28) jf29) jf30) jf31
theorem row_holds:Rows.FnExactTermRunSaid :=
 OpenClaim.holds_of_wide 3 Tryz.f3 rfl rfl rfl rfl rfl rfl rfl ⟨rfl,rfl,rfl,rfl,rfl⟩ rfl rfl rfl rfl rfl (by kernel_rfl) Tryz.func3 joined
  (of_decide_eq_true (by kernel_rfl)) (by unfold Func.isWrapper;first | (rw [if_pos (by decide +kernel)];kernel_rfl) | (rw [if_neg (by decide +kernel)];exact ⟨rfl,rfl⟩))
  (fun os started H enc _=>lifted os started H enc)
theorem cf_main:Tryz.prog.mainIs=some (Rows.fnExactTermRunCard.stood.harness.1,Rows.fnExactTermRunCard.stood.harness.2.toList):=by kernel_rfl
theorem cf_looks:true=Tryz.prog.looks []:=by kernel_rfl
theorem cf_goes:false=Rows.fnExactTermRunRow.goesBy Tryz.prog:=by kernel_rfl
theorem cf_wf:Rows.fnExactTermRunRow.wfByText (OpenSpec.ofChange Rows.fnExactTermRunSpec)=true:=by kernel_rfl
theorem cf_named:Tryz.prog.funcNamed "loop.example/innocentgames/laws.FnExactTermRun" = some 3:=by kernel_rfl
theorem cf_ws0:Tryz.prog.wantsStandIn 22=false:=by kernel_rfl
theorem cf_ws1:Tryz.prog.wantsStandIn 9=false:=by kernel_rfl
theorem card_holds:Rows.FnExactTermRunCardSaid :=
 Claim7.holds_tied_plain_at .later [] [.data,.data,.data,.sentinel,.sentinel,.sentinel] true Rows.fnExactTermRunCard.stood.harness true
  row_holds (fun _ h=>by cases h) cf_wf (fun _ h=>by cases h) fnExactTermRun_row_tie rfl ⟨rfl,rfl⟩ cf_main rfl
  (fun f fn hf hfn=>by
   obtain rfl:f=3:=Option.some.inj (cf_named.symm.trans hf) |>.symm
   obtain rfl:fn=Tryz.f3:=(Option.some.inj (Tryz.func3.symm.trans hfn)).symm
   exact ⟨cf_looks,fun j t ht=>by
    rw [Tryz.params3] at ht
    have h9:t=9\/t=22:=by
     rcases j with _ | _ | j
     ·exact .inl (by simpa using ht.symm)
     ·exact .inr (by simpa using ht.symm)
     ·simp at ht
    rcases h9 with rfl | rfl
    ·exact cf_ws1
    ·exact cf_ws0⟩)
  cf_goes
#print axioms card_holds
end Go.Proofs.YtnfenijemllkbaaGreatDoor

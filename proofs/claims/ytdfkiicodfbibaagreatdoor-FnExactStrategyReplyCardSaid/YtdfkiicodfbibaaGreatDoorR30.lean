/- The row and the card of FnExactStrategyReply: for all arguments the law returns true. Conditions: the listed variables of the library hold what their initialisers lay (the card ties that to the program's text). -/
import Derived.Test.YtdfkiicodfbibaaGreatDoorQ13
import Derived.Test.YtdfkiicodfbibaaGreatDoorRows
import Derived.Test.YtdfkiicodfbibaaGreatDoorTie
import Derived.Test.YtdfkiicodfbibaaGreatDoorCards
import Derived.ChangeSame
import Derived.ChangeVars
import Derived.ChangeMaps5
import Derived.JoinedOf
import Derived.RowKit
import Derived.LaidLaws
import Derived.LaidMore
import Derived.LaidHandle
import Derived.MakeChecks
import Derived.Lib.LaidTab
import Derived.Stop.LaidErr
import Derived.Stop.Joined
import Derived.ProofKit
import Derived.Lib.SmallJoins
import Derived.Deep.Strs
namespace Go.Proofs.YtdfkiicodfbibaaGreatDoor
open Go Go.ChangeShapes Go.WideShapes Go.RowKit Go.Deep
open Go.ChangeMaps (open_string shut_string)
theorem laidOut:laidOutB Tryz.prog=true:=by kernel_rfl
theorem own:ownKnob Tryz.prog.godebug=none:=by kernel_rfl
theorem gt0:(Tryz.prog.globals[2]?).map (·.type)=some 161:=by kernel_rfl
theorem gt1:(Tryz.prog.globals[3]?).map (·.type)=some 161:=by kernel_rfl
theorem gt2:(Tryz.prog.globals[4]?).map (·.type)=some 313:=by kernel_rfl
theorem door_met (os:Os) (args:Array Value):laidMet Tryz.prog Rows.fnExactStrategyReplyRow.laid ((World.doorLaid Tryz.prog 4000 os).forCall (fun _ _=>0) ⟨#[],args,[]⟩).memory :=
 laidMet_of_run' 8 (by kernel_rfl) (by kernel_rfl)
theorem row71:∀ u,Tryz.prog.typeName? 3 u=some "*errors.errorString"->u=316:=by
 have star : "*" ++ "errors.errorString" = "*errors.errorString":=by decide
 exact fun u hu=>typeName_ptr_named (nm:= "errors.errorString") (by rw [star];kernel_rfl) (by kernel_rfl) (by decide) u (by rw [star];exact hu)
theorem glob_of_laid {W:World} (h:laidMet Tryz.prog Rows.fnExactStrategyReplyRow.laid W):Glob W:=by
 have h3:=h.tail.tail
 have h4:=h3.tail
 have h5:=h4.tail
 obtain ⟨a1,s1,v1,_⟩:=laid_sentinel h4 Tryz.gn1 gt1 Tryz.underlying161 row71 Tryz.underlying316 Tryz.underlying318 rfl rfl Tryz.underlying9 (by kernel_rfl) (by kernel_rfl)
 obtain ⟨a0,s0,v0,_⟩:=laid_sentinel h5 Tryz.gn0 gt0 Tryz.underlying161 row71 Tryz.underlying316 Tryz.underlying318 rfl rfl Tryz.underlying9 (by kernel_rfl) (by kernel_rfl)
 exact ⟨⟨_,_,v0⟩,⟨_,_,v1⟩,Lib.tabIs_of_head (zs:=Lib.pow10Tab) Tryz.gn2 gt2 Tryz.underlying313 Tryz.underlying271 (by kernel_rfl) (by kernel_rfl) h3⟩
theorem str_self (s:ByteArray):Value.string s=str s.data.toList:=by cases s;simp [str]
theorem strs_of {H:Type} {enc:TypeId×Value->H} {W:World} {v:Value} {d:DataW H} {p:List MemPlace} {a:Option Addr} {len cap:Nat} (hv:v=.slice a len cap) (h:DataW.Trod enc Tryz.prog W 0 (fun _=>true) true 30 v d p) :
 ∃ xs:List Bs,xs.length=len/\StrsAt W a xs/\len<=maxLen/\∀ x∈xs,x.length<=maxLen:=by
 subst hv
 obtain ⟨fuel,hf⟩:=h
 rcases open_strs Tryz.underlying30 Tryz.underlying9 (by kernel_rfl) hf with ⟨hcs,_⟩ | ⟨a',len',cap',m,Sx,hcs,_,hl,hm,hmm,_,hcell⟩
 ·simp [Value.cells] at hcs
  obtain ⟨rfl,rfl,rfl⟩:=hcs
  exact ⟨[],rfl,fun k s h=>by simp at h,Nat.zero_le _,fun x h=>by simp at h⟩
 ·simp [Value.cells] at hcs
  obtain ⟨rfl,rfl,rfl⟩:=hcs
  simp only [if_true] at hmm
  subst hmm
  refine ⟨(List.range len).map fun i=>(Sx i).data.toList,by simp,fun k s h=>?_,by omega,fun x hx=>?_⟩
  ·rw [List.getElem?_map,Option.map_eq_some_iff] at h
   obtain ⟨i,hi,rfl⟩:=h
   obtain ⟨hk,rfl⟩:=List.getElem?_eq_some_iff.1 hi
   simp only [List.length_range] at hk
   simp only [List.getElem_range]
   obtain ⟨b,off,spot⟩:=a'
   have h0:=(hcell k (by omega)).1
   have hspot:spot=none:=by simpa [Addr.add] using World.cell?_spot (hcell 0 (by omega)).1
   subst hspot
   exact ⟨b,off,rfl,by rw [<- str_self,<- add_plain];exact h0⟩
  ·simp only [List.mem_map,List.mem_range] at hx
   obtain ⟨i,hi,rfl⟩:=hx
   have:=(hcell i (by omega)).2
   simpa using this
theorem strs_at {H:Type} {enc:TypeId×Value->H} {W:World} {v:Value} {n:Nat} {y:DataW H×List MemPlace} (h:DataW.trod enc Tryz.prog W 0 (fun _=>true) true n 30 [v]=some y) :
 ∃ (a:Option Addr) (cap:Nat) (xs:List Bs),v=.slice a xs.length cap/\StrsAt W a xs/\xs.length<=maxLen/\∀ x∈xs,x.length<=maxLen:=by
 have hT:∀ {a:Option Addr} {len cap:Nat},v=.slice a len cap->DataW.Trod enc Tryz.prog W 0 (fun _=>true) true 30 v y.1 y.2:=fun e=>⟨n,by subst e;simpa [Value.cells] using h⟩
 rcases open_strs Tryz.underlying30 Tryz.underlying9 (by kernel_rfl) h with ⟨hcs,_⟩ | ⟨a',len',cap',m,Sx,hcs,_⟩
 ·simp at hcs
  obtain ⟨xs,hl,hx,hm,hxs⟩:=strs_of (v:=v) hcs (hT hcs)
  exact ⟨none,0,xs,by rw [hl];exact hcs,hx,by omega,hxs⟩
 ·simp at hcs
  obtain ⟨xs,hl,hx,hm,hxs⟩:=strs_of (v:=v) hcs (hT hcs)
  exact ⟨_,cap',xs,by rw [hl];exact hcs,hx,by omega,hxs⟩
theorem ints_at {H:Type} {enc:TypeId×Value->H} {W:World} {v:Value} {n:Nat} {y:DataW H×List MemPlace} (h:DataW.trod enc Tryz.prog W 0 (fun _=>true) true n 31 [v]=some y) :
 ∃ (a:Option Addr) (cap:Nat) (zs:List Int),v=.slice a zs.length cap/\IntsAt W a zs/\zs.length<=maxLen:=by
 rcases open_ints Tryz.underlying31 Tryz.underlying3 (by kernel_rfl) h with ⟨hcs,_⟩ | ⟨x,l,c,zs,hcs,_,hl,hm,hz,_,hcell,hwz⟩
 ·simp at hcs
  exact ⟨none,0,[],hcs,fun j z hz=>by simp at hz,Nat.zero_le _⟩
 ·simp at hcs
  simp only [if_true] at hz
  have e:(zs.take l).length=l:=by rw [List.length_take];omega
  refine ⟨some x,c,zs.take l,by rw [e];exact hcs,fun j z hj=>?_,by omega⟩
  have hjl:=(List.getElem?_eq_some_iff.1 hj).1
  rw [e] at hjl
  rw [List.getElem?_take,if_pos hjl] at hj
  have h0:=hcell j (by omega)
  rw [List.getD_eq_getElem?_getD,hj,Option.getD_some] at h0
  obtain ⟨b,off,spot⟩:=x
  have hspot:spot=none:=by simpa [Addr.add] using World.cell?_spot (hcell 0 (by omega))
  subst hspot
  exact ⟨b,off,rfl,by rw [<- add_plain];exact h0⟩
set_option maxRecDepth 100000 in
theorem lifted (os:Os) (started:os.Started) (H:Type) (enc:TypeId×Value->H) :
 ReturnsInHanded {} Tryz.checked os 9 .any (fun w args=>(Rows.fnExactStrategyReplySpec.pre enc Tryz.prog Tryz.f9 [] false w args/\laidMetH Tryz.prog Rows.fnExactStrategyReplyRow.laid w)/\sizedMet enc Tryz.prog Tryz.f9 (OpenSpec.ofChange Rows.fnExactStrategyReplySpec) false w args)
  (Rows.fnExactStrategyReplySpec.post enc Tryz.prog Tryz.f9 false true false false):=by
 refine returnsInHanded_of_change_and (C:=Tryz.checked) (X:=fun w _=>laidMetH Tryz.prog Rows.fnExactStrategyReplyRow.laid w) (fun _ _ _ hh h=>h.of_heap hh) own started (by kernel_rfl) Tryz.func9
  (ChangeSpec.witness_shaped (enc:=enc) (C:=Tryz.checked) (os:=os) (X:=fun w _=>laidMetH Tryz.prog Rows.fnExactStrategyReplyRow.laid w) false (World.doorLaid Tryz.prog 4000 os) #[.string ⟨#[]⟩,.string ⟨#[]⟩,.agg #[.slice none 0 0,.slice none 0 0]] 8 rfl (World.shaped_of_RefB (by kernel_rfl) (by kernel_rfl)) (by kernel_rfl) (by kernel_rfl) (by kernel_rfl)
   (by show laidMetH _ _ _;rw [MakeChecks.laidMetH_plain _ _ _ (by kernel_rfl)];exact door_met os _)) ?_
 intro W base args ds gs before hval0 hW _ _ hL _
 have hval:∀ (j:Nat) t v,Tryz.f9.params[j]? = some t->args[j]? = some v->Value.okWide Tryz.prog W .any base t v:=hval0
 have hW':=hW
 obtain ⟨p,q,hA0,hV,rfl,hfz,hnd⟩:=hW
 have hA:DataW.TrodAll enc Tryz.prog W 0 (fun _=>true) true Tryz.f9.params.toList args.toList ds p:=hA0
 rw [Tryz.params9] at hA hval
 obtain ⟨v0,v1,v2,d0,d1,d2,p0,p1,p2,rfl,rfl,rfl,h0,h1,h2⟩:=trodAll_three hA
 have k0:=h0;have k1:=h1;have k2:=h2
 have lt:∀ {t:TypeId} {v:Value} {d:DataW H} {ps:List MemPlace},DataW.Trod enc Tryz.prog W 0 (fun _=>true) true t v d ps->∀ x∈ps,x.block<W.heap.size:=fun h x hx=>by obtain ⟨m,hm⟩:=h;exact DataW.trod_lt m _ _ _ hm x hx
 obtain ⟨rfl,rfl⟩:=trodVars_none hV
 obtain ⟨s0,rfl,rfl,rfl,z0⟩:=open_string Tryz.underlying9 (hval 0 _ v0 rfl rfl) h0
 obtain ⟨s1,rfl,rfl,rfl,z1⟩:=open_string Tryz.underlying9 (hval 1 _ v1 rfl rfl) h1
 obtain ⟨u0,u1,y0,y1,nn,rfl,rfl,rfl,g0,g1⟩:=Joins.open_agg2 Tryz.underlying35 (by kernel_rfl) (by kernel_rfl) (hval 2 _ v2 rfl rfl) h2
 obtain ⟨a1,c1,xs,rfl,hx1,hl1,hm1⟩:=strs_at g0
 obtain ⟨a2,c2,zs,rfl,hx2,hl2⟩:=ints_at g1
 obtain ⟨p2,hp2⟩:∃ p2,y0.2++y1.2=p2:=⟨_,rfl⟩
 rw [hp2] at k2
 have hg:Glob W:=glob_of_laid (by have h:laidMetH Tryz.prog Rows.fnExactStrategyReplyRow.laid W:=hL;rwa [MakeChecks.laidMetH_plain _ _ _ (by kernel_rfl)] at h)
 obtain ⟨⟨l0⟩⟩:=s0
 obtain ⟨⟨l1⟩⟩:=s1
 have hz0:l0.length<=9223372036854775807:=Nat.le_trans (show l0.length<=maxLen from z0) (by unfold maxLen;omega)
 have hz1:l1.length<=9223372036854775807:=Nat.le_trans (show l1.length<=maxLen from z1) (by unfold maxLen;omega)
 refine (law_reply l0 l1 a1 a2 c1 c2 xs zs W hg hx1 hx2 hz0 hz1 (Nat.le_trans hl1 (by unfold maxLen;omega)) (fun m hm=>Nat.le_trans (hm1 m hm) (by unfold maxLen;omega)) (Nat.le_trans hl2 (by unfold maxLen;omega))).mono fun e W' ⟨he,hb⟩=>?_
 subst he
 have e1:Rows.fnExactStrategyReplySpec.fn H ([.lit (.string l0),.lit (.string l1),.agg [y0.1,y1.1]]++[])={ results:=[.lit (.bool true)],args:=[.lit (.string l0),.lit (.string l1),.agg [y0.1,y1.1]] }:=by simp [Rows.fnExactStrategyReplySpec]
 refine ⟨_,rfl,_,_,_,[],[]++[]++p2,[],hW',?_,?_,?_,hb.frame _,fun h=>by cases h⟩
 ·rw [e1];exact trodAll_mk1 (shut_bool Tryz.underlying4 true)
 ·rw [e1];exact trodAll_mk3 (shut_string Tryz.underlying9 z0) (shut_string Tryz.underlying9 z1) (Below.trod laidOut (by kernel_rfl) (of_decide_eq_true (by kernel_rfl)) k2 hb (lt k2))
 ·rw [e1];rfl
theorem bandT {a b:Bool} (h:a=true) (k:b=true):(a && b)=true:=by rw [h,k];rfl
theorem jf0:Rows.fnExactStrategyReplyRow.wf (OpenSpec.ofChange Rows.fnExactStrategyReplySpec)=true:=by kernel_rfl
theorem jf1:laidOutB Tryz.prog=true:=by kernel_rfl
theorem jf2:mapsRowed Tryz.prog=true:=by kernel_rfl
theorem jf3:Tryz.f9.params.all (Tryz.prog.readableRec ·)=true:=by kernel_rfl
theorem jf4:namedTie Tryz.prog Rows.fnExactStrategyReplyRow.named Rows.fnExactStrategyReplySpec.vars=true:=by kernel_rfl
theorem jf5:(Rows.fnExactStrategyReplyRow.stops == [])=true:=by kernel_rfl
theorem jf6:(Tryz.prog.stops == [])=true:=by kernel_rfl
theorem jf7:(Rows.fnExactStrategyReplyRow.knobs == [])=true:=by kernel_rfl
theorem jf8:(Tryz.prog.stopKnobs == [])=true:=by kernel_rfl
theorem jf9:(Rows.fnExactStrategyReplyRow.inPlace == Tryz.prog.inPlace 9)=true:=by kernel_rfl
theorem jf10:(Rows.fnExactStrategyReplyRow.unfollowed == Tryz.prog.unfollowed 9)=true:=by kernel_rfl
theorem jf11:(Rows.fnExactStrategyReplyRow.recurses == Tryz.prog.recurses 9)=true:=by kernel_rfl
theorem jf12:(Rows.fnExactStrategyReplyRow.named == Tryz.prog.varsNamed 9)=true:=by kernel_rfl
theorem jf13:(Rows.fnExactStrategyReplyRow.maps == (Tryz.f9.params.toList++Rows.fnExactStrategyReplySpec.plain.varTypes Tryz.prog).any (Tryz.prog.mapsRec ·))=true:=by kernel_rfl
theorem jf14:(Rows.fnExactStrategyReplyRow.ifaces == (Tryz.f9.params.toList++Rows.fnExactStrategyReplySpec.plain.varTypes Tryz.prog).any (Tryz.prog.ifacesRec ·))=true:=by kernel_rfl
theorem jf15:(Rows.fnExactStrategyReplyRow.mapsOut == Tryz.prog.mapsAmong Tryz.f9.resultTypes.toList)=true:=by kernel_rfl
theorem jf16:(Rows.fnExactStrategyReplyRow.loops == (Tryz.f9.params.toList++Rows.fnExactStrategyReplySpec.plain.varTypes Tryz.prog).any (Tryz.prog.loopsFrom ·))=true:=by kernel_rfl
theorem jf17:(Rows.fnExactStrategyReplyRow.wideKeys == (Tryz.f9.params.toList++Rows.fnExactStrategyReplySpec.plain.varTypes Tryz.prog++Tryz.f9.resultTypes.toList).any (Tryz.prog.wideKeysFrom ·))=true:=by kernel_rfl
theorem jf18:Rows.fnExactStrategyReplySpec.vars.all (Tryz.prog.varReadable ·)=true:=by kernel_rfl
theorem jf19:Tryz.f9.resultTypes.all (fun t=>Tryz.prog.readableRec t && decide (t<Tryz.prog.types.size))=true:=by kernel_rfl
theorem jf20:(Rows.fnExactStrategyReplyRow.ifacesOut == Tryz.f9.resultTypes.toList.any (Tryz.prog.ifacesRec ·))=true:=by kernel_rfl
theorem jf21:(Rows.fnExactStrategyReplyRow.loopsOut == Tryz.f9.resultTypes.toList.any (Tryz.prog.loopsFrom ·))=true:=by kernel_rfl
theorem jf22:(Rows.fnExactStrategyReplyRow.plainKeys == Tryz.prog.plainKeys)=true:=by kernel_rfl
theorem jf23:Rows.fnExactStrategyReplyRow.shortTexts.isNone=true:=by kernel_rfl
theorem jf24:Tryz.prog.stopsHeard=true:=by kernel_rfl
theorem jf25:Tryz.prog.mayEnter=true:=by kernel_rfl
theorem jf26:(Rows.fnExactStrategyReplyRow.lifted == Tryz.prog.liftsFinal)=true:=by kernel_rfl
theorem jf27:(Tryz.prog.make == some Rows.fnExactStrategyReplyRow.make)=true:=by kernel_rfl
theorem jf28:(Rows.fnExactStrategyReplyRow.kinds == (if Rows.fnExactStrategyReplyRow.domain.isEmpty then [] else Tryz.f9.params.toList.map fun t=>match Tryz.prog.underlying t with | some (.int k)=>some k | _=>none))=true:=by kernel_rfl
theorem jf29:(Rows.fnExactStrategyReplyRow.pinned == Rows.fnExactStrategyReplyRow.pinnedBy)=true:=by kernel_rfl
theorem jf30:(Rows.fnExactStrategyReplyRow.veiled == (Tryz.f9.params.toList++Rows.fnExactStrategyReplySpec.plain.varTypes Tryz.prog++Tryz.f9.resultTypes.toList).any (Tryz.prog.veiledRec ·))=true:=by kernel_rfl
theorem jf31:Rows.fnExactStrategyReplyRow.veiledFits Tryz.prog Tryz.f9.params.toList (Tryz.f9.params.toList++Rows.fnExactStrategyReplySpec.plain.varTypes Tryz.prog++Tryz.f9.resultTypes.toList)=true:=by kernel_rfl
set_option maxRecDepth 100000 in
theorem joined:joinedFacts Tryz.prog 9 Tryz.f9 Rows.fnExactStrategyReplySpec Rows.fnExactStrategyReplyRow=true:=by
 unfold joinedFacts
 exact bandT (bandT (bandT (bandT (bandT (bandT (bandT (bandT (bandT (bandT (bandT (bandT (bandT (bandT (bandT (bandT (bandT (bandT (bandT (bandT (bandT (bandT (bandT (bandT (bandT (bandT (bandT (bandT (bandT (bandT (bandT jf0 jf1) jf2) jf3) jf4) jf5) jf6) jf7) jf8) jf9) jf10) jf11) jf12) jf13) jf14) jf15) jf16) jf17) jf18) jf19) jf20) jf21) jf22) jf23) jf24) jf25) jf26) jf27) jf28) jf29) jf30) jf31
theorem row_holds:Rows.FnExactStrategyReplySaid :=
 OpenClaim.holds_of_wide 9 Tryz.f9 rfl rfl rfl rfl rfl rfl rfl ⟨rfl,rfl,rfl,rfl,rfl⟩ rfl rfl rfl rfl rfl (by kernel_rfl) Tryz.func9 joined
  (of_decide_eq_true (by kernel_rfl)) (by unfold Func.isWrapper;first | (rw [if_pos (by decide +kernel)];kernel_rfl) | (rw [if_neg (by decide +kernel)];exact ⟨rfl,rfl⟩))
  (fun os started H enc _=>lifted os started H enc)
theorem cf_main:Tryz.prog.mainIs=some (Rows.fnExactStrategyReplyCard.stood.harness.1,Rows.fnExactStrategyReplyCard.stood.harness.2.toList):=by kernel_rfl
theorem cf_looks:true=Tryz.prog.looks []:=by kernel_rfl
theorem cf_goes:false=Rows.fnExactStrategyReplyRow.goesBy Tryz.prog:=by kernel_rfl
theorem cf_wf:Rows.fnExactStrategyReplyRow.wfByText (OpenSpec.ofChange Rows.fnExactStrategyReplySpec)=true:=by kernel_rfl
theorem cf_named:Tryz.prog.funcNamed "loop.example/innocentgames/laws.FnExactStrategyReply" = some 9:=by kernel_rfl
theorem cf_ws0:Tryz.prog.wantsStandIn 35=false:=by kernel_rfl
theorem cf_ws1:Tryz.prog.wantsStandIn 9=false:=by kernel_rfl
theorem card_holds:Rows.FnExactStrategyReplyCardSaid :=
 Claim7.holds_tied_plain_at .later [] [.data,.data,.data,.sentinel,.sentinel] true Rows.fnExactStrategyReplyCard.stood.harness true
  row_holds (fun _ h=>by cases h) cf_wf (fun _ h=>by cases h) fnExactStrategyReply_row_tie rfl ⟨rfl,rfl⟩ cf_main rfl
  (fun f fn hf hfn=>by
   obtain rfl:f=9:=Option.some.inj (cf_named.symm.trans hf) |>.symm
   obtain rfl:fn=Tryz.f9:=(Option.some.inj (Tryz.func9.symm.trans hfn)).symm
   exact ⟨cf_looks,fun j t ht=>by
    rw [Tryz.params9] at ht
    have h9:t=9\/t=35:=by
     rcases j with _ | _ | _ | j
     ·exact .inl (by simpa using ht.symm)
     ·exact .inl (by simpa using ht.symm)
     ·exact .inr (by simpa using ht.symm)
     ·simp at ht
    rcases h9 with rfl | rfl
    ·exact cf_ws1
    ·exact cf_ws0⟩)
  cf_goes
#print axioms card_holds
end Go.Proofs.YtdfkiicodfbibaaGreatDoor

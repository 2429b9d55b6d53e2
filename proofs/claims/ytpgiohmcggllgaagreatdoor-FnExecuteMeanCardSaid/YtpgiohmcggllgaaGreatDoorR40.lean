/- The row and the card of FnExecuteMean: for all arguments the law returns true. Conditions: the listed variables of the library hold what their initialisers lay (the card ties that to the program's text). -/
import Derived.Test.YtpgiohmcggllgaaGreatDoorQ16
import Derived.Test.YtpgiohmcggllgaaGreatDoorRows
import Derived.Test.YtpgiohmcggllgaaGreatDoorTie
import Derived.Test.YtpgiohmcggllgaaGreatDoorCards
import Derived.ChangeSame
import Derived.ChangeVars
import Derived.ChangeMaps5
import Derived.JoinedOf
import Derived.RowKit
import Derived.OpenShut
import Derived.ShutString
import Derived.ChangeOld
import Derived.Below
import Derived.LaidLaws
import Derived.LaidMore
import Derived.Lay
import Derived.Shelf.Vars
import Derived.LaidHandle
import Derived.MakeChecks
import Derived.Lib.LaidTab
import Derived.Stop.LaidErr
import Derived.Stop.Joined
import Derived.Deep.Strs
import Derived.OpenVars
import Derived.ProofKit
namespace Go.Proofs.YtpgiohmcggllgaaGreatDoor
open Go Go.ChangeShapes Go.WideShapes Go.ChangeAt Go.RowKit Go.Deep
open Go.ChangeMaps (open_string shut_string)
theorem own:ownKnob Tryz.prog.godebug=none:=by kernel_rfl
theorem laidOut:laidOutB Tryz.prog=true:=by kernel_rfl
theorem gt0:(Tryz.prog.globals[7]?).map (·.type)=some 65:=by kernel_rfl
theorem gt1:(Tryz.prog.globals[8]?).map (·.type)=some 65:=by kernel_rfl
theorem gt2:(Tryz.prog.globals[1]?).map (·.type)=some 236:=by kernel_rfl
theorem gt3:(Tryz.prog.globals[2]?).map (·.type)=some 65:=by kernel_rfl
theorem gnT:Tryz.prog.globalNamed "loop.example/innocentgames/impl.errTooMany" = some 2:=by kernel_rfl
theorem var_cell {P:Program} {w:World} {nm:String} {g:Nat} {x:Value} (hg:P.globalNamed nm=some g) (h:w.var? P nm=some #[x]):w.cell? ⟨g,0,none⟩=some x:=by
 unfold World.var? at h
 rw [hg] at h
 simp only [Option.bind_some] at h
 unfold World.cell?
 cases ho:w.heap[g]? with
 | none=>rw [ho] at h;simp at h
 | some o =>
   rw [ho] at h
   cases o with
   | cells cs e fz=>simp only [Option.some.injEq] at h;subst h;simp
   | _=>simp at h
theorem door_met (os:Os) (args:Array Value):laidMet Tryz.prog Rows.fnExecuteMeanRow.laid ((World.laidAll Tryz.prog os Rows.fnExecuteMeanRow.laid).forCall (fun _ _=>0) ⟨#[],args,[]⟩).memory :=
 laidMet_laidAll args (by kernel_rfl) (by kernel_rfl)
theorem row71:∀ u,Tryz.prog.typeName? 3 u=some "*errors.errorString"->u=330:=by
 have star : "*" ++ "errors.errorString" = "*errors.errorString":=by decide
 exact fun u hu=>typeName_ptr_named (nm:= "errors.errorString") (by rw [star];kernel_rfl) (by kernel_rfl) (by decide) u (by rw [star];exact hu)
theorem glob_of_laid {W:World} (h:laidMet Tryz.prog Rows.fnExecuteMeanRow.laid W):yP W/\yW W:=by
 have h3:=h.tail.tail
 have h4:=h3.tail.tail
 have h5:=h4.tail
 have h6:=h5.tail
 obtain ⟨a1,s1,v1,_⟩:=laid_sentinel h4 Tryz.gn1 gt1 Tryz.underlying65 row71 Tryz.underlying330 Tryz.underlying332 rfl rfl Tryz.underlying9 (by kernel_rfl) (by kernel_rfl)
 obtain ⟨a0,s0,v0,_⟩:=laid_sentinel h5 Tryz.gn0 gt0 Tryz.underlying65 row71 Tryz.underlying330 Tryz.underlying332 rfl rfl Tryz.underlying9 (by kernel_rfl) (by kernel_rfl)
 obtain ⟨a2,s2,v2,_⟩:=laid_sentinel h6 gnT gt3 Tryz.underlying65 row71 Tryz.underlying330 Tryz.underlying332 rfl rfl Tryz.underlying9 (by kernel_rfl) (by kernel_rfl)
 exact ⟨⟨⟨_,_,v0⟩,⟨_,_,v1⟩,Lib.tabIs_of_head (zs:=Lib.pow10Tab) Tryz.gn2 gt2 Tryz.underlying236 Tryz.underlying187 (by kernel_rfl) (by kernel_rfl) h3⟩,⟨_,var_cell gnT v2⟩⟩
set_option maxRecDepth 100000 in
theorem lifted (os:Os) (started:os.Started) (H:Type) (enc:TypeId×Value->H) :
 ReturnsInHanded {} Tryz.checked os 3 .any (fun w args=>(Rows.fnExecuteMeanSpec.pre enc Tryz.prog Tryz.f3 [] false w args/\laidMetH Tryz.prog Rows.fnExecuteMeanRow.laid w)/\sizedMet enc Tryz.prog Tryz.f3 (OpenSpec.ofChange Rows.fnExecuteMeanSpec) false w args)
  (Rows.fnExecuteMeanSpec.post enc Tryz.prog Tryz.f3 false true false false):=by
 refine returnsInHanded_of_calls (C:=Tryz.checked) own started (by kernel_rfl)
  (ChangeSpec.witness_shaped (enc:=enc) (C:=Tryz.checked) (os:=os) (X:=fun w _=>laidMetH Tryz.prog Rows.fnExecuteMeanRow.laid w) false (World.laidAll Tryz.prog os Rows.fnExecuteMeanRow.laid) #[.slice none 0 0] 8 (World.laidAll_os _ _ _) (World.shaped_of_ZipB (by kernel_rfl) (by kernel_rfl)) (by kernel_rfl) (by kernel_rfl) (by kernel_rfl)
   (by show laidMetH _ _ _;rw [MakeChecks.laidMetH_plain _ _ _ (by kernel_rfl)];exact door_met os _)) ?_
 intro w0 tape i _ IB _ nC nU _
 obtain ⟨_,_,_,fn',Mm,_,_,_,_,GD⟩:=nC
 obtain rfl:fn'=Tryz.f3:=Option.some.inj (Mm.symm.trans Tryz.func3)
 obtain ⟨⟨⟨ds,gs,before,hw0,_⟩,hx⟩,_⟩:=nU
 have hW:=DataW.Whole.of_heap (w':=w0.forCall tape i) (by rfl) hw0
 have hL:laidMetH Tryz.prog Rows.fnExecuteMeanRow.laid (w0.forCall tape i):=hx.of_heap (by rfl)
 refine Calls.mono (R:=fun e W'=>∃ v,e=.returned v/\Rows.fnExecuteMeanSpec.post enc Tryz.prog Tryz.f3 false true false false (w0.forCall tape i) i.args v W') ?_ (by
  rintro e W' ⟨v,rfl,hp⟩
  exact ChangeSpec.post_blind hp)
 clear hx hw0 Mm
 generalize i.args=args at *
 generalize w0.heap.size=base at GD
 generalize w0.forCall tape i=W at *
 have hm:pO W:=Go.Proofs.cell_of_shapedOpen_int (zero:=#[.int .i64 0]) (t:=3) IB (of_decide_eq_true (by kernel_rfl)) (by kernel_rfl) rfl (by kernel_rfl) (by kernel_rfl) Tryz.underlying3
 have FL:∀ (j:Nat) t v,Tryz.f3.params[j]? = some t->args[j]? = some v->Value.okWide Tryz.prog W .any base t v:=GD
 have hW':=hW
 obtain ⟨p,q,Hd,hV,rfl,hfz,DM⟩:=hW
 have hA:DataW.TrodAll enc Tryz.prog W 0 (fun _=>true) true Tryz.f3.params.toList args.toList ds p:=Hd
 rw [Tryz.params3] at hA FL
 obtain ⟨v0,vs0,d0,ds0,p0,q0,hargs,rfl,rfl,h0,r0⟩:=trodAll_cons hA
 obtain ⟨rfl,rfl,rfl⟩:=trodAll_nil r0
 obtain rfl:args=#[v0]:=by cases args;simp_all
 obtain ⟨g,_,_,_,gd,_,rfl,_⟩:=trodVars_one hV
 have k0:=h0
 have lt:∀ {t:TypeId} {v:Value} {d:DataW H} {ps:List MemPlace},DataW.Trod enc Tryz.prog W 0 (fun _=>true) true t v d ps->∀ x∈ps,x.block<W.heap.size:=fun h x hx=>by obtain ⟨m,hm⟩:=h;exact DataW.trod_lt m _ _ _ hm x hx
 obtain ⟨a0,KD,Nq,rfl⟩:=okWide_slice Tryz.underlying22 (FL 0 22 v0 rfl rfl)
 obtain ⟨z0,w0⟩:∃ zs,Row8 W a0 KD Nq zs:=by
  obtain ⟨fuel,hf⟩:=h0
  rcases open_ints Tryz.underlying22 Tryz.underlying5 (by kernel_rfl) hf with ⟨hcs,_⟩ | ⟨x,l,c,zs,hcs,_,hl,hm,hz,_,rI,Df⟩
  ·simp [Value.cells] at hcs
   obtain ⟨rfl,rfl,rfl⟩:=hcs
   exact ⟨[],.inl ⟨rfl,rfl,rfl,rfl⟩⟩
  ·simp [Value.cells] at hcs
   obtain ⟨rfl,rfl,rfl⟩:=hcs
   exact ⟨zs,.inr ⟨_,rfl,hl,hm,by simpa using hz,rI,Df⟩⟩
 have hg:=glob_of_laid (by have h:laidMetH Tryz.prog Rows.fnExecuteMeanRow.laid W:=hL;rwa [MakeChecks.laidMetH_plain _ _ _ (by kernel_rfl)] at h)
 refine (ci a0 KD Nq z0 W w0 hg.1 hg.2 hm).mono fun e W' ⟨he,hb⟩=>?_
 subst he
 refine ⟨_,rfl,_,_,_,[],p0++[],q,hW',trodAll_mk1 (shut_bool Tryz.underlying4 true),?_,hb.trodVars laidOut (by kernel_rfl) hV,hb.frame _,fun h=>by cases h⟩
 exact trodAll_cons_mk (Below.trod laidOut (by kernel_rfl) (of_decide_eq_true (by kernel_rfl)) k0 hb (lt k0)) trodAll_mk0
theorem js {a b:Bool} (h:a=true) (k:b=true):(a && b)=true:=by rw [h,k];rfl
theorem jf0:Rows.fnExecuteMeanRow.wf (OpenSpec.ofChange Rows.fnExecuteMeanSpec)=true:=by kernel_rfl
theorem jf1:laidOutB Tryz.prog=true:=by kernel_rfl
theorem jf2:mapsRowed Tryz.prog=true:=by kernel_rfl
theorem jf3:Tryz.f3.params.all (Tryz.prog.readableRec ·)=true:=by kernel_rfl
theorem jf4:namedTie Tryz.prog Rows.fnExecuteMeanRow.named Rows.fnExecuteMeanSpec.vars=true:=by kernel_rfl
theorem jf5:(Rows.fnExecuteMeanRow.stops == [])=true:=by kernel_rfl
theorem jf6:(Tryz.prog.stops == [])=true:=by kernel_rfl
theorem jf7:(Rows.fnExecuteMeanRow.knobs == [])=true:=by kernel_rfl
theorem jf8:(Tryz.prog.stopKnobs == [])=true:=by kernel_rfl
theorem jf9:(Rows.fnExecuteMeanRow.inPlace == Tryz.prog.inPlace 3)=true:=by kernel_rfl
theorem jf10:(Rows.fnExecuteMeanRow.unfollowed == Tryz.prog.unfollowed 3)=true:=by kernel_rfl
theorem jf11:(Rows.fnExecuteMeanRow.recurses == Tryz.prog.recurses 3)=true:=by kernel_rfl
theorem jf12:(Rows.fnExecuteMeanRow.named == Tryz.prog.varsNamed 3)=true:=by kernel_rfl
theorem jf13:(Rows.fnExecuteMeanRow.maps == (Tryz.f3.params.toList++Rows.fnExecuteMeanSpec.plain.varTypes Tryz.prog).any (Tryz.prog.mapsRec ·))=true:=by kernel_rfl
theorem jf14:(Rows.fnExecuteMeanRow.ifaces == (Tryz.f3.params.toList++Rows.fnExecuteMeanSpec.plain.varTypes Tryz.prog).any (Tryz.prog.ifacesRec ·))=true:=by kernel_rfl
theorem jf15:(Rows.fnExecuteMeanRow.mapsOut == Tryz.prog.mapsAmong Tryz.f3.resultTypes.toList)=true:=by kernel_rfl
theorem jf16:(Rows.fnExecuteMeanRow.loops == (Tryz.f3.params.toList++Rows.fnExecuteMeanSpec.plain.varTypes Tryz.prog).any (Tryz.prog.loopsFrom ·))=true:=by kernel_rfl
theorem jf17:(Rows.fnExecuteMeanRow.wideKeys == (Tryz.f3.params.toList++Rows.fnExecuteMeanSpec.plain.varTypes Tryz.prog++Tryz.f3.resultTypes.toList).any (Tryz.prog.wideKeysFrom ·))=true:=by kernel_rfl
theorem jf18:Rows.fnExecuteMeanSpec.vars.all (Tryz.prog.varReadable ·)=true:=by kernel_rfl
theorem jf19:Tryz.f3.resultTypes.all (fun t=>Tryz.prog.readableRec t && decide (t<Tryz.prog.types.size))=true:=by kernel_rfl
theorem jf20:(Rows.fnExecuteMeanRow.ifacesOut == Tryz.f3.resultTypes.toList.any (Tryz.prog.ifacesRec ·))=true:=by kernel_rfl
theorem jf21:(Rows.fnExecuteMeanRow.loopsOut == Tryz.f3.resultTypes.toList.any (Tryz.prog.loopsFrom ·))=true:=by kernel_rfl
theorem jf22:(Rows.fnExecuteMeanRow.plainKeys == Tryz.prog.plainKeys)=true:=by kernel_rfl
theorem jf23:Rows.fnExecuteMeanRow.shortTexts.isNone=true:=by kernel_rfl
theorem jf24:Tryz.prog.stopsHeard=true:=by kernel_rfl
theorem jf25:Tryz.prog.mayEnter=true:=by kernel_rfl
theorem jf26:(Rows.fnExecuteMeanRow.lifted == Tryz.prog.liftsFinal)=true:=by kernel_rfl
theorem jf27:(Tryz.prog.make == some Rows.fnExecuteMeanRow.make)=true:=by kernel_rfl
theorem jf28:(Rows.fnExecuteMeanRow.kinds == (if Rows.fnExecuteMeanRow.domain.isEmpty then [] else Tryz.f3.params.toList.map fun t=>match Tryz.prog.underlying t with | some (.int k)=>some k | _=>none))=true:=by kernel_rfl
theorem jf29:(Rows.fnExecuteMeanRow.pinned == Rows.fnExecuteMeanRow.pinnedBy)=true:=by kernel_rfl
theorem jf30:(Rows.fnExecuteMeanRow.veiled == (Tryz.f3.params.toList++Rows.fnExecuteMeanSpec.plain.varTypes Tryz.prog++Tryz.f3.resultTypes.toList).any (Tryz.prog.veiledRec ·))=true:=by kernel_rfl
theorem jf31:Rows.fnExecuteMeanRow.veiledFits Tryz.prog Tryz.f3.params.toList (Tryz.f3.params.toList++Rows.fnExecuteMeanSpec.plain.varTypes Tryz.prog++Tryz.f3.resultTypes.toList)=true:=by kernel_rfl
set_option maxRecDepth 100000 in
theorem joined:joinedFacts Tryz.prog 3 Tryz.f3 Rows.fnExecuteMeanSpec Rows.fnExecuteMeanRow=true:=by
 unfold joinedFacts
 exact js (js (js (js (js (js (js (js (js (js (js (js (js (js (js (js (js (js (js (js (js (js (js (js (js (js (js (js (js (js (js jf0 jf1) jf2) jf3) jf4) jf5) jf6) jf7) jf8) jf9) jf10) jf11) jf12) jf13) jf14) jf15) jf16) jf17) jf18) jf19) jf20) jf21) jf22) jf23) jf24) jf25) jf26) jf27) jf28) jf29) jf30) jf31
theorem row_holds:Rows.FnExecuteMeanSaid :=
 OpenClaim.holds_of_wide 3 Tryz.f3 rfl rfl rfl rfl rfl rfl rfl ⟨rfl,rfl,rfl,rfl,rfl⟩ rfl rfl rfl rfl rfl (by kernel_rfl) Tryz.func3 joined
  (of_decide_eq_true (by kernel_rfl)) (by unfold Func.isWrapper;first | (rw [if_pos (by decide +kernel)];kernel_rfl) | (rw [if_neg (by decide +kernel)];exact ⟨rfl,rfl⟩))
  (fun os started H enc _=>lifted os started H enc)
theorem cf_main:Tryz.prog.mainIs=some (Rows.fnExecuteMeanCard.stood.harness.1,Rows.fnExecuteMeanCard.stood.harness.2.toList):=by kernel_rfl
theorem cf_looks:true=Tryz.prog.looks []:=by kernel_rfl
theorem cf_goes:false=Rows.fnExecuteMeanRow.goesBy Tryz.prog:=by kernel_rfl
theorem cf_wf:Rows.fnExecuteMeanRow.wfByText (OpenSpec.ofChange Rows.fnExecuteMeanSpec)=true:=by kernel_rfl
theorem cf_named:Tryz.prog.funcNamed "loop.example/innocentgames/laws.FnExecuteMean" = some 3:=by kernel_rfl
theorem cf_ws0:Tryz.prog.wantsStandIn 22=false:=by kernel_rfl
theorem card_holds:Rows.FnExecuteMeanCardSaid :=
 Claim7.holds_tied_plain_at .later [] [.data,.data,.data,.data,.sentinel,.sentinel,.sentinel,.pinned] true Rows.fnExecuteMeanCard.stood.harness true
  row_holds (fun _ h=>by cases h) cf_wf (fun _ h=>by cases h) fnExecuteMean_row_tie rfl ⟨rfl,rfl⟩ cf_main rfl
  (fun f fn hf hfn=>by
   obtain rfl:f=3:=Option.some.inj (cf_named.symm.trans hf) |>.symm
   obtain rfl:fn=Tryz.f3:=(Option.some.inj (Tryz.func3.symm.trans hfn)).symm
   exact ⟨cf_looks,fun j t ht=>by
    rw [Tryz.params3] at ht
    have h9:t=22:=by
     rcases j with _ | j
     ·exact by simpa using ht.symm
     ·simp at ht
    rcases h9 with rfl
    ·exact cf_ws0⟩)
  cf_goes
#print axioms card_holds
end Go.Proofs.YtpgiohmcggllgaaGreatDoor

/- The row and the card of FnMeaning: for all arguments the law returns true. Conditions: the listed variables of the library hold what their initialisers lay (the card ties that to the program's text). -/
import Derived.Test.YtdhaafoiokkbnabGreatDoorQ17
import Derived.Test.YtdhaafoiokkbnabGreatDoorRows
import Derived.Test.YtdhaafoiokkbnabGreatDoorTie
import Derived.Test.YtdhaafoiokkbnabGreatDoorCards
import Derived.ChangeSame
import Derived.ChangeVars
import Derived.ChangeMaps5
import Derived.JoinedOf
import Derived.RowKit
import Derived.OpenShut
import Derived.ShutString
import Derived.ChangeOld
import Derived.Below
import Derived.LaidLaws
import Derived.LaidMore
import Derived.LaidHandle
import Derived.MakeChecks
import Derived.Lib.LaidTab
import Derived.Stop.LaidErr
import Derived.Stop.Joined
import Derived.Deep.Strs
import Derived.OpenVars
import Derived.ProofKit
namespace Go.Proofs.YtdhaafoiokkbnabGreatDoor
open Go Go.ChangeShapes Go.WideShapes Go.ChangeAt Go.RowKit Go.Deep
open Go.ChangeMaps (open_string shut_string)
theorem own:ownKnob Tryz.prog.godebug=none:=by kernel_rfl
theorem laidOut:laidOutB Tryz.prog=true:=by kernel_rfl
theorem gt0:(Tryz.prog.globals[3]?).map (·.type)=some 118:=by kernel_rfl
theorem gt1:(Tryz.prog.globals[4]?).map (·.type)=some 118:=by kernel_rfl
theorem gt2:(Tryz.prog.globals[1]?).map (·.type)=some 195:=by kernel_rfl
theorem gt3:(Tryz.prog.globals[0]?).map (·.type)=some 118:=by kernel_rfl
theorem gnT:Tryz.prog.globalNamed "loop.example/innocentgames/impl.errTooMany" = some 0:=by kernel_rfl
theorem var_cell {P:Program} {w:World} {nm:String} {g:Nat} {x:Value} (hg:P.globalNamed nm=some g) (h:w.var? P nm=some #[x]):w.cell? ⟨g,0,none⟩=some x:=by
 unfold World.var? at h
 rw [hg] at h
 simp only [Option.bind_some] at h
 unfold World.cell?
 cases ho:w.heap[g]? with
 | none=>rw [ho] at h;simp at h
 | some o =>
   rw [ho] at h
   cases o with
   | cells cs e fz=>simp only [Option.some.injEq] at h;subst h;simp
   | _=>simp at h
theorem door_met (os:Os) (args:Array Value):laidMet Tryz.prog Rows.fnMeaningRow.laid ((World.doorLaid Tryz.prog 4000 os).forCall (fun _ _=>0) ⟨#[],args,[]⟩).memory :=
 laidMet_of_run' 8 (by kernel_rfl) (by kernel_rfl)
theorem row71:∀ u,Tryz.prog.typeName? 3 u=some "*errors.errorString"->u=237:=by
 have star : "*" ++ "errors.errorString" = "*errors.errorString":=by decide
 exact fun u hu=>typeName_ptr_named (nm:= "errors.errorString") (by rw [star];kernel_rfl) (by kernel_rfl) (by decide) u (by rw [star];exact hu)
theorem glob_of_laid {W:World} (h:laidMet Tryz.prog Rows.fnMeaningRow.laid W):yF W/\xR W:=by
 have h3:=h.tail.tail
 have h4:=h3.tail
 have h5:=h4.tail
 have h6:=h5.tail
 obtain ⟨a1,s1,v1,_⟩:=laid_sentinel h4 Tryz.gn1 gt1 Tryz.underlying118 row71 Tryz.underlying237 Tryz.underlying239 rfl rfl Tryz.underlying9 (by kernel_rfl) (by kernel_rfl)
 obtain ⟨a0,s0,v0,_⟩:=laid_sentinel h5 Tryz.gn0 gt0 Tryz.underlying118 row71 Tryz.underlying237 Tryz.underlying239 rfl rfl Tryz.underlying9 (by kernel_rfl) (by kernel_rfl)
 obtain ⟨a2,s2,v2,_⟩:=laid_sentinel h6 gnT gt3 Tryz.underlying118 row71 Tryz.underlying237 Tryz.underlying239 rfl rfl Tryz.underlying9 (by kernel_rfl) (by kernel_rfl)
 exact ⟨⟨⟨_,_,v0⟩,⟨_,_,v1⟩,Lib.tabIs_of_head (zs:=Lib.pow10Tab) Tryz.gn2 gt2 Tryz.underlying195 Tryz.underlying168 (by kernel_rfl) (by kernel_rfl) h3⟩,⟨_,var_cell gnT v2⟩⟩
set_option maxRecDepth 100000 in
theorem lifted (os:Os) (started:os.Started) (H:Type) (enc:TypeId×Value->H) :
 ReturnsInHanded {} Tryz.checked os 3 .any (fun w args=>(Rows.fnMeaningSpec.pre enc Tryz.prog Tryz.f3 [] false w args/\laidMetH Tryz.prog Rows.fnMeaningRow.laid w)/\sizedMet enc Tryz.prog Tryz.f3 (OpenSpec.ofChange Rows.fnMeaningSpec) false w args)
  (Rows.fnMeaningSpec.post enc Tryz.prog Tryz.f3 false true false false):=by
 refine returnsInHanded_of_change_and (C:=Tryz.checked) (X:=fun w _=>laidMetH Tryz.prog Rows.fnMeaningRow.laid w) (fun _ _ _ hh h=>h.of_heap hh) own started (by kernel_rfl) Tryz.func3
  (ChangeSpec.witness_shaped (enc:=enc) (C:=Tryz.checked) (os:=os) (X:=fun w _=>laidMetH Tryz.prog Rows.fnMeaningRow.laid w) false (World.doorLaid Tryz.prog 4000 os) #[.slice none 0 0] 8 rfl (World.shaped_of_RefB (by kernel_rfl) (by kernel_rfl)) (by kernel_rfl) (by kernel_rfl) (by kernel_rfl)
   (by show laidMetH _ _ _;rw [MakeChecks.laidMetH_plain _ _ _ (by kernel_rfl)];exact door_met os _)) ?_
 intro W base args ds gs before Lx hW _ _ hL _
 have Gk:∀ (j:Nat) t v,Tryz.f3.params[j]? = some t->args[j]? = some v->Value.okWide Tryz.prog W .any base t v:=Lx
 have hW':=hW
 obtain ⟨p,q,Ih,hV,rfl,hfz,Er⟩:=hW
 have hA:DataW.TrodAll enc Tryz.prog W 0 (fun _=>true) true Tryz.f3.params.toList args.toList ds p:=Ih
 rw [Tryz.params3] at hA Gk
 obtain ⟨v0,vs0,d0,ds0,p0,q0,hargs,rfl,rfl,h0,r0⟩:=trodAll_cons hA
 obtain ⟨rfl,rfl,rfl⟩:=trodAll_nil r0
 obtain rfl:args=#[v0]:=by cases args;simp_all
 obtain ⟨g,_,_,_,gd,_,rfl,_⟩:=trodVars_one hV
 have k0:=h0
 have lt:∀ {t:TypeId} {v:Value} {d:DataW H} {ps:List MemPlace},DataW.Trod enc Tryz.prog W 0 (fun _=>true) true t v d ps->∀ x∈ps,x.block<W.heap.size:=fun h x hx=>by obtain ⟨m,hm⟩:=h;exact DataW.trod_lt m _ _ _ hm x hx
 obtain ⟨a0,Li,N0,rfl⟩:=okWide_slice Tryz.underlying22 (Gk 0 22 v0 rfl rfl)
 obtain ⟨z0,w0⟩:∃ zs,Row8 W a0 Li N0 zs:=by
  obtain ⟨fuel,hf⟩:=h0
  rcases open_ints Tryz.underlying22 Tryz.underlying5 (by kernel_rfl) hf with ⟨hcs,_⟩ | ⟨x,l,c,zs,hcs,_,hl,hm,hz,_,aJ,DU⟩
  ·simp [Value.cells] at hcs
   obtain ⟨rfl,rfl,rfl⟩:=hcs
   exact ⟨[],.inl ⟨rfl,rfl,rfl,rfl⟩⟩
  ·simp [Value.cells] at hcs
   obtain ⟨rfl,rfl,rfl⟩:=hcs
   exact ⟨zs,.inr ⟨_,rfl,hl,hm,by simpa using hz,aJ,DU⟩⟩
 have hg:=glob_of_laid (by have h:laidMetH Tryz.prog Rows.fnMeaningRow.laid W:=hL;rwa [MakeChecks.laidMetH_plain _ _ _ (by kernel_rfl)] at h)
 refine (fnMeaning_any a0 Li N0 z0 W w0 hg.1 hg.2).mono fun e W' ⟨he,hb⟩=>?_
 subst he
 refine ⟨_,rfl,_,_,_,[],p0++[],q,hW',trodAll_mk1 (shut_bool Tryz.underlying4 true),?_,hb.trodVars laidOut (by kernel_rfl) hV,hb.frame _,fun h=>by cases h⟩
 exact trodAll_cons_mk (Below.trod laidOut (by kernel_rfl) (of_decide_eq_true (by kernel_rfl)) k0 hb (lt k0)) trodAll_mk0
theorem row_holds:Rows.FnMeaningSaid :=
 OpenClaim.holds_of_wide 3 Tryz.f3 rfl rfl rfl rfl rfl rfl rfl ⟨rfl,rfl,rfl,rfl,rfl⟩ rfl rfl rfl rfl rfl (by kernel_rfl) Tryz.func3 (by kernel_rfl)
  (of_decide_eq_true (by kernel_rfl)) (by unfold Func.isWrapper;first | (rw [if_pos (by decide +kernel)];kernel_rfl) | (rw [if_neg (by decide +kernel)];exact ⟨rfl,rfl⟩))
  (fun os started H enc _=>lifted os started H enc)
theorem card_holds:Rows.FnMeaningCardSaid :=
 Claim7.holds_tied_plain_at .later [] [.data,.data,.data,.sentinel,.sentinel,.sentinel] true Rows.fnMeaningCard.stood.harness true
  row_holds (fun _ h=>by cases h) (by kernel_rfl) (fun _ h=>by cases h) fnMeaning_row_tie rfl ⟨rfl,rfl⟩ (by kernel_rfl) rfl
  (fun f fn hf hfn=>by
   obtain rfl:f=3:=Option.some.inj ((show Tryz.prog.funcNamed "loop.example/innocentgames/laws.FnMeaning" = some 3 by kernel_rfl).symm.trans hf) |>.symm
   obtain rfl:fn=Tryz.f3:=(Option.some.inj (Tryz.func3.symm.trans hfn)).symm
   exact ⟨by kernel_rfl,fun j t ht=>by
    rw [Tryz.params3] at ht
    have h9:t=22:=by
     rcases j with _ | j
     ·exact by simpa using ht.symm
     ·simp at ht
    rcases h9 with rfl
    ·exact (show Tryz.prog.wantsStandIn 22=false by kernel_rfl)⟩)
  (by kernel_rfl)
#print axioms card_holds
end Go.Proofs.YtdhaafoiokkbnabGreatDoor

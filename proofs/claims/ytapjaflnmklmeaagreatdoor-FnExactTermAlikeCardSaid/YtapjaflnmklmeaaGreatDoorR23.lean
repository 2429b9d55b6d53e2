/- The row and the card of FnExactTermAlike: for all arguments the law returns true. Conditions: the listed variables of the library hold what their initialisers lay (the card ties that to the program's text). -/
import Derived.Test.YtapjaflnmklmeaaGreatDoorL14
import Derived.Test.YtapjaflnmklmeaaGreatDoorRows
import Derived.Test.YtapjaflnmklmeaaGreatDoorTie
import Derived.Test.YtapjaflnmklmeaaGreatDoorCards
import Derived.ChangeSame
import Derived.ChangeVars
import Derived.ChangeMaps5
import Derived.JoinedOf
import Derived.RowKit
import Derived.LaidLaws
import Derived.LaidMore
import Derived.LaidHandle
import Derived.MakeChecks
import Derived.Lib.LaidTab
import Derived.Stop.LaidErr
import Derived.Stop.Joined
import Derived.Deep.Strs
import Derived.OpenVars
import Derived.ProofKit
namespace Go.Proofs.YtapjaflnmklmeaaGreatDoor
open Go Go.ChangeShapes Go.WideShapes Go.RowKit Go.Deep
open Go.ChangeMaps (open_string shut_string)
theorem own:ownKnob Tryz.prog.godebug=none:=by kernel_rfl
theorem laidOut:laidOutB Tryz.prog=true:=by kernel_rfl
theorem gt2:(Tryz.prog.globals[1]?).map (·.type)=some 171:=by kernel_rfl
theorem gt3:(Tryz.prog.globals[0]?).map (·.type)=some 117:=by kernel_rfl
theorem gnT:Tryz.prog.globalNamed "loop.example/innocentgames/impl.errTooMany" = some 0:=by kernel_rfl
theorem var_cell {P:Program} {w:World} {nm:String} {g:Nat} {x:Value} (hg:P.globalNamed nm=some g) (h:w.var? P nm=some #[x]):w.cell? ⟨g,0,none⟩=some x:=by
 unfold World.var? at h
 rw [hg] at h
 simp only [Option.bind_some] at h
 unfold World.cell?
 cases ho:w.heap[g]? with
 | none=>rw [ho] at h;simp at h
 | some o =>
   rw [ho] at h
   cases o with
   | cells cs e fz=>simp only [Option.some.injEq] at h;subst h;simp
   | _=>simp at h
theorem door_met (os:Os) (args:Array Value):laidMet Tryz.prog Rows.fnExactTermAlikeRow.laid ((World.doorLaid Tryz.prog 4000 os).forCall (fun _ _=>0) ⟨#[],args,[]⟩).memory :=
 laidMet_of_run' 8 (by kernel_rfl) (by kernel_rfl)
theorem row71:∀ u,Tryz.prog.typeName? 3 u=some "*errors.errorString"→u=200:=by
 have star : "*" ++ "errors.errorString" = "*errors.errorString":=by decide
 exact fun u hu=>typeName_ptr_named (nm:= "errors.errorString") (by rw [star];kernel_rfl) (by kernel_rfl) (by decide) u (by rw [star];exact hu)
theorem glob_of_laid {W:World} (h:laidMet Tryz.prog Rows.fnExactTermAlikeRow.laid W):Glob W∧GlobE W:=by
 have h3:=h.tail.tail
 have h4:=h3.tail
 obtain ⟨a2,s2,v2,_⟩:=laid_sentinel h4 gnT gt3 Tryz.underlying117 row71 Tryz.underlying200 Tryz.underlying222 rfl rfl Tryz.underlying9 (by kernel_rfl) (by kernel_rfl)
 exact ⟨⟨Lib.tabIs_of_head (zs:=Lib.pow10Tab) Tryz.gn2 gt2 Tryz.underlying171 Tryz.underlying148 (by kernel_rfl) (by kernel_rfl) h3⟩,⟨_,var_cell gnT v2⟩⟩
set_option maxRecDepth 100000 in
theorem lifted (os:Os) (started:os.Started) (H:Type) (enc:TypeId×Value→H) :
 ReturnsInHanded {} Tryz.checked os 4 .any (fun w args=>(Rows.fnExactTermAlikeSpec.pre enc Tryz.prog Tryz.f4 [] false w args∧laidMetH Tryz.prog Rows.fnExactTermAlikeRow.laid w)∧sizedMet enc Tryz.prog Tryz.f4 (OpenSpec.ofChange Rows.fnExactTermAlikeSpec) false w args)
  (Rows.fnExactTermAlikeSpec.post enc Tryz.prog Tryz.f4 false true false false):=by
 refine returnsInHanded_of_change_and (C:=Tryz.checked) (X:=fun w _=>laidMetH Tryz.prog Rows.fnExactTermAlikeRow.laid w) (fun _ _ _ hh h=>h.of_heap hh) own started (by kernel_rfl) Tryz.func4
  (ChangeSpec.witness_shaped (enc:=enc) (C:=Tryz.checked) (os:=os) (X:=fun w _=>laidMetH Tryz.prog Rows.fnExactTermAlikeRow.laid w) false (World.doorLaid Tryz.prog 4000 os) #[.string ⟨#[]⟩,.string ⟨#[]⟩] 8 rfl (World.shaped_of_RefB (by kernel_rfl) (by kernel_rfl)) (by kernel_rfl) (by kernel_rfl) (by kernel_rfl)
   (by show laidMetH _ _ _;rw [MakeChecks.laidMetH_plain _ _ _ (by kernel_rfl)];exact door_met os _)) ?_
 intro W base args ds gs before hval0 hW _ _ hL _
 have hval:∀ (j:Nat) t v,Tryz.f4.params[j]? = some t→args[j]? = some v→Value.okWide Tryz.prog W .any base t v:=hval0
 have hW':=hW
 obtain ⟨p,q,hA0,hV,rfl,hfz,hnd⟩:=hW
 have hA:DataW.TrodAll enc Tryz.prog W 0 (fun _=>true) true Tryz.f4.params.toList args.toList ds p:=hA0
 rw [Tryz.params4] at hA hval
 obtain ⟨v0,v1,d0,d1,p0,p1,rfl,rfl,rfl,h0,h1⟩:=trodAll_two hA
 obtain ⟨g,_,_,_,gd,_,rfl,_⟩:=trodVars_one hV
 have k0:=h0;have k1:=h1
 have lt:∀ {t:TypeId} {v:Value} {d:DataW H} {ps:List MemPlace},DataW.Trod enc Tryz.prog W 0 (fun _=>true) true t v d ps→∀ x∈ps,x.block<W.heap.size:=fun h x hx=>by obtain ⟨m,hm⟩:=h;exact DataW.trod_lt m _ _ _ hm x hx
 obtain ⟨s0,rfl,rfl,rfl,z0⟩:=open_string Tryz.underlying9 (hval 0 _ v0 rfl rfl) h0
 obtain ⟨s1,rfl,rfl,rfl,z1⟩:=open_string Tryz.underlying9 (hval 1 _ v1 rfl rfl) h1
 have hg:=glob_of_laid (by have h:laidMetH Tryz.prog Rows.fnExactTermAlikeRow.laid W:=hL;rwa [MakeChecks.laidMetH_plain _ _ _ (by kernel_rfl)] at h)
 obtain ⟨⟨l0⟩⟩:=s0
 obtain ⟨⟨l1⟩⟩:=s1
 refine (fnExactTermAlike_any l0 l1 W hg.1 hg.2).mono fun e W' ⟨he,hb⟩=>?_
 subst he
 refine ⟨_,rfl,_,_,_,[],[]++[],q,hW',trodAll_mk1 (shut_bool Tryz.underlying4 true),?_,hb.trodVars laidOut (by kernel_rfl) hV,hb.frame _,fun h=>by cases h⟩
 exact trodAll_mk2 (Below.trod laidOut (by kernel_rfl) (of_decide_eq_true (by kernel_rfl)) k0 hb (lt k0)) (Below.trod laidOut (by kernel_rfl) (of_decide_eq_true (by kernel_rfl)) k1 hb (lt k1))
theorem row_holds:Rows.FnExactTermAlikeSaid :=
 OpenClaim.holds_of_wide 4 Tryz.f4 rfl rfl rfl rfl rfl rfl rfl ⟨rfl,rfl,rfl,rfl,rfl⟩ rfl rfl rfl rfl rfl (by kernel_rfl) Tryz.func4 (by kernel_rfl)
  (of_decide_eq_true (by kernel_rfl)) (by unfold Func.isWrapper;first | (rw [if_pos (by decide +kernel)];kernel_rfl) | (rw [if_neg (by decide +kernel)];exact ⟨rfl,rfl⟩))
  (fun os started H enc _=>lifted os started H enc)
theorem card_holds:Rows.FnExactTermAlikeCardSaid :=
 Claim7.holds_tied_plain_at .later [] [.data,.data,.data,.sentinel] true Rows.fnExactTermAlikeCard.stood.harness true
  row_holds (fun _ h=>by cases h) (by kernel_rfl) (fun _ h=>by cases h) fnExactTermAlike_row_tie rfl ⟨rfl,rfl⟩ (by kernel_rfl) rfl
  (fun f fn hf hfn=>by
   obtain rfl:f=4:=Option.some.inj ((show Tryz.prog.funcNamed "loop.example/innocentgames/laws.FnExactTermAlike" = some 4 by kernel_rfl).symm.trans hf) |>.symm
   obtain rfl:fn=Tryz.f4:=(Option.some.inj (Tryz.func4.symm.trans hfn)).symm
   exact ⟨by kernel_rfl,fun j t ht=>by
    rw [Tryz.params4] at ht
    have h9:t=9:=by
     rcases j with _ | _ | j
     ·exact by simpa using ht.symm
     ·exact by simpa using ht.symm
     ·simp at ht
    rcases h9 with rfl
    ·exact (show Tryz.prog.wantsStandIn 9=false by kernel_rfl)⟩)
  (by kernel_rfl)
#print axioms card_holds
end Go.Proofs.YtapjaflnmklmeaaGreatDoor

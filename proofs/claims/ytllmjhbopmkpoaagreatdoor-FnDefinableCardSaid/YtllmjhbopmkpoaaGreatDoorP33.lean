/- Plain words for the laws on terms: FnMeaning, FnDefinable, FnBeta, FnTermAlike. -/
import Derived.Test.YtllmjhbopmkpoaaGreatDoorP32
namespace Go.Proofs.YtllmjhbopmkpoaaGreatDoor
open Go.RowKit
def termStrat (s:Bs):Option Bs:=(meaning s).map fun x=>textB x.2
def termTy (s:Bs):Option Bs:=(termType s).map textT
theorem meaning_parts {s:Bs} {k:Ty} {b:Bd} (h:meaning s=some (k,b)):∃ t,implTerm s=some t∧okTm t∧s=textTm t∧typeOf [] t=some k∧meanOf [] t=some b:=by
 unfold meaning at h
 simp only [Option.bind_eq_some_iff,Option.map_eq_some_iff,Prod.mk.injEq] at h
 obtain ⟨t,h1,k',h2,b',h3,rfl,rfl⟩:=h
 obtain ⟨e,ho,_⟩:=implTerm_some h1
 exact ⟨t,h1,ho,e,h2,h3⟩
theorem definable_law {s text out:Bs} (h:stratTerm s text=some out):termTy out=some s∧termStrat out=some text:=by
 obtain ⟨t,b,h1,rfl,rfl,h5⟩:=definable h
 obtain ⟨h6,_⟩:=meaning_good h5
 exact ⟨by unfold termTy;rw [h6];rfl,by unfold termStrat;rw [h5];rfl⟩
end Go.Proofs.YtllmjhbopmkpoaaGreatDoor

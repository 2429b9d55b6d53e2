/- Plain words for FnCompose: the copy is neutral where strategies are composed, and composing applies. -/
import Derived.Test.YtllmjhbopmkpoaaGreatDoorP20
namespace Go.Proofs.YtllmjhbopmkpoaaGreatDoor
open Go.RowKit
structure Mixed (env:List Mn) (hand:List Ty):Prop where
 len:env.length=hand.length
 each:∀ i t,hand[i]? = some t→env[i]? = some (Mn.op i t)∨∃ (v:Nat) (e:List Mn),env[i]? = some (Mn.bd t (eta t v e.length) e)∧e[v]? = some (Mn.op i t)
theorem Mixed.opens {env:List Mn} {hand:List Ty} (h:Mixed env hand) (ts:List Ty):Mixed (env++Go.Proofs.YtllmjhbopmkpoaaGreatDoor.opens hand.length ts) (hand++ts):=by
 have hl:=h.len
 refine ⟨by rw [List.length_append,List.length_append,opens_length,hl],fun i t hi=>?_⟩
 rcases Nat.lt_or_ge i hand.length with hlt | hge
 ·rw [List.getElem?_append_left hlt] at hi
  rw [List.getElem?_append_left (by omega)]
  exact h.each i t hi
 ·rw [List.getElem?_append_right hge] at hi
  left
  rw [List.getElem?_append_right (by omega),hl,opens_at ts hand.length _ t hi,show hand.length+(i-hand.length)=i from by omega]
theorem Mixed.more {env:List Mn} {hand:List Ty} (h:Mixed env hand) (e2:List Mn) (ts:List Ty) :
 Mixed (env++owns (e2++Go.Proofs.YtllmjhbopmkpoaaGreatDoor.opens hand.length ts) ts (etas ts e2.length (e2.length+ts.length))) (hand++ts):=by
 have hl:=h.len
 refine ⟨?_,fun i t hi=>?_⟩
 ·rw [List.length_append,List.length_append,owns_length _ _ (etas_length _ _ _).symm,hl]
 ·rcases Nat.lt_or_ge i hand.length with hlt | hge
  ·rw [List.getElem?_append_left hlt] at hi
   rw [List.getElem?_append_left (by omega)]
   exact h.each i t hi
  ·rw [List.getElem?_append_right hge] at hi
   have h1:=etas_at ts e2.length (e2.length+ts.length) _ t hi
   have h2:=owns_at (env:=e2++Go.Proofs.YtllmjhbopmkpoaaGreatDoor.opens hand.length ts) ts _ _ t _ hi h1
   have h3:=opens_at ts hand.length _ t hi
   right
   refine ⟨e2.length+(i-hand.length),e2++Go.Proofs.YtllmjhbopmkpoaaGreatDoor.opens hand.length ts,?_,?_⟩
   ·rw [List.getElem?_append_right (by omega),hl,h2,List.length_append,opens_length]
   ·rw [List.getElem?_append_right (by omega),Nat.add_sub_cancel_left,h3,show hand.length+(i-hand.length)=i from by omega]
def Waits (st:List Gf):Prop:=st=[]∨∃ e,st=[⟨.leaf 116,.leaf 102,e⟩]
structure Composed (a b c m n out:Bs) (x y z:Ty) (f g o:Bd):Prop where
 ta:specType a=(x,true)
 tb:specType b=(y,true)
 tc:specType c=(z,true)
 ea:a=textT x
 eb:b=textT y
 ec:c=textT z
 gf:Good (arrowT x y) f
 gg:Good (arrowT y z) g
 em:m=textB f
 en:n=textB g
 ho:become g (composeEnv x y f z.args) (1+z.args.length)=some o
 go:Good (arrowT x z) o
 eo:out=textB o
theorem Composed.valid {a b c m n out:Bs} {x y z:Ty} {f g o:Bd} (h:Composed a b c m n out x y z f g o):specStrat (arrowText a c) out=some o:=by
 rw [h.ea,h.ec,arrowText_eq,h.eo]
 exact specStrat_of_good h.go
end Go.Proofs.YtllmjhbopmkpoaaGreatDoor

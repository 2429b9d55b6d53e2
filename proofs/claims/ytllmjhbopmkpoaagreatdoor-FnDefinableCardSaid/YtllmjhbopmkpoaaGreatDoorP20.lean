import Derived.Test.YtllmjhbopmkpoaaGreatDoorP17
import Derived.Test.YtllmjhbopmkpoaaGreatDoorP9
/- Plain words: what a body becomes goes on as the body does: the law of what is put for open levels. -/
namespace Go.Proofs.YtllmjhbopmkpoaaGreatDoor
open Go.RowKit
def evFs (f:Bd→List Mn→Nat→List Gf→Option Bd) (env:List Mn) (n:Nat):List Ty→List Bd→Option (List Bd)
 | t::ts,s::ss=>(f s (env++opens n t.args) (n+t.args.length) []).bind fun x=>(evFs f env n ts ss).bind fun xs=>some (x::xs)
 | _,_=>some []
def evF:Nat→Bd→List Mn→Nat→List Gf→Option Bd
 | 0,_,_,_,_=>none
 | d+1,b,env,n,st=>match b with
   | .leaf c=>if c=117 then some (.leaf c) else match st with
     | []=>some (.leaf c)
     | f::st'=>evF d (if c=116 then f.yes else f.no) f.env n st'
   | .ask v ss y no=>match env[v]? with
     | none=>none
     | some (.bd t b' e)=>if ss.length=t.args.length then evF d b' (e++owns env t.args ss) n (⟨y,no,env⟩::st) else none
     | some (.op o t)=>if ss.length=t.args.length then (evFs (evF d) env n t.args ss).bind fun xs=>(evF d y env n st).bind fun x=>(evF d no env n st).bind fun z=>some (.ask o xs x z) else none
mutual
def sbM (s:List Mn):Mn→Mn
 | .op o t=>(s[o]?).getD (.op o t)
 | .bd t b e=>.bd t b (substs s e)
def substs (s:List Mn):List Mn→List Mn
 | []=>[]
 | m::ms=>sbM s m::substs s ms
end
def substGs (s:List Mn):List Gf→List Gf
 | []=>[]
 | f::fs=>⟨f.yes,f.no,substs s f.env⟩::substGs s fs
def tyOf:Mn→Ty
 | .op _ t=>t
 | .bd t _ _=>t
mutual
def scM (H:List Ty):Mn→Prop
 | .op o t=>H[o]? = some t
 | .bd _ _ e=>scMs H e
def scMs (H:List Ty):List Mn→Prop
 | []=>True
 | m::ms=>scM H m∧scMs H ms
end
def scGs (H:List Ty):List Gf→Prop
 | []=>True
 | f::fs=>scMs H f.env∧scGs H fs
mutual
inductive MR:Mn→Mn→Prop
 | op (o:Nat) (t:Ty):MR (.op o t) (.op o t)
 | same {t:Ty} {b:Bd} {e1 e2:List Mn} (h:MRs e1 e2):MR (.bd t b e1) (.bd t b e2)
 | wrote {t:Ty} {b1 b2:Bd} {env s1 s2:List Mn} {d:Nat} {H:List Ty} (h:evF d b2 (env++opens H.length t.args) (H.length+t.args.length) []=some b1) (hs:scMs H env) (hl:s1.map tyOf=H) (hr:MRs s1 s2):MR (.bd t b1 s1) (.bd t b2 (substs s2 env))
inductive MRs:List Mn→List Mn→Prop
 | nil:MRs [] []
 | cons {a b:Mn} {la lb:List Mn} (h:MR a b) (hs:MRs la lb):MRs (a::la) (b::lb)
end
inductive GRs:List Gf→List Gf→Prop
 | nil:GRs [] []
 | same {y no:Bd} {e1 e2:List Mn} {K1 K2:List Gf} (h:MRs e1 e2) (hk:GRs K1 K2):GRs (⟨y,no,e1⟩::K1) (⟨y,no,e2⟩::K2)
 | wrote {x z y no:Bd} {env s1 s2:List Mn} {st K1 K2:List Gf} {d:Nat} {H:List Ty} (hy:evF d y env H.length st=some x) (hn:evF d no env H.length st=some z) (hs:scMs H env) (hg:scGs H st) (hl:s1.map tyOf=H) (hr:MRs s1 s2) (hk:GRs K1 K2) :
  GRs (⟨x,z,s1⟩::K1) (⟨y,no,substs s2 env⟩::(substGs s2 st++K2))
theorem MRs.length:∀ {a b:List Mn},MRs a b→a.length=b.length
 | _,_,.nil=>rfl
 | _,_,.cons _ hs=>by simp [MRs.length hs]
theorem MRs.at:∀ {a b:List Mn},MRs a b→∀ (k:Nat) (m:Mn),a[k]? = some m→∃ m',b[k]? = some m'∧MR m m'
 | _,_,.nil,k,m,h=>by simp at h
 | _,_,.cons h hs,k,m,hk=>by
   cases k with
   | zero=>simp at hk;subst hk;exact ⟨_,rfl,h⟩
   | succ k=>simp only [List.getElem?_cons_succ] at *;exact MRs.at hs k m hk
theorem MRs.append:∀ {a b:List Mn},MRs a b→∀ {c d:List Mn},MRs c d→MRs (a++c) (b++d)
 | _,_,.nil,_,_,h=>h
 | _,_,.cons h hs,_,_,k=>.cons h (MRs.append hs k)
mutual
theorem MR.refl:∀ m:Mn,MR m m
 | .op o t=>.op o t
 | .bd t b e=>.same (MRs.refl e)
theorem MRs.refl:∀ ms:List Mn,MRs ms ms
 | []=>.nil
 | m::ms=>.cons (MR.refl m) (MRs.refl ms)
end
theorem MRs.owns {e1 e2:List Mn} (h:MRs e1 e2):∀ (ts:List Ty) (ss:List Bd),MRs (owns e1 ts ss) (Go.Proofs.YtllmjhbopmkpoaaGreatDoor.owns e2 ts ss)
 | [],ss=>by
   rw [Go.Proofs.YtllmjhbopmkpoaaGreatDoor.owns,Go.Proofs.YtllmjhbopmkpoaaGreatDoor.owns]
   ·exact .nil
   ·intros;contradiction
   ·intros;contradiction
 | t::ts,[]=>by
   rw [Go.Proofs.YtllmjhbopmkpoaaGreatDoor.owns,Go.Proofs.YtllmjhbopmkpoaaGreatDoor.owns]
   ·exact .nil
   ·intros;contradiction
   ·intros;contradiction
 | t::ts,s::ss=>by
   rw [Go.Proofs.YtllmjhbopmkpoaaGreatDoor.owns,Go.Proofs.YtllmjhbopmkpoaaGreatDoor.owns]
   exact .cons (.same h) (MRs.owns h ts ss)
inductive CR:Bd→List Mn→List Gf→Bd→List Mn→List Gf→Prop
 | same {b:Bd} {e1 e2:List Mn} {K1 K2:List Gf} (h:MRs e1 e2) (hk:GRs K1 K2):CR b e1 K1 b e2 K2
 | wrote {b1 b2:Bd} {env s1 s2:List Mn} {st K1 K2:List Gf} {d:Nat} {H:List Ty} (h:evF d b2 env H.length st=some b1) (hs:scMs H env) (hg:scGs H st) (hl:s1.map tyOf=H) (hr:MRs s1 s2) (hk:GRs K1 K2) :
  CR b1 s1 K1 b2 (substs s2 env) (substGs s2 st++K2)
end Go.Proofs.YtllmjhbopmkpoaaGreatDoor
namespace Go.Proofs.YtllmjhbopmkpoaaGreatDoor
open Go.RowKit
end Go.Proofs.YtllmjhbopmkpoaaGreatDoor
namespace Go.Proofs.YtllmjhbopmkpoaaGreatDoor
open Go.RowKit
end Go.Proofs.YtllmjhbopmkpoaaGreatDoor

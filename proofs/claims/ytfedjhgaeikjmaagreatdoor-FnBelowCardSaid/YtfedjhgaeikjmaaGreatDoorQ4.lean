/- Walks of functions that the statement reaches, and plain words. No conditions. -/
import Derived.Deep.Cut
import Derived.StillTailTactics
import Derived.BigRegion
import Derived.Outline
import Derived.Laws.IdiomStrings
import Derived.Deep.DeepCutAuto
import Derived.Laws.MakeOwn
import Derived.RegionTactic
import Derived.Test.YtfedjhgaeikjmaaGreatDoorQ3
set_option linter.unusedVariables false
set_option linter.unusedSimpArgs false
set_option maxHeartbeats 4000000
namespace Go.Proofs.YtfedjhgaeikjmaaGreatDoor
open Go.RowKit
def atT (t:Ty):Bs->Option Ty
 | []=>some t
 | c::p=>if 48<=c.toNat then (match t.args[c.toNat-48]? with | some a=>atT a p | none=>none) else none
theorem jR (t:Ty):atT t []=some t:=by cases t;rfl
theorem vx (t:Ty) (c:UInt8) (p:Bs):atT t (c::p)=if 48<=c.toNat then (match t.args[c.toNat-48]? with | some a=>atT a p | none=>none) else none:=by rw [atT]
theorem jD:∀ (p q:Bs) (t:Ty),atT t (p++q)=(atT t p).bind fun a=>atT a q
 | [],q,t=>by rw [jR];rfl
 | c::p,q,t=>by
   rw [List.cons_append,vx,vx]
   split
   ·cases h:t.args[c.toNat-48]? with
    | none=>rfl
    | some a=>exact jD p q a
   ·rfl
theorem ut {j:Nat} (h:j<10):(qw j).toNat=48+j:=qT h
theorem atT_digit (t:Ty) {j:Nat} (h:j<10):atT t [qw j]=t.args[j]?:=by
 rw [vx,ut h,if_pos (by omega),show 48+j-48=j from by omega]
 cases t.args[j]? with
 | none=>rfl
 | some a=>exact jR a
theorem yS {t a:Ty} {j:Nat} (h:t.args[j]? = some a):zY a+2<=zY t:=by
 have h1:=uX h
 have h2:=jp t.args (j+1)
 rw [kw t]
 omega
theorem qY (t:Ty):2*t.args.length+1<=zY t:=by
 rw [kw t]
 have:∀ ts:List Ty,2*ts.length<=zF ts:=by
  intro ts
  induction ts with
  | nil=>simp
  | cons u us ih =>
    have:=jC u
    rw [show u::us=[u]++us from rfl,j8]
    have e:zF [u]=1+zY u:=by simp [zF]
    rw [e,List.length_append,List.length_singleton];omega
 have:=this t.args
 omega
theorem qy:∀ (p:Bs) (t a:Ty),atT t p=some a->2*p.length+zY a<=zY t
 | [],t,a,h=>by rw [jR] at h;obtain rfl:=Option.some.inj h;simp
 | c::p,t,a,h=>by
   rw [vx] at h
   split at h
   ·cases hq:t.args[c.toNat-48]? with
    | none=>rw [hq] at h;simp at h
    | some b =>
      rw [hq] at h
      have h1:=qy p b a h
      have h2:=yS hq
      rw [List.length_cons];omega
   ·simp at h
def vU {α:Type}:List (Option (List α))->Option (List α)
 | []=>some []
 | o::os=>o.bind fun a=>(vU os).map (a ++ ·)
theorem y5 {α:Type}:∀ (xs ys:List (Option (List α))),vU (xs++ys)=(vU xs).bind fun a=>(vU ys).map (a ++ ·)
 | [],ys=>by
   simp only [List.nil_append,vU,Option.bind_some]
   cases vU ys <;> simp
 | o::os,ys=>by
   simp only [List.cons_append,vU,y5 os ys]
   cases o with
   | none=>rfl
   | some a =>
     cases vU os with
     | none=>rfl
     | some b =>
       cases vU ys with
       | none=>rfl
       | some c=>simp
abbrev Pl:=List (Bs×Int)
abbrev zO:=Nat×Bs
def zq (many begin:Nat) (path:Bs):List zO:=(List.range many).map fun i=>(begin,path++dec i)
theorem zx (m b:Nat) (p:Bs):(zq m b p).length=m:=by simp [zq]
theorem vQ {m b j:Nat} {p:Bs} (h:j<m):(zq m b p)[j]? = some (b,p++dec j):=by simp [zq,h]
theorem placesOf_succ (m b:Nat) (p:Bs):zq (m+1) b p=zq m b p++[(b,p++dec m)]:=by simp [zq,List.range_succ]
def q_ (t:Ty) (p:Bs):Nat:=match atT t p with | some a=>a.args.length | none=>0
def xf (c:UInt8) (v:Pl) (path:Bs) (n:Nat):Pl:=v++[(c::path,(n:Int))]
mutual
def ja (t:Ty):Bd->List zO->zO->Pl->Option (List Pl)
 | .leaf c,_,bg,v=>if c=117 then some [] else if 60<=v.length then none else some [xf c v bg.2 bg.1]
 | .ask l ss y n,lv,bg,v=>if 59<=v.length then none else
  (vU (yO t ss 0 (lv.getD l (0,[])).2 v.length lv (xf 113 v (lv.getD l (0,[])).2 (lv.getD l (0,[])).1) ++
   [ja t y lv bg (xf 116 (xf 113 v (lv.getD l (0,[])).2 (lv.getD l (0,[])).1) (lv.getD l (0,[])).2 v.length),
    ja t n lv bg (xf 102 (xf 113 v (lv.getD l (0,[])).2 (lv.getD l (0,[])).1) (lv.getD l (0,[])).2 v.length)])).map
   (xf 113 v (lv.getD l (0,[])).2 (lv.getD l (0,[])).1 :: ·)
def yO (t:Ty):List Bd->Nat->Bs->Nat->List zO->Pl->List (Option (List Pl))
 | [],_,_,_,_,_=>[]
 | s::ss,j,path,k,lv,asked =>
   ja t s (lv++zq (q_ t (path++dec j)) (k+1) (path++dec j)) (k+1,path++dec j) (xf 113 asked (path++dec j) k)::yO t ss (j+1) path k lv asked
end
mutual
theorem qO (t:Ty):∀ (b:Bd) (lv:List zO) (bg:zO) (v:Pl) (out:List Pl),ja t b lv bg v=some out->out.length<=zP b
 | .leaf c,lv,bg,v,out,h=>by
   rw [ja] at h
   split at h
   ·obtain rfl:=Option.some.inj h;simp
   ·split at h
    ·simp at h
    ·obtain rfl:=Option.some.inj h;simp [zP]
 | .ask l ss y n,lv,bg,v,out,h=>by
   rw [ja] at h
   split at h
   ·simp at h
   ·rw [y5] at h
    simp only [vU,Option.map_eq_some_iff,Option.bind_eq_some_iff] at h
    obtain ⟨_,⟨a,ha,_,⟨b,hb,_,⟨c,hc,_,h0,rfl⟩,rfl⟩,rfl⟩,rfl⟩:=h
    obtain rfl:=Option.some.inj h0
    have h1:=yZ t ss _ _ _ _ _ a ha
    have h2:=qO t y _ _ _ b hb
    have h3:=qO t n _ _ _ c hc
    rw [zP]
    simp only [List.length_cons,List.length_append,List.length_nil];omega
theorem yZ (t:Ty):∀ (ss:List Bd) (j:Nat) (path:Bs) (k:Nat) (lv:List zO) (asked:Pl) (out:List Pl),vU (yO t ss j path k lv asked)=some out->out.length<=zW ss
 | [],_,_,_,_,_,out,h=>by rw [yO,vU] at h;obtain rfl:=Option.some.inj h;simp
 | s::ss,j,path,k,lv,asked,out,h=>by
   rw [yO,vU] at h
   simp only [Option.map_eq_some_iff,Option.bind_eq_some_iff] at h
   obtain ⟨a,ha,b,hb,rfl⟩:=h
   have h1:=qO t s _ _ _ a ha
   have h2:=yZ t ss _ _ _ _ _ b hb
   rw [zW,List.length_append];omega
end
structure yY (t:Ty) (lv:List zO) (hand:List Ty) (n:Nat):Prop where
 len:lv.length=hand.length
 each:∀ (i:Nat) (a:Ty),hand[i]? = some a->∃ pl,lv[i]? = some pl/\atT t pl.2=some a/\pl.1<n
theorem yY.kid {t:Ty} {lv:List zO} {hand:List Ty} {n m k:Nat} (h:yY t lv hand n) (rt:n<=m) (hk:k<m) {p:Bs} {a:Ty} (ha:atT t p=some a) (h10:a.args.length<=10) :
 yY t (lv++zq a.args.length k p) (hand++a.args) m:=by
 refine ⟨by rw [List.length_append,List.length_append,zx,h.len],fun i b hb=>?_⟩
 rcases Nat.lt_or_ge i hand.length with hi | hi
 ·rw [List.getElem?_append_left hi] at hb
  obtain ⟨pl,h1,h2,h3⟩:=h.each i b hb
  exact ⟨pl,by rw [List.getElem?_append_left (by rw [h.len];exact hi)];exact h1,h2,by omega⟩
 ·rw [List.getElem?_append_right hi] at hb
  have gH:=(List.getElem?_eq_some_iff.1 hb).1
  refine ⟨(k,p++dec (i-hand.length)),?_,?_,hk⟩
  ·rw [List.getElem?_append_right (by rw [h.len];exact hi),h.len,vQ gH]
  ·show atT t (p++dec (i-hand.length))=some b
   rw [jD,ha,Option.bind_some,qV (by omega),atT_digit _ (by omega)];exact hb
theorem yY.mono {t:Ty} {lv:List zO} {hand:List Ty} {n m:Nat} (h:yY t lv hand n) (rt:n<=m):yY t lv hand m :=
 ⟨h.len,fun i a ha=>by obtain ⟨pl,h1,h2,h3⟩:=h.each i a ha;exact ⟨pl,h1,h2,by omega⟩⟩
structure yT (lv:List zO) (bg:zO) (v:Pl) (begun args:List Nat) (opens:Nat):Prop where
 lb:begun.length=lv.length
 la:args.length=lv.length
 each:∀ (i:Nat) (pl:zO),lv[i]? = some pl->∃ j m z,begun[i]? = some pl.1/\args[i]? = some j/\v[pl.1]? = some (113::m,z)/\pl.2=m++dec j/\j<10
 bg:bg.1=opens/\∃ c z,v[opens]? = some (c::bg.2,z)
theorem yT.more {lv:List zO} {bg:zO} {v:Pl} {begun args:List Nat} {opens:Nat} (h:yT lv bg v begun args opens) (xs:Pl):yT lv bg (v++xs) begun args opens:=by
 have key:∀ (i:Nat) (x:Bs×Int),v[i]? = some x->(v++xs)[i]? = some x:=fun i x hx=>by
  rw [List.getElem?_append_left (List.getElem?_eq_some_iff.1 hx).1];exact hx
 refine ⟨h.lb,h.la,fun i pl hi=>?_,h.bg.1,?_⟩
 ·obtain ⟨j,m,z,h1,h2,h3,h4⟩:=h.each i pl hi
  exact ⟨j,m,z,h1,h2,key _ _ h3,h4⟩
 ·obtain ⟨c,z,hc⟩:=h.bg.2
  exact ⟨c,z,key _ _ hc⟩
theorem yT.kid {lv:List zO} {bg:zO} {v:Pl} {begun args:List Nat} {opens:Nat} (h:yT lv bg v begun args opens) (many k:Nat) (p:Bs) (h10:many<=10) {z:Int} (hk:v[k]? = some (113::p,z)) :
 yT (lv++zq many k p) (k,p) v (begun++List.replicate many k) (args++List.range many) k:=by
 refine ⟨by simp [h.lb,zx],by simp [h.la,zx],fun i pl hi=>?_,rfl,113,z,hk⟩
 rcases Nat.lt_or_ge i lv.length with gH | mn
 ·rw [List.getElem?_append_left gH] at hi
  obtain ⟨j,m,z',h1,h2,h3,h4⟩:=h.each i pl hi
  exact ⟨j,m,z',by rw [List.getElem?_append_left (by rw [h.lb];exact gH)];exact h1,by rw [List.getElem?_append_left (by rw [h.la];exact gH)];exact h2,h3,h4⟩
 ·rw [List.getElem?_append_right mn] at hi
  have hl:=(List.getElem?_eq_some_iff.1 hi).1
  rw [zx] at hl
  rw [vQ hl] at hi
  obtain rfl:=Option.some.inj hi
  refine ⟨i-lv.length,p,z,?_,?_,hk,rfl,by omega⟩
  ·rw [List.getElem?_append_right (by rw [h.lb];exact mn),h.lb];simp [hl]
  ·rw [List.getElem?_append_right (by rw [h.la];exact mn),h.la];simp [hl]
inductive AnsAt (t:Ty) (ss:List Bd) (y n:Bd) (p:Bs) (k:Nat) (lv:List zO) (bg:zO) (asked:Pl) (j:Nat):Bs->Option (List Pl)->Prop
 | kid (s:Bd) (h:ss[j]? = some s):AnsAt t ss y n p k lv bg asked j (113::(p++dec j)) (ja t s (lv++zq (q_ t (p++dec j)) (k+1) (p++dec j)) (k+1,p++dec j) (asked++[(113::(p++dec j),(k:Int))]))
 | yes (h:j=ss.length):AnsAt t ss y n p k lv bg asked j (116::p) (ja t y lv bg (asked++[(116::p,(k:Int))]))
 | no (h:j=ss.length+1):AnsAt t ss y n p k lv bg asked j (102::p) (ja t n lv bg (asked++[(102::p,(k:Int))]))
def szAll (ss:List Bd) (y n:Bd):List Nat:=ss.map zP++[zP y,zP n]
theorem AnsAt.size {t:Ty} {ss:List Bd} {y n:Bd} {p:Bs} {k:Nat} {lv:List zO} {bg:zO} {asked:Pl} {j:Nat} {M:Bs} {o:Option (List Pl)} (h:AnsAt t ss y n p k lv bg asked j M o) :
 ∃ z,(szAll ss y n)[j]? = some z/\∀ out,o=some out->out.length<=z:=by
 cases h with
 | kid s h =>
   have hj:=(List.getElem?_eq_some_iff.1 h).1
   refine ⟨zP s,?_,fun out ho=>qO t s _ _ _ out ho⟩
   rw [szAll,List.getElem?_append_left (by rw [List.length_map];exact hj),List.getElem?_map,h];rfl
 | yes h =>
   subst h
   refine ⟨zP y,?_,fun out ho=>qO t y _ _ _ out ho⟩
   rw [szAll,List.getElem?_append_right (by rw [List.length_map];omega),List.length_map,Nat.sub_self];rfl
 | no h =>
   subst h
   refine ⟨zP n,?_,fun out ho=>qO t n _ _ _ out ho⟩
   rw [szAll,List.getElem?_append_right (by rw [List.length_map];omega),List.length_map,Nat.add_sub_cancel_left];rfl
inductive Mn where
 | op (o:Nat) (t:Ty)
 | bd (t:Ty) (b:Bd) (env:List Mn)
structure Gf where
 yes:Bd
 no:Bd
 env:List Mn
def opens:Nat->List Ty->List Mn
 | _,[]=>[]
 | n,t::ts=>.op n t::opens (n+1) ts
def owns (env:List Mn):List Ty->List Bd->List Mn
 | t::ts,s::ss=>.bd t s env::owns env ts ss
 | _,_=>[]
def evSubs (ev:Nat->Bd->List Mn->Nat->List Gf->Option (Bd×Nat)) (env:List Mn) (n:Nat):Nat->List Ty->List Bd->Option (List Bd×Nat)
 | l,t::ts,s::ss=>do
   let (x,l1)<-ev l s (env++opens n t.args) (n+t.args.length) []
   let (xs,l2)<-evSubs ev env n l1 ts ss
   some (x::xs,l2)
 | l,_,_=>some ([],l)
def ev:Nat->Nat->Bd->List Mn->Nat->List Gf->Option (Bd×Nat)
 | 0,_,_,_,_,_=>none
 | d+1,l,b,env,n,st=>match l with
   | 0=>none
   | l+1=>match b with
     | .leaf c=>if c=117 then some (.leaf c,l) else match st with
       | []=>some (.leaf c,l)
       | f::st'=>ev d l (if c=116 then f.yes else f.no) f.env n st'
     | .ask v ss y no=>match env[v]? with
       | none=>none
       | some (.bd t b' e)=>ev d l b' (e++owns env t.args ss) n (⟨y,no,env⟩::st)
       | some (.op o t)=>do
         let (xs,l1)<-evSubs (ev d) env n l t.args ss
         let (x,l2)<-ev d l1 y env n st
         let (z,l3)<-ev d l2 no env n st
         some (.ask o xs x z,l3)
def evSubsN (ev:Nat->Nat->Bd->List Mn->Nat->List Gf->Option (Bd×Nat×Nat)) (env:List Mn) (n:Nat):Nat->Nat->List Ty->List Bd->Option (List Bd×Nat×Nat)
 | k,l,t::ts,s::ss=>do
   let (x,k1,l1)<-ev k l s (env++opens n t.args) (n+t.args.length) []
   let (xs,k2,l2)<-evSubsN ev env n k1 l1 ts ss
   some (x::xs,k2,l2)
 | k,l,_,_=>some ([],k,l)
def evN:Nat->Nat->Nat->Bd->List Mn->Nat->List Gf->Option (Bd×Nat×Nat)
 | 0,_,_,_,_,_,_=>none
 | d+1,k,l,b,env,n,st=>match l with
   | 0=>none
   | l+1=>match k with
     | 0=>none
     | k+1=>match b with
       | .leaf c=>if c=117 then some (.leaf c,k,l) else match st with
         | []=>some (.leaf c,k,l)
         | f::st'=>evN d (k+1) l (if c=116 then f.yes else f.no) f.env n st'
       | .ask v ss y no=>match env[v]? with
         | none=>none
         | some (.bd t b' e)=>evN d (k+1) l b' (e++owns env t.args ss) n (⟨y,no,env⟩::st)
         | some (.op o t)=>do
           let (xs,k1,l1)<-evSubsN (evN d) env n k l t.args ss
           let (x,k2,l2)<-evN d k1 l1 y env n st
           let (z,k3,l3)<-evN d k2 l2 no env n st
           some (.ask o xs x z,k3,l3)
mutual
def uv (H:List Ty):Mn->Ty->Prop
 | .op o t,t'=>t=t'/\H[o]? = some t
 | .bd t b e,t'=>t=t'/\∃ h,kS H e h/\zm (h++t.args) b
def kS (H:List Ty):List Mn->List Ty->Prop
 | [],h=>h=[]
 | m::ms,h=>∃ t ts,h=t::ts/\uv H m t/\kS H ms ts
end
theorem mnFits_at {H:List Ty}:∀ (cs:List Mn) (h:List Ty),kS H cs h->∀ (i:Nat) (t:Ty),h[i]? = some t->∃ c,cs[i]? = some c/\uv H c t
 | [],h,k,i,c,hc=>by rw [kS] at k;subst k;simp at hc
 | c::cs,h,k,i,t',hc=>by
   rw [kS] at k
   obtain ⟨t,ts,rfl,k1,k2⟩:=k
   cases i with
   | zero=>simp at hc;subst hc;exact ⟨c,rfl,k1⟩
   | succ i=>simp at hc;simpa using mnFits_at cs ts k2 i t' hc
theorem vR {H:List Ty}:∀ (xs bs:List Mn) (h k:List Ty),kS H xs h->kS H bs k->kS H (xs++bs) (h++k)
 | [],bs,h,k,h1,h2=>by rw [kS] at h1;subst h1;simpa using h2
 | a::xs,bs,h,k,h1,h2=>by
   rw [kS] at h1
   obtain ⟨t,ts,rfl,k1,k2⟩:=h1
   simp only [List.cons_append]
   rw [kS]
   exact ⟨t,ts++k,rfl,k1,vR xs bs ts k k2 h2⟩
mutual
theorem mnFit_more {H X:List Ty}:∀ (m:Mn) (t:Ty),uv H m t->uv (H++X) m t
 | .op o t,t',h=>by
   rw [uv] at *
   exact ⟨h.1,by rw [List.getElem?_append_left (List.getElem?_eq_some_iff.1 h.2).1];exact h.2⟩
 | .bd t b e,t',h=>by
   rw [uv] at *
   obtain ⟨h1,k,h2,h3⟩:=h
   exact ⟨h1,k,uj e k h2,h3⟩
theorem uj {H X:List Ty}:∀ (ms:List Mn) (h:List Ty),kS H ms h->kS (H++X) ms h
 | [],h,k=>by rw [kS] at *;exact k
 | m::ms,h,k=>by
   rw [kS] at *
   obtain ⟨t,ts,rfl,k1,k2⟩:=k
   exact ⟨t,ts,rfl,mnFit_more m t k1,uj ms ts k2⟩
end
theorem opens_fit {H:List Ty}:∀ (ts:List Ty) (n:Nat),(∀ i t,ts[i]? = some t->H[n+i]? = some t)->kS H (opens n ts) ts
 | [],n,h=>by rw [opens,kS]
 | t::ts,n,h=>by
   rw [opens,kS]
   refine ⟨t,ts,rfl,?_,opens_fit ts (n+1) fun i t' hi=>?_⟩
   ·rw [uv];exact ⟨rfl,by have:=h 0 t rfl;simpa using this⟩
   ·have:=h (i+1) t' (by simpa using hi)
    rw [show n+1+i=n+(i+1) from by omega];exact this
theorem opens_fit_end (H:List Ty) (ts:List Ty):kS (H++ts) (opens H.length ts) ts :=
 opens_fit ts H.length fun i t h=>by rw [List.getElem?_append_right (by omega),Nat.add_sub_cancel_left];exact h
theorem owns_fit {H h:List Ty} {env:List Mn} (he:kS H env h):∀ (ts:List Ty) (ss:List Bd),z_ (kP h ts) ss->kS H (owns env ts ss) ts
 | [],ss,hf=>by
   rw [owns]
   ·rw [kS]
   ·intros;contradiction
 | t::ts,[],hf=>by
   rw [z_] at hf;simp [kP] at hf
 | t::ts,s::ss,hf=>by
   rw [z_] at hf
   obtain ⟨h',cz,e,h1,h2⟩:=hf
   simp only [kP,List.map_cons,List.cons.injEq] at e
   obtain ⟨rfl,rfl⟩:=e
   rw [owns,kS]
   refine ⟨t,ts,rfl,?_,owns_fit he ts ss h2⟩
   rw [uv]
   exact ⟨rfl,h,he,h1⟩
def gfFit (H:List Ty) (f:Gf):Prop:=∃ h,kS H f.env h/\zm h f.yes/\zm h f.no
structure yX (H:List Ty) (b:Bd) (env:List Mn) (st:List Gf):Prop where
 fit:∃ h,kS H env h/\zm h b
 frames:∀ f∈st,gfFit H f
theorem yX.ask {H:List Ty} {v:Nat} {ss:List Bd} {y no:Bd} {env:List Mn} {st:List Gf} (h:yX H (.ask v ss y no) env st) :
 ∃ m t hh,env[v]? = some m/\uv H m t/\kS H env hh/\z_ (kP hh t.args) ss/\zm hh y/\zm hh no:=by
 obtain ⟨⟨hh,h1,h2⟩,_⟩:=h
 rw [zm] at h2
 obtain ⟨t,k1,k2,k3,k4⟩:=h2
 obtain ⟨m,m1,m2⟩:=mnFits_at _ _ h1 v t k1
 exact ⟨m,t,hh,m1,m2,h1,k2,k3,k4⟩
theorem yX.call {H:List Ty} {v:Nat} {ss:List Bd} {y no:Bd} {env:List Mn} {st:List Gf} (h:yX H (.ask v ss y no) env st) {t:Ty} {b':Bd} {e:List Mn} (he:env[v]? = some (.bd t b' e)) :
 ss.length=t.args.length/\yX H b' (e++owns env t.args ss) (⟨y,no,env⟩::st):=by
 obtain ⟨m,t',hh,m1,m2,m3,m4,m5,m6⟩:=h.ask
 rw [he] at m1;simp at m1;subst m1
 rw [uv] at m2
 obtain ⟨rfl,k,k1,k2⟩:=m2
 refine ⟨?_,⟨k++t.args,vR _ _ _ _ k1 (owns_fit m3 _ _ m4),k2⟩,fun f hf=>?_⟩
 ·have:=qq _ _ m4;rw [js] at this;exact this.symm
 ·rcases List.mem_cons.1 hf with rfl | hf
  ·exact ⟨hh,m3,m5,m6⟩
  ·exact h.frames f hf
theorem yX.keep {H:List Ty} {v:Nat} {ss:List Bd} {y no:Bd} {env:List Mn} {st:List Gf} (h:yX H (.ask v ss y no) env st) {t:Ty} {o:Nat} (he:env[v]? = some (.op o t)) :
 ss.length=t.args.length/\H[o]? = some t/\(∀ (k:Nat) (a:Ty) (s:Bd),t.args[k]? = some a->ss[k]? = some s->yX (H++a.args) s (env++opens H.length a.args) [])/\yX H y env st/\yX H no env st:=by
 obtain ⟨m,t',hh,m1,m2,m3,m4,m5,m6⟩:=h.ask
 rw [he] at m1;simp at m1;subst m1
 rw [uv] at m2
 obtain ⟨rfl,k1⟩:=m2
 have hl:=qq _ _ m4
 rw [js] at hl
 refine ⟨hl.symm,k1,fun k a s ha hs=>?_,⟨⟨hh,m3,m5⟩,h.frames⟩,⟨⟨hh,m3,m6⟩,h.frames⟩⟩
 obtain ⟨x,hx,hf⟩:=qa _ _ m4 k s hs
 have cK:x=hh++a.args:=by simp [kP,ha] at hx;exact hx.symm
 subst cK
 exact ⟨⟨hh++a.args,vR _ _ _ _ (uj _ _ m3) (opens_fit_end H a.args),hf⟩,by simp⟩
mutual
def wfB:Bd->Prop
 | .leaf c=>c=116\/c=102\/c=117
 | .ask _ ss y n=>wfBs ss/\wfB y/\wfB n
def wfBs:List Bd->Prop
 | []=>True
 | b::bs=>wfB b/\wfBs bs
end
theorem wfBs_at:∀ (xs:List Bd),wfBs xs->∀ (k:Nat) (b:Bd),xs[k]? = some b->wfB b
 | [],_,k,b,h=>by simp at h
 | x::xs,hw,k,b,h=>by
   rw [wfBs] at hw
   cases k with
   | zero=>simp at h;subst h;exact hw.1
   | succ k=>exact wfBs_at xs hw.2 k b (by simpa using h)
theorem textB_ask (v:Nat) (ss:List Bd) (y n:Bd):kT (.ask v ss y n)=40::(dec v++(kM (ss++[y,n])++[41])):=by
 rw [kT,jF];simp [kM]
theorem uA {rd:RdS} {P:Bd->Prop} (h:∀ hand l b r,rd hand l=some (b,r)->P b):∀ (hs:List (List Ty)) (l:Bs) (ps:List Bd) (r:Bs),zJ rd hs l=some (ps,r)->∀ p∈ps,P p
 | [],l,ps,r,hx=>by simp [zJ] at hx;obtain ⟨rfl,_⟩:=hx;simp
 | a::hs,l,ps,r,hx=>by
   simp only [zJ,z8,Option.bind_eq_bind,Option.bind_eq_some_iff,Prod.exists] at hx
   obtain ⟨b,l1,⟨l0,h0,h1⟩,bs,l2,h2,h3⟩:=hx
   simp at h3;obtain ⟨rfl,rfl⟩:=h3
   intro p hp
   rcases List.mem_cons.1 hp with rfl | hp
   ·exact h _ _ _ _ h1
   ·exact uA h hs l1 bs l2 h2 p hp
theorem pd {v n:Nat} {ps:List Bd} {b:Bd} (h:uG v n ps=some b):∃ ss y no,b=.ask v ss y no/\ps=ss++[y,no]:=by
 unfold uG at h
 split at h
 ·rename_i y no hd
  simp at h;subst h
  exact ⟨_,_,_,rfl,by rw [<- hd,List.take_append_drop]⟩
 ·simp at h
theorem wfBs_of:∀ (ps:List Bd),(∀ p∈ps,wfB p)->wfBs ps
 | [],_=>trivial
 | p::ps,h=>⟨h p (by simp),wfBs_of ps fun q hq=>h q (by simp [hq])⟩
theorem wI:∀ (xs ys:List Bd),wfBs (xs++ys)->wfBs xs/\wfBs ys
 | [],ys,h=>⟨trivial,h⟩
 | x::xs,ys,h=>by
   simp only [List.cons_append] at h;rw [wfBs] at h
   have:=wI xs ys h.2
   exact ⟨⟨h.1,this.1⟩,this.2⟩
theorem rdN_wf (e:Nat):∀ (hand:List Ty) (l:Bs) (b:Bd) (r:Bs),rdN e hand l=some (b,r)->wfB b/\jw b<e:=by
 induction e with
 | zero=>intro hand l b r h;simp [rdN] at h
 | succ e ih =>
   intro hand l b r h
   cases l with
   | nil=>simp [rdN] at h
   | cons c m =>
     simp only [rdN] at h
     split at h
     ·rename_i hc;simp at h;obtain ⟨rfl,_⟩:=h;exact ⟨hc,by simp [jw]⟩
     ·split at h
      ·simp at h
      ·split at h
       ·simp at h
       ·split at h
        ·simp at h
        ·simp only [Option.bind_eq_bind,Option.bind_eq_some_iff,Prod.exists] at h
         obtain ⟨ps,l1,h1,l2,h2,b',h3,h4⟩:=h
         simp at h4;obtain ⟨rfl,_⟩:=h4
         obtain ⟨ss,y,no,rfl,rfl⟩:=pd h3
         have k1:=uA (P:=fun b=>wfB b/\jw b<e) (fun hand l b r h=>ih hand l b r h) _ _ _ _ h1
         have k2:=wI _ _ (wfBs_of _ fun p hp=>(k1 p hp).1)
         refine ⟨⟨k2.1,k2.2.1,k2.2.2.1⟩,?_⟩
         rw [depthB_parts]
         have key:∀ (qs:List Bd),(∀ q∈qs,jw q<e)->qv qs<=e:=by
          intro qs
          induction qs with
          | nil=>intro _;simp [qv]
          | cons q qs ihq =>
            intro hq
            have h1:=hq q (by simp)
            have h2:=ihq fun x hx=>hq x (by simp [hx])
            simp only [qv];omega
         exact Nat.lt_succ_of_le (key _ fun q hq=>(k1 q hq).2)
theorem yN {p l r:Bs} (h:cut p l=some r):l=p++r:=by
 unfold cut at h
 split at h
 ·rename_i hp
  simp at h
  obtain ⟨q,hq⟩:=List.isPrefixOf_iff_prefix.1 hp
  subst hq
  simp at h;rw [h]
 ·simp at h
theorem dec_dd (n:Nat):dec n=Lib.decDigits n:=by
 induction n using Nat.strongRecOn with
 | _ n ih =>
   by_cases h:n<10
   ·rw [qV h,Lib.decDigits,dif_pos h];rfl
   ·rw [vj h,Lib.decDigits,dif_neg h,ih (n / 10) (Nat.div_lt_self (by omega) (by omega))];rfl
theorem specNum_text {m:Bs} {v k:Nat} (h:ki m=some (v,k)):m=dec v++m.drop k:=by
 obtain ⟨h1,h2,h3,h4⟩:=yz h
 have hd:dec v=za m:=by
  rw [dec_dd,h2]
  exact xJ _ _ rfl h1 (jH m) h4
 obtain ⟨q,hq⟩:=jM m
 rw [hd,h3]
 conv=>lhs;rw [<- hq]
 conv=>rhs;rw [<- hq]
 have:za (za m++q)=za m:=by rw [hq]
 rw [this,List.drop_left]
theorem uP {rd:RdS} (ih:∀ hand l b r,rd hand l=some (b,r)->l=kT b++r):∀ (hs:List (List Ty)) (l:Bs) (ps:List Bd) (r:Bs),zJ rd hs l=some (ps,r)->l=kM ps++r
 | [],l,ps,r,h=>by simp [zJ] at h;obtain ⟨rfl,rfl⟩:=h;simp [kM]
 | a::hs,l,ps,r,hx=>by
   simp only [zJ,z8,Option.bind_eq_bind,Option.bind_eq_some_iff,Prod.exists] at hx
   obtain ⟨b,l1,⟨l0,h0,h1⟩,bs,l2,h2,h3⟩:=hx
   simp at h3;obtain ⟨rfl,rfl⟩:=h3
   rw [yN h0,ih _ _ _ _ h1,uP ih hs l1 bs l2 h2]
   simp [kM]
theorem rdN_canon (e:Nat):∀ (hand:List Ty) (l:Bs) (b:Bd) (r:Bs),rdN e hand l=some (b,r)->l=kT b++r:=by
 induction e with
 | zero=>intro hand l b r h;simp [rdN] at h
 | succ e ih =>
   intro hand l b r h
   cases l with
   | nil=>simp [rdN] at h
   | cons c m =>
     simp only [rdN] at h
     split at h
     ·simp at h;obtain ⟨rfl,rfl⟩:=h;simp [kT]
     ·split at h
      ·simp at h
      ·rename_i hE
       have hE:c=40:=by simpa using hE
       subst hE
       split at h
       ·simp at h
       ·rename_i v k hn
        split at h
        ·simp at h
        ·simp only [Option.bind_eq_bind,Option.bind_eq_some_iff,Prod.exists] at h
         obtain ⟨ps,l1,h1,l2,h2,b',h3,h4⟩:=h
         simp at h4;obtain ⟨rfl,rfl⟩:=h4
         obtain ⟨ss,y,no,rfl,rfl⟩:=pd h3
         rw [textB_ask]
         conv=>lhs;rw [specNum_text hn,uP ih _ _ _ _ h1,yN h2]
         simp
theorem wd {s text:Bs} {b:Bd} (h:zX s text=some b):(zQ s).2=true/\rdN 101 (zQ s).1.args text=some (b,[])/\zP b<=200:=by
 unfold zX at h
 split at h
 ·simp at h
 ·rename_i h0
  split at h
  ·simp at h
  ·rename_i b' rest hq
   split at h
   ·rename_i hc
    simp at h;subst h
    obtain ⟨rfl,h2⟩:=hc
    exact ⟨by simpa using (not_or.1 h0).1,hq,h2⟩
   ·simp at h
structure Good (t:Ty) (b:Bd):Prop where
 atoms:zY t<=15
 fit:zm t.args b
 wf:wfB b
 size:zP b<=200
 depth:jw b<=100
theorem kN {s text:Bs} {b:Bd} (h:zX s text=some b):Good (zQ s).1 b/\text=kT b:=by
 obtain ⟨h1,h2,h3⟩:=wd h
 have hw:=rdN_wf _ _ _ _ _ h2
 refine ⟨⟨jT h1,rdN_fit _ h2,hw.1,h3,by have:=hw.2;omega⟩,?_⟩
 have:=rdN_canon _ _ _ _ _ h2
 rwa [List.append_nil] at this
theorem rdK_canon (d:Nat):∀ (l:Bs) (t:Ty) (r:Bs),rdK d l=some (t,r)->l=yK t++r:=by
 induction d with
 | zero =>
   intro l t r h
   rcases zg [98] l with hc | ⟨r',hc⟩
   ·rw [jA hc] at h;simp at h
   ·rw [jo hc] at h;simp at h;obtain ⟨rfl,rfl⟩:=h;rw [textT_nil];exact yN hc.out
 | succ d ih =>
   intro l t r h
   rcases zg [98] l with hc | ⟨r',hc⟩
   ·rw [kd hc] at h
    simp only [Option.bind_eq_bind,Option.bind_eq_some_iff,Prod.exists] at h
    obtain ⟨r1,h1,a,r2,h2,r3,h3,b,r4,h4,r5,h5,h6⟩:=h
    simp at h6;obtain ⟨rfl,rfl⟩:=h6
    cases b with
    | mk bs =>
    rw [qr,textT_cons,yN h1,ih _ _ _ h2,yN h3,ih _ _ _ h4,yN h5]
    simp [Ty.args]
   ·rw [jo hc] at h;simp at h;obtain ⟨rfl,rfl⟩:=h;rw [textT_nil];exact yN hc.out
theorem uT {l:Bs} (h:(zQ l).2=true):l=yK (zQ l).1/\zY (zQ l).1<=15:=by
 refine ⟨?_,jT h⟩
 unfold zQ at h ⊢
 split at h
 ·simp at h
 ·rename_i hl
  rw [if_neg hl]
  cases hq:rdS 21 l with
  | none=>rw [hq] at h;simp at h
  | some x =>
    obtain ⟨t,rest⟩:=x
    rw [hq] at h
    simp at h
    obtain ⟨h1,h2⟩:=h
    have hq':rdK 20 l=some (t,rest):=hq
    have hr:=rdK_canon _ _ _ _ hq'
    simp only
    have h3:rest=[]:=by simpa using h1
    rw [h3,List.append_nil] at hr;exact hr
def become (b:Bd) (env:List Mn) (n:Nat):Option Bd:=match ev 20000 20000 b env n [] with
 | some (out,_)=>if zP out<=200/\jw out<=100 then some out else none
 | none=>none
def writes (b:Bd) (env:List Mn) (n:Nat):Option Bd:=(evN 20000 200 20000 b env n []).map (·.1)
def isQ (m:Bs):Bool:=m.head? == some 113
def qL (m:Bs):Bool:=decide (m.length % 2=1) == isQ m
def j5 (m:Bs):Bs:=if m=[113] then [] else if isQ m then m.dropLast else 113::m.tail
def vN (t:Ty):Bs->Bool
 | []=>false
 | c::p=>(c == 113 || c == 116 || c == 102) && (atT t p).isSome
def j2 (t:Ty) (v:Pl) (i:Nat):Bool :=
 match v[i]? with
 | none=>false
 | some x=>vN t x.1 && (qL x.1 == decide (i % 2=0)) && (if i=0 then x.1 == [113] && decide (x.2 = -1) else decide (0<=x.2) && decide (x.2<(i:Int)) && !(x.1 == [113]) && ((v[x.2.toNat]?).map (·.1) == some (j5 x.1)))
def qX (t:Ty) (v:Pl):Nat->Bool
 | 0=>true
 | n+1=>qX t v n && j2 t v n
def zS (t:Ty) (v:Pl):Bool:=decide (v.length<=60) && qX t v v.length
theorem xG {t:Ty} {v:Pl}:∀ {n i:Nat},qX t v n=true->i<n->j2 t v i=true
 | 0,i,_,hi=>absurd hi (by omega)
 | n+1,i,h,hi=>by
   rw [qX,Bool.and_eq_true] at h
   rcases Nat.lt_or_ge i n with h' | h'
   ·exact xG h.1 h'
   ·obtain rfl:i=n:=by omega
    exact h.2
theorem wJ {t:Ty} {v:Pl} {i:Nat}:∀ {n:Nat},j2 t v i=false->i<n->qX t v n=false
 | 0,_,hi=>absurd hi (by omega)
 | n+1,h,hi=>by
   rw [qX,Bool.and_eq_false_iff]
   rcases Nat.lt_or_ge i n with h' | h'
   ·exact .inl (wJ h h')
   ·obtain rfl:i=n:=by omega
    exact .inr h
structure OkMv (t:Ty) (v:Pl) (i:Nat) (c:UInt8) (p:Bs) (z:Int):Prop where
 hc:c=113\/c=116\/c=102
 hp:∃ a,atT t p=some a
 opp:qL (c::p)=decide (i % 2=0)
 zero:i=0->c=113/\p=[]/\z = -1
 pos:0<i->0<=z/\z<(i:Int)/\¬ (c::p)=[113]/\∃ y,v[z.toNat]? = some y/\y.1=j5 (c::p)
theorem okAt_some {t:Ty} {v:Pl} {i:Nat} (h:j2 t v i=true):∃ c p z,v[i]? = some (c::p,z)/\OkMv t v i c p z:=by
 unfold j2 at h
 cases hv:v[i]? with
 | none=>rw [hv] at h;simp at h
 | some x =>
   rw [hv] at h
   obtain ⟨m,z⟩:=x
   simp only [Bool.and_eq_true,beq_iff_eq] at h
   obtain ⟨⟨h1,h2⟩,h3⟩:=h
   cases m with
   | nil=>simp [vN] at h1
   | cons c p =>
     simp only [vN,Bool.and_eq_true,Bool.or_eq_true,beq_iff_eq] at h1
     refine ⟨c,p,z,rfl,by rcases h1.1 with (h | h) | h <;> simp [h],Option.isSome_iff_exists.1 h1.2,h2,fun hi=>?_,fun hi=>?_⟩
     ·subst hi
      simp only [if_true,Bool.and_eq_true,beq_iff_eq,decide_eq_true_eq] at h3
      obtain ⟨e,hz⟩:=h3
      simp only [List.cons.injEq] at e
      exact ⟨e.1,e.2,hz⟩
     ·rw [if_neg (by omega)] at h3
      simp only [Bool.and_eq_true,decide_eq_true_eq,beq_iff_eq,Bool.not_eq_true',beq_eq_false_iff_ne] at h3
      obtain ⟨⟨⟨k1,k2⟩,k3⟩,k4⟩:=h3
      refine ⟨k1,k2,k3,?_⟩
      cases hy:v[z.toNat]? with
      | none=>rw [hy] at k4;simp at k4
      | some y =>
        rw [hy] at k4
        exact ⟨y,rfl,by simpa using k4⟩
theorem kp {t:Ty} {v:Pl} (h:zS t v=true) {i:Nat} (hi:i<v.length):∃ c p z,v[i]? = some (c::p,z)/\OkMv t v i c p z:=by
 unfold zS at h
 rw [Bool.and_eq_true] at h
 exact okAt_some (xG h.2 hi)
theorem qD {t:Ty} {v:Pl} (h:zS t v=true):v.length<=60:=by
 unfold zS at h
 rw [Bool.and_eq_true] at h
 simpa using h.1
def qt (v:Pl) (opp:Bool):Nat->Nat->List Nat
 | 0,_=>[]
 | _+1,0=>[]
 | f+1,n+1=>n::qt v opp f (match v[n]? with | none=>0 | some x=>if qL x.1=opp then n else (x.2+1).toNat)
def qM (v:Pl) (opp:Bool) (n:Nat):List Nat:=(qt v opp n n).reverse
def jW (v:Pl) (opp:Bool) (n:Nat):Nat:=match v[n]? with | none=>0 | some x=>if qL x.1=opp then n else (x.2+1).toNat
theorem k9 (v:Pl) (opp:Bool) (f n:Nat):qt v opp (f+1) (n+1)=n::qt v opp f (jW v opp n):=by rw [qt];rfl
theorem jG (v:Pl) (opp:Bool) (f:Nat):qt v opp f 0=[]:=by cases f <;> rw [qt]
theorem backTo_le {t:Ty} {v:Pl} (h:zS t v=true) (opp:Bool) {n:Nat} (hn:n<v.length):jW v opp n<=n:=by
 obtain ⟨c,p,z,hv,ho⟩:=kp h hn
 unfold jW
 rw [hv]
 show (if qL (c::p)=opp then n else (z+1).toNat)<=n
 split
 ·omega
 ·rcases Nat.eq_zero_or_pos n with h0 | h0
  ·have:=(ho.zero h0).2.2;omega
  ·have:=(ho.pos h0).2.1;omega
theorem viewD_fuel {t:Ty} {v:Pl} (h:zS t v=true) (opp:Bool) (n:Nat):∀ f,n<=f->n<=v.length->qt v opp f n=qt v opp n n:=by
 induction n using Nat.strongRecOn with
 | _ n ih =>
   intro f hf hn
   cases n with
   | zero=>rw [jG,jG]
   | succ n =>
     obtain ⟨f,rfl⟩:∃ f',f=f'+1:=⟨f-1,by omega⟩
     rw [k9,k9]
     have hb:=backTo_le h opp (show n<v.length by omega)
     rw [ih _ (by omega) f (by omega) (by omega),ih _ (by omega) n hb (by omega)]
theorem qK (c:UInt8) (p:Bs):isQ (c::p)=(c == 113):=by
 show (some c == some 113)=_
 rfl
theorem uJ (c:UInt8) (p:Bs):qL (c::p)=(decide (p.length % 2=0) == (c == 113)):=by
 unfold qL
 rw [qK,List.length_cons]
 congr 1
 simp only [decide_eq_decide];omega
theorem yR {c:UInt8} {p:Bs} (h:¬ (c::p)=[113]):qL (j5 (c::p)) = !qL (c::p):=by
 unfold j5
 rw [if_neg h,qK]
 by_cases hc:c=113
 ·subst hc
  cases p with
  | nil=>exact absurd rfl h
  | cons d q =>
    rw [show ((113:UInt8) == 113)=true from rfl,if_pos rfl,uJ]
    rw [show (113::d::q).dropLast=113::(d::q).dropLast from rfl,uJ,List.length_dropLast,List.length_cons]
    rcases Nat.mod_two_eq_zero_or_one q.length with hq | hq
    ·rw [show (q.length+1-1) % 2=0 from by omega,show (q.length+1) % 2=1 from by omega];rfl
    ·rw [show (q.length+1-1) % 2=1 from by omega,show (q.length+1) % 2=0 from by omega];rfl
 ·rw [show (c == 113)=false from by simp [hc],if_neg (by simp),List.tail_cons,uJ,uJ,show (c == 113)=false from by simp [hc]]
  cases decide (p.length % 2=0) <;> rfl
structure OppMv (t:Ty) (v:Pl) (k:Nat) (m:Bs) (z:Nat):Prop where
 at':v[k]? = some (m,(z:Int))
 lt:z<k
 odd:z % 2=1
 en:∃ y,v[z]? = some y/\y.1=j5 m
theorem opp_mv {t:Ty} {v:Pl} (h:zS t v=true) {k:Nat} (hk:k<v.length) (he:k % 2=0) (h0:0<k):∃ c p z,OppMv t v k (c::p) z/\OkMv t v k c p (z:Int):=by
 obtain ⟨c,p,z,hv,ho⟩:=kp h hk
 obtain ⟨h1,h2,h3,y,hy,hye⟩:=ho.pos h0
 obtain ⟨n,rfl⟩:∃ n:Nat,z=(n:Int):=⟨z.toNat,by omega⟩
 rw [Int.toNat_natCast] at hy
 refine ⟨c,p,n,⟨hv,by omega,?_,y,hy,hye⟩,ho⟩
 obtain ⟨c',p',z',fN,dM⟩:=kp h (show n<v.length by omega)
 rw [fN] at hy
 obtain rfl:=Option.some.inj hy
 have h5:=dM.opp
 simp only at hye
 rw [hye,yR h3,ho.opp] at h5
 rcases Nat.mod_two_eq_zero_or_one n with hn | hn
 ·rw [he,hn] at h5;simp at h5
 ·exact hn
theorem xm {t:Ty} {v:Pl} (h:zS t v=true) (hl:0<v.length):qM v false 1=[0]:=by
 obtain ⟨c,p,z,hv,ho⟩:=kp h hl
 unfold qM
 rw [k9,qt]
 rfl
theorem wO {t:Ty} {v:Pl} (h:zS t v=true) {k:Nat} (hk:k<v.length) {m:Bs} {z:Nat} (ho:OppMv t v k m z) (hb:qL m=true):qM v false (k+1)=qM v false z++[z,k]:=by
 have gW:jW v false k=z+1:=by
  unfold jW
  rw [ho.at']
  simp only [hb]
  rw [if_neg (by simp)];omega
 have gH:=ho.lt
 obtain ⟨c',p',z',fN,dM⟩:=kp h (show z<v.length by omega)
 have gP:jW v false z=z:=by
  unfold jW
  rw [fN]
  simp only [dM.opp]
  rw [if_pos (by simp [ho.odd])]
 unfold qM
 rw [k9,gW,viewD_fuel h false (z+1) k (by omega) (by omega),k9,gP]
 simp
abbrev St:=Bd×List zO×zO
def lastD (p:Bs):Nat:=(p.getLast?.getD 48).toNat-48
def vL (t:Ty) (s:St) (m:Bs) (k:Nat):Option St :=
 match s.1 with
 | .leaf _=>none
 | .ask _ ss y n=>match m with
   | []=>none
   | c::p=>if c=113 then (ss[lastD p]?).map fun b=>(b,s.2.1++zq (q_ t p) k p,(k,p)) else some (if c=102 then n else y,s.2)
def jm (s:St):Option (Bs×Int) :=
 match s.1 with
 | .leaf c=>if c=117 then none else some (c::s.2.2.2,(s.2.2.1:Int))
 | .ask l _ _ _=>(s.2.1[l]?).map fun pl=>(113::pl.2,(pl.1:Int))
def wh (t:Ty) (b:Bd):St:=(b,zq t.args.length 0 [],(0,[]))
def qc (t:Ty) (b:Bd) (v:Pl):Nat->Nat->Option St
 | 0,_=>none
 | f+1,n=>if n<=1 then some (wh t b) else match v[n-1]? with
   | none=>none
   | some x=>(qc t b v f x.2.toNat).bind fun s=>vL t s x.1 (n-1)
def qZ (t:Ty) (b:Bd) (v:Pl) (n:Nat):Option St:=qc t b v (n+1) n
theorem placeF_fuel {t:Ty} {v:Pl} (h:zS t v=true) (b:Bd) (n:Nat):∀ f,n<f->n<=v.length->qc t b v f n=qc t b v (n+1) n:=by
 induction n using Nat.strongRecOn with
 | _ n ih =>
   intro f hf hn
   obtain ⟨f,rfl⟩:∃ f',f=f'+1:=⟨f-1,by omega⟩
   rw [qc,qc]
   by_cases h1:n<=1
   ·rw [if_pos h1,if_pos h1]
   ·rw [if_neg h1,if_neg h1]
    obtain ⟨c,p,z,hv,ho⟩:=kp h (show n-1<v.length by omega)
    rw [hv]
    have:=(ho.pos (by omega)).2.1
    simp only
    rw [ih z.toNat (by omega) f (by omega) (by omega),ih z.toNat (by omega) n (by omega) (by omega)]
theorem vE (t:Ty) (b:Bd) (v:Pl):qZ t b v 1=some (wh t b):=by
 unfold qZ
 rw [qc,if_pos (gQ _)]
theorem vi {t:Ty} {v:Pl} (h:zS t v=true) (b:Bd) {k:Nat} (hk:k<v.length) (h0:0<k) {m:Bs} {z:Nat} (ho:OppMv t v k m z):qZ t b v (k+1)=(qZ t b v z).bind fun s=>vL t s m k:=by
 unfold qZ
 rw [qc,if_neg (by omega),Nat.add_sub_cancel,ho.at']
 simp only [Int.toNat_natCast]
 rw [placeF_fuel h b z (k+1) (by have:=ho.lt;omega) (by have:=ho.lt;omega)]
def kt (t:Ty) (b:Bd) (v:Pl) (n:Nat):Option (Bs×Int):=(qZ t b v n).bind jm
def zi (t:Ty) (b:Bd) (v:Pl) (n:Nat):Prop:=∀ i,i<n->i % 2=1->kt t b v i=v[i]?
instance (t:Ty) (b:Bd) (v:Pl) (n:Nat):Decidable (zi t b v n):=inferInstanceAs (Decidable (∀ i,i<n->i % 2=1->kt t b v i=v[i]?))
structure yU (t:Ty) (hand:List Ty) (s:St) (n:Nat):Prop where
 fit:zm hand s.1
 pf:yY t s.2.1 hand n
 wf:wfB s.1
 bg:s.2.2.1<n
 bgt:∃ a,atT t s.2.2.2=some a
 ll:s.2.1.length<=8*n
theorem yP {t:Ty} {b:Bd} (gA:zY t<=15) (hf:zm t.args b) (hw:wfB b):yU t t.args (wh t b) 1:=by
 have h1:=qY t
 refine ⟨hf,?_,hw,by show 0<1;omega,⟨t,jR t⟩,?_⟩
 ·have h0:yY t [] [] 0:=⟨rfl,fun i a h=>by simp at h⟩
  have:=h0.kid (m:=1) (k:=0) (by omega) (by omega) (jR t) (by omega)
  show yY t (zq t.args.length 0 []) t.args 1
  simpa using this
 ·show (zq t.args.length 0 []).length<=8
  rw [zx];omega
structure StepD (t:Ty) (hand:List Ty) (s:St) (l:Nat) (ss:List Bd) (y n:Bd) (a:Ty) (pl:zO) (c:UInt8) (p:Bs):Prop where
 body:s.1=.ask l ss y n
 lv:s.2.1[l]? = some pl
 hh:hand[l]? = some a
 hat:atT t pl.2=some a
 len:ss.length=a.args.length
 fs:z_ (kP hand a.args) ss
 fy:zm hand y
 fn:zm hand n
 mv:(c=113/\∃ j aj sb,p=pl.2++[qw j]/\j<10/\a.args[j]? = some aj/\ss[j]? = some sb/\atT t p=some aj/\lastD p=j)\/(c=116\/c=102)/\p=pl.2
theorem lastD_digit (p:Bs) {j:Nat} (hj:j<10):lastD (p++[qw j])=j:=by
 unfold lastD
 simp [ut hj]
theorem xF {t:Ty} {v:Pl} {hand:List Ty} {s:St} {k z:Nat} {c:UInt8} {p:Bs} {x:Bs×Int} (gA:zY t<=15) (hs:yU t hand s z) (ho:OkMv t v k c p (z:Int)) (eY:0<k) (hx:x.1=j5 (c::p)) (ht:jm s=some x) :
 ∃ l ss y n a pl,StepD t hand s l ss y n a pl c p:=by
 obtain ⟨_,_,gN,_⟩:=ho.pos eY
 have hq:∃ q,x.1=113::q:=by
  rw [hx]
  unfold j5
  rw [if_neg gN,qK]
  by_cases hc:c=113
  ·subst hc
   cases p with
   | nil=>exact absurd rfl gN
   | cons d q=>exact ⟨(d::q).dropLast,rfl⟩
  ·rw [show (c == 113)=false from by simp [hc]];exact ⟨p,rfl⟩
 obtain ⟨b,lv,bg⟩:=s
 cases b with
 | leaf d =>
   unfold jm at ht
   simp only at ht
   split at ht
   ·simp at ht
   ·obtain rfl:=Option.some.inj ht
    obtain ⟨q,hq⟩:=hq
    simp only [List.cons.injEq] at hq
    have hw:=hs.wf
    rw [show ((Bd.leaf d,lv,bg):St).1=.leaf d from rfl,wfB] at hw
    rcases hw with h | h | h <;> rw [h] at hq <;> exact absurd hq.1 (by decide)
 | ask l ss y n =>
   have hf:=hs.fit
   have hf2:=vq hf
   rw [show ((Bd.ask l ss y n,lv,bg):St).1=.ask l ss y n from rfl] at hf
   rw [zm] at hf
   obtain ⟨a,h1,h2,h3,h4⟩:=hf
   obtain ⟨a',h1',_,gC⟩:=hf2
   obtain rfl:a=a':=Option.some.inj (h1.symm.trans h1')
   obtain ⟨pl,hl,hat,_⟩:=hs.pf.each l a h1
   have bC:lv[l]? = some pl:=hl
   unfold jm at ht
   simp only [bC,Option.map_some] at ht
   obtain rfl:=Option.some.inj ht
   simp only at hx
   have rV:=qy _ _ _ hat
   have cm:=qY a
   refine ⟨l,ss,y,n,a,pl,rfl,hl,h1,hat,gC,h2,h3,h4,?_⟩
   unfold j5 at hx
   rw [if_neg gN,qK] at hx
   by_cases hc:c=113
   ·subst hc
    rw [show ((113:UInt8) == 113)=true from rfl,if_pos rfl] at hx
    refine .inl ⟨rfl,?_⟩
    have aq:p≠[]:=fun e=>gN (by rw [e])
    obtain ⟨q,d,rfl⟩:∃ q d,p=q++[d]:=⟨p.dropLast,p.getLast aq,(List.dropLast_concat_getLast aq).symm⟩
    rw [show (113::(q++[d])).dropLast=113::q from by rw [<- List.cons_append,List.dropLast_concat]] at hx
    simp only [List.cons.injEq,true_and] at hx
    subst hx
    obtain ⟨aj,tq⟩:=ho.hp
    have cA:=tq
    rw [jD,hat,Option.bind_some,vx] at cA
    split at cA
    ·rename_i d7
     cases hq:a.args[d.toNat-48]? with
     | none=>rw [hq] at cA;simp at cA
     | some a2 =>
       rw [hq] at cA
       simp only [jR] at cA
       obtain rfl:=Option.some.inj cA
       have gH:=(List.getElem?_eq_some_iff.1 hq).1
       have hdj:d=qw (d.toNat-48):=by
        apply UInt8.toNat_inj.1
        rw [ut (by omega)];omega
       refine ⟨d.toNat-48,a2,ss[d.toNat-48]'(by omega),by rw [<- hdj],by omega,hq,List.getElem?_eq_getElem (by omega),tq,?_⟩
       rw [hdj,lastD_digit _ (by omega),<- hdj]
    ·simp at cA
   ·rw [show (c == 113)=false from by simp [hc],if_neg (by simp),List.tail_cons] at hx
    simp only [List.cons.injEq,true_and] at hx
    refine .inr ⟨?_,hx.symm⟩
    rcases ho.hc with h | h | h
    ·exact absurd h hc
    ·exact .inl h
    ·exact .inr h
theorem StepD.next {t:Ty} {hand:List Ty} {s:St} {l:Nat} {ss:List Bd} {y n:Bd} {a:Ty} {pl:zO} {c:UInt8} {p:Bs} {z k:Nat} (h:StepD t hand s l ss y n a pl c p) (hs:yU t hand s z) (hzk:z<=k) (bw:1<=z) (gA:zY t<=15) :
 ∃ s' cD,vL t s (c::p) k=some s'/\yU t cD s' (k+1):=by
 have rV:=qy _ _ _ h.hat
 have cm:=qY a
 have hw:=hs.wf
 rw [h.body,wfB] at hw
 have cp:=hs.ll
 have cM:=hs.bg
 unfold vL
 rw [h.body]
 simp only
 rcases h.mv with ⟨rfl,j,aj,sb,hp,hj,tq,eL,hat,iC⟩ | ⟨hc,hp⟩
 ·rw [if_pos rfl,iC,eL]
  obtain ⟨h',hh',hfs⟩:=qa ss _ h.fs j sb eL
  rw [kP,List.getElem?_map,Option.map_eq_some_iff] at hh'
  obtain ⟨aj',cA,rfl⟩:=hh'
  obtain rfl:aj=aj':=Option.some.inj (tq.symm.trans cA)
  have e0:q_ t p=aj.args.length:=by unfold q_;rw [hat]
  have e1:=qy _ _ _ hat
  have e2:=qY aj
  refine ⟨_,hand++aj.args,rfl,hfs,?_,wfBs_at _ hw.1 j sb eL,by show k<k+1;omega,⟨aj,hat⟩,?_⟩
  ·show yY t (s.2.1++zq (q_ t p) k p) (hand++aj.args) (k+1)
   rw [e0]
   exact hs.pf.kid (by omega) (by omega) hat (by omega)
  ·show (s.2.1++zq (q_ t p) k p).length<=8*(k+1)
   rw [e0,List.length_append,zx];omega
 ·have eP:¬ c=113:=by rcases hc with h | h <;> rw [h] <;> decide
  rw [if_neg eP]
  refine ⟨_,hand,rfl,?_,hs.pf.mono (by omega),?_,by show s.2.2.1<k+1;omega,hs.bgt,by show s.2.1.length<=_;omega⟩
  ·show zm hand (if c=102 then n else y)
   split
   ·exact h.fn
   ·exact h.fy
  ·show wfB (if c=102 then n else y)
   split
   ·exact hw.2.2
   ·exact hw.2.1
theorem yB {t:Ty} {b:Bd} {v:Pl} (gA:zY t<=15) (hf:zm t.args b) (hw:wfB b) (hv:zS t v=true) (k:Nat):k<v.length->k % 2=0->zi t b v k->∃ s hand,qZ t b v (k+1)=some s/\yU t hand s (k+1):=by
 induction k using Nat.strongRecOn with
 | _ k ih =>
   intro hk he bi
   rcases Nat.eq_zero_or_pos k with h0 | h0
   ·subst h0
    exact ⟨_,_,vE t b v,yP gA hf hw⟩
   ·obtain ⟨c,p,z,ho,gy⟩:=opp_mv hv hk he h0
    have gH:=ho.lt
    have co:=ho.odd
    obtain ⟨z',rfl⟩:∃ z',z=z'+1:=⟨z-1,by omega⟩
    obtain ⟨s,hand,hp,hs⟩:=ih z' (by omega) (by omega) (by omega) (fun i hi h=>bi i (by omega) h)
    obtain ⟨x,hx,mP⟩:=ho.en
    have hr:=bi (z'+1) (by omega) co
    unfold kt at hr
    rw [hp,Option.bind_some,hx] at hr
    obtain ⟨l,ss,y,n,a,pl,hd⟩:=xF gA hs gy h0 mP hr
    obtain ⟨s',cD,h1,h2⟩:=hd.next (k:=k) hs (by omega) (by omega) gA
    exact ⟨s',cD,by rw [vi hv b hk h0 ho,hp,Option.bind_some,h1],h2⟩
structure ViewC (t:Ty) (v:Pl) (vw:List Nat) (k:Nat):Prop where
 odd:vw.length % 2=1
 zero:vw[0]? = some 0
 last:vw[vw.length-1]? = some k
 len:vw.length<=k+1
 all:∀ (i e:Nat),vw[i]? = some e->e<=k
 step:∀ j,2*j+2<vw.length->∃ e e' c p,vw[2*j]? = some e/\vw[2*j+2]? = some e'/\e' % 2=0/\0<e'/\e'<=k/\OppMv t v e' (c::p) (e+1)/\OkMv t v e' c p ((e+1:Nat):Int)
theorem view_chain {t:Ty} {v:Pl} (hv:zS t v=true) (k:Nat):k<v.length->k % 2=0->ViewC t v (qM v false (k+1)) k:=by
 induction k using Nat.strongRecOn with
 | _ k ih =>
   intro hk he
   rcases Nat.eq_zero_or_pos k with h0 | h0
   ·subst h0
    rw [xm hv hk]
    refine ⟨rfl,rfl,rfl,gQ _,fun i e h=>?_,fun j hj=>by simp at hj⟩
    cases i with
    | zero=>obtain rfl:=Option.some.inj h;omega
    | succ i=>simp at h
   ·obtain ⟨c,p,z,ho,gy⟩:=opp_mv hv hk he h0
    have gH:=ho.lt
    have co:=ho.odd
    obtain ⟨z',rfl⟩:∃ z',z=z'+1:=⟨z-1,by omega⟩
    have hc:=ih z' (by omega) (by omega) (by omega)
    rw [wO hv hk ho (by rw [gy.opp];simp [he])]
    obtain ⟨vw,fM⟩:=zzN (qM v false (z'+1))
    rw [fM] at hc ⊢
    have fh:=hc.odd
    refine ⟨by rw [List.length_append];show (vw.length+2) % 2=1;omega,?_,?_,?_,?_,?_⟩
    ·rw [List.getElem?_append_left (by omega)];exact hc.zero
    ·rw [List.length_append,List.getElem?_append_right (by simp),show vw.length+[z'+1,k].length-1-vw.length=1 from by simp];rfl
    ·rw [List.length_append];have:=hc.len;show vw.length+2<=k+1;omega
    ·intro i e h
     rcases Nat.lt_or_ge i vw.length with hi | hi
     ·rw [List.getElem?_append_left hi] at h;have:=hc.all i e h;omega
     ·rw [List.getElem?_append_right hi] at h
      have:=List.mem_of_getElem? h
      simp only [List.mem_cons,List.not_mem_nil,or_false] at this
      omega
    ·intro j hj
     rw [List.length_append] at hj
     have hj':2*j+2<vw.length+2:=hj
     rcases Nat.lt_or_ge (2*j+2) vw.length with h' | h'
     ·obtain ⟨e,e',c',p',h1,h2,h3,h4,h5,h6,h7⟩:=hc.step j h'
      exact ⟨e,e',c',p',by rw [List.getElem?_append_left (by omega)];exact h1,by rw [List.getElem?_append_left h'];exact h2,h3,h4,by omega,h6,h7⟩
     ·have hjl:2*j+1=vw.length:=by omega
      refine ⟨z',k,c,p,?_,?_,he,h0,gQ _,ho,gy⟩
      ·rw [List.getElem?_append_left (by omega)]
       have:=hc.last
       rw [show vw.length-1=2*j from by omega] at this;exact this
      ·rw [List.getElem?_append_right (by omega),show 2*j+2-vw.length=1 from by omega];rfl
theorem atT_step {t:Ty} {p:Bs} {j:Nat} {a:Ty} (hj:j<p.length) (h:atT t (p.take j)=some a):atT t (p.take (j+1))=if 48<=p[j].toNat then a.args[p[j].toNat-48]? else none:=by
 rw [List.take_add_one,List.getElem?_eq_getElem hj,Option.toList_some,jD,h,Option.bind_some,vx]
 split
 ·cases a.args[p[j].toNat-48]? with
  | none=>rfl
  | some b=>exact jR b
 ·rfl
theorem atT_none {t:Ty} {p:Bs} {j:Nat} (h:atT t (p.take j)=none):atT t p=none:=by
 rw [<- List.take_append_drop j p,jD,h];rfl
def KAtPost (F:Nat->Prop) (t:Ty) (p:Bs) (w:World) (en:Ending) (w':World):Prop :=
 ∃ v,en=.returned v/\w'=w/\(atT t p=none->v=.pointer none)/\∀ a,atT t p=some a->Rep F w (qS a) v
set_option maxRecDepth 20000 in
theorem pE (F:Nat->Prop) (t:Ty) (p:Bs) (kv:Value) (w:World) (h:Rep F w (qS t) kv) (ht:zY t<=15) (hp:Lim p.length) :
 Calls Tryz.prog 135 #[kv,str p] w (KAtPost F t p w):=by
 have bC:=hp.le
 go_enter Tryz.func135,Tryz.ntmps135
 go_wp2_with fail
 go_loop [0,9] (fun k i=>∃ (j:Nat) (a:Ty),j<=p.length/\i=.int .i64 j/\atT t (p.take j)=some a/\Rep F w (qS a) k) (fun _ i=>p.length-(intOf i).toNat)
 case atStart=>exact ⟨0,t,Nat.zero_le _,rfl,by rw [List.take_zero];exact jR t,h⟩
 case round =>
  clear h
  obtain ⟨j,a,hj,rfl,hat,hr⟩:=hrel
  obtain ⟨kb,ks,e,hF,hb,cQ⟩:=zR hr
  subst e
  by_cases gH:j<p.length
  ·have bA:(j:Int)<(p.length:Int):=by omega
   obtain ⟨sa,sc,e,ei,gC,gt⟩:=zM cQ
   subst e
   have c0:w.cell? ⟨kb,0,none⟩=some (.slice sa a.args.length sc):=by simp [World.cell?,hb]
   have sL:=qy _ _ _ hat
   have cm:=qY a
   have rV:a.args.length<=7:=by omega
   obtain ⟨x,hx⟩:∃ x:Nat,p[j].toNat=x:=⟨_,rfl⟩
   have aX:x<256:=by rw [<- hx];exact UInt8.toNat_lt _
   have B:((((⟨p.toArray⟩:ByteArray)[j]'(km gH)).toNat:Int))=(x:Int):=by rw [jk gH,hx]
   have hw1:IntKind.i64.wrap (x:Int)=(x:Int):=jV x (by omega)
   have dp:=atT_step gH hat
   rw [hx] at dp
   have HS:=gZ dp
   have HH:=gZ (gK gt (gK gC ei))
   clear dp gt gC ei hb cQ hr hat sL cm hx
   by_cases hA:x<48
   ·have tV:IntKind.i64.wrap ((x:Int)-48)=(x:Int)-48:=by simp [IntKind.wrap,IntKind.bits,IntKind.signed];omega
    have iJ:(x:Int)-48<0:=by omega
    have HN:=gZ (show atT t p=none from atT_none (j:=j+1) (by rw [HS.out,if_neg (show ¬ 48<=x by omega)]))
    clear hA HS HH
    go_wp2_with fail
    go_ret
    exact ⟨_,rfl,rfl,fun _=>rfl,fun b hb=>by rw [HN.out] at hb;simp at hb⟩
   ·obtain ⟨n,nc⟩:∃ n,x=n+48:=⟨x-48,by omega⟩
    have tV:IntKind.i64.wrap ((x:Int)-48)=(n:Int):=by rw [show (x:Int)-48=(n:Int) from by omega];exact jV n (by omega)
    have mn:¬ (n:Int)<0:=by omega
    have g7:=HS.out
    rw [if_pos (show 48<=x by omega),show x-48=n from by omega] at g7
    have tp:=gZ g7
    clear g7 HS hA aX nc
    by_cases hB:a.args.length<=n
    ·have hB':(a.args.length:Int)<=(n:Int):=by omega
     have HN:=gZ (show atT t p=none from atT_none (j:=j+1) (by rw [tp.out];exact List.getElem?_eq_none hB))
     clear hB HH
     go_wp2_with fail
     go_ret
     exact ⟨_,rfl,rfl,fun _=>rfl,fun b hb=>by rw [HN.out] at hb;simp at hb⟩
    ·have hB':¬ (a.args.length:Int)<=(n:Int):=by omega
     have h9:¬ (9:Int)<(n:Int):=by omega
     have iX:(0:Int)<=(n:Int):=by omega
     have hnl:(n:Int)<(a.args.length:Int):=by omega
     obtain ⟨b,o,u,d,ea,hFb,hblt,hd,hc,eI⟩:=HH.out.1 n (by omega)
     subst ea
     rw [ux,Option.map_eq_some_iff] at hd
     obtain ⟨c,mC,rfl⟩:=hd
     have HC:=gZ (gK mC eI)
     clear mC eI hB HH
     go_wp2_with fail
     go_round
     case rel=>exact ⟨j+1,c,by omega,by go_num,by rw [tp.out];exact HC.out.1,HC.out.2⟩
     case measure=>simp only [intOf];omega
  ·obtain rfl:j=p.length:=by omega
   rw [List.take_length] at hat
   have HA:=gZ (gK hat hr)
   clear hat hr hb cQ gH
   go_wp2_with fail
   go_ret
   exact ⟨_,rfl,rfl,fun h=>(by rw [HA.out.1] at h;simp at h),fun b hb=>(by rw [HA.out.1] at hb;obtain rfl:=Option.some.inj hb;exact HA.out.2)⟩
structure Fr where
 yes:Bd
 no:Bd
 env:List Clo
 begun:Nat
 path:Bs
def frFit (fr:Fr):Prop:=∃ hand,envFit fr.env hand/\zm hand fr.yes/\zm hand fr.no
def Ma (w:World) (ma most moves:Nat):Prop:=w.heap[ma]? = some (.cells #[.slice none 0 0,.slice none 0 0,.int .i64 (most:Nat),.int .i64 (moves:Nat),.bool false] 126 (0,0))
theorem Ma.cells {w:World} {ma most moves:Nat} (h:Ma w ma most moves):w.cell? ⟨ma,2,none⟩=some (.int .i64 (most:Nat))/\w.cell? ⟨ma,3,none⟩=some (.int .i64 (moves:Nat))/\w.cell? ⟨ma,4,none⟩=some (.bool false)/\w.frozen? ⟨ma,3,none⟩=false:=by
 unfold Ma at h
 exact ⟨by simp [World.cell?,h],by simp [World.cell?,h],by simp [World.cell?,h],by simp [World.frozen?,h]⟩
theorem Ma.but {m:Nat->Prop} {w w':World} {ma most moves:Nat} (h:Ma w ma most moves) (hb:But m w w') (hm:¬ m ma):Ma w' ma most moves:=by
 unfold Ma;rw [hb.block ma (zZ h) hm];exact h
theorem Ma.below {w w':World} {ma most moves:Nat} (h:Ma w ma most moves) (hb:Below w.heap.size w w'):Ma w' ma most moves:=by
 unfold Ma;rw [hb.block ma (zZ h)];exact h
theorem Ma.drewN {w:World} {ma most moves:Nat} (h:Ma w ma most moves) (n:Nat):Ma (w.drewN n) ma most moves:=h
def GlobT (w:World):Prop:=∃ te pe,w.cell? ⟨0,0,none⟩=some (.iface te pe)
theorem GlobT.but {m:Nat->Prop} {w w':World} (h:GlobT w) (hb:But m w w') (hm:¬ m 0):GlobT w':=by
 obtain ⟨te,pe,h⟩:=h
 exact ⟨te,pe,(hb.cell (gJ w _ h) hm).trans h⟩
theorem zN.litk {w:World} {e:TypeId} {sz:Nat} (cs:Array Value) (hn:cs.size=sz) (hc:∀ u∈cs.toList,u.oneCell'=true) (g:Nat) (hg:g=w.heap.size):zN sz (.slice (some ⟨g,0,none⟩) 1 1) 1 cs.toList (w.alloc (.cells cs e)):=by
 subst hg
 refine ⟨by simp [hn],hc,.inl ⟨_,_,rfl,fun j u hu=>?_⟩⟩
 unfold Addr.add
 split
 ·subst j;simp;simpa using hu
 ·simp;simpa using hu
def plcs (begun:Nat) (path:Bs):Nat->List Value
 | 0=>[]
 | n+1=>plcs begun path n++[.int .i64 (begun:Nat),str (path++dec n)]
theorem dec_decDigits (n:Nat):dec n=Lib.decDigits n:=by
 induction n using Nat.strongRecOn with
 | _ n ih =>
   by_cases h:n<10
   ·rw [qV h,Lib.decDigits,dif_pos h];rfl
   ·rw [vj h,Lib.decDigits,dif_neg h,ih (n / 10) (Nat.div_lt_self (by omega) (by omega))];rfl
theorem itoa_dec (i:Nat):Lib.itoa (i:Int)=dec i:=by
 rw [dec_decDigits,Lib.itoa,if_neg (by omega)];rfl
theorem Tryz.infoPl:(Tryz.prog.info? 115).map (fun i=>(i.zero,i.size,i.bytes))=some (some (.agg #[.int .i64 0,str []]),2,24):=by kernel_rfl
def wN (w:World) (e:TypeId) (sz n:Nat) (xs:List Value) (en:Ending) (w':World):Prop :=
 ∃ a c,en=.returned (.slice a n c)/\Own w' e sz (.slice a n c) n xs/\Below w.heap.size w w'/\(∀ g,(Value.slice a n c).ownBlock=some g->w.heap.size<=g)
set_option maxRecDepth 100000 in
theorem w_ (n begun:Nat) (path:Bs) (w:World) (hg:qE w) (hn:n<=16) (hp:path.length<=1000000) :
 Calls Tryz.prog 111 #[.int .i64 (n:Nat),.int .i64 (begun:Nat),str path] w (wN w 115 2 n (plcs begun path n)):=by
 have HG:=gZ hg;clear hg
 go_enter Tryz.func111,Tryz.ntmps111
 go_wp2_with fail
 go_loopw [7,10] (fun o i wr=>∃ k:Nat,k<=n/\i=.int .i64 k/\∃ a c,o=.slice a k c/\Own wr 115 2 (.slice a k c) k (plcs begun path k)/\Below w.heap.size w wr/\(∀ g,(Value.slice a k c).ownBlock=some g->w.heap.size<=g)) (fun _ i _=>n-(intOf i).toNat)
 case atStart=>exact ⟨0,Nat.zero_le _,rfl,none,0,rfl,World.ownsRow_nil _ _ _ _,gV _ _,fun g h=>by simp [Value.ownBlock] at h⟩
 case round =>
  obtain ⟨k,hk,rfl,a,c,rfl,ho,hb,hf⟩:=hrel
  have HO:=gZ ho;have HF:=gZ hf;have HB:=gZ hb
  clear ho hf hb
  by_cases gH:k<n
  ·have bA:(k:Int)<(n:Int):=by omega
   have tA:(dec k).length<=2:=jB 1 k (by omega)
   have e6:=fun w0=>k8 (P:=Tryz.prog) path (dec k) (by omega) w0
   have hgw:=gZ (HG.out.below HB.out)
   have HI:=gZ (itoa_dec k)
   go_wp2_with fail
   refine (pF (k:Int) _ hgw.out (by omega) (by omega)).mono ?_
   rintro en w1 ⟨rfl,gW⟩
   rw [HI.out]
   generalize hS:path++dec k=S at *
   have HS:=gZ hS;clear hS
   have z1:=gW.size
   have bY:=gZ gW;clear gW
   go_wp2_with (at_builtin;refine zB rfl _ _ 113 rfl 115 (.agg #[.int .i64 0,str []]) 2 24 Tryz.underlying113 Tryz.infoPl rfl (by decide) (.slice a k c) k (plcs begun path k) rfl ?c1 _ 1 [.int .i64 (begun:Nat),str S] rfl ?c2 ?c3 ?c4 ?_)
   case c1=>exact (HO.out.keep fun g o _ ho=>by rw [bY.out.block g (zZ ho)];exact ho).alloc _
   case c2=>exact zN.litk #[.int .i64 (begun:Nat),str S] rfl (by simp [str,Value.oneCell']) _ (by simp)
   case c3=>unfold maxLen;omega
   case c4=>omega
   intro a' c' w7 g8 gD gL
   have hA:Own w7 115 2 (.slice a' (k+1) c') (k+1) (plcs begun path (k+1)):=by
    rw [plcs,HS.out];exact g8
   have i_:Below w.heap.size w w7:=by
    have h1:=zzT HB.out bY.out
    refine (h1.alloc h1.size _).trans (gD.toBelow (by rw [zK];have:=h1.size;omega) fun i hi e=>?_)
    have:=HF.out i e;omega
   have n9:∀ g,(Value.slice a' (k+1) c').ownBlock=some g->w.heap.size<=g:=by
    intro g h
    rcases gL g h with h | h
    ·exact HF.out g h
    ·have h2:=HB.out.size
     have h3:g=w1.heap.size+1:=by simpa using h
     omega
   have HA:=gZ (gK hA (gK i_ n9));clear hA i_ n9 g8 gD gL
   go_wp2_with fail
   go_roundw
   case rel=>exact ⟨k+1,by omega,by go_num,a',c',rfl,HA.out.1,HA.out.2.1,HA.out.2.2⟩
   case measure=>simp [intOf];omega
  ·obtain rfl:k=n:=by omega
   go_wp2_with fail
   go_ret
   exact ⟨a,c,rfl,HO.out,HB.out,HF.out⟩
theorem Own.at {w:World} {e:TypeId} {sz n:Nat} {xs:List Value} {v:Value} (h:Own w e sz v n xs) {j:Nat} {u:Value} (hj:xs[j]? = some u):∃ g c,v=.slice (some ⟨g,0,none⟩) n c/\w.cell? ⟨g,j,none⟩=some u:=by
 have gH:=(List.getElem?_eq_some_iff.1 hj).1
 rcases h.2 with ⟨_,h0⟩ | ⟨g,cap,cur,rfl,_,hg,mH,_,hcs,ht⟩
 ·have:=h.1;rw [h0,Nat.zero_mul] at this;omega
 ·refine ⟨g,cap,rfl,?_⟩
  rw [<- ht] at hj
  rw [List.getElem?_take] at hj
  split at hj
  ·simp only [World.cell?,hg];simpa using hj
  ·simp at hj
theorem Own.short {w:World} {e:TypeId} {sz n m:Nat} {xs:List Value} {a:Option Addr} {c:Nat} (h:Own w e sz (.slice a n c) n xs) (hm:m<=n) (ha:a≠none):Own w e sz (.slice a m c) m (xs.take (m*sz)):=by
 have hl:=h.1
 have hms:m*sz<=n*sz:=Nat.mul_le_mul_right _ hm
 rcases h.2 with ⟨h0,_⟩ | ⟨g,cap,cur,e1,hb,hg,mH,hmx,hcs,ht⟩
 ·simp only [Value.slice.injEq] at h0;exact absurd h0.1 ha
 ·simp only [Value.slice.injEq,true_and] at e1
  obtain ⟨rfl,rfl⟩:=e1
  refine ⟨by rw [List.length_take,hl];omega,.inr ⟨g,c,cur,rfl,hb,hg,by omega,hmx,hcs,?_⟩⟩
  rw [<- ht,List.take_take,Nat.min_eq_left hms]
def ju (log:List (Bs×Int)):List Value:=log.map fun x=>str x.1
def jv (log:List (Bs×Int)):List Value:=log.map fun x=>Value.int .i64 x.2
theorem logM_snoc (log:List (Bs×Int)) (s:Bs) (p:Int):ju (log++[(s,p)])=ju log++[str s]:=by simp [ju]
theorem logP_snoc (log:List (Bs×Int)) (s:Bs) (p:Int):jv (log++[(s,p)])=jv log++[.int .i64 p]:=by simp [jv]
structure MS (keeps:Bool) (most ma:Nat) (log:List (Bs×Int)) (mv pt:Value) (w:World):Prop where
 blk:w.heap[ma]? = some (.cells #[mv,pt,.int .i64 (most:Nat),.int .i64 (log.length:Nat),.bool keeps] 126 (0,0))
 rows:keeps=true->Own w 9 1 mv log.length (ju log)/\Own w 3 1 pt log.length (jv log)
 nil:keeps=false->mv=.slice none 0 0/\pt=.slice none 0 0
 neM:∀ g,mv.ownBlock=some g->g≠ma/\pt.ownBlock≠some g
 neP:∀ g,pt.ownBlock=some g->g≠ma
def MBk (ma:Nat) (mv pt:Value) (b:Nat):Prop:=b=ma\/mv.ownBlock=some b\/pt.ownBlock=some b
theorem MS.but {keeps:Bool} {most ma:Nat} {log:List (Bs×Int)} {mv pt:Value} {m:Nat->Prop} {w w':World} (h:MS keeps most ma log mv pt w) (hb:But m w w') (hm:∀ b,MBk ma mv pt b->¬ m b):MS keeps most ma log mv pt w' :=
 ⟨by rw [hb.block ma (zZ h.blk) (hm ma (.inl rfl))];exact h.blk,
  fun hk=>⟨(h.rows hk).1.keep fun g o hg ho=>by rw [hb.block g (zZ ho) (hm g (.inr (.inl hg)))];exact ho,(h.rows hk).2.keep fun g o hg ho=>by rw [hb.block g (zZ ho) (hm g (.inr (.inr hg)))];exact ho⟩,
  h.nil,h.neM,h.neP⟩
theorem MS.below {keeps:Bool} {most ma:Nat} {log:List (Bs×Int)} {mv pt:Value} {w w':World} (h:MS keeps most ma log mv pt w) (hb:Below w.heap.size w w'):MS keeps most ma log mv pt w' :=
 h.but (m:=fun _=>False) (But.ofBelow hb) fun _ _ h=>h
theorem MBk.lt {keeps:Bool} {most ma:Nat} {log:List (Bs×Int)} {mv pt:Value} {w:World} (h:MS keeps most ma log mv pt w) {b:Nat} (hb:MBk ma mv pt b):b<w.heap.size:=by
 rcases hb with rfl | hb | hb
 ·exact zZ h.blk
 ·cases keeps with
  | true=>exact (h.rows rfl).1.lt hb
  | false=>rw [(h.nil rfl).1] at hb;simp [Value.ownBlock] at hb
 ·cases keeps with
  | true=>exact (h.rows rfl).2.lt hb
  | false=>rw [(h.nil rfl).2] at hb;simp [Value.ownBlock] at hb
theorem Tryz.infoInt:(Tryz.prog.info? 3).map (fun i=>(i.zero,i.size,i.bytes))=some (some (.int .i64 0),1,8):=by kernel_rfl
mutual
def nB:Bd->Prop
 | .leaf _=>True
 | .ask _ ss y n=>ss.length<=15/\nBs ss/\nB y/\nB n
def nBs:List Bd->Prop
 | []=>True
 | b::bs=>nB b/\nBs bs
end
mutual
def okC (n:Nat):Clo->Prop
 | .mk b e _ p=>nB b/\okCs n e/\e.length<=16*n/\p.length<=2*n
def okCs (n:Nat):List Clo->Prop
 | []=>True
 | c::cs=>okC n c/\okCs n cs
end
mutual
theorem okC_mono {n m:Nat} (h:n<=m):∀ c,okC n c->okC m c
 | .mk b e _ p,k=>by
   rw [okC] at *
   exact ⟨k.1,xA h e k.2.1,by have:=k.2.2.1;omega,by have:=k.2.2.2;omega⟩
theorem xA {n m:Nat} (h:n<=m):∀ cs,okCs n cs->okCs m cs
 | [],k=>by rw [okCs] at *;trivial
 | c::cs,k=>by rw [okCs] at *;exact ⟨okC_mono h c k.1,xA h cs k.2⟩
end
def Chg (ma:Nat) (mv pt:Value) (B:Nat) (sv:Value) (i:Nat):Prop:=MBk ma mv pt i\/i=B\/sv.ownBlock=some i
structure FrOk (n:Nat) (f:Fr):Prop where
 fit:frFit f
 yes:nB f.yes
 no:nB f.no
 env:okCs n f.env
 len:f.env.length<=16*n
 path:f.path.length<=2*n
theorem FrOk.mono {n m:Nat} {f:Fr} (h:FrOk n f) (k:n<=m):FrOk m f:=⟨h.fit,h.yes,h.no,xA k _ h.env,by have:=h.len;omega,by have:=h.path;omega⟩
def asInts (xs:List (Bs×Nat)):List (Bs×Int):=xs.map fun y=>(y.1,(y.2:Int))
theorem MS.drew {keeps:Bool} {most ma:Nat} {log:List (Bs×Int)} {mv pt:Value} {w:World} (h:MS keeps most ma log mv pt w):MS keeps most ma log mv pt w.drew:=h.but (m:=fun _=>False) (But.refl _ _).drew fun _ _ h=>h
theorem GlobT.drew {w:World} (h:GlobT w):GlobT w.drew:=h
structure Tri (bb B P:Nat) (v:Nat) (sl yv nv:Value) (begun:Nat) (path:Bs) (q0 q1 q2 q3:Value) (w:World):Prop where
 b:w.heap[bb]? = some (.cells #[str [],.int .i64 v,sl,yv,nv] 105 (0,0))
 g:w.heap[B]? = some (.cells #[.int .i64 (begun:Nat),str path] 115 (0,0))
 p:w.heap[P]? = some (.cells #[q0,q1,q2,q3] 181 (0,0))
theorem Tri.but {bb B P v:Nat} {sl yv nv:Value} {begun:Nat} {path:Bs} {q0 q1 q2 q3:Value} {w w':World} {m:Nat->Prop} (h:Tri bb B P v sl yv nv begun path q0 q1 q2 q3 w) (hb:But m w w') (n1:¬ m bb) (n2:¬ m B) (n3:¬ m P):Tri bb B P v sl yv nv begun path q0 q1 q2 q3 w' :=
 ⟨by rw [hb.block _ (zZ h.b) n1];exact h.b,by rw [hb.block _ (zZ h.g) n2];exact h.g,by rw [hb.block _ (zZ h.p) n3];exact h.p⟩
theorem Tri.below {bb B P v:Nat} {sl yv nv:Value} {begun:Nat} {path:Bs} {q0 q1 q2 q3:Value} {w w':World} (h:Tri bb B P v sl yv nv begun path q0 q1 q2 q3 w) (hb:Below w.heap.size w w'):Tri bb B P v sl yv nv begun path q0 q1 q2 q3 w' :=
 h.but (m:=fun _=>False) (But.ofBelow hb) (fun h=>h) (fun h=>h) (fun h=>h)
theorem Tri.drew {bb B P v:Nat} {sl yv nv:Value} {begun:Nat} {path:Bs} {q0 q1 q2 q3:Value} {w:World} (h:Tri bb B P v sl yv nv begun path q0 q1 q2 q3 w):Tri bb B P v sl yv nv begun path q0 q1 q2 q3 w.drew:=⟨h.b,h.g,h.p⟩
theorem Tri.cells {bb B P v:Nat} {sl yv nv:Value} {begun:Nat} {path:Bs} {q0 q1 q2 q3:Value} {w:World} (h:Tri bb B P v sl yv nv begun path q0 q1 q2 q3 w) :
 w.cell? ⟨bb,2,none⟩=some sl/\w.cell? ⟨bb,3,none⟩=some yv/\w.cell? ⟨bb,4,none⟩=some nv/\w.cell? ⟨B,0,none⟩=some (.int .i64 (begun:Nat))/\w.cell? ⟨B,1,none⟩=some (str path) /\
  w.cell? ⟨P,0,none⟩=some q0/\w.cell? ⟨P,1,none⟩=some q1/\w.cell? ⟨P,2,none⟩=some q2/\w.cell? ⟨P,3,none⟩=some q3/\w.frozen? ⟨B,0,none⟩=false/\w.frozen? ⟨B,1,none⟩=false/\P<w.heap.size/\B<w.heap.size/\bb<w.heap.size :=
 ⟨by simp [World.cell?,h.b],by simp [World.cell?,h.b],by simp [World.cell?,h.b],by simp [World.cell?,h.g],by simp [World.cell?,h.g],by simp [World.cell?,h.p],by simp [World.cell?,h.p],by simp [World.cell?,h.p],by simp [World.cell?,h.p],by simp [World.frozen?,h.g],by simp [World.frozen?,h.g],zZ h.p,zZ h.g,zZ h.b⟩
theorem zN.ofOwn {w:World} {e:TypeId} {sz n:Nat} {v:Value} {xs:List Value} (h:Own w e sz v n xs) (hc:∀ u∈xs,u.oneCell'=true):zN sz v n xs w:=by
 refine ⟨h.1,hc,?_⟩
 rcases h.2 with ⟨rfl,rfl⟩ | ⟨g,cap,cur,rfl,_,hg,_,_,_,ht⟩
 ·exact .inr ⟨rfl,rfl⟩
 ·refine .inl ⟨_,cap,rfl,fun j u hj=>?_⟩
  obtain ⟨g',c',e',eP⟩:=h.at hj
  simp only [Value.slice.injEq,Option.some.injEq,Addr.mk.injEq,and_true,true_and] at e'
  obtain ⟨rfl,rfl⟩:=e'
  unfold Addr.add
  split
  ·subst j;exact eP
  ·simpa using eP
def SubsAt (w:World) (n:Nat) (us:List Value) (sa:Option Addr):Prop:=∀ k,k<n->∃ b o u,sa=some ⟨b,o,none⟩/\us[k]? = some (.pointer (some ⟨u,0,none⟩))/\w.cell? ⟨b,o+k,none⟩=some (.pointer (some ⟨u,0,none⟩))
theorem SubsAt.below {w w':World} {n:Nat} {us:List Value} {sa:Option Addr} (h:SubsAt w n us sa) (hb:Below w.heap.size w w'):SubsAt w' n us sa:=fun k hk=>by
 obtain ⟨b,o,u,e,hu,hc⟩:=h k hk
 exact ⟨b,o,u,e,hu,(hb.cell (gJ w _ hc)).trans hc⟩

def StrsAt (w:World) (a:Option Addr) (xs:List Bs):Prop:=∀ (k:Nat) (s:Bs),xs[k]? = some s->∃ b o,a=some ⟨b,o,none⟩/\w.cell? ⟨b,o+k,none⟩=some (str s)
theorem StrsAt.below {w w':World} {a:Option Addr} {xs:List Bs} (h:StrsAt w a xs) (hb:Below w.heap.size w w'):StrsAt w' a xs:=fun k s hs=>by
 obtain ⟨b,o,e,hc⟩:=h k s hs
 exact ⟨b,o,e,(hb.cell (gJ w _ hc)).trans hc⟩
theorem Tryz.infoStr:(Tryz.prog.info? 9).map (fun i=>(i.zero,i.size,i.bytes))=some (some (str []),1,16):=by kernel_rfl
theorem MS.slices {keeps:Bool} {most ma:Nat} {log:List (Bs×Int)} {mv pt:Value} {w:World} (h:MS keeps most ma log mv pt w):∃ a n k a' n' k',mv=.slice a n k/\pt=.slice a' n' k':=by
 cases keeps with
 | true =>
   obtain ⟨a,c,e⟩:=(h.rows rfl).1.slice
   obtain ⟨a',c',e'⟩:=(h.rows rfl).2.slice
   exact ⟨_,_,_,_,_,_,e,e'⟩
 | false=>exact ⟨_,_,_,_,_,_,(h.nil rfl).1,(h.nil rfl).2⟩
inductive SC where
 | mk (b:Bd) (t:Ty) (env:List SC) (begun arg:Nat)
def SC.body:SC->Bd | .mk b _ _ _ _=>b
def SC.kind:SC->Ty | .mk _ t _ _ _=>t
def SC.env:SC->List SC | .mk _ _ e _ _=>e
def SC.begun:SC->Nat | .mk _ _ _ n _=>n
def SC.arg:SC->Nat | .mk _ _ _ _ n=>n
structure SF where
 v:Nat
 ss:List Bd
 yes:Bd
 no:Bd
 env:List SC
 opens:Nat
mutual
def simC (keep:Bool) (log:List (Bs×Int)):SC->Clo->Prop
 | .mk b t env bg i,c=>c.body=b/\wb keep log env c.env/\c.begun=bg/\(keep=true->∃ q p,log[bg]? = some (q,p)/\c.path=q.drop 1++dec i)
def wb (keep:Bool) (log:List (Bs×Int)):List SC->List Clo->Prop
 | [],cs=>cs=[]
 | x::xs,cs=>∃ c cs',cs=c::cs'/\simC keep log x c/\wb keep log xs cs'
end
mutual
theorem simC_more {keep:Bool} {log:List (Bs×Int)} (m:List (Bs×Int)):∀ (x:SC) (c:Clo),simC keep log x c->simC keep (log++m) x c
 | .mk b t env bg i,c,h=>by
   rw [simC] at *
   refine ⟨h.1,yG m env _ h.2.1,h.2.2.1,fun hk=>?_⟩
   obtain ⟨q,p,h1,h2⟩:=h.2.2.2 hk
   exact ⟨q,p,by rw [List.getElem?_append_left (List.getElem?_eq_some_iff.1 h1).1];exact h1,h2⟩
theorem yG {keep:Bool} {log:List (Bs×Int)} (m:List (Bs×Int)):∀ (xs:List SC) (cs:List Clo),wb keep log xs cs->wb keep (log++m) xs cs
 | [],cs,h=>by rw [wb] at *;exact h
 | x::xs,cs,h=>by
   rw [wb] at *
   obtain ⟨c,cs',rfl,h1,h2⟩:=h
   exact ⟨c,cs',rfl,simC_more m x c h1,yG m xs cs' h2⟩
end
structure simF (keep:Bool) (log:List (Bs×Int)) (x:SF) (f:Fr):Prop where
 yes:f.yes=x.yes
 no:f.no=x.no
 env:wb keep log x.env f.env
 opens:f.begun=x.opens
 path:keep=true->∃ q p,log[x.opens]? = some (q,p)/\f.path=q.drop 1
theorem simF.more {keep:Bool} {log:List (Bs×Int)} {x:SF} {f:Fr} (h:simF keep log x f) (m:List (Bs×Int)):simF keep (log++m) x f :=
 ⟨h.yes,h.no,yG m _ _ h.env,h.opens,fun hk=>by
  obtain ⟨q,p,h1,h2⟩:=h.path hk
  exact ⟨q,p,by rw [List.getElem?_append_left (List.getElem?_eq_some_iff.1 h1).1];exact h1,h2⟩⟩
def uW (keep:Bool) (log:List (Bs×Int)) (a:Option (UInt8×List (Bs×Int))) (b:Option (UInt8×List (Bs×Nat))):Prop :=
 (b=none->a=none)/\∀ c ms,b=some (c,ms)->∃ log',a=some (c,log')/\(keep=true->log'=log++asInts ms)
theorem uW.step {keep:Bool} {log:List (Bs×Int)} {s:Bs} {n:Nat} {a:Option (UInt8×List (Bs×Int))} {b:Option (UInt8×List (Bs×Nat))} {s':Bs} (h:uW keep (log++[(s,(n:Int))]) a b) (hs:keep=true->s'=s):uW keep log a (b.map fun x=>(x.1,(s',n)::x.2)):=by
 constructor
 ·intro hb
  cases b with
  | none=>exact h.1 rfl
  | some x=>simp at hb
 ·intro c ms hb
  cases b with
  | none=>simp at hb
  | some x =>
    simp only [Option.map_some,Option.some.injEq,Prod.mk.injEq] at hb
    obtain ⟨rfl,rfl⟩:=hb
    obtain ⟨log',h1,h2⟩:=h.2 x.1 x.2 rfl
    exact ⟨log',h1,fun hk=>by rw [h2 hk,hs hk];simp [asInts]⟩
theorem uW.log {keep:Bool} {log:List (Bs×Int)} (c:UInt8):uW keep log (some (c,log)) (some (c,[])) :=
 ⟨fun h=>by simp at h,fun c' ms h=>by
  simp only [Option.some.injEq,Prod.mk.injEq] at h
  obtain ⟨rfl,rfl⟩:=h
  exact ⟨log,rfl,fun _=>by simp [asInts]⟩⟩
theorem uW.none {keep:Bool} {log:List (Bs×Int)}:uW keep log none none:=⟨fun _=>rfl,fun c ms h=>by simp at h⟩
mutual
def okS:SC->Prop
 | .mk b t env _ _=>wfB b/\okSs env/\zm (env.map SC.kind++t.args) b
def okSs:List SC->Prop
 | []=>True
 | x::xs=>okS x/\okSs xs
end
structure okF (x:SF):Prop where
 yes:wfB x.yes
 no:wfB x.no
 env:okSs x.env
 node:zm (x.env.map SC.kind) (.ask x.v x.ss x.yes x.no)
theorem okF.fits {x:SF} (h:okF x):zm (x.env.map SC.kind) x.yes/\zm (x.env.map SC.kind) x.no:=by
 have:=h.node
 rw [zm] at this
 obtain ⟨t,_,_,h1,h2⟩:=this
 exact ⟨h1,h2⟩
def Rn (w:World) (ra:Nat) (mv pt:Value) (moves most:Nat) (bad:Bool):Prop:=w.heap[ra]? = some (.cells #[mv,pt,.int .i64 (moves:Nat),.int .i64 (most:Nat),.bool false,.bool bad] 80 (0,0))
theorem Rn.cells {w:World} {ra:Nat} {mv pt:Value} {moves most:Nat} {bad:Bool} (h:Rn w ra mv pt moves most bad):w.cell? ⟨ra,2,none⟩=some (.int .i64 (moves:Nat))/\w.cell? ⟨ra,3,none⟩=some (.int .i64 (most:Nat))/\w.cell? ⟨ra,4,none⟩=some (.bool false)/\w.cell? ⟨ra,5,none⟩=some (.bool bad)/\w.frozen? ⟨ra,2,none⟩=false/\w.frozen? ⟨ra,5,none⟩=false:=by
 unfold Rn at h
 exact ⟨by simp [World.cell?,h],by simp [World.cell?,h],by simp [World.cell?,h],by simp [World.cell?,h],by simp [World.frozen?,h],by simp [World.frozen?,h]⟩
theorem Rn.below {w w':World} {ra:Nat} {mv pt:Value} {moves most:Nat} {bad:Bool} (h:Rn w ra mv pt moves most bad) (hb:Below w.heap.size w w'):Rn w' ra mv pt moves most bad:=by
 unfold Rn;rw [hb.block ra (zZ h)];exact h
theorem pj {W:World} {g r:Nat} (hr:r<10) (h:W.cell? ⟨g,0,none⟩=some (.int .u8 (48+(r:Int)))) :
 (convert 22 9 (.slice (some ⟨g,0,none⟩) 1 1)).run Tryz.prog W=.ok (str [qw r]) W:=by
 refine run_convert_bytes_back (P:=Tryz.prog) W 22 9 5 ⟨g,0,none⟩ 1 [qw r] Tryz.underlying22 Tryz.underlying5 Tryz.underlying9 (fun j hj=>?_)
 have hj0:j=0:=by simpa using hj
 subst hj0
 have e:(qw r).toNat=48+r:=by rw [qw,UInt8.toNat_ofNat'];exact Nat.mod_eq_of_lt (by omega)
 show W.cell? ((⟨g,0,none⟩:Addr).add 0)=some (.int .u8 ((qw r).toNat:Int))
 rw [e]
 have e2:((48+r:Nat):Int)=48+(r:Int):=by omega
 rw [e2];exact h
theorem conv_new {r:Nat} (hr:r<10) (w:World):(convert 22 9 (.slice (some ⟨w.heap.size,0,none⟩) 1 1)).run Tryz.prog (w.alloc (.cells #[.int .u8 (48+(r:Int))] 5))=.ok (str [qw r]) (w.alloc (.cells #[.int .u8 (48+(r:Int))] 5)) :=
 pj hr (by simp)
theorem conv_newd {r:Nat} (hr:r<10) (w:World):(convert 22 9 (.slice (some ⟨w.heap.size,0,none⟩) 1 1)).run Tryz.prog (w.alloc (.cells #[.int .u8 (48+(r:Int))] 5)).drew=.ok (str [qw r]) (w.alloc (.cells #[.int .u8 (48+(r:Int))] 5)).drew :=
 pj hr (show (w.alloc (.cells #[.int .u8 (48+(r:Int))] 5)).cell? _=_ by simp)
theorem conv_kept {r:Nat} (hr:r<10) {w W:World} (hb:Below (w.alloc (.cells #[.int .u8 (48+(r:Int))] 5)).drew.heap.size (w.alloc (.cells #[.int .u8 (48+(r:Int))] 5)).drew W) :
 (convert 22 9 (.slice (some ⟨w.heap.size,0,none⟩) 1 1)).run Tryz.prog W=.ok (str [qw r]) W :=
 pj hr ((hb.cell (show w.heap.size<(w.alloc (.cells #[.int .u8 (48+(r:Int))] 5)).heap.size by simp)).trans (show (w.alloc (.cells #[.int .u8 (48+(r:Int))] 5)).cell? _=_ by simp))
set_option maxRecDepth 100000 in
theorem l6Dec_small (n:Nat) (hn:n<10) (w:World):Calls Tryz.prog 96 #[.int .i64 (n:Nat)] w fun en w'=>en=.returned (str (dec n))/\Below w.heap.size w w':=by
 have hn':(n:Int)<10:=by omega
 have e:=gZ (qV hn)
 have hcv:=conv_new hn w
 go_enter Tryz.func96,Tryz.ntmps96
 go_wp2_with fail
 go_ret
 exact ⟨by rw [e.out];rfl,(gV _ _).alloc (gQ _) _⟩
theorem size_alloc_le (w:World) (o:Obj):w.heap.size<=(w.alloc o).drew.heap.size:=by
 show w.heap.size<=(w.alloc o).heap.size
 rw [zK];omega
set_option maxRecDepth 100000 in
theorem l6Dec_step (n:Nat) (hn:¬ n<10) (hl:n<=16777216) (ih:∀ w,Calls Tryz.prog 96 #[.int .i64 ((n / 10:Nat):Int)] w fun en w'=>en=.returned (str (dec (n / 10)))/\Below w.heap.size w w') (w:World) :
 Calls Tryz.prog 96 #[.int .i64 (n:Nat)] w fun en w'=>en=.returned (str (dec n))/\Below w.heap.size w w':=by
 have IH:=gZ ih;clear ih
 have hn':¬ (n:Int)<10:=by omega
 have e:=gZ (vj hn)
 have q1:(n:Int).tdiv 10=((n / 10:Nat):Int):=wu n 10
 have q2:(n:Int).tmod 10=((n % 10:Nat):Int):=uN n 10
 have hR:n % 10<10:=Nat.mod_lt _ (by omega)
 have hQ:n / 10<=16777216:=gX (Nat.div_le_self _ _) hl
 have hD:(dec (n / 10)).length<=8:=jB 7 (n / 10) (by omega)
 generalize n % 10=R at *
 generalize n / 10=Q at *
 have q3:IntKind.i64.wrap (Q:Int)=(Q:Int):=jV Q (by omega)
 have q4:IntKind.i64.wrap (48+(R:Int))=48+(R:Int):=by rw [show (48:Int)+R=((48+R:Nat):Int) from by omega];exact jV _ (by omega)
 have q5:IntKind.u8.wrap (48+(R:Int))=48+(R:Int):=by simp [IntKind.wrap,IntKind.bits,IntKind.signed];omega
 have HR:=gZ hR
 have e6:=fun w0=>k8 (P:=Tryz.prog) (dec Q) [qw R] (by simp;omega) w0
 have hcv:=conv_newd hR w
 have hcv0:=fun w0=>conv_new hR w0
 go_enter Tryz.func96,Tryz.ntmps96
 go_wp2_with fail
 go_region_with (first
  | (go_at_call 96;refine (IH.out (w.alloc (.cells #[.int .u8 (48+(R:Int))] 5)).drew).mono ?_;rintro en w2 ⟨rfl,gP⟩;have hcv2:=conv_kept HR.out gP;have hbb:=Below.trans (((gV w.heap.size w).alloc (gQ _) (.cells #[.int .u8 (48+(R:Int))] 5)).drew) (gP.mono (size_alloc_le w _)))
  | (go_at_call 96;refine (IH.out w.drew).mono ?_;rintro en w2 ⟨rfl,gP⟩;have hbb:=Below.trans ((gV w.heap.size w).drew) gP))
 all_goals
  go_wp2_with fail
  go_ret
  refine ⟨by rw [e.out];rfl,?_⟩
  first
   | exact hbb
   | exact hbb.alloc hbb.size _
theorem l6Dec_any (n:Nat):n<=16777216->∀ w,Calls Tryz.prog 96 #[.int .i64 (n:Nat)] w fun en w'=>en=.returned (str (dec n))/\Below w.heap.size w w':=by
 induction n using Nat.strongRecOn with
 | _ n ih =>
   intro hl w
   by_cases h:n<10
   ·exact l6Dec_small n h w
   ·exact l6Dec_step n h hl (ih (n / 10) (Nat.div_lt_self (by omega) (by omega)) (gX (Nat.div_le_self _ _) hl)) w
def xj (b:Bd):Prop:=∀ (F:Nat->Prop) (w:World) (s v k y:Value),zD F w (kF b) [s,v,k,y] ->
 Calls Tryz.prog 57 #[.agg #[s,v,k,y]] w fun en w'=>en=.returned (str (kT b))/\Below w.heap.size w w'
abbrev KeepY (g:Nat) (ky:Value) (bM yo:Nat) (s0 v0 p0 q0 s1 v1 p1 q1:Value) (w':World):Prop :=
 w'.cell? ⟨g,3,none⟩=some ky/\w'.cell? ⟨bM,yo,none⟩=some s0/\w'.cell? ⟨bM,yo+1,none⟩=some v0/\w'.cell? ⟨bM,yo+2,none⟩=some p0/\w'.cell? ⟨bM,yo+3,none⟩=some q0 /\
  w'.cell? ⟨bM,yo+4,none⟩=some s1/\w'.cell? ⟨bM,yo+5,none⟩=some v1/\w'.cell? ⟨bM,yo+6,none⟩=some p1/\w'.cell? ⟨bM,yo+7,none⟩=some q1
theorem KeepY.below {g:Nat} {ky:Value} {bM yo:Nat} {s0 v0 p0 q0 s1 v1 p1 q1:Value} {w w':World} (h:KeepY g ky bM yo s0 v0 p0 q0 s1 v1 p1 q1 w) (hb:Below w.heap.size w w'):KeepY g ky bM yo s0 v0 p0 q0 s1 v1 p1 q1 w':=by
 have key:∀ (a:Addr) (v:Value),w.cell? a=some v->w'.cell? a=some v:=fun a v ha=>by
  rw [hb.cell (gJ w _ ha)];exact ha
 obtain ⟨h1,h2,h3,h4,h5,h6,h7,h8,h9⟩:=h
 exact ⟨key _ _ h1,key _ _ h2,key _ _ h3,key _ _ h4,key _ _ h5,key _ _ h6,key _ _ h7,key _ _ h8,key _ _ h9⟩
set_option maxRecDepth 100000 in
theorem l3Text_step (b:Bd) (hl:zP b<=1000000) (gj:lvB b) (ih:∀ b',zP b'<zP b->lvB b'->xj b'):xj b:=by
 intro F w s v k y hv
 have e1:=wF hv
 subst e1
 obtain ⟨_,a2,c2,a3,c3,e,hk,hy⟩:=jb hv
 simp only [List.cons.injEq,and_true] at e
 obtain ⟨rfl,_,rfl,rfl⟩:=e
 cases b with
 | leaf c =>
   clear hv hk hy ih
   show Calls Tryz.prog 57 #[.agg #[str [c],.int .i64 (0:Nat),.slice a2 0 c2,.slice a3 0 c3]] w _
   go_enter Tryz.func57,Tryz.ntmps57
   go_wp2_with fail
   go_ret
   exact ⟨rfl,(gV _ _).alloc (gQ _) _⟩
 | ask lv ss yb nb =>
   have IH:=gZ ih;clear ih
   have bG:=qN (.ask lv ss yb nb)
   rw [j1,kQ] at bG
   change zP (.ask lv ss yb nb)=1+(zW ss+zW [yb,nb]) at bG
   have aU:zW [yb,nb]=zP yb+zP nb:=by simp [zW]
   rw [lvB] at gj
   obtain ⟨lv1,lv2,lv3,lv4⟩:=gj
   have t1:=vB ss lv2
   have t2:=kx yb lv3
   have t3:=kx nb lv4
   have t4:(dec lv).length<=5:=jB 4 lv (by omega)
   obtain ⟨_,_,ek,atk⟩:=xD.of hk
   simp only [Value.slice.injEq,true_and] at ek
   rw [<- ek.1] at atk;clear ek
   obtain ⟨_,_,ek,aty⟩:=xD.of hy
   simp only [Value.slice.injEq,true_and] at ek
   rw [<- ek.1] at aty;clear ek
   change xD F w ss a2 at atk
   change xD F w [yb,nb] a3 at aty
   obtain ⟨bM,yo,s0,v0,p2,m2,d2,p3,m3,d3,yt,ey,hyb0,hyt,u0,u1,u2,u3,dh⟩:=aty 0 (by simp)
   obtain ⟨yb1,yo1,s1,v1,p4,m4,d4,p5,m5,d5,nt,en1,hyb1,hnt,z0,z1,z2,z3,hrn⟩:=aty 1 (by simp)
   rw [ey] at en1
   simp only [Option.some.injEq,Addr.mk.injEq,and_true] at en1
   obtain ⟨rfl,rfl⟩:=en1
   simp only [List.getElem?_cons_zero,Option.some.injEq] at hyt
   simp only [List.getElem?_cons_succ,List.getElem?_cons_zero,Option.some.injEq] at hnt
   subst hyt;subst hnt
   simp only [Nat.zero_mul,Nat.add_zero] at u0 u1 u2 u3
   simp only [Nat.one_mul,Nat.add_assoc,Nat.reduceAdd] at z0 z1 z2 z3
   have nss:ss.length<=16777216:=by have:=zp ss;omega
   have fH:=gZ bG;have HYN:=gZ aU
   have ATK:=gZ atk
   have LV:=gZ lv2;have LV3:=gZ lv3;have LV4:=gZ lv4
   have lvl:lv<=16777216:=by omega
   have iN:KeepY w.heap.size (.slice a3 2 c3) bM yo (str s0) (.int .i64 v0) (.slice p2 m2 d2) (.slice p3 m3 d3) (str s1) (.int .i64 v1) (.slice p4 m4 d4) (.slice p5 m5 d5) (w.alloc (.cells #[str [],.int .i64 lv,.slice a2 ss.length c2,.slice a3 2 c3] 64)) :=
    ⟨by simp,zV u0,zV u1,zV u2,zV u3,zV z0,zV z1,zV z2,zV z3⟩
   have td:=gZ iN
   have lu:=gZ dh;have HRN:=gZ hrn
   subst ey
   clear hv hk hy atk aty bG aU lv2 lv3 lv4 u0 u1 u2 u3 z0 z1 z2 z3 dh hrn iN
   show Calls Tryz.prog 57 #[.agg #[str [],.int .i64 lv,.slice a2 ss.length c2,.slice (some ⟨bM,yo,none⟩) 2 c3]] w _
   have lB:=fun w0=>k8 (P:=Tryz.prog) [40] (dec lv) (by simp;omega) w0
   go_enter Tryz.func57,Tryz.ntmps57
   go_wp2_with fail
   refine (l6Dec_any lv lvl _).mono ?_
   rintro en w1 ⟨rfl,gW⟩
   have cT:Below w.heap.size w w1:=Below.trans ((gV w.heap.size w).alloc (gQ _) (.cells #[str [],.int .i64 lv,.slice a2 ss.length c2,.slice (some ⟨bM,yo,none⟩) 2 c3] 64)) (gW.mono (by simp))
   have bX:w1.cell? ⟨w.heap.size,2,none⟩=some (.slice a2 ss.length c2):=(gW.cell (by simp)).trans (by simp)
   have l6:=gZ (td.out.below gW)
   go_wp2_with fail
   clear lB
   go_loopw [3,4] (fun o i wr=>∃ k:Nat,k<=ss.length/\i=.int .i64 k/\o=str ([40]++dec lv++kM (ss.take k))/\Below w.heap.size w wr/\wr.cell? ⟨w.heap.size,2,none⟩=some (.slice a2 ss.length c2)/\KeepY w.heap.size (.slice (some ⟨bM,yo,none⟩) 2 c3) bM yo (str s0) (.int .i64 v0) (.slice p2 m2 d2) (.slice p3 m3 d3) (str s1) (.int .i64 v1) (.slice p4 m4 d4) (.slice p5 m5 d5) wr) (fun _ i _=>ss.length-(intOf i).toNat)
   case atStart=>exact ⟨0,Nat.zero_le _,rfl,by simp [kM],cT,bX,l6.out⟩
   case round =>
    clear bX l6 td cT
    obtain ⟨k,hk,rfl,rfl,hb,bX,iN⟩:=hrel
    have td:=gZ iN;clear iN
    have gC:([40]++dec lv++kM (ss.take k)).length<=16777216:=by
     have h1:=wW ss k
     have h2:=fH.out
     simp only [List.length_append,List.length_cons,List.length_nil];omega
    by_cases gH:k<ss.length
    ·obtain ⟨bb,o,s',v',b2,n2,e2,b3,n3,e3,t,eb,hbb,ht,u0,u1,u2,u3,hr⟩:=ATK.out k gH
     subst eb
     have q0:=(hb.cell hbb).trans u0
     have q1:=(hb.cell hbb).trans u1
     have q2:=(hb.cell hbb).trans u2
     have q3:=(hb.cell hbb).trans u3
     have dV:=zD.below (F':=fun _=>True) hb (fun _ _=>trivial) hr
     have ge:=kR ht
     have g7:=z9 ss (k+1)
     have bS:=fH.out
     have bm:=kx t (yr _ LV.out k t ht)
     have C:=gZ (IH.out t (by omega) (yr _ LV.out k t ht) _ wr _ _ _ _ dV)
     have HT:=gZ (textBs_take ht)
     have ht16:(kT t).length<=16777216:=by omega
     have bA:(k:Int)<(ss.length:Int):=by omega
     generalize hO:[40]++dec lv++kM (ss.take k)=O at *
     have HO:=gZ hO
     have rY:=fun w0=>k8 (P:=Tryz.prog) O [32] (by simp;omega) w0
     have rU:=fun w0=>k8 (P:=Tryz.prog) (O++[32]) (kT t) (by simp;omega) w0
     clear hO ge g7 bS bm ht u0 u1 u2 u3 hr dV
     go_wp2_with fail
     refine C.out.mono ?_
     rintro en w2 ⟨rfl,gP⟩
     have gF:=zzT hb gP
     have hx2':w2.cell? ⟨w.heap.size,2,none⟩=some (.slice (some ⟨bb,o,none⟩) ss.length c2):=(gP.cell (gJ _ ⟨w.heap.size,2,none⟩ bX)).trans bX
     have HKY2:=gZ (td.out.below gP)
     go_wp2_with fail
     go_roundw
     case rel=>exact ⟨k+1,by omega,by go_num,by rw [HT.out,<- HO.out];simp [str],gF,hx2',HKY2.out⟩
     case measure=>simp [intOf];omega
    ·obtain rfl:k=ss.length:=by omega
     rw [List.take_length] at gC ⊢
     have hnl:¬ ((ss.length:Int)<(ss.length:Int)):=by omega
     have HE:Hid (kT (.ask lv ss yb nb)=((((([40]++dec lv++kM ss)++[32])++kT yb)++[32])++kT nb)++[41]):=by show kT _=_;rw [kT]
     generalize hO:[40]++dec lv++kM ss=O at *
     clear hO
     obtain ⟨hy3,q0,q1,q2,q3,q4,q5,q6,q7⟩:=td.out
     have aM:=(zD.below (F':=fun _=>True) hb (fun _ _=>trivial) lu.out).drew
     have aR:=zD.below (F':=fun _=>True) hb (fun _ _=>trivial) HRN.out
     have bS:=fH.out
     have bm:=HYN.out
     have y16:(kT yb).length<=16777216:=by omega
     have n16:(kT nb).length<=16777216:=by omega
     have pp:=kX yb;have pq:=kX nb
     have CY:=gZ (IH.out yb (by omega) LV3.out _ wr.drew _ _ _ _ aM)
     have CN:=fun W F' h=>IH.out nb (by omega) LV4.out F' W (str s1) (.int .i64 v1) (.slice p4 m4 d4) (.slice p5 m5 d5) h
     have CN':=gZ CN;clear CN
     have RN:=gZ aR
     have e16:(O++[32]).length=O.length+1:=by simp
     obtain ⟨O1,h1⟩:=zzM (O++[32])
     obtain ⟨O2,h2⟩:=zzM (O1++kT yb)
     obtain ⟨O3,h3⟩:=zzM (O2++[32])
     obtain ⟨O4,h4⟩:=zzM (O3++kT nb)
     obtain ⟨O5,h5⟩:=zzM (O4++[41])
     have l1:O1.length<=16777217:=by rw [h1];simp;omega
     have l2:O2.length<=33554433:=by rw [h2];simp;omega
     have l3:O3.length<=33554434:=by rw [h3];simp;omega
     have l4:O4.length<=50331650:=by rw [h4];simp;omega
     have rY:=fun w0=>k8 (P:=Tryz.prog) O [32] (by simp;omega) w0
     have rU:=fun w0=>k8 (P:=Tryz.prog) O1 (kT yb) (by omega) w0
     have lH:=fun w0=>k8 (P:=Tryz.prog) O2 [32] (by simp;omega) w0
     have lG:=fun w0=>k8 (P:=Tryz.prog) O3 (kT nb) (by omega) w0
     have lW:=fun w0=>k8 (P:=Tryz.prog) O4 [41] (by simp;omega) w0
     have HE5:Hid (O5=kT (.ask lv ss yb nb)):=by show O5=_;rw [HE.out,h5,h4,h3,h2,h1]
     rw [<- h1] at rY;rw [<- h2] at rU;rw [<- h3] at lH;rw [<- h4] at lG;rw [<- h5] at lW
     clear h1 h2 h3 h4 h5 HE e16 l1 l2 l3 l4
     have tx:KeepY w.heap.size (.slice (some ⟨bM,yo,none⟩) 2 c3) bM yo (str s0) (.int .i64 v0) (.slice p2 m2 d2) (.slice p3 m3 d3) (str s1) (.int .i64 v1) (.slice p4 m4 d4) (.slice p5 m5 d5) wr.drew:=td.out
     clear bS bm pp pq aM aR t1 t2 t3 t4
     go_wp2_with fail
     go_region_held3 (fun w'=>w'.cell? ⟨w.heap.size,3,none⟩=some (.slice (some ⟨bM,yo,none⟩) 2 c3)/\w'.cell? ⟨bM,yo,none⟩=some (str s0)/\w'.cell? ⟨bM,yo+1,none⟩=some (.int .i64 v0)/\w'.cell? ⟨bM,yo+2,none⟩=some (.slice p2 m2 d2)/\w'.cell? ⟨bM,yo+3,none⟩=some (.slice p3 m3 d3)/\w'.cell? ⟨bM,yo+4,none⟩=some (str s1)/\w'.cell? ⟨bM,yo+5,none⟩=some (.int .i64 v1)/\w'.cell? ⟨bM,yo+6,none⟩=some (.slice p4 m4 d4)/\w'.cell? ⟨bM,yo+7,none⟩=some (.slice p5 m5 d5))
      (first
       | with_reducible exact tx
       | with_reducible exact eE
       | with_reducible exact hK4)
      (first
       | (go_at_call 57;refine (CN'.out _ _ rn3).mono ?_;rintro en w4 ⟨rfl,gS⟩;have hK4:=eE.below gS)
       | (go_at_call 57;refine CY.out.mono ?_;rintro en w3 ⟨rfl,gF⟩;have eE:=tx.below gF;have rn3:=zD.below (F':=fun _=>True) gF (fun _ _=>trivial) RN.out.drew))
     go_wp2_with fail
     go_ret
     exact ⟨by rw [<- HE5.out];rfl,hb.trans ((((gV _ wr).drew).trans (zzT gF gS)).mono hb.size)⟩
theorem yE (n:Nat):∀ b,zP b<=n->n<=1000000->lvB b->xj b:=by
 induction n with
 | zero=>intro b h _;have:=kX b;omega
 | succ n ih=>exact fun b h hn gj=>l3Text_step b (by omega) gj (fun b' h' bC=>ih b' (by omega) (by omega) bC)
mutual
def encSC:SC->List DV
 | .mk b t env bg i=>[.val (.int .i64 (-1))]++(kF b++[jx t,.sl 187 9 env.length (encSCs env),.val (.int .i64 (bg:Nat)),.val (.int .i64 (i:Nat))])
def encSCs:List SC->List DV
 | []=>[]
 | x::xs=>encSC x++encSCs xs
end
structure RS (keep:Bool) (most ra:Nat) (log:List (Bs×Int)) (mv pt:Value) (w:World):Prop where
 blk:w.heap[ra]? = some (.cells #[mv,pt,.int .i64 (log.length:Nat),.int .i64 (most:Nat),.bool keep,.bool (decide (most<log.length))] 80 (0,0))
 sls:∃ a n k a' n' k',mv=.slice a n k/\pt=.slice a' n' k'
 rows:keep=true->log.length<=most->Own w 9 1 mv log.length (ju log)/\Own w 3 1 pt log.length (jv log)
 ne:∀ g,mv.ownBlock=some g\/pt.ownBlock=some g->g≠ra/\g<w.heap.size
theorem RS.but {keep:Bool} {most ra:Nat} {log:List (Bs×Int)} {mv pt:Value} {m:Nat->Prop} {w w':World} (h:RS keep most ra log mv pt w) (hb:But m w w') (hm:∀ b,MBk ra mv pt b->¬ m b):RS keep most ra log mv pt w' :=
 ⟨by rw [hb.block ra (zZ h.blk) (hm ra (.inl rfl))];exact h.blk,h.sls,
  fun hk hl=>⟨(h.rows hk hl).1.keep fun g o hg ho=>by rw [hb.block g (zZ ho) (hm g (.inr (.inl hg)))];exact ho,(h.rows hk hl).2.keep fun g o hg ho=>by rw [hb.block g (zZ ho) (hm g (.inr (.inr hg)))];exact ho⟩,
  fun g hg=>⟨(h.ne g hg).1,gY (h.ne g hg).2 hb.size⟩⟩
theorem RS.below {keep:Bool} {most ra:Nat} {log:List (Bs×Int)} {mv pt:Value} {w w':World} (h:RS keep most ra log mv pt w) (hb:Below w.heap.size w w'):RS keep most ra log mv pt w' :=
 h.but (m:=fun _=>False) (But.ofBelow hb) fun _ _ h=>h
theorem RS.drew {keep:Bool} {most ra:Nat} {log:List (Bs×Int)} {mv pt:Value} {w:World} (h:RS keep most ra log mv pt w):RS keep most ra log mv pt w.drew:=h.but (m:=fun _=>False) (But.refl _ _).drew fun _ _ h=>h
theorem RS.lt {keep:Bool} {most ra:Nat} {log:List (Bs×Int)} {mv pt:Value} {w:World} (h:RS keep most ra log mv pt w) {b:Nat} (hb:MBk ra mv pt b):b<w.heap.size:=by
 rcases hb with rfl | hb | hb
 ·exact zZ h.blk
 ·exact (h.ne b (.inl hb)).2
 ·exact (h.ne b (.inr hb)).2
theorem RS.bad {keep:Bool} {most ra:Nat} {log:List (Bs×Int)} {mv pt:Value} {w:World} (h:RS keep most ra log mv pt w):w.cell? ⟨ra,5,none⟩=some (.bool (decide (most<log.length))):=by simp [World.cell?,h.blk]
structure BoxS (F:Nat->Prop) (B:Nat) (b:Bd) (v:Int) (x2 x3:Value) (w:World):Prop where
 blk:w.heap[B]? = some (.cells #[str (zH b),.int .i64 v,x2,x3] 64 (0,0))
 rep:zD F w (kF b) [str (zH b),.int .i64 v,x2,x3]
def encSF (x:SF):List DV:=kF (.ask x.v x.ss x.yes x.no)++[.sl 187 9 x.env.length (encSCs x.env),.val (.int .i64 (x.opens:Nat))]
def encSFs:List SF->List DV
 | []=>[]
 | x::xs=>encSF x++encSFs xs
mutual
def okN (n:Nat):SC->Prop
 | .mk b _ e bg i=>nB b/\okNs n e/\e.length<=16*n/\bg<n/\i<=15
def okNs (n:Nat):List SC->Prop
 | []=>True
 | c::cs=>okN n c/\okNs n cs
end
mutual
theorem okN_mono {n m:Nat} (h:n<=m):∀ c,okN n c->okN m c
 | .mk b _ e bg i,k=>by
   rw [okN] at *
   exact ⟨k.1,xT h e k.2.1,by have:=k.2.2.1;omega,by have:=k.2.2.2.1;omega,k.2.2.2.2⟩
theorem xT {n m:Nat} (h:n<=m):∀ cs,okNs n cs->okNs m cs
 | [],k=>by rw [okNs] at *;trivial
 | c::cs,k=>by rw [okNs] at *;exact ⟨okN_mono h c k.1,xT h cs k.2⟩
end
structure SFOk (n:Nat) (x:SF):Prop where
 ok:okF x
 yes:nB x.yes
 no:nB x.no
 env:okNs n x.env
 len:x.env.length<=16*n
 opens:x.opens<n
theorem SFOk.mono {n m:Nat} {x:SF} (h:SFOk n x) (k:n<=m):SFOk m x:=⟨h.ok,h.yes,h.no,xT k _ h.env,by have:=h.len;omega,by have:=h.opens;omega⟩
def LogOk (log:List (Bs×Int)):Prop:=∀ (i:Nat) (q:Bs) (p:Int),log[i]? = some (q,p)->1<=q.length/\q.length<=2*log.length+1
theorem LogOk.snoc {log:List (Bs×Int)} (h:LogOk log) {s:Bs} {p:Int} (h1:1<=s.length) (h2:s.length<=2*log.length+3):LogOk (log++[(s,p)]):=by
 intro i q p' hi
 have hl:(log++[(s,p)]).length=log.length+1:=by simp
 rw [hl]
 rcases Nat.lt_or_ge i log.length with gH | mn
 ·rw [List.getElem?_append_left gH] at hi
  have:=h i q p' hi
  omega
 ·rw [List.getElem?_append_right mn] at hi
  rcases Nat.eq_zero_or_pos (i-log.length) with h0 | h0
  ·rw [h0] at hi;simp at hi;obtain ⟨rfl,rfl⟩:=hi;omega
  ·rw [List.getElem?_eq_none (by simp;omega)] at hi;simp at hi
structure GoAt (keep:Bool) (most ra:Nat) (aZ t_:Value) (w:World) (B:Nat) (b:Bd) (env:List SC) (opens:Nat) (st:List SF) (log:List (Bs×Int)) (mv pt:Value) (v:Int) (x2 x3 ev sv:Value) (cells:List Value) (wr:World):Prop where
 rs:RS keep most ra log mv pt wr
 box:BoxS (fun i=>¬ Chg ra mv pt B sv i) B b v x2 x3 wr
 re:Rep (fun i=>¬ Chg ra mv pt B sv i) wr (.sl 187 9 env.length (encSCs env)) ev
 own:Own wr 185 6 sv st.length cells
 rf:zD (fun i=>¬ Chg ra mv pt B sv i) wr (encSFs st.reverse) cells
 but:But (MBk ra aZ t_) w wr
 new:∀ i,MBk ra mv pt i->MBk ra aZ t_ i\/w.heap.size<=i
 bB:w.heap.size<=B/\¬ MBk ra mv pt B
 sB:∀ g,sv.ownBlock=some g->w.heap.size<=g/\g≠B/\¬ MBk ra mv pt g
theorem GoAt.drew {keep:Bool} {most ra:Nat} {aZ t_:Value} {w:World} {B:Nat} {b:Bd} {env:List SC} {opens:Nat} {st:List SF} {log:List (Bs×Int)} {mv pt:Value} {v:Int} {x2 x3 ev sv:Value} {cells:List Value} {wr:World} (h:GoAt keep most ra aZ t_ w B b env opens st log mv pt v x2 x3 ev sv cells wr) :
 GoAt keep most ra aZ t_ w B b env opens st log mv pt v x2 x3 ev sv cells wr.drew :=
 ⟨h.rs.drew,⟨h.box.blk,h.box.rep.drew⟩,h.re.drew,h.own.drew,h.rf.drew,h.but.drew,h.new,h.bB,h.sB⟩
theorem cells1 {m:Nat->Prop} {w w':World} {a:Addr} {u:Value} (hb:But m w w') (ha:w.cell? a=some u) (na:¬ m a.block):w'.cell? a=some u:=(hb.cell (gJ w _ ha) na).trans ha
theorem Rep.alloc {F:Nat->Prop} {w:World} {d:DV} {v:Value} (h:Rep F w d v) (o:Obj):Rep F (w.alloc o) d v:=(Rep.keep fun _ _ hf ho=>⟨hf,zG ho⟩).1 _ _ h

def Made (g:Nat) (xs:List Bs) (k:Nat) (w:World):Prop :=
 ∃ Y:Array Value,w.heap[g]? = some (.cells Y 9 (0,0))/\Y.size=xs.length/\∀ (j:Nat) (s:Bs),j<k->xs[j]? = some s->Y[j]? = some (str s)
theorem Made.cell {g:Nat} {xs:List Bs} {k:Nat} {w:World} (h:Made g xs k w) (hk:k<xs.length):(∃ u,w.cell? ⟨g,k,none⟩=some u)/\w.frozen? ⟨g,k,none⟩=false:=by
 obtain ⟨Y,hY,hs,_⟩:=h
 exact ⟨⟨Y[k]'(by omega),by simp [World.cell?,hY,show k<Y.size by omega]⟩,by simp [World.frozen?,hY]⟩
theorem Made.put {g:Nat} {xs:List Bs} {k:Nat} {w:World} (h:Made g xs k w) {s:Bs} (hk:xs[k]? = some s):Made g xs (k+1) (w.setCell ⟨g,k,none⟩ (str s)):=by
 obtain ⟨Y,hY,hs,hj⟩:=h
 refine ⟨Y.setIfInBounds k (str s),kO hY,by simp [hs],fun j s' hj' cz=>?_⟩
 have gH:=(List.getElem?_eq_some_iff.1 hk).1
 rcases Nat.lt_or_ge j k with h | h
 ·rw [Array.getElem?_setIfInBounds_ne (by omega)];exact hj j s' h cz
 ·obtain rfl:j=k:=by omega
  rw [hk] at cz;simp at cz;subst cz
  rw [Array.getElem?_setIfInBounds_self_of_lt (by omega)]

def markT (k:Nat):Bs:=109::dec k
def marksS (k n:Nat):List Value:=(List.range n).map fun i=>str (markT (k+i))
def marksI (k n:Nat):List Value:=(List.range n).map fun i:Nat=>Value.int .i64 ((k:Int)+(i:Int))
def p_ (k j:Nat) (O:Bs):Prop:=dec k=(if j=0 then [] else dec j)++O/\j<=k
theorem p_.next {k j:Nat} {O:Bs} (h:p_ k j O) (hj:0<j):p_ k (j / 10) ([qw (j % 10)]++O):=by
 obtain ⟨h1,h2⟩:=h
 refine ⟨?_,gX (Nat.div_le_self _ _) h2⟩
 rw [if_neg (by omega)] at h1
 rw [h1]
 by_cases h10:j<10
 ·rw [qV h10,Nat.div_eq_of_lt h10,Nat.mod_eq_of_lt h10];simp
 ·rw [vj h10,if_neg (by omega),List.append_assoc]
theorem p_.len {k j:Nat} {O:Bs} (h:p_ k j O) (hk:k<=100000000):O.length<=9:=by
 have:=jB 8 k (by omega)
 rw [h.1,List.length_append] at this
 omega
theorem p_.done {k:Nat} {O:Bs} (h:p_ k 0 O):dec k=O:=by have:=h.1;simpa using this
theorem Own.put1 {w:World} {e:TypeId} {g n c:Nat} {xs:List Value} (h:Own w e 1 (.slice (some ⟨g,0,none⟩) n c) n xs) (j:Nat) (u:Value):Own (w.setCell ⟨g,j,none⟩ u) e 1 (.slice (some ⟨g,0,none⟩) n c) n (xs.set j u):=by
 obtain ⟨hl,⟨h0,_⟩ | ⟨g',cap,cur,hv,h0,hg,mH,sH,hcs,cO⟩⟩:=h
 ·cases h0
 ·simp only [Value.slice.injEq,Option.some.injEq,Addr.mk.injEq] at hv
  obtain ⟨⟨rfl,_,_⟩,_,rfl⟩:=hv
  refine ⟨by simpa using hl,.inr ⟨g,c,cur.setIfInBounds j u,rfl,h0,kO hg,mH,sH,by simpa using hcs,?_⟩⟩
  rw [Array.toList_setIfInBounds,<- cO,List.take_set]
section
variable {P:Program} {ops:Array Oper} {Q:Exit->Act->World->Prop} {md:Region.Mode}
end
def Res (B:Nat) (tag:Nat->Nat) (t:Nat) (w:World) (e:TypeId) (v:Value) (n:Nat) (xs:List Value):Prop :=
 Own w e 1 v n xs/\∀ g,v.ownBlock=some g->tag g=t/\B<=g
def xe (tag:Nat->Nat) (g t:Nat):Nat->Nat:=fun i=>if i=g then t else tag i
theorem Res.alloc {B:Nat} {tag:Nat->Nat} {t:Nat} {w:World} {e:TypeId} {v:Value} {n:Nat} {xs:List Value} (h:Res B tag t w e v n xs) (o:Obj) (t':Nat):Res B (xe tag w.heap.size t') t (w.alloc o) e v n xs :=
 ⟨h.1.alloc o,fun g hg=>⟨by have:=h.1.lt hg;unfold xe;rw [if_neg (by omega)];exact (h.2 g hg).1,(h.2 g hg).2⟩⟩
theorem Res.but {B:Nat} {tag:Nat->Nat} {t:Nat} {w w':World} {e:TypeId} {v:Value} {n:Nat} {xs:List Value} (h:Res B tag t w e v n xs) {m:Nat->Prop} (hb:But m w w') (hm:∀ g,m g->tag g≠t) (t':Nat):Res B (xe tag w.heap.size t') t w' e v n xs :=
 ⟨h.1.keep fun g o hg ho=>by rw [hb.block g (zZ ho) (fun hmg=>hm g hmg (h.2 g hg).1)];exact ho,fun g hg=>⟨by have:=h.1.lt hg;unfold xe;rw [if_neg (by omega)];exact (h.2 g hg).1,(h.2 g hg).2⟩⟩
theorem Res.lit {B:Nat} (tag:Nat->Nat) (t:Nat) {w:World} (hB:B<=w.heap.size) (e:TypeId) (cs:Array Value) (n:Nat) (hm:n<=maxLen) (hs:cs.size=n):Res B (xe tag w.heap.size t) t (w.alloc (.cells cs e)) e (.slice (some ⟨w.heap.size,0,none⟩) n n) n cs.toList :=
 ⟨Own.lit cs n hm (by omega),fun g hg=>by
  simp [Value.ownBlock] at hg;subst hg
  exact ⟨by unfold xe;rw [if_pos rfl],hB⟩⟩
structure xw (B:Nat) (tag:Nat->Nat) (t1 t2:Nat) (e:TypeId) (n:Nat) (xs:List Value) (u:Value) (A C A' C':Bool) (vA vC vA' vC':Value) (w:World):Prop where
 a:A=true->C=false->(∃ g,vA=.slice (some ⟨g,0,none⟩) 0 0)/\Res B tag t1 w e vA 0 []
 c:C=true->C'=false->Res B tag t1 w e vC n xs
 a':A'=true->C'=false->(∃ g,vA'=.slice (some ⟨g,0,none⟩) 1 1)/\Res B tag t2 w e vA' 1 [u]
 c':C'=true->Res B tag t1 w e vC' (n+1) (xs++[u])
 cl:C'=true->C=true
section
variable {B:Nat} {tag:Nat->Nat} {t1 t2:Nat} {e:TypeId} {n:Nat} {xs:List Value} {u:Value} {A C A' C':Bool} {vA vC vA' vC':Value} {w:World}
theorem xw.alloc (h:xw B tag t1 t2 e n xs u A C A' C' vA vC vA' vC' w) (o:Obj) (t':Nat):xw B (xe tag w.heap.size t') t1 t2 e n xs u A C A' C' vA vC vA' vC' (w.alloc o) :=
 ⟨fun h1 h2=>⟨(h.a h1 h2).1,(h.a h1 h2).2.alloc o t'⟩,fun h1 h2=>(h.c h1 h2).alloc o t',fun h1 h2=>⟨(h.a' h1 h2).1,(h.a' h1 h2).2.alloc o t'⟩,fun h1=>(h.c' h1).alloc o t',h.cl⟩
theorem xw.but (h:xw B tag t1 t2 e n xs u A C A' C' vA vC vA' vC' w) {w':World} {m:Nat->Prop} (hb:But m w w') (hm:∀ g,m g->tag g≠t1/\tag g≠t2) (t':Nat):xw B (xe tag w.heap.size t') t1 t2 e n xs u A C A' C' vA vC vA' vC' w' :=
 ⟨fun h1 h2=>⟨(h.a h1 h2).1,(h.a h1 h2).2.but hb (fun g k=>(hm g k).1) t'⟩,fun h1 h2=>(h.c h1 h2).but hb (fun g k=>(hm g k).1) t',fun h1 h2=>⟨(h.a' h1 h2).1,(h.a' h1 h2).2.but hb (fun g k=>(hm g k).2) t'⟩,fun h1=>(h.c' h1).but hb (fun g k=>(hm g k).1) t',h.cl⟩
end
theorem Tryz.infoInt2:(Tryz.prog.info? 3).map (fun i=>(i.zero,i.size,i.bytes))=some (some (.int .i64 0),1,8):=by kernel_rfl
def RnK (w:World) (ra:Nat) (mv pt:Value) (moves most:Nat) (bad:Bool):Prop:=w.heap[ra]? = some (.cells #[mv,pt,.int .i64 (moves:Nat),.int .i64 (most:Nat),.bool true,.bool bad] 80 (0,0))
theorem RnK.cells {w:World} {ra:Nat} {mv pt:Value} {moves most:Nat} {bad:Bool} (h:RnK w ra mv pt moves most bad):w.cell? ⟨ra,0,none⟩=some mv/\w.cell? ⟨ra,1,none⟩=some pt/\w.cell? ⟨ra,2,none⟩=some (.int .i64 (moves:Nat))/\w.cell? ⟨ra,3,none⟩=some (.int .i64 (most:Nat))/\w.cell? ⟨ra,4,none⟩=some (.bool true)/\w.cell? ⟨ra,5,none⟩=some (.bool bad) /\
 w.frozen? ⟨ra,0,none⟩=false/\w.frozen? ⟨ra,1,none⟩=false/\w.frozen? ⟨ra,2,none⟩=false/\w.frozen? ⟨ra,5,none⟩=false:=by
 unfold RnK at h
 exact ⟨by simp [World.cell?,h],by simp [World.cell?,h],by simp [World.cell?,h],by simp [World.cell?,h],by simp [World.cell?,h],by simp [World.cell?,h],by simp [World.frozen?,h],by simp [World.frozen?,h],by simp [World.frozen?,h],by simp [World.frozen?,h]⟩
def kG (w:World) (log:List (Bs×Int)) (mv pt:Value):Prop:=Own w 9 1 mv log.length (ju log)/\Own w 3 1 pt log.length (jv log)
theorem kG.below {w w':World} {log:List (Bs×Int)} {mv pt:Value} (h:kG w log mv pt) (hb:Below w.heap.size w w'):kG w' log mv pt :=
 ⟨h.1.keep fun g o hg ho=>by rw [hb.block g (zZ ho)];exact ho,h.2.keep fun g o hg ho=>by rw [hb.block g (zZ ho)];exact ho⟩
theorem kG.but {w w':World} {log:List (Bs×Int)} {mv pt:Value} {m:Nat->Prop} (h:kG w log mv pt) (hb:But m w w') (hm:∀ g,mv.ownBlock=some g\/pt.ownBlock=some g->¬ m g):kG w' log mv pt :=
 ⟨h.1.keep fun g o hg ho=>by rw [hb.block g (zZ ho) (hm g (.inl hg))];exact ho,h.2.keep fun g o hg ho=>by rw [hb.block g (zZ ho) (hm g (.inr hg))];exact ho⟩
theorem Own.unlike {w:World} {e e':TypeId} {v v':Value} {n n':Nat} {xs ys:List Value} (h:Own w e 1 v n xs) (h':Own w e' 1 v' n' ys) (he:e≠e') {g:Nat} (hg:v.ownBlock=some g):v'.ownBlock≠some g:=by
 intro gf
 rcases h.2 with ⟨rfl,_⟩ | ⟨b,cap,cur,rfl,_,hb,_⟩
 ·simp [Value.ownBlock] at hg
 ·rcases h'.2 with ⟨rfl,_⟩ | ⟨b',cap',cur',rfl,_,gu,_⟩
  ·simp [Value.ownBlock] at gf
  ·simp [Value.ownBlock] at hg gf
   subst hg;subst gf
   rw [hb] at gu
   simp at gu
   exact he gu.2
theorem wo (w:World):kG w [] (.slice none 0 0) (.slice none 0 0):=⟨World.ownsRow_nil w 0 _ 1,World.ownsRow_nil w 0 _ 1⟩
def MarkAt (w:World) (n k:Nat) (mv pt:Value):Prop:=Own w 9 1 mv n (marksS k n)/\Own w 3 1 pt n (marksI (k+n) n)
theorem MarkAt.below {w w':World} {n k:Nat} {mv pt:Value} (h:MarkAt w n k mv pt) (hb:Below w.heap.size w w'):MarkAt w' n k mv pt :=
 ⟨h.1.keep fun g o hg ho=>by rw [hb.block g (zZ ho)];exact ho,h.2.keep fun g o hg ho=>by rw [hb.block g (zZ ho)];exact ho⟩
def plC (us:List (Value×Value)):List Value:=us.flatMap fun u=>[u.1,u.2]
theorem yg (u:Value×Value) (us:List (Value×Value)):plC (u::us)=u.1::u.2::plC us:=by simp [plC]
theorem j0 (us vs:List (Value×Value)):plC (us++vs)=plC us++plC vs:=by simp [plC]
theorem pJ:∀ us:List (Value×Value),(plC us).length=us.length*2
 | []=>rfl
 | u::us=>by rw [yg,List.length_cons,List.length_cons,pJ us,List.length_cons];omega
theorem plC_at:∀ (us:List (Value×Value)) (i:Nat) (u:Value×Value),us[i]? = some u->(plC us)[i*2]? = some u.1/\(plC us)[i*2+1]? = some u.2
 | [],i,u,h=>by simp at h
 | v::us,0,u,h=>by obtain rfl:v=u:=by simpa using h
                   rw [yg];exact ⟨rfl,rfl⟩
 | v::us,i+1,u,h=>by
   rw [List.getElem?_cons_succ] at h
   have:=plC_at us i u h
   rw [yg,show (i+1)*2=i*2+1+1 from by omega]
   simpa using this
theorem Own.unlikeG {w:World} {e e':TypeId} {sz sz':Nat} {v v':Value} {n n':Nat} {xs ys:List Value} (h:Own w e sz v n xs) (h':Own w e' sz' v' n' ys) (he:e≠e') {g:Nat} (hg:v.ownBlock=some g):v'.ownBlock≠some g:=by
 intro gf
 rcases h.2 with ⟨rfl,_⟩ | ⟨b,cap,cur,rfl,_,hb,_⟩
 ·simp [Value.ownBlock] at hg
 ·rcases h'.2 with ⟨rfl,_⟩ | ⟨b',cap',cur',rfl,_,gu,_⟩
  ·simp [Value.ownBlock] at gf
  ·simp [Value.ownBlock] at hg gf
   subst hg;subst gf
   rw [hb] at gu
   simp at gu
   exact he gu.2
theorem uR:(9:TypeId)≠33:=by decide
theorem y6:(3:TypeId)≠33:=by decide
theorem str_int:(9:TypeId)≠3:=by decide
abbrev wV:=List (List Value×List Value)
structure jh (w:World) (v:Value) (us:List (Value×Value)) (xs:wV):Prop where
 own:Own w 33 2 v us.length (plC us)
 len:us.length=xs.length
 each:∀ (i:Nat) (u:Value×Value) (x:List Value×List Value),us[i]? = some u->xs[i]? = some x->Own w 9 1 u.1 x.1.length x.1/\Own w 3 1 u.2 x.2.length x.2
 apart:∀ (i j:Nat) (u u':Value×Value),i≠j->us[i]? = some u->us[j]? = some u'->∀ g,(u.1.ownBlock=some g->u'.1.ownBlock≠some g)/\(u.2.ownBlock=some g->u'.2.ownBlock≠some g)
def PlB (v:Value) (us:List (Value×Value)) (b:Nat):Prop:=v.ownBlock=some b\/∃ u∈us,u.1.ownBlock=some b\/u.2.ownBlock=some b
theorem jh.mem {w:World} {v:Value} {us:List (Value×Value)} {xs:wV} (h:jh w v us xs) {u:Value×Value} (hu:u∈us):∃ (i:Nat) (x:List Value×List Value),us[i]? = some u/\xs[i]? = some x:=by
 obtain ⟨i,hi⟩:=List.mem_iff_getElem?.1 hu
 have hl:=(List.getElem?_eq_some_iff.1 hi).1
 rw [h.len] at hl
 exact ⟨i,xs[i],hi,List.getElem?_eq_getElem hl⟩
theorem jh.lt {w:World} {v:Value} {us:List (Value×Value)} {xs:wV} (h:jh w v us xs) {b:Nat} (hb:PlB v us b):b<w.heap.size:=by
 rcases hb with hb | ⟨u,hu,hb⟩
 ·exact h.own.lt hb
 ·obtain ⟨i,x,h1,h2⟩:=h.mem hu
  rcases hb with hb | hb
  ·exact (h.each i u x h1 h2).1.lt hb
  ·exact (h.each i u x h1 h2).2.lt hb
theorem jh.but {w w':World} {v:Value} {us:List (Value×Value)} {xs:wV} {m:Nat->Prop} (h:jh w v us xs) (hb:But m w w') (hm:∀ b,PlB v us b->¬ m b):jh w' v us xs :=
 ⟨h.own.keep fun g o hg ho=>by rw [hb.block g (zZ ho) (hm g (.inl hg))];exact ho,h.len,
  fun i u x h1 h2=>by
   have hu:=List.mem_of_getElem? h1
   obtain ⟨k1,k2⟩:=h.each i u x h1 h2
   exact ⟨k1.keep fun g o hg ho=>by rw [hb.block g (zZ ho) (hm g (.inr ⟨u,hu,.inl hg⟩))];exact ho,k2.keep fun g o hg ho=>by rw [hb.block g (zZ ho) (hm g (.inr ⟨u,hu,.inr hg⟩))];exact ho⟩,h.apart⟩
theorem jh.below {w w':World} {v:Value} {us:List (Value×Value)} {xs:wV} (h:jh w v us xs) (hb:Below w.heap.size w w'):jh w' v us xs :=
 h.but (m:=fun _=>False) (But.ofBelow hb) fun _ _ h=>h
theorem jh.nil (w:World):jh w (.slice none 0 0) [] [] :=
 ⟨World.ownsRow_nil w 0 _ 2,rfl,fun i u x h=>by simp at h,fun i j u u' _ h=>by simp at h⟩
theorem jh.snoc {w w':World} {v v':Value} {us:List (Value×Value)} {xs:wV} (h:jh w v us xs) {u:Value×Value} {x:List Value×List Value}
 (ho:Own w' 33 2 v' (us.length+1) (plC us++[u.1,u.2])) (hb:But (fun b=>v.ownBlock=some b) w w')
 (h1:Own w 9 1 u.1 x.1.length x.1) (h2:Own w 3 1 u.2 x.2.length x.2)
 (hf:∀ (g:Nat),u.1.ownBlock=some g\/u.2.ownBlock=some g->¬ PlB v us g):jh w' v' (us++[u]) (xs++[x]):=by
 have key:∀ {e:TypeId} {n:Nat} {r:Value} {ys:List Value},Own w e 1 r n ys->(∀ g,r.ownBlock=some g->v.ownBlock≠some g)->Own w' e 1 r n ys:=fun h gN =>
  h.keep fun g o hg ho=>by rw [hb.block g (zZ ho) (fun e=>gN g hg e)];exact ho
 refine ⟨by rw [List.length_append,List.length_singleton,j0];exact ho,by rw [List.length_append,List.length_append,h.len];rfl,fun i u' x' hu hx=>?_,fun i j a b ml ha gu g=>?_⟩
 ·rcases Nat.lt_or_ge i us.length with hi | hi
  ·rw [List.getElem?_append_left hi] at hu
   rw [List.getElem?_append_left (by rw [<- h.len];exact hi)] at hx
   obtain ⟨k1,k2⟩:=h.each i u' x' hu hx
   exact ⟨key k1 (fun g hg=>k1.unlikeG h.own uR hg),key k2 (fun g hg=>k2.unlikeG h.own y6 hg)⟩
  ·rw [List.getElem?_append_right hi] at hu
   rw [List.getElem?_append_right (by rw [<- h.len];exact hi),<- h.len] at hx
   have hi0:i-us.length=0:=by have:=(List.getElem?_eq_some_iff.1 hu).1;simp at this;omega
   rw [hi0] at hu hx
   obtain rfl:u=u':=by simpa using hu
   obtain rfl:x=x':=by simpa using hx
   exact ⟨key h1 (fun g hg=>h1.unlikeG h.own uR hg),key h2 (fun g hg=>h2.unlikeG h.own y6 hg)⟩
 ·have last:∀ {k:Nat} {c:Value×Value},(us++[u])[k]? = some c->(us[k]? = some c/\k<us.length)\/(c=u/\k=us.length):=by
   intro k c hc
   rcases Nat.lt_or_ge k us.length with hk | hk
   ·rw [List.getElem?_append_left hk] at hc;exact .inl ⟨hc,hk⟩
   ·rw [List.getElem?_append_right hk] at hc
    have hi0:k-us.length=0:=by have:=(List.getElem?_eq_some_iff.1 hc).1;simp at this;omega
    rw [hi0] at hc
    exact .inr ⟨by simpa using hc.symm,by omega⟩
  rcases last ha with ⟨ka,hia⟩ | ⟨ea,hia⟩
  ·rcases last gu with ⟨kb,hjb⟩ | ⟨eb,hjb⟩
   ·exact h.apart i j a b ml ka kb g
   ·have hm:=List.mem_of_getElem? ka
    rw [eb]
    exact ⟨fun e1 e2=>hf g (.inl e2) (.inr ⟨a,hm,.inl e1⟩),fun e1 e2=>hf g (.inr e2) (.inr ⟨a,hm,.inr e1⟩)⟩
  ·rcases last gu with ⟨kb,hjb⟩ | ⟨eb,hjb⟩
   ·have hm:=List.mem_of_getElem? kb
    rw [ea]
    exact ⟨fun e1 e2=>hf g (.inl e1) (.inr ⟨b,hm,.inl e2⟩),fun e1 e2=>hf g (.inr e1) (.inr ⟨b,hm,.inr e2⟩)⟩
   ·omega
theorem PlB.snoc {v v':Value} {us:List (Value×Value)} {u:Value×Value} {b:Nat} (h:PlB v' (us++[u]) b):v'.ownBlock=some b\/PlB v us b\/u.1.ownBlock=some b\/u.2.ownBlock=some b:=by
 rcases h with h | ⟨c,hc,h⟩
 ·exact .inl h
 ·rcases List.mem_append.1 hc with hc | hc
  ·exact .inr (.inl (.inr ⟨c,hc,h⟩))
  ·simp at hc;subst hc;exact .inr (.inr h)
def plX (l:Pl):List Value×List Value:=(ju l,jv l)
def jd (w:World) (L:List Pl) (v:Value) (us:List (Value×Value)):Prop:=jh w v us (L.map plX)
theorem jd.play {w:World} {L:List Pl} {v:Value} {us:List (Value×Value)} (h:jd w L v us) {i:Nat} {u:Value×Value} {l:Pl} (hu:us[i]? = some u) (hl:L[i]? = some l):kG w l u.1 u.2:=by
 have:=h.each i u (plX l) hu (by rw [List.getElem?_map,hl];rfl)
 simpa [plX,kG,ju,jv] using this
theorem jd.length {w:World} {L:List Pl} {v:Value} {us:List (Value×Value)} (h:jd w L v us):us.length=L.length:=by have:=h.len;rwa [List.length_map] at this
end Go.Proofs.YtfedjhgaeikjmaaGreatDoor

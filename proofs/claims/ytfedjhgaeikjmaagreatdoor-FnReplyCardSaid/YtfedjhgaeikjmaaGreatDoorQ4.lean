/- Walks of functions that the statement reaches, and plain words. No conditions. -/
import Derived.Deep.Cut
import Derived.StillTailTactics
import Derived.BigRegion
import Derived.Outline
import Derived.Laws.IdiomStrings
import Derived.Deep.DeepCutAuto
import Derived.Laws.MakeOwn
import Derived.RegionTactic
import Derived.Test.YtfedjhgaeikjmaaGreatDoorQ3
set_option linter.unusedVariables false
set_option linter.unusedSimpArgs false
set_option maxHeartbeats 4000000
namespace Go.Proofs.YtfedjhgaeikjmaaGreatDoor
open Go.RowKit
def atT (t:Ty):Bs->Option Ty
 | []=>some t
 | c::p=>if 48<=c.toNat then (match t.args[c.toNat-48]? with | some a=>atT a p | none=>none) else none
theorem jk (t:Ty):atT t []=some t:=by cases t;rfl
theorem uF (t:Ty) (c:UInt8) (p:Bs):atT t (c::p)=if 48<=c.toNat then (match t.args[c.toNat-48]? with | some a=>atT a p | none=>none) else none:=by rw [atT]
theorem jo:∀ (p q:Bs) (t:Ty),atT t (p++q)=(atT t p).bind fun a=>atT a q
 | [],q,t=>by rw [jk];rfl
 | c::p,q,t=>by
   rw [List.cons_append,uF,uF]
   split
   ·cases h:t.args[c.toNat-48]? with
    | none=>rfl
    | some a=>exact jo p q a
   ·rfl
theorem uC {j:Nat} (h:j<10):(qo j).toNat=48+j:=jQ h
theorem atT_digit (t:Ty) {j:Nat} (h:j<10):atT t [qo j]=t.args[j]?:=by
 rw [uF,uC h,if_pos (by omega),show 48+j-48=j from by omega]
 cases t.args[j]? with
 | none=>rfl
 | some a=>exact jk a
theorem xR {t a:Ty} {j:Nat} (h:t.args[j]? = some a):zP a+2<=zP t:=by
 have h1:=uw h
 have h2:=vY t.args (j+1)
 rw [qE t]
 omega
theorem kt (t:Ty):2*t.args.length+1<=zP t:=by
 rw [qE t]
 have:∀ ts:List Ty,2*ts.length<=zu ts:=by
  intro ts
  induction ts with
  | nil=>simp
  | cons u us ih =>
    have:=jn u
    rw [show u::us=[u]++us from rfl,vh]
    have e:zu [u]=1+zP u:=by simp [zu]
    rw [e,List.length_append,List.length_singleton];omega
 have:=this t.args
 omega
theorem qH:∀ (p:Bs) (t a:Ty),atT t p=some a->2*p.length+zP a<=zP t
 | [],t,a,h=>by rw [jk] at h;obtain rfl:=Option.some.inj h;simp
 | c::p,t,a,h=>by
   rw [uF] at h
   split at h
   ·cases hq:t.args[c.toNat-48]? with
    | none=>rw [hq] at h;simp at h
    | some b =>
      rw [hq] at h
      have h1:=qH p b a h
      have h2:=xR hq
      rw [List.length_cons];omega
   ·simp at h
def v7 {α:Type}:List (Option (List α))->Option (List α)
 | []=>some []
 | o::os=>o.bind fun a=>(v7 os).map (a ++ ·)
theorem x9 {α:Type}:∀ (xs ys:List (Option (List α))),v7 (xs++ys)=(v7 xs).bind fun a=>(v7 ys).map (a ++ ·)
 | [],ys=>by
   simp only [List.nil_append,v7,Option.bind_some]
   cases v7 ys <;> simp
 | o::os,ys=>by
   simp only [List.cons_append,v7,x9 os ys]
   cases o with
   | none=>rfl
   | some a =>
     cases v7 os with
     | none=>rfl
     | some b =>
       cases v7 ys with
       | none=>rfl
       | some c=>simp
abbrev Pl:=List (Bs×Int)
abbrev zc:=Nat×Bs
def zh (many begin:Nat) (path:Bs):List zc:=(List.range many).map fun i=>(begin,path++dec i)
theorem zl (m b:Nat) (p:Bs):(zh m b p).length=m:=by simp [zh]
theorem ve {m b j:Nat} {p:Bs} (h:j<m):(zh m b p)[j]? = some (b,p++dec j):=by simp [zh,h]
theorem placesOf_succ (m b:Nat) (p:Bs):zh (m+1) b p=zh m b p++[(b,p++dec m)]:=by simp [zh,List.range_succ]
def jV (t:Ty) (p:Bs):Nat:=match atT t p with | some a=>a.args.length | none=>0
def pX (c:UInt8) (v:Pl) (path:Bs) (n:Nat):Pl:=v++[(c::path,(n:Int))]
mutual
def vR (t:Ty):Bd->List zc->zc->Pl->Option (List Pl)
 | .leaf c,_,bg,v=>if c=117 then some [] else if 60<=v.length then none else some [pX c v bg.2 bg.1]
 | .ask l ss y n,lv,bg,v=>if 59<=v.length then none else
  (v7 (xI t ss 0 (lv.getD l (0,[])).2 v.length lv (pX 113 v (lv.getD l (0,[])).2 (lv.getD l (0,[])).1) ++
   [vR t y lv bg (pX 116 (pX 113 v (lv.getD l (0,[])).2 (lv.getD l (0,[])).1) (lv.getD l (0,[])).2 v.length),
    vR t n lv bg (pX 102 (pX 113 v (lv.getD l (0,[])).2 (lv.getD l (0,[])).1) (lv.getD l (0,[])).2 v.length)])).map
   (pX 113 v (lv.getD l (0,[])).2 (lv.getD l (0,[])).1 :: ·)
def xI (t:Ty):List Bd->Nat->Bs->Nat->List zc->Pl->List (Option (List Pl))
 | [],_,_,_,_,_=>[]
 | s::ss,j,path,k,lv,asked =>
   vR t s (lv++zh (jV t (path++dec j)) (k+1) (path++dec j)) (k+1,path++dec j) (pX 113 asked (path++dec j) k)::xI t ss (j+1) path k lv asked
end
mutual
theorem jY (t:Ty):∀ (b:Bd) (lv:List zc) (bg:zc) (v:Pl) (out:List Pl),vR t b lv bg v=some out->out.length<=zg b
 | .leaf c,lv,bg,v,out,h=>by
   rw [vR] at h
   split at h
   ·obtain rfl:=Option.some.inj h;simp
   ·split at h
    ·simp at h
    ·obtain rfl:=Option.some.inj h;simp [zg]
 | .ask l ss y n,lv,bg,v,out,h=>by
   rw [vR] at h
   split at h
   ·simp at h
   ·rw [x9] at h
    simp only [v7,Option.map_eq_some_iff,Option.bind_eq_some_iff] at h
    obtain ⟨_,⟨a,ha,_,⟨b,hb,_,⟨c,hc,_,h0,rfl⟩,rfl⟩,rfl⟩,rfl⟩:=h
    obtain rfl:=Option.some.inj h0
    have h1:=xK t ss _ _ _ _ _ a ha
    have h2:=jY t y _ _ _ b hb
    have h3:=jY t n _ _ _ c hc
    rw [zg]
    simp only [List.length_cons,List.length_append,List.length_nil];omega
theorem xK (t:Ty):∀ (ss:List Bd) (j:Nat) (path:Bs) (k:Nat) (lv:List zc) (asked:Pl) (out:List Pl),v7 (xI t ss j path k lv asked)=some out->out.length<=zL ss
 | [],_,_,_,_,_,out,h=>by rw [xI,v7] at h;obtain rfl:=Option.some.inj h;simp
 | s::ss,j,path,k,lv,asked,out,h=>by
   rw [xI,v7] at h
   simp only [Option.map_eq_some_iff,Option.bind_eq_some_iff] at h
   obtain ⟨a,ha,b,hb,rfl⟩:=h
   have h1:=jY t s _ _ _ a ha
   have h2:=xK t ss _ _ _ _ _ b hb
   rw [zL,List.length_append];omega
end
structure xU (t:Ty) (lv:List zc) (hand:List Ty) (n:Nat):Prop where
 len:lv.length=hand.length
 each:∀ (i:Nat) (a:Ty),hand[i]? = some a->∃ pl,lv[i]? = some pl/\atT t pl.2=some a/\pl.1<n
theorem xU.kid {t:Ty} {lv:List zc} {hand:List Ty} {n m k:Nat} (h:xU t lv hand n) (s9:n<=m) (hk:k<m) {p:Bs} {a:Ty} (ha:atT t p=some a) (h10:a.args.length<=10) :
 xU t (lv++zh a.args.length k p) (hand++a.args) m:=by
 refine ⟨by rw [List.length_append,List.length_append,zl,h.len],fun i b hb=>?_⟩
 rcases Nat.lt_or_ge i hand.length with hi | hi
 ·rw [List.getElem?_append_left hi] at hb
  obtain ⟨pl,h1,h2,h3⟩:=h.each i b hb
  exact ⟨pl,by rw [List.getElem?_append_left (by rw [h.len];exact hi)];exact h1,h2,by omega⟩
 ·rw [List.getElem?_append_right hi] at hb
  have cQ:=(List.getElem?_eq_some_iff.1 hb).1
  refine ⟨(k,p++dec (i-hand.length)),?_,?_,hk⟩
  ·rw [List.getElem?_append_right (by rw [h.len];exact hi),h.len,ve cQ]
  ·show atT t (p++dec (i-hand.length))=some b
   rw [jo,ha,Option.bind_some,qD (by omega),atT_digit _ (by omega)];exact hb
theorem xU.mono {t:Ty} {lv:List zc} {hand:List Ty} {n m:Nat} (h:xU t lv hand n) (s9:n<=m):xU t lv hand m :=
 ⟨h.len,fun i a ha=>by obtain ⟨pl,h1,h2,h3⟩:=h.each i a ha;exact ⟨pl,h1,h2,by omega⟩⟩
structure yO (lv:List zc) (bg:zc) (v:Pl) (begun args:List Nat) (opens:Nat):Prop where
 lb:begun.length=lv.length
 la:args.length=lv.length
 each:∀ (i:Nat) (pl:zc),lv[i]? = some pl->∃ j m z,begun[i]? = some pl.1/\args[i]? = some j/\v[pl.1]? = some (113::m,z)/\pl.2=m++dec j/\j<10
 bg:bg.1=opens/\∃ c z,v[opens]? = some (c::bg.2,z)
theorem yO.more {lv:List zc} {bg:zc} {v:Pl} {begun args:List Nat} {opens:Nat} (h:yO lv bg v begun args opens) (xs:Pl):yO lv bg (v++xs) begun args opens:=by
 have key:∀ (i:Nat) (x:Bs×Int),v[i]? = some x->(v++xs)[i]? = some x:=fun i x hx=>by
  rw [List.getElem?_append_left (List.getElem?_eq_some_iff.1 hx).1];exact hx
 refine ⟨h.lb,h.la,fun i pl hi=>?_,h.bg.1,?_⟩
 ·obtain ⟨j,m,z,h1,h2,h3,h4⟩:=h.each i pl hi
  exact ⟨j,m,z,h1,h2,key _ _ h3,h4⟩
 ·obtain ⟨c,z,hc⟩:=h.bg.2
  exact ⟨c,z,key _ _ hc⟩
theorem yO.kid {lv:List zc} {bg:zc} {v:Pl} {begun args:List Nat} {opens:Nat} (h:yO lv bg v begun args opens) (many k:Nat) (p:Bs) (h10:many<=10) {z:Int} (hk:v[k]? = some (113::p,z)) :
 yO (lv++zh many k p) (k,p) v (begun++List.replicate many k) (args++List.range many) k:=by
 refine ⟨by simp [h.lb,zl],by simp [h.la,zl],fun i pl hi=>?_,rfl,113,z,hk⟩
 rcases Nat.lt_or_ge i lv.length with cQ | lF
 ·rw [List.getElem?_append_left cQ] at hi
  obtain ⟨j,m,z',h1,h2,h3,h4⟩:=h.each i pl hi
  exact ⟨j,m,z',by rw [List.getElem?_append_left (by rw [h.lb];exact cQ)];exact h1,by rw [List.getElem?_append_left (by rw [h.la];exact cQ)];exact h2,h3,h4⟩
 ·rw [List.getElem?_append_right lF] at hi
  have hl:=(List.getElem?_eq_some_iff.1 hi).1
  rw [zl] at hl
  rw [ve hl] at hi
  obtain rfl:=Option.some.inj hi
  refine ⟨i-lv.length,p,z,?_,?_,hk,rfl,by omega⟩
  ·rw [List.getElem?_append_right (by rw [h.lb];exact lF),h.lb];simp [hl]
  ·rw [List.getElem?_append_right (by rw [h.la];exact lF),h.la];simp [hl]
inductive AnsAt (t:Ty) (ss:List Bd) (y n:Bd) (p:Bs) (k:Nat) (lv:List zc) (bg:zc) (asked:Pl) (j:Nat):Bs->Option (List Pl)->Prop
 | kid (s:Bd) (h:ss[j]? = some s):AnsAt t ss y n p k lv bg asked j (113::(p++dec j)) (vR t s (lv++zh (jV t (p++dec j)) (k+1) (p++dec j)) (k+1,p++dec j) (asked++[(113::(p++dec j),(k:Int))]))
 | yes (h:j=ss.length):AnsAt t ss y n p k lv bg asked j (116::p) (vR t y lv bg (asked++[(116::p,(k:Int))]))
 | no (h:j=ss.length+1):AnsAt t ss y n p k lv bg asked j (102::p) (vR t n lv bg (asked++[(102::p,(k:Int))]))
def szAll (ss:List Bd) (y n:Bd):List Nat:=ss.map zg++[zg y,zg n]
theorem AnsAt.size {t:Ty} {ss:List Bd} {y n:Bd} {p:Bs} {k:Nat} {lv:List zc} {bg:zc} {asked:Pl} {j:Nat} {M:Bs} {o:Option (List Pl)} (h:AnsAt t ss y n p k lv bg asked j M o) :
 ∃ z,(szAll ss y n)[j]? = some z/\∀ out,o=some out->out.length<=z:=by
 cases h with
 | kid s h =>
   have hj:=(List.getElem?_eq_some_iff.1 h).1
   refine ⟨zg s,?_,fun out ho=>jY t s _ _ _ out ho⟩
   rw [szAll,List.getElem?_append_left (by rw [List.length_map];exact hj),List.getElem?_map,h];rfl
 | yes h =>
   subst h
   refine ⟨zg y,?_,fun out ho=>jY t y _ _ _ out ho⟩
   rw [szAll,List.getElem?_append_right (by rw [List.length_map];omega),List.length_map,Nat.sub_self];rfl
 | no h =>
   subst h
   refine ⟨zg n,?_,fun out ho=>jY t n _ _ _ out ho⟩
   rw [szAll,List.getElem?_append_right (by rw [List.length_map];omega),List.length_map,Nat.add_sub_cancel_left];rfl
inductive Mn where
 | op (o:Nat) (t:Ty)
 | bd (t:Ty) (b:Bd) (env:List Mn)
structure Gf where
 yes:Bd
 no:Bd
 env:List Mn
def opens:Nat->List Ty->List Mn
 | _,[]=>[]
 | n,t::ts=>.op n t::opens (n+1) ts
def owns (env:List Mn):List Ty->List Bd->List Mn
 | t::ts,s::ss=>.bd t s env::owns env ts ss
 | _,_=>[]
def evSubs (ev:Nat->Bd->List Mn->Nat->List Gf->Option (Bd×Nat)) (env:List Mn) (n:Nat):Nat->List Ty->List Bd->Option (List Bd×Nat)
 | l,t::ts,s::ss=>do
   let (x,l1)<-ev l s (env++opens n t.args) (n+t.args.length) []
   let (xs,l2)<-evSubs ev env n l1 ts ss
   some (x::xs,l2)
 | l,_,_=>some ([],l)
def ev:Nat->Nat->Bd->List Mn->Nat->List Gf->Option (Bd×Nat)
 | 0,_,_,_,_,_=>none
 | d+1,l,b,env,n,st=>match l with
   | 0=>none
   | l+1=>match b with
     | .leaf c=>if c=117 then some (.leaf c,l) else match st with
       | []=>some (.leaf c,l)
       | f::st'=>ev d l (if c=116 then f.yes else f.no) f.env n st'
     | .ask v ss y no=>match env[v]? with
       | none=>none
       | some (.bd t b' e)=>ev d l b' (e++owns env t.args ss) n (⟨y,no,env⟩::st)
       | some (.op o t)=>do
         let (xs,l1)<-evSubs (ev d) env n l t.args ss
         let (x,l2)<-ev d l1 y env n st
         let (z,l3)<-ev d l2 no env n st
         some (.ask o xs x z,l3)
def evSubsN (ev:Nat->Nat->Bd->List Mn->Nat->List Gf->Option (Bd×Nat×Nat)) (env:List Mn) (n:Nat):Nat->Nat->List Ty->List Bd->Option (List Bd×Nat×Nat)
 | k,l,t::ts,s::ss=>do
   let (x,k1,l1)<-ev k l s (env++opens n t.args) (n+t.args.length) []
   let (xs,k2,l2)<-evSubsN ev env n k1 l1 ts ss
   some (x::xs,k2,l2)
 | k,l,_,_=>some ([],k,l)
def evN:Nat->Nat->Nat->Bd->List Mn->Nat->List Gf->Option (Bd×Nat×Nat)
 | 0,_,_,_,_,_,_=>none
 | d+1,k,l,b,env,n,st=>match l with
   | 0=>none
   | l+1=>match k with
     | 0=>none
     | k+1=>match b with
       | .leaf c=>if c=117 then some (.leaf c,k,l) else match st with
         | []=>some (.leaf c,k,l)
         | f::st'=>evN d (k+1) l (if c=116 then f.yes else f.no) f.env n st'
       | .ask v ss y no=>match env[v]? with
         | none=>none
         | some (.bd t b' e)=>evN d (k+1) l b' (e++owns env t.args ss) n (⟨y,no,env⟩::st)
         | some (.op o t)=>do
           let (xs,k1,l1)<-evSubsN (evN d) env n k l t.args ss
           let (x,k2,l2)<-evN d k1 l1 y env n st
           let (z,k3,l3)<-evN d k2 l2 no env n st
           some (.ask o xs x z,k3,l3)
mutual
def yH (H:List Ty):Mn->Ty->Prop
 | .op o t,t'=>t=t'/\H[o]? = some t
 | .bd t b e,t'=>t=t'/\∃ h,kd H e h/\kE (h++t.args) b
def kd (H:List Ty):List Mn->List Ty->Prop
 | [],h=>h=[]
 | m::ms,h=>∃ t ts,h=t::ts/\yH H m t/\kd H ms ts
end
theorem mnFits_at {H:List Ty}:∀ (cs:List Mn) (h:List Ty),kd H cs h->∀ (i:Nat) (t:Ty),h[i]? = some t->∃ c,cs[i]? = some c/\yH H c t
 | [],h,k,i,c,hc=>by rw [kd] at k;subst k;simp at hc
 | c::cs,h,k,i,t',hc=>by
   rw [kd] at k
   obtain ⟨t,ts,rfl,k1,k2⟩:=k
   cases i with
   | zero=>simp at hc;subst hc;exact ⟨c,rfl,k1⟩
   | succ i=>simp at hc;simpa using mnFits_at cs ts k2 i t' hc
theorem uQ {H:List Ty}:∀ (xs bs:List Mn) (h k:List Ty),kd H xs h->kd H bs k->kd H (xs++bs) (h++k)
 | [],bs,h,k,h1,h2=>by rw [kd] at h1;subst h1;simpa using h2
 | a::xs,bs,h,k,h1,h2=>by
   rw [kd] at h1
   obtain ⟨t,ts,rfl,k1,k2⟩:=h1
   simp only [List.cons_append]
   rw [kd]
   exact ⟨t,ts++k,rfl,k1,uQ xs bs ts k k2 h2⟩
mutual
theorem mnFit_more {H X:List Ty}:∀ (m:Mn) (t:Ty),yH H m t->yH (H++X) m t
 | .op o t,t',h=>by
   rw [yH] at *
   exact ⟨h.1,by rw [List.getElem?_append_left (List.getElem?_eq_some_iff.1 h.2).1];exact h.2⟩
 | .bd t b e,t',h=>by
   rw [yH] at *
   obtain ⟨h1,k,h2,h3⟩:=h
   exact ⟨h1,k,yG e k h2,h3⟩
theorem yG {H X:List Ty}:∀ (ms:List Mn) (h:List Ty),kd H ms h->kd (H++X) ms h
 | [],h,k=>by rw [kd] at *;exact k
 | m::ms,h,k=>by
   rw [kd] at *
   obtain ⟨t,ts,rfl,k1,k2⟩:=k
   exact ⟨t,ts,rfl,mnFit_more m t k1,yG ms ts k2⟩
end
theorem opens_fit {H:List Ty}:∀ (ts:List Ty) (n:Nat),(∀ i t,ts[i]? = some t->H[n+i]? = some t)->kd H (opens n ts) ts
 | [],n,h=>by rw [opens,kd]
 | t::ts,n,h=>by
   rw [opens,kd]
   refine ⟨t,ts,rfl,?_,opens_fit ts (n+1) fun i t' hi=>?_⟩
   ·rw [yH];exact ⟨rfl,by have:=h 0 t rfl;simpa using this⟩
   ·have:=h (i+1) t' (by simpa using hi)
    rw [show n+1+i=n+(i+1) from by omega];exact this
theorem opens_fit_end (H:List Ty) (ts:List Ty):kd (H++ts) (opens H.length ts) ts :=
 opens_fit ts H.length fun i t h=>by rw [List.getElem?_append_right (by omega),Nat.add_sub_cancel_left];exact h
theorem owns_fit {H h:List Ty} {env:List Mn} (he:kd H env h):∀ (ts:List Ty) (ss:List Bd),km (kC h ts) ss->kd H (owns env ts ss) ts
 | [],ss,hf=>by
   rw [owns]
   ·rw [kd]
   ·intros;contradiction
 | t::ts,[],hf=>by
   rw [km] at hf;simp [kC] at hf
 | t::ts,s::ss,hf=>by
   rw [km] at hf
   obtain ⟨h',mR,e,h1,h2⟩:=hf
   simp only [kC,List.map_cons,List.cons.injEq] at e
   obtain ⟨rfl,rfl⟩:=e
   rw [owns,kd]
   refine ⟨t,ts,rfl,?_,owns_fit he ts ss h2⟩
   rw [yH]
   exact ⟨rfl,h,he,h1⟩
def gfFit (H:List Ty) (f:Gf):Prop:=∃ h,kd H f.env h/\kE h f.yes/\kE h f.no
structure xY (H:List Ty) (b:Bd) (env:List Mn) (st:List Gf):Prop where
 fit:∃ h,kd H env h/\kE h b
 frames:∀ f∈st,gfFit H f
theorem xY.ask {H:List Ty} {v:Nat} {ss:List Bd} {y no:Bd} {env:List Mn} {st:List Gf} (h:xY H (.ask v ss y no) env st) :
 ∃ m t hh,env[v]? = some m/\yH H m t/\kd H env hh/\km (kC hh t.args) ss/\kE hh y/\kE hh no:=by
 obtain ⟨⟨hh,h1,h2⟩,_⟩:=h
 rw [kE] at h2
 obtain ⟨t,k1,k2,k3,k4⟩:=h2
 obtain ⟨m,m1,m2⟩:=mnFits_at _ _ h1 v t k1
 exact ⟨m,t,hh,m1,m2,h1,k2,k3,k4⟩
theorem xY.call {H:List Ty} {v:Nat} {ss:List Bd} {y no:Bd} {env:List Mn} {st:List Gf} (h:xY H (.ask v ss y no) env st) {t:Ty} {b':Bd} {e:List Mn} (he:env[v]? = some (.bd t b' e)) :
 ss.length=t.args.length/\xY H b' (e++owns env t.args ss) (⟨y,no,env⟩::st):=by
 obtain ⟨m,t',hh,m1,m2,m3,m4,m5,m6⟩:=h.ask
 rw [he] at m1;simp at m1;subst m1
 rw [yH] at m2
 obtain ⟨rfl,k,k1,k2⟩:=m2
 refine ⟨?_,⟨k++t.args,uQ _ _ _ _ k1 (owns_fit m3 _ _ m4),k2⟩,fun f hf=>?_⟩
 ·have:=vD _ _ m4;rw [vB] at this;exact this.symm
 ·rcases List.mem_cons.1 hf with rfl | hf
  ·exact ⟨hh,m3,m5,m6⟩
  ·exact h.frames f hf
theorem xY.keep {H:List Ty} {v:Nat} {ss:List Bd} {y no:Bd} {env:List Mn} {st:List Gf} (h:xY H (.ask v ss y no) env st) {t:Ty} {o:Nat} (he:env[v]? = some (.op o t)) :
 ss.length=t.args.length/\H[o]? = some t/\(∀ (k:Nat) (a:Ty) (s:Bd),t.args[k]? = some a->ss[k]? = some s->xY (H++a.args) s (env++opens H.length a.args) [])/\xY H y env st/\xY H no env st:=by
 obtain ⟨m,t',hh,m1,m2,m3,m4,m5,m6⟩:=h.ask
 rw [he] at m1;simp at m1;subst m1
 rw [yH] at m2
 obtain ⟨rfl,k1⟩:=m2
 have hl:=vD _ _ m4
 rw [vB] at hl
 refine ⟨hl.symm,k1,fun k a s ha hs=>?_,⟨⟨hh,m3,m5⟩,h.frames⟩,⟨⟨hh,m3,m6⟩,h.frames⟩⟩
 obtain ⟨x,hx,hf⟩:=bY _ _ m4 k s hs
 have fj:x=hh++a.args:=by simp [kC,ha] at hx;exact hx.symm
 subst fj
 exact ⟨⟨hh++a.args,uQ _ _ _ _ (yG _ _ m3) (opens_fit_end H a.args),hf⟩,by simp⟩
mutual
def wfB:Bd->Prop
 | .leaf c=>c=116\/c=102\/c=117
 | .ask _ ss y n=>wfBs ss/\wfB y/\wfB n
def wfBs:List Bd->Prop
 | []=>True
 | b::bs=>wfB b/\wfBs bs
end
theorem wfBs_at:∀ (xs:List Bd),wfBs xs->∀ (k:Nat) (b:Bd),xs[k]? = some b->wfB b
 | [],_,k,b,h=>by simp at h
 | x::xs,hw,k,b,h=>by
   rw [wfBs] at hw
   cases k with
   | zero=>simp at h;subst h;exact hw.1
   | succ k=>exact wfBs_at xs hw.2 k b (by simpa using h)
theorem textB_ask (v:Nat) (ss:List Bd) (y n:Bd):qY (.ask v ss y n)=40::(dec v++(kh (ss++[y,n])++[41])):=by
 rw [qY,j0];simp [kh]
theorem yV {rd:RdS} {P:Bd->Prop} (h:∀ hand l b r,rd hand l=some (b,r)->P b):∀ (hs:List (List Ty)) (l:Bs) (ps:List Bd) (r:Bs),zY rd hs l=some (ps,r)->∀ p∈ps,P p
 | [],l,ps,r,hx=>by simp [zY] at hx;obtain ⟨rfl,_⟩:=hx;simp
 | a::hs,l,ps,r,hx=>by
   simp only [zY,kU,Option.bind_eq_bind,Option.bind_eq_some_iff,Prod.exists] at hx
   obtain ⟨b,l1,⟨l0,h0,h1⟩,bs,l2,h2,h3⟩:=hx
   simp at h3;obtain ⟨rfl,rfl⟩:=h3
   intro p hp
   rcases List.mem_cons.1 hp with rfl | hp
   ·exact h _ _ _ _ h1
   ·exact yV h hs l1 bs l2 h2 p hp
theorem bE {v n:Nat} {ps:List Bd} {b:Bd} (h:ur v n ps=some b):∃ ss y no,b=.ask v ss y no/\ps=ss++[y,no]:=by
 unfold ur at h
 split at h
 ·rename_i y no hd
  simp at h;subst h
  exact ⟨_,_,_,rfl,by rw [<- hd,List.take_append_drop]⟩
 ·simp at h
theorem wfBs_of:∀ (ps:List Bd),(∀ p∈ps,wfB p)->wfBs ps
 | [],_=>trivial
 | p::ps,h=>⟨h p (by simp),wfBs_of ps fun q hq=>h q (by simp [hq])⟩
theorem gD:∀ (xs ys:List Bd),wfBs (xs++ys)->wfBs xs/\wfBs ys
 | [],ys,h=>⟨trivial,h⟩
 | x::xs,ys,h=>by
   simp only [List.cons_append] at h;rw [wfBs] at h
   have:=gD xs ys h.2
   exact ⟨⟨h.1,this.1⟩,this.2⟩
theorem rdN_wf (e:Nat):∀ (hand:List Ty) (l:Bs) (b:Bd) (r:Bs),rdN e hand l=some (b,r)->wfB b/\vU b<e:=by
 induction e with
 | zero=>intro hand l b r h;simp [rdN] at h
 | succ e ih =>
   intro hand l b r h
   cases l with
   | nil=>simp [rdN] at h
   | cons c m =>
     simp only [rdN] at h
     split at h
     ·rename_i hc;simp at h;obtain ⟨rfl,_⟩:=h;exact ⟨hc,by simp [vU]⟩
     ·split at h
      ·simp at h
      ·split at h
       ·simp at h
       ·split at h
        ·simp at h
        ·simp only [Option.bind_eq_bind,Option.bind_eq_some_iff,Prod.exists] at h
         obtain ⟨ps,l1,h1,l2,h2,b',h3,h4⟩:=h
         simp at h4;obtain ⟨rfl,_⟩:=h4
         obtain ⟨ss,y,no,rfl,rfl⟩:=bE h3
         have k1:=yV (P:=fun b=>wfB b/\vU b<e) (fun hand l b r h=>ih hand l b r h) _ _ _ _ h1
         have k2:=gD _ _ (wfBs_of _ fun p hp=>(k1 p hp).1)
         refine ⟨⟨k2.1,k2.2.1,k2.2.2.1⟩,?_⟩
         rw [depthB_parts]
         have key:∀ (qs:List Bd),(∀ q∈qs,vU q<e)->jB qs<=e:=by
          intro qs
          induction qs with
          | nil=>intro _;simp [jB]
          | cons q qs ihq =>
            intro hq
            have h1:=hq q (by simp)
            have h2:=ihq fun x hx=>hq x (by simp [hx])
            simp only [jB];omega
         exact Nat.lt_succ_of_le (key _ fun q hq=>(k1 q hq).2)
theorem xM {p l r:Bs} (h:cut p l=some r):l=p++r:=by
 unfold cut at h
 split at h
 ·rename_i hp
  simp at h
  obtain ⟨q,hq⟩:=List.isPrefixOf_iff_prefix.1 hp
  subst hq
  simp at h;rw [h]
 ·simp at h
theorem dec_dd (n:Nat):dec n=Lib.decDigits n:=by
 induction n using Nat.strongRecOn with
 | _ n ih =>
   by_cases h:n<10
   ·rw [qD h,Lib.decDigits,dif_pos h];rfl
   ·rw [uD h,Lib.decDigits,dif_neg h,ih (n / 10) (Nat.div_lt_self (by omega) (by omega))];rfl
theorem specNum_text {m:Bs} {v k:Nat} (h:qN m=some (v,k)):m=dec v++m.drop k:=by
 obtain ⟨h1,h2,h3,h4⟩:=xu h
 have hd:dec v=kJ m:=by
  rw [dec_dd,h2]
  exact wU _ _ rfl h1 (ji m) h4
 obtain ⟨q,hq⟩:=j2 m
 rw [hd,h3]
 conv=>lhs;rw [<- hq]
 conv=>rhs;rw [<- hq]
 have:kJ (kJ m++q)=kJ m:=by rw [hq]
 rw [this,List.drop_left]
theorem uf {rd:RdS} (ih:∀ hand l b r,rd hand l=some (b,r)->l=qY b++r):∀ (hs:List (List Ty)) (l:Bs) (ps:List Bd) (r:Bs),zY rd hs l=some (ps,r)->l=kh ps++r
 | [],l,ps,r,h=>by simp [zY] at h;obtain ⟨rfl,rfl⟩:=h;simp [kh]
 | a::hs,l,ps,r,hx=>by
   simp only [zY,kU,Option.bind_eq_bind,Option.bind_eq_some_iff,Prod.exists] at hx
   obtain ⟨b,l1,⟨l0,h0,h1⟩,bs,l2,h2,h3⟩:=hx
   simp at h3;obtain ⟨rfl,rfl⟩:=h3
   rw [xM h0,ih _ _ _ _ h1,uf ih hs l1 bs l2 h2]
   simp [kh]
theorem rdN_canon (e:Nat):∀ (hand:List Ty) (l:Bs) (b:Bd) (r:Bs),rdN e hand l=some (b,r)->l=qY b++r:=by
 induction e with
 | zero=>intro hand l b r h;simp [rdN] at h
 | succ e ih =>
   intro hand l b r h
   cases l with
   | nil=>simp [rdN] at h
   | cons c m =>
     simp only [rdN] at h
     split at h
     ·simp at h;obtain ⟨rfl,rfl⟩:=h;simp [qY]
     ·split at h
      ·simp at h
      ·rename_i eZ
       have eZ:c=40:=by simpa using eZ
       subst eZ
       split at h
       ·simp at h
       ·rename_i v k hn
        split at h
        ·simp at h
        ·simp only [Option.bind_eq_bind,Option.bind_eq_some_iff,Prod.exists] at h
         obtain ⟨ps,l1,h1,l2,h2,b',h3,h4⟩:=h
         simp at h4;obtain ⟨rfl,rfl⟩:=h4
         obtain ⟨ss,y,no,rfl,rfl⟩:=bE h3
         rw [textB_ask]
         conv=>lhs;rw [specNum_text hn,uf ih _ _ _ _ h1,xM h2]
         simp
theorem gT {s text:Bs} {b:Bd} (h:zN s text=some b):(zV s).2=true/\rdN 101 (zV s).1.args text=some (b,[])/\zg b<=200:=by
 unfold zN at h
 split at h
 ·simp at h
 ·rename_i h0
  split at h
  ·simp at h
  ·rename_i b' rest hq
   split at h
   ·rename_i hc
    simp at h;subst h
    obtain ⟨rfl,h2⟩:=hc
    exact ⟨by simpa using (not_or.1 h0).1,hq,h2⟩
   ·simp at h
structure Good (t:Ty) (b:Bd):Prop where
 atoms:zP t<=15
 fit:kE t.args b
 wf:wfB b
 size:zg b<=200
 depth:vU b<=100
theorem qL {s text:Bs} {b:Bd} (h:zN s text=some b):Good (zV s).1 b/\text=qY b:=by
 obtain ⟨h1,h2,h3⟩:=gT h
 have hw:=rdN_wf _ _ _ _ _ h2
 refine ⟨⟨j6 h1,rdN_fit _ h2,hw.1,h3,by have:=hw.2;omega⟩,?_⟩
 have:=rdN_canon _ _ _ _ _ h2
 rwa [List.append_nil] at this
theorem rdK_canon (d:Nat):∀ (l:Bs) (t:Ty) (r:Bs),rdK d l=some (t,r)->l=xQ t++r:=by
 induction d with
 | zero =>
   intro l t r h
   rcases zo [98] l with hc | ⟨r',hc⟩
   ·rw [j8 hc] at h;simp at h
   ·rw [vz hc] at h;simp at h;obtain ⟨rfl,rfl⟩:=h;rw [textT_nil];exact xM hc.out
 | succ d ih =>
   intro l t r h
   rcases zo [98] l with hc | ⟨r',hc⟩
   ·rw [qW hc] at h
    simp only [Option.bind_eq_bind,Option.bind_eq_some_iff,Prod.exists] at h
    obtain ⟨r1,h1,a,r2,h2,r3,h3,b,r4,h4,r5,h5,h6⟩:=h
    simp at h6;obtain ⟨rfl,rfl⟩:=h6
    cases b with
    | mk bs =>
    rw [jR,textT_cons,xM h1,ih _ _ _ h2,xM h3,ih _ _ _ h4,xM h5]
    simp [Ty.args]
   ·rw [vz hc] at h;simp at h;obtain ⟨rfl,rfl⟩:=h;rw [textT_nil];exact xM hc.out
theorem jh {l:Bs} (h:(zV l).2=true):l=xQ (zV l).1/\zP (zV l).1<=15:=by
 refine ⟨?_,j6 h⟩
 unfold zV at h ⊢
 split at h
 ·simp at h
 ·rename_i hl
  rw [if_neg hl]
  cases hq:rdS 21 l with
  | none=>rw [hq] at h;simp at h
  | some x =>
    obtain ⟨t,rest⟩:=x
    rw [hq] at h
    simp at h
    obtain ⟨h1,h2⟩:=h
    have hq':rdK 20 l=some (t,rest):=hq
    have hr:=rdK_canon _ _ _ _ hq'
    simp only
    have h3:rest=[]:=by simpa using h1
    rw [h3,List.append_nil] at hr;exact hr
def become (b:Bd) (env:List Mn) (n:Nat):Option Bd:=match ev 20000 20000 b env n [] with
 | some (out,_)=>if zg out<=200/\vU out<=100 then some out else none
 | none=>none
def writes (b:Bd) (env:List Mn) (n:Nat):Option Bd:=(evN 20000 200 20000 b env n []).map (·.1)
def isQ (m:Bs):Bool:=m.head? == some 113
def kG (m:Bs):Bool:=decide (m.length % 2=1) == isQ m
def qt (m:Bs):Bs:=if m=[113] then [] else if isQ m then m.dropLast else 113::m.tail
def qm (t:Ty):Bs->Bool
 | []=>false
 | c::p=>(c == 113 || c == 116 || c == 102) && (atT t p).isSome
def q_ (t:Ty) (v:Pl) (i:Nat):Bool :=
 match v[i]? with
 | none=>false
 | some x=>qm t x.1 && (kG x.1 == decide (i % 2=0)) && (if i=0 then x.1 == [113] && decide (x.2 = -1) else decide (0<=x.2) && decide (x.2<(i:Int)) && !(x.1 == [113]) && ((v[x.2.toNat]?).map (·.1) == some (qt x.1)))
def qQ (t:Ty) (v:Pl):Nat->Bool
 | 0=>true
 | n+1=>qQ t v n && q_ t v n
def zO (t:Ty) (v:Pl):Bool:=decide (v.length<=60) && qQ t v v.length
theorem yI {t:Ty} {v:Pl}:∀ {n i:Nat},qQ t v n=true->i<n->q_ t v i=true
 | 0,i,_,hi=>absurd hi (by omega)
 | n+1,i,h,hi=>by
   rw [qQ,Bool.and_eq_true] at h
   rcases Nat.lt_or_ge i n with h' | h'
   ·exact yI h.1 h'
   ·obtain rfl:i=n:=by omega
    exact h.2
theorem yL {t:Ty} {v:Pl} {i:Nat}:∀ {n:Nat},q_ t v i=false->i<n->qQ t v n=false
 | 0,_,hi=>absurd hi (by omega)
 | n+1,h,hi=>by
   rw [qQ,Bool.and_eq_false_iff]
   rcases Nat.lt_or_ge i n with h' | h'
   ·exact .inl (yL h h')
   ·obtain rfl:i=n:=by omega
    exact .inr h
structure OkMv (t:Ty) (v:Pl) (i:Nat) (c:UInt8) (p:Bs) (z:Int):Prop where
 hc:c=113\/c=116\/c=102
 hp:∃ a,atT t p=some a
 opp:kG (c::p)=decide (i % 2=0)
 zero:i=0->c=113/\p=[]/\z = -1
 pos:0<i->0<=z/\z<(i:Int)/\¬ (c::p)=[113]/\∃ y,v[z.toNat]? = some y/\y.1=qt (c::p)
theorem okAt_some {t:Ty} {v:Pl} {i:Nat} (h:q_ t v i=true):∃ c p z,v[i]? = some (c::p,z)/\OkMv t v i c p z:=by
 unfold q_ at h
 cases hv:v[i]? with
 | none=>rw [hv] at h;simp at h
 | some x =>
   rw [hv] at h
   obtain ⟨m,z⟩:=x
   simp only [Bool.and_eq_true,beq_iff_eq] at h
   obtain ⟨⟨h1,h2⟩,h3⟩:=h
   cases m with
   | nil=>simp [qm] at h1
   | cons c p =>
     simp only [qm,Bool.and_eq_true,Bool.or_eq_true,beq_iff_eq] at h1
     refine ⟨c,p,z,rfl,by rcases h1.1 with (h | h) | h <;> simp [h],Option.isSome_iff_exists.1 h1.2,h2,fun hi=>?_,fun hi=>?_⟩
     ·subst hi
      simp only [if_true,Bool.and_eq_true,beq_iff_eq,decide_eq_true_eq] at h3
      obtain ⟨e,hz⟩:=h3
      simp only [List.cons.injEq] at e
      exact ⟨e.1,e.2,hz⟩
     ·rw [if_neg (by omega)] at h3
      simp only [Bool.and_eq_true,decide_eq_true_eq,beq_iff_eq,Bool.not_eq_true',beq_eq_false_iff_ne] at h3
      obtain ⟨⟨⟨k1,k2⟩,k3⟩,k4⟩:=h3
      refine ⟨k1,k2,k3,?_⟩
      cases hy:v[z.toNat]? with
      | none=>rw [hy] at k4;simp at k4
      | some y =>
        rw [hy] at k4
        exact ⟨y,rfl,by simpa using k4⟩
theorem kQ {t:Ty} {v:Pl} (h:zO t v=true) {i:Nat} (hi:i<v.length):∃ c p z,v[i]? = some (c::p,z)/\OkMv t v i c p z:=by
 unfold zO at h
 rw [Bool.and_eq_true] at h
 exact okAt_some (yI h.2 hi)
theorem za {t:Ty} {v:Pl} (h:zO t v=true):v.length<=60:=by
 unfold zO at h
 rw [Bool.and_eq_true] at h
 simpa using h.1
def qS (v:Pl) (opp:Bool):Nat->Nat->List Nat
 | 0,_=>[]
 | _+1,0=>[]
 | f+1,n+1=>n::qS v opp f (match v[n]? with | none=>0 | some x=>if kG x.1=opp then n else (x.2+1).toNat)
def zd (v:Pl) (opp:Bool) (n:Nat):List Nat:=(qS v opp n n).reverse
def jv (v:Pl) (opp:Bool) (n:Nat):Nat:=match v[n]? with | none=>0 | some x=>if kG x.1=opp then n else (x.2+1).toNat
theorem kB (v:Pl) (opp:Bool) (f n:Nat):qS v opp (f+1) (n+1)=n::qS v opp f (jv v opp n):=by rw [qS];rfl
theorem jK (v:Pl) (opp:Bool) (f:Nat):qS v opp f 0=[]:=by cases f <;> rw [qS]
theorem wo {t:Ty} {v:Pl} (h:zO t v=true) (opp:Bool) {n:Nat} (hn:n<v.length):jv v opp n<=n:=by
 obtain ⟨c,p,z,hv,ho⟩:=kQ h hn
 unfold jv
 rw [hv]
 show (if kG (c::p)=opp then n else (z+1).toNat)<=n
 split
 ·omega
 ·rcases Nat.eq_zero_or_pos n with h0 | h0
  ·have:=(ho.zero h0).2.2;omega
  ·have:=(ho.pos h0).2.1;omega
theorem viewD_fuel {t:Ty} {v:Pl} (h:zO t v=true) (opp:Bool) (n:Nat):∀ f,n<=f->n<=v.length->qS v opp f n=qS v opp n n:=by
 induction n using Nat.strongRecOn with
 | _ n ih =>
   intro f hf hn
   cases n with
   | zero=>rw [jK,jK]
   | succ n =>
     obtain ⟨f,rfl⟩:∃ f',f=f'+1:=⟨f-1,by omega⟩
     rw [kB,kB]
     have hb:=wo h opp (show n<v.length by omega)
     rw [ih _ (by omega) f (by omega) (by omega),ih _ (by omega) n hb (by omega)]
theorem kf (c:UInt8) (p:Bs):isQ (c::p)=(c == 113):=by
 show (some c == some 113)=_
 rfl
theorem vg (c:UInt8) (p:Bs):kG (c::p)=(decide (p.length % 2=0) == (c == 113)):=by
 unfold kG
 rw [kf,List.length_cons]
 congr 1
 simp only [decide_eq_decide];omega
theorem xN {c:UInt8} {p:Bs} (h:¬ (c::p)=[113]):kG (qt (c::p)) = !kG (c::p):=by
 unfold qt
 rw [if_neg h,kf]
 by_cases hc:c=113
 ·subst hc
  cases p with
  | nil=>exact absurd rfl h
  | cons d q =>
    rw [show ((113:UInt8) == 113)=true from rfl,if_pos rfl,vg]
    rw [show (113::d::q).dropLast=113::(d::q).dropLast from rfl,vg,List.length_dropLast,List.length_cons]
    rcases Nat.mod_two_eq_zero_or_one q.length with hq | hq
    ·rw [show (q.length+1-1) % 2=0 from by omega,show (q.length+1) % 2=1 from by omega];rfl
    ·rw [show (q.length+1-1) % 2=1 from by omega,show (q.length+1) % 2=0 from by omega];rfl
 ·rw [show (c == 113)=false from by simp [hc],if_neg (by simp),List.tail_cons,vg,vg,show (c == 113)=false from by simp [hc]]
  cases decide (p.length % 2=0) <;> rfl
structure OppMv (t:Ty) (v:Pl) (k:Nat) (m:Bs) (z:Nat):Prop where
 at':v[k]? = some (m,(z:Int))
 lt:z<k
 odd:z % 2=1
 en:∃ y,v[z]? = some y/\y.1=qt m
theorem opp_mv {t:Ty} {v:Pl} (h:zO t v=true) {k:Nat} (hk:k<v.length) (he:k % 2=0) (h0:0<k):∃ c p z,OppMv t v k (c::p) z/\OkMv t v k c p (z:Int):=by
 obtain ⟨c,p,z,hv,ho⟩:=kQ h hk
 obtain ⟨h1,h2,h3,y,hy,hye⟩:=ho.pos h0
 obtain ⟨n,rfl⟩:∃ n:Nat,z=(n:Int):=⟨z.toNat,by omega⟩
 rw [Int.toNat_natCast] at hy
 refine ⟨c,p,n,⟨hv,by omega,?_,y,hy,hye⟩,ho⟩
 obtain ⟨c',p',z',mr,mA⟩:=kQ h (show n<v.length by omega)
 rw [mr] at hy
 obtain rfl:=Option.some.inj hy
 have h5:=mA.opp
 simp only at hye
 rw [hye,xN h3,ho.opp] at h5
 rcases Nat.mod_two_eq_zero_or_one n with hn | hn
 ·rw [he,hn] at h5;simp at h5
 ·exact hn
theorem yZ {t:Ty} {v:Pl} (h:zO t v=true) (hl:0<v.length):zd v false 1=[0]:=by
 obtain ⟨c,p,z,hv,ho⟩:=kQ h hl
 unfold zd
 rw [kB,qS]
 rfl
theorem xW {t:Ty} {v:Pl} (h:zO t v=true) {k:Nat} (hk:k<v.length) {m:Bs} {z:Nat} (ho:OppMv t v k m z) (hb:kG m=true):zd v false (k+1)=zd v false z++[z,k]:=by
 have bi:jv v false k=z+1:=by
  unfold jv
  rw [ho.at']
  simp only [hb]
  rw [if_neg (by simp)];omega
 have cQ:=ho.lt
 obtain ⟨c',p',z',mr,mA⟩:=kQ h (show z<v.length by omega)
 have cK:jv v false z=z:=by
  unfold jv
  rw [mr]
  simp only [mA.opp]
  rw [if_pos (by simp [ho.odd])]
 unfold zd
 rw [kB,bi,viewD_fuel h false (z+1) k (by omega) (by omega),kB,cK]
 simp
abbrev St:=Bd×List zc×zc
def lastD (p:Bs):Nat:=(p.getLast?.getD 48).toNat-48
def vr (t:Ty) (s:St) (m:Bs) (k:Nat):Option St :=
 match s.1 with
 | .leaf _=>none
 | .ask _ ss y n=>match m with
   | []=>none
   | c::p=>if c=113 then (ss[lastD p]?).map fun b=>(b,s.2.1++zh (jV t p) k p,(k,p)) else some (if c=102 then n else y,s.2)
def qM (s:St):Option (Bs×Int) :=
 match s.1 with
 | .leaf c=>if c=117 then none else some (c::s.2.2.2,(s.2.2.1:Int))
 | .ask l _ _ _=>(s.2.1[l]?).map fun pl=>(113::pl.2,(pl.1:Int))
def vL (t:Ty) (b:Bd):St:=(b,zh t.args.length 0 [],(0,[]))
def vV (t:Ty) (b:Bd) (v:Pl):Nat->Nat->Option St
 | 0,_=>none
 | f+1,n=>if n<=1 then some (vL t b) else match v[n-1]? with
   | none=>none
   | some x=>(vV t b v f x.2.toNat).bind fun s=>vr t s x.1 (n-1)
def kN (t:Ty) (b:Bd) (v:Pl) (n:Nat):Option St:=vV t b v (n+1) n
theorem placeF_fuel {t:Ty} {v:Pl} (h:zO t v=true) (b:Bd) (n:Nat):∀ f,n<f->n<=v.length->vV t b v f n=vV t b v (n+1) n:=by
 induction n using Nat.strongRecOn with
 | _ n ih =>
   intro f hf hn
   obtain ⟨f,rfl⟩:∃ f',f=f'+1:=⟨f-1,by omega⟩
   rw [vV,vV]
   by_cases h1:n<=1
   ·rw [if_pos h1,if_pos h1]
   ·rw [if_neg h1,if_neg h1]
    obtain ⟨c,p,z,hv,ho⟩:=kQ h (show n-1<v.length by omega)
    rw [hv]
    have:=(ho.pos (by omega)).2.1
    simp only
    rw [ih z.toNat (by omega) f (by omega) (by omega),ih z.toNat (by omega) n (by omega) (by omega)]
theorem qb (t:Ty) (b:Bd) (v:Pl):kN t b v 1=some (vL t b):=by
 unfold kN
 rw [vV,if_pos (bw _)]
theorem jP {t:Ty} {v:Pl} (h:zO t v=true) (b:Bd) {k:Nat} (hk:k<v.length) (h0:0<k) {m:Bs} {z:Nat} (ho:OppMv t v k m z):kN t b v (k+1)=(kN t b v z).bind fun s=>vr t s m k:=by
 unfold kN
 rw [vV,if_neg (by omega),Nat.add_sub_cancel,ho.at']
 simp only [Int.toNat_natCast]
 rw [placeF_fuel h b z (k+1) (by have:=ho.lt;omega) (by have:=ho.lt;omega)]
def z_ (t:Ty) (b:Bd) (v:Pl) (n:Nat):Option (Bs×Int):=(kN t b v n).bind qM
def zj (t:Ty) (b:Bd) (v:Pl) (n:Nat):Prop:=∀ i,i<n->i % 2=1->z_ t b v i=v[i]?
instance (t:Ty) (b:Bd) (v:Pl) (n:Nat):Decidable (zj t b v n):=inferInstanceAs (Decidable (∀ i,i<n->i % 2=1->z_ t b v i=v[i]?))
structure ue (t:Ty) (hand:List Ty) (s:St) (n:Nat):Prop where
 fit:kE hand s.1
 pf:xU t s.2.1 hand n
 wf:wfB s.1
 bg:s.2.2.1<n
 bgt:∃ a,atT t s.2.2.2=some a
 ll:s.2.1.length<=8*n
theorem uA {t:Ty} {b:Bd} (cJ:zP t<=15) (hf:kE t.args b) (hw:wfB b):ue t t.args (vL t b) 1:=by
 have h1:=kt t
 refine ⟨hf,?_,hw,by show 0<1;omega,⟨t,jk t⟩,?_⟩
 ·have h0:xU t [] [] 0:=⟨rfl,fun i a h=>by simp at h⟩
  have:=h0.kid (m:=1) (k:=0) (by omega) (by omega) (jk t) (by omega)
  show xU t (zh t.args.length 0 []) t.args 1
  simpa using this
 ·show (zh t.args.length 0 []).length<=8
  rw [zl];omega
structure StepD (t:Ty) (hand:List Ty) (s:St) (l:Nat) (ss:List Bd) (y n:Bd) (a:Ty) (pl:zc) (c:UInt8) (p:Bs):Prop where
 body:s.1=.ask l ss y n
 lv:s.2.1[l]? = some pl
 hh:hand[l]? = some a
 hat:atT t pl.2=some a
 len:ss.length=a.args.length
 fs:km (kC hand a.args) ss
 fy:kE hand y
 fn:kE hand n
 mv:(c=113/\∃ j aj sb,p=pl.2++[qo j]/\j<10/\a.args[j]? = some aj/\ss[j]? = some sb/\atT t p=some aj/\lastD p=j)\/(c=116\/c=102)/\p=pl.2
theorem lastD_digit (p:Bs) {j:Nat} (hj:j<10):lastD (p++[qo j])=j:=by
 unfold lastD
 simp [uC hj]
theorem yu {t:Ty} {v:Pl} {hand:List Ty} {s:St} {k z:Nat} {c:UInt8} {p:Bs} {x:Bs×Int} (cJ:zP t<=15) (hs:ue t hand s z) (ho:OkMv t v k c p (z:Int)) (fB:0<k) (hx:x.1=qt (c::p)) (ht:qM s=some x) :
 ∃ l ss y n a pl,StepD t hand s l ss y n a pl c p:=by
 obtain ⟨_,_,cE,_⟩:=ho.pos fB
 have hq:∃ q,x.1=113::q:=by
  rw [hx]
  unfold qt
  rw [if_neg cE,kf]
  by_cases hc:c=113
  ·subst hc
   cases p with
   | nil=>exact absurd rfl cE
   | cons d q=>exact ⟨(d::q).dropLast,rfl⟩
  ·rw [show (c == 113)=false from by simp [hc]];exact ⟨p,rfl⟩
 obtain ⟨b,lv,bg⟩:=s
 cases b with
 | leaf d =>
   unfold qM at ht
   simp only at ht
   split at ht
   ·simp at ht
   ·obtain rfl:=Option.some.inj ht
    obtain ⟨q,hq⟩:=hq
    simp only [List.cons.injEq] at hq
    have hw:=hs.wf
    rw [show ((Bd.leaf d,lv,bg):St).1=.leaf d from rfl,wfB] at hw
    rcases hw with h | h | h <;> rw [h] at hq <;> exact absurd hq.1 (by decide)
 | ask l ss y n =>
   have hf:=hs.fit
   have hf2:=fit_parts hf
   rw [show ((Bd.ask l ss y n,lv,bg):St).1=.ask l ss y n from rfl] at hf
   rw [kE] at hf
   obtain ⟨a,h1,h2,h3,h4⟩:=hf
   obtain ⟨a',h1',_,cU⟩:=hf2
   obtain rfl:a=a':=Option.some.inj (h1.symm.trans h1')
   obtain ⟨pl,hl,hat,_⟩:=hs.pf.each l a h1
   have dd:lv[l]? = some pl:=hl
   unfold qM at ht
   simp only [dd,Option.map_some] at ht
   obtain rfl:=Option.some.inj ht
   simp only at hx
   have iq:=qH _ _ _ hat
   have eO:=kt a
   refine ⟨l,ss,y,n,a,pl,rfl,hl,h1,hat,cU,h2,h3,h4,?_⟩
   unfold qt at hx
   rw [if_neg cE,kf] at hx
   by_cases hc:c=113
   ·subst hc
    rw [show ((113:UInt8) == 113)=true from rfl,if_pos rfl] at hx
    refine .inl ⟨rfl,?_⟩
    have iM:p≠[]:=fun e=>cE (by rw [e])
    obtain ⟨q,d,rfl⟩:∃ q d,p=q++[d]:=⟨p.dropLast,p.getLast iM,(List.dropLast_concat_getLast iM).symm⟩
    rw [show (113::(q++[d])).dropLast=113::q from by rw [<- List.cons_append,List.dropLast_concat]] at hx
    simp only [List.cons.injEq,true_and] at hx
    subst hx
    obtain ⟨aj,og⟩:=ho.hp
    have mC:=og
    rw [jo,hat,Option.bind_some,uF] at mC
    split at mC
    ·rename_i rv
     cases hq:a.args[d.toNat-48]? with
     | none=>rw [hq] at mC;simp at mC
     | some a2 =>
       rw [hq] at mC
       simp only [jk] at mC
       obtain rfl:=Option.some.inj mC
       have cQ:=(List.getElem?_eq_some_iff.1 hq).1
       have hdj:d=qo (d.toNat-48):=by
        apply UInt8.toNat_inj.1
        rw [uC (by omega)];omega
       refine ⟨d.toNat-48,a2,ss[d.toNat-48]'(by omega),by rw [<- hdj],by omega,hq,List.getElem?_eq_getElem (by omega),og,?_⟩
       rw [hdj,lastD_digit _ (by omega),<- hdj]
    ·simp at mC
   ·rw [show (c == 113)=false from by simp [hc],if_neg (by simp),List.tail_cons] at hx
    simp only [List.cons.injEq,true_and] at hx
    refine .inr ⟨?_,hx.symm⟩
    rcases ho.hc with h | h | h
    ·exact absurd h hc
    ·exact .inl h
    ·exact .inr h
theorem StepD.next {t:Ty} {hand:List Ty} {s:St} {l:Nat} {ss:List Bd} {y n:Bd} {a:Ty} {pl:zc} {c:UInt8} {p:Bs} {z k:Nat} (h:StepD t hand s l ss y n a pl c p) (hs:ue t hand s z) (hzk:z<=k) (eQ:1<=z) (cJ:zP t<=15) :
 ∃ s' dy,vr t s (c::p) k=some s'/\ue t dy s' (k+1):=by
 have iq:=qH _ _ _ h.hat
 have eO:=kt a
 have hw:=hs.wf
 rw [h.body,wfB] at hw
 have eC:=hs.ll
 have rU:=hs.bg
 unfold vr
 rw [h.body]
 simp only
 rcases h.mv with ⟨rfl,j,aj,sb,hp,hj,og,mW,hat,oI⟩ | ⟨hc,hp⟩
 ·rw [if_pos rfl,oI,mW]
  obtain ⟨h',hh',hfs⟩:=bY ss _ h.fs j sb mW
  rw [kC,List.getElem?_map,Option.map_eq_some_iff] at hh'
  obtain ⟨aj',mC,rfl⟩:=hh'
  obtain rfl:aj=aj':=Option.some.inj (og.symm.trans mC)
  have e0:jV t p=aj.args.length:=by unfold jV;rw [hat]
  have e1:=qH _ _ _ hat
  have e2:=kt aj
  refine ⟨_,hand++aj.args,rfl,hfs,?_,wfBs_at _ hw.1 j sb mW,by show k<k+1;omega,⟨aj,hat⟩,?_⟩
  ·show xU t (s.2.1++zh (jV t p) k p) (hand++aj.args) (k+1)
   rw [e0]
   exact hs.pf.kid (by omega) (by omega) hat (by omega)
  ·show (s.2.1++zh (jV t p) k p).length<=8*(k+1)
   rw [e0,List.length_append,zl];omega
 ·have sJ:¬ c=113:=by rcases hc with h | h <;> rw [h] <;> decide
  rw [if_neg sJ]
  refine ⟨_,hand,rfl,?_,hs.pf.mono (by omega),?_,by show s.2.2.1<k+1;omega,hs.bgt,by show s.2.1.length<=_;omega⟩
  ·show kE hand (if c=102 then n else y)
   split
   ·exact h.fn
   ·exact h.fy
  ·show wfB (if c=102 then n else y)
   split
   ·exact hw.2.2
   ·exact hw.2.1
theorem jq {t:Ty} {b:Bd} {v:Pl} (cJ:zP t<=15) (hf:kE t.args b) (hw:wfB b) (hv:zO t v=true) (k:Nat):k<v.length->k % 2=0->zj t b v k->∃ s hand,kN t b v (k+1)=some s/\ue t hand s (k+1):=by
 induction k using Nat.strongRecOn with
 | _ k ih =>
   intro hk he dF
   rcases Nat.eq_zero_or_pos k with h0 | h0
   ·subst h0
    exact ⟨_,_,qb t b v,uA cJ hf hw⟩
   ·obtain ⟨c,p,z,ho,cD⟩:=opp_mv hv hk he h0
    have cQ:=ho.lt
    have eN:=ho.odd
    obtain ⟨z',rfl⟩:∃ z',z=z'+1:=⟨z-1,by omega⟩
    obtain ⟨s,hand,hp,hs⟩:=ih z' (by omega) (by omega) (by omega) (fun i hi h=>dF i (by omega) h)
    obtain ⟨x,hx,rZ⟩:=ho.en
    have hr:=dF (z'+1) (by omega) eN
    unfold z_ at hr
    rw [hp,Option.bind_some,hx] at hr
    obtain ⟨l,ss,y,n,a,pl,hd⟩:=yu cJ hs cD h0 rZ hr
    obtain ⟨s',dy,h1,h2⟩:=hd.next (k:=k) hs (by omega) (by omega) cJ
    exact ⟨s',dy,by rw [jP hv b hk h0 ho,hp,Option.bind_some,h1],h2⟩
structure ViewC (t:Ty) (v:Pl) (vw:List Nat) (k:Nat):Prop where
 odd:vw.length % 2=1
 zero:vw[0]? = some 0
 last:vw[vw.length-1]? = some k
 len:vw.length<=k+1
 all:∀ (i e:Nat),vw[i]? = some e->e<=k
 step:∀ j,2*j+2<vw.length->∃ e e' c p,vw[2*j]? = some e/\vw[2*j+2]? = some e'/\e' % 2=0/\0<e'/\e'<=k/\OppMv t v e' (c::p) (e+1)/\OkMv t v e' c p ((e+1:Nat):Int)
theorem gE {t:Ty} {v:Pl} (hv:zO t v=true) (k:Nat):k<v.length->k % 2=0->ViewC t v (zd v false (k+1)) k:=by
 induction k using Nat.strongRecOn with
 | _ k ih =>
   intro hk he
   rcases Nat.eq_zero_or_pos k with h0 | h0
   ·subst h0
    rw [yZ hv hk]
    refine ⟨rfl,rfl,rfl,bw _,fun i e h=>?_,fun j hj=>by simp at hj⟩
    cases i with
    | zero=>obtain rfl:=Option.some.inj h;omega
    | succ i=>simp at h
   ·obtain ⟨c,p,z,ho,cD⟩:=opp_mv hv hk he h0
    have cQ:=ho.lt
    have eN:=ho.odd
    obtain ⟨z',rfl⟩:∃ z',z=z'+1:=⟨z-1,by omega⟩
    have hc:=ih z' (by omega) (by omega) (by omega)
    rw [xW hv hk ho (by rw [cD.opp];simp [he])]
    obtain ⟨vw,fp⟩:=zzN (zd v false (z'+1))
    rw [fp] at hc ⊢
    have iA:=hc.odd
    refine ⟨by rw [List.length_append];show (vw.length+2) % 2=1;omega,?_,?_,?_,?_,?_⟩
    ·rw [List.getElem?_append_left (by omega)];exact hc.zero
    ·rw [List.length_append,List.getElem?_append_right (by simp),show vw.length+[z'+1,k].length-1-vw.length=1 from by simp];rfl
    ·rw [List.length_append];have:=hc.len;show vw.length+2<=k+1;omega
    ·intro i e h
     rcases Nat.lt_or_ge i vw.length with hi | hi
     ·rw [List.getElem?_append_left hi] at h;have:=hc.all i e h;omega
     ·rw [List.getElem?_append_right hi] at h
      have:=List.mem_of_getElem? h
      simp only [List.mem_cons,List.not_mem_nil,or_false] at this
      omega
    ·intro j hj
     rw [List.length_append] at hj
     have hj':2*j+2<vw.length+2:=hj
     rcases Nat.lt_or_ge (2*j+2) vw.length with h' | h'
     ·obtain ⟨e,e',c',p',h1,h2,h3,h4,h5,h6,h7⟩:=hc.step j h'
      exact ⟨e,e',c',p',by rw [List.getElem?_append_left (by omega)];exact h1,by rw [List.getElem?_append_left h'];exact h2,h3,h4,by omega,h6,h7⟩
     ·have hjl:2*j+1=vw.length:=by omega
      refine ⟨z',k,c,p,?_,?_,he,h0,bw _,ho,cD⟩
      ·rw [List.getElem?_append_left (by omega)]
       have:=hc.last
       rw [show vw.length-1=2*j from by omega] at this;exact this
      ·rw [List.getElem?_append_right (by omega),show 2*j+2-vw.length=1 from by omega];rfl
theorem atT_step {t:Ty} {p:Bs} {j:Nat} {a:Ty} (hj:j<p.length) (h:atT t (p.take j)=some a):atT t (p.take (j+1))=if 48<=p[j].toNat then a.args[p[j].toNat-48]? else none:=by
 rw [List.take_add_one,List.getElem?_eq_getElem hj,Option.toList_some,jo,h,Option.bind_some,uF]
 split
 ·cases a.args[p[j].toNat-48]? with
  | none=>rfl
  | some b=>exact jk b
 ·rfl
theorem wH {t:Ty} {p:Bs} {j:Nat} (h:atT t (p.take j)=none):atT t p=none:=by
 rw [<- List.take_append_drop j p,jo,h];rfl
def KAtPost (F:Nat->Prop) (t:Ty) (p:Bs) (w:World) (en:Ending) (w':World):Prop :=
 ∃ v,en=.returned v/\w'=w/\(atT t p=none->v=.pointer none)/\∀ a,atT t p=some a->Rep F w (jA a) v
set_option maxRecDepth 20000 in
theorem hH (F:Nat->Prop) (t:Ty) (p:Bs) (kv:Value) (w:World) (h:Rep F w (jA t) kv) (ht:zP t<=15) (hp:Lim p.length) :
 Calls Tryz.prog 135 #[kv,str p] w (KAtPost F t p w):=by
 have dd:=hp.le
 go_enter Tryz.func135,Tryz.ntmps135
 go_wp2_with fail
 go_loop [0,9] (fun k i=>∃ (j:Nat) (a:Ty),j<=p.length/\i=.int .i64 j/\atT t (p.take j)=some a/\Rep F w (jA a) k) (fun _ i=>p.length-(intOf i).toNat)
 case atStart=>exact ⟨0,t,Nat.zero_le _,rfl,by rw [List.take_zero];exact jk t,h⟩
 case round =>
  clear h
  obtain ⟨j,a,hj,rfl,hat,hr⟩:=hrel
  obtain ⟨kb,ks,e,hF,hb,s7⟩:=zf hr
  subst e
  by_cases cQ:j<p.length
  ·have mH:(j:Int)<(p.length:Int):=by omega
   obtain ⟨sa,sc,e,fb,cU,cO⟩:=zI s7
   subst e
   have c0:w.cell? ⟨kb,0,none⟩=some (.slice sa a.args.length sc):=by simp [World.cell?,hb]
   have Be:=qH _ _ _ hat
   have eO:=kt a
   have iq:a.args.length<=7:=by omega
   obtain ⟨x,hx⟩:∃ x:Nat,p[j].toNat=x:=⟨_,rfl⟩
   have tD:x<256:=by rw [<- hx];exact UInt8.toNat_lt _
   have B:((((⟨p.toArray⟩:ByteArray)[j]'(kP cQ)).toNat:Int))=(x:Int):=by rw [kr cQ,hx]
   have Ak:IntKind.i64.wrap (x:Int)=(x:Int):=k_ x (by omega)
   have dw:=atT_step cQ hat
   rw [hx] at dw
   have HS:=bz dw
   have HH:=bz (bj cO (bj cU fb))
   clear dw cO cU fb hb s7 hr hat Be eO hx
   by_cases hA:x<48
   ·have rh:IntKind.i64.wrap ((x:Int)-48)=(x:Int)-48:=by simp [IntKind.wrap,IntKind.bits,IntKind.signed];omega
    have D3:(x:Int)-48<0:=by omega
    have HN:=bz (show atT t p=none from wH (j:=j+1) (by rw [HS.out,if_neg (show ¬ 48<=x by omega)]))
    clear hA HS HH
    go_wp2_with fail
    go_ret
    exact ⟨_,rfl,rfl,fun _=>rfl,fun b hb=>by rw [HN.out] at hb;simp at hb⟩
   ·obtain ⟨n,iR⟩:∃ n,x=n+48:=⟨x-48,by omega⟩
    have rh:IntKind.i64.wrap ((x:Int)-48)=(n:Int):=by rw [show (x:Int)-48=(n:Int) from by omega];exact k_ n (by omega)
    have lF:¬ (n:Int)<0:=by omega
    have dt:=HS.out
    rw [if_pos (show 48<=x by omega),show x-48=n from by omega] at dt
    have iV:=bz dt
    clear dt HS hA tD iR
    by_cases hB:a.args.length<=n
    ·have hB':(a.args.length:Int)<=(n:Int):=by omega
     have HN:=bz (show atT t p=none from wH (j:=j+1) (by rw [iV.out];exact List.getElem?_eq_none hB))
     clear hB HH
     go_wp2_with fail
     go_ret
     exact ⟨_,rfl,rfl,fun _=>rfl,fun b hb=>by rw [HN.out] at hb;simp at hb⟩
    ·have hB':¬ (a.args.length:Int)<=(n:Int):=by omega
     have h9:¬ (9:Int)<(n:Int):=by omega
     have B9:(0:Int)<=(n:Int):=by omega
     have iS:(n:Int)<(a.args.length:Int):=by omega
     obtain ⟨b,o,u,d,ea,FC,E6,hd,hc,nN⟩:=HH.out.1 n (by omega)
     subst ea
     rw [wV,Option.map_eq_some_iff] at hd
     obtain ⟨c,fE,rfl⟩:=hd
     have HC:=bz (bj fE nN)
     clear fE nN hB HH
     go_wp2_with fail
     go_round
     case rel=>exact ⟨j+1,c,by omega,by go_num,by rw [iV.out];exact HC.out.1,HC.out.2⟩
     case measure=>simp only [intOf];omega
  ·obtain rfl:j=p.length:=by omega
   rw [List.take_length] at hat
   have HA:=bz (bj hat hr)
   clear hat hr hb s7 cQ
   go_wp2_with fail
   go_ret
   exact ⟨_,rfl,rfl,fun h=>(by rw [HA.out.1] at h;simp at h),fun b hb=>(by rw [HA.out.1] at hb;obtain rfl:=Option.some.inj hb;exact HA.out.2)⟩
structure Fr where
 yes:Bd
 no:Bd
 env:List Clo
 begun:Nat
 path:Bs
def frFit (fr:Fr):Prop:=∃ hand,envFit fr.env hand/\kE hand fr.yes/\kE hand fr.no
def Ma (w:World) (ma most moves:Nat):Prop:=w.heap[ma]? = some (.cells #[.slice none 0 0,.slice none 0 0,.int .i64 (most:Nat),.int .i64 (moves:Nat),.bool false] 126 (0,0))
theorem Ma.cells {w:World} {ma most moves:Nat} (h:Ma w ma most moves):w.cell? ⟨ma,2,none⟩=some (.int .i64 (most:Nat))/\w.cell? ⟨ma,3,none⟩=some (.int .i64 (moves:Nat))/\w.cell? ⟨ma,4,none⟩=some (.bool false)/\w.frozen? ⟨ma,3,none⟩=false:=by
 unfold Ma at h
 exact ⟨by simp [World.cell?,h],by simp [World.cell?,h],by simp [World.cell?,h],by simp [World.frozen?,h]⟩
theorem Ma.but {m:Nat->Prop} {w w':World} {ma most moves:Nat} (h:Ma w ma most moves) (hb:But m w w') (hm:¬ m ma):Ma w' ma most moves:=by
 unfold Ma;rw [hb.block ma (zZ h) hm];exact h
theorem Ma.below {w w':World} {ma most moves:Nat} (h:Ma w ma most moves) (hb:Below w.heap.size w w'):Ma w' ma most moves:=by
 unfold Ma;rw [hb.block ma (zZ h)];exact h
theorem Ma.drewN {w:World} {ma most moves:Nat} (h:Ma w ma most moves) (n:Nat):Ma (w.drewN n) ma most moves:=h
def GlobT (w:World):Prop:=∃ te pe,w.cell? ⟨0,0,none⟩=some (.iface te pe)
theorem GlobT.but {m:Nat->Prop} {w w':World} (h:GlobT w) (hb:But m w w') (hm:¬ m 0):GlobT w':=by
 obtain ⟨te,pe,h⟩:=h
 exact ⟨te,pe,(hb.cell (bp w _ h) hm).trans h⟩
theorem zM.litk {w:World} {e:TypeId} {sz:Nat} (cs:Array Value) (hn:cs.size=sz) (hc:∀ u∈cs.toList,u.oneCell'=true) (g:Nat) (hg:g=w.heap.size):zM sz (.slice (some ⟨g,0,none⟩) 1 1) 1 cs.toList (w.alloc (.cells cs e)):=by
 subst hg
 refine ⟨by simp [hn],hc,.inl ⟨_,_,rfl,fun j u hu=>?_⟩⟩
 unfold Addr.add
 split
 ·subst j;simp;simpa using hu
 ·simp;simpa using hu
def plcs (begun:Nat) (path:Bs):Nat->List Value
 | 0=>[]
 | n+1=>plcs begun path n++[.int .i64 (begun:Nat),str (path++dec n)]
theorem dec_decDigits (n:Nat):dec n=Lib.decDigits n:=by
 induction n using Nat.strongRecOn with
 | _ n ih =>
   by_cases h:n<10
   ·rw [qD h,Lib.decDigits,dif_pos h];rfl
   ·rw [uD h,Lib.decDigits,dif_neg h,ih (n / 10) (Nat.div_lt_self (by omega) (by omega))];rfl
theorem itoa_dec (i:Nat):Lib.itoa (i:Int)=dec i:=by
 rw [dec_decDigits,Lib.itoa,if_neg (by omega)];rfl
theorem Tryz.infoPl:(Tryz.prog.info? 115).map (fun i=>(i.zero,i.size,i.bytes))=some (some (.agg #[.int .i64 0,str []]),2,24):=by kernel_rfl
def FreshSl (w:World) (e:TypeId) (sz n:Nat) (xs:List Value) (en:Ending) (w':World):Prop :=
 ∃ a c,en=.returned (.slice a n c)/\Own w' e sz (.slice a n c) n xs/\Below w.heap.size w w'/\(∀ g,(Value.slice a n c).ownBlock=some g->w.heap.size<=g)
set_option maxRecDepth 100000 in
theorem gh (n begun:Nat) (path:Bs) (w:World) (hg:jD w) (hn:n<=16) (hp:path.length<=1000000) :
 Calls Tryz.prog 111 #[.int .i64 (n:Nat),.int .i64 (begun:Nat),str path] w (FreshSl w 115 2 n (plcs begun path n)):=by
 have HG:=bz hg;clear hg
 go_enter Tryz.func111,Tryz.ntmps111
 go_wp2_with fail
 go_loopw [7,10] (fun o i wr=>∃ k:Nat,k<=n/\i=.int .i64 k/\∃ a c,o=.slice a k c/\Own wr 115 2 (.slice a k c) k (plcs begun path k)/\Below w.heap.size w wr/\(∀ g,(Value.slice a k c).ownBlock=some g->w.heap.size<=g)) (fun _ i _=>n-(intOf i).toNat)
 case atStart=>exact ⟨0,Nat.zero_le _,rfl,none,0,rfl,World.ownsRow_nil _ _ _ _,bh _ _,fun g h=>by simp [Value.ownBlock] at h⟩
 case round =>
  obtain ⟨k,hk,rfl,a,c,rfl,ho,hb,hf⟩:=hrel
  have HO:=bz ho;have HF:=bz hf;have HB:=bz hb
  clear ho hf hb
  by_cases cQ:k<n
  ·have mH:(k:Int)<(n:Int):=by omega
   have iz:(dec k).length<=2:=jl 1 k (by omega)
   have rz:=fun w0=>k7 (P:=Tryz.prog) path (dec k) (by omega) w0
   have lE:=bz (HG.out.below HB.out)
   have HI:=bz (itoa_dec k)
   go_wp2_with fail
   refine (itoa_any (k:Int) _ lE.out (by omega) (by omega)).mono ?_
   rintro en w1 ⟨rfl,bi⟩
   rw [HI.out]
   generalize hS:path++dec k=S at *
   have HS:=bz hS;clear hS
   have z1:=bi.size
   have co:=bz bi;clear bi
   go_wp2_with (at_builtin;refine zC rfl _ _ 113 rfl 115 (.agg #[.int .i64 0,str []]) 2 24 Tryz.underlying113 Tryz.infoPl rfl (by decide) (.slice a k c) k (plcs begun path k) rfl ?c1 _ 1 [.int .i64 (begun:Nat),str S] rfl ?c2 ?c3 ?c4 ?_)
   case c1=>exact (HO.out.keep fun g o _ ho=>by rw [co.out.block g (zZ ho)];exact ho).alloc _
   case c2=>exact zM.litk #[.int .i64 (begun:Nat),str S] rfl (by simp [str,Value.oneCell']) _ (by simp)
   case c3=>unfold maxLen;omega
   case c4=>omega
   intro a' c' w7 dO cP ch
   have hA:Own w7 115 2 (.slice a' (k+1) c') (k+1) (plcs begun path (k+1)):=by
    rw [plcs,HS.out];exact dO
   have Fc:Below w.heap.size w w7:=by
    have h1:=zzT HB.out co.out
    refine (h1.alloc h1.size _).trans (cP.toBelow (by rw [zK];have:=h1.size;omega) fun i hi e=>?_)
    have:=HF.out i e;omega
   have sQ:∀ g,(Value.slice a' (k+1) c').ownBlock=some g->w.heap.size<=g:=by
    intro g h
    rcases ch g h with h | h
    ·exact HF.out g h
    ·have h2:=HB.out.size
     have h3:g=w1.heap.size+1:=by simpa using h
     omega
   have HA:=bz (bj hA (bj Fc sQ));clear hA Fc sQ dO cP ch
   go_wp2_with fail
   go_roundw
   case rel=>exact ⟨k+1,by omega,by go_num,a',c',rfl,HA.out.1,HA.out.2.1,HA.out.2.2⟩
   case measure=>simp [intOf];omega
  ·obtain rfl:k=n:=by omega
   go_wp2_with fail
   go_ret
   exact ⟨a,c,rfl,HO.out,HB.out,HF.out⟩
theorem Own.at {w:World} {e:TypeId} {sz n:Nat} {xs:List Value} {v:Value} (h:Own w e sz v n xs) {j:Nat} {u:Value} (hj:xs[j]? = some u):∃ g c,v=.slice (some ⟨g,0,none⟩) n c/\w.cell? ⟨g,j,none⟩=some u:=by
 have cQ:=(List.getElem?_eq_some_iff.1 hj).1
 rcases h.2 with ⟨_,h0⟩ | ⟨g,cap,cur,rfl,_,hg,s_,_,hcs,ht⟩
 ·have:=h.1;rw [h0,Nat.zero_mul] at this;omega
 ·refine ⟨g,cap,rfl,?_⟩
  rw [<- ht] at hj
  rw [List.getElem?_take] at hj
  split at hj
  ·simp only [World.cell?,hg];simpa using hj
  ·simp at hj
theorem Own.short {w:World} {e:TypeId} {sz n m:Nat} {xs:List Value} {a:Option Addr} {c:Nat} (h:Own w e sz (.slice a n c) n xs) (hm:m<=n) (ha:a≠none):Own w e sz (.slice a m c) m (xs.take (m*sz)):=by
 have hl:=h.1
 have hms:m*sz<=n*sz:=Nat.mul_le_mul_right _ hm
 rcases h.2 with ⟨h0,_⟩ | ⟨g,cap,cur,e1,hb,hg,s_,hmx,hcs,ht⟩
 ·simp only [Value.slice.injEq] at h0;exact absurd h0.1 ha
 ·simp only [Value.slice.injEq,true_and] at e1
  obtain ⟨rfl,rfl⟩:=e1
  refine ⟨by rw [List.length_take,hl];omega,.inr ⟨g,c,cur,rfl,hb,hg,by omega,hmx,hcs,?_⟩⟩
  rw [<- ht,List.take_take,Nat.min_eq_left hms]
def qg (log:List (Bs×Int)):List Value:=log.map fun x=>str x.1
def qy (log:List (Bs×Int)):List Value:=log.map fun x=>Value.int .i64 x.2
theorem logM_snoc (log:List (Bs×Int)) (s:Bs) (p:Int):qg (log++[(s,p)])=qg log++[str s]:=by simp [qg]
theorem logP_snoc (log:List (Bs×Int)) (s:Bs) (p:Int):qy (log++[(s,p)])=qy log++[.int .i64 p]:=by simp [qy]
structure MS (keeps:Bool) (most ma:Nat) (log:List (Bs×Int)) (mv pt:Value) (w:World):Prop where
 blk:w.heap[ma]? = some (.cells #[mv,pt,.int .i64 (most:Nat),.int .i64 (log.length:Nat),.bool keeps] 126 (0,0))
 rows:keeps=true->Own w 9 1 mv log.length (qg log)/\Own w 3 1 pt log.length (qy log)
 nil:keeps=false->mv=.slice none 0 0/\pt=.slice none 0 0
 neM:∀ g,mv.ownBlock=some g->g≠ma/\pt.ownBlock≠some g
 neP:∀ g,pt.ownBlock=some g->g≠ma
def MBk (ma:Nat) (mv pt:Value) (b:Nat):Prop:=b=ma\/mv.ownBlock=some b\/pt.ownBlock=some b
theorem MS.but {keeps:Bool} {most ma:Nat} {log:List (Bs×Int)} {mv pt:Value} {m:Nat->Prop} {w w':World} (h:MS keeps most ma log mv pt w) (hb:But m w w') (hm:∀ b,MBk ma mv pt b->¬ m b):MS keeps most ma log mv pt w' :=
 ⟨by rw [hb.block ma (zZ h.blk) (hm ma (.inl rfl))];exact h.blk,
  fun hk=>⟨(h.rows hk).1.keep fun g o hg ho=>by rw [hb.block g (zZ ho) (hm g (.inr (.inl hg)))];exact ho,(h.rows hk).2.keep fun g o hg ho=>by rw [hb.block g (zZ ho) (hm g (.inr (.inr hg)))];exact ho⟩,
  h.nil,h.neM,h.neP⟩
theorem MS.below {keeps:Bool} {most ma:Nat} {log:List (Bs×Int)} {mv pt:Value} {w w':World} (h:MS keeps most ma log mv pt w) (hb:Below w.heap.size w w'):MS keeps most ma log mv pt w' :=
 h.but (m:=fun _=>False) (But.ofBelow hb) fun _ _ h=>h
theorem MBk.lt {keeps:Bool} {most ma:Nat} {log:List (Bs×Int)} {mv pt:Value} {w:World} (h:MS keeps most ma log mv pt w) {b:Nat} (hb:MBk ma mv pt b):b<w.heap.size:=by
 rcases hb with rfl | hb | hb
 ·exact zZ h.blk
 ·cases keeps with
  | true=>exact (h.rows rfl).1.lt hb
  | false=>rw [(h.nil rfl).1] at hb;simp [Value.ownBlock] at hb
 ·cases keeps with
  | true=>exact (h.rows rfl).2.lt hb
  | false=>rw [(h.nil rfl).2] at hb;simp [Value.ownBlock] at hb
theorem Tryz.infoInt:(Tryz.prog.info? 3).map (fun i=>(i.zero,i.size,i.bytes))=some (some (.int .i64 0),1,8):=by kernel_rfl
mutual
def nB:Bd->Prop
 | .leaf _=>True
 | .ask _ ss y n=>ss.length<=15/\nBs ss/\nB y/\nB n
def nBs:List Bd->Prop
 | []=>True
 | b::bs=>nB b/\nBs bs
end
mutual
def okC (n:Nat):Clo->Prop
 | .mk b e _ p=>nB b/\okCs n e/\e.length<=16*n/\p.length<=2*n
def okCs (n:Nat):List Clo->Prop
 | []=>True
 | c::cs=>okC n c/\okCs n cs
end
mutual
theorem okC_mono {n m:Nat} (h:n<=m):∀ c,okC n c->okC m c
 | .mk b e _ p,k=>by
   rw [okC] at *
   exact ⟨k.1,ww h e k.2.1,by have:=k.2.2.1;omega,by have:=k.2.2.2;omega⟩
theorem ww {n m:Nat} (h:n<=m):∀ cs,okCs n cs->okCs m cs
 | [],k=>by rw [okCs] at *;trivial
 | c::cs,k=>by rw [okCs] at *;exact ⟨okC_mono h c k.1,ww h cs k.2⟩
end
def Chg (ma:Nat) (mv pt:Value) (B:Nat) (sv:Value) (i:Nat):Prop:=MBk ma mv pt i\/i=B\/sv.ownBlock=some i
structure FrOk (n:Nat) (f:Fr):Prop where
 fit:frFit f
 yes:nB f.yes
 no:nB f.no
 env:okCs n f.env
 len:f.env.length<=16*n
 path:f.path.length<=2*n
theorem FrOk.mono {n m:Nat} {f:Fr} (h:FrOk n f) (k:n<=m):FrOk m f:=⟨h.fit,h.yes,h.no,ww k _ h.env,by have:=h.len;omega,by have:=h.path;omega⟩
def asInts (xs:List (Bs×Nat)):List (Bs×Int):=xs.map fun y=>(y.1,(y.2:Int))
theorem MS.drew {keeps:Bool} {most ma:Nat} {log:List (Bs×Int)} {mv pt:Value} {w:World} (h:MS keeps most ma log mv pt w):MS keeps most ma log mv pt w.drew:=h.but (m:=fun _=>False) (But.refl _ _).drew fun _ _ h=>h
theorem GlobT.drew {w:World} (h:GlobT w):GlobT w.drew:=h
structure Tri (bb B P:Nat) (v:Nat) (sl yv nv:Value) (begun:Nat) (path:Bs) (q0 q1 q2 q3:Value) (w:World):Prop where
 b:w.heap[bb]? = some (.cells #[str [],.int .i64 v,sl,yv,nv] 105 (0,0))
 g:w.heap[B]? = some (.cells #[.int .i64 (begun:Nat),str path] 115 (0,0))
 p:w.heap[P]? = some (.cells #[q0,q1,q2,q3] 181 (0,0))
theorem Tri.but {bb B P v:Nat} {sl yv nv:Value} {begun:Nat} {path:Bs} {q0 q1 q2 q3:Value} {w w':World} {m:Nat->Prop} (h:Tri bb B P v sl yv nv begun path q0 q1 q2 q3 w) (hb:But m w w') (n1:¬ m bb) (n2:¬ m B) (n3:¬ m P):Tri bb B P v sl yv nv begun path q0 q1 q2 q3 w' :=
 ⟨by rw [hb.block _ (zZ h.b) n1];exact h.b,by rw [hb.block _ (zZ h.g) n2];exact h.g,by rw [hb.block _ (zZ h.p) n3];exact h.p⟩
theorem Tri.below {bb B P v:Nat} {sl yv nv:Value} {begun:Nat} {path:Bs} {q0 q1 q2 q3:Value} {w w':World} (h:Tri bb B P v sl yv nv begun path q0 q1 q2 q3 w) (hb:Below w.heap.size w w'):Tri bb B P v sl yv nv begun path q0 q1 q2 q3 w' :=
 h.but (m:=fun _=>False) (But.ofBelow hb) (fun h=>h) (fun h=>h) (fun h=>h)
theorem Tri.drew {bb B P v:Nat} {sl yv nv:Value} {begun:Nat} {path:Bs} {q0 q1 q2 q3:Value} {w:World} (h:Tri bb B P v sl yv nv begun path q0 q1 q2 q3 w):Tri bb B P v sl yv nv begun path q0 q1 q2 q3 w.drew:=⟨h.b,h.g,h.p⟩
theorem Tri.cells {bb B P v:Nat} {sl yv nv:Value} {begun:Nat} {path:Bs} {q0 q1 q2 q3:Value} {w:World} (h:Tri bb B P v sl yv nv begun path q0 q1 q2 q3 w) :
 w.cell? ⟨bb,2,none⟩=some sl/\w.cell? ⟨bb,3,none⟩=some yv/\w.cell? ⟨bb,4,none⟩=some nv/\w.cell? ⟨B,0,none⟩=some (.int .i64 (begun:Nat))/\w.cell? ⟨B,1,none⟩=some (str path) /\
  w.cell? ⟨P,0,none⟩=some q0/\w.cell? ⟨P,1,none⟩=some q1/\w.cell? ⟨P,2,none⟩=some q2/\w.cell? ⟨P,3,none⟩=some q3/\w.frozen? ⟨B,0,none⟩=false/\w.frozen? ⟨B,1,none⟩=false/\P<w.heap.size/\B<w.heap.size/\bb<w.heap.size :=
 ⟨by simp [World.cell?,h.b],by simp [World.cell?,h.b],by simp [World.cell?,h.b],by simp [World.cell?,h.g],by simp [World.cell?,h.g],by simp [World.cell?,h.p],by simp [World.cell?,h.p],by simp [World.cell?,h.p],by simp [World.cell?,h.p],by simp [World.frozen?,h.g],by simp [World.frozen?,h.g],zZ h.p,zZ h.g,zZ h.b⟩
theorem zM.ofOwn {w:World} {e:TypeId} {sz n:Nat} {v:Value} {xs:List Value} (h:Own w e sz v n xs) (hc:∀ u∈xs,u.oneCell'=true):zM sz v n xs w:=by
 refine ⟨h.1,hc,?_⟩
 rcases h.2 with ⟨rfl,rfl⟩ | ⟨g,cap,cur,rfl,_,hg,_,_,_,ht⟩
 ·exact .inr ⟨rfl,rfl⟩
 ·refine .inl ⟨_,cap,rfl,fun j u hj=>?_⟩
  obtain ⟨g',c',e',sJ⟩:=h.at hj
  simp only [Value.slice.injEq,Option.some.injEq,Addr.mk.injEq,and_true,true_and] at e'
  obtain ⟨rfl,rfl⟩:=e'
  unfold Addr.add
  split
  ·subst j;exact sJ
  ·simpa using sJ
def SubsAt (w:World) (n:Nat) (us:List Value) (sa:Option Addr):Prop:=∀ k,k<n->∃ b o u,sa=some ⟨b,o,none⟩/\us[k]? = some (.pointer (some ⟨u,0,none⟩))/\w.cell? ⟨b,o+k,none⟩=some (.pointer (some ⟨u,0,none⟩))
theorem SubsAt.below {w w':World} {n:Nat} {us:List Value} {sa:Option Addr} (h:SubsAt w n us sa) (hb:Below w.heap.size w w'):SubsAt w' n us sa:=fun k hk=>by
 obtain ⟨b,o,u,e,hu,hc⟩:=h k hk
 exact ⟨b,o,u,e,hu,(hb.cell (bp w _ hc)).trans hc⟩

def pK (w:World) (a:Option Addr) (xs:List Bs):Prop:=∀ (k:Nat) (s:Bs),xs[k]? = some s->∃ b o,a=some ⟨b,o,none⟩/\w.cell? ⟨b,o+k,none⟩=some (str s)
theorem pK.below {w w':World} {a:Option Addr} {xs:List Bs} (h:pK w a xs) (hb:Below w.heap.size w w'):pK w' a xs:=fun k s hs=>by
 obtain ⟨b,o,e,hc⟩:=h k s hs
 exact ⟨b,o,e,(hb.cell (bp w _ hc)).trans hc⟩
theorem Tryz.infoStr:(Tryz.prog.info? 9).map (fun i=>(i.zero,i.size,i.bytes))=some (some (str []),1,16):=by kernel_rfl
theorem MS.slices {keeps:Bool} {most ma:Nat} {log:List (Bs×Int)} {mv pt:Value} {w:World} (h:MS keeps most ma log mv pt w):∃ a n k a' n' k',mv=.slice a n k/\pt=.slice a' n' k':=by
 cases keeps with
 | true =>
   obtain ⟨a,c,e⟩:=(h.rows rfl).1.slice
   obtain ⟨a',c',e'⟩:=(h.rows rfl).2.slice
   exact ⟨_,_,_,_,_,_,e,e'⟩
 | false=>exact ⟨_,_,_,_,_,_,(h.nil rfl).1,(h.nil rfl).2⟩
inductive SC where
 | mk (b:Bd) (t:Ty) (env:List SC) (begun arg:Nat)
def SC.body:SC->Bd | .mk b _ _ _ _=>b
def SC.kind:SC->Ty | .mk _ t _ _ _=>t
def SC.env:SC->List SC | .mk _ _ e _ _=>e
def SC.begun:SC->Nat | .mk _ _ _ n _=>n
def SC.arg:SC->Nat | .mk _ _ _ _ n=>n
structure SF where
 v:Nat
 ss:List Bd
 yes:Bd
 no:Bd
 env:List SC
 opens:Nat
mutual
def simC (keep:Bool) (log:List (Bs×Int)):SC->Clo->Prop
 | .mk b t env bg i,c=>c.body=b/\gO keep log env c.env/\c.begun=bg/\(keep=true->∃ q p,log[bg]? = some (q,p)/\c.path=q.drop 1++dec i)
def gO (keep:Bool) (log:List (Bs×Int)):List SC->List Clo->Prop
 | [],cs=>cs=[]
 | x::xs,cs=>∃ c cs',cs=c::cs'/\simC keep log x c/\gO keep log xs cs'
end
mutual
theorem simC_more {keep:Bool} {log:List (Bs×Int)} (m:List (Bs×Int)):∀ (x:SC) (c:Clo),simC keep log x c->simC keep (log++m) x c
 | .mk b t env bg i,c,h=>by
   rw [simC] at *
   refine ⟨h.1,xH m env _ h.2.1,h.2.2.1,fun hk=>?_⟩
   obtain ⟨q,p,h1,h2⟩:=h.2.2.2 hk
   exact ⟨q,p,by rw [List.getElem?_append_left (List.getElem?_eq_some_iff.1 h1).1];exact h1,h2⟩
theorem xH {keep:Bool} {log:List (Bs×Int)} (m:List (Bs×Int)):∀ (xs:List SC) (cs:List Clo),gO keep log xs cs->gO keep (log++m) xs cs
 | [],cs,h=>by rw [gO] at *;exact h
 | x::xs,cs,h=>by
   rw [gO] at *
   obtain ⟨c,cs',rfl,h1,h2⟩:=h
   exact ⟨c,cs',rfl,simC_more m x c h1,xH m xs cs' h2⟩
end
structure simF (keep:Bool) (log:List (Bs×Int)) (x:SF) (f:Fr):Prop where
 yes:f.yes=x.yes
 no:f.no=x.no
 env:gO keep log x.env f.env
 opens:f.begun=x.opens
 path:keep=true->∃ q p,log[x.opens]? = some (q,p)/\f.path=q.drop 1
theorem simF.more {keep:Bool} {log:List (Bs×Int)} {x:SF} {f:Fr} (h:simF keep log x f) (m:List (Bs×Int)):simF keep (log++m) x f :=
 ⟨h.yes,h.no,xH m _ _ h.env,h.opens,fun hk=>by
  obtain ⟨q,p,h1,h2⟩:=h.path hk
  exact ⟨q,p,by rw [List.getElem?_append_left (List.getElem?_eq_some_iff.1 h1).1];exact h1,h2⟩⟩
def ug (keep:Bool) (log:List (Bs×Int)) (a:Option (UInt8×List (Bs×Int))) (b:Option (UInt8×List (Bs×Nat))):Prop :=
 (b=none->a=none)/\∀ c ms,b=some (c,ms)->∃ log',a=some (c,log')/\(keep=true->log'=log++asInts ms)
theorem ug.step {keep:Bool} {log:List (Bs×Int)} {s:Bs} {n:Nat} {a:Option (UInt8×List (Bs×Int))} {b:Option (UInt8×List (Bs×Nat))} {s':Bs} (h:ug keep (log++[(s,(n:Int))]) a b) (hs:keep=true->s'=s):ug keep log a (b.map fun x=>(x.1,(s',n)::x.2)):=by
 constructor
 ·intro hb
  cases b with
  | none=>exact h.1 rfl
  | some x=>simp at hb
 ·intro c ms hb
  cases b with
  | none=>simp at hb
  | some x =>
    simp only [Option.map_some,Option.some.injEq,Prod.mk.injEq] at hb
    obtain ⟨rfl,rfl⟩:=hb
    obtain ⟨log',h1,h2⟩:=h.2 x.1 x.2 rfl
    exact ⟨log',h1,fun hk=>by rw [h2 hk,hs hk];simp [asInts]⟩
theorem ug.log {keep:Bool} {log:List (Bs×Int)} (c:UInt8):ug keep log (some (c,log)) (some (c,[])) :=
 ⟨fun h=>by simp at h,fun c' ms h=>by
  simp only [Option.some.injEq,Prod.mk.injEq] at h
  obtain ⟨rfl,rfl⟩:=h
  exact ⟨log,rfl,fun _=>by simp [asInts]⟩⟩
theorem ug.none {keep:Bool} {log:List (Bs×Int)}:ug keep log none none:=⟨fun _=>rfl,fun c ms h=>by simp at h⟩
mutual
def okS:SC->Prop
 | .mk b t env _ _=>wfB b/\okSs env/\kE (env.map SC.kind++t.args) b
def okSs:List SC->Prop
 | []=>True
 | x::xs=>okS x/\okSs xs
end
structure okF (x:SF):Prop where
 yes:wfB x.yes
 no:wfB x.no
 env:okSs x.env
 node:kE (x.env.map SC.kind) (.ask x.v x.ss x.yes x.no)
theorem okF.fits {x:SF} (h:okF x):kE (x.env.map SC.kind) x.yes/\kE (x.env.map SC.kind) x.no:=by
 have:=h.node
 rw [kE] at this
 obtain ⟨t,_,_,h1,h2⟩:=this
 exact ⟨h1,h2⟩
def Rn (w:World) (ra:Nat) (mv pt:Value) (moves most:Nat) (bad:Bool):Prop:=w.heap[ra]? = some (.cells #[mv,pt,.int .i64 (moves:Nat),.int .i64 (most:Nat),.bool false,.bool bad] 80 (0,0))
theorem Rn.cells {w:World} {ra:Nat} {mv pt:Value} {moves most:Nat} {bad:Bool} (h:Rn w ra mv pt moves most bad):w.cell? ⟨ra,2,none⟩=some (.int .i64 (moves:Nat))/\w.cell? ⟨ra,3,none⟩=some (.int .i64 (most:Nat))/\w.cell? ⟨ra,4,none⟩=some (.bool false)/\w.cell? ⟨ra,5,none⟩=some (.bool bad)/\w.frozen? ⟨ra,2,none⟩=false/\w.frozen? ⟨ra,5,none⟩=false:=by
 unfold Rn at h
 exact ⟨by simp [World.cell?,h],by simp [World.cell?,h],by simp [World.cell?,h],by simp [World.cell?,h],by simp [World.frozen?,h],by simp [World.frozen?,h]⟩
theorem Rn.below {w w':World} {ra:Nat} {mv pt:Value} {moves most:Nat} {bad:Bool} (h:Rn w ra mv pt moves most bad) (hb:Below w.heap.size w w'):Rn w' ra mv pt moves most bad:=by
 unfold Rn;rw [hb.block ra (zZ h)];exact h
theorem bH {W:World} {g r:Nat} (hr:r<10) (h:W.cell? ⟨g,0,none⟩=some (.int .u8 (48+(r:Int)))) :
 (convert 22 9 (.slice (some ⟨g,0,none⟩) 1 1)).run Tryz.prog W=.ok (str [qo r]) W:=by
 refine run_convert_bytes_back (P:=Tryz.prog) W 22 9 5 ⟨g,0,none⟩ 1 [qo r] Tryz.underlying22 Tryz.underlying5 Tryz.underlying9 (fun j hj=>?_)
 have hj0:j=0:=by simpa using hj
 subst hj0
 have e:(qo r).toNat=48+r:=by rw [qo,UInt8.toNat_ofNat'];exact Nat.mod_eq_of_lt (by omega)
 show W.cell? ((⟨g,0,none⟩:Addr).add 0)=some (.int .u8 ((qo r).toNat:Int))
 rw [e]
 have e2:((48+r:Nat):Int)=48+(r:Int):=by omega
 rw [e2];exact h
theorem conv_new {r:Nat} (hr:r<10) (w:World):(convert 22 9 (.slice (some ⟨w.heap.size,0,none⟩) 1 1)).run Tryz.prog (w.alloc (.cells #[.int .u8 (48+(r:Int))] 5))=.ok (str [qo r]) (w.alloc (.cells #[.int .u8 (48+(r:Int))] 5)) :=
 bH hr (by simp)
theorem conv_newd {r:Nat} (hr:r<10) (w:World):(convert 22 9 (.slice (some ⟨w.heap.size,0,none⟩) 1 1)).run Tryz.prog (w.alloc (.cells #[.int .u8 (48+(r:Int))] 5)).drew=.ok (str [qo r]) (w.alloc (.cells #[.int .u8 (48+(r:Int))] 5)).drew :=
 bH hr (show (w.alloc (.cells #[.int .u8 (48+(r:Int))] 5)).cell? _=_ by simp)
theorem conv_kept {r:Nat} (hr:r<10) {w W:World} (hb:Below (w.alloc (.cells #[.int .u8 (48+(r:Int))] 5)).drew.heap.size (w.alloc (.cells #[.int .u8 (48+(r:Int))] 5)).drew W) :
 (convert 22 9 (.slice (some ⟨w.heap.size,0,none⟩) 1 1)).run Tryz.prog W=.ok (str [qo r]) W :=
 bH hr ((hb.cell (show w.heap.size<(w.alloc (.cells #[.int .u8 (48+(r:Int))] 5)).heap.size by simp)).trans (show (w.alloc (.cells #[.int .u8 (48+(r:Int))] 5)).cell? _=_ by simp))
set_option maxRecDepth 100000 in
theorem l6Dec_small (n:Nat) (hn:n<10) (w:World):Calls Tryz.prog 96 #[.int .i64 (n:Nat)] w fun en w'=>en=.returned (str (dec n))/\Below w.heap.size w w':=by
 have hn':(n:Int)<10:=by omega
 have e:=bz (qD hn)
 have hcv:=conv_new hn w
 go_enter Tryz.func96,Tryz.ntmps96
 go_wp2_with fail
 go_ret
 exact ⟨by rw [e.out];rfl,(bh _ _).alloc (bw _) _⟩
theorem size_alloc_le (w:World) (o:Obj):w.heap.size<=(w.alloc o).drew.heap.size:=by
 show w.heap.size<=(w.alloc o).heap.size
 rw [zK];omega
set_option maxRecDepth 100000 in
theorem l6Dec_step (n:Nat) (hn:¬ n<10) (hl:n<=16777216) (ih:∀ w,Calls Tryz.prog 96 #[.int .i64 ((n / 10:Nat):Int)] w fun en w'=>en=.returned (str (dec (n / 10)))/\Below w.heap.size w w') (w:World) :
 Calls Tryz.prog 96 #[.int .i64 (n:Nat)] w fun en w'=>en=.returned (str (dec n))/\Below w.heap.size w w':=by
 have IH:=bz ih;clear ih
 have hn':¬ (n:Int)<10:=by omega
 have e:=bz (uD hn)
 have q1:(n:Int).tdiv 10=((n / 10:Nat):Int):=gS n 10
 have q2:(n:Int).tmod 10=((n % 10:Nat):Int):=yK n 10
 have hR:n % 10<10:=Nat.mod_lt _ (by omega)
 have hQ:n / 10<=16777216:=br (Nat.div_le_self _ _) hl
 have hD:(dec (n / 10)).length<=8:=jl 7 (n / 10) (by omega)
 generalize n % 10=R at *
 generalize n / 10=Q at *
 have q3:IntKind.i64.wrap (Q:Int)=(Q:Int):=k_ Q (by omega)
 have q4:IntKind.i64.wrap (48+(R:Int))=48+(R:Int):=by rw [show (48:Int)+R=((48+R:Nat):Int) from by omega];exact k_ _ (by omega)
 have q5:IntKind.u8.wrap (48+(R:Int))=48+(R:Int):=by simp [IntKind.wrap,IntKind.bits,IntKind.signed];omega
 have HR:=bz hR
 have rz:=fun w0=>k7 (P:=Tryz.prog) (dec Q) [qo R] (by simp;omega) w0
 have hcv:=conv_newd hR w
 have hcv0:=fun w0=>conv_new hR w0
 go_enter Tryz.func96,Tryz.ntmps96
 go_wp2_with fail
 go_region_with (first
  | (go_at_call 96;refine (IH.out (w.alloc (.cells #[.int .u8 (48+(R:Int))] 5)).drew).mono ?_;rintro en w2 ⟨rfl,cK⟩;have hcv2:=conv_kept HR.out cK;have hbb:=Below.trans (((bh w.heap.size w).alloc (bw _) (.cells #[.int .u8 (48+(R:Int))] 5)).drew) (cK.mono (size_alloc_le w _)))
  | (go_at_call 96;refine (IH.out w.drew).mono ?_;rintro en w2 ⟨rfl,cK⟩;have hbb:=Below.trans ((bh w.heap.size w).drew) cK))
 all_goals
  go_wp2_with fail
  go_ret
  refine ⟨by rw [e.out];rfl,?_⟩
  first
   | exact hbb
   | exact hbb.alloc hbb.size _
theorem wt (n:Nat):n<=16777216->∀ w,Calls Tryz.prog 96 #[.int .i64 (n:Nat)] w fun en w'=>en=.returned (str (dec n))/\Below w.heap.size w w':=by
 induction n using Nat.strongRecOn with
 | _ n ih =>
   intro hl w
   by_cases h:n<10
   ·exact l6Dec_small n h w
   ·exact l6Dec_step n h hl (ih (n / 10) (Nat.div_lt_self (by omega) (by omega)) (br (Nat.div_le_self _ _) hl)) w
def w_ (b:Bd):Prop:=∀ (F:Nat->Prop) (w:World) (s v k y:Value),zv F w (qZ b) [s,v,k,y] ->
 Calls Tryz.prog 57 #[.agg #[s,v,k,y]] w fun en w'=>en=.returned (str (qY b))/\Below w.heap.size w w'
abbrev KeepY (g:Nat) (ky:Value) (eh yo:Nat) (s0 v0 p0 q0 s1 v1 p1 q1:Value) (w':World):Prop :=
 w'.cell? ⟨g,3,none⟩=some ky/\w'.cell? ⟨eh,yo,none⟩=some s0/\w'.cell? ⟨eh,yo+1,none⟩=some v0/\w'.cell? ⟨eh,yo+2,none⟩=some p0/\w'.cell? ⟨eh,yo+3,none⟩=some q0 /\
  w'.cell? ⟨eh,yo+4,none⟩=some s1/\w'.cell? ⟨eh,yo+5,none⟩=some v1/\w'.cell? ⟨eh,yo+6,none⟩=some p1/\w'.cell? ⟨eh,yo+7,none⟩=some q1
theorem KeepY.below {g:Nat} {ky:Value} {eh yo:Nat} {s0 v0 p0 q0 s1 v1 p1 q1:Value} {w w':World} (h:KeepY g ky eh yo s0 v0 p0 q0 s1 v1 p1 q1 w) (hb:Below w.heap.size w w'):KeepY g ky eh yo s0 v0 p0 q0 s1 v1 p1 q1 w':=by
 have key:∀ (a:Addr) (v:Value),w.cell? a=some v->w'.cell? a=some v:=fun a v ha=>by
  rw [hb.cell (bp w _ ha)];exact ha
 obtain ⟨h1,h2,h3,h4,h5,h6,h7,h8,h9⟩:=h
 exact ⟨key _ _ h1,key _ _ h2,key _ _ h3,key _ _ h4,key _ _ h5,key _ _ h6,key _ _ h7,key _ _ h8,key _ _ h9⟩
set_option maxRecDepth 100000 in
theorem l3Text_step (b:Bd) (hl:zg b<=1000000) (dT:lvB b) (ih:∀ b',zg b'<zg b->lvB b'->w_ b'):w_ b:=by
 intro F w s v k y hv
 have e1:=encN_lv hv
 subst e1
 obtain ⟨_,a2,c2,a3,c3,e,hk,hy⟩:=jx hv
 simp only [List.cons.injEq,and_true] at e
 obtain ⟨rfl,_,rfl,rfl⟩:=e
 cases b with
 | leaf c =>
   clear hv hk hy ih
   show Calls Tryz.prog 57 #[.agg #[str [c],.int .i64 (0:Nat),.slice a2 0 c2,.slice a3 0 c3]] w _
   go_enter Tryz.func57,Tryz.ntmps57
   go_wp2_with fail
   go_ret
   exact ⟨rfl,(bh _ _).alloc (bw _) _⟩
 | ask lv ss yb nb =>
   have IH:=bz ih;clear ih
   have er:=yY (.ask lv ss yb nb)
   rw [gr,kw] at er
   change zg (.ask lv ss yb nb)=1+(zL ss+zL [yb,nb]) at er
   have Di:zL [yb,nb]=zg yb+zg nb:=by simp [zL]
   rw [lvB] at dT
   obtain ⟨lv1,lv2,lv3,lv4⟩:=dT
   have t1:=v_ ss lv2
   have t2:=qx yb lv3
   have t3:=qx nb lv4
   have t4:(dec lv).length<=5:=jl 4 lv (by omega)
   obtain ⟨_,_,ek,atk⟩:=bO.of hk
   simp only [Value.slice.injEq,true_and] at ek
   rw [<- ek.1] at atk;clear ek
   obtain ⟨_,_,ek,aty⟩:=bO.of hy
   simp only [Value.slice.injEq,true_and] at ek
   rw [<- ek.1] at aty;clear ek
   change bO F w ss a2 at atk
   change bO F w [yb,nb] a3 at aty
   obtain ⟨eh,yo,s0,v0,p2,m2,d2,p3,m3,d3,yt,ey,hyb0,hyt,u0,u1,u2,u3,rc⟩:=aty 0 (by simp)
   obtain ⟨yb1,yo1,s1,v1,p4,m4,d4,p5,m5,d5,nt,en1,hyb1,hnt,z0,z1,z2,z3,hrn⟩:=aty 1 (by simp)
   rw [ey] at en1
   simp only [Option.some.injEq,Addr.mk.injEq,and_true] at en1
   obtain ⟨rfl,rfl⟩:=en1
   simp only [List.getElem?_cons_zero,Option.some.injEq] at hyt
   simp only [List.getElem?_cons_succ,List.getElem?_cons_zero,Option.some.injEq] at hnt
   subst hyt;subst hnt
   simp only [Nat.zero_mul,Nat.add_zero] at u0 u1 u2 u3
   simp only [Nat.one_mul,Nat.add_assoc,Nat.reduceAdd] at z0 z1 z2 z3
   have nss:ss.length<=16777216:=by have:=je ss;omega
   have n5:=bz er;have HYN:=bz Di
   have ATK:=bz atk
   have LV:=bz lv2;have LV3:=bz lv3;have LV4:=bz lv4
   have lvl:lv<=16777216:=by omega
   have Ek:KeepY w.heap.size (.slice a3 2 c3) eh yo (str s0) (.int .i64 v0) (.slice p2 m2 d2) (.slice p3 m3 d3) (str s1) (.int .i64 v1) (.slice p4 m4 d4) (.slice p5 m5 d5) (w.alloc (.cells #[str [],.int .i64 lv,.slice a2 ss.length c2,.slice a3 2 c3] 64)) :=
    ⟨by simp,zH u0,zH u1,zH u2,zH u3,zH z0,zH z1,zH z2,zH z3⟩
   have Cv:=bz Ek
   have HRY:=bz rc;have HRN:=bz hrn
   subst ey
   clear hv hk hy atk aty er Di lv2 lv3 lv4 u0 u1 u2 u3 z0 z1 z2 z3 rc hrn Ek
   show Calls Tryz.prog 57 #[.agg #[str [],.int .i64 lv,.slice a2 ss.length c2,.slice (some ⟨eh,yo,none⟩) 2 c3]] w _
   have Fn:=fun w0=>k7 (P:=Tryz.prog) [40] (dec lv) (by simp;omega) w0
   go_enter Tryz.func57,Tryz.ntmps57
   go_wp2_with fail
   refine (wt lv lvl _).mono ?_
   rintro en w1 ⟨rfl,bi⟩
   have dg:Below w.heap.size w w1:=Below.trans ((bh w.heap.size w).alloc (bw _) (.cells #[str [],.int .i64 lv,.slice a2 ss.length c2,.slice (some ⟨eh,yo,none⟩) 2 c3] 64)) (bi.mono (by simp))
   have fZ:w1.cell? ⟨w.heap.size,2,none⟩=some (.slice a2 ss.length c2):=(bi.cell (by simp)).trans (by simp)
   have F3:=bz (Cv.out.below bi)
   go_wp2_with fail
   clear Fn
   go_loopw [3,4] (fun o i wr=>∃ k:Nat,k<=ss.length/\i=.int .i64 k/\o=str ([40]++dec lv++kh (ss.take k))/\Below w.heap.size w wr/\wr.cell? ⟨w.heap.size,2,none⟩=some (.slice a2 ss.length c2)/\KeepY w.heap.size (.slice (some ⟨eh,yo,none⟩) 2 c3) eh yo (str s0) (.int .i64 v0) (.slice p2 m2 d2) (.slice p3 m3 d3) (str s1) (.int .i64 v1) (.slice p4 m4 d4) (.slice p5 m5 d5) wr) (fun _ i _=>ss.length-(intOf i).toNat)
   case atStart=>exact ⟨0,Nat.zero_le _,rfl,by simp [kh],dg,fZ,F3.out⟩
   case round =>
    clear fZ F3 Cv dg
    obtain ⟨k,hk,rfl,rfl,hb,fZ,Ek⟩:=hrel
    have Cv:=bz Ek;clear Ek
    have cU:([40]++dec lv++kh (ss.take k)).length<=16777216:=by
     have h1:=pj ss k
     have h2:=n5.out
     simp only [List.length_append,List.length_cons,List.length_nil];omega
    by_cases cQ:k<ss.length
    ·obtain ⟨bb,o,s',v',b2,n2,e2,b3,n3,e3,t,eb,hbb,ht,u0,u1,u2,u3,hr⟩:=ATK.out k cQ
     subst eb
     have q0:=(hb.cell hbb).trans u0
     have q1:=(hb.cell hbb).trans u1
     have q2:=(hb.cell hbb).trans u2
     have q3:=(hb.cell hbb).trans u3
     have mS:=zv.below (F':=fun _=>True) hb (fun _ _=>trivial) hr
     have dQ:=yU ht
     have dt:=vO ss (k+1)
     have mP:=n5.out
     have me:=qx t (lvBs_at _ LV.out k t ht)
     have C:=bz (IH.out t (by omega) (lvBs_at _ LV.out k t ht) _ wr _ _ _ _ mS)
     have HT:=bz (textBs_take ht)
     have ht16:(qY t).length<=16777216:=by omega
     have mH:(k:Int)<(ss.length:Int):=by omega
     generalize hO:[40]++dec lv++kh (ss.take k)=O at *
     have HO:=bz hO
     have oc:=fun w0=>k7 (P:=Tryz.prog) O [32] (by simp;omega) w0
     have oh:=fun w0=>k7 (P:=Tryz.prog) (O++[32]) (qY t) (by simp;omega) w0
     clear hO dQ dt mP me ht u0 u1 u2 u3 hr mS
     go_wp2_with fail
     refine C.out.mono ?_
     rintro en w2 ⟨rfl,cK⟩
     have cH:=zzT hb cK
     have hx2':w2.cell? ⟨w.heap.size,2,none⟩=some (.slice (some ⟨bb,o,none⟩) ss.length c2):=(cK.cell (bp _ ⟨w.heap.size,2,none⟩ fZ)).trans fZ
     have HKY2:=bz (Cv.out.below cK)
     go_wp2_with fail
     go_roundw
     case rel=>exact ⟨k+1,by omega,by go_num,by rw [HT.out,<- HO.out];simp [str],cH,hx2',HKY2.out⟩
     case measure=>simp [intOf];omega
    ·obtain rfl:k=ss.length:=by omega
     rw [List.take_length] at cU ⊢
     have iS:¬ ((ss.length:Int)<(ss.length:Int)):=by omega
     have HE:Hid (qY (.ask lv ss yb nb)=((((([40]++dec lv++kh ss)++[32])++qY yb)++[32])++qY nb)++[41]):=by show qY _=_;rw [qY]
     generalize hO:[40]++dec lv++kh ss=O at *
     clear hO
     obtain ⟨hy3,q0,q1,q2,q3,q4,q5,q6,q7⟩:=Cv.out
     have Dz:=(zv.below (F':=fun _=>True) hb (fun _ _=>trivial) HRY.out).drew
     have DC:=zv.below (F':=fun _=>True) hb (fun _ _=>trivial) HRN.out
     have mP:=n5.out
     have me:=HYN.out
     have y16:(qY yb).length<=16777216:=by omega
     have n16:(qY nb).length<=16777216:=by omega
     have pp:=jW yb;have pq:=jW nb
     have CY:=bz (IH.out yb (by omega) LV3.out _ wr.drew _ _ _ _ Dz)
     have CN:=fun W F' h=>IH.out nb (by omega) LV4.out F' W (str s1) (.int .i64 v1) (.slice p4 m4 d4) (.slice p5 m5 d5) h
     have CN':=bz CN;clear CN
     have RN:=bz DC
     have e16:(O++[32]).length=O.length+1:=by simp
     obtain ⟨O1,h1⟩:=zzM (O++[32])
     obtain ⟨O2,h2⟩:=zzM (O1++qY yb)
     obtain ⟨O3,h3⟩:=zzM (O2++[32])
     obtain ⟨O4,h4⟩:=zzM (O3++qY nb)
     obtain ⟨O5,h5⟩:=zzM (O4++[41])
     have l1:O1.length<=16777217:=by rw [h1];simp;omega
     have l2:O2.length<=33554433:=by rw [h2];simp;omega
     have l3:O3.length<=33554434:=by rw [h3];simp;omega
     have l4:O4.length<=50331650:=by rw [h4];simp;omega
     have oc:=fun w0=>k7 (P:=Tryz.prog) O [32] (by simp;omega) w0
     have oh:=fun w0=>k7 (P:=Tryz.prog) O1 (qY yb) (by omega) w0
     have Fm:=fun w0=>k7 (P:=Tryz.prog) O2 [32] (by simp;omega) w0
     have Fl:=fun w0=>k7 (P:=Tryz.prog) O3 (qY nb) (by omega) w0
     have Fk:=fun w0=>k7 (P:=Tryz.prog) O4 [41] (by simp;omega) w0
     have HE5:Hid (O5=qY (.ask lv ss yb nb)):=by show O5=_;rw [HE.out,h5,h4,h3,h2,h1]
     rw [<- h1] at oc;rw [<- h2] at oh;rw [<- h3] at Fm;rw [<- h4] at Fl;rw [<- h5] at Fk
     clear h1 h2 h3 h4 h5 HE e16 l1 l2 l3 l4
     have hKd:KeepY w.heap.size (.slice (some ⟨eh,yo,none⟩) 2 c3) eh yo (str s0) (.int .i64 v0) (.slice p2 m2 d2) (.slice p3 m3 d3) (str s1) (.int .i64 v1) (.slice p4 m4 d4) (.slice p5 m5 d5) wr.drew:=Cv.out
     clear mP me pp pq Dz DC t1 t2 t3 t4
     go_wp2_with fail
     go_region_held3 (fun w'=>w'.cell? ⟨w.heap.size,3,none⟩=some (.slice (some ⟨eh,yo,none⟩) 2 c3)/\w'.cell? ⟨eh,yo,none⟩=some (str s0)/\w'.cell? ⟨eh,yo+1,none⟩=some (.int .i64 v0)/\w'.cell? ⟨eh,yo+2,none⟩=some (.slice p2 m2 d2)/\w'.cell? ⟨eh,yo+3,none⟩=some (.slice p3 m3 d3)/\w'.cell? ⟨eh,yo+4,none⟩=some (str s1)/\w'.cell? ⟨eh,yo+5,none⟩=some (.int .i64 v1)/\w'.cell? ⟨eh,yo+6,none⟩=some (.slice p4 m4 d4)/\w'.cell? ⟨eh,yo+7,none⟩=some (.slice p5 m5 d5))
      (first
       | with_reducible exact hKd
       | with_reducible exact ij
       | with_reducible exact hK4)
      (first
       | (go_at_call 57;refine (CN'.out _ _ rn3).mono ?_;rintro en w4 ⟨rfl,cm⟩;have hK4:=ij.below cm)
       | (go_at_call 57;refine CY.out.mono ?_;rintro en w3 ⟨rfl,cH⟩;have ij:=hKd.below cH;have rn3:=zv.below (F':=fun _=>True) cH (fun _ _=>trivial) RN.out.drew))
     go_wp2_with fail
     go_ret
     exact ⟨by rw [<- HE5.out];rfl,hb.trans ((((bh _ wr).drew).trans (zzT cH cm)).mono hb.size)⟩
theorem l3Text_any (n:Nat):∀ b,zg b<=n->n<=1000000->lvB b->w_ b:=by
 induction n with
 | zero=>intro b h _;have:=jW b;omega
 | succ n ih=>exact fun b h hn dT=>l3Text_step b (by omega) dT (fun b' h' dd=>ih b' (by omega) (by omega) dd)
mutual
def encSC:SC->List DV
 | .mk b t env bg i=>[.val (.int .i64 (-1))]++(qZ b++[qP t,.sl 187 9 env.length (encSCs env),.val (.int .i64 (bg:Nat)),.val (.int .i64 (i:Nat))])
def encSCs:List SC->List DV
 | []=>[]
 | x::xs=>encSC x++encSCs xs
end
structure RS (keep:Bool) (most ra:Nat) (log:List (Bs×Int)) (mv pt:Value) (w:World):Prop where
 blk:w.heap[ra]? = some (.cells #[mv,pt,.int .i64 (log.length:Nat),.int .i64 (most:Nat),.bool keep,.bool (decide (most<log.length))] 80 (0,0))
 sls:∃ a n k a' n' k',mv=.slice a n k/\pt=.slice a' n' k'
 rows:keep=true->log.length<=most->Own w 9 1 mv log.length (qg log)/\Own w 3 1 pt log.length (qy log)
 ne:∀ g,mv.ownBlock=some g\/pt.ownBlock=some g->g≠ra/\g<w.heap.size
theorem RS.but {keep:Bool} {most ra:Nat} {log:List (Bs×Int)} {mv pt:Value} {m:Nat->Prop} {w w':World} (h:RS keep most ra log mv pt w) (hb:But m w w') (hm:∀ b,MBk ra mv pt b->¬ m b):RS keep most ra log mv pt w' :=
 ⟨by rw [hb.block ra (zZ h.blk) (hm ra (.inl rfl))];exact h.blk,h.sls,
  fun hk hl=>⟨(h.rows hk hl).1.keep fun g o hg ho=>by rw [hb.block g (zZ ho) (hm g (.inr (.inl hg)))];exact ho,(h.rows hk hl).2.keep fun g o hg ho=>by rw [hb.block g (zZ ho) (hm g (.inr (.inr hg)))];exact ho⟩,
  fun g hg=>⟨(h.ne g hg).1,bm (h.ne g hg).2 hb.size⟩⟩
theorem RS.below {keep:Bool} {most ra:Nat} {log:List (Bs×Int)} {mv pt:Value} {w w':World} (h:RS keep most ra log mv pt w) (hb:Below w.heap.size w w'):RS keep most ra log mv pt w' :=
 h.but (m:=fun _=>False) (But.ofBelow hb) fun _ _ h=>h
theorem RS.drew {keep:Bool} {most ra:Nat} {log:List (Bs×Int)} {mv pt:Value} {w:World} (h:RS keep most ra log mv pt w):RS keep most ra log mv pt w.drew:=h.but (m:=fun _=>False) (But.refl _ _).drew fun _ _ h=>h
theorem RS.lt {keep:Bool} {most ra:Nat} {log:List (Bs×Int)} {mv pt:Value} {w:World} (h:RS keep most ra log mv pt w) {b:Nat} (hb:MBk ra mv pt b):b<w.heap.size:=by
 rcases hb with rfl | hb | hb
 ·exact zZ h.blk
 ·exact (h.ne b (.inl hb)).2
 ·exact (h.ne b (.inr hb)).2
theorem RS.bad {keep:Bool} {most ra:Nat} {log:List (Bs×Int)} {mv pt:Value} {w:World} (h:RS keep most ra log mv pt w):w.cell? ⟨ra,5,none⟩=some (.bool (decide (most<log.length))):=by simp [World.cell?,h.blk]
structure BoxS (F:Nat->Prop) (B:Nat) (b:Bd) (v:Int) (x2 x3:Value) (w:World):Prop where
 blk:w.heap[B]? = some (.cells #[str (jm b),.int .i64 v,x2,x3] 64 (0,0))
 rep:zv F w (qZ b) [str (jm b),.int .i64 v,x2,x3]
def encSF (x:SF):List DV:=qZ (.ask x.v x.ss x.yes x.no)++[.sl 187 9 x.env.length (encSCs x.env),.val (.int .i64 (x.opens:Nat))]
def encSFs:List SF->List DV
 | []=>[]
 | x::xs=>encSF x++encSFs xs
mutual
def okN (n:Nat):SC->Prop
 | .mk b _ e bg i=>nB b/\okNs n e/\e.length<=16*n/\bg<n/\i<=15
def okNs (n:Nat):List SC->Prop
 | []=>True
 | c::cs=>okN n c/\okNs n cs
end
mutual
theorem okN_mono {n m:Nat} (h:n<=m):∀ c,okN n c->okN m c
 | .mk b _ e bg i,k=>by
   rw [okN] at *
   exact ⟨k.1,wu h e k.2.1,by have:=k.2.2.1;omega,by have:=k.2.2.2.1;omega,k.2.2.2.2⟩
theorem wu {n m:Nat} (h:n<=m):∀ cs,okNs n cs->okNs m cs
 | [],k=>by rw [okNs] at *;trivial
 | c::cs,k=>by rw [okNs] at *;exact ⟨okN_mono h c k.1,wu h cs k.2⟩
end
structure SFOk (n:Nat) (x:SF):Prop where
 ok:okF x
 yes:nB x.yes
 no:nB x.no
 env:okNs n x.env
 len:x.env.length<=16*n
 opens:x.opens<n
theorem SFOk.mono {n m:Nat} {x:SF} (h:SFOk n x) (k:n<=m):SFOk m x:=⟨h.ok,h.yes,h.no,wu k _ h.env,by have:=h.len;omega,by have:=h.opens;omega⟩
def LogOk (log:List (Bs×Int)):Prop:=∀ (i:Nat) (q:Bs) (p:Int),log[i]? = some (q,p)->1<=q.length/\q.length<=2*log.length+1
theorem LogOk.snoc {log:List (Bs×Int)} (h:LogOk log) {s:Bs} {p:Int} (h1:1<=s.length) (h2:s.length<=2*log.length+3):LogOk (log++[(s,p)]):=by
 intro i q p' hi
 have hl:(log++[(s,p)]).length=log.length+1:=by simp
 rw [hl]
 rcases Nat.lt_or_ge i log.length with cQ | lF
 ·rw [List.getElem?_append_left cQ] at hi
  have:=h i q p' hi
  omega
 ·rw [List.getElem?_append_right lF] at hi
  rcases Nat.eq_zero_or_pos (i-log.length) with h0 | h0
  ·rw [h0] at hi;simp at hi;obtain ⟨rfl,rfl⟩:=hi;omega
  ·rw [List.getElem?_eq_none (by simp;omega)] at hi;simp at hi
structure GoAt (keep:Bool) (most ra:Nat) (Df Db:Value) (w:World) (B:Nat) (b:Bd) (env:List SC) (opens:Nat) (st:List SF) (log:List (Bs×Int)) (mv pt:Value) (v:Int) (x2 x3 ev sv:Value) (cells:List Value) (wr:World):Prop where
 rs:RS keep most ra log mv pt wr
 box:BoxS (fun i=>¬ Chg ra mv pt B sv i) B b v x2 x3 wr
 re:Rep (fun i=>¬ Chg ra mv pt B sv i) wr (.sl 187 9 env.length (encSCs env)) ev
 own:Own wr 185 6 sv st.length cells
 rf:zv (fun i=>¬ Chg ra mv pt B sv i) wr (encSFs st.reverse) cells
 but:But (MBk ra Df Db) w wr
 new:∀ i,MBk ra mv pt i->MBk ra Df Db i\/w.heap.size<=i
 bB:w.heap.size<=B/\¬ MBk ra mv pt B
 sB:∀ g,sv.ownBlock=some g->w.heap.size<=g/\g≠B/\¬ MBk ra mv pt g
theorem GoAt.drew {keep:Bool} {most ra:Nat} {Df Db:Value} {w:World} {B:Nat} {b:Bd} {env:List SC} {opens:Nat} {st:List SF} {log:List (Bs×Int)} {mv pt:Value} {v:Int} {x2 x3 ev sv:Value} {cells:List Value} {wr:World} (h:GoAt keep most ra Df Db w B b env opens st log mv pt v x2 x3 ev sv cells wr) :
 GoAt keep most ra Df Db w B b env opens st log mv pt v x2 x3 ev sv cells wr.drew :=
 ⟨h.rs.drew,⟨h.box.blk,h.box.rep.drew⟩,h.re.drew,h.own.drew,h.rf.drew,h.but.drew,h.new,h.bB,h.sB⟩
theorem cells1 {m:Nat->Prop} {w w':World} {a:Addr} {u:Value} (hb:But m w w') (ha:w.cell? a=some u) (na:¬ m a.block):w'.cell? a=some u:=(hb.cell (bp w _ ha) na).trans ha
theorem Rep.alloc {F:Nat->Prop} {w:World} {d:DV} {v:Value} (h:Rep F w d v) (o:Obj):Rep F (w.alloc o) d v:=(Rep.keep fun _ _ hf ho=>⟨hf,zD ho⟩).1 _ _ h

def Made (g:Nat) (xs:List Bs) (k:Nat) (w:World):Prop :=
 ∃ Y:Array Value,w.heap[g]? = some (.cells Y 9 (0,0))/\Y.size=xs.length/\∀ (j:Nat) (s:Bs),j<k->xs[j]? = some s->Y[j]? = some (str s)
theorem Made.cell {g:Nat} {xs:List Bs} {k:Nat} {w:World} (h:Made g xs k w) (hk:k<xs.length):(∃ u,w.cell? ⟨g,k,none⟩=some u)/\w.frozen? ⟨g,k,none⟩=false:=by
 obtain ⟨Y,hY,hs,_⟩:=h
 exact ⟨⟨Y[k]'(by omega),by simp [World.cell?,hY,show k<Y.size by omega]⟩,by simp [World.frozen?,hY]⟩
theorem Made.put {g:Nat} {xs:List Bs} {k:Nat} {w:World} (h:Made g xs k w) {s:Bs} (hk:xs[k]? = some s):Made g xs (k+1) (w.setCell ⟨g,k,none⟩ (str s)):=by
 obtain ⟨Y,hY,hs,hj⟩:=h
 refine ⟨Y.setIfInBounds k (str s),k8 hY,by simp [hs],fun j s' hj' mR=>?_⟩
 have cQ:=(List.getElem?_eq_some_iff.1 hk).1
 rcases Nat.lt_or_ge j k with h | h
 ·rw [Array.getElem?_setIfInBounds_ne (by omega)];exact hj j s' h mR
 ·obtain rfl:j=k:=by omega
  rw [hk] at mR;simp at mR;subst mR
  rw [Array.getElem?_setIfInBounds_self_of_lt (by omega)]

def markT (k:Nat):Bs:=109::dec k
def marksS (k n:Nat):List Value:=(List.range n).map fun i=>str (markT (k+i))
def marksI (k n:Nat):List Value:=(List.range n).map fun i:Nat=>Value.int .i64 ((k:Int)+(i:Int))
def bI (k j:Nat) (O:Bs):Prop:=dec k=(if j=0 then [] else dec j)++O/\j<=k
theorem bI.next {k j:Nat} {O:Bs} (h:bI k j O) (hj:0<j):bI k (j / 10) ([qo (j % 10)]++O):=by
 obtain ⟨h1,h2⟩:=h
 refine ⟨?_,br (Nat.div_le_self _ _) h2⟩
 rw [if_neg (by omega)] at h1
 rw [h1]
 by_cases h10:j<10
 ·rw [qD h10,Nat.div_eq_of_lt h10,Nat.mod_eq_of_lt h10];simp
 ·rw [uD h10,if_neg (by omega),List.append_assoc]
theorem bI.len {k j:Nat} {O:Bs} (h:bI k j O) (hk:k<=100000000):O.length<=9:=by
 have:=jl 8 k (by omega)
 rw [h.1,List.length_append] at this
 omega
theorem bI.done {k:Nat} {O:Bs} (h:bI k 0 O):dec k=O:=by have:=h.1;simpa using this
theorem Own.open1 {w:World} {e:TypeId} {a:Option Addr} {n c:Nat} {xs:List Value} (h:Own w e 1 (.slice a n c) n xs) {j:Nat} (hj:j<n) :
 ∃ g,a=some ⟨g,0,none⟩/\g<w.heap.size/\(Value.slice a n c).ownBlock=some g/\(∃ u,xs[j]? = some u/\w.cell? ⟨g,j,none⟩=some u)/\w.frozen? ⟨g,j,none⟩=false:=by
 obtain ⟨hl,⟨_,h0⟩ | ⟨g,cap,cur,hv,_,hg,s_,_,hcs,mV⟩⟩:=h
 ·omega
 ·simp only [Value.slice.injEq] at hv
  obtain ⟨rfl,_,rfl⟩:=hv
  have hjc:j<cur.size:=by omega
  refine ⟨g,rfl,zZ hg,rfl,⟨cur[j],?_,?_⟩,?_⟩
  ·rw [<- mV,List.getElem?_take,if_pos (by omega)];simp [hjc]
  ·simp [World.cell?,hg,hjc]
  ·simp [World.frozen?,hg]
theorem Own.put1 {w:World} {e:TypeId} {g n c:Nat} {xs:List Value} (h:Own w e 1 (.slice (some ⟨g,0,none⟩) n c) n xs) (j:Nat) (u:Value):Own (w.setCell ⟨g,j,none⟩ u) e 1 (.slice (some ⟨g,0,none⟩) n c) n (xs.set j u):=by
 obtain ⟨hl,⟨h0,_⟩ | ⟨g',cap,cur,hv,h0,hg,s_,AW,hcs,mV⟩⟩:=h
 ·cases h0
 ·simp only [Value.slice.injEq,Option.some.injEq,Addr.mk.injEq] at hv
  obtain ⟨⟨rfl,_,_⟩,_,rfl⟩:=hv
  refine ⟨by simpa using hl,.inr ⟨g,c,cur.setIfInBounds j u,rfl,h0,k8 hg,s_,AW,by simpa using hcs,?_⟩⟩
  rw [Array.toList_setIfInBounds,<- mV,List.take_set]
theorem Own.strs {w:World} {e:TypeId} {a:Option Addr} {n c:Nat} {xs:List Bs} (h:Own w e 1 (.slice a n c) n (xs.map str)):pK w a xs:=by
 intro k s hs
 have hk:k<n:=by
  have:=h.1
  have h2:=(List.getElem?_eq_some_iff.1 hs).1
  simp at this;omega
 obtain ⟨g,rfl,_,_,⟨u,hu,hc⟩,_⟩:=h.open1 hk
 rw [List.getElem?_map,hs] at hu
 simp at hu
 exact ⟨g,0,rfl,by rw [Nat.zero_add,hu];exact hc⟩
section
variable {P:Program} {ops:Array Oper} {Q:Exit->Act->World->Prop} {md:Region.Mode}
def set1 (b:Nat->Bool) (i:Nat):Nat->Bool:=fun k=>if k=i then true else b k
def yC (L:Array Bool):Nat->Bool:=fun k=>L.getD k false
theorem lsOf_set (L:Array Bool) (i:Nat) (h:i<L.size):yC (L.setIfInBounds i true)=set1 (yC L) i:=by
 funext k
 unfold yC set1
 by_cases hk:k=i
 ·subst hk;rw [if_pos rfl];simp [h]
 ·rw [if_neg hk];simp only [Array.getD_eq_getD_getElem?];rw [Array.getElem?_setIfInBounds_ne (fun e=>hk e.symm)]
def wv (L:Array Bool):Nat:=(L.toList.filter fun x=>!x).length
theorem openOf_set (L:Array Bool) (i:Nat) (h:i<L.size) (hf:L.getD i true=false):wv (L.setIfInBounds i true)+1=wv L:=by
 unfold wv
 rw [Array.toList_setIfInBounds]
 have key:∀ (l:List Bool) (i:Nat),i<l.length->l.getD i true=false->((l.set i true).filter fun x=>!x).length+1=(l.filter fun x=>!x).length:=by
  intro l
  induction l with
  | nil=>intro i h;simp at h
  | cons x l ih =>
    intro i h hf
    cases i with
    | zero=>simp at hf;subst hf;simp
    | succ i =>
      have:=ih i (by simpa using h) (by simpa using hf)
      simp only [List.set_cons_succ,List.filter_cons]
      cases x <;> simp <;> omega
 refine key _ i (by simpa using h) ?_
 simpa [Array.getD_eq_getD_getElem?,List.getD_eq_getElem?_getD] using hf
theorem wpAny_inv {I:(Nat->Bool)->Act->World->Prop} (Fp:∀ (i:Nat) (o:Oper),ops[i]? = some o->∀ e∈o.after,e.on<i)
 (step:∀ (b:Nat->Bool) (a:Act) (w:World) (i:Nat) (o:Oper),ops[i]? = some o->b i=false->(∀ e∈o.after,Region.binds md e=true->b e.on=true)->I b a w ->
  ∀ K':Act->World->Prop,(∀ a w,I (set1 b i) a w->K' a w)->if Region.wanted o (yielded ops a.tmps)=true then Oper.wp P o a w K' Q else K' (a.put o.dst undef) w)
 (done:∀ (b:Nat->Bool) (a:Act) (w:World),(∀ i,i<ops.size->b i=true)->I b a w->Q .normal a w) :
 ∀ (fuel:Nat) (L:Array Bool) (a:Act) (w:World),L.size=ops.size->wv L<=fuel->I (yC L) a w->wpAny P md ops Q fuel L a w:=by
 have At:∀ (L:Array Bool),L.size=ops.size->Region.ready md ops L=[]->∀ i,i<ops.size->yC L i=true:=by
  intro L hL hr i
  induction i using Nat.strongRecOn with
  | _ i ih =>
    intro hi
    cases hb:yC L i with
    | true=>rfl
    | false =>
      exfalso
      have:i∈Region.ready md ops L:=by
       unfold Region.ready
       rw [List.mem_filter]
       refine ⟨List.mem_range.2 hi,?_⟩
       have ho:ops[i]? = some ops[i]:=by simp [hi]
       rw [ho]
       have h1:L.getD i true=false:=by
        unfold yC at hb
        have h2:L[i]? = some L[i]:=by simp [hL,hi]
        simp only [Array.getD_eq_getD_getElem?,h2,Option.getD_some] at hb ⊢
        exact hb
       simp only [h1,Bool.not_false,Bool.true_and,Option.map_some,Option.getD_some]
       rw [Array.all_eq_true']
       intro e he
       rw [Bool.or_eq_true]
       right
       exact ih e.on (Fp i _ ho e he) (by have:=Fp i _ ho e he;omega)
      rw [hr] at this;simp at this
 intro fuel
 induction fuel with
 | zero =>
   intro L a w hL hf hI
   have cF:∀ i,i<ops.size->yC L i=true:=by
    intro i hi
    cases hb:yC L i with
    | true=>rfl
    | false =>
      exfalso
      have:wv L=0:=by omega
      unfold wv at this
      rw [List.length_eq_zero_iff,List.filter_eq_nil_iff] at this
      unfold yC at hb
      have h2:L[i]? = some L[i]:=by simp [hL,hi]
      simp only [Array.getD_eq_getD_getElem?,h2,Option.getD_some] at hb
      have:=this L[i] (by simp)
      rw [hb] at this;simp at this
   rw [wpAny]
   refine ⟨?_,done _ _ _ cF hI⟩
   cases hr:Region.ready md ops L with
   | nil=>rfl
   | cons i rs =>
     exfalso
     have hm:i∈Region.ready md ops L:=by rw [hr];simp
     unfold Region.ready at hm
     rw [List.mem_filter,List.mem_range] at hm
     obtain ⟨hi,h2⟩:=hm
     have:=cF i hi
     unfold yC at this
     have h3:L[i]? = some L[i]:=by simp [hL,hi]
     simp only [Array.getD_eq_getD_getElem?,h3,Option.getD_some] at this h2
     rw [this] at h2;simp at h2
 | succ fuel ih =>
   intro L a w hL hf hI
   rw [wpAny]
   refine ⟨fun hr=>done _ _ _ (At L hL hr) hI,fun i hi=>?_⟩
   unfold Region.ready at hi
   rw [List.mem_filter,List.mem_range] at hi
   obtain ⟨hi,h2⟩:=hi
   have ho:ops[i]? = some ops[i]:=by simp [hi]
   rw [ho] at h2
   simp only [Option.map_some,Option.getD_some,Bool.and_eq_true,Bool.not_eq_true'] at h2
   obtain ⟨h3,h4⟩:=h2
   rw [Array.all_eq_true'] at h4
   have h5:yC L i=false:=by
    unfold yC
    have:L[i]? = some L[i]:=by simp [hL,hi]
    simp only [Array.getD_eq_getD_getElem?,this,Option.getD_some] at *
    exact h3
   refine wpOp_step ho fun K' hK=>?_
   refine step (yC L) a w i ops[i] ho h5 (fun e he hb=>?_) hI K' fun a' w' h'=>hK a' w' (ih _ _ _ (by simpa using hL) (by have:=openOf_set L i (by omega) h3;omega) (by rw [lsOf_set L i (by omega)];exact h'))
   have:=h4 e he
   rw [hb] at this
   simpa [yC] using this
def acyB (ops:Array Oper):Bool:=(List.range ops.size).all fun i=>match ops[i]? with
 | some o=>o.after.toList.all fun e=>decide (e.on<i)
 | none=>true
theorem acy_of (h:acyB ops=true) (i:Nat) (o:Oper) (ho:ops[i]? = some o) (e) (he:e∈o.after):e.on<i:=by
 have hi:i<ops.size:=(Array.getElem?_eq_some_iff.1 ho).1
 unfold acyB at h
 rw [List.all_eq_true] at h
 have:=h i (List.mem_range.2 hi)
 rw [ho] at this
 simp only [List.all_eq_true] at this
 have:=this e (by simpa using he)
 simpa using this
end
theorem zM.slice1 {size:Nat} {x:Value} {m:Nat} {news:List Value} {w:World} (h:zM size x m news w):∃ a c,x=.slice a m c:=by
 obtain ⟨_,_,⟨a,c,rfl,_⟩ | ⟨rfl,rfl⟩⟩:=h
 ·exact ⟨_,_,rfl⟩
 ·exact ⟨_,_,rfl⟩
theorem setc_at {w:World} {b o:Nat} {c:Array Value} {e:TypeId} {u:Value} (h:w.heap[b]? = some (.cells c e (0,0))):(w.setCell ⟨b,o,none⟩ u).heap[b]? = some (.cells (c.setIfInBounds o u) e (0,0)):=by
 have cQ:=zZ h
 have h':w.heap[b]=.cells c e (0,0):=by simpa [Array.getElem?_eq_getElem cQ] using h
 show (w.heap.modify b _)[b]? = _
 rw [Array.getElem?_eq_getElem (by simpa using cQ),Array.getElem_modify_self,h']
 simp
theorem cells2 {w:World} {P:Nat} {u v:Value} {T:TypeId} (h:w.heap[P]? = some (.cells #[u,v] T (0,0))):w.cell? ⟨P,0,none⟩=some u/\w.cell? ⟨P,1,none⟩=some v/\w.frozen? ⟨P,0,none⟩=false/\w.frozen? ⟨P,1,none⟩=false :=
 ⟨by simp [World.cell?,h],by simp [World.cell?,h],by simp [World.frozen?,h],by simp [World.frozen?,h]⟩
def Res (B:Nat) (tag:Nat->Nat) (t:Nat) (w:World) (e:TypeId) (v:Value) (n:Nat) (xs:List Value):Prop :=
 Own w e 1 v n xs/\∀ g,v.ownBlock=some g->tag g=t/\B<=g
def zS (tag:Nat->Nat) (g t:Nat):Nat->Nat:=fun i=>if i=g then t else tag i
theorem Res.alloc {B:Nat} {tag:Nat->Nat} {t:Nat} {w:World} {e:TypeId} {v:Value} {n:Nat} {xs:List Value} (h:Res B tag t w e v n xs) (o:Obj) (t':Nat):Res B (zS tag w.heap.size t') t (w.alloc o) e v n xs :=
 ⟨h.1.alloc o,fun g hg=>⟨by have:=h.1.lt hg;unfold zS;rw [if_neg (by omega)];exact (h.2 g hg).1,(h.2 g hg).2⟩⟩
theorem Res.but {B:Nat} {tag:Nat->Nat} {t:Nat} {w w':World} {e:TypeId} {v:Value} {n:Nat} {xs:List Value} (h:Res B tag t w e v n xs) {m:Nat->Prop} (hb:But m w w') (hm:∀ g,m g->tag g≠t) (t':Nat):Res B (zS tag w.heap.size t') t w' e v n xs :=
 ⟨h.1.keep fun g o hg ho=>by rw [hb.block g (zZ ho) (fun hmg=>hm g hmg (h.2 g hg).1)];exact ho,fun g hg=>⟨by have:=h.1.lt hg;unfold zS;rw [if_neg (by omega)];exact (h.2 g hg).1,(h.2 g hg).2⟩⟩
theorem Res.lit {B:Nat} (tag:Nat->Nat) (t:Nat) {w:World} (hB:B<=w.heap.size) (e:TypeId) (cs:Array Value) (n:Nat) (hm:n<=maxLen) (hs:cs.size=n):Res B (zS tag w.heap.size t) t (w.alloc (.cells cs e)) e (.slice (some ⟨w.heap.size,0,none⟩) n n) n cs.toList :=
 ⟨Own.lit cs n hm (by omega),fun g hg=>by
  simp [Value.ownBlock] at hg;subst hg
  exact ⟨by unfold zS;rw [if_pos rfl],hB⟩⟩
structure kq (B:Nat) (tag:Nat->Nat) (t1 t2:Nat) (e:TypeId) (n:Nat) (xs:List Value) (u:Value) (A C A' C':Bool) (vA vC vA' vC':Value) (w:World):Prop where
 a:A=true->C=false->(∃ g,vA=.slice (some ⟨g,0,none⟩) 0 0)/\Res B tag t1 w e vA 0 []
 c:C=true->C'=false->Res B tag t1 w e vC n xs
 a':A'=true->C'=false->(∃ g,vA'=.slice (some ⟨g,0,none⟩) 1 1)/\Res B tag t2 w e vA' 1 [u]
 c':C'=true->Res B tag t1 w e vC' (n+1) (xs++[u])
 cl:C'=true->C=true
section
variable {B:Nat} {tag:Nat->Nat} {t1 t2:Nat} {e:TypeId} {n:Nat} {xs:List Value} {u:Value} {A C A' C':Bool} {vA vC vA' vC':Value} {w:World}
theorem kq.start (B:Nat) (tag:Nat->Nat) (t1 t2:Nat) (e:TypeId) (n:Nat) (xs:List Value) (u vA vC vA' vC':Value) (w:World):kq B tag t1 t2 e n xs u false false false false vA vC vA' vC' w :=
 ⟨fun h=>Bool.noConfusion h,fun h=>Bool.noConfusion h,fun h=>Bool.noConfusion h,fun h=>Bool.noConfusion h,fun h=>Bool.noConfusion h⟩
theorem kq.alloc (h:kq B tag t1 t2 e n xs u A C A' C' vA vC vA' vC' w) (o:Obj) (t':Nat):kq B (zS tag w.heap.size t') t1 t2 e n xs u A C A' C' vA vC vA' vC' (w.alloc o) :=
 ⟨fun h1 h2=>⟨(h.a h1 h2).1,(h.a h1 h2).2.alloc o t'⟩,fun h1 h2=>(h.c h1 h2).alloc o t',fun h1 h2=>⟨(h.a' h1 h2).1,(h.a' h1 h2).2.alloc o t'⟩,fun h1=>(h.c' h1).alloc o t',h.cl⟩
theorem kq.but (h:kq B tag t1 t2 e n xs u A C A' C' vA vC vA' vC' w) {w':World} {m:Nat->Prop} (hb:But m w w') (hm:∀ g,m g->tag g≠t1/\tag g≠t2) (t':Nat):kq B (zS tag w.heap.size t') t1 t2 e n xs u A C A' C' vA vC vA' vC' w' :=
 ⟨fun h1 h2=>⟨(h.a h1 h2).1,(h.a h1 h2).2.but hb (fun g k=>(hm g k).1) t'⟩,fun h1 h2=>(h.c h1 h2).but hb (fun g k=>(hm g k).1) t',fun h1 h2=>⟨(h.a' h1 h2).1,(h.a' h1 h2).2.but hb (fun g k=>(hm g k).2) t'⟩,fun h1=>(h.c' h1).but hb (fun g k=>(hm g k).1) t',h.cl⟩
theorem Res.low {t:Nat} {v:Value} {k:Nat} {ys:List Value} (h:Res B tag t w e v k ys) {w':World} {m:Nat->Prop} (hb:But m w w') (hm:∀ g,m g->g<B):Res B tag t w' e v k ys :=
 ⟨h.1.keep fun g o hg ho=>by rw [hb.block g (zZ ho) (fun hmg=>by have:=hm g hmg;have:=(h.2 g hg).2;omega)];exact ho,h.2⟩
theorem kq.low (h:kq B tag t1 t2 e n xs u A C A' C' vA vC vA' vC' w) {w':World} {m:Nat->Prop} (hb:But m w w') (hm:∀ g,m g->g<B):kq B tag t1 t2 e n xs u A C A' C' vA vC vA' vC' w' :=
 ⟨fun h1 h2=>⟨(h.a h1 h2).1,(h.a h1 h2).2.low hb hm⟩,fun h1 h2=>(h.c h1 h2).low hb hm,fun h1 h2=>⟨(h.a' h1 h2).1,(h.a' h1 h2).2.low hb hm⟩,fun h1=>(h.c' h1).low hb hm,h.cl⟩
theorem kq.stepA (h:kq B tag t1 t2 e n xs u A C A' C' vA vC vA' vC' w) (hB:B<=w.heap.size):kq B (zS tag w.heap.size t1) t1 t2 e n xs u true C A' C' (.slice (some ⟨w.heap.size,0,none⟩) 0 0) vC vA' vC' (w.alloc (.cells #[] e)) :=
 ⟨fun _ _=>⟨⟨_,rfl⟩,Res.lit tag t1 hB e #[] 0 (Nat.zero_le _) rfl⟩,fun h1 h2=>(h.c h1 h2).alloc _ _,fun h1 h2=>⟨(h.a' h1 h2).1,(h.a' h1 h2).2.alloc _ _⟩,fun h1=>(h.c' h1).alloc _ _,h.cl⟩
theorem kq.stepA' (h:kq B tag t1 t2 e n xs u A C A' C' vA vC vA' vC' w) (hB:B<=w.heap.size):kq B (zS tag w.heap.size t2) t1 t2 e n xs u A C true C' vA vC (.slice (some ⟨w.heap.size,0,none⟩) 1 1) vC' (w.alloc (.cells #[u] e)) :=
 ⟨fun h1 h2=>⟨(h.a h1 h2).1,(h.a h1 h2).2.alloc _ _⟩,fun h1 h2=>(h.c h1 h2).alloc _ _,fun _ _=>⟨⟨_,rfl⟩,Res.lit tag t2 hB e #[u] 1 (by unfold maxLen;omega) rfl⟩,fun h1=>(h.c' h1).alloc _ _,h.cl⟩
theorem Res.app {t:Nat} {v v':Value} {k m:Nat} {ys zs:List Value} {w':World} (h:Res B tag t w e v k ys) (hB:B<=w.heap.size) (ho:Own w' e 1 v' m zs) (hg:∀ g,v'.ownBlock=some g->v.ownBlock=some g\/g=w.heap.size):Res B (zS tag w.heap.size t) t w' e v' m zs :=
 ⟨ho,fun g k=>by
  unfold zS
  rcases hg g k with k | k
  ·have:=h.1.lt k
   rw [if_neg (by omega)];exact h.2 g k
  ·rw [if_pos k];exact ⟨rfl,by omega⟩⟩
theorem kq.stepC (h:kq B tag t1 t2 e n xs u A C A' C' vA vC vA' vC' w) (hA:A=true) (hC:C=false) (ht:t1≠t2) (hB:B<=w.heap.size) {v':Value} {w':World}
 (ho:Own w' e 1 v' n xs) (hb:But (fun b=>vA.ownBlock=some b) w w') (hg:∀ g,v'.ownBlock=some g->vA.ownBlock=some g\/g=w.heap.size) :
 kq B (zS tag w.heap.size t1) t1 t2 e n xs u A true A' C' vA v' vA' vC' w':=by
 have hC':C'=false:=by
  cases C' with
  | false=>rfl
  | true=>have:=h.cl rfl;rw [hC] at this;exact this.symm
 subst hA;subst hC;subst hC'
 exact ⟨fun _ h2=>Bool.noConfusion h2,fun _ _=>(h.a rfl rfl).2.app hB ho hg,
  fun h1 h2=>⟨(h.a' h1 h2).1,(h.a' h1 h2).2.but hb (fun g k=>by rw [((h.a rfl rfl).2.2 g k).1];exact ht) t1⟩,fun h1=>Bool.noConfusion h1,fun h1=>Bool.noConfusion h1⟩
theorem kq.stepC' (h:kq B tag t1 t2 e n xs u A C A' C' vA vC vA' vC' w) (hC:C=true) (hC':C'=false) (hB:B<=w.heap.size) {v':Value} {w':World}
 (ho:Own w' e 1 v' (n+1) (xs++[u])) (hg:∀ g,v'.ownBlock=some g->vC.ownBlock=some g\/g=w.heap.size) :
 kq B (zS tag w.heap.size t1) t1 t2 e n xs u A C A' true vA vC vA' v' w':=by
 subst hC;subst hC'
 exact ⟨fun _ h2=>Bool.noConfusion h2,fun _ h2=>Bool.noConfusion h2,fun _ h2=>Bool.noConfusion h2,fun _=>(h.c rfl rfl).app hB ho hg,fun _=>rfl⟩
end
theorem Own.src1 {w:World} {e:TypeId} {g:Nat} {u:Value} (h:Own w e 1 (.slice (some ⟨g,0,none⟩) 1 1) 1 [u]) (hu:u.oneCell'=true):zM 1 (.slice (some ⟨g,0,none⟩) 1 1) 1 [u] w:=by
 obtain ⟨_,⟨h0,_⟩ | ⟨g',cap,cur,hv,_,hg,s_,_,hcs,mV⟩⟩:=h
 ·cases h0
 ·simp only [Value.slice.injEq,Option.some.injEq,Addr.mk.injEq] at hv
  obtain ⟨⟨rfl,_,_⟩,_,rfl⟩:=hv
  refine ⟨rfl,by simpa using hu,.inl ⟨_,_,rfl,fun j v hj=>?_⟩⟩
  cases j with
  | zero =>
    simp at hj;subst hj
    have h1:cur.toList[0]? = some u:=by
     have:(cur.toList.take 1)[0]? = some u:=by rw [mV];rfl
     rwa [List.getElem?_take,if_pos (by omega)] at this
    rw [show ((⟨g,0,none⟩:Addr).add 0)=⟨g,0,none⟩ from rfl]
    unfold World.cell?
    rw [hg]
    simpa using h1
  | succ j=>simp at hj
end Go.Proofs.YtfedjhgaeikjmaaGreatDoor

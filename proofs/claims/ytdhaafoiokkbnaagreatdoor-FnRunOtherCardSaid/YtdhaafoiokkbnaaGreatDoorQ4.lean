/- Walks of functions that the statement reaches, and plain words. No conditions. -/
import Derived.Test.YtdhaafoiokkbnaaGreatDoorQ3
set_option linter.unusedVariables false
set_option linter.unusedSimpArgs false
set_option maxHeartbeats 2000000
namespace Go.Proofs.YtdhaafoiokkbnaaGreatDoor
open Go.RowKit
def atT (t:Ty):Bs->Option Ty
 | []=>some t
 | c::p=>if 48<=c.toNat then (match t.args[c.toNat-48]? with | some a=>atT a p | none=>none) else none
theorem qc (t:Ty):atT t []=some t:=by cases t;rfl
theorem ur (t:Ty) (c:UInt8) (p:Bs):atT t (c::p)=if 48<=c.toNat then (match t.args[c.toNat-48]? with | some a=>atT a p | none=>none) else none:=by rw [atT]
theorem j_:∀ (p q:Bs) (t:Ty),atT t (p++q)=(atT t p).bind fun a=>atT a q
 | [],q,t=>by rw [qc];rfl
 | c::p,q,t=>by
   rw [List.cons_append,ur,ur]
   split
   ·cases h:t.args[c.toNat-48]? with
    | none=>rfl
    | some a=>exact j_ p q a
   ·rfl
theorem xC {j:Nat} (h:j<10):(jC j).toNat=48+j:=qi h
theorem atT_digit (t:Ty) {j:Nat} (h:j<10):atT t [jC j]=t.args[j]?:=by
 rw [ur,xC h,if_pos (by omega),show 48+j-48=j from by omega]
 cases t.args[j]? with
 | none=>rfl
 | some a=>exact qc a
theorem atomsT_arg {t a:Ty} {j:Nat} (h:t.args[j]? = some a):zU a+2<=zU t:=by
 have h1:=jt h
 have h2:=qw t.args (j+1)
 rw [zg t]
 omega
theorem jZ (t:Ty):2*t.args.length+1<=zU t:=by
 rw [zg t]
 have:∀ ts:List Ty,2*ts.length<=zR ts:=by
  intro ts
  induction ts with
  | nil=>simp
  | cons u us ih =>
    have:=kR u
    rw [show u::us=[u]++us from rfl,jb]
    have e:zR [u]=1+zU u:=by simp [zR]
    rw [e,List.length_append,List.length_singleton];omega
 have:=this t.args
 omega
theorem jk:∀ (p:Bs) (t a:Ty),atT t p=some a->2*p.length+zU a<=zU t
 | [],t,a,h=>by rw [qc] at h;obtain rfl:=Option.some.inj h;simp
 | c::p,t,a,h=>by
   rw [ur] at h
   split at h
   ·cases hq:t.args[c.toNat-48]? with
    | none=>rw [hq] at h;simp at h
    | some b =>
      rw [hq] at h
      have h1:=jk p b a h
      have h2:=atomsT_arg hq
      rw [List.length_cons];omega
   ·simp at h
def uB {α:Type}:List (Option (List α))->Option (List α)
 | []=>some []
 | o::os=>o.bind fun a=>(uB os).map (a ++ ·)
theorem wT {α:Type}:∀ (xs ys:List (Option (List α))),uB (xs++ys)=(uB xs).bind fun a=>(uB ys).map (a ++ ·)
 | [],ys=>by
   simp only [List.nil_append,uB,Option.bind_some]
   cases uB ys <;> simp
 | o::os,ys=>by
   simp only [List.cons_append,uB,wT os ys]
   cases o with
   | none=>rfl
   | some a =>
     cases uB os with
     | none=>rfl
     | some b =>
       cases uB ys with
       | none=>rfl
       | some c=>simp
abbrev Pl:=List (Bs×Int)
abbrev zx:=Nat×Bs
def zh (many begin:Nat) (path:Bs):List zx:=(List.range many).map fun i=>(begin,path++dec i)
theorem kP (m b:Nat) (p:Bs):(zh m b p).length=m:=by simp [zh]
theorem ph {m b j:Nat} {p:Bs} (h:j<m):(zh m b p)[j]? = some (b,p++dec j):=by simp [zh,h]
theorem placesOf_succ (m b:Nat) (p:Bs):zh (m+1) b p=zh m b p++[(b,p++dec m)]:=by simp [zh,List.range_succ]
def ja (t:Ty) (p:Bs):Nat:=match atT t p with | some a=>a.args.length | none=>0
def pv (c:UInt8) (v:Pl) (path:Bs) (n:Nat):Pl:=v++[(c::path,(n:Int))]
mutual
def vd (t:Ty):Bd->List zx->zx->Pl->Option (List Pl)
 | .leaf c,_,bg,v=>if c=117 then some [] else if 60<=v.length then none else some [pv c v bg.2 bg.1]
 | .ask l ss y n,lv,bg,v=>if 59<=v.length then none else
  (uB (wJ t ss 0 (lv.getD l (0,[])).2 v.length lv (pv 113 v (lv.getD l (0,[])).2 (lv.getD l (0,[])).1) ++
   [vd t y lv bg (pv 116 (pv 113 v (lv.getD l (0,[])).2 (lv.getD l (0,[])).1) (lv.getD l (0,[])).2 v.length),
    vd t n lv bg (pv 102 (pv 113 v (lv.getD l (0,[])).2 (lv.getD l (0,[])).1) (lv.getD l (0,[])).2 v.length)])).map
   (pv 113 v (lv.getD l (0,[])).2 (lv.getD l (0,[])).1 :: ·)
def wJ (t:Ty):List Bd->Nat->Bs->Nat->List zx->Pl->List (Option (List Pl))
 | [],_,_,_,_,_=>[]
 | s::ss,j,path,k,lv,asked =>
   vd t s (lv++zh (ja t (path++dec j)) (k+1) (path++dec j)) (k+1,path++dec j) (pv 113 asked (path++dec j) k)::wJ t ss (j+1) path k lv asked
end
mutual
theorem jJ (t:Ty):∀ (b:Bd) (lv:List zx) (bg:zx) (v:Pl) (out:List Pl),vd t b lv bg v=some out->out.length<=zk b
 | .leaf c,lv,bg,v,out,h=>by
   rw [vd] at h
   split at h
   ·obtain rfl:=Option.some.inj h;simp
   ·split at h
    ·simp at h
    ·obtain rfl:=Option.some.inj h;simp [zk]
 | .ask l ss y n,lv,bg,v,out,h=>by
   rw [vd] at h
   split at h
   ·simp at h
   ·rw [wT] at h
    simp only [uB,Option.map_eq_some_iff,Option.bind_eq_some_iff] at h
    obtain ⟨_,⟨a,ha,_,⟨b,hb,_,⟨c,hc,_,h0,rfl⟩,rfl⟩,rfl⟩,rfl⟩:=h
    obtain rfl:=Option.some.inj h0
    have h1:=xS t ss _ _ _ _ _ a ha
    have h2:=jJ t y _ _ _ b hb
    have h3:=jJ t n _ _ _ c hc
    rw [zk]
    simp only [List.length_cons,List.length_append,List.length_nil];omega
theorem xS (t:Ty):∀ (ss:List Bd) (j:Nat) (path:Bs) (k:Nat) (lv:List zx) (asked:Pl) (out:List Pl),uB (wJ t ss j path k lv asked)=some out->out.length<=zN ss
 | [],_,_,_,_,_,out,h=>by rw [wJ,uB] at h;obtain rfl:=Option.some.inj h;simp
 | s::ss,j,path,k,lv,asked,out,h=>by
   rw [wJ,uB] at h
   simp only [Option.map_eq_some_iff,Option.bind_eq_some_iff] at h
   obtain ⟨a,ha,b,hb,rfl⟩:=h
   have h1:=jJ t s _ _ _ a ha
   have h2:=xS t ss _ _ _ _ _ b hb
   rw [zN,List.length_append];omega
end
structure xu (t:Ty) (lv:List zx) (hand:List Ty) (n:Nat):Prop where
 len:lv.length=hand.length
 each:∀ (i:Nat) (a:Ty),hand[i]? = some a->∃ pl,lv[i]? = some pl/\atT t pl.2=some a/\pl.1<n
theorem xu.kid {t:Ty} {lv:List zx} {hand:List Ty} {n m k:Nat} (h:xu t lv hand n) (hnm:n<=m) (hk:k<m) {p:Bs} {a:Ty} (ha:atT t p=some a) (mQ:a.args.length<=10) :
 xu t (lv++zh a.args.length k p) (hand++a.args) m:=by
 refine ⟨by rw [List.length_append,List.length_append,kP,h.len],fun i b hb=>?_⟩
 rcases Nat.lt_or_ge i hand.length with hi | hi
 ·rw [List.getElem?_append_left hi] at hb
  obtain ⟨pl,h1,h2,h3⟩:=h.each i b hb
  exact ⟨pl,by rw [List.getElem?_append_left (by rw [h.len];exact hi)];exact h1,h2,by omega⟩
 ·rw [List.getElem?_append_right hi] at hb
  have cL:=(List.getElem?_eq_some_iff.1 hb).1
  refine ⟨(k,p++dec (i-hand.length)),?_,?_,hk⟩
  ·rw [List.getElem?_append_right (by rw [h.len];exact hi),h.len,ph cL]
  ·show atT t (p++dec (i-hand.length))=some b
   rw [j_,ha,Option.bind_some,jW (by omega),atT_digit _ (by omega)];exact hb
theorem xu.mono {t:Ty} {lv:List zx} {hand:List Ty} {n m:Nat} (h:xu t lv hand n) (hnm:n<=m):xu t lv hand m :=
 ⟨h.len,fun i a ha=>by obtain ⟨pl,h1,h2,h3⟩:=h.each i a ha;exact ⟨pl,h1,h2,by omega⟩⟩
structure x_ (lv:List zx) (bg:zx) (v:Pl) (begun args:List Nat) (opens:Nat):Prop where
 lb:begun.length=lv.length
 la:args.length=lv.length
 each:∀ (i:Nat) (pl:zx),lv[i]? = some pl->∃ j m z,begun[i]? = some pl.1/\args[i]? = some j/\v[pl.1]? = some (113::m,z)/\pl.2=m++dec j/\j<10
 bg:bg.1=opens/\∃ c z,v[opens]? = some (c::bg.2,z)
theorem x_.more {lv:List zx} {bg:zx} {v:Pl} {begun args:List Nat} {opens:Nat} (h:x_ lv bg v begun args opens) (xs:Pl):x_ lv bg (v++xs) begun args opens:=by
 have key:∀ (i:Nat) (x:Bs×Int),v[i]? = some x->(v++xs)[i]? = some x:=fun i x hx=>by
  rw [List.getElem?_append_left (List.getElem?_eq_some_iff.1 hx).1];exact hx
 refine ⟨h.lb,h.la,fun i pl hi=>?_,h.bg.1,?_⟩
 ·obtain ⟨j,m,z,h1,h2,h3,h4⟩:=h.each i pl hi
  exact ⟨j,m,z,h1,h2,key _ _ h3,h4⟩
 ·obtain ⟨c,z,hc⟩:=h.bg.2
  exact ⟨c,z,key _ _ hc⟩
theorem x_.kid {lv:List zx} {bg:zx} {v:Pl} {begun args:List Nat} {opens:Nat} (h:x_ lv bg v begun args opens) (many k:Nat) (p:Bs) (mQ:many<=10) {z:Int} (hk:v[k]? = some (113::p,z)) :
 x_ (lv++zh many k p) (k,p) v (begun++List.replicate many k) (args++List.range many) k:=by
 refine ⟨by simp [h.lb,kP],by simp [h.la,kP],fun i pl hi=>?_,rfl,113,z,hk⟩
 rcases Nat.lt_or_ge i lv.length with cL | eV
 ·rw [List.getElem?_append_left cL] at hi
  obtain ⟨j,m,z',h1,h2,h3,h4⟩:=h.each i pl hi
  exact ⟨j,m,z',by rw [List.getElem?_append_left (by rw [h.lb];exact cL)];exact h1,by rw [List.getElem?_append_left (by rw [h.la];exact cL)];exact h2,h3,h4⟩
 ·rw [List.getElem?_append_right eV] at hi
  have hl:=(List.getElem?_eq_some_iff.1 hi).1
  rw [kP] at hl
  rw [ph hl] at hi
  obtain rfl:=Option.some.inj hi
  refine ⟨i-lv.length,p,z,?_,?_,hk,rfl,by omega⟩
  ·rw [List.getElem?_append_right (by rw [h.lb];exact eV),h.lb];simp [hl]
  ·rw [List.getElem?_append_right (by rw [h.la];exact eV),h.la];simp [hl]
inductive AnsAt (t:Ty) (ss:List Bd) (y n:Bd) (p:Bs) (k:Nat) (lv:List zx) (bg:zx) (asked:Pl) (j:Nat):Bs->Option (List Pl)->Prop
 | kid (s:Bd) (h:ss[j]? = some s):AnsAt t ss y n p k lv bg asked j (113::(p++dec j)) (vd t s (lv++zh (ja t (p++dec j)) (k+1) (p++dec j)) (k+1,p++dec j) (asked++[(113::(p++dec j),(k:Int))]))
 | yes (h:j=ss.length):AnsAt t ss y n p k lv bg asked j (116::p) (vd t y lv bg (asked++[(116::p,(k:Int))]))
 | no (h:j=ss.length+1):AnsAt t ss y n p k lv bg asked j (102::p) (vd t n lv bg (asked++[(102::p,(k:Int))]))
def szAll (ss:List Bd) (y n:Bd):List Nat:=ss.map zk++[zk y,zk n]
theorem AnsAt.size {t:Ty} {ss:List Bd} {y n:Bd} {p:Bs} {k:Nat} {lv:List zx} {bg:zx} {asked:Pl} {j:Nat} {M:Bs} {o:Option (List Pl)} (h:AnsAt t ss y n p k lv bg asked j M o) :
 ∃ z,(szAll ss y n)[j]? = some z/\∀ out,o=some out->out.length<=z:=by
 cases h with
 | kid s h =>
   have hj:=(List.getElem?_eq_some_iff.1 h).1
   refine ⟨zk s,?_,fun out ho=>jJ t s _ _ _ out ho⟩
   rw [szAll,List.getElem?_append_left (by rw [List.length_map];exact hj),List.getElem?_map,h];rfl
 | yes h =>
   subst h
   refine ⟨zk y,?_,fun out ho=>jJ t y _ _ _ out ho⟩
   rw [szAll,List.getElem?_append_right (by rw [List.length_map];omega),List.length_map,Nat.sub_self];rfl
 | no h =>
   subst h
   refine ⟨zk n,?_,fun out ho=>jJ t n _ _ _ out ho⟩
   rw [szAll,List.getElem?_append_right (by rw [List.length_map];omega),List.length_map,Nat.add_sub_cancel_left];rfl
inductive Mn where
 | op (o:Nat) (t:Ty)
 | bd (t:Ty) (b:Bd) (env:List Mn)
structure Gf where
 yes:Bd
 no:Bd
 env:List Mn
def opens:Nat->List Ty->List Mn
 | _,[]=>[]
 | n,t::ts=>.op n t::opens (n+1) ts
def owns (env:List Mn):List Ty->List Bd->List Mn
 | t::ts,s::ss=>.bd t s env::owns env ts ss
 | _,_=>[]
def evSubs (ev:Nat->Bd->List Mn->Nat->List Gf->Option (Bd×Nat)) (env:List Mn) (n:Nat):Nat->List Ty->List Bd->Option (List Bd×Nat)
 | l,t::ts,s::ss=>do
   let (x,l1)<-ev l s (env++opens n t.args) (n+t.args.length) []
   let (xs,l2)<-evSubs ev env n l1 ts ss
   some (x::xs,l2)
 | l,_,_=>some ([],l)
def ev:Nat->Nat->Bd->List Mn->Nat->List Gf->Option (Bd×Nat)
 | 0,_,_,_,_,_=>none
 | d+1,l,b,env,n,st=>match l with
   | 0=>none
   | l+1=>match b with
     | .leaf c=>if c=117 then some (.leaf c,l) else match st with
       | []=>some (.leaf c,l)
       | f::st'=>ev d l (if c=116 then f.yes else f.no) f.env n st'
     | .ask v ss y no=>match env[v]? with
       | none=>none
       | some (.bd t b' e)=>ev d l b' (e++owns env t.args ss) n (⟨y,no,env⟩::st)
       | some (.op o t)=>do
         let (xs,l1)<-evSubs (ev d) env n l t.args ss
         let (x,l2)<-ev d l1 y env n st
         let (z,l3)<-ev d l2 no env n st
         some (.ask o xs x z,l3)
def evSubsN (ev:Nat->Nat->Bd->List Mn->Nat->List Gf->Option (Bd×Nat×Nat)) (env:List Mn) (n:Nat):Nat->Nat->List Ty->List Bd->Option (List Bd×Nat×Nat)
 | k,l,t::ts,s::ss=>do
   let (x,k1,l1)<-ev k l s (env++opens n t.args) (n+t.args.length) []
   let (xs,k2,l2)<-evSubsN ev env n k1 l1 ts ss
   some (x::xs,k2,l2)
 | k,l,_,_=>some ([],k,l)
def evN:Nat->Nat->Nat->Bd->List Mn->Nat->List Gf->Option (Bd×Nat×Nat)
 | 0,_,_,_,_,_,_=>none
 | d+1,k,l,b,env,n,st=>match l with
   | 0=>none
   | l+1=>match k with
     | 0=>none
     | k+1=>match b with
       | .leaf c=>if c=117 then some (.leaf c,k,l) else match st with
         | []=>some (.leaf c,k,l)
         | f::st'=>evN d (k+1) l (if c=116 then f.yes else f.no) f.env n st'
       | .ask v ss y no=>match env[v]? with
         | none=>none
         | some (.bd t b' e)=>evN d (k+1) l b' (e++owns env t.args ss) n (⟨y,no,env⟩::st)
         | some (.op o t)=>do
           let (xs,k1,l1)<-evSubsN (evN d) env n k l t.args ss
           let (x,k2,l2)<-evN d k1 l1 y env n st
           let (z,k3,l3)<-evN d k2 l2 no env n st
           some (.ask o xs x z,k3,l3)
mutual
def yi (H:List Ty):Mn->Ty->Prop
 | .op o t,t'=>t=t'/\H[o]? = some t
 | .bd t b e,t'=>t=t'/\∃ h,kf H e h/\kX (h++t.args) b
def kf (H:List Ty):List Mn->List Ty->Prop
 | [],h=>h=[]
 | m::ms,h=>∃ t ts,h=t::ts/\yi H m t/\kf H ms ts
end
theorem mnFits_at {H:List Ty}:∀ (cs:List Mn) (h:List Ty),kf H cs h->∀ (i:Nat) (t:Ty),h[i]? = some t->∃ c,cs[i]? = some c/\yi H c t
 | [],h,k,i,c,hc=>by rw [kf] at k;subst k;simp at hc
 | c::cs,h,k,i,t',hc=>by
   rw [kf] at k
   obtain ⟨t,ts,rfl,k1,k2⟩:=k
   cases i with
   | zero=>simp at hc;subst hc;exact ⟨c,rfl,k1⟩
   | succ i=>simp at hc;simpa using mnFits_at cs ts k2 i t' hc
theorem uS {H:List Ty}:∀ (xs bs:List Mn) (h k:List Ty),kf H xs h->kf H bs k->kf H (xs++bs) (h++k)
 | [],bs,h,k,h1,h2=>by rw [kf] at h1;subst h1;simpa using h2
 | a::xs,bs,h,k,h1,h2=>by
   rw [kf] at h1
   obtain ⟨t,ts,rfl,k1,k2⟩:=h1
   simp only [List.cons_append]
   rw [kf]
   exact ⟨t,ts++k,rfl,k1,uS xs bs ts k k2 h2⟩
mutual
theorem mnFit_more {H X:List Ty}:∀ (m:Mn) (t:Ty),yi H m t->yi (H++X) m t
 | .op o t,t',h=>by
   rw [yi] at *
   exact ⟨h.1,by rw [List.getElem?_append_left (List.getElem?_eq_some_iff.1 h.2).1];exact h.2⟩
 | .bd t b e,t',h=>by
   rw [yi] at *
   obtain ⟨h1,k,h2,h3⟩:=h
   exact ⟨h1,k,ye e k h2,h3⟩
theorem ye {H X:List Ty}:∀ (ms:List Mn) (h:List Ty),kf H ms h->kf (H++X) ms h
 | [],h,k=>by rw [kf] at *;exact k
 | m::ms,h,k=>by
   rw [kf] at *
   obtain ⟨t,ts,rfl,k1,k2⟩:=k
   exact ⟨t,ts,rfl,mnFit_more m t k1,ye ms ts k2⟩
end
theorem opens_fit {H:List Ty}:∀ (ts:List Ty) (n:Nat),(∀ i t,ts[i]? = some t->H[n+i]? = some t)->kf H (opens n ts) ts
 | [],n,h=>by rw [opens,kf]
 | t::ts,n,h=>by
   rw [opens,kf]
   refine ⟨t,ts,rfl,?_,opens_fit ts (n+1) fun i t' hi=>?_⟩
   ·rw [yi];exact ⟨rfl,by have:=h 0 t rfl;simpa using this⟩
   ·have:=h (i+1) t' (by simpa using hi)
    rw [show n+1+i=n+(i+1) from by omega];exact this
theorem opens_fit_end (H:List Ty) (ts:List Ty):kf (H++ts) (opens H.length ts) ts :=
 opens_fit ts H.length fun i t h=>by rw [List.getElem?_append_right (by omega),Nat.add_sub_cancel_left];exact h
theorem owns_fit {H h:List Ty} {env:List Mn} (he:kf H env h):∀ (ts:List Ty) (ss:List Bd),za (zp h ts) ss->kf H (owns env ts ss) ts
 | [],ss,hf=>by
   rw [owns]
   ·rw [kf]
   ·intros;contradiction
 | t::ts,[],hf=>by
   rw [za] at hf;simp [zp] at hf
 | t::ts,s::ss,hf=>by
   rw [za] at hf
   obtain ⟨h',fE,e,h1,h2⟩:=hf
   simp only [zp,List.map_cons,List.cons.injEq] at e
   obtain ⟨rfl,rfl⟩:=e
   rw [owns,kf]
   refine ⟨t,ts,rfl,?_,owns_fit he ts ss h2⟩
   rw [yi]
   exact ⟨rfl,h,he,h1⟩
def gfFit (H:List Ty) (f:Gf):Prop:=∃ h,kf H f.env h/\kX h f.yes/\kX h f.no
structure xw (H:List Ty) (b:Bd) (env:List Mn) (st:List Gf):Prop where
 fit:∃ h,kf H env h/\kX h b
 frames:∀ f∈st,gfFit H f
theorem xw.ask {H:List Ty} {v:Nat} {ss:List Bd} {y no:Bd} {env:List Mn} {st:List Gf} (h:xw H (.ask v ss y no) env st) :
 ∃ m t hh,env[v]? = some m/\yi H m t/\kf H env hh/\za (zp hh t.args) ss/\kX hh y/\kX hh no:=by
 obtain ⟨⟨hh,h1,h2⟩,_⟩:=h
 rw [kX] at h2
 obtain ⟨t,k1,k2,k3,k4⟩:=h2
 obtain ⟨m,m1,m2⟩:=mnFits_at _ _ h1 v t k1
 exact ⟨m,t,hh,m1,m2,h1,k2,k3,k4⟩
theorem xw.call {H:List Ty} {v:Nat} {ss:List Bd} {y no:Bd} {env:List Mn} {st:List Gf} (h:xw H (.ask v ss y no) env st) {t:Ty} {b':Bd} {e:List Mn} (he:env[v]? = some (.bd t b' e)) :
 ss.length=t.args.length/\xw H b' (e++owns env t.args ss) (⟨y,no,env⟩::st):=by
 obtain ⟨m,t',hh,m1,m2,m3,m4,m5,m6⟩:=h.ask
 rw [he] at m1;simp at m1;subst m1
 rw [yi] at m2
 obtain ⟨rfl,k,k1,k2⟩:=m2
 refine ⟨?_,⟨k++t.args,uS _ _ _ _ k1 (owns_fit m3 _ _ m4),k2⟩,fun f hf=>?_⟩
 ·have:=qB _ _ m4;rw [qH] at this;exact this.symm
 ·rcases List.mem_cons.1 hf with rfl | hf
  ·exact ⟨hh,m3,m5,m6⟩
  ·exact h.frames f hf
theorem xw.keep {H:List Ty} {v:Nat} {ss:List Bd} {y no:Bd} {env:List Mn} {st:List Gf} (h:xw H (.ask v ss y no) env st) {t:Ty} {o:Nat} (he:env[v]? = some (.op o t)) :
 ss.length=t.args.length/\H[o]? = some t/\(∀ (k:Nat) (a:Ty) (s:Bd),t.args[k]? = some a->ss[k]? = some s->xw (H++a.args) s (env++opens H.length a.args) [])/\xw H y env st/\xw H no env st:=by
 obtain ⟨m,t',hh,m1,m2,m3,m4,m5,m6⟩:=h.ask
 rw [he] at m1;simp at m1;subst m1
 rw [yi] at m2
 obtain ⟨rfl,k1⟩:=m2
 have hl:=qB _ _ m4
 rw [qH] at hl
 refine ⟨hl.symm,k1,fun k a s ha hs=>?_,⟨⟨hh,m3,m5⟩,h.frames⟩,⟨⟨hh,m3,m6⟩,h.frames⟩⟩
 obtain ⟨x,hx,hf⟩:=bm _ _ m4 k s hs
 have r_:x=hh++a.args:=by simp [zp,ha] at hx;exact hx.symm
 subst r_
 exact ⟨⟨hh++a.args,uS _ _ _ _ (ye _ _ m3) (opens_fit_end H a.args),hf⟩,by simp⟩
mutual
def wfB:Bd->Prop
 | .leaf c=>c=116\/c=102\/c=117
 | .ask _ ss y n=>uY ss/\wfB y/\wfB n
def uY:List Bd->Prop
 | []=>True
 | b::bs=>wfB b/\uY bs
end
theorem wfBs_at:∀ (xs:List Bd),uY xs->∀ (k:Nat) (b:Bd),xs[k]? = some b->wfB b
 | [],_,k,b,h=>by simp at h
 | x::xs,hw,k,b,h=>by
   rw [uY] at hw
   cases k with
   | zero=>simp at h;subst h;exact hw.1
   | succ k=>exact wfBs_at xs hw.2 k b (by simpa using h)
theorem textB_ask (v:Nat) (ss:List Bd) (y n:Bd):k_ (.ask v ss y n)=40::(dec v++(kh (ss++[y,n])++[41])):=by
 rw [k_,vK];simp [kh]
theorem yg {rd:RdS} {P:Bd->Prop} (h:∀ hand l b r,rd hand l=some (b,r)->P b):∀ (hs:List (List Ty)) (l:Bs) (ps:List Bd) (r:Bs),zW rd hs l=some (ps,r)->∀ p∈ps,P p
 | [],l,ps,r,hx=>by simp [zW] at hx;obtain ⟨rfl,_⟩:=hx;simp
 | a::hs,l,ps,r,hx=>by
   simp only [zW,kW,Option.bind_eq_bind,Option.bind_eq_some_iff,Prod.exists] at hx
   obtain ⟨b,l1,⟨l0,h0,h1⟩,bs,l2,h2,h3⟩:=hx
   simp at h3;obtain ⟨rfl,rfl⟩:=h3
   intro p hp
   rcases List.mem_cons.1 hp with rfl | hp
   ·exact h _ _ _ _ h1
   ·exact yg h hs l1 bs l2 h2 p hp
theorem cZ {v n:Nat} {ps:List Bd} {b:Bd} (h:yL v n ps=some b):∃ ss y no,b=.ask v ss y no/\ps=ss++[y,no]:=by
 unfold yL at h
 split at h
 ·rename_i y no hd
  simp at h;subst h
  exact ⟨_,_,_,rfl,by rw [<- hd,List.take_append_drop]⟩
 ·simp at h
theorem wfBs_of:∀ (ps:List Bd),(∀ p∈ps,wfB p)->uY ps
 | [],_=>trivial
 | p::ps,h=>⟨h p (by simp),wfBs_of ps fun q hq=>h q (by simp [hq])⟩
theorem gh:∀ (xs ys:List Bd),uY (xs++ys)->uY xs/\uY ys
 | [],ys,h=>⟨trivial,h⟩
 | x::xs,ys,h=>by
   simp only [List.cons_append] at h;rw [uY] at h
   have:=gh xs ys h.2
   exact ⟨⟨h.1,this.1⟩,this.2⟩
theorem rdN_wf (e:Nat):∀ (hand:List Ty) (l:Bs) (b:Bd) (r:Bs),rdN e hand l=some (b,r)->wfB b/\vL b<e:=by
 induction e with
 | zero=>intro hand l b r h;simp [rdN] at h
 | succ e ih =>
   intro hand l b r h
   cases l with
   | nil=>simp [rdN] at h
   | cons c m =>
     simp only [rdN] at h
     split at h
     ·rename_i hc;simp at h;obtain ⟨rfl,_⟩:=h;exact ⟨hc,by simp [vL]⟩
     ·split at h
      ·simp at h
      ·split at h
       ·simp at h
       ·split at h
        ·simp at h
        ·simp only [Option.bind_eq_bind,Option.bind_eq_some_iff,Prod.exists] at h
         obtain ⟨ps,l1,h1,l2,h2,b',h3,h4⟩:=h
         simp at h4;obtain ⟨rfl,_⟩:=h4
         obtain ⟨ss,y,no,rfl,rfl⟩:=cZ h3
         have k1:=yg (P:=fun b=>wfB b/\vL b<e) (fun hand l b r h=>ih hand l b r h) _ _ _ _ h1
         have k2:=gh _ _ (wfBs_of _ fun p hp=>(k1 p hp).1)
         refine ⟨⟨k2.1,k2.2.1,k2.2.2.1⟩,?_⟩
         rw [depthB_parts]
         have key:∀ (qs:List Bd),(∀ q∈qs,vL q<e)->jX qs<=e:=by
          intro qs
          induction qs with
          | nil=>intro _;simp [jX]
          | cons q qs ihq =>
            intro hq
            have h1:=hq q (by simp)
            have h2:=ihq fun x hx=>hq x (by simp [hx])
            simp only [jX];omega
         exact Nat.lt_succ_of_le (key _ fun q hq=>(k1 q hq).2)
theorem xo {p l r:Bs} (h:cut p l=some r):l=p++r:=by
 unfold cut at h
 split at h
 ·rename_i hp
  simp at h
  obtain ⟨q,hq⟩:=List.isPrefixOf_iff_prefix.1 hp
  subst hq
  simp at h;rw [h]
 ·simp at h
theorem dec_dd (n:Nat):dec n=Lib.decDigits n:=by
 induction n using Nat.strongRecOn with
 | _ n ih =>
   by_cases h:n<10
   ·rw [jW h,Lib.decDigits,dif_pos h];rfl
   ·rw [ud h,Lib.decDigits,dif_neg h,ih (n / 10) (Nat.div_lt_self (by omega) (by omega))];rfl
theorem specNum_text {m:Bs} {v k:Nat} (h:qG m=some (v,k)):m=dec v++m.drop k:=by
 obtain ⟨h1,h2,h3,h4⟩:=wW h
 have hd:dec v=kY m:=by
  rw [dec_dd,h2]
  exact wu _ _ rfl h1 (j8 m) h4
 obtain ⟨q,hq⟩:=vJ m
 rw [hd,h3]
 conv=>lhs;rw [<- hq]
 conv=>rhs;rw [<- hq]
 have:kY (kY m++q)=kY m:=by rw [hq]
 rw [this,List.drop_left]
theorem yT {rd:RdS} (ih:∀ hand l b r,rd hand l=some (b,r)->l=k_ b++r):∀ (hs:List (List Ty)) (l:Bs) (ps:List Bd) (r:Bs),zW rd hs l=some (ps,r)->l=kh ps++r
 | [],l,ps,r,h=>by simp [zW] at h;obtain ⟨rfl,rfl⟩:=h;simp [kh]
 | a::hs,l,ps,r,hx=>by
   simp only [zW,kW,Option.bind_eq_bind,Option.bind_eq_some_iff,Prod.exists] at hx
   obtain ⟨b,l1,⟨l0,h0,h1⟩,bs,l2,h2,h3⟩:=hx
   simp at h3;obtain ⟨rfl,rfl⟩:=h3
   rw [xo h0,ih _ _ _ _ h1,yT ih hs l1 bs l2 h2]
   simp [kh]
theorem rdN_canon (e:Nat):∀ (hand:List Ty) (l:Bs) (b:Bd) (r:Bs),rdN e hand l=some (b,r)->l=k_ b++r:=by
 induction e with
 | zero=>intro hand l b r h;simp [rdN] at h
 | succ e ih =>
   intro hand l b r h
   cases l with
   | nil=>simp [rdN] at h
   | cons c m =>
     simp only [rdN] at h
     split at h
     ·simp at h;obtain ⟨rfl,rfl⟩:=h;simp [k_]
     ·split at h
      ·simp at h
      ·rename_i d_
       have d_:c=40:=by simpa using d_
       subst d_
       split at h
       ·simp at h
       ·rename_i v k hn
        split at h
        ·simp at h
        ·simp only [Option.bind_eq_bind,Option.bind_eq_some_iff,Prod.exists] at h
         obtain ⟨ps,l1,h1,l2,h2,b',h3,h4⟩:=h
         simp at h4;obtain ⟨rfl,rfl⟩:=h4
         obtain ⟨ss,y,no,rfl,rfl⟩:=cZ h3
         rw [textB_ask]
         conv=>lhs;rw [specNum_text hn,yT ih _ _ _ _ h1,xo h2]
         simp
theorem yp {s text:Bs} {b:Bd} (h:zI s text=some b):(zQ s).2=true/\rdN 101 (zQ s).1.args text=some (b,[])/\zk b<=200:=by
 unfold zI at h
 split at h
 ·simp at h
 ·rename_i h0
  split at h
  ·simp at h
  ·rename_i b' rest hq
   split at h
   ·rename_i hc
    simp at h;subst h
    obtain ⟨rfl,h2⟩:=hc
    exact ⟨by simpa using (not_or.1 h0).1,hq,h2⟩
   ·simp at h
structure Good (t:Ty) (b:Bd):Prop where
 atoms:zU t<=15
 fit:kX t.args b
 wf:wfB b
 size:zk b<=200
 depth:vL b<=100
theorem kd {s text:Bs} {b:Bd} (h:zI s text=some b):Good (zQ s).1 b/\text=k_ b:=by
 obtain ⟨h1,h2,h3⟩:=yp h
 have hw:=rdN_wf _ _ _ _ _ h2
 refine ⟨⟨qI h1,rdN_fit _ h2,hw.1,h3,by have:=hw.2;omega⟩,?_⟩
 have:=rdN_canon _ _ _ _ _ h2
 rwa [List.append_nil] at this
theorem rdK_canon (d:Nat):∀ (l:Bs) (t:Ty) (r:Bs),rdK d l=some (t,r)->l=zq t++r:=by
 induction d with
 | zero =>
   intro l t r h
   rcases z_ [98] l with hc | ⟨r',hc⟩
   ·rw [vX hc] at h;simp at h
   ·rw [vz hc] at h;simp at h;obtain ⟨rfl,rfl⟩:=h;rw [vg];exact xo hc.out
 | succ d ih =>
   intro l t r h
   rcases z_ [98] l with hc | ⟨r',hc⟩
   ·rw [ki hc] at h
    simp only [Option.bind_eq_bind,Option.bind_eq_some_iff,Prod.exists] at h
    obtain ⟨r1,h1,a,r2,h2,r3,h3,b,r4,h4,r5,h5,h6⟩:=h
    simp at h6;obtain ⟨rfl,rfl⟩:=h6
    cases b with
    | mk bs =>
    rw [jN,vm,xo h1,ih _ _ _ h2,xo h3,ih _ _ _ h4,xo h5]
    simp [Ty.args]
   ·rw [vz hc] at h;simp at h;obtain ⟨rfl,rfl⟩:=h;rw [vg];exact xo hc.out
theorem vt {l:Bs} (h:(zQ l).2=true):l=zq (zQ l).1/\zU (zQ l).1<=15:=by
 refine ⟨?_,qI h⟩
 unfold zQ at h ⊢
 split at h
 ·simp at h
 ·rename_i hl
  rw [if_neg hl]
  cases hq:rdS 21 l with
  | none=>rw [hq] at h;simp at h
  | some x =>
    obtain ⟨t,rest⟩:=x
    rw [hq] at h
    simp at h
    obtain ⟨h1,h2⟩:=h
    have hq':rdK 20 l=some (t,rest):=hq
    have hr:=rdK_canon _ _ _ _ hq'
    simp only
    have h3:rest=[]:=by simpa using h1
    rw [h3,List.append_nil] at hr;exact hr
def become (b:Bd) (env:List Mn) (n:Nat):Option Bd:=match ev 20000 20000 b env n [] with
 | some (out,_)=>if zk out<=200/\vL out<=100 then some out else none
 | none=>none
def writes (b:Bd) (env:List Mn) (n:Nat):Option Bd:=(evN 20000 200 20000 b env n []).map (·.1)
theorem wH {t:Ty} (ht:zU t<=15) {l:Bs} {b:Bd} (h:kE t l=some b):Good t b/\l=k_ b:=by
 rw [vu ht] at h
 have:=kd h
 rw [jS ht] at this
 exact this
def isQ (m:Bs):Bool:=m.head? == some 113
def qZ (m:Bs):Bool:=decide (m.length % 2=1) == isQ m
def uI (m:Bs):Bs:=if m=[113] then [] else if isQ m then m.dropLast else 113::m.tail
def yG (t:Ty):Bs->Bool
 | []=>false
 | c::p=>(c == 113 || c == 116 || c == 102) && (atT t p).isSome
def ji (t:Ty) (v:Pl) (i:Nat):Bool :=
 match v[i]? with
 | none=>false
 | some x=>yG t x.1 && (qZ x.1 == decide (i % 2=0)) && (if i=0 then x.1 == [113] && decide (x.2 = -1) else decide (0<=x.2) && decide (x.2<(i:Int)) && !(x.1 == [113]) && ((v[x.2.toNat]?).map (·.1) == some (uI x.1)))
def qd (t:Ty) (v:Pl):Nat->Bool
 | 0=>true
 | n+1=>qd t v n && ji t v n
def zL (t:Ty) (v:Pl):Bool:=decide (v.length<=60) && qd t v v.length
theorem xV {t:Ty} {v:Pl}:∀ {n i:Nat},qd t v n=true->i<n->ji t v i=true
 | 0,i,_,hi=>absurd hi (by omega)
 | n+1,i,h,hi=>by
   rw [qd,Bool.and_eq_true] at h
   rcases Nat.lt_or_ge i n with h' | h'
   ·exact xV h.1 h'
   ·obtain rfl:i=n:=by omega
    exact h.2
theorem gW {t:Ty} {v:Pl} {i:Nat}:∀ {n:Nat},ji t v i=false->i<n->qd t v n=false
 | 0,_,hi=>absurd hi (by omega)
 | n+1,h,hi=>by
   rw [qd,Bool.and_eq_false_iff]
   rcases Nat.lt_or_ge i n with h' | h'
   ·exact .inl (gW h h')
   ·obtain rfl:i=n:=by omega
    exact .inr h
structure OkMv (t:Ty) (v:Pl) (i:Nat) (c:UInt8) (p:Bs) (z:Int):Prop where
 hc:c=113\/c=116\/c=102
 hp:∃ a,atT t p=some a
 opp:qZ (c::p)=decide (i % 2=0)
 zero:i=0->c=113/\p=[]/\z = -1
 pos:0<i->0<=z/\z<(i:Int)/\¬ (c::p)=[113]/\∃ y,v[z.toNat]? = some y/\y.1=uI (c::p)
theorem okAt_some {t:Ty} {v:Pl} {i:Nat} (h:ji t v i=true):∃ c p z,v[i]? = some (c::p,z)/\OkMv t v i c p z:=by
 unfold ji at h
 cases hv:v[i]? with
 | none=>rw [hv] at h;simp at h
 | some x =>
   rw [hv] at h
   obtain ⟨m,z⟩:=x
   simp only [Bool.and_eq_true,beq_iff_eq] at h
   obtain ⟨⟨h1,h2⟩,h3⟩:=h
   cases m with
   | nil=>simp [yG] at h1
   | cons c p =>
     simp only [yG,Bool.and_eq_true,Bool.or_eq_true,beq_iff_eq] at h1
     refine ⟨c,p,z,rfl,by rcases h1.1 with (h | h) | h <;> simp [h],Option.isSome_iff_exists.1 h1.2,h2,fun hi=>?_,fun hi=>?_⟩
     ·subst hi
      simp only [if_true,Bool.and_eq_true,beq_iff_eq,decide_eq_true_eq] at h3
      obtain ⟨e,hz⟩:=h3
      simp only [List.cons.injEq] at e
      exact ⟨e.1,e.2,hz⟩
     ·rw [if_neg (by omega)] at h3
      simp only [Bool.and_eq_true,decide_eq_true_eq,beq_iff_eq,Bool.not_eq_true',beq_eq_false_iff_ne] at h3
      obtain ⟨⟨⟨k1,k2⟩,k3⟩,k4⟩:=h3
      refine ⟨k1,k2,k3,?_⟩
      cases hy:v[z.toNat]? with
      | none=>rw [hy] at k4;simp at k4
      | some y =>
        rw [hy] at k4
        exact ⟨y,rfl,by simpa using k4⟩
theorem kg {t:Ty} {v:Pl} (h:zL t v=true) {i:Nat} (hi:i<v.length):∃ c p z,v[i]? = some (c::p,z)/\OkMv t v i c p z:=by
 unfold zL at h
 rw [Bool.and_eq_true] at h
 exact okAt_some (xV h.2 hi)
theorem jV {t:Ty} {v:Pl} (h:zL t v=true):v.length<=60:=by
 unfold zL at h
 rw [Bool.and_eq_true] at h
 simpa using h.1
def jR (v:Pl) (opp:Bool):Nat->Nat->List Nat
 | 0,_=>[]
 | _+1,0=>[]
 | f+1,n+1=>n::jR v opp f (match v[n]? with | none=>0 | some x=>if qZ x.1=opp then n else (x.2+1).toNat)
def kB (v:Pl) (opp:Bool) (n:Nat):List Nat:=(jR v opp n n).reverse
def qh (v:Pl) (opp:Bool) (n:Nat):Nat:=match v[n]? with | none=>0 | some x=>if qZ x.1=opp then n else (x.2+1).toNat
theorem kk (v:Pl) (opp:Bool) (f n:Nat):jR v opp (f+1) (n+1)=n::jR v opp f (qh v opp n):=by rw [jR];rfl
theorem jo (v:Pl) (opp:Bool) (f:Nat):jR v opp f 0=[]:=by cases f <;> rw [jR]
theorem backTo_le {t:Ty} {v:Pl} (h:zL t v=true) (opp:Bool) {n:Nat} (hn:n<v.length):qh v opp n<=n:=by
 obtain ⟨c,p,z,hv,ho⟩:=kg h hn
 unfold qh
 rw [hv]
 show (if qZ (c::p)=opp then n else (z+1).toNat)<=n
 split
 ·omega
 ·rcases Nat.eq_zero_or_pos n with h0 | h0
  ·have:=(ho.zero h0).2.2;omega
  ·have:=(ho.pos h0).2.1;omega
theorem gt {t:Ty} {v:Pl} (h:zL t v=true) (opp:Bool) (n:Nat):∀ f,n<=f->n<=v.length->jR v opp f n=jR v opp n n:=by
 induction n using Nat.strongRecOn with
 | _ n ih =>
   intro f hf hn
   cases n with
   | zero=>rw [jo,jo]
   | succ n =>
     obtain ⟨f,rfl⟩:∃ f',f=f'+1:=⟨f-1,by omega⟩
     rw [kk,kk]
     have hb:=backTo_le h opp (show n<v.length by omega)
     rw [ih _ (by omega) f (by omega) (by omega),ih _ (by omega) n hb (by omega)]
theorem qR (c:UInt8) (p:Bs):isQ (c::p)=(c == 113):=by
 show (some c == some 113)=_
 rfl
theorem yN (c:UInt8) (p:Bs):qZ (c::p)=(decide (p.length % 2=0) == (c == 113)):=by
 unfold qZ
 rw [qR,List.length_cons]
 congr 1
 simp only [decide_eq_decide];omega
theorem x6 {c:UInt8} {p:Bs} (h:¬ (c::p)=[113]):qZ (uI (c::p)) = !qZ (c::p):=by
 unfold uI
 rw [if_neg h,qR]
 by_cases hc:c=113
 ·subst hc
  cases p with
  | nil=>exact absurd rfl h
  | cons d q =>
    rw [show ((113:UInt8) == 113)=true from rfl,if_pos rfl,yN]
    rw [show (113::d::q).dropLast=113::(d::q).dropLast from rfl,yN,List.length_dropLast,List.length_cons]
    rcases Nat.mod_two_eq_zero_or_one q.length with hq | hq
    ·rw [show (q.length+1-1) % 2=0 from by omega,show (q.length+1) % 2=1 from by omega];rfl
    ·rw [show (q.length+1-1) % 2=1 from by omega,show (q.length+1) % 2=0 from by omega];rfl
 ·rw [show (c == 113)=false from by simp [hc],if_neg (by simp),List.tail_cons,yN,yN,show (c == 113)=false from by simp [hc]]
  cases decide (p.length % 2=0) <;> rfl
structure OppMv (t:Ty) (v:Pl) (k:Nat) (m:Bs) (z:Nat):Prop where
 at':v[k]? = some (m,(z:Int))
 lt:z<k
 odd:z % 2=1
 en:∃ y,v[z]? = some y/\y.1=uI m
theorem opp_mv {t:Ty} {v:Pl} (h:zL t v=true) {k:Nat} (hk:k<v.length) (he:k % 2=0) (h0:0<k):∃ c p z,OppMv t v k (c::p) z/\OkMv t v k c p (z:Int):=by
 obtain ⟨c,p,z,hv,ho⟩:=kg h hk
 obtain ⟨h1,h2,h3,y,hy,hye⟩:=ho.pos h0
 obtain ⟨n,rfl⟩:∃ n:Nat,z=(n:Int):=⟨z.toNat,by omega⟩
 rw [Int.toNat_natCast] at hy
 refine ⟨c,p,n,⟨hv,by omega,?_,y,hy,hye⟩,ho⟩
 obtain ⟨c',p',z',dg,fk⟩:=kg h (show n<v.length by omega)
 rw [dg] at hy
 obtain rfl:=Option.some.inj hy
 have h5:=fk.opp
 simp only at hye
 rw [hye,x6 h3,ho.opp] at h5
 rcases Nat.mod_two_eq_zero_or_one n with hn | hn
 ·rw [he,hn] at h5;simp at h5
 ·exact hn
theorem yj {t:Ty} {v:Pl} (h:zL t v=true) (hl:0<v.length):kB v false 1=[0]:=by
 obtain ⟨c,p,z,hv,ho⟩:=kg h hl
 unfold kB
 rw [kk,jR]
 rfl
theorem viewP_step {t:Ty} {v:Pl} (h:zL t v=true) {k:Nat} (hk:k<v.length) {m:Bs} {z:Nat} (ho:OppMv t v k m z) (hb:qZ m=true):kB v false (k+1)=kB v false z++[z,k]:=by
 have cT:qh v false k=z+1:=by
  unfold qh
  rw [ho.at']
  simp only [hb]
  rw [if_neg (by simp)];omega
 have cL:=ho.lt
 obtain ⟨c',p',z',dg,fk⟩:=kg h (show z<v.length by omega)
 have cS:qh v false z=z:=by
  unfold qh
  rw [dg]
  simp only [fk.opp]
  rw [if_pos (by simp [ho.odd])]
 unfold kB
 rw [kk,cT,gt h false (z+1) k (by omega) (by omega),kk,cS]
 simp
abbrev St:=Bd×List zx×zx
def lastD (p:Bs):Nat:=(p.getLast?.getD 48).toNat-48
def wX (t:Ty) (s:St) (m:Bs) (k:Nat):Option St :=
 match s.1 with
 | .leaf _=>none
 | .ask _ ss y n=>match m with
   | []=>none
   | c::p=>if c=113 then (ss[lastD p]?).map fun b=>(b,s.2.1++zh (ja t p) k p,(k,p)) else some (if c=102 then n else y,s.2)
def wV (s:St):Option (Bs×Int) :=
 match s.1 with
 | .leaf c=>if c=117 then none else some (c::s.2.2.2,(s.2.2.1:Int))
 | .ask l _ _ _=>(s.2.1[l]?).map fun pl=>(113::pl.2,(pl.1:Int))
def g6 (t:Ty) (b:Bd):St:=(b,zh t.args.length 0 [],(0,[]))
def vT (t:Ty) (b:Bd) (v:Pl):Nat->Nat->Option St
 | 0,_=>none
 | f+1,n=>if n<=1 then some (g6 t b) else match v[n-1]? with
   | none=>none
   | some x=>(vT t b v f x.2.toNat).bind fun s=>wX t s x.1 (n-1)
def kw (t:Ty) (b:Bd) (v:Pl) (n:Nat):Option St:=vT t b v (n+1) n
theorem placeF_fuel {t:Ty} {v:Pl} (h:zL t v=true) (b:Bd) (n:Nat):∀ f,n<f->n<=v.length->vT t b v f n=vT t b v (n+1) n:=by
 induction n using Nat.strongRecOn with
 | _ n ih =>
   intro f hf hn
   obtain ⟨f,rfl⟩:∃ f',f=f'+1:=⟨f-1,by omega⟩
   rw [vT,vT]
   by_cases h1:n<=1
   ·rw [if_pos h1,if_pos h1]
   ·rw [if_neg h1,if_neg h1]
    obtain ⟨c,p,z,hv,ho⟩:=kg h (show n-1<v.length by omega)
    rw [hv]
    have:=(ho.pos (by omega)).2.1
    simp only
    rw [ih z.toNat (by omega) f (by omega) (by omega),ih z.toNat (by omega) n (by omega) (by omega)]
theorem vQ (t:Ty) (b:Bd) (v:Pl):kw t b v 1=some (g6 t b):=by
 unfold kw
 rw [vT,if_pos (cC _)]
theorem vy {t:Ty} {v:Pl} (h:zL t v=true) (b:Bd) {k:Nat} (hk:k<v.length) (h0:0<k) {m:Bs} {z:Nat} (ho:OppMv t v k m z):kw t b v (k+1)=(kw t b v z).bind fun s=>wX t s m k:=by
 unfold kw
 rw [vT,if_neg (by omega),Nat.add_sub_cancel,ho.at']
 simp only [Int.toNat_natCast]
 rw [placeF_fuel h b z (k+1) (by have:=ho.lt;omega) (by have:=ho.lt;omega)]
def jz (t:Ty) (b:Bd) (v:Pl) (n:Nat):Option (Bs×Int):=(kw t b v n).bind wV
def kS (t:Ty) (b:Bd) (v:Pl) (n:Nat):Prop:=∀ i,i<n->i % 2=1->jz t b v i=v[i]?
instance (t:Ty) (b:Bd) (v:Pl) (n:Nat):Decidable (kS t b v n):=inferInstanceAs (Decidable (∀ i,i<n->i % 2=1->jz t b v i=v[i]?))
structure we (t:Ty) (hand:List Ty) (s:St) (n:Nat):Prop where
 fit:kX hand s.1
 pf:xu t s.2.1 hand n
 wf:wfB s.1
 bg:s.2.2.1<n
 bgt:∃ a,atT t s.2.2.2=some a
 ll:s.2.1.length<=8*n
theorem gl {t:Ty} {b:Bd} (cj:zU t<=15) (hf:kX t.args b) (hw:wfB b):we t t.args (g6 t b) 1:=by
 have h1:=jZ t
 refine ⟨hf,?_,hw,by show 0<1;omega,⟨t,qc t⟩,?_⟩
 ·have h0:xu t [] [] 0:=⟨rfl,fun i a h=>by simp at h⟩
  have:=h0.kid (m:=1) (k:=0) (by omega) (by omega) (qc t) (by omega)
  show xu t (zh t.args.length 0 []) t.args 1
  simpa using this
 ·show (zh t.args.length 0 []).length<=8
  rw [kP];omega
structure StepD (t:Ty) (hand:List Ty) (s:St) (l:Nat) (ss:List Bd) (y n:Bd) (a:Ty) (pl:zx) (c:UInt8) (p:Bs):Prop where
 body:s.1=.ask l ss y n
 lv:s.2.1[l]? = some pl
 hh:hand[l]? = some a
 hat:atT t pl.2=some a
 len:ss.length=a.args.length
 fs:za (zp hand a.args) ss
 fy:kX hand y
 fn:kX hand n
 mv:(c=113/\∃ j aj sb,p=pl.2++[jC j]/\j<10/\a.args[j]? = some aj/\ss[j]? = some sb/\atT t p=some aj/\lastD p=j)\/(c=116\/c=102)/\p=pl.2
theorem p8 (p:Bs) {j:Nat} (hj:j<10):lastD (p++[jC j])=j:=by
 unfold lastD
 simp [xC hj]
theorem step_data {t:Ty} {v:Pl} {hand:List Ty} {s:St} {k z:Nat} {c:UInt8} {p:Bs} {x:Bs×Int} (cj:zU t<=15) (hs:we t hand s z) (ho:OkMv t v k c p (z:Int)) (rq:0<k) (hx:x.1=uI (c::p)) (ht:wV s=some x) :
 ∃ l ss y n a pl,StepD t hand s l ss y n a pl c p:=by
 obtain ⟨_,_,hne,_⟩:=ho.pos rq
 have hq:∃ q,x.1=113::q:=by
  rw [hx]
  unfold uI
  rw [if_neg hne,qR]
  by_cases hc:c=113
  ·subst hc
   cases p with
   | nil=>exact absurd rfl hne
   | cons d q=>exact ⟨(d::q).dropLast,rfl⟩
  ·rw [show (c == 113)=false from by simp [hc]];exact ⟨p,rfl⟩
 obtain ⟨b,lv,bg⟩:=s
 cases b with
 | leaf d =>
   unfold wV at ht
   simp only at ht
   split at ht
   ·simp at ht
   ·obtain rfl:=Option.some.inj ht
    obtain ⟨q,hq⟩:=hq
    simp only [List.cons.injEq] at hq
    have hw:=hs.wf
    rw [show ((Bd.leaf d,lv,bg):St).1=.leaf d from rfl,wfB] at hw
    rcases hw with h | h | h <;> rw [h] at hq <;> exact absurd hq.1 (by decide)
 | ask l ss y n =>
   have hf:=hs.fit
   have oc:=fit_parts hf
   rw [show ((Bd.ask l ss y n,lv,bg):St).1=.ask l ss y n from rfl] at hf
   rw [kX] at hf
   obtain ⟨a,h1,h2,h3,h4⟩:=hf
   obtain ⟨a',h1',_,cA⟩:=oc
   obtain rfl:a=a':=Option.some.inj (h1.symm.trans h1')
   obtain ⟨pl,hl,hat,_⟩:=hs.pf.each l a h1
   have fM:lv[l]? = some pl:=hl
   unfold wV at ht
   simp only [fM,Option.map_some] at ht
   obtain rfl:=Option.some.inj ht
   simp only at hx
   have sN:=jk _ _ _ hat
   have mp:=jZ a
   refine ⟨l,ss,y,n,a,pl,rfl,hl,h1,hat,cA,h2,h3,h4,?_⟩
   unfold uI at hx
   rw [if_neg hne,qR] at hx
   by_cases hc:c=113
   ·subst hc
    rw [show ((113:UInt8) == 113)=true from rfl,if_pos rfl] at hx
    refine .inl ⟨rfl,?_⟩
    have hp0:p≠[]:=fun e=>hne (by rw [e])
    obtain ⟨q,d,rfl⟩:∃ q d,p=q++[d]:=⟨p.dropLast,p.getLast hp0,(List.dropLast_concat_getLast hp0).symm⟩
    rw [show (113::(q++[d])).dropLast=113::q from by rw [<- List.cons_append,List.dropLast_concat]] at hx
    simp only [List.cons.injEq,true_and] at hx
    subst hx
    obtain ⟨aj,Dz⟩:=ho.hp
    have mN:=Dz
    rw [j_,hat,Option.bind_some,ur] at mN
    split at mN
    ·rename_i rM
     cases hq:a.args[d.toNat-48]? with
     | none=>rw [hq] at mN;simp at mN
     | some a2 =>
       rw [hq] at mN
       simp only [qc] at mN
       obtain rfl:=Option.some.inj mN
       have cL:=(List.getElem?_eq_some_iff.1 hq).1
       have hdj:d=jC (d.toNat-48):=by
        apply UInt8.toNat_inj.1
        rw [xC (by omega)];omega
       refine ⟨d.toNat-48,a2,ss[d.toNat-48]'(by omega),by rw [<- hdj],by omega,hq,List.getElem?_eq_getElem (by omega),Dz,?_⟩
       rw [hdj,p8 _ (by omega),<- hdj]
    ·simp at mN
   ·rw [show (c == 113)=false from by simp [hc],if_neg (by simp),List.tail_cons] at hx
    simp only [List.cons.injEq,true_and] at hx
    refine .inr ⟨?_,hx.symm⟩
    rcases ho.hc with h | h | h
    ·exact absurd h hc
    ·exact .inl h
    ·exact .inr h
theorem StepD.next {t:Ty} {hand:List Ty} {s:St} {l:Nat} {ss:List Bd} {y n:Bd} {a:Ty} {pl:zx} {c:UInt8} {p:Bs} {z k:Nat} (h:StepD t hand s l ss y n a pl c p) (hs:we t hand s z) (hzk:z<=k) (eK:1<=z) (cj:zU t<=15) :
 ∃ s' eU,wX t s (c::p) k=some s'/\we t eU s' (k+1):=by
 have sN:=jk _ _ _ h.hat
 have mp:=jZ a
 have hw:=hs.wf
 rw [h.body,wfB] at hw
 have nT:=hs.ll
 have fU:=hs.bg
 unfold wX
 rw [h.body]
 simp only
 rcases h.mv with ⟨rfl,j,aj,sb,hp,hj,Dz,sq,hat,hld⟩ | ⟨hc,hp⟩
 ·rw [if_pos rfl,hld,sq]
  obtain ⟨h',hh',iE⟩:=bm ss _ h.fs j sb sq
  rw [zp,List.getElem?_map,Option.map_eq_some_iff] at hh'
  obtain ⟨aj',mN,rfl⟩:=hh'
  obtain rfl:aj=aj':=Option.some.inj (Dz.symm.trans mN)
  have e0:ja t p=aj.args.length:=by unfold ja;rw [hat]
  have e1:=jk _ _ _ hat
  have e2:=jZ aj
  refine ⟨_,hand++aj.args,rfl,iE,?_,wfBs_at _ hw.1 j sb sq,by show k<k+1;omega,⟨aj,hat⟩,?_⟩
  ·show xu t (s.2.1++zh (ja t p) k p) (hand++aj.args) (k+1)
   rw [e0]
   exact hs.pf.kid (by omega) (by omega) hat (by omega)
  ·show (s.2.1++zh (ja t p) k p).length<=8*(k+1)
   rw [e0,List.length_append,kP];omega
 ·have si:¬ c=113:=by rcases hc with h | h <;> rw [h] <;> decide
  rw [if_neg si]
  refine ⟨_,hand,rfl,?_,hs.pf.mono (by omega),?_,by show s.2.2.1<k+1;omega,hs.bgt,by show s.2.1.length<=_;omega⟩
  ·show kX hand (if c=102 then n else y)
   split
   ·exact h.fn
   ·exact h.fy
  ·show wfB (if c=102 then n else y)
   split
   ·exact hw.2.2
   ·exact hw.2.1
theorem bY {t:Ty} {b:Bd} {v:Pl} (cj:zU t<=15) (hf:kX t.args b) (hw:wfB b) (hv:zL t v=true) (k:Nat):k<v.length->k % 2=0->kS t b v k->∃ s hand,kw t b v (k+1)=some s/\we t hand s (k+1):=by
 induction k using Nat.strongRecOn with
 | _ k ih =>
   intro hk he f7
   rcases Nat.eq_zero_or_pos k with h0 | h0
   ·subst h0
    exact ⟨_,_,vQ t b v,gl cj hf hw⟩
   ·obtain ⟨c,p,z,ho,co⟩:=opp_mv hv hk he h0
    have cL:=ho.lt
    have nD:=ho.odd
    obtain ⟨z',rfl⟩:∃ z',z=z'+1:=⟨z-1,by omega⟩
    obtain ⟨s,hand,hp,hs⟩:=ih z' (by omega) (by omega) (by omega) (fun i hi h=>f7 i (by omega) h)
    obtain ⟨x,hx,oQ⟩:=ho.en
    have hr:=f7 (z'+1) (by omega) nD
    unfold jz at hr
    rw [hp,Option.bind_some,hx] at hr
    obtain ⟨l,ss,y,n,a,pl,hd⟩:=step_data cj hs co h0 oQ hr
    obtain ⟨s',eU,h1,h2⟩:=hd.next (k:=k) hs (by omega) (by omega) cj
    exact ⟨s',eU,by rw [vy hv b hk h0 ho,hp,Option.bind_some,h1],h2⟩
structure ViewC (t:Ty) (v:Pl) (vw:List Nat) (k:Nat):Prop where
 odd:vw.length % 2=1
 zero:vw[0]? = some 0
 last:vw[vw.length-1]? = some k
 len:vw.length<=k+1
 all:∀ (i e:Nat),vw[i]? = some e->e<=k
 step:∀ j,2*j+2<vw.length->∃ e e' c p,vw[2*j]? = some e/\vw[2*j+2]? = some e'/\e' % 2=0/\0<e'/\e'<=k/\OppMv t v e' (c::p) (e+1)/\OkMv t v e' c p ((e+1:Nat):Int)
theorem view_chain {t:Ty} {v:Pl} (hv:zL t v=true) (k:Nat):k<v.length->k % 2=0->ViewC t v (kB v false (k+1)) k:=by
 induction k using Nat.strongRecOn with
 | _ k ih =>
   intro hk he
   rcases Nat.eq_zero_or_pos k with h0 | h0
   ·subst h0
    rw [yj hv hk]
    refine ⟨rfl,rfl,rfl,cC _,fun i e h=>?_,fun j hj=>by simp at hj⟩
    cases i with
    | zero=>obtain rfl:=Option.some.inj h;omega
    | succ i=>simp at h
   ·obtain ⟨c,p,z,ho,co⟩:=opp_mv hv hk he h0
    have cL:=ho.lt
    have nD:=ho.odd
    obtain ⟨z',rfl⟩:∃ z',z=z'+1:=⟨z-1,by omega⟩
    have hc:=ih z' (by omega) (by omega) (by omega)
    rw [viewP_step hv hk ho (by rw [co.opp];simp [he])]
    obtain ⟨vw,m7⟩:=zzN (kB v false (z'+1))
    rw [m7] at hc ⊢
    have nA:=hc.odd
    refine ⟨by rw [List.length_append];show (vw.length+2) % 2=1;omega,?_,?_,?_,?_,?_⟩
    ·rw [List.getElem?_append_left (by omega)];exact hc.zero
    ·rw [List.length_append,List.getElem?_append_right (by simp),show vw.length+[z'+1,k].length-1-vw.length=1 from by simp];rfl
    ·rw [List.length_append];have:=hc.len;show vw.length+2<=k+1;omega
    ·intro i e h
     rcases Nat.lt_or_ge i vw.length with hi | hi
     ·rw [List.getElem?_append_left hi] at h;have:=hc.all i e h;omega
     ·rw [List.getElem?_append_right hi] at h
      have:=List.mem_of_getElem? h
      simp only [List.mem_cons,List.not_mem_nil,or_false] at this
      omega
    ·intro j hj
     rw [List.length_append] at hj
     have hj':2*j+2<vw.length+2:=hj
     rcases Nat.lt_or_ge (2*j+2) vw.length with h' | h'
     ·obtain ⟨e,e',c',p',h1,h2,h3,h4,h5,h6,h7⟩:=hc.step j h'
      exact ⟨e,e',c',p',by rw [List.getElem?_append_left (by omega)];exact h1,by rw [List.getElem?_append_left h'];exact h2,h3,h4,by omega,h6,h7⟩
     ·have hjl:2*j+1=vw.length:=by omega
      refine ⟨z',k,c,p,?_,?_,he,h0,cC _,ho,co⟩
      ·rw [List.getElem?_append_left (by omega)]
       have:=hc.last
       rw [show vw.length-1=2*j from by omega] at this;exact this
      ·rw [List.getElem?_append_right (by omega),show 2*j+2-vw.length=1 from by omega];rfl
theorem atT_step {t:Ty} {p:Bs} {j:Nat} {a:Ty} (hj:j<p.length) (h:atT t (p.take j)=some a):atT t (p.take (j+1))=if 48<=p[j].toNat then a.args[p[j].toNat-48]? else none:=by
 rw [List.take_add_one,List.getElem?_eq_getElem hj,Option.toList_some,j_,h,Option.bind_some,ur]
 split
 ·cases a.args[p[j].toNat-48]? with
  | none=>rfl
  | some b=>exact qc b
 ·rfl
theorem atT_none {t:Ty} {p:Bs} {j:Nat} (h:atT t (p.take j)=none):atT t p=none:=by
 rw [<- List.take_append_drop j p,j_,h];rfl
def KAtPost (F:Nat->Prop) (t:Ty) (p:Bs) (w:World) (en:Ending) (w':World):Prop :=
 ∃ v,en=.returned v/\w'=w/\(atT t p=none->v=.pointer none)/\∀ a,atT t p=some a->Rep F w (qe a) v
set_option maxRecDepth 20000 in
theorem bA (F:Nat->Prop) (t:Ty) (p:Bs) (kv:Value) (w:World) (h:Rep F w (qe t) kv) (ht:zU t<=15) (hp:Lim p.length) :
 Calls Tryz.prog 84 #[kv,str p] w (KAtPost F t p w):=by
 have fM:=hp.le
 go_enter Tryz.func84,Tryz.ntmps84
 go_wp2_with fail
 go_loop [0,9] (fun k i=>∃ (j:Nat) (a:Ty),j<=p.length/\i=.int .i64 j/\atT t (p.take j)=some a/\Rep F w (qe a) k) (fun _ i=>p.length-(intOf i).toNat)
 case atStart=>exact ⟨0,t,Nat.zero_le _,rfl,by rw [List.take_zero];exact qc t,h⟩
 case round =>
  clear h
  obtain ⟨j,a,hj,rfl,hat,hr⟩:=hrel
  obtain ⟨kb,ks,e,hF,hb,dX⟩:=zO hr
  subst e
  by_cases cL:j<p.length
  ·have d8:(j:Int)<(p.length:Int):=by omega
   obtain ⟨sa,sc,e,d9,cA,dj⟩:=zC dX
   subst e
   have c0:w.cell? ⟨kb,0,none⟩=some (.slice sa a.args.length sc):=by simp [World.cell?,hb]
   have rE:=jk _ _ _ hat
   have mp:=jZ a
   have sN:a.args.length<=7:=by omega
   obtain ⟨x,hx⟩:∃ x:Nat,p[j].toNat=x:=⟨_,rfl⟩
   have Bn:x<256:=by rw [<- hx];exact UInt8.toNat_lt _
   have B:((((⟨p.toArray⟩:ByteArray)[j]'(qV cL)).toNat:Int))=(x:Int):=by rw [vE cL,hx]
   have eP:IntKind.i64.wrap (x:Int)=(x:Int):=qt x (by omega)
   have dI:=atT_step cL hat
   rw [hx] at dI
   have HS:=cH dI
   have HH:=cH (cB dj (cB cA d9))
   clear dI dj cA d9 hb dX hr hat rE mp hx
   by_cases hA:x<48
   ·have oU:IntKind.i64.wrap ((x:Int)-48)=(x:Int)-48:=by simp [IntKind.wrap,IntKind.bits,IntKind.signed];omega
    have Cd:(x:Int)-48<0:=by omega
    have HN:=cH (show atT t p=none from atT_none (j:=j+1) (by rw [HS.out,if_neg (show ¬ 48<=x by omega)]))
    clear hA HS HH
    go_wp2_with fail
    go_ret
    exact ⟨_,rfl,rfl,fun _=>rfl,fun b hb=>by rw [HN.out] at hb;simp at hb⟩
   ·obtain ⟨n,tE⟩:∃ n,x=n+48:=⟨x-48,by omega⟩
    have oU:IntKind.i64.wrap ((x:Int)-48)=(n:Int):=by rw [show (x:Int)-48=(n:Int) from by omega];exact qt n (by omega)
    have eV:¬ (n:Int)<0:=by omega
    have eA:=HS.out
    rw [if_pos (show 48<=x by omega),show x-48=n from by omega] at eA
    have A2:=cH eA
    clear eA HS hA Bn tE
    by_cases hB:a.args.length<=n
    ·have hB':(a.args.length:Int)<=(n:Int):=by omega
     have HN:=cH (show atT t p=none from atT_none (j:=j+1) (by rw [A2.out];exact List.getElem?_eq_none hB))
     clear hB HH
     go_wp2_with fail
     go_ret
     exact ⟨_,rfl,rfl,fun _=>rfl,fun b hb=>by rw [HN.out] at hb;simp at hb⟩
    ·have hB':¬ (a.args.length:Int)<=(n:Int):=by omega
     have h9:¬ (9:Int)<(n:Int):=by omega
     have hn0:(0:Int)<=(n:Int):=by omega
     have hnl:(n:Int)<(a.args.length:Int):=by omega
     obtain ⟨b,o,u,d,ea,ah,hblt,hd,hc,fK⟩:=HH.out.1 n (by omega)
     subst ea
     rw [uK,Option.map_eq_some_iff] at hd
     obtain ⟨c,aq,rfl⟩:=hd
     have HC:=cH (cB aq fK)
     clear aq fK hB HH
     go_wp2_with fail
     go_round
     case rel=>exact ⟨j+1,c,by omega,by go_num,by rw [A2.out];exact HC.out.1,HC.out.2⟩
     case measure=>simp only [intOf];omega
  ·obtain rfl:j=p.length:=by omega
   rw [List.take_length] at hat
   have HA:=cH (cB hat hr)
   clear hat hr hb dX cL
   go_wp2_with fail
   go_ret
   exact ⟨_,rfl,rfl,fun h=>(by rw [HA.out.1] at h;simp at h),fun b hb=>(by rw [HA.out.1] at hb;obtain rfl:=Option.some.inj hb;exact HA.out.2)⟩
structure Fr where
 yes:Bd
 no:Bd
 env:List Clo
 begun:Nat
 path:Bs
def zD (env:List Clo) (asked:Nat) (path:Bs):Nat->List Bd->List Clo
 | _,[]=>[]
 | i,s::ss=>.mk s env asked (path++dec i)::zD env asked path (i+1) ss
def qm:Nat->Nat->Bd->List Clo->Nat->Bs->List Fr->Option (UInt8×List (Bs×Nat))
 | f,m,.leaf c,_,begun,path,st =>
   if c=117 then some (117,[]) else
   match f with
   | 0=>none
   | f+1=>match st with
     | []=>some (c,[(c::path,begun)])
     | fr::st'=>(qm f (m+1) (if c=116 then fr.yes else fr.no) fr.env fr.begun fr.path st').map fun x=>(x.1,(c::path,begun)::x.2)
 | f,m,.ask v ss y n,env,begun,path,st =>
   match f with
   | 0=>none
   | f+1=>match env[v]? with
     | none=>none
     | some e=>(qm f (m+1) e.body (e.env++zD env m e.path 0 ss) m e.path (⟨y,n,env,begun,path⟩::st)).map fun x=>(x.1,(113::e.path,e.begun)::x.2)
theorem jc (f m:Nat) (env:List Clo) (begun:Nat) (path:Bs) (st:List Fr):qm f m (.leaf 117) env begun path st=some (117,[]):=by
 cases f <;> simp [qm]
theorem v7 {c:UInt8} (hc:c≠117) (m:Nat) (env:List Clo) (begun:Nat) (path:Bs) (st:List Fr):qm 0 m (.leaf c) env begun path st=none:=by
 simp [qm,hc]
theorem vY {c:UInt8} (hc:c≠117) (f m:Nat) (env:List Clo) (begun:Nat) (path:Bs):qm (f+1) m (.leaf c) env begun path []=some (c,[(c::path,begun)]):=by
 simp [qm,hc]
theorem qp {c:UInt8} (hc:c≠117) (f m:Nat) (env:List Clo) (begun:Nat) (path:Bs) (fr:Fr) (st:List Fr) :
 qm (f+1) m (.leaf c) env begun path (fr::st)=(qm f (m+1) (if c=116 then fr.yes else fr.no) fr.env fr.begun fr.path st).map fun x=>(x.1,(c::path,begun)::x.2):=by
 simp [qm,hc]
theorem j3 (m v:Nat) (ss:List Bd) (y n:Bd) (env:List Clo) (begun:Nat) (path:Bs) (st:List Fr):qm 0 m (.ask v ss y n) env begun path st=none:=by
 simp [qm]
theorem qb (f m v:Nat) (ss:List Bd) (y n:Bd) (env:List Clo) (begun:Nat) (path:Bs) (st:List Fr) {e:Clo} (he:env[v]? = some e) :
 qm (f+1) m (.ask v ss y n) env begun path st=(qm f (m+1) e.body (e.env++zD env m e.path 0 ss) m e.path (⟨y,n,env,begun,path⟩::st)).map fun x=>(x.1,(113::e.path,e.begun)::x.2):=by
 simp [qm,he]
theorem qJ (env:List Clo) (asked:Nat) (path:Bs):∀ (ss:List Bd) (i:Nat),(zD env asked path i ss).length=ss.length
 | [],i=>rfl
 | s::ss,i=>by simp [zD,qJ env asked path ss (i+1)]
theorem pm {hand:List Ty} {env:List Clo} (h:km env hand) (asked:Nat) (path:Bs):∀ (ss:List Bd) (ts:List Ty) (i:Nat),za (zp hand ts) ss->km (zD env asked path i ss) ts
 | [],ts,i,hf=>by
   rw [za] at hf
   have:ts=[]:=by cases ts with
    | nil=>rfl
    | cons t ts=>simp [zp] at hf
   subst this
   simp [zD,km]
 | s::ss,ts,i,hf=>by
   rw [za] at hf
   obtain ⟨h',fE,e,h1,h2⟩:=hf
   cases ts with
   | nil=>simp [zp] at e
   | cons t ts =>
     simp only [zp,List.map_cons,List.cons.injEq] at e
     obtain ⟨rfl,rfl⟩:=e
     rw [zD,km]
     refine ⟨t,ts,rfl,?_,pm h asked path ss ts (i+1) h2⟩
     rw [b7]
     exact ⟨hand,h,h1⟩
theorem ask_next {hand:List Ty} {env:List Clo} {v:Nat} {ss:List Bd} {y n:Bd} (hf:kX hand (.ask v ss y n)) (he:km env hand) (asked:Nat) :
 ∃ e,env[v]? = some e/\∃ eU,km (e.env++zD env asked e.path 0 ss) eU/\kX eU e.body:=by
 rw [kX] at hf
 obtain ⟨t,h1,h2,_,_⟩:=hf
 have hl:=xL _ _ he
 have hv:=(List.getElem?_eq_some_iff.1 h1).1
 obtain ⟨e,hev⟩:∃ e,env[v]? = some e:=⟨env[v]'(by omega),by simp [show v<env.length by omega]⟩
 refine ⟨e,hev,?_⟩
 obtain ⟨t',eI,hc⟩:=envFit_at _ _ he v e hev
 rw [h1] at eI;simp at eI;subst eI
 obtain ⟨b,e',bg,p⟩:=e
 rw [b7] at hc
 obtain ⟨h',k1,k2⟩:=hc
 exact ⟨h'++t.args,xI _ _ _ _ k1 (pm he asked p ss t.args 0 h2),k2⟩
def frFit (fr:Fr):Prop:=∃ hand,km fr.env hand/\kX hand fr.yes/\kX hand fr.no
theorem frame_next {hand:List Ty} {env:List Clo} {v:Nat} {ss:List Bd} {y n:Bd} (hf:kX hand (.ask v ss y n)) (he:km env hand) (begun:Nat) (path:Bs):frFit ⟨y,n,env,begun,path⟩:=by
 rw [kX] at hf
 obtain ⟨t,_,_,h3,h4⟩:=hf
 exact ⟨hand,he,h3,h4⟩
def Ma (w:World) (ma most moves:Nat):Prop:=w.heap[ma]? = some (.cells #[.slice none 0 0,.slice none 0 0,.int .i64 (most:Nat),.int .i64 (moves:Nat),.bool false] 70 (0,0))
theorem Ma.cells {w:World} {ma most moves:Nat} (h:Ma w ma most moves):w.cell? ⟨ma,2,none⟩=some (.int .i64 (most:Nat))/\w.cell? ⟨ma,3,none⟩=some (.int .i64 (moves:Nat))/\w.cell? ⟨ma,4,none⟩=some (.bool false)/\w.frozen? ⟨ma,3,none⟩=false:=by
 unfold Ma at h
 exact ⟨by simp [World.cell?,h],by simp [World.cell?,h],by simp [World.cell?,h],by simp [World.frozen?,h]⟩
theorem Ma.but {m:Nat->Prop} {w w':World} {ma most moves:Nat} (h:Ma w ma most moves) (hb:But m w w') (hm:¬ m ma):Ma w' ma most moves:=by
 unfold Ma;rw [hb.block ma (zZ h) hm];exact h
theorem Ma.below {w w':World} {ma most moves:Nat} (h:Ma w ma most moves) (hb:Below w.heap.size w w'):Ma w' ma most moves:=by
 unfold Ma;rw [hb.block ma (zZ h)];exact h
theorem Ma.drewN {w:World} {ma most moves:Nat} (h:Ma w ma most moves) (n:Nat):Ma (w.drewN n) ma most moves:=h
def jp (w:World):Prop:=∃ te pe,w.cell? ⟨0,0,none⟩=some (.iface te pe)
theorem jp.but {m:Nat->Prop} {w w':World} (h:jp w) (hb:But m w w') (hm:¬ m 0):jp w':=by
 obtain ⟨te,pe,h⟩:=h
 exact ⟨te,pe,(hb.cell (cD w _ h) hm).trans h⟩
theorem xq {m:Nat->Prop} {a w:World} (h:But m a w) (n:Nat):But m a (w.drewN n):=⟨h.os,h.tape,h.output,h.size,h.block⟩
def Moved (ma most moves:Nat) (w:World) (en:Ending) (w':World):Prop :=
 if moves=most then ∃ te pe,en=.returned (.tuple #[.int .i64 0,.iface te pe])/\Below w.heap.size w w'
 else en=.returned (.tuple #[.int .i64 (moves:Nat),.nilIface])/\But (· = ma) w w'/\Ma w' ma most (moves+1)
set_option maxRecDepth 100000 in
theorem move_any (ma most moves:Nat) (s:Bs) (p:Int) (w:World) (h:Ma w ma most moves) (hg:jp w) (hm:most<=16777216) (iG:moves<=most) :
 Calls Tryz.prog 47 #[.pointer (some ⟨ma,0,none⟩),str s,.int .i64 p] w (Moved ma most moves w):=by
 obtain ⟨c2,c3,c4,f3⟩:=h.cells
 obtain ⟨te,pe,tx⟩:=hg
 have H:=cH h;clear h
 by_cases he:moves=most
 ·have hd:((moves:Int) == (most:Int))=true:=by rw [beq_iff_eq];omega
  have HE:=cH he;clear he
  go_enter Tryz.func47,Tryz.ntmps47
  go_wp2_with fail
  go_quiet (fail)
  go_wp2_with fail
  go_quiet (fail)
  go_wp2_with fail
  refine bodyPost_ret (v:=.tuple #[.int .i64 0,.iface te pe]) (by simp [results,Tryz.results47,go_sem]) rfl ?_
  unfold Moved
  rw [if_pos HE.out]
  exact ⟨te,pe,rfl,by first | exact kZ (cE _ _) _ | exact kZ (kZ (cE _ _) _) _⟩
 ·have hd:((moves:Int) == (most:Int))=false:=by rw [beq_eq_false_iff_ne];omega
  have HE:=cH he;clear he
  have hw:IntKind.i64.wrap ((moves:Int)+1)=(moves:Int)+1:=by
   rw [show (moves:Int)+1=((moves+1:Nat):Int) from by omega];exact qt _ (by omega)
  go_enter Tryz.func47,Tryz.ntmps47
  go_wp2_with fail
  go_quiet (fail)
  have HN:=cH (H.out.drewN nq)
  have c4':(w.drewN nq).cell? ⟨ma,4,none⟩=some (.bool false):=c4
  have eY:Ma ((w.drewN nq).setCell ⟨ma,3,none⟩ (.int .i64 ((moves:Int)+1))) ma most (moves+1):=by
   unfold Ma;rw [zu HN.out];rfl
  have d4:((w.drewN nq).setCell ⟨ma,3,none⟩ (.int .i64 ((moves:Int)+1))).cell? ⟨ma,4,none⟩=some (.bool false):=eY.cells.2.2.1
  have d3:((w.drewN nq).setCell ⟨ma,3,none⟩ (.int .i64 ((moves:Int)+1))).cell? ⟨ma,3,none⟩=some (.int .i64 ((moves:Int)+1)):=eY.cells.2.1
  have HP:=cH eY;clear eY
  have dx:But (· = ma) w ((w.drewN nq).setCell ⟨ma,3,none⟩ (.int .i64 ((moves:Int)+1))) :=
   But.setCell (m:=(· = ma)) (p:=⟨ma,3,none⟩) (xq (But.refl _ _) _) (.inl rfl) _
  have HB:=cH dx;clear dx
  go_wp2_with fail
  refine bodyPost_ret (v:=.tuple #[.int .i64 (moves:Nat),.nilIface]) (by simp [results,Tryz.results47,go_sem]) rfl ?_
  unfold Moved
  rw [if_neg HE.out]
  exact ⟨rfl,HB.out,HP.out⟩
theorem zM.litk {w:World} {e:TypeId} {sz:Nat} (cs:Array Value) (hn:cs.size=sz) (hc:∀ u∈cs.toList,u.oneCell'=true) (g:Nat) (hg:g=w.heap.size):zM sz (.slice (some ⟨g,0,none⟩) 1 1) 1 cs.toList (w.alloc (.cells cs e)):=by
 subst hg
 refine ⟨by simp [hn],hc,.inl ⟨_,_,rfl,fun j u hu=>?_⟩⟩
 unfold Addr.add
 split
 ·subst j;simp;simpa using hu
 ·simp;simpa using hu
def xr (begun:Nat) (path:Bs):Nat->List Value
 | 0=>[]
 | n+1=>xr begun path n++[.int .i64 (begun:Nat),str (path++dec n)]
theorem dec_decDigits (n:Nat):dec n=Lib.decDigits n:=by
 induction n using Nat.strongRecOn with
 | _ n ih =>
   by_cases h:n<10
   ·rw [jW h,Lib.decDigits,dif_pos h];rfl
   ·rw [ud h,Lib.decDigits,dif_neg h,ih (n / 10) (Nat.div_lt_self (by omega) (by omega))];rfl
theorem itoa_dec (i:Nat):Lib.itoa (i:Int)=dec i:=by
 rw [dec_decDigits,Lib.itoa,if_neg (by omega)];rfl
theorem Tryz.infoPl:(Tryz.prog.info? 99).map (fun i=>(i.zero,i.size,i.bytes))=some (some (.agg #[.int .i64 0,str []]),2,24):=by kernel_rfl
def FreshSl (w:World) (e:TypeId) (sz n:Nat) (xs:List Value) (en:Ending) (w':World):Prop :=
 ∃ a c,en=.returned (.slice a n c)/\Own w' e sz (.slice a n c) n xs/\Below w.heap.size w w'/\(∀ g,(Value.slice a n c).ownBlock=some g->w.heap.size<=g)
set_option maxRecDepth 100000 in
theorem yX (n begun:Nat) (path:Bs) (w:World) (hg:qL w) (hn:n<=16) (hp:path.length<=1000000) :
 Calls Tryz.prog 49 #[.int .i64 (n:Nat),.int .i64 (begun:Nat),str path] w (FreshSl w 99 2 n (xr begun path n)):=by
 have HG:=cH hg;clear hg
 go_enter Tryz.func49,Tryz.ntmps49
 go_wp2_with fail
 go_loopw [7,10] (fun o i wr=>∃ k:Nat,k<=n/\i=.int .i64 k/\∃ a c,o=.slice a k c/\Own wr 99 2 (.slice a k c) k (xr begun path k)/\Below w.heap.size w wr/\(∀ g,(Value.slice a k c).ownBlock=some g->w.heap.size<=g)) (fun _ i _=>n-(intOf i).toNat)
 case atStart=>exact ⟨0,Nat.zero_le _,rfl,none,0,rfl,World.ownsRow_nil _ _ _ _,cE _ _,fun g h=>by simp [Value.ownBlock] at h⟩
 case round =>
  obtain ⟨k,hk,rfl,a,c,rfl,ho,hb,hf⟩:=hrel
  have HO:=cH ho;have HF:=cH hf;have HB:=cH hb
  clear ho hf hb
  by_cases cL:k<n
  ·have d8:(k:Int)<(n:Int):=by omega
   have AV:(dec k).length<=2:=qn 1 k (by omega)
   have er:=fun w0=>kG (P:=Tryz.prog) path (dec k) (by omega) w0
   have n6:=cH (HG.out.below HB.out)
   have HI:=cH (itoa_dec k)
   go_wp2_with fail
   refine (itoa_any (k:Int) _ n6.out (by omega) (by omega)).mono ?_
   rintro en w1 ⟨rfl,cT⟩
   rw [HI.out]
   generalize hS:path++dec k=S at *
   have HS:=cH hS;clear hS
   have z1:=cT.size
   have da:=cH cT;clear cT
   go_wp2_with (at_builtin;refine zG rfl _ _ 97 rfl 99 (.agg #[.int .i64 0,str []]) 2 24 Tryz.underlying97 Tryz.infoPl rfl (by decide) (.slice a k c) k (xr begun path k) rfl ?c1 _ 1 [.int .i64 (begun:Nat),str S] rfl ?c2 ?c3 ?c4 ?_)
   case c1=>exact (HO.out.keep fun g o _ ho=>by rw [da.out.block g (zZ ho)];exact ho).alloc _
   case c2=>exact zM.litk #[.int .i64 (begun:Nat),str S] rfl (by simp [str,Value.oneCell']) _ (by simp)
   case c3=>unfold maxLen;omega
   case c4=>omega
   intro a' c' w7 dB cq ci
   have hA:Own w7 99 2 (.slice a' (k+1) c') (k+1) (xr begun path (k+1)):=by
    rw [xr,HS.out];exact dB
   have dG:Below w.heap.size w w7:=by
    have h1:=zzT HB.out da.out
    refine (h1.alloc h1.size _).trans (cq.toBelow (by rw [zK];have:=h1.size;omega) fun i hi e=>?_)
    have:=HF.out i e;omega
   have dz:∀ g,(Value.slice a' (k+1) c').ownBlock=some g->w.heap.size<=g:=by
    intro g h
    rcases ci g h with h | h
    ·exact HF.out g h
    ·have h2:=HB.out.size
     have h3:g=w1.heap.size+1:=by simpa using h
     omega
   have HA:=cH (cB hA (cB dG dz));clear hA dG dz dB cq ci
   go_wp2_with fail
   go_roundw
   case rel=>exact ⟨k+1,by omega,by go_num,a',c',rfl,HA.out.1,HA.out.2.1,HA.out.2.2⟩
   case measure=>simp [intOf];omega
  ·obtain rfl:k=n:=by omega
   go_wp2_with fail
   go_ret
   exact ⟨a,c,rfl,HO.out,HB.out,HF.out⟩
theorem Own.at {w:World} {e:TypeId} {sz n:Nat} {xs:List Value} {v:Value} (h:Own w e sz v n xs) {j:Nat} {u:Value} (hj:xs[j]? = some u):∃ g c,v=.slice (some ⟨g,0,none⟩) n c/\w.cell? ⟨g,j,none⟩=some u:=by
 have cL:=(List.getElem?_eq_some_iff.1 hj).1
 rcases h.2 with ⟨_,h0⟩ | ⟨g,cap,cur,rfl,_,hg,nZ,_,hcs,ht⟩
 ·have:=h.1;rw [h0,Nat.zero_mul] at this;omega
 ·refine ⟨g,cap,rfl,?_⟩
  rw [<- ht] at hj
  rw [List.getElem?_take] at hj
  split at hj
  ·simp only [World.cell?,hg];simpa using hj
  ·simp at hj
theorem Own.short {w:World} {e:TypeId} {sz n m:Nat} {xs:List Value} {a:Option Addr} {c:Nat} (h:Own w e sz (.slice a n c) n xs) (hm:m<=n) (ha:a≠none):Own w e sz (.slice a m c) m (xs.take (m*sz)):=by
 have hl:=h.1
 have nR:m*sz<=n*sz:=Nat.mul_le_mul_right _ hm
 rcases h.2 with ⟨h0,_⟩ | ⟨g,cap,cur,e1,hb,hg,nZ,iW,hcs,ht⟩
 ·simp only [Value.slice.injEq] at h0;exact absurd h0.1 ha
 ·simp only [Value.slice.injEq,true_and] at e1
  obtain ⟨rfl,rfl⟩:=e1
  refine ⟨by rw [List.length_take,hl];omega,.inr ⟨g,c,cur,rfl,hb,hg,by omega,iW,hcs,?_⟩⟩
  rw [<- ht,List.take_take,Nat.min_eq_left nR]
theorem pg (begun:Nat) (path:Bs):∀ n,(xr begun path n).length=n*2
 | 0=>rfl
 | n+1=>by rw [xr,List.length_append,pg begun path n];simp;omega
theorem plcs_at (begun:Nat) (path:Bs):∀ n k,k<n->(xr begun path n)[k*2]? = some (.int .i64 (begun:Nat))/\(xr begun path n)[k*2+1]? = some (str (path++dec k))
 | 0,k,h=>by omega
 | n+1,k,h=>by
   have hl:=pg begun path n
   rw [xr]
   rcases Nat.lt_or_ge k n with h1 | h1
   ·obtain ⟨h2,h3⟩:=plcs_at begun path n k h1
    rw [List.getElem?_append_left (by omega),List.getElem?_append_left (by omega)]
    exact ⟨h2,h3⟩
   ·obtain rfl:k=n:=by omega
    rw [List.getElem?_append_right (by omega),List.getElem?_append_right (by omega),hl]
    simp
def xn (us:List Value) (ev:Value) (begun:Nat) (path:Bs):Nat->List Value
 | 0=>[]
 | n+1=>xn us ev begun path n++[us.getD n (.pointer none),ev,.int .i64 (begun:Nat),str (path++dec n)]
theorem Tryz.infoEn:(Tryz.prog.info? 126).map (fun i=>(i.zero,i.size,i.bytes))=some (some (.agg #[.pointer none,.slice none 0 0,.int .i64 0,str []]),4,56):=by kernel_rfl
set_option maxRecDepth 100000 in
theorem gJ (n begun:Nat) (path:Bs) (us:List Value) (sa:Option Addr) (sc:Nat) (ea:Option Addr) (el ec:Nat) (pa:Option Addr) (pc:Nat) (w:World) (hn:n<=16)
 (sO:∀ k,k<n->∃ b o u,sa=some ⟨b,o,none⟩/\us[k]? = some (.pointer (some ⟨u,0,none⟩))/\w.cell? ⟨b,o+k,none⟩=some (.pointer (some ⟨u,0,none⟩)))
 (hat:Own w 99 2 (.slice pa n pc) n (xr begun path n)) :
 Calls Tryz.prog 48 #[.slice sa n sc,.slice ea el ec,.slice pa n pc] w (FreshSl w 126 4 n (xn us (.slice ea el ec) begun path n)):=by
 have HUS:=cH sO;have dE:=cH hat;clear sO hat
 go_enter Tryz.func48,Tryz.ntmps48
 go_wp2_with fail
 go_loopw [7,12] (fun o i wr=>∃ k:Nat,k<=n/\i=.int .i64 k/\∃ a c,o=.slice a k c/\Own wr 126 4 (.slice a k c) k (xn us (.slice ea el ec) begun path k)/\Below w.heap.size w wr/\(∀ g,(Value.slice a k c).ownBlock=some g->w.heap.size<=g)) (fun _ i _=>n-(intOf i).toNat)
 case atStart=>exact ⟨0,Nat.zero_le _,rfl,none,0,rfl,World.ownsRow_nil _ _ _ _,cE _ _,fun g h=>by simp [Value.ownBlock] at h⟩
 case round =>
  obtain ⟨k,hk,rfl,a,c,rfl,ho,hb,hf⟩:=hrel
  have HO:=cH ho;have HF:=cH hf;have HB:=cH hb
  clear ho hf hb
  by_cases cL:k<n
  ·have d8:(k:Int)<(n:Int):=by omega
   obtain ⟨b,o,u,e,hu,hc⟩:=HUS.out k cL
   subst e
   obtain ⟨p1,p2⟩:=plcs_at begun path n k cL
   obtain ⟨g,c1,eg,h1⟩:=dE.out.at p1
   obtain ⟨g2,c2,eg2,h2⟩:=dE.out.at p2
   rw [eg] at eg2
   simp only [Value.slice.injEq,Option.some.injEq,Addr.mk.injEq,and_true,true_and] at eg2
   obtain ⟨rfl,rfl⟩:=eg2
   simp only [Value.slice.injEq,true_and] at eg
   obtain ⟨rfl,rfl⟩:=eg
   have q0:=(HB.out.cell (cD w _ hc)).trans hc
   have q1:=(HB.out.cell (cD w _ h1)).trans h1
   have q2:=(HB.out.cell (cD w _ h2)).trans h2
   have HU:=cH hu
   clear hu hc h1 h2 p1 p2
   generalize hS:path++dec k=S at *
   have HS:=cH hS;clear hS
   go_wp2_with (at_builtin;refine zG rfl _ _ 115 rfl 126 (.agg #[.pointer none,.slice none 0 0,.int .i64 0,str []]) 4 56 Tryz.underlying115 Tryz.infoEn rfl (by decide) (.slice a k c) k (xn us (.slice ea el ec) begun path k) rfl ?c1 _ 1 [.pointer (some ⟨u,0,none⟩),.slice ea el ec,.int .i64 (begun:Nat),str S] rfl ?c2 ?c3 ?c4 ?_)
   case c1=>exact HO.out.alloc _
   case c2=>exact zM.litk #[.pointer (some ⟨u,0,none⟩),.slice ea el ec,.int .i64 (begun:Nat),str S] rfl (by simp [str,Value.oneCell']) _ (by simp)
   case c3=>unfold maxLen;omega
   case c4=>omega
   intro a' c' w7 dB cq ci
   have hA:Own w7 126 4 (.slice a' (k+1) c') (k+1) (xn us (.slice ea el ec) begun path (k+1)):=by
    rw [xn,HS.out,List.getD_eq_getElem?_getD,HU.out];exact dB
   have dG:Below w.heap.size w w7:=by
    have h1:=HB.out
    refine (h1.alloc h1.size _).trans (cq.toBelow (by rw [zK];have:=h1.size;omega) fun i hi e=>?_)
    have:=HF.out i e;omega
   have dz:∀ g,(Value.slice a' (k+1) c').ownBlock=some g->w.heap.size<=g:=by
    intro g h
    rcases ci g h with h | h
    ·exact HF.out g h
    ·have h2:=HB.out.size
     omega
   have HA:=cH (cB hA (cB dG dz));clear hA dG dz dB cq ci
   go_wp2_with fail
   go_roundw
   case rel=>exact ⟨k+1,by omega,by go_num,a',c',rfl,HA.out.1,HA.out.2.1,HA.out.2.2⟩
   case measure=>simp [intOf];omega
  ·obtain rfl:k=n:=by omega
   go_wp2_with fail
   go_ret
   exact ⟨a,c,rfl,HO.out,HB.out,HF.out⟩
mutual
def encC:Clo->List DV
 | .mk b env n p=>[kr b,.sl 126 4 env.length (qX env),.val (.int .i64 (n:Nat)),.val (str p)]
def qX:List Clo->List DV
 | []=>[]
 | c::cs=>encC c++qX cs
end
theorem gV (c:Clo):(encC c).length=4:=by cases c;simp [encC]
theorem wj:∀ cs:List Clo,(qX cs).length=cs.length*4
 | []=>by simp [qX]
 | c::cs=>by rw [qX,List.length_append,gV,wj cs];simp;omega
theorem vx:∀ (xs ys:List Clo),qX (xs++ys)=qX xs++qX ys
 | [],ys=>by simp [qX]
 | x::xs,ys=>by simp [qX,vx xs ys]
theorem bD (env:List Clo) (m:Nat) (p:Bs):∀ (ss:List Bd) (i k:Nat),(zD env m p i ss)[k]? = ss[k]?.map fun s=>Clo.mk s env m (p++dec (i+k))
 | [],i,k=>by simp [zD]
 | s::ss,i,k=>by
   cases k with
   | zero=>simp [zD]
   | succ k=>simp only [zD,List.getElem?_cons_succ,bD env m p ss (i+1) k];rw [show i+1+k=i+(k+1) from by omega]
theorem ents_rep {F:Nat->Prop} {w:World} {env:List Clo} {ev:Value} {ss:List Bd} {us:List Value} {m:Nat} {p:Bs} (hu:zH F w (qW ss) us) (he:Rep F w (.sl 126 4 env.length (qX env)) ev) :
 ∀ k,k<=ss.length->zH F w (qX ((zD env m p 0 ss).take k)) (xn us ev m p k):=by
 intro k
 induction k with
 | zero=>intro _;rw [List.take_zero,qX,xn];exact zF.2 rfl
 | succ k ih =>
   intro hk
   have hs:ss[k]? = some ss[k]:=List.getElem?_eq_getElem (by omega)
   have ho:=bD env m p ss 0 k
   rw [hs] at ho
   simp only [Option.map_some,Nat.zero_add] at ho
   rw [List.take_add_one,ho,vx,xn]
   refine zH.append (ih (by omega)) ?_
   obtain ⟨u,Bv,hu2⟩:=hu.at (i:=k) (d:=kr ss[k]) (by rw [be,hs];rfl)
   rw [List.getD_eq_getElem?_getD,Bv]
   simp only [Option.toList_some,qX,encC,List.append_nil,Option.getD_some]
   exact zV.2 ⟨_,_,rfl,hu2,zV.2 ⟨_,_,rfl,he,zV.2 ⟨_,_,rfl,zj.2 rfl,zV.2 ⟨_,_,rfl,zj.2 rfl,zF.2 rfl⟩⟩⟩⟩
end Go.Proofs.YtdhaafoiokkbnaaGreatDoor

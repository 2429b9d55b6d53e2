/- Walks of functions that the statement reaches, and plain words. No conditions. -/
import Derived.Lib.Split
import Derived.Lib.IndexMore
import Derived.Lib.CountLaws
import Derived.Lib.SliceRun
import Derived.RangeFuncNested
import Derived.RangeFuncBound
import Derived.RangeFuncCalls
import Derived.RangeFuncLeaves
import Derived.RangeFuncFrom
import Derived.RangeFuncBox
import Derived.Shelf.Abstract
import Derived.Shelf.RegionOpen
import Derived.OwnWalkIn
import Derived.TacticsInMore
import Derived.LoopNIn
import Derived.LoopIn
import Derived.RegionTactic
import Derived.Test.YtepgfdhkkjfmhabGreatDoorQ3
set_option linter.unusedVariables false
set_option linter.unusedSimpArgs false
set_option maxHeartbeats 2000000
namespace Go.Proofs.YtepgfdhkkjfmhabGreatDoor
open Go.RowKit
inductive Mn where
 | op (o:Nat) (t:Ty)
 | bd (t:Ty) (b:Bd) (env:List Mn)
structure Gf where
 yes:Bd
 no:Bd
 env:List Mn
def wv:Nat->List Ty->List Mn
 | _,[]=>[]
 | n,t::ts=>.op n t::wv (n+1) ts
def owns (env:List Mn):List Ty->List Bd->List Mn
 | t::ts,s::ss=>.bd t s env::owns env ts ss
 | _,_=>[]
def evSubs (ev:Nat->Bd->List Mn->Nat->List Gf->Option (Bd×Nat)) (env:List Mn) (n:Nat):Nat->List Ty->List Bd->Option (List Bd×Nat)
 | l,t::ts,s::ss=>do
   let (x,l1)<-ev l s (env++wv n t.args) (n+t.args.length) []
   let (xs,l2)<-evSubs ev env n l1 ts ss
   some (x::xs,l2)
 | l,_,_=>some ([],l)
def ev:Nat->Nat->Bd->List Mn->Nat->List Gf->Option (Bd×Nat)
 | 0,_,_,_,_,_=>none
 | d+1,l,b,env,n,st=>match l with
   | 0=>none
   | l+1=>match b with
     | .leaf c=>if c=117 then some (.leaf c,l) else match st with
       | []=>some (.leaf c,l)
       | f::st'=>ev d l (if c=116 then f.yes else f.no) f.env n st'
     | .ask v ss y no=>match env[v]? with
       | none=>none
       | some (.bd t b' e)=>ev d l b' (e++owns env t.args ss) n (⟨y,no,env⟩::st)
       | some (.op o t)=>do
         let (xs,l1)<-evSubs (ev d) env n l t.args ss
         let (x,l2)<-ev d l1 y env n st
         let (z,l3)<-ev d l2 no env n st
         some (.ask o xs x z,l3)
def evSubsN (ev:Nat->Nat->Bd->List Mn->Nat->List Gf->Option (Bd×Nat×Nat)) (env:List Mn) (n:Nat):Nat->Nat->List Ty->List Bd->Option (List Bd×Nat×Nat)
 | k,l,t::ts,s::ss=>do
   let (x,k1,l1)<-ev k l s (env++wv n t.args) (n+t.args.length) []
   let (xs,k2,l2)<-evSubsN ev env n k1 l1 ts ss
   some (x::xs,k2,l2)
 | k,l,_,_=>some ([],k,l)
def evN:Nat->Nat->Nat->Bd->List Mn->Nat->List Gf->Option (Bd×Nat×Nat)
 | 0,_,_,_,_,_,_=>none
 | d+1,k,l,b,env,n,st=>match l with
   | 0=>none
   | l+1=>match k with
     | 0=>none
     | k+1=>match b with
       | .leaf c=>if c=117 then some (.leaf c,k,l) else match st with
         | []=>some (.leaf c,k,l)
         | f::st'=>evN d (k+1) l (if c=116 then f.yes else f.no) f.env n st'
       | .ask v ss y no=>match env[v]? with
         | none=>none
         | some (.bd t b' e)=>evN d (k+1) l b' (e++owns env t.args ss) n (⟨y,no,env⟩::st)
         | some (.op o t)=>do
           let (xs,k1,l1)<-evSubsN (evN d) env n k l t.args ss
           let (x,k2,l2)<-evN d k1 l1 y env n st
           let (z,k3,l3)<-evN d k2 l2 no env n st
           some (.ask o xs x z,k3,l3)
mutual
def ui (H:List Ty):Mn->Ty->Prop
 | .op o t,t'=>t=t'/\H[o]? = some t
 | .bd t b e,t'=>t=t'/\∃ h,kr H e h/\qb (h++t.args) b
def kr (H:List Ty):List Mn->List Ty->Prop
 | [],h=>h=[]
 | m::ms,h=>∃ t ts,h=t::ts/\ui H m t/\kr H ms ts
end
theorem mnFits_at {H:List Ty}:∀ (cs:List Mn) (h:List Ty),kr H cs h->∀ (i:Nat) (t:Ty),h[i]? = some t->∃ c,cs[i]? = some c/\ui H c t
 | [],h,k,i,c,hc=>by rw [kr] at k;subst k;simp at hc
 | c::cs,h,k,i,t',hc=>by
   rw [kr] at k
   obtain ⟨t,ts,rfl,k1,k2⟩:=k
   cases i with
   | zero=>simp at hc;subst hc;exact ⟨c,rfl,k1⟩
   | succ i=>simp at hc;simpa using mnFits_at cs ts k2 i t' hc
theorem ve {H:List Ty}:∀ (xs bs:List Mn) (h k:List Ty),kr H xs h->kr H bs k->kr H (xs++bs) (h++k)
 | [],bs,h,k,h1,h2=>by rw [kr] at h1;subst h1;simpa using h2
 | a::xs,bs,h,k,h1,h2=>by
   rw [kr] at h1
   obtain ⟨t,ts,rfl,k1,k2⟩:=h1
   simp only [List.cons_append]
   rw [kr]
   exact ⟨t,ts++k,rfl,k1,ve xs bs ts k k2 h2⟩
mutual
theorem mnFit_more {H X:List Ty}:∀ (m:Mn) (t:Ty),ui H m t->ui (H++X) m t
 | .op o t,t',h=>by
   rw [ui] at *
   exact ⟨h.1,by rw [List.getElem?_append_left (List.getElem?_eq_some_iff.1 h.2).1];exact h.2⟩
 | .bd t b e,t',h=>by
   rw [ui] at *
   obtain ⟨h1,k,h2,h3⟩:=h
   exact ⟨h1,k,ue e k h2,h3⟩
theorem ue {H X:List Ty}:∀ (ms:List Mn) (h:List Ty),kr H ms h->kr (H++X) ms h
 | [],h,k=>by rw [kr] at *;exact k
 | m::ms,h,k=>by
   rw [kr] at *
   obtain ⟨t,ts,rfl,k1,k2⟩:=k
   exact ⟨t,ts,rfl,mnFit_more m t k1,ue ms ts k2⟩
end
theorem opens_fit {H:List Ty}:∀ (ts:List Ty) (n:Nat),(∀ i t,ts[i]? = some t->H[n+i]? = some t)->kr H (wv n ts) ts
 | [],n,h=>by rw [wv,kr]
 | t::ts,n,h=>by
   rw [wv,kr]
   refine ⟨t,ts,rfl,?_,opens_fit ts (n+1) fun i t' hi=>?_⟩
   ·rw [ui];exact ⟨rfl,by have:=h 0 t rfl;simpa using this⟩
   ·have:=h (i+1) t' (by simpa using hi)
    rw [show n+1+i=n+(i+1) from by omega];exact this
theorem opens_fit_end (H:List Ty) (ts:List Ty):kr (H++ts) (wv H.length ts) ts :=
 opens_fit ts H.length fun i t h=>by rw [List.getElem?_append_right (by omega),Nat.add_sub_cancel_left];exact h
theorem owns_fit {H h:List Ty} {env:List Mn} (he:kr H env h):∀ (ts:List Ty) (ss:List Bd),kN (zi h ts) ss->kr H (owns env ts ss) ts
 | [],ss,hf=>by
   rw [owns]
   ·rw [kr]
   ·intros;contradiction
 | t::ts,[],hf=>by
   rw [kN] at hf;simp [zi] at hf
 | t::ts,s::ss,hf=>by
   rw [kN] at hf
   obtain ⟨h',dD,e,h1,h2⟩:=hf
   simp only [zi,List.map_cons,List.cons.injEq] at e
   obtain ⟨rfl,rfl⟩:=e
   rw [owns,kr]
   refine ⟨t,ts,rfl,?_,owns_fit he ts ss h2⟩
   rw [ui]
   exact ⟨rfl,h,he,h1⟩
def gfFit (H:List Ty) (f:Gf):Prop:=∃ h,kr H f.env h/\qb h f.yes/\qb h f.no
structure yj (H:List Ty) (b:Bd) (env:List Mn) (st:List Gf):Prop where
 fit:∃ h,kr H env h/\qb h b
 frames:∀ f∈st,gfFit H f
theorem yj.ask {H:List Ty} {v:Nat} {ss:List Bd} {y no:Bd} {env:List Mn} {st:List Gf} (h:yj H (.ask v ss y no) env st) :
 ∃ m t hh,env[v]? = some m/\ui H m t/\kr H env hh/\kN (zi hh t.args) ss/\qb hh y/\qb hh no:=by
 obtain ⟨⟨hh,h1,h2⟩,_⟩:=h
 rw [qb] at h2
 obtain ⟨t,k1,k2,k3,k4⟩:=h2
 obtain ⟨m,m1,m2⟩:=mnFits_at _ _ h1 v t k1
 exact ⟨m,t,hh,m1,m2,h1,k2,k3,k4⟩
theorem yj.call {H:List Ty} {v:Nat} {ss:List Bd} {y no:Bd} {env:List Mn} {st:List Gf} (h:yj H (.ask v ss y no) env st) {t:Ty} {b':Bd} {e:List Mn} (he:env[v]? = some (.bd t b' e)) :
 ss.length=t.args.length/\yj H b' (e++owns env t.args ss) (⟨y,no,env⟩::st):=by
 obtain ⟨m,t',hh,m1,m2,m3,m4,m5,m6⟩:=h.ask
 rw [he] at m1;simp at m1;subst m1
 rw [ui] at m2
 obtain ⟨rfl,k,k1,k2⟩:=m2
 refine ⟨?_,⟨k++t.args,ve _ _ _ _ k1 (owns_fit m3 _ _ m4),k2⟩,fun f hf=>?_⟩
 ·have:=jQ _ _ m4;rw [qx] at this;exact this.symm
 ·rcases List.mem_cons.1 hf with rfl | hf
  ·exact ⟨hh,m3,m5,m6⟩
  ·exact h.frames f hf
theorem yj.keep {H:List Ty} {v:Nat} {ss:List Bd} {y no:Bd} {env:List Mn} {st:List Gf} (h:yj H (.ask v ss y no) env st) {t:Ty} {o:Nat} (he:env[v]? = some (.op o t)) :
 ss.length=t.args.length/\H[o]? = some t/\(∀ (k:Nat) (a:Ty) (s:Bd),t.args[k]? = some a->ss[k]? = some s->yj (H++a.args) s (env++wv H.length a.args) [])/\yj H y env st/\yj H no env st:=by
 obtain ⟨m,t',hh,m1,m2,m3,m4,m5,m6⟩:=h.ask
 rw [he] at m1;simp at m1;subst m1
 rw [ui] at m2
 obtain ⟨rfl,k1⟩:=m2
 have hl:=jQ _ _ m4
 rw [qx] at hl
 refine ⟨hl.symm,k1,fun k a s ha hs=>?_,⟨⟨hh,m3,m5⟩,h.frames⟩,⟨⟨hh,m3,m6⟩,h.frames⟩⟩
 obtain ⟨x,hx,hf⟩:=xT _ _ m4 k s hs
 have dC:x=hh++a.args:=by simp [zi,ha] at hx;exact hx.symm
 subst dC
 exact ⟨⟨hh++a.args,ve _ _ _ _ (ue _ _ m3) (opens_fit_end H a.args),hf⟩,by simp⟩
mutual
def wfB:Bd->Prop
 | .leaf c=>c=116\/c=102\/c=117
 | .ask _ ss y n=>xt ss/\wfB y/\wfB n
def xt:List Bd->Prop
 | []=>True
 | b::bs=>wfB b/\xt bs
end
theorem wfBs_at:∀ (xs:List Bd),xt xs->∀ (k:Nat) (b:Bd),xs[k]? = some b->wfB b
 | [],_,k,b,h=>by simp at h
 | x::xs,hw,k,b,h=>by
   rw [xt] at hw
   cases k with
   | zero=>simp at h;subst h;exact hw.1
   | succ k=>exact wfBs_at xs hw.2 k b (by simpa using h)
theorem dig_digit {r:Nat} (h:r<10):dig (vY r)=true:=by
 rcases (by omega:r=0\/r=1\/r=2\/r=3\/r=4\/r=5\/r=6\/r=7\/r=8\/r=9) with rfl | rfl | rfl | rfl | rfl | rfl | rfl | rfl | rfl | rfl <;> rfl
theorem dec_all (n:Nat):∀ c∈dec n,dig c=true:=by
 induction n using Nat.strongRecOn with
 | _ n ih =>
   by_cases h:n<10
   ·rw [jk h];intro c hc;simp at hc;subst hc;exact dig_digit h
   ·rw [j3 h]
    intro c hc
    rcases List.mem_append.1 hc with hc | hc
    ·exact ih (n / 10) (Nat.div_lt_self (by omega) (by omega)) c hc
    ·simp at hc;subst hc;exact dig_digit (Nat.mod_lt _ (by omega))
theorem textB_ask (v:Nat) (ss:List Bd) (y n:Bd):kg (.ask v ss y n)=40::(dec v++(kE (ss++[y,n])++[41])):=by
 rw [kg,j7];simp [kE]
theorem uf {rd:RdS} {P:Bd->Prop} (h:∀ hand l b r,rd hand l=some (b,r)->P b):∀ (hs:List (List Ty)) (l:Bs) (ps:List Bd) (r:Bs),zP rd hs l=some (ps,r)->∀ p∈ps,P p
 | [],l,ps,r,hx=>by simp [zP] at hx;obtain ⟨rfl,_⟩:=hx;simp
 | a::hs,l,ps,r,hx=>by
   simp only [zP,kK,Option.bind_eq_bind,Option.bind_eq_some_iff,Prod.exists] at hx
   obtain ⟨b,l1,⟨l0,h0,h1⟩,bs,l2,h2,h3⟩:=hx
   simp at h3;obtain ⟨rfl,rfl⟩:=h3
   intro p hp
   rcases List.mem_cons.1 hp with rfl | hp
   ·exact h _ _ _ _ h1
   ·exact uf h hs l1 bs l2 h2 p hp
theorem gt {v n:Nat} {ps:List Bd} {b:Bd} (h:uv v n ps=some b):∃ ss y no,b=.ask v ss y no/\ps=ss++[y,no]:=by
 unfold uv at h
 split at h
 ·rename_i y no hd
  simp at h;subst h
  exact ⟨_,_,_,rfl,by rw [<- hd,List.take_append_drop]⟩
 ·simp at h
theorem wfBs_of:∀ (ps:List Bd),(∀ p∈ps,wfB p)->xt ps
 | [],_=>trivial
 | p::ps,h=>⟨h p (by simp),wfBs_of ps fun q hq=>h q (by simp [hq])⟩
theorem pO:∀ (xs ys:List Bd),xt (xs++ys)->xt xs/\xt ys
 | [],ys,h=>⟨trivial,h⟩
 | x::xs,ys,h=>by
   simp only [List.cons_append] at h;rw [xt] at h
   have:=pO xs ys h.2
   exact ⟨⟨h.1,this.1⟩,this.2⟩
theorem rdN_wf (e:Nat):∀ (hand:List Ty) (l:Bs) (b:Bd) (r:Bs),rdN e hand l=some (b,r)->wfB b/\vH b<e:=by
 induction e with
 | zero=>intro hand l b r h;simp [rdN] at h
 | succ e ih =>
   intro hand l b r h
   cases l with
   | nil=>simp [rdN] at h
   | cons c m =>
     simp only [rdN] at h
     split at h
     ·rename_i hc;simp at h;obtain ⟨rfl,_⟩:=h;exact ⟨hc,by simp [vH]⟩
     ·split at h
      ·simp at h
      ·split at h
       ·simp at h
       ·split at h
        ·simp at h
        ·simp only [Option.bind_eq_bind,Option.bind_eq_some_iff,Prod.exists] at h
         obtain ⟨ps,l1,h1,l2,h2,b',h3,h4⟩:=h
         simp at h4;obtain ⟨rfl,_⟩:=h4
         obtain ⟨ss,y,no,rfl,rfl⟩:=gt h3
         have k1:=uf (P:=fun b=>wfB b/\vH b<e) (fun hand l b r h=>ih hand l b r h) _ _ _ _ h1
         have k2:=pO _ _ (wfBs_of _ fun p hp=>(k1 p hp).1)
         refine ⟨⟨k2.1,k2.2.1,k2.2.2.1⟩,?_⟩
         rw [depthB_parts]
         have key:∀ (qs:List Bd),(∀ q∈qs,vH q<e)->jV qs<=e:=by
          intro qs
          induction qs with
          | nil=>intro _;simp [jV]
          | cons q qs ihq =>
            intro hq
            have h1:=hq q (by simp)
            have h2:=ihq fun x hx=>hq x (by simp [hx])
            simp only [jV];omega
         exact Nat.lt_succ_of_le (key _ fun q hq=>(k1 q hq).2)
theorem qR {p l r:Bs} (h:cut p l=some r):l=p++r:=by
 unfold cut at h
 split at h
 ·rename_i hp
  simp at h
  obtain ⟨q,hq⟩:=List.isPrefixOf_iff_prefix.1 hp
  subst hq
  simp at h;rw [h]
 ·simp at h
theorem dec_dd (n:Nat):dec n=Lib.decDigits n:=by
 induction n using Nat.strongRecOn with
 | _ n ih =>
   by_cases h:n<10
   ·rw [jk h,Lib.decDigits,dif_pos h];rfl
   ·rw [j3 h,Lib.decDigits,dif_neg h,ih (n / 10) (Nat.div_lt_self (by omega) (by omega))];rfl
theorem specNum_text {m:Bs} {v k:Nat} (h:qM m=some (v,k)):m=dec v++m.drop k:=by
 obtain ⟨h1,h2,h3,h4⟩:=xZ h
 have hd:dec v=kZ m:=by
  rw [dec_dd,h2]
  exact xz _ _ rfl h1 (j1 m) h4
 obtain ⟨q,hq⟩:=j9 m
 rw [hd,h3]
 conv=>lhs;rw [<- hq]
 conv=>rhs;rw [<- hq]
 have:kZ (kZ m++q)=kZ m:=by rw [hq]
 rw [this,List.drop_left]
theorem uq {rd:RdS} (ih:∀ hand l b r,rd hand l=some (b,r)->l=kg b++r):∀ (hs:List (List Ty)) (l:Bs) (ps:List Bd) (r:Bs),zP rd hs l=some (ps,r)->l=kE ps++r
 | [],l,ps,r,h=>by simp [zP] at h;obtain ⟨rfl,rfl⟩:=h;simp [kE]
 | a::hs,l,ps,r,hx=>by
   simp only [zP,kK,Option.bind_eq_bind,Option.bind_eq_some_iff,Prod.exists] at hx
   obtain ⟨b,l1,⟨l0,h0,h1⟩,bs,l2,h2,h3⟩:=hx
   simp at h3;obtain ⟨rfl,rfl⟩:=h3
   rw [qR h0,ih _ _ _ _ h1,uq ih hs l1 bs l2 h2]
   simp [kE]
theorem rdN_canon (e:Nat):∀ (hand:List Ty) (l:Bs) (b:Bd) (r:Bs),rdN e hand l=some (b,r)->l=kg b++r:=by
 induction e with
 | zero=>intro hand l b r h;simp [rdN] at h
 | succ e ih =>
   intro hand l b r h
   cases l with
   | nil=>simp [rdN] at h
   | cons c m =>
     simp only [rdN] at h
     split at h
     ·simp at h;obtain ⟨rfl,rfl⟩:=h;simp [kg]
     ·split at h
      ·simp at h
      ·rename_i bf
       have bf:c=40:=by simpa using bf
       subst bf
       split at h
       ·simp at h
       ·rename_i v k hn
        split at h
        ·simp at h
        ·simp only [Option.bind_eq_bind,Option.bind_eq_some_iff,Prod.exists] at h
         obtain ⟨ps,l1,h1,l2,h2,b',h3,h4⟩:=h
         simp at h4;obtain ⟨rfl,rfl⟩:=h4
         obtain ⟨ss,y,no,rfl,rfl⟩:=gt h3
         rw [textB_ask]
         conv=>lhs;rw [specNum_text hn,uq ih _ _ _ _ h1,qR h2]
         simp
theorem ud {s text:Bs} {b:Bd} (h:zI s text=some b):(zU s).2=true/\rdN 101 (zU s).1.args text=some (b,[])/\zD b<=200:=by
 unfold zI at h
 split at h
 ·simp at h
 ·rename_i h0
  split at h
  ·simp at h
  ·rename_i b' rest hq
   split at h
   ·rename_i hc
    simp at h;subst h
    obtain ⟨rfl,h2⟩:=hc
    exact ⟨by simpa using (not_or.1 h0).1,hq,h2⟩
   ·simp at h
structure Good (t:Ty) (b:Bd):Prop where
 atoms:zX t<=15
 fit:qb t.args b
 wf:wfB b
 size:zD b<=200
 depth:vH b<=100
theorem jj {s text:Bs} {b:Bd} (h:zI s text=some b):Good (zU s).1 b/\text=kg b:=by
 obtain ⟨h1,h2,h3⟩:=ud h
 have hw:=rdN_wf _ _ _ _ _ h2
 refine ⟨⟨vQ h1,rdN_fit _ h2,hw.1,h3,by have:=hw.2;omega⟩,?_⟩
 have:=rdN_canon _ _ _ _ _ h2
 rwa [List.append_nil] at this
theorem rdK_canon (d:Nat):∀ (l:Bs) (t:Ty) (r:Bs),rdK d l=some (t,r)->l=zl t++r:=by
 induction d with
 | zero =>
   intro l t r h
   rcases zq [98] l with hc | ⟨r',hc⟩
   ·rw [vV hc] at h;simp at h
   ·rw [vE hc] at h;simp at h;obtain ⟨rfl,rfl⟩:=h;rw [vS];exact qR hc.out
 | succ d ih =>
   intro l t r h
   rcases zq [98] l with hc | ⟨r',hc⟩
   ·rw [qK hc] at h
    simp only [Option.bind_eq_bind,Option.bind_eq_some_iff,Prod.exists] at h
    obtain ⟨r1,h1,a,r2,h2,r3,h3,b,r4,h4,r5,h5,h6⟩:=h
    simp at h6;obtain ⟨rfl,rfl⟩:=h6
    cases b with
    | mk bs =>
    rw [jW,vO,qR h1,ih _ _ _ h2,qR h3,ih _ _ _ h4,qR h5]
    simp [Ty.args]
   ·rw [vE hc] at h;simp at h;obtain ⟨rfl,rfl⟩:=h;rw [vS];exact qR hc.out
theorem vk {l:Bs} (h:(zU l).2=true):l=zl (zU l).1/\zX (zU l).1<=15:=by
 refine ⟨?_,vQ h⟩
 unfold zU at h ⊢
 split at h
 ·simp at h
 ·rename_i hl
  rw [if_neg hl]
  cases hq:rdS 21 l with
  | none=>rw [hq] at h;simp at h
  | some x =>
    obtain ⟨t,rest⟩:=x
    rw [hq] at h
    simp at h
    obtain ⟨h1,h2⟩:=h
    have hq':rdK 20 l=some (t,rest):=hq
    have hr:=rdK_canon _ _ _ _ hq'
    simp only
    have h3:rest=[]:=by simpa using h1
    rw [h3,List.append_nil] at hr;exact hr
def become (b:Bd) (env:List Mn) (n:Nat):Option Bd:=match ev 20000 20000 b env n [] with
 | some (out,_)=>if zD out<=200/\vH out<=100 then some out else none
 | none=>none
def writes (b:Bd) (env:List Mn) (n:Nat):Option Bd:=(evN 20000 200 20000 b env n []).map (·.1)
theorem xF {c:UInt8}:∀ {l:Bs} (r:Bs),c ∉ l->Lib.index (l++c::r) [c]=(l.length:Int)
 | [],r,_=>by
   rw [List.nil_append,Lib.index,if_pos (by simp [List.isPrefixOf])];rfl
 | b::l,r,h=>by
   have hb:c≠b:=fun e=>h (by simp [e])
   have ih:=xF (l:=l) r (fun e=>h (List.mem_cons_of_mem _ e))
   rw [List.cons_append,Lib.index,if_neg (by simp [List.isPrefixOf,hb]),ih,if_neg (by simp),List.length_cons]
   rfl
theorem index_no {c:UInt8}:∀ {l:Bs},c ∉ l->Lib.index l [c] = -1
 | [],_=>rfl
 | b::l,h=>by
   have hb:c≠b:=fun e=>h (by simp [e])
   have ih:=index_no (l:=l) (fun e=>h (List.mem_cons_of_mem _ e))
   rw [Lib.index,if_neg (by simp [List.isPrefixOf,hb]),ih];rfl
theorem cut_at {c:UInt8} {l r:Bs} (h:c ∉ l):Lib.cut (l++c::r) [c]=(l,r,true):=by
 unfold Lib.cut
 rw [xF r h,if_pos (by omega),Int.toNat_natCast,List.take_left' rfl]
 simp
theorem cut_none {c:UInt8} {l:Bs} (h:c ∉ l):Lib.cut l [c]=(l,[],false):=by
 unfold Lib.cut
 rw [index_no h,if_neg (by omega)]
def qS:List Bs->Bs
 | []=>[]
 | l::ls=>l++10::qS ls
theorem wX:∀ ls:List Bs,ls.length<=(qS ls).length
 | []=>hG _
 | l::ls=>by rw [qS,List.length_append,List.length_cons,List.length_cons];have:=wX ls;omega
theorem uj:∀ (ls:List Bs) (f:Nat),(∀ l∈ls,(10:UInt8) ∉ l)->ls.length<=f->Lib.countFrom [10] f (qS ls)=ls.length
 | [],f,_,_=>by cases f <;> rfl
 | l::ls,0,_,h=>by simp at h
 | l::ls,f+1,hl,h=>by
   rw [qS,Lib.countFrom,xF (qS ls) (hl l (by simp)),if_neg (by simp),Int.toNat_natCast]
   have e:(l++10::qS ls).drop (l.length+([10]:Bs).length)=qS ls:=by simp
   rw [e,uj ls f (fun x hx=>hl x (by simp [hx])) (by rw [List.length_cons] at h;omega),List.length_cons,Nat.add_comm]
theorem y_:∀ ls:List Bs,(∀ l∈ls,(10:UInt8) ∉ l)->Lib.splitK [10] 0 ls.length (qS ls)=ls++[[]]
 | [],_=>rfl
 | l::ls,hl=>by
   rw [qS,List.length_cons,Lib.splitK,xF (qS ls) (hl l (by simp)),if_neg (by simp),Int.toNat_natCast,Nat.add_zero,List.take_left' rfl]
   have e:(l++10::qS ls).drop (l.length+([10]:Bs).length)=qS ls:=by simp
   rw [e,y_ ls (fun x hx=>hl x (by simp [hx])),List.cons_append]
theorem w_ {ls:List Bs} (h:∀ l∈ls,(10:UInt8) ∉ l):Lib.countB ⟨(qS ls).toArray⟩ ⟨#[10]⟩=ls.length:=by
 show Lib.count (qS ls) [10]=_
 unfold Lib.count
 exact uj ls _ h (Nat.le_succ_of_le (wX ls))
theorem gw:∀ (xs:List ByteArray) (ys:List Bs),xs.map (·.data.toList)=ys->xs=ys.map fun l:Bs=>(⟨l.toArray⟩:ByteArray)
 | [],ys,h=>by subst h;rfl
 | x::xs,ys,h=>by
   subst h
   rw [List.map_cons,List.map_cons,<- gw xs _ rfl]
theorem split_lines {ls:List Bs} (h:∀ l∈ls,(10:UInt8) ∉ l):Lib.splitB ⟨#[10]⟩ 0 (Lib.countB ⟨(qS ls).toArray⟩ ⟨#[10]⟩) ⟨(qS ls).toArray⟩=(ls++[[]]).map fun l:Bs=>(⟨l.toArray⟩:ByteArray):=by
 apply gw
 rw [Lib.splitB_data,w_ h]
 exact y_ ls h
def xX (ans:Nat->Bs):Nat->Bs
 | 0=>[]
 | i+1=>xX ans i++(ans i++[10])
theorem digit_ne {k:Nat} (h:k<10):vY k≠10:=fun e=>by
 have:=qa h
 unfold vY at e
 rw [e] at this
 have h2:(10:UInt8).toNat=10:=rfl
 omega
theorem dec_nl (n:Nat):(10:UInt8) ∉ dec n:=by
 induction n using Nat.strongRecOn with
 | _ n ih =>
   by_cases h:n<10
   ·rw [jk h]
    simp only [List.mem_cons,List.not_mem_nil,or_false]
    exact fun e=>digit_ne h e.symm
   ·rw [j3 h,List.mem_append]
    rintro (k | k)
    ·exact ih (n / 10) (by omega) k
    ·simp only [List.mem_cons,List.not_mem_nil,or_false] at k
     exact digit_ne (Nat.mod_lt n (by decide)) k.symm
mutual
theorem textT_ne:∀ t:Ty,(10:UInt8) ∉ zl t
 | .mk ts=>by rw [zl];exact textTs_ne ts
theorem textTs_ne:∀ ts:List Ty,(10:UInt8) ∉ yy ts
 | []=>by rw [yy];decide
 | t::ts=>by
   rw [yy]
   have h1:=textT_ne t
   have h2:=textTs_ne ts
   simp [h1,h2]
end
mutual
theorem y8:∀ b:Bd,wfB b->(10:UInt8) ∉ kg b
 | .leaf c,h=>by
   rw [wfB] at h
   rw [kg]
   rcases h with rfl | rfl | rfl <;> decide
 | .ask v ss y n,h=>by
   rw [wfB] at h
   have h0:=dec_nl v
   have h1:=textBs_ne ss h.1
   have h2:=y8 y h.2.1
   have h3:=y8 n h.2.2
   rw [kg]
   simp [h0,h1,h2,h3]
theorem textBs_ne:∀ bs:List Bd,xt bs->(10:UInt8) ∉ kE bs
 | [],_=>by rw [kE];decide
 | b::bs,h=>by
   rw [xt] at h
   have h1:=y8 b h.1
   have h2:=textBs_ne bs h.2
   rw [kE]
   simp [h1,h2]
end
theorem gx (n:Nat) (s:Value) (xs:List Value) (w:World) (h:zp 1 s n xs w) (hn:Lim n) :
 Calls Tryz.prog 119 #[s] w fun en w' =>
  ∃ a c,en=.returned (.slice a n c)/\Own w' 46 1 (.slice a n c) n xs/\Below w.heap.size w w'/\(∀ g,(Value.slice a n c).ownBlock=some g->w.heap.size<=g):=by
 have hl:=hn.le
 obtain ⟨a,c,e⟩:=h.slice
 subst e
 cases a with
 | none =>
   have h0:n=0/\c=0:=by
    obtain ⟨_,_,⟨a',c',e,_⟩ | ⟨e,h0⟩⟩:=h
    ·simp at e
    ·simp at e;exact e
   obtain ⟨rfl,rfl⟩:=h0
   have hx:xs=[]:=List.eq_nil_of_length_eq_zero (by simpa using h.1)
   subst hx
   have q:=fun w=>Lib.run_eql_slice_nil (P:=Tryz.prog) w 125 46 none 0 0 0 0 Tryz.underlying125
   go_enter Tryz.func119,Tryz.ntmps119
   go_wp2_with fail
   go_ret
   exact ⟨none,0,rfl,World.ownsRow_nil _ _ _ _,bZ _ _,fun g h=>by simp [Value.ownBlock] at h⟩
 | some a =>
   have q:=fun w=>Lib.run_eql_slice_nil (P:=Tryz.prog) w 125 46 (some a) n c 0 0 Tryz.underlying125
   go_enter Tryz.func119,Tryz.ntmps119
   go_wp2_with (at_builtin;refine zu rfl _ _ 125 rfl 46 (.pointer none) 1 8 Tryz.underlying125 Tryz.infoB rfl (by decide) _ 0 [] rfl ?c1 _ n xs rfl ?c2 ?c3 ?c4 ?_)
   case c1=>exact Own.lit #[] 0 (by decide) rfl
   case c2=>exact h.keep fun _ _ h=>zK h
   case c3=>unfold maxLen;omega
   case c4=>omega
   intro a' c' w' ho hb hg
   go_wp2_with fail
   go_ret
   refine ⟨a',c',rfl,ho,((bZ w.heap.size w).alloc (hG _) _).trans (hb.toBelow (by simp) (fun i hi e=>by simp [Value.ownBlock] at e;omega)),fun g h=>?_⟩
   rcases hg g h with h | h
   ·simp [Value.ownBlock] at h;omega
   ·omega
def wM (F:Nat->Prop) (w:World) (b:Bd) (en:Ending) (w':World):Prop :=
 ∃ v,en=.returned v/\Below w.heap.size w w'/\Rep (fun k=>F k\/w.heap.size<=k) w' (.sl 46 1 (kj b).length (jm (kj b))) v
theorem parts_leaf (F:Nat->Prop) (w:World) (c:UInt8) (v:Value) (h:Rep F w (jT (.leaf c)) v) :
 Calls Tryz.prog 89 #[v] w (wM F w (.leaf c)):=by
 obtain ⟨a,e⟩:=ke h
 subst e
 go_enter Tryz.func89,Tryz.ntmps89
 go_wp2_with fail
 refine (wi F w c _ h).mono ?_
 rintro en w' ⟨rfl,e⟩
 subst e
 go_wp2_with fail
 go_ret
 exact ⟨_,rfl,bZ _ _,kD.2 ⟨rfl,none,0,rfl,hG _,fun _=>rfl,.inl rfl⟩⟩
theorem but_below {w wc w6:World} {o:Obj} {v:Value} (hbb:Below w.heap.size w wc) (bW:But (fun b=>v.ownBlock=some b) (wc.alloc o) w6)
 (eQ:∀ g,v.ownBlock=some g->w.heap.size<=g):Below w.heap.size w w6:=by
 refine (hbb.alloc hbb.size _).trans (bW.toBelow ?_ ?_)
 ·have:=hbb.size
  show w.heap.size<=(wc.heap.push o).size
  rw [Array.size_push];omega
 ·intro i hi e
  have h:w.heap.size<=i:=eQ i e
  omega
theorem but_below2 {w wc w6:World} {v:Value} (hbb:Below w.heap.size w wc) (bW:But (fun b=>v.ownBlock=some b) wc w6)
 (eQ:∀ g,v.ownBlock=some g->w.heap.size<=g):Below w.heap.size w w6:=by
 refine hbb.trans (bW.toBelow hbb.size ?_)
 intro i hi e
 have h:w.heap.size<=i:=eQ i e
 omega
theorem own_1 {w wc:World} {o:Obj} {v v':Value} (hbb:Below w.heap.size w wc) (eQ:∀ g,v.ownBlock=some g->w.heap.size<=g)
 (hg:∀ g,v'.ownBlock=some g->v.ownBlock=some g\/g=(wc.alloc o).heap.size):∀ g,v'.ownBlock=some g->w.heap.size<=g:=by
 intro g h
 rcases hg g h with h | h
 ·exact eQ g h
 ·have:=hbb.size
  rw [h,zQ];omega
theorem own_2 {w wc:World} {v v':Value} (hbb:Below w.heap.size w wc) (eQ:∀ g,v.ownBlock=some g->w.heap.size<=g)
 (hg:∀ g,v'.ownBlock=some g->v.ownBlock=some g\/g=wc.heap.size):∀ g,v'.ownBlock=some g->w.heap.size<=g:=by
 intro g h
 rcases hg g h with h | h
 ·exact eQ g h
 ·have:=hbb.size
  rw [h];omega
theorem own_ad {w:World} {o:Obj} {v:Value} (h:∀ g,v.ownBlock=some g->(w.alloc o).drew.heap.size<=g):∀ g,v.ownBlock=some g->w.heap.size<=g:=by
 intro g hg
 have:=h g hg
 have h2:(w.alloc o).drew.heap.size=w.heap.size+1:=zQ w o
 omega
set_option maxRecDepth 100000 in
theorem parts_ask (F:Nat->Prop) (w:World) (v:Nat) (ss:List Bd) (y n:Bd) (p:Value) (h:Rep F w (jT (.ask v ss y n)) p) (hn:Lim (ss.length+2)) :
 Calls Tryz.prog 89 #[p] w (wM F w (.ask v ss y n)):=by
 obtain ⟨b,sl,yv,nv,e,hFb,hc,tA,hy,hnn⟩:=gr h
 subst e
 obtain ⟨xs,rP,be⟩:=zp.ofRep tA (oneCell_encBs _)
 obtain ⟨sa,sc,esl⟩:=be.slice
 subst esl
 obtain ⟨ya,ey⟩:=ke hy
 obtain ⟨na,ena⟩:=ke hnn
 subst ey;subst ena
 have c2:w.cell? ⟨b,2,none⟩=some (.slice sa ss.length sc):=by simp [World.cell?,hc]
 have c3:w.cell? ⟨b,3,none⟩=some (.pointer (some ⟨ya,0,none⟩)):=by simp [World.cell?,hc]
 have c4:w.cell? ⟨b,4,none⟩=some (.pointer (some ⟨na,0,none⟩)):=by simp [World.cell?,hc]
 have lb:=zZ hc
 have hl:=hn.le
 clear hc
 go_enter Tryz.func89,Tryz.ntmps89
 go_wp2_with fail
 refine (gT F w v ss y n _ h).mono ?_
 rintro en w' ⟨rfl,e⟩
 obtain rfl:w=w':=e.symm
 go_wp2_with fail
 have rh:Lim ss.length:=hn.mono (by omega)
 have hm:ss.length+2<=maxLen:=by unfold maxLen;omega
 have dW:(ss.length+2)*8<=140737488355328:=by omega
 have h01:0<1:=by omega
 have fX:∀ u∈(#[.pointer (some ⟨ya,0,none⟩),.pointer (some ⟨na,0,none⟩)]:Array Value).toList,u.oneCell'=true:=by simp [Value.oneCell']
 have HO:=g_ fX;clear fX
 go_region_held3 (fun w'=>w'.cell? ⟨b,2,none⟩=some (.slice sa ss.length sc)/\w'.cell? ⟨b,3,none⟩=some (.pointer (some ⟨ya,0,none⟩))/\w'.cell? ⟨b,4,none⟩=some (.pointer (some ⟨na,0,none⟩)))
  (first
   | exact ⟨(de.cell lb).trans c2,(de.cell lb).trans c3,(de.cell lb).trans c4⟩
   | exact ⟨(hbb.cell lb).trans c2,(hbb.cell lb).trans c3,(hbb.cell lb).trans c4⟩
   | go_keep)
  (first
   | (go_at_call 119;refine (gx ss.length _ xs _ be.drew rh).mono ?_;rintro en wc ⟨ac,kc,rfl,rz,nn,sJ⟩;have hbb:Below w.heap.size w wc:=(bZ w.heap.size w).drew.trans nn;have eQ:∀ g,(Value.slice ac ss.length kc).ownBlock=some g->w.heap.size<=g:=sJ)
   | (go_at_call 119;refine (gx ss.length _ xs _ (be.alloc _).drew rh).mono ?_;rintro en wc ⟨ac,kc,rfl,rz,nn,sJ⟩;have hlit:=(zp.lits #[.pointer (some ⟨ya,0,none⟩),.pointer (some ⟨na,0,none⟩)] 2 rfl HO.out _ rfl).drew.below nn;have hbb:Below w.heap.size w wc:=below_ad nn;have eQ:=own_ad sJ)
   | (refine qC (by rfl) _ _ _ (by rfl) 46 (.pointer none) 1 8 Tryz.underlying125 Tryz.infoB rfl h01 (.slice ac ss.length kc) ss.length xs (by rfl) rz _ 2 [.pointer (some ⟨ya,0,none⟩),.pointer (some ⟨na,0,none⟩)] (by rfl) hlit hm dW ?_;intro a' c' w6 b4 bW b5;have de:Below w.heap.size w w6:=but_below2 hbb bW eQ;have hFg:=own_2 hbb eQ b5)
   | (refine qC (by rfl) _ _ _ (by rfl) 46 (.pointer none) 1 8 Tryz.underlying125 Tryz.infoB rfl h01 (.slice ac ss.length kc) ss.length xs (by rfl) (rz.alloc _) _ 2 [.pointer (some ⟨ya,0,none⟩),.pointer (some ⟨na,0,none⟩)] (by rfl) (zp.lits #[.pointer (some ⟨ya,0,none⟩),.pointer (some ⟨na,0,none⟩)] 2 rfl HO.out _ rfl) hm dW ?_;intro a' c' w6 b4 bW b5;have de:Below w.heap.size w w6:=but_below hbb bW eQ;have hFg:=own_1 hbb eQ b5))
 all_goals
  go_wp2_with fail
  go_ret
  refine ⟨_,rfl,de,?_⟩
  have:(kj (.ask v ss y n)).length=ss.length+2:=by simp [kj]
  rw [this]
  refine b4.rep (fun g h=>.inr (hFg g h)) ?_
  show zC _ _ (jm (ss++[y,n])) _
  rw [xO]
  refine zC.append (zC.below de (fun _ h=>.inl h) rP) ?_
  exact zJ.2 ⟨_,_,rfl,Rep.below de (fun _ h=>.inl h) hy,zC.one (Rep.below de (fun _ h=>.inl h) hnn)⟩
theorem parts_any (F:Nat->Prop) (w:World) (b:Bd) (v:Value) (h:Rep F w (jT b) v) (hn:Lim (zD b)) :
 Calls Tryz.prog 89 #[v] w (wM F w b):=by
 cases b with
 | leaf c=>exact parts_leaf F w c v h
 | ask u ss y n=>exact parts_ask F w u ss y n v h (hn.mono (by
  have:=qz ss;have:=zf y;have:=zf n;simp [zD];omega))
def pm (b:Bd):Prop:=∀ (F:Nat->Prop) (w:World) (v:Value),Rep F w (jT b) v ->
 Calls Tryz.prog 58 #[v] w fun en w'=>en=.returned (.int .i64 (zD b:Nat))/\Below w.heap.size w w'
theorem size_step (b:Bd) (hl:Lim (zD b)) (ih:∀ t,zD t<zD b->pm t):pm b:=by
 intro F w v hv
 have IH:=g_ ih;clear ih
 have ct:=hl.le
 obtain ⟨a0,e⟩:=ke hv
 subst e
 have bN:=vg b
 go_enter Tryz.func58,Tryz.ntmps58
 go_wp2_with fail
 refine (parts_any F w b _ hv hl).mono ?_
 rintro en w1 ⟨pv,rfl,bU,hp⟩
 obtain ⟨pa,pc,e,_,_,bL⟩:=zF hp
 subst e
 have AT:=g_ bL;clear bL hp
 have bP:=qz (kj b)
 have HS:=g_ bN;clear bN
 have aJ:(kj b).length<=16777216:=by have:=HS.out;omega
 go_wp2_with fail
 go_loopw [3,9] (fun n i wr=>∃ k:Nat,k<=(kj b).length/\i=.int .i64 k/\n=.int .i64 ((1+zE ((kj b).take k):Nat):Int)/\Below w1.heap.size w1 wr) (fun _ i _=>(kj b).length-(intOf i).toNat)
 case atStart=>exact ⟨0,Nat.zero_le _,rfl,by simp [zE],bZ _ _⟩
 case round =>
  rename_i wr
  obtain ⟨k,hk,rfl,rfl,hb⟩:=hrel
  by_cases bX:k<(kj b).length
  ·obtain ⟨ba,oa,u,d,ea,_,hba,hd,hu,hr⟩:=AT.out k bX
   subst ea
   rw [encBs_at,Option.map_eq_some_iff] at hd
   obtain ⟨t,ht,rfl⟩:=hd
   obtain ⟨ta,eu⟩:=ke hr
   subst eu
   have hc:wr.cell? ⟨ba,oa+k,none⟩=some (.pointer (some ⟨ta,0,none⟩)):=by rw [hb.cell hba];exact hu
   have tS:=vp ht
   have cN:=qI (kj b) (k+1)
   have dJ:Rep _ wr (jT t) (.pointer (some ⟨ta,0,none⟩)):=Rep.below hb (fun _ h=>h) hr
   have bN:=HS.out
   have htlt:zD t<zD b:=by omega
   have IH':=g_ (IH.out t htlt)
   have hkd:1+zE ((kj b).take k)<=16777216:=by omega
   have htd:zD t<=16777216:=by omega
   have rM:1+zE ((kj b).take k)+zD t<=16777216:=by omega
   have HT:=g_ tS
   clear tS bN ht hu hr
   go_wp2_with fail
   refine (IH'.out _ _ _ dJ).mono ?_
   rintro en w2 ⟨rfl,bY⟩
   have bH:=zzT hb bY
   go_wp2_with fail
   all_goals
    go_roundw
    case rel=>exact ⟨k+1,by omega,by go_num,by rw [HT.out];congr 1;omega,bH⟩
    case measure=>simp [intOf];omega
  ·obtain rfl:k=(kj b).length:=by omega
   have hkd:1+zE (kj b)<=16777216:=by have:=HS.out;omega
   rw [List.take_length]
   go_wp2_with fail
   go_ret
   exact ⟨j8 (by rw [HS.out]),zzT bU hb⟩
theorem size_any (n:Nat):∀ b,zD b<=n->Lim n->pm b:=by
 induction n with
 | zero=>intro b h _;have:=zf b;omega
 | succ n ih=>exact fun b h hn=>size_step b (hn.mono h) (fun t h'=>ih t (by omega) (hn.mono (by omega)))
end Go.Proofs.YtepgfdhkkjfmhabGreatDoor
namespace Go.Proofs.YtepgfdhkkjfmhabGreatDoor
open Go.RowKit Go.Shelf
attribute [local go_sem] Oper.semAt_some
def KpB (n₀:Nat) (p:Addr) (sv:Value) (W W':World):Prop:=Below n₀ W W'/\(W.cell? p=some sv->W'.cell? p=some sv)
theorem kpB_t {n₀:Nat} {p:Addr} {sv:Value} {A B C:World} (h:KpB n₀ p sv A B) (k:KpB n₀ p sv B C):KpB n₀ p sv A C:=⟨h.1.trans k.1,fun e=>k.2 (h.2 e)⟩
theorem kpB_b {n₀:Nat} {p:Addr} {sv:Value} {w:World} (hn:n₀<=w.heap.size) (W:World) (l:Nat) (o o':Obj) (hl:w.heap.size<=l) (h:W.heap[l]? = some o) (hc:o.isCells=false) (hw:o.isWalk=false):KpB n₀ p sv W (W.putObj l o') :=
 ⟨belowK_b hn W l o o' hl h hc hw,fun e=>cell_kept e (grownBy_putObj' _ l o') (fun r e=>by cases e;exact ⟨_,h,hc⟩)⟩
def BackAt {α:Type} (ix bl:α->Nat) (n₀:Nat) (w:World) (a:Option Addr) (xs:List α):Prop :=
 ∀ k x,xs[k]? = some x->ix x+k+1=xs.length/\∃ b o,a=some ⟨b,o,none⟩/\b<n₀/\w.cell? ⟨b,o+ix x,none⟩=some (.pointer (some ⟨bl x,0,none⟩))
set_option maxRecDepth 100000 in
theorem back1_in {α:Type} (ix bl:α->Nat) (F:Fence) (n:Nat) (hf:F.fn 94) (tz:F.round=none) (hn:1<=n) (l Bs n₀ cap:Nat) (a:Option Addr) (xs:List α) (bP:xs.length<=16777216) (J Jx:List α->World->Prop)
 (hY:∀ pre x W,J pre W->pre.length<xs.length->YieldAt F (n-1) Tryz.prog l #[.int .i64 (ix x:Nat),.pointer (some ⟨bl x,0,none⟩)] W fun e W' =>
  (e=.returned (.bool true)/\J (pre++[x]) W'/\KpB n₀ ⟨Bs,0,none⟩ (.slice a xs.length cap) W W')\/(e=.returned (.bool false)/\Jx (pre++[x]) W'))
 (W:World) (hBs:W.cell? ⟨Bs,0,none⟩=some (.slice a xs.length cap)) (hc:BackAt ix bl n₀ W a xs) (h0:J [] W) :
 CallsIn F n Tryz.prog 94 #[.func (.yield l) #[] #[],.pointer (some ⟨Bs,0,none⟩)] W fun e W'=>(∃ v,e=.returned v) /\
  ((∃ ys,ys=xs/\J ys W')\/(∃ pre,pre <+: xs/\Jx pre W')):=by
 refine callsIn_of_wp Tryz.func94 rfl hf ?_ tz
 simp only [Tryz.ntmps94,List.size_toArray,List.length_cons,List.length_nil,Nat.reduceAdd,Nat.reduceSub,Array.replicate_succ,Array.replicate_zero,List.push_toArray,List.append_toArray,List.nil_append,List.cons_append]
 have sI:IntKind.i64.wrap ((xs.length:Int)-1)=(xs.length:Int)-1:=IntWalk.i64_in _ (by omega)
 gi_wp2
 clear sI
 gi_loopw [3] (fun i wr=>Below n₀ W wr/\wr.cell? ⟨Bs,0,none⟩=some (.slice a xs.length cap)/\((i=.int .i64 (-1)/\J xs wr)\/(∃ j:Nat,j<xs.length/\i=.int .i64 (j:Nat)/\J (xs.take (xs.length-1-j)) wr)))
  (fun i _=>(intOf i+1).toNat)
 case atStart =>
  refine ⟨bZ _ _,hBs,?_⟩
  cases hx:xs with
  | nil=>subst hx;exact .inl ⟨by simp,h0⟩
  | cons x ys=>subst hx;exact .inr ⟨ys.length,by simp,by simp,by simpa using h0⟩
 case round =>
  obtain ⟨cA,hbs,⟨rfl,hJs⟩ | ⟨j,hj,rfl,hJs⟩⟩:=hrel
  ·gi_wp2
   go_end0
   exact ⟨⟨_,rfl⟩,.inl ⟨_,rfl,hJs⟩⟩
  ·have hj0:(0:Int)<=(j:Int):=by omega
   obtain ⟨x,hx⟩:∃ x,xs[xs.length-1-j]? = some x:=⟨xs[xs.length-1-j],by simp [show xs.length-1-j<xs.length from by omega]⟩
   obtain ⟨e1,b,o,rfl,hb,bA⟩:=hc _ x hx
   have e2:ix x=j:=by omega
   have hcx:=(cA.cell (p:=⟨b,o+ix x,none⟩) hb).trans bA
   obtain ⟨fn,tmps,assign,body,hy,hR⟩:=hY _ x wr hJs (by rw [List.length_take];omega)
   rw [e2] at hcx hy
   have ee:xs.take (xs.length-1-j)++[x]=xs.take (xs.length-1-j+1):=by rw [List.take_add_one,hx];rfl
   have HX:=g_ (hU e1 (hU e2 (hU hx ee)))
   clear hx e1 e2 ee bA
   have nh:(j:Int)<(xs.length:Int):=by omega
   have hw2:IntKind.i64.wrap ((j:Int)-1)=(j:Int)-1:=IntWalk.i64_in _ (by omega)
   gi_wp2
   refine hR.mono ?_
   rintro e W3 (⟨rfl,iB,aG⟩ | ⟨rfl,hJx3⟩)
   ·have hbs3:=aG.2 hbs
    have hbw3:=cA.trans aG.1
    gi_wp2
    go_roundw
    case rel =>
     refine ⟨hbw3,hbs3,?_⟩
     rw [HX.out.2.2.2] at iB
     cases j with
     | zero =>
       left
       refine ⟨by simp,?_⟩
       rw [show xs.length-1-0+1=xs.length from by omega,List.take_length] at iB
       exact iB
     | succ j =>
       right
       refine ⟨j,by omega,by simp,?_⟩
       rw [show xs.length-1-(j+1)+1=xs.length-1-j from by omega] at iB
       exact iB
    case measure=>simp [intOf]
   ·gi_wp2
    refine bodyPost_ret (results_none rfl _ _ _) rfl ?_
    exact ⟨⟨_,rfl⟩,.inr ⟨_,by rw [HX.out.2.2.2];exact List.take_prefix _ _,hJx3⟩⟩
theorem back_in (F:Fence) (n:Nat) (hf:F.fn 62) (tz:F.round=none) (a:Option Addr) (len cap:Nat) (w:World) :
 CallsIn F n Tryz.prog 62 #[.slice a len cap] w fun e w'=>e=.returned (.func (.func 94) #[] #[.pointer (some ⟨w.heap.size,0,none⟩)])/\w'=w.alloc (.cells #[.slice a len cap] 86):=by
 refine callsIn_of_wp Tryz.func62 rfl hf ?_ tz
 simp only [Tryz.ntmps62,List.size_toArray,List.length_cons,List.length_nil,Nat.reduceAdd,Nat.reduceSub,Array.replicate_succ,Array.replicate_zero,List.push_toArray,List.append_toArray,List.nil_append,List.cons_append]
 gi_wp2
 go_ret
 exact ⟨rfl,rfl⟩
theorem back_stops {α:Type} (ix bl:α->Nat) (F:Fence) (n:Nat) (hf:F.fn 94) (tz:F.round=none) (hn:1<=n) (Bs n₀ cap:Nat) (a:Option Addr) (xs:List α) (bP:xs.length<=16777216) (w:World) (hBs:Bs<w.heap.size) (hn₀:n₀<=w.heap.size)
 (hc:w.cell? ⟨Bs,0,none⟩=some (.slice a xs.length cap)) (hI:BackAt ix bl n₀ w a xs) :
 SeqStopsK F n Tryz.prog 94 #[.pointer (some ⟨Bs,0,none⟩)] (fun x:α=>#[Value.int .i64 (ix x:Nat),.pointer (some ⟨bl x,0,none⟩)]) (KpB n₀ ⟨Bs,0,none⟩ (.slice a xs.length cap)) (fun ys=>ys=xs) (fun pre=>pre <+: xs) xs.length w:=fun l J Jx W hW _ _ hY h0 =>
 back1_in ix bl F n hf tz hn l Bs n₀ cap a xs bP J Jx hY W ((hW.cell (p:=⟨Bs,0,none⟩) hBs).trans hc) (fun k x hx=>by
  obtain ⟨h1,b,o,h2,h3,h4⟩:=hI k x hx
  exact ⟨h1,b,o,h2,h3,((hW.mono hn₀).cell (p:=⟨b,o+ix x,none⟩) h3).trans h4⟩) h0
def qL:List Ty->Bs:=List.foldl (fun s t=>[40,62,32]++zl t++[32]++s++[41]) [98]
theorem yA (pre:List Ty) (t:Ty):qL (pre++[t])=[40,62,32]++zl t++[32]++qL pre++[41]:=by simp [qL]
theorem y7:∀ ts:List Ty,qL ts.reverse=zl (.mk ts)
 | []=>by rw [vS];rfl
 | t::ts=>by rw [List.reverse_cons,yA,y7 ts,vO];simp
structure uO (F:Nat->Prop) (w:World) (t0:Ty) where
 ix:Nat
 bl:Nat
 ty:Ty
 rep:Rep F w (jd ty) (.pointer (some ⟨bl,0,none⟩))
 low:zX ty<zX t0
def xi (t:Ty):Prop:=∀ (F:Nat->Prop) (w:World) (v:Value),Rep F w (jd t) v ->
 Calls Tryz.prog 40 #[v] w fun en w'=>en=.returned (str (zl t))/\Below w.heap.size w w'
theorem textFrom_len (pre:List Ty) (C:Nat) (h:∀ t∈pre,(zl t).length<=C):(qL pre).length<=1+pre.length*(C+5):=by
 have key:∀ (pre:List Ty) (s:Bs),(∀ t∈pre,(zl t).length<=C)->(pre.foldl (fun s t=>[40,62,32]++zl t++[32]++s++[41]) s).length<=s.length+pre.length*(C+5):=by
  intro pre
  induction pre with
  | nil=>intro s _;simp
  | cons t pre ih =>
    intro s h
    have h1:=ih ([40,62,32]++zl t++[32]++s++[41]) fun x hx=>h x (by simp [hx])
    have h2:=h t (by simp)
    simp only [List.foldl_cons,List.length_append,List.length_cons,List.length_nil] at h1 ⊢
    rw [Nat.add_mul]
    omega
 have:=key pre [98] h
 simpa [qL] using this
theorem items_of {F:Nat->Prop} {w:World} {t:Ty} {a:Option Addr} {n₀:Nat} (hF:∀ i,F i->i<n₀) (bL:Ats F w t.args.length (kI t.args) a) :
 ∃ xs:List (uO F w t),xs.length=t.args.length/\xs.map uO.ty=t.args.reverse/\BackAt uO.ix uO.bl n₀ w a xs:=by
 have key:∀ m,m<=t.args.length->∃ xs:List (uO F w t),xs.length=m/\xs.map uO.ty=(t.args.take m).reverse/\∀ k x,xs[k]? = some x->x.ix+k+1=m/\∃ b o,a=some ⟨b,o,none⟩/\b<n₀/\w.cell? ⟨b,o+x.ix,none⟩=some (.pointer (some ⟨x.bl,0,none⟩)):=by
  intro m
  induction m with
  | zero=>intro _;exact ⟨[],rfl,by simp,by simp⟩
  | succ m ih =>
    intro hm
    obtain ⟨xs,h1,h2,h3⟩:=ih (by omega)
    obtain ⟨b,o,u,d,ea,hFb,cA,hd,hc,d6⟩:=bL m (by omega)
    rw [vu,Option.map_eq_some_iff] at hd
    obtain ⟨ty,ht,rfl⟩:=hd
    obtain ⟨ub,_,rfl,_⟩:=za d6
    have hlow:zX ty<zX t:=by
     have:=uA ht
     have:=vB t.args (m+1)
     have:=kw t
     omega
    refine ⟨⟨m,ub,ty,d6,hlow⟩::xs,by simp [h1],?_,fun k x hk=>?_⟩
    ·rw [List.map_cons,h2,List.take_add_one,ht];simp
    ·cases k with
     | zero =>
       simp at hk;subst hk
       exact ⟨rfl,b,o,ea,hF b hFb,hc⟩
     | succ k =>
       obtain ⟨q1,q2⟩:=h3 k x (by simpa using hk)
       exact ⟨by omega,q2⟩
 obtain ⟨xs,h1,h2,h3⟩:=key t.args.length (hG _)
 rw [List.take_length] at h2
 exact ⟨xs,h1,h2,fun k x hk=>by obtain ⟨q1,q2⟩:=h3 k x hk;exact ⟨by omega,q2⟩⟩
theorem gM {A B:World} (h:Below A.heap.size A B):KeepsOthers A B :=
 ⟨h.size,fun k o hk _=>(h.block k (zZ hk)).trans hk⟩
theorem keeps_round {w W w':World} {sv:Value} {R O T:Bs} {n₀:Nat} (hn:n₀<=w.heap.size) (hB:Below w.heap.size w W) (hb:Below W.heap.size W.drew w') (hc:w'.cell? ⟨w.heap.size,0,none⟩=some (str R)) (hf:w'.frozen? ⟨w.heap.size,0,none⟩=false) (hT:T=O) :
 KeepsOthers W (w'.setCell ⟨w.heap.size,0,none⟩ (str O))/\KpB w.heap.size ⟨w.heap.size+1,0,none⟩ sv W (w'.setCell ⟨w.heap.size,0,none⟩ (str O)) /\
  ((w'.setCell ⟨w.heap.size,0,none⟩ (str O)).cell? ⟨w.heap.size,0,none⟩=some (str T)/\(w'.setCell ⟨w.heap.size,0,none⟩ (str O)).frozen? ⟨w.heap.size,0,none⟩=false)/\Below w.heap.size w (w'.setCell ⟨w.heap.size,0,none⟩ (str O)):=by
 have h1:Below W.heap.size W w':=⟨hb.os,hb.tape,hb.output,hb.size,hb.block⟩
 have h2:=(h1.mono hB.size).setCell (p:=⟨w.heap.size,0,none⟩) (hG _) (str O)
 subst hT
 refine ⟨(gM h1).trans (KeepsOthers.setCell _ _ _),⟨h2,fun e=>?_⟩,⟨World.cell?_setCell_same' _ _ _ (by rw [hc];rfl),by rw [World.frozen?_setCell];exact hf⟩,hB.trans h2⟩
 have h3:=(h1.cell (p:=⟨w.heap.size+1,0,none⟩) (h_ W _ e)).trans e
 rw [World.cell?_of_block (w:=w') (bQ _ _ _ _ (by simp))]
 exact h3
set_option maxRecDepth 100000 in
theorem textK_step (t:Ty) (hl:zX t<=1000) (ih:∀ t',zX t'<zX t->xi t'):xi t:=by
 intro F0 w v h0
 have h1:Rep (fun i=>F0 i/\i<w.heap.size) w (jd t) v:=(Rep.keep fun b o hf ho=>⟨⟨hf,zZ ho⟩,ho⟩).1 _ _ h0
 obtain ⟨b,s,rfl,hb,hc,hs⟩:=za h1
 have c1:w.cell? ⟨b,0,none⟩=some s:=by simp [World.cell?,hc]
 obtain ⟨a,cap,rfl,hn,bP,bL⟩:=zF hs
 have eH:t.args.length<=1000:=by have:=kF t.args;have:=kw t;omega
 clear hc hs h0 h1 hn bP
 obtain ⟨W0,cp⟩:=zzN ((w.alloc (.cells #[str [98]] 9)).alloc (.cells #[.slice a t.args.length cap] 86))
 obtain ⟨xs,x1,x2,x3⟩:=items_of (n₀:=w.heap.size) (fun i hi=>hi.2) bL
 refine (callsIn_wide (n:=4)).1 ?_
 refine callsIn_of_wp_marks Tryz.func40 rfl trivial ?_ rfl
 simp only [Tryz.ntmps40,List.size_toArray,List.length_cons,List.length_nil,Nat.reduceAdd,Nat.reduceSub,Array.replicate_succ,Array.replicate_zero,List.push_toArray,List.append_toArray,List.nil_append,List.cons_append]
 gi_wp2_with (refine ⟨trivial,?_⟩;gi_at_call 62;refine (back_in Fence.wide _ trivial rfl _ _ _ _).mono ?_;rintro e w' ⟨rfl,rfl⟩)
 have dT:W0.heap[w.heap.size]? = some (.cells #[str [98]] 9 (0,0)):=by rw [<- cp];exact zH (zO w _)
 have aj:W0.cell? ⟨w.heap.size,0,none⟩=some (str [98]):=by simp [World.cell?,dT]
 have hf0:W0.frozen? ⟨w.heap.size,0,none⟩=false:=by simp [World.frozen?,dT]
 have hz0:W0.heap.size=w.heap.size+2:=by rw [<- cp];simp
 have dO:W0.cell? ⟨w.heap.size+1,0,none⟩=some (.slice a xs.length cap):=by
  have h:W0.heap[w.heap.size+1]? = some (.cells #[.slice a t.args.length cap] 86 (0,0)):=by
   rw [<- cp]
   have:=zO (w.alloc (.cells #[str [98]] 9)) (.cells #[.slice a t.args.length cap] 86)
   rwa [zQ] at this
  simp [World.cell?,h,x1]
 have mQ:Below w.heap.size w W0:=by rw [<- cp];exact ((bZ _ w).alloc (hG _) _).alloc (by simp) _
 have s_:BackAt uO.ix uO.bl w.heap.size W0 a xs:=fun k x hx=>by
  obtain ⟨q1,b,o,q2,q3,q4⟩:=x3 k x hx
  exact ⟨q1,b,o,q2,q3,(mQ.cell (p:=⟨b,o+x.ix,none⟩) q3).trans q4⟩
 have hx1000:xs.length<=1000:=by omega
 have ez:qL (xs.map uO.ty)=zl t:=by rw [x2,y7];cases t;rfl
 have IH:=g_ ih
 clear ih
 refine wpIn_rangeFunc_ownF rfl (by omega) (gf:=94) (lb:=#[.pointer (some ⟨w.heap.size+1,0,none⟩)]) rfl trivial (enters_of Tryz.func94 (by kernel_rfl) rfl)
  (back_stops (α:=uO (fun i=>F0 i/\i<w.heap.size) w t) uO.ix uO.bl Fence.wide _ trivial rfl (by omega) (w.heap.size+1) w.heap.size cap a xs (by omega) W0 (by omega) (by omega) dO s_) kpB_t (kpB_b (by omega)) (bZ _ _) (fun _=>rfl)
  (fun pre W=>(W.cell? ⟨w.heap.size,0,none⟩=some (str (qL (pre.map uO.ty)))/\W.frozen? ⟨w.heap.size,0,none⟩=false)/\Below w.heap.size w W)
  (fun _ _ _=>False)
  (OwnFrom.and (Own.from (fun s A B row hs hg hr=>⟨cell_kept hs.1 hg hr,(frozen_kept hs.1 hg hr).trans hs.2⟩) _) (ownFrom_below (hG _) (by omega)))
  (fun _ _ _ _ _ hs _ _=>hs)
  ⟨⟨aj,hf0⟩,mQ⟩
  (fun x=>{ tmps:=#[.pointer (some ⟨b,0,none⟩),undef,str [],.pointer (some ⟨w.heap.size,0,none⟩),undef,.pointer (some ⟨x.bl,0,none⟩),.pointer (some ⟨b,0,none⟩),.pointer (some ⟨b,0,none⟩),.pointer (some ⟨b,0,none⟩),.slice a t.args.length cap,.func (.func 94) #[] #[.pointer (some ⟨w.heap.size+1,0,none⟩)],.int .i64 (x.ix:Nat),.pointer (some ⟨x.bl,0,none⟩),undef,undef,undef,undef,undef,undef,undef,undef],defers:=[] }) ?assign ?body ?done ?stop
 case assign =>
  intro l x W K hK
  gi_wp2
  exact hK
 case body =>
  rintro l pre x W ⟨⟨hc,hf⟩,hB⟩ tw
  have hmx:Tryz.prog.follows .mixedOrders=true:=by kernel_rfl
  have hlx:(zl x.ty).length<=3000:=by have:=jq 1000 x.ty (by have:=x.low;omega);have:=x.low;omega
  have cN:(qL (pre.map uO.ty)).length<=1+pre.length*(3000+5):=by
   have:=textFrom_len (pre.map uO.ty) 3000 fun t' cO=>by
    obtain ⟨y,_,rfl⟩:=List.mem_map.1 cO
    have:=jq 1000 y.ty (by have:=y.low;omega);have:=y.low;omega
   rwa [List.length_map] at this
  have hne:qL ((pre++[x]).map uO.ty)=[40,62,32]++zl x.ty++[32]++qL (pre.map uO.ty)++[41]:=by rw [List.map_append,List.map_cons,List.map_nil,yA]
  have hrx:Rep (fun i=>F0 i/\i<w.heap.size) W (jd x.ty) (.pointer (some ⟨x.bl,0,none⟩)):=(Rep.keep fun b o hf ho=>⟨hf,by rw [hB.block b hf.2];exact ho⟩).1 _ _ x.rep
  have C1:Hid (∀ X,X=zl x.ty->Calls Tryz.prog 40 #[.pointer (some ⟨x.bl,0,none⟩)] W.drew fun en w'=>en=.returned (str X)/\Below W.heap.size W.drew w'):=by
   show ∀ X,_->_
   rintro X rfl
   exact IH.out x.ty x.low _ W.drew _ ((Rep.keep (w:=W) (w':=W.drew) fun _ _ hf ho=>⟨hf,ho⟩).1 _ _ hrx)
  obtain ⟨X,hX⟩:=zzM (zl x.ty)
  obtain ⟨R,hR⟩:=zzM (qL (pre.map uO.ty))
  rw [<- hX] at hlx hne
  rw [<- hR] at cN hne hc
  have C2:=g_ (C1.out X hX)
  obtain ⟨O1,h1⟩:=zzM ([40,62,32]++X)
  obtain ⟨O2,h2⟩:=zzM (O1++[32])
  obtain ⟨O3,h3⟩:=zzM (O2++R)
  obtain ⟨O4,h4⟩:=zzM (O3++[41])
  have m1:O1.length=X.length+3:=by rw [h1];simp
  have m2:O2.length=O1.length+1:=by rw [h2];simp
  have m3:O3.length=O2.length+R.length:=by rw [h3];simp
  have fZ:=fun w0=>zN (P:=Tryz.prog) [40,62,32] X (by simp;omega) w0
  have e_:=fun w0=>zN (P:=Tryz.prog) O1 [32] (by simp;omega) w0
  have f8:=fun w0=>zN (P:=Tryz.prog) O2 R (by omega) w0
  have f7:=fun w0=>zN (P:=Tryz.prog) O3 [41] (by simp;omega) w0
  have H4:Hid (qL ((pre++[x]).map uO.ty)=O4):=by show _=_;rw [hne,h4,h3,h2,h1]
  rw [<- h1] at fZ;rw [<- h2] at e_;rw [<- h3] at f8;rw [<- h4] at f7
  have HB:=g_ hB
  have HXX:=g_ (hU x3 (hU s_ (hU dO mQ)))
  clear h1 h2 h3 h4 m1 m2 m3 hX hR C1 hrx hne hlx cN hB x3 s_ dO mQ ez x2 cp aj hf0 bL c1
  gi_wp2
  have hcd:W.drew.cell? ⟨w.heap.size,0,none⟩=some (str R):=hc
  have hz:=h_ W _ hc
  gi_region_with_o (refine ⟨trivial,?_⟩;gi_at_call 40;refine (CallsIn.inRound l (callsIn_wide.2 C2.out)).mono ?_;rintro e w' ⟨rfl,bS⟩;have el:w'.cell? ⟨w.heap.size,0,none⟩=some (str R):=(bS.cell (p:=⟨w.heap.size,0,none⟩) hz).trans hcd;have hf':w'.frozen? ⟨w.heap.size,0,none⟩=false:=(bS.frozen (p:=⟨w.heap.size,0,none⟩) hz).trans hf)
  all_goals gi_wp2
  all_goals exact keeps_round (hG _) HB.out bS el hf' (by rw [H4.out])
 case done =>
  rintro D ys W hD rfl ⟨⟨hc,hf⟩,hB⟩ hK
  rw [ez] at hc
  gi_wp2
  refine ⟨by simp,.inl ⟨_,_,rfl,run_takeDeferred hK,?_⟩⟩
  exact ⟨_,results_tmp rfl _ _ _,rfl,hB.trans (belowK_b (w:=w) (hG _) W D _ _ (by omega) hK rfl rfl)⟩
 case stop =>
  rintro D c pre W _ _ h _
  exact h.elim
theorem textK_any (n:Nat):∀ t,zX t<=n->n<=1000->xi t:=by
 induction n with
 | zero=>intro t h _;have:=kx t;omega
 | succ n ih=>exact fun t h hn=>textK_step t (by omega) (fun t' h'=>ih t' (by omega) (by omega))
end Go.Proofs.YtepgfdhkkjfmhabGreatDoor
namespace Go.Proofs.YtepgfdhkkjfmhabGreatDoor
open Go.RowKit
inductive Tr where
 | am (a:Bs)
 | ls (ps:List Tr)
mutual
def zB:Tr->Bs
 | .am a=>a
 | .ls ps=>40::qG ps
def qG:List Tr->Bs
 | []=>[41]
 | p::ps=>zB p++zc ps
def zc:List Tr->Bs
 | []=>[41]
 | p::ps=>32::(zB p++zc ps)
end
mutual
def kH:Tr->Prop
 | .am a=>a≠[]/\∀ c∈a,sep c=false
 | .ls ps=>ps≠[]/\zg ps
def zg:List Tr->Prop
 | []=>True
 | p::ps=>kH p/\zg ps
end
mutual
def ki:Tr->Nat
 | .am _=>0
 | .ls ps=>1+kX ps
def kX:List Tr->Nat
 | []=>0
 | p::ps=>max (ki p) (kX ps)
end
mutual
def zo:Tr->Nat
 | .am _=>1
 | .ls ps=>zv ps
def zv:List Tr->Nat
 | []=>0
 | p::ps=>zo p+zv ps
end
def vJ (rd:Bs->Option (Tr×Bs)):Nat->Bs->Option (List Tr×Bs)
 | 0,_=>none
 | n+1,l=>(rd l).bind fun x=>match x.2 with
   | []=>none
   | c::r=>if c=41 then some ([x.1],r) else if c=32 then (vJ rd n r).map fun y=>(x.1::y.1,y.2) else none
def qO:Nat->Bs->Option (Tr×Bs)
 | 0,_=>none
 | d+1,l=>match l with
   | []=>none
   | c::r=>if c=40 then (vJ (qO d) (r.length+1) r).map fun y=>(.ls y.1,y.2) else if zY l=[] then none else some (.am (zY l),zV l)
theorem yB (d:Nat) (r:Bs):qO (d+1) (40::r)=(vJ (qO d) (r.length+1) r).map fun y=>(.ls y.1,y.2):=by rw [qO];simp
theorem yC (d:Nat) (c:UInt8) (r:Bs) (h:c≠40):qO (d+1) (c::r)=if zY (c::r)=[] then none else some (.am (zY (c::r)),zV (c::r)):=by rw [qO];simp [h]
theorem wordOf_pos {l:Bs} (h:zY l≠[]):(zV l).length<l.length:=by
 have:=congrArg List.length (qr l)
 rw [List.length_append] at this
 have:0<(zY l).length:=by cases hw:zY l with
  | nil=>exact absurd hw h
  | cons c r=>simp
 omega
def Shrinks (rd:Bs->Option (Tr×Bs)):Prop:=∀ l t r,rd l=some (t,r)->r.length<l.length
theorem yO {rd:Bs->Option (Tr×Bs)} (h:Shrinks rd):∀ (n:Nat) (l:Bs) (ps:List Tr) (r:Bs),vJ rd n l=some (ps,r)->r.length<l.length
 | 0,l,ps,r,k=>by simp [vJ] at k
 | n+1,l,ps,r,k=>by
   rw [vJ,Option.bind_eq_some_iff] at k
   obtain ⟨⟨t,r1⟩,k1,k2⟩:=k
   have h1:=h _ _ _ k1
   cases r1 with
   | nil=>simp at k2
   | cons c r1 =>
     simp only [List.length_cons] at h1
     simp only at k2
     split at k2
     ·simp at k2;obtain ⟨_,rfl⟩:=k2;omega
     ·split at k2
      ·rw [Option.map_eq_some_iff] at k2
       obtain ⟨⟨qs,r2⟩,k3,k4⟩:=k2
       simp at k4;obtain ⟨_,rfl⟩:=k4
       have:=yO h n _ _ _ k3
       omega
      ·simp at k2
theorem jy:∀ d,Shrinks (qO d)
 | 0=>fun l t r h=>by simp [qO] at h
 | d+1=>fun l t r h=>by
   cases l with
   | nil=>simp [qO] at h
   | cons c l =>
     by_cases hc:c=40
     ·subst hc
      rw [yB,Option.map_eq_some_iff] at h
      obtain ⟨⟨ps,r1⟩,h1,h2⟩:=h
      simp at h2;obtain ⟨_,rfl⟩:=h2
      have:=yO (jy d) _ _ _ _ h1
      simp;omega
     ·rw [yC d c l hc] at h
      split at h
      ·simp at h
      ·rename_i hw
       simp at h;obtain ⟨_,rfl⟩:=h
       exact wordOf_pos hw
theorem pi {rd:Bs->Option (Tr×Bs)} (h:Shrinks rd):∀ (n m:Nat) (l:Bs),l.length<n->l.length<m->vJ rd n l=vJ rd m l
 | 0,_,_,k,_=>by omega
 | _+1,0,_,_,k=>by omega
 | n+1,m+1,l,k,k'=>by
   rw [vJ,vJ]
   cases hq:rd l with
   | none=>rfl
   | some x =>
     obtain ⟨t,r1⟩:=x
     have h1:=h _ _ _ hq
     simp only [Option.bind_some]
     cases r1 with
     | nil=>rfl
     | cons c r1 =>
       simp only [List.length_cons] at h1
       simp only
       rw [pi h n m r1 (by omega) (by omega)]
theorem tail_start (ps:List Tr) (r:Bs):km (zc ps++r):=by
 cases ps with
 | nil=>rw [zc];exact .inr ⟨41,r,rfl,by decide⟩
 | cons p ps=>rw [zc];exact .inr ⟨32,_,rfl,by decide⟩
mutual
theorem yH:∀ (t:Tr) (d:Nat) (r:Bs),kH t->ki t<d->km r->qO d (zB t++r)=some (t,r)
 | .am a,d,r,ho,hd,hr=>by
   rw [kH] at ho
   obtain ⟨d,rfl⟩:∃ k,d=k+1:=⟨d-1,by omega⟩
   obtain ⟨h1,h2⟩:=yP ho.2 hr
   rw [zB]
   cases a with
   | nil=>exact absurd rfl ho.1
   | cons c a =>
     have hc:c≠40:=by rintro rfl;have:=ho.2 40 (by simp);simp [sep] at this
     rw [List.cons_append] at *
     rw [yC d c _ hc,h1,h2,if_neg (by simp)]
 | .ls ps,d,r,ho,hd,hr=>by
   rw [kH] at ho
   rw [ki] at hd
   obtain ⟨d,rfl⟩:∃ k,d=k+1:=⟨d-1,by omega⟩
   rw [zB,List.cons_append,yB]
   have:=pt ps d r _ ho.2 ho.1 (by omega) (Nat.lt_succ_self _)
   rw [this];rfl
theorem pt:∀ (ps:List Tr) (d:Nat) (r:Bs) (n:Nat),zg ps->ps≠[]->kX ps<d->(qG ps++r).length<n->vJ (qO d) n (qG ps++r)=some (ps,r)
 | [],d,r,n,_,hne,_,_=>absurd rfl hne
 | p::ps,d,r,n,ho,_,hd,hn=>by
   rw [zg] at ho
   rw [kX] at hd
   obtain ⟨n,rfl⟩:∃ k,n=k+1:=⟨n-1,by omega⟩
   have h1:=yH p d (zc ps++r) ho.1 (by omega) (tail_start ps r)
   rw [qG,List.append_assoc] at *
   rw [vJ,h1,Option.bind_some]
   have hl:=jy d _ _ _ h1
   cases ps with
   | nil=>rw [zc];simp
   | cons q qs =>
     rw [zc] at *
     simp only [List.cons_append]
     rw [if_neg (by decide),if_pos trivial]
     have e:qG (q::qs)=zB q++zc qs:=by rw [qG]
     have:=pt (q::qs) d r n ho.2 (by simp) (by omega) (by
      rw [e]
      simp only [List.cons_append,List.length_cons,List.length_append] at hn hl ⊢
      omega)
     rw [e] at this
     rw [this];rfl
end
theorem wO {d:Nat} (ih:∀ (l:Bs) (t:Tr) (r:Bs),qO d l=some (t,r)->l=zB t++r/\kH t/\ki t<d/\(∀ a,t=.am a->km r)) :
 ∀ (n:Nat) (l:Bs) (ps:List Tr) (r:Bs),vJ (qO d) n l=some (ps,r)->l=qG ps++r/\zg ps/\ps≠[]/\kX ps<d
 | 0,l,ps,r,k=>by simp [vJ] at k
 | n+1,l,ps,r,k=>by
   rw [vJ,Option.bind_eq_some_iff] at k
   obtain ⟨⟨t,r1⟩,k1,k2⟩:=k
   obtain ⟨e1,o1,d1,_⟩:=ih _ _ _ k1
   cases r1 with
   | nil=>simp at k2
   | cons c r1 =>
     simp only at k2
     split at k2
     ·rename_i hc
      simp at k2;obtain ⟨rfl,rfl⟩:=k2
      subst hc
      refine ⟨?_,?_,by simp,?_⟩
      ·rw [qG,zc,e1];simp
      ·rw [zg,zg];exact ⟨o1,trivial⟩
      ·rw [kX,kX];omega
     ·split at k2
      ·rename_i hc
       rw [Option.map_eq_some_iff] at k2
       obtain ⟨⟨qs,r2⟩,k3,k4⟩:=k2
       simp at k4;obtain ⟨rfl,rfl⟩:=k4
       obtain ⟨e2,o2,n2,d2⟩:=wO ih n _ _ _ k3
       subst hc
       refine ⟨?_,?_,by simp,?_⟩
       ·cases qs with
        | nil=>exact absurd rfl n2
        | cons q qs=>rw [qG] at e2;rw [qG,zc,e1,e2];simp
       ·rw [zg];exact ⟨o1,o2⟩
       ·rw [kX];omega
      ·simp at k2
theorem vv:∀ (d:Nat) (l:Bs) (t:Tr) (r:Bs),qO d l=some (t,r)->l=zB t++r/\kH t/\ki t<d/\(∀ a,t=.am a->km r)
 | 0,l,t,r,h=>by simp [qO] at h
 | d+1,l,t,r,h=>by
   cases l with
   | nil=>simp [qO] at h
   | cons c l =>
     by_cases hc:c=40
     ·subst hc
      rw [yB,Option.map_eq_some_iff] at h
      obtain ⟨⟨ps,r1⟩,h1,h2⟩:=h
      simp at h2;obtain ⟨rfl,rfl⟩:=h2
      obtain ⟨e1,o1,n1,d1⟩:=wO (vv d) _ _ _ _ h1
      refine ⟨by rw [zB,e1];rfl,by rw [kH];exact ⟨n1,o1⟩,by rw [ki];omega,fun a e=>by simp at e⟩
     ·rw [yC d c l hc] at h
      split at h
      ·simp at h
      ·rename_i hw
       simp at h;obtain ⟨rfl,rfl⟩:=h
       refine ⟨by rw [zB];exact qr _,?_,by rw [ki];omega,fun a _=>up _⟩
       rw [kH]
       refine ⟨hw,fun x hx=>?_⟩
       have key:∀ (m:Bs),∀ y∈m.takeWhile (fun c=>!sep c),sep y=false:=by
        intro m
        induction m with
        | nil=>intro y hy;simp at hy
        | cons z m ih =>
          intro y hy
          rw [List.takeWhile_cons] at hy
          split at hy
          ·rename_i hz
           rcases List.mem_cons.1 hy with rfl | hy
           ·simpa using hz
           ·exact ih y hy
          ·simp at hy
       exact key _ x hx
def kh (s:Bs):Bool:=match s with
 | []=>false
 | c::r=>decide (r.length<=2) && (120<=c && c<=122) && r.all dig
def qH:Bs:=[108,97,109]
def qo:Bs:=[97,112,112]
def ifW:Bs:=[105,102]
def jp (a:Bs):Bool:=a == [116] || a == [102] || a == [117]
def kC:List Tr->Bs
 | .am a::_=>a
 | _=>[]
def kn:Tr->Bs
 | .am a=>a
 | .ls _=>[]
def kW:Tr->Bool
 | .am a=>jp a || kh a
 | .ls [h,a,b]=>kC [h] == qo && kW a && kW b
 | .ls [h,a,b,c]=>(kC [h] == qH && (kh (kn a) && (zU (zB b)).2 && kW c)) || (kC [h] == ifW && (kW a && kW b && kW c))
 | .ls _=>false
def kG (l:Bs):Option Tr:=if 1000<l.length then none else match qO 101 l with
 | some (t,[])=>if kW t && decide (zo t<=60) then some t else none
 | _=>none
inductive Tm where
 | nm (x:Bs)
 | wd (w:Bs)
 | lam (x:Bs) (k:Ty) (t:Tm)
 | app (m n:Tm)
 | ite (l m n:Tm)
def zT:Tm->Nat
 | .nm _=>1
 | .wd _=>1
 | .lam _ k t=>2+zX k+zT t
 | .app m n=>1+zT m+zT n
 | .ite l m n=>1+zT l+zT m+zT n
def trT:Ty->Tr
 | .mk ts=>trTs ts
where trTs:List Ty->Tr
 | []=>.am [98]
 | t::ts=>.ls [.am [62],trT t,trTs ts]
def zS:Tm->Tr
 | .nm x=>.am x
 | .wd w=>.am w
 | .lam x k t=>.ls [.am qH,.am x,trT k,zS t]
 | .app m n=>.ls [.am qo,zS m,zS n]
 | .ite l m n=>.ls [.am ifW,zS l,zS m,zS n]
def ur:Tm->Prop
 | .nm x=>kh x=true
 | .wd w=>jp w=true
 | .lam x _ t=>kh x=true/\ur t
 | .app m n=>ur m/\ur n
 | .ite l m n=>ur l/\ur m/\ur n
def zk:Tm->Bool
 | .nm _=>true
 | .wd _=>true
 | .lam _ k t=>decide (zX k<=15) && zk t
 | .app m n=>zk m && zk n
 | .ite l m n=>zk l && zk m && zk n
def qJ:Tm->Nat
 | .nm _=>0
 | .wd _=>0
 | .lam _ _ t=>1+qJ t
 | .app m n=>1+max (qJ m) (qJ n)
 | .ite l m n=>1+max (qJ l) (max (qJ m) (qJ n))
def kO:Nat->Bs->Option (Tm×Bs)
 | d,l=>match cut [40] l with
   | none=>if kh (zY l) then some (.nm (zY l),zV l) else if jp (zY l) then some (.wd (zY l),zV l) else none
   | some l1=>match d with
     | 0=>none
     | d+1 =>
       if zY l1=qH then (cut [32] (zV l1)).bind fun l3=>if kh (zY l3) then (cut [32] (zV l3)).bind fun l4=>(rdK 60 l4).bind fun k=>(cut [32] k.2).bind fun l6=>(kO d l6).bind fun t=>(cut [41] t.2).map fun l8=>(.lam (zY l3) k.1 t.1,l8) else none
       else if zY l1=qo then (cut [32] (zV l1)).bind fun l3=>(kO d l3).bind fun m=>(cut [32] m.2).bind fun l4=>(kO d l4).bind fun n=>(cut [41] n.2).map fun l5=>(.app m.1 n.1,l5)
       else if zY l1=ifW then (cut [32] (zV l1)).bind fun l3=>(kO d l3).bind fun x=>(cut [32] x.2).bind fun l4=>(kO d l4).bind fun m=>(cut [32] m.2).bind fun l5=>(kO d l5).bind fun n=>(cut [41] n.2).map fun l6=>(.ite x.1 m.1 n.1,l6)
       else none
def kM (l:Bs):Option Tm:=match kO 60 l with
 | some (t,[])=>if zT t<=60 then some t else none
 | _=>none
theorem uJ {x:Bs} (h:kh x=true):x≠[]/\∀ c∈x,sep c=false:=by
 cases x with
 | nil=>simp [kh] at h
 | cons c r =>
   simp only [kh,Bool.and_eq_true,decide_eq_true_eq,List.all_eq_true] at h
   obtain ⟨⟨_,h1,h2⟩,h3⟩:=h
   refine ⟨by simp,fun y hy=>?_⟩
   rcases List.mem_cons.1 hy with rfl | hy
   ·rw [Bool.eq_false_iff];intro hs
    simp only [sep,Bool.or_eq_true,beq_iff_eq] at hs
    rcases hs with (rfl | rfl) | rfl <;> revert h1 <;> decide
   ·exact pT (h3 y hy)
theorem xH {x:Bs} (h:jp x=true):x≠[]/\∀ c∈x,sep c=false:=by
 simp only [jp,Bool.or_eq_true,beq_iff_eq] at h
 rcases h with (rfl | rfl) | rfl <;> exact ⟨by simp,by intro c hc;simp at hc;subst hc;decide⟩
theorem name_leaf {x:Bs} (h:jp x=true):kh x=false:=by
 simp only [jp,Bool.or_eq_true,beq_iff_eq] at h
 rcases h with (rfl | rfl) | rfl <;> decide
mutual
theorem vI:∀ k:Ty,zB (trT k)=zl k
 | .mk ts=>by rw [trT,textTr_Ts ts]
theorem textTr_Ts:∀ ts:List Ty,zB (trT.trTs ts)=zl (.mk ts)
 | []=>by rw [trT.trTs,zB,vS]
 | t::ts=>by rw [trT.trTs,zB,qG,zc,zc,zc,zB,vI t,textTr_Ts ts,vO];simp
end
mutual
theorem wV:∀ k:Ty,kH (trT k)
 | .mk ts=>by rw [trT];exact okTr_Ts ts
theorem okTr_Ts:∀ ts:List Ty,kH (trT.trTs ts)
 | []=>by rw [trT.trTs,kH];exact ⟨by simp,by intro c hc;simp at hc;subst hc;decide⟩
 | t::ts=>by
   rw [trT.trTs,kH,zg,zg,zg,zg]
   exact ⟨by simp,by rw [kH];exact ⟨by simp,by intro c hc;simp at hc;subst hc;decide⟩,wV t,okTr_Ts ts,trivial⟩
end
mutual
theorem vj:∀ k:Ty,zo (trT k)=zX k
 | .mk ts=>by rw [trT,sizeTr_Ts ts]
theorem sizeTr_Ts:∀ ts:List Ty,zo (trT.trTs ts)=zX (.mk ts)
 | []=>by rw [trT.trTs,zo,zX,zR]
 | t::ts=>by rw [trT.trTs,zo,zv,zv,zv,zv,zo,vj t,sizeTr_Ts ts,vW];omega
end
mutual
theorem deepTr_T:∀ k:Ty,ki (trT k)<zX k
 | .mk ts=>by rw [trT];exact deepTr_Ts ts
theorem deepTr_Ts:∀ ts:List Ty,ki (trT.trTs ts)<zX (.mk ts)
 | []=>by rw [trT.trTs,ki,zX];omega
 | t::ts=>by
   have h1:=deepTr_T t
   have h2:=deepTr_Ts ts
   rw [trT.trTs,ki,kX,kX,kX,kX,ki,vW];omega
end
theorem vh:∀ t:Tm,ur t->kH (zS t)
 | .nm x,h=>by rw [zS,kH];exact uJ h
 | .wd w,h=>by rw [zS,kH];exact xH h
 | .lam x k t,h=>by
   rw [zS,kH,zg,zg,zg,zg,zg]
   exact ⟨by simp,by rw [kH];exact ⟨by decide,by decide⟩,by rw [kH];exact uJ h.1,wV k,vh t h.2,trivial⟩
 | .app m n,h=>by
   rw [zS,kH,zg,zg,zg,zg]
   exact ⟨by simp,by rw [kH];exact ⟨by decide,by decide⟩,vh m h.1,vh n h.2,trivial⟩
 | .ite l m n,h=>by
   rw [zS,kH,zg,zg,zg,zg,zg]
   exact ⟨by simp,by rw [kH];exact ⟨by decide,by decide⟩,vh l h.1,vh m h.2.1,vh n h.2.2,trivial⟩
theorem jO:∀ t:Tm,zo (zS t)=zT t
 | .nm x=>by rw [zS,zo,zT]
 | .wd w=>by rw [zS,zo,zT]
 | .lam x k t=>by rw [zS,zo,zv,zv,zv,zv,zv,zo,zo,vj,jO t,zT];omega
 | .app m n=>by rw [zS,zo,zv,zv,zv,zv,zo,jO m,jO n,zT];omega
 | .ite l m n=>by rw [zS,zo,zv,zv,zv,zv,zv,zo,jO l,jO m,jO n,zT];omega
theorem j2:∀ t:Tm,ki (zS t)<zT t
 | .nm x=>by rw [zS,ki,zT];omega
 | .wd w=>by rw [zS,ki,zT];omega
 | .lam x k t=>by
   have h1:=deepTr_T k
   have h2:=j2 t
   rw [zS,ki,kX,kX,kX,kX,kX,ki,ki,zT];omega
 | .app m n=>by
   have h1:=j2 m
   have h2:=j2 n
   rw [zS,ki,kX,kX,kX,kX,ki,zT];omega
 | .ite l m n=>by
   have h0:=j2 l
   have h1:=j2 m
   have h2:=j2 n
   rw [zS,ki,kX,kX,kX,kX,kX,ki,zT];omega
theorem qe:∀ t:Tm,qJ t<zT t
 | .nm x=>by rw [qJ,zT];omega
 | .wd w=>by rw [qJ,zT];omega
 | .lam x k t=>by have:=qe t;rw [qJ,zT];omega
 | .app m n=>by have:=qe m;have:=qe n;rw [qJ,zT];omega
 | .ite l m n=>by have:=qe l;have:=qe m;have:=qe n;rw [qJ,zT];omega
def zG (t:Tm):Bs:=zB (zS t)
theorem js (x:Bs) (k:Ty) (t:Tm):zG (.lam x k t)=40::(qH++32::(x++32::(zl k++32::(zG t++[41])))):=by
 unfold zG;rw [zS,zB,qG,zc,zc,zc,zc,zB,zB,vI]
theorem jb (m n:Tm):zG (.app m n)=40::(qo++32::(zG m++32::(zG n++[41]))):=by
 unfold zG;rw [zS,zB,qG,zc,zc,zc,zB]
theorem jt (l m n:Tm):zG (.ite l m n)=40::(ifW++32::(zG l++32::(zG m++32::(zG n++[41])))):=by
 unfold zG;rw [zS,zB,qG,zc,zc,zc,zc,zB]
theorem cut_no {c:UInt8} {l:Bs} (h:∀ r,l≠c::r):cut [c] l=none:=by
 unfold cut
 cases l with
 | nil=>rfl
 | cons d r =>
   have:d≠c:=by rintro rfl;exact h r rfl
   simp [List.isPrefixOf,this.symm]
theorem je (c:UInt8) (r:Bs) (h:sep c=true):km (c::r):=.inr ⟨c,r,rfl,h⟩
theorem rdTm_word {d:Nat} {w r:Bs} (hw:w≠[]/\∀ c∈w,sep c=false) (hr:km r):kO d (w++r)=if kh w then some (.nm w,r) else if jp w then some (.wd w,r) else none:=by
 obtain ⟨h1,h2⟩:=yP hw.2 hr
 have hc:cut [40] (w++r)=none:=cut_no fun r' e=>by
  cases w with
  | nil=>exact hw.1 rfl
  | cons c w =>
    simp at e
    have:=hw.2 c (by simp)
    rw [e.1] at this;simp [sep] at this
 rw [kO.eq_def]
 simp only [hc,h1,h2]
theorem qD {d:Nat} {l:Bs}:kO (d+1) (40::l)=(
        if zY l=qH then (cut [32] (zV l)).bind fun l3=>if kh (zY l3) then (cut [32] (zV l3)).bind fun l4=>(rdK 60 l4).bind fun k=>(cut [32] k.2).bind fun l6=>(kO d l6).bind fun t=>(cut [41] t.2).map fun l8=>(.lam (zY l3) k.1 t.1,l8) else none
        else if zY l=qo then (cut [32] (zV l)).bind fun l3=>(kO d l3).bind fun m=>(cut [32] m.2).bind fun l4=>(kO d l4).bind fun n=>(cut [41] n.2).map fun l5=>(.app m.1 n.1,l5)
        else if zY l=ifW then (cut [32] (zV l)).bind fun l3=>(kO d l3).bind fun x=>(cut [32] x.2).bind fun l4=>(kO d l4).bind fun m=>(cut [32] m.2).bind fun l5=>(kO d l5).bind fun n=>(cut [41] n.2).map fun l6=>(.ite x.1 m.1 n.1,l6)
        else none):=by
 rw [kO.eq_def]
 simp only [jc]
theorem rdTm_zero {l:Bs}:kO 0 (40::l)=none:=by
 rw [kO.eq_def]
 simp only [jc]
theorem word_w {w:Bs} (hw:∀ c∈w,sep c=false) {c:UInt8} {r:Bs} (h:sep c=true):zY (w++c::r)=w/\zV (w++c::r)=c::r:=yP hw (je c r h)
theorem jl:∀ (t:Tm) (d:Nat) (r:Bs),ur t->qJ t<=d->zT t<=100->km r->kO d (zG t++r)=some (t,r)
 | .nm x,d,r,ho,_,_,hr=>by
   have e:zG (.nm x)=x:=by unfold zG;rw [zS,zB]
   rw [e,rdTm_word (uJ ho) hr,if_pos (show kh x=true from ho)]
 | .wd w,d,r,ho,_,_,hr=>by
   have e:zG (.wd w)=w:=by unfold zG;rw [zS,zB]
   rw [e,rdTm_word (xH ho) hr,name_leaf ho,if_neg (by simp),if_pos (show jp w=true from ho)]
 | .lam x k t,d,r,ho,hd,hs,hr=>by
   rw [qJ] at hd;rw [zT] at hs
   obtain ⟨d,rfl⟩:∃ j,d=j+1:=⟨d-1,by omega⟩
   have n1:=uJ ho.1
   have e:zG (.lam x k t)++r=40::(qH++32::(x++32::(zl k++32::(zG t++41::r)))):=by rw [js];simp
   obtain ⟨a1,a2⟩:=word_w (w:=qH) (by decide) (c:=32) (r:=x++32::(zl k++32::(zG t++41::r))) (by decide)
   obtain ⟨b1,b2⟩:=word_w n1.2 (c:=32) (r:=zl k++32::(zG t++41::r)) (by decide)
   rw [e,qD,a1,a2,if_pos rfl,jc]
   simp only [Option.bind_some]
   rw [b1,b2,if_pos ho.1,jc]
   simp only [Option.bind_some]
   rw [p9 60 k _ (by omega)]
   simp only [Option.bind_some,jc]
   rw [jl t d (41::r) ho.2 (by omega) (by omega) (je _ _ (by decide))]
   simp only [Option.bind_some,jc,Option.map_some]
 | .app m n,d,r,ho,hd,hs,hr=>by
   rw [qJ] at hd;rw [zT] at hs
   obtain ⟨d,rfl⟩:∃ j,d=j+1:=⟨d-1,by omega⟩
   have e:zG (.app m n)++r=40::(qo++32::(zG m++32::(zG n++41::r))):=by rw [jb];simp
   obtain ⟨a1,a2⟩:=word_w (w:=qo) (by decide) (c:=32) (r:=zG m++32::(zG n++41::r)) (by decide)
   rw [e,qD,a1,a2,if_neg (by decide),if_pos rfl,jc]
   simp only [Option.bind_some]
   rw [jl m d _ ho.1 (by omega) (by omega) (je _ _ (by decide))]
   simp only [Option.bind_some,jc]
   rw [jl n d _ ho.2 (by omega) (by omega) (je _ _ (by decide))]
   simp only [Option.bind_some,jc,Option.map_some]
 | .ite l m n,d,r,ho,hd,hs,hr=>by
   rw [qJ] at hd;rw [zT] at hs
   obtain ⟨d,rfl⟩:∃ j,d=j+1:=⟨d-1,by omega⟩
   have e:zG (.ite l m n)++r=40::(ifW++32::(zG l++32::(zG m++32::(zG n++41::r)))):=by rw [jt];simp
   obtain ⟨a1,a2⟩:=word_w (w:=ifW) (by decide) (c:=32) (r:=zG l++32::(zG m++32::(zG n++41::r))) (by decide)
   rw [e,qD,a1,a2,if_neg (by decide),if_neg (by decide),if_pos rfl,jc]
   simp only [Option.bind_some]
   rw [jl l d _ ho.1 (by omega) (by omega) (je _ _ (by decide))]
   simp only [Option.bind_some,jc]
   rw [jl m d _ ho.2.1 (by omega) (by omega) (je _ _ (by decide))]
   simp only [Option.bind_some,jc]
   rw [jl n d _ ho.2.2 (by omega) (by omega) (je _ _ (by decide))]
   simp only [Option.bind_some,jc,Option.map_some]
theorem yp:∀ (d:Nat) (l:Bs) (t:Tm) (r:Bs),kO d l=some (t,r)->l=zG t++r/\ur t/\qJ t<=d:=by
 intro d
 induction d with
 | zero =>
   intro l t r h
   rw [kO.eq_def] at h
   cases hc:cut [40] l with
   | none =>
     simp only [hc] at h
     split at h
     ·rename_i hn
      simp at h;obtain ⟨rfl,rfl⟩:=h
      exact ⟨by unfold zG;rw [zS,zB];exact qr l,hn,by rw [qJ];omega⟩
     ·split at h
      ·rename_i hn
       simp at h;obtain ⟨rfl,rfl⟩:=h
       exact ⟨by unfold zG;rw [zS,zB];exact qr l,hn,by rw [qJ];omega⟩
      ·simp at h
   | some l1=>simp [hc] at h
 | succ d ih =>
   intro l t r h
   cases hc:cut [40] l with
   | none =>
     rw [kO.eq_def] at h
     simp only [hc] at h
     split at h
     ·rename_i hn
      simp at h;obtain ⟨rfl,rfl⟩:=h
      exact ⟨by unfold zG;rw [zS,zB];exact qr l,hn,by rw [qJ];omega⟩
     ·split at h
      ·rename_i hn
       simp at h;obtain ⟨rfl,rfl⟩:=h
       exact ⟨by unfold zG;rw [zS,zB];exact qr l,hn,by rw [qJ];omega⟩
      ·simp at h
   | some l1 =>
     have e0:=qR hc
     rw [e0] at h ⊢
     rw [List.singleton_append] at h ⊢
     rw [qD] at h
     have ew:=qr l1
     split at h
     ·rename_i hw
      rw [hw] at ew
      simp only [Option.bind_eq_some_iff] at h
      obtain ⟨l3,c1,h⟩:=h
      split at h
      ·rename_i hn
       simp only [Option.bind_eq_some_iff,Option.map_eq_some_iff] at h
       obtain ⟨l4,c2,⟨k,l5⟩,hk,l6,c3,⟨t',l7⟩,ht,l8,c4,e⟩:=h
       simp only [Prod.mk.injEq] at e
       obtain ⟨rfl,rfl⟩:=e
       obtain ⟨e1,o1,d1⟩:=ih _ _ _ ht
       have e2:=rdK_canon _ _ _ _ hk
       refine ⟨?_,⟨hn,o1⟩,by rw [qJ];omega⟩
       rw [js]
       simp only at c3 c4
       conv=>lhs;rw [ew,qR c1,qr l3,qR c2,e2,qR c3,e1,qR c4]
       simp
      ·simp at h
     ·split at h
      ·rename_i hw
       rw [hw] at ew
       simp only [Option.bind_eq_some_iff,Option.map_eq_some_iff] at h
       obtain ⟨l3,c1,⟨m,l4⟩,hm,l5,c2,⟨n,l6⟩,hn,l7,c3,e⟩:=h
       simp only [Prod.mk.injEq] at e
       obtain ⟨rfl,rfl⟩:=e
       obtain ⟨e1,o1,d1⟩:=ih _ _ _ hm
       obtain ⟨e2,o2,d2⟩:=ih _ _ _ hn
       refine ⟨?_,⟨o1,o2⟩,by rw [qJ];omega⟩
       rw [jb]
       simp only at c2 c3
       conv=>lhs;rw [ew,qR c1,e1,qR c2,e2,qR c3]
       simp
      ·split at h
       ·rename_i hw
        rw [hw] at ew
        simp only [Option.bind_eq_some_iff,Option.map_eq_some_iff] at h
        obtain ⟨l3,c1,⟨x,l4⟩,hx,l5,c2,⟨m,l6⟩,hm,l7,c3,⟨n,l8⟩,hn,l9,c4,e⟩:=h
        simp only [Prod.mk.injEq] at e
        obtain ⟨rfl,rfl⟩:=e
        obtain ⟨e0,o0,d0⟩:=ih _ _ _ hx
        obtain ⟨e1,o1,d1⟩:=ih _ _ _ hm
        obtain ⟨e2,o2,d2⟩:=ih _ _ _ hn
        refine ⟨?_,⟨o0,o1,o2⟩,by rw [qJ];omega⟩
        rw [jt]
        simp only at c2 c3 c4
        conv=>lhs;rw [ew,qR c1,e0,qR c2,e1,qR c3,e2,qR c4]
        simp
       ·simp at h
theorem yx {a b:Tr} (ha:kH a) (hb:kH b) (h:zB a=zB b):a=b:=by
 have h1:=yH a (max (ki a) (ki b)+1) [] ha (by omega) (.inl rfl)
 have h2:=yH b (max (ki a) (ki b)+1) [] hb (by omega) (.inl rfl)
 rw [h,h2] at h1
 exact (Prod.mk.inj (Option.some.inj h1)).1.symm
theorem gR (h a b:Tr):kW (.ls [h,a,b])=(kC [h] == qo && kW a && kW b):=by rw [kW]
theorem wW (h a b c:Tr):kW (.ls [h,a,b,c])=((kC [h] == qH && (kh (kn a) && (zU (zB b)).2 && kW c)) || (kC [h] == ifW && (kW a && kW b && kW c))):=by rw [kW]
theorem head_at {h:Tr} {w:Bs} (hw:w≠[]) (e:kC [h]=w):h=.am w:=by
 cases h with
 | am a=>rw [kC] at e;rw [e]
 | ls ps=>exact absurd e.symm hw
theorem uF:∀ (n:Nat) (t:Tr),SizeOf.sizeOf t<n->kH t->kW t=true->∃ m:Tm,t=zS m/\ur m/\zk m=true
 | 0,_,h,_,_=>by omega
 | n+1,.am a,_,ho,hi=>by
   rw [kW,Bool.or_eq_true] at hi
   rcases hi with h | h
   ·exact ⟨.wd a,by rw [zS],h,by rw [zk]⟩
   ·exact ⟨.nm a,by rw [zS],h,by rw [zk]⟩
 | n+1,.ls [],_,_,hi=>by simp [kW] at hi
 | n+1,.ls [_],_,_,hi=>by simp [kW] at hi
 | n+1,.ls [_,_],_,_,hi=>by simp [kW] at hi
 | n+1,.ls [h,a,b],hs,ho,hi=>by
   rw [gR] at hi
   simp only [Bool.and_eq_true,beq_iff_eq] at hi
   obtain ⟨⟨e,h1⟩,h2⟩:=hi
   rw [kH,zg,zg,zg,zg] at ho
   obtain ⟨_,_,o1,o2,_⟩:=ho
   obtain rfl:=head_at (by decide) e
   simp only [Tr.ls.sizeOf_spec,List.cons.sizeOf_spec] at hs
   obtain ⟨m,rfl,q1,q2⟩:=uF n a (by omega) o1 h1
   obtain ⟨k,rfl,r1,r2⟩:=uF n b (by omega) o2 h2
   exact ⟨.app m k,by rw [zS],⟨q1,r1⟩,by rw [zk,q2,r2];rfl⟩
 | n+1,.ls [h,a,b,c],hs,ho,hi=>by
   rw [wW] at hi
   simp only [Bool.or_eq_true,Bool.and_eq_true,beq_iff_eq] at hi
   rw [kH,zg,zg,zg,zg,zg] at ho
   obtain ⟨_,_,o1,o2,o3,_⟩:=ho
   simp only [Tr.ls.sizeOf_spec,List.cons.sizeOf_spec] at hs
   rcases hi with ⟨e,⟨h1,h2⟩,h3⟩ | ⟨e,⟨h1,h2⟩,h3⟩
   ·obtain rfl:=head_at (by decide) e
    obtain ⟨m,rfl,q1,q2⟩:=uF n c (by omega) o3 h3
    obtain ⟨e1,l1⟩:=vk h2
    have eb:b=trT (zU (zB b)).1:=yx o2 (wV _) (by rw [vI];exact e1)
    have ea:a=.am (kn a):=by
     cases a with
     | am x=>rw [kn]
     | ls ps=>rw [kn] at h1;simp [kh] at h1
    refine ⟨.lam (kn a) (zU (zB b)).1 m,?_,⟨h1,q1⟩,by rw [zk,q2,decide_eq_true l1];rfl⟩
    rw [zS,<- eb,<- ea]
   ·obtain rfl:=head_at (by decide) e
    obtain ⟨x,rfl,p1,p2⟩:=uF n a (by omega) o1 h1
    obtain ⟨y,rfl,q1,q2⟩:=uF n b (by omega) o2 h2
    obtain ⟨z,rfl,r1,r2⟩:=uF n c (by omega) o3 h3
    exact ⟨.ite x y z,by rw [zS],⟨p1,q1,r1⟩,by rw [zk,p2,q2,r2];rfl⟩
 | n+1,.ls (_::_::_::_::_::_),_,_,hi=>by simp [kW] at hi
theorem uM:∀ t:Tm,ur t->kW (zS t)=zk t
 | .nm x,h=>by rw [zS,kW,zk,show kh x=true from h,Bool.or_true]
 | .wd w,h=>by rw [zS,kW,zk,show jp w=true from h,Bool.true_or]
 | .lam x k t,h=>by
   rw [zS,wW,zk,uM t h.2,vI,kC,kn,h.1]
   have e:(zU (zl k)).2=decide (zX k<=15):=by
    by_cases hk:zX k<=15
    ·rw [specType_text hk,decide_eq_true hk]
    ·rw [decide_eq_false hk]
     cases hq:(zU (zl k)).2 with
     | false=>rfl
     | true =>
       exfalso
       obtain ⟨h1,h2⟩:=vk hq
       have:trT k=trT (zU (zl k)).1:=yx (wV _) (wV _) (by rw [vI,vI];exact h1)
       have h3:=vj k
       rw [this,vj] at h3
       omega
   rw [e]
   have a1:(qH == qH)=true:=by decide
   have a2:(qH == ifW)=false:=by decide
   rw [a1,a2];simp
 | .app m n,h=>by
   rw [zS,gR,zk,uM m h.1,uM n h.2,kC]
   have a1:(qo == qo)=true:=by decide
   rw [a1];simp
 | .ite l m n,h=>by
   rw [zS,wW,zk,uM l h.1,uM m h.2.1,uM n h.2.2,kC]
   have a1:(ifW == ifW)=true:=by decide
   have a2:(ifW == qH)=false:=by decide
   rw [a1,a2];simp [Bool.and_assoc]
mutual
theorem textT_len:∀ k:Ty,(zB (trT k)).length<=6*zo (trT k)
 | .mk ts=>by rw [trT];exact pj ts
theorem pj:∀ ts:List Ty,(zB (trT.trTs ts)).length<=6*zo (trT.trTs ts)
 | []=>by rw [trT.trTs,zB,zo];simp
 | t::ts=>by
   have h1:=textT_len t
   have h2:=pj ts
   rw [trT.trTs,zB,qG,zc,zc,zc,zB,zo,zv,zv,zv,zv,zo]
   simp only [List.length_cons,List.length_append,List.length_nil];omega
end
theorem name_len {x:Bs} (h:kh x=true):x.length<=3:=by
 cases x with
 | nil=>simp
 | cons c r=>simp only [kh,Bool.and_eq_true,decide_eq_true_eq] at h;simp;omega
theorem leaf_len {x:Bs} (h:jp x=true):x.length<=3:=by
 simp only [jp,Bool.or_eq_true,beq_iff_eq] at h
 rcases h with (rfl | rfl) | rfl <;> simp
theorem jE:∀ t:Tm,ur t->(zG t).length<=9*zT t
 | .nm x,h=>by have:=name_len h;unfold zG;rw [zS,zB,zT];omega
 | .wd w,h=>by have:=leaf_len h;unfold zG;rw [zS,zB,zT];omega
 | .lam x k t,h=>by
   have h1:=name_len h.1
   have h2:=textT_len k
   rw [vI,vj] at h2
   have h3:=jE t h.2
   rw [js,zT]
   simp only [qH,List.length_cons,List.length_append,List.length_nil];omega
 | .app m n,h=>by
   have h1:=jE m h.1
   have h2:=jE n h.2
   rw [jb,zT]
   simp only [qo,List.length_cons,List.length_append,List.length_nil];omega
 | .ite l m n,h=>by
   have h0:=jE l h.1
   have h1:=jE m h.2.1
   have h2:=jE n h.2.2
   rw [jt,zT]
   simp only [ifW,List.length_cons,List.length_append,List.length_nil];omega
theorem yk {l:Bs} {t:Tm} (h:kM l=some t):l=zG t/\ur t/\zT t<=60:=by
 unfold kM at h
 cases hq:kO 60 l with
 | none=>rw [hq] at h;simp at h
 | some x =>
   obtain ⟨t',r⟩:=x
   rw [hq] at h
   cases r with
   | cons c r=>simp at h
   | nil =>
     simp only at h
     split at h
     ·rename_i hs
      simp at h;subst h
      obtain ⟨e,o,_⟩:=yp _ _ _ _ hq
      exact ⟨by simpa using e,o,hs⟩
     ·simp at h
theorem implTerm_text {t:Tm} (ho:ur t) (hs:zT t<=60):kM (zG t)=some t:=by
 unfold kM
 have:=jl t 60 [] ho (by have:=qe t;omega) (by omega) (.inl rfl)
 rw [List.append_nil] at this
 rw [this]
 simp only
 rw [if_pos hs]
theorem specTerm_text {t:Tm} (ho:ur t) (hs:zT t<=60):kG (zG t)=if zk t then some (zS t) else none:=by
 unfold kG
 have hl:=jE t ho
 rw [if_neg (by omega)]
 have:=yH (zS t) 101 [] (vh t ho) (by have:=j2 t;omega) (.inl rfl)
 rw [List.append_nil] at this
 unfold zG
 rw [this]
 simp only
 rw [uM t ho,jO,decide_eq_true hs,Bool.and_true]
theorem specTerm_some {l:Bs} {tr:Tr} (h:kG l=some tr):∃ t,tr=zS t/\l=zG t/\ur t/\zT t<=60/\zk t=true:=by
 unfold kG at h
 split at h
 ·simp at h
 ·split at h
  ·rename_i t' hq
   split at h
   ·rename_i hc
    simp at h;subst h
    simp only [Bool.and_eq_true,decide_eq_true_eq] at hc
    obtain ⟨e,o,_,_⟩:=vv _ _ _ _ hq
    obtain ⟨t,rfl,q1,q2⟩:=uF _ t' (Nat.lt_succ_self _) o hc.1
    exact ⟨t,rfl,by simpa [zG] using e,q1,by rw [<- jO];exact hc.2,q2⟩
   ·simp at h
  ·simp at h
theorem term_eq (l:Bs):kG l=(kM l).bind fun t=>if zk t then some (zS t) else none:=by
 cases h:kM l with
 | some t =>
   obtain ⟨rfl,ho,hs⟩:=yk h
   rw [specTerm_text ho hs];rfl
 | none =>
   cases hq:kG l with
   | none=>rfl
   | some tr =>
     obtain ⟨t,_,rfl,ho,hs,_⟩:=specTerm_some hq
     rw [implTerm_text ho hs] at h;simp at h
def ku (v:Nat):Bs:=120::dec v
def qt (n:Nat):List Ty->Tm->Tm
 | [],b=>b
 | t::ts,b=>.lam (ku n) t (qt (n+1) ts b)
mutual
def tmB (hand:List Ty):Bd->Tm
 | .leaf c=>.wd [c]
 | .ask v ss y n=>.ite (kV hand (.nm (ku v)) ((hand[v]?.map Ty.args).getD []) ss) (tmB hand y) (tmB hand n)
def kV (hand:List Ty) (f:Tm):List Ty->List Bd->Tm
 | t::ts,s::ss=>kV hand (.app f (qt hand.length t.args (tmB (hand++t.args) s))) ts ss
 | [],_=>f
 | _::_,[]=>f
end
def tmL (hand:List Ty) (t:Ty) (b:Bd):Tm:=qt hand.length t.args (tmB (hand++t.args) b)
theorem uW (hand:List Ty) (f:Tm) (ss:List Bd):kV hand f [] ss=f:=by rw [kV]
theorem jL (hand:List Ty) (f:Tm) (t:Ty) (ts:List Ty) (s:Bd) (ss:List Bd):kV hand f (t::ts) (s::ss)=kV hand (.app f (tmL hand t s)) ts ss:=by rw [kV];rfl
theorem ug (hand:List Ty):∀ (ts:List Ty) (ss:List Bd) (f:Tm) (t:Ty) (s:Bd),ts.length=ss.length->kV hand f (ts++[t]) (ss++[s])=.app (kV hand f ts ss) (tmL hand t s)
 | [],[],f,t,s,_=>by rw [List.nil_append,List.nil_append,jL,uW,uW]
 | [],s'::ss,f,t,s,h=>by simp at h
 | t'::ts,[],f,t,s,h=>by simp at h
 | t'::ts,s'::ss,f,t,s,h=>by rw [List.cons_append,List.cons_append,jL,jL,ug hand ts ss _ t s (by simpa using h)]
theorem dec_sep (n:Nat):∀ c∈dec n,sep c=false:=fun c hc=>pT (dec_all n c hc)
theorem lname_sep (v:Nat):ku v≠[]/\∀ c∈ku v,sep c=false:=by
 refine ⟨by simp [ku],fun c hc=>?_⟩
 rcases List.mem_cons.1 hc with rfl | hc
 ·decide
 ·exact dec_sep v c hc
def jD:Tm->Prop
 | .nm x=>x≠[]/\∀ c∈x,sep c=false
 | .wd w=>w≠[]/\∀ c∈w,sep c=false
 | .lam x _ t=>(x≠[]/\∀ c∈x,sep c=false)/\jD t
 | .app m n=>jD m/\jD n
 | .ite l m n=>jD l/\jD m/\jD n
theorem jz:∀ t:Tm,jD t->kH (zS t)
 | .nm x,h=>by rw [zS,kH];exact h
 | .wd w,h=>by rw [zS,kH];exact h
 | .lam x k t,h=>by
   rw [zS,kH,zg,zg,zg,zg,zg]
   exact ⟨by simp,by rw [kH];exact ⟨by decide,by decide⟩,by rw [kH];exact h.1,wV k,jz t h.2,trivial⟩
 | .app m n,h=>by
   rw [zS,kH,zg,zg,zg,zg]
   exact ⟨by simp,by rw [kH];exact ⟨by decide,by decide⟩,jz m h.1,jz n h.2,trivial⟩
 | .ite l m n,h=>by
   rw [zS,kH,zg,zg,zg,zg,zg]
   exact ⟨by simp,by rw [kH];exact ⟨by decide,by decide⟩,jz l h.1,jz m h.2.1,jz n h.2.2,trivial⟩
theorem trT_inj {a b:Ty} (h:trT a=trT b):zX a=zX b:=by rw [<- vj a,h,vj]
theorem jF:∀ a b:Tm,zS a=zS b->zk a=zk b
 | .nm x,b,h=>by cases b <;> simp [zS] at h <;> simp [zk]
 | .wd x,b,h=>by cases b <;> simp [zS] at h <;> simp [zk]
 | .lam x k t,b,h=>by
   cases b with
   | lam y l u =>
     simp only [zS,Tr.ls.injEq,List.cons.injEq,and_true,true_and] at h
     rw [zk,zk,jF t u h.2.2,trT_inj h.2.1]
   | nm y=>simp [zS] at h
   | wd y=>simp [zS] at h
   | app m n=>simp [zS] at h
   | ite l m n=>simp [zS,qH,ifW] at h
 | .app m n,b,h=>by
   cases b with
   | app p q =>
     simp only [zS,Tr.ls.injEq,List.cons.injEq,and_true,true_and] at h
     rw [zk,zk,jF m p h.1,jF n q h.2]
   | nm y=>simp [zS] at h
   | wd y=>simp [zS] at h
   | lam y l u=>simp [zS] at h
   | ite l m n=>simp [zS] at h
 | .ite l m n,b,h=>by
   cases b with
   | ite o p q =>
     simp only [zS,Tr.ls.injEq,List.cons.injEq,and_true,true_and] at h
     rw [zk,zk,jF l o h.1,jF m p h.2.1,jF n q h.2.2]
   | nm y=>simp [zS] at h
   | wd y=>simp [zS] at h
   | lam y l u=>simp [zS,qH,ifW] at h
   | app p q=>simp [zS] at h
theorem term_both {t:Tm} (hw:jD t) (hs:zk t=true):(kG (zG t)).isSome=(kM (zG t)).isSome:=by
 rw [term_eq]
 cases h:kM (zG t) with
 | none=>rfl
 | some u =>
   obtain ⟨e,ho,_⟩:=yk h
   have:zS t=zS u:=yx (jz t hw) (vh u ho) e
   rw [Option.bind_some,<- jF t u this,hs]
   rfl
theorem wY:∀ (ts:List Ty) (n:Nat) (b:Tm),jD b->jD (qt n ts b)
 | [],n,b,h=>h
 | t::ts,n,b,h=>⟨lname_sep n,wY ts (n+1) b h⟩
theorem ym:∀ (ts:List Ty) (n:Nat) (b:Tm),(∀ t∈ts,zX t<=15)->zk b=true->zk (qt n ts b)=true
 | [],n,b,_,h=>h
 | t::ts,n,b,ht,h=>by
   rw [qt,zk,decide_eq_true (ht t (by simp)),ym ts (n+1) b (fun x hx=>ht x (by simp [hx])) h];rfl
theorem leaf_word {c:UInt8} (h:c=116\/c=102\/c=117):jD (.wd [c]):=by
 refine ⟨by simp,fun x hx=>?_⟩
 simp at hx;subst hx
 rcases h with rfl | rfl | rfl <;> decide
mutual
theorem y5:∀ (b:Bd) (hand:List Ty),wfB b->jD (tmB hand b)
 | .leaf c,hand,h=>by rw [wfB] at h;rw [tmB];exact leaf_word h
 | .ask v ss y n,hand,h=>by
   rw [wfB] at h
   rw [tmB]
   exact ⟨wA ss hand _ _ h.1 (lname_sep v),y5 y hand h.2.1,y5 n hand h.2.2⟩
theorem wA:∀ (ss:List Bd) (hand ts:List Ty) (f:Tm),xt ss->jD f->jD (kV hand f ts ss)
 | ss,hand,[],f,_,hf=>by rw [kV];exact hf
 | [],hand,t::ts,f,_,hf=>by rw [kV];exact hf
 | s::ss,hand,t::ts,f,h,hf=>by
   rw [xt] at h
   rw [jL]
   exact wA ss hand ts _ h.2 ⟨hf,wY _ _ _ (y5 s _ h.1)⟩
end
theorem kP {t:Ty} (h:zX t<=15):∀ a∈t.args,zX a<=15:=(uR h).1
mutual
theorem yG:∀ (b:Bd) (hand:List Ty),(∀ t∈hand,zX t<=15)->zk (tmB hand b)=true
 | .leaf c,hand,h=>by rw [tmB,zk]
 | .ask v ss y n,hand,h=>by
   rw [tmB,zk,yG y hand h,yG n hand h]
   rw [y6 ss hand _ _ h (fun t ht=>?_) (by rw [zk])]
   ·rfl
   ·cases hv:hand[v]? with
    | none=>rw [hv] at ht;simp at ht
    | some k =>
      rw [hv] at ht
      exact kP (h k (List.mem_of_getElem? hv)) t (by simpa using ht)
theorem y6:∀ (ss:List Bd) (hand ts:List Ty) (f:Tm),(∀ t∈hand,zX t<=15)->(∀ t∈ts,zX t<=15)->zk f=true->zk (kV hand f ts ss)=true
 | ss,hand,[],f,_,_,hf=>by rw [kV];exact hf
 | [],hand,t::ts,f,_,_,hf=>by rw [kV];exact hf
 | s::ss,hand,t::ts,f,h,hts,hf=>by
   rw [jL]
   have ha:=kP (hts t (by simp))
   refine y6 ss hand ts _ h (fun x hx=>hts x (by simp [hx])) ?_
   rw [zk,hf,tmL,ym _ _ _ ha (yG s _ fun x hx=>?_)]
   ·rfl
   ·rcases List.mem_append.1 hx with hx | hx
    ·exact h x hx
    ·exact ha x hx
end
def ja (t:Ty) (b:Bd):Tm:=tmL [] t b
def kU (s text:Bs):Option Bs:=(zI s text).bind fun b=>if (kM (zG (ja (zU s).1 b))).isSome then some (zG (ja (zU s).1 b)) else none
theorem wL {t:Ty} {b:Bd} (h:Good t b):jD (ja t b)/\zk (ja t b)=true:=by
 refine ⟨wY _ _ _ (y5 b _ h.wf),ym _ _ _ (kP h.atoms) (yG b _ fun x hx=>?_)⟩
 rw [List.nil_append] at hx
 exact kP h.atoms x hx
theorem pw {s text:Bs} {b:Bd} (h:zI s text=some b):(kG (zG (ja (zU s).1 b))).isSome=(kM (zG (ja (zU s).1 b))).isSome:=by
 obtain ⟨h1,h2⟩:=wL (jj h).1
 exact term_both h1 h2
def qB:Nat->List Ty->Bs
 | _,[]=>[]
 | n,t::ts=>[40,108,97,109,32]++ku n++[32]++zl t++[32]++qB (n+1) ts
def jC (n:Nat):Bs:=List.replicate n 41
theorem xv (n:Nat):jC (n+1)=jC n++[41]:=by unfold jC;rw [List.replicate_succ']
theorem qq (n:Nat):(jC n).length=n:=by simp [jC]
theorem wl:∀ (ts:List Ty) (n:Nat) (t:Ty),qB n (ts++[t])=qB n ts++([40,108,97,109,32]++ku (n+ts.length)++[32]++zl t++[32])
 | [],n,t=>by rw [List.nil_append,qB,qB,qB];simp
 | u::ts,n,t=>by
   rw [List.cons_append,qB,qB,wl ts (n+1) t,List.length_cons,show n+1+ts.length=n+(ts.length+1) from by omega];simp
theorem vT:∀ (ts:List Ty) (n:Nat) (b:Tm),zG (qt n ts b)=qB n ts++zG b++jC ts.length
 | [],n,b=>by rw [qt,qB];simp [jC]
 | t::ts,n,b=>by
   rw [qt,js,vT ts (n+1) b,qB,List.length_cons,xv]
   simp [qH]
theorem apps_text (hand:List Ty) (f:Tm) (t:Ty) (s:Bd):zG (.app f (tmL hand t s))=[40,97,112,112,32]++zG f++[32]++zG (tmL hand t s)++[41]:=by
 rw [jb];simp [qo]
theorem ite_text (l m n:Tm):zG (.ite l m n)=[40,105,102,32]++zG l++[32]++zG m++[32]++zG n++[41]:=by
 rw [jt];simp [ifW]
theorem pR (x:Bs):zG (.nm x)=x:=by unfold zG;rw [zS,zB]
theorem wd_text (x:Bs):zG (.wd x)=x:=by unfold zG;rw [zS,zB]
theorem uU {v:Nat} (h:v<100000):(ku v).length<=6:=by
 have:=qN 4 v (bJ h (by decide))
 simp [ku];omega
theorem jS:∀ (ts:List Ty) (n:Nat),(∀ t∈ts,zX t<=15)->n+ts.length<=100000->(qB n ts).length<=60*ts.length
 | [],n,_,_=>by simp [qB]
 | t::ts,n,ht,hn=>by
   rw [List.length_cons] at hn
   have h1:=jS ts (n+1) (fun x hx=>ht x (by simp [hx])) (by omega)
   have h2:=jq 15 t (ht t (by simp))
   have h3:=uU (v:=n) (by omega)
   have h4:=ht t (by simp)
   rw [qB]
   simp only [List.length_append,List.length_cons,List.length_nil]
   omega
theorem qE {t:Ty} (h:zX t<=15):t.args.length<=14:=by
 have:=kF t.args
 have:=kw t
 omega
mutual
theorem vM:∀ (b:Bd) (hand:List Ty),qb hand b->(∀ t∈hand,zX t<=15)->hand.length+15*zD b<=10000->(zG (tmB hand b)).length+900<=1900*zD b
 | .leaf c,hand,_,_,_=>by rw [tmB,wd_text,zD];simp
 | .ask v ss y n,hand,hf,hh,hl=>by
   rw [zD] at hl
   rw [qb] at hf
   obtain ⟨t,ht,f1,f2,f3⟩:=hf
   have h1:=vM y hand f2 hh (by omega)
   have h2:=vM n hand f3 hh (by omega)
   have hv:=(List.getElem?_eq_some_iff.1 ht).1
   have hn:=uU (v:=v) (by omega)
   have e:(hand[v]?.map Ty.args).getD []=t.args:=by rw [ht];rfl
   have h3:=uP ss hand t.args (.nm (ku v)) f1 hh (kP (hh t (List.mem_of_getElem? ht))) (by omega)
   rw [pR] at h3
   rw [tmB,ite_text,zD,e]
   simp only [List.length_append,List.length_cons,List.length_nil]
   omega
theorem uP:∀ (ss:List Bd) (hand ts:List Ty) (f:Tm),kN (zi hand ts) ss->(∀ t∈hand,zX t<=15)->(∀ t∈ts,zX t<=15)->hand.length+15*(1+zE ss)<=10000->(zG (kV hand f ts ss)).length<=(zG f).length+1900*zE ss
 | ss,hand,[],f,_,_,_,_=>by rw [kV];omega
 | [],hand,t::ts,f,_,_,_,_=>by rw [kV];omega
 | s::ss,hand,t::ts,f,hf,hh,ht,hl=>by
   rw [zE] at hl
   rw [kN] at hf
   obtain ⟨h',dD,e,f1,f2⟩:=hf
   simp only [zi,List.map_cons,List.cons.injEq] at e
   obtain ⟨rfl,rfl⟩:=e
   have ps:=zf s
   have hc:=qE (ht t (by simp))
   have ha:=kP (ht t (by simp))
   have h1:=uP ss hand ts (.app f (tmL hand t s)) f2 hh (fun x hx=>ht x (by simp [hx])) (by omega)
   have h2:=vM s (hand++t.args) f1 (fun x hx=>by
    rcases List.mem_append.1 hx with hx | hx
    ·exact hh x hx
    ·exact ha x hx) (by rw [List.length_append];omega)
   have h3:=jS t.args hand.length ha (by omega)
   rw [apps_text] at h1
   have h4:(zG (tmL hand t s)).length=(qB hand.length t.args).length+(zG (tmB (hand++t.args) s)).length+t.args.length:=by
    unfold tmL
    rw [vT,List.length_append,List.length_append,qq]
   rw [jL,zE]
   simp only [List.length_append,List.length_cons,List.length_nil] at h1
   omega
end
section
variable {P:Program} {ops:Array Oper} {Q:Exit->Act->World->Prop} {md:Region.Mode} {S:World->Prop} {T:Nat->Bool}
def qh (P:Program) (md:Region.Mode) (ops:Array Oper) (Q:Exit->Act->World->Prop) (S:World->Prop) (T:Nat->Bool):Nat->Array Bool->Act->World->Prop
 | 0,listed,a,w=>Region.ready md ops listed=[]/\Q .normal a w
 | fuel+1,listed,a,w =>
   (Region.ready md ops listed=[]->Q .normal a w) /\
   ∀ i∈Region.ready md ops listed,wpOp P ops Q i (fun a' w'=>(T i=false->S w')/\qh P md ops Q S T fuel (listed.setIfInBounds i true) a' w') a w
theorem pL:∀ (fuel:Nat) (listed:Array Bool) (a:Act) (w:World),qh P md ops Q S T fuel listed a w->wpAny P md ops Q fuel listed a w
 | 0,_,_,_,h=>h
 | fuel+1,_,_,_,h=>⟨h.1,fun i hi=>wpOp_mono (fun a' w' h'=>pL fuel _ a' w' h'.2) (h.2 i hi)⟩
theorem ji {md:Region.Mode} {ops:Array Oper} {L:Array Bool} {i j:Nat} (h:j∈Region.ready md ops L) (hne:j≠i):j∈Region.ready md ops (L.setIfInBounds i true):=by
 unfold Region.ready at *
 rw [List.mem_filter] at *
 refine ⟨h.1,?_⟩
 have h2:=h.2
 rw [Bool.and_eq_true] at *
 refine ⟨?_,?_⟩
 ·have e:(L.setIfInBounds i true).getD j true=L.getD j true:=by
   simp only [Array.getD_eq_getD_getElem?]
   rw [Array.getElem?_setIfInBounds_ne (fun e=>hne e.symm)]
  rw [e];exact h2.1
 ·have h3:=h2.2
  cases ho:ops[j]? with
  | none=>rw [ho] at h3;simp at h3
  | some o =>
    rw [ho] at h3
    simp only [Option.map_some,Option.getD_some] at h3 ⊢
    rw [Array.all_eq_true'] at *
    intro e he
    have h4:=h3 e he
    rw [Bool.or_eq_true] at *
    rcases h4 with h4 | h4
    ·exact .inl h4
    ·refine .inr ?_
     by_cases hk:e.on=i
     ·rw [hk]
      simp only [Array.getD_eq_getD_getElem?] at h4 ⊢
      rw [hk] at h4
      rcases Nat.lt_or_ge i L.size with h' | h'
      ·simp [h']
      ·rw [Array.getElem?_eq_none h'] at h4;simp at h4
     ·simp only [Array.getD_eq_getD_getElem?] at h4 ⊢
      rw [Array.getElem?_setIfInBounds_ne (fun e=>hk e.symm)];exact h4
theorem jN {md:Region.Mode} {ops:Array Oper} {L:Array Bool} {j:Nat} (h:j∈Region.ready md ops L) :
 L.getD j true=false/\∃ o,ops[j]? = some o/\∀ e∈o.after,Region.binds md e=true->L.getD e.on false=true:=by
 unfold Region.ready at h
 rw [List.mem_filter] at h
 have h2:=h.2
 rw [Bool.and_eq_true] at h2
 refine ⟨by simpa using h2.1,?_⟩
 cases ho:ops[j]? with
 | none=>have:=h2.2;rw [ho] at this;simp at this
 | some o =>
   refine ⟨o,rfl,fun e he hb=>?_⟩
   have h3:=h2.2
   rw [ho] at h3
   simp only [Option.map_some,Option.getD_some] at h3
   rw [Array.all_eq_true'] at h3
   have h4:=h3 e he
   rw [Bool.or_eq_true] at h4
   rcases h4 with h4 | h4
   ·rw [hb] at h4;simp at h4
   ·exact h4
theorem wpAnyS_first {i:Nat} {oi:Oper} {v:Value} (hi:ops[i]? = some oi) (fz:∀ (j:Nat) (o:Oper) cs b,ops[j]? = some o->o.op≠.select cs b)
 (hQ:∀ c a w,Q (.panic c) (a.put oi.dst v) w->Q (.panic c) a w)
 (hT:∀ j oj,ops[j]? = some oj->T j=true->∃ e∈oj.after,Region.binds md e=true/\e.on=i) (hTi:T i=false) :
 ∀ (fuel:Nat) (listed:Array Bool) (a:Act) (w:World),
   (∀ j oj,ops[j]? = some oj->j≠i->listed.getD j true=false->(∀ e∈oj.after,Region.binds md e=true->e.on≠i)->oi.apart ops oj=true) ->
   i∈Region.ready md ops listed->YieldsIf P ops S oi v a->S w ->
   qh P md ops Q S T fuel (listed.setIfInBounds i true) (a.put oi.dst v) w->qh P md ops Q S T (fuel+1) listed a w:=by
 intro fuel
 induction fuel with
 | zero =>
   intro listed a w _ hr hy hS H
   refine ⟨fun h=>(by rw [h] at hr;cases hr),fun j hj=>?_⟩
   by_cases dd:j=i
   ·subst dd;exact hy.wpOp hi hS ⟨fun _=>hS,H⟩
   ·have:=ji hj dd
    rw [H.1] at this
    cases this
 | succ fuel ih =>
   intro listed a w cM hr hy hS H
   refine ⟨fun h=>(by rw [h] at hr;cases hr),fun j hj=>?_⟩
   by_cases dd:j=i
   ·subst dd;exact hy.wpOp hi hS ⟨fun _=>hS,H⟩
   ·have h1:=H.2 j (ji hj dd)
    obtain ⟨ft,oj,mF,ce⟩:=jN hj
    have fh:∀ e∈oj.after,Region.binds md e=true->e.on≠i:=fun e he hb fa=>by
     have h1:=ce e he hb
     have h0:=(jN hr).1
     rw [fa] at h1
     simp only [Array.getD_eq_getD_getElem?] at h0 h1
     rcases Nat.lt_or_ge i listed.size with h' | h'
     ·simp [h'] at h0 h1;rw [h0] at h1;cases h1
     ·simp [Array.getElem?_eq_none h'] at h1
    have hTj:T j=false:=by
     cases hT':T j with
     | false=>rfl
     | true =>
       obtain ⟨e,he,hb,fa⟩:=hT j oj mF hT'
       exact absurd fa (fh e he hb)
    have h2:=wpOp_putIf mF (cM j oj mF dd ft fh) (fun cs b=>fz i oi cs b hi) (fun cs b=>fz j oj cs b mF) hQ hy h1
    have eO:∀ k ok,ops[k]? = some ok->k≠i->(listed.setIfInBounds j true).getD k true=false ->
     (∀ e∈ok.after,Region.binds md e=true->e.on≠i)->oi.apart ops ok=true:=fun k ok hk hki rD cB=>by
     refine cM k ok hk hki ?_ cB
     by_cases aH:j=k
     ·subst aH;exact ft
     ·simp only [Array.getD_eq_getD_getElem?] at rD ⊢
      rw [Array.getElem?_setIfInBounds_ne aH] at rD;exact rD
    refine wpOp_mono (fun a' w' h3=>⟨h3.2.1,ih (listed.setIfInBounds j true) a' w' eO (ji hr (Ne.symm dd)) h3.1 (h3.2.1 hTj) ?_⟩) h2
    rw [Array.setIfInBounds_comm _ _ dd]
    exact h3.2.2
def waitT (md:Region.Mode) (ops:Array Oper) (T:Nat->Bool) (i:Nat):Bool :=
 !T i && (List.range ops.size).all fun j=>!T j || ((ops[j]?).map fun o=>o.after.any fun e=>Region.binds md e && e.on == i).getD true
theorem waitT_spec {i:Nat} (h:waitT md ops T i=true):T i=false/\∀ j oj,ops[j]? = some oj->T j=true->∃ e∈oj.after,Region.binds md e=true/\e.on=i:=by
 unfold waitT at h
 rw [Bool.and_eq_true] at h
 refine ⟨by simpa using h.1,fun j oj hj hT=>?_⟩
 have h2:=h.2
 rw [List.all_eq_true] at h2
 have h3:=h2 j (List.mem_range.2 (Array.getElem?_eq_some_iff.1 hj).1)
 rw [hT,hj] at h3
 simp only [Bool.not_true,Bool.false_or,Option.map_some,Option.getD_some] at h3
 rw [Array.any_eq_true'] at h3
 obtain ⟨e,he,h4⟩:=h3
 rw [Bool.and_eq_true,beq_iff_eq] at h4
 exact ⟨e,he,h4⟩
theorem wpAnyS_take (i:Nat) {v:Value} {fuel:Nat} {listed:Array Bool} {a:Act} {w:World}
 (hs:Region.noSelect ops=true) (hf:Region.free md ops listed i=true) (hr:(Region.ready md ops listed).contains i=true) (ht:waitT md ops T i=true)
 (hQ:∀ d c a w,Q (.panic c) (a.put d v) w->Q (.panic c) a w) (hS:S w)
 (hy:∀ oi,ops[i]? = some oi->YieldsIf P ops S oi v a)
 (h:∀ d,(ops[i]?).bind (·.dst)=d->qh P md ops Q S T fuel (listed.setIfInBounds i true) (a.put d v) w):qh P md ops Q S T (fuel+1) listed a w:=by
 have hm:i∈Region.ready md ops listed:=by simpa using hr
 obtain ⟨_,oi,hi,_⟩:=jN hm
 obtain ⟨h1,h2⟩:=waitT_spec ht
 exact wpAnyS_first hi (Region.noSelect_spec hs) (fun c a w=>hQ _ c a w) h2 h1 fuel listed a w (Region.free_spec hi hf) hm (hy oi hi) hS (h _ (by rw [hi];rfl))
def tks (P:Program) (ops:Array Oper) (S:World->Prop):List Nat->List (Option Tmp)->Act->(Act->Prop)->Prop
 | i::l,d::ds,a,K=>∃ v,(∀ oi,ops[i]? = some oi->YieldsIf P ops S oi v a)/\tks P ops S l ds (a.put d v) K
 | [],_,a,K=>K a
 | _::_,[],_,_=>False
def tkOk (md:Region.Mode) (ops:Array Oper) (T:Nat->Bool):List Nat->Array Bool->Bool
 | [],_=>true
 | i::l,L=>Region.free md ops L i && ((Region.ready md ops L).contains i && (waitT md ops T i && tkOk md ops T l (L.setIfInBounds i true)))
def tkL:List Nat->Array Bool->Array Bool
 | [],L=>L
 | i::l,L=>tkL l (L.setIfInBounds i true)
def tkN:List Nat->Nat->Nat
 | [],n=>n
 | _::l,n=>tkN l n+1
def tkD (ops:Array Oper):List Nat->List (Option Tmp)
 | []=>[]
 | i::l=>(ops[i]?).bind (·.dst)::tkD ops l
theorem tk (is:List Nat) {fuel:Nat} {listed:Array Bool} {a:Act} {w:World} (hS:S w) (h:∀ ds,tkD ops is=ds->tks P ops S is ds a (fun a'=>qh P md ops Q S T fuel (tkL is listed) a' w))
 (cK:(Region.noSelect ops && tkOk md ops T is listed)=true:=by kernel_rfl) (hQ:∀ v d c a w,Q (.panic c) (a.put d v) w->Q (.panic c) a w:=by exact fun _ _ _ _ _ h=>h):qh P md ops Q S T (tkN is fuel) listed a w:=by
 have h':=h _ rfl
 clear h
 rw [Bool.and_eq_true] at cK
 obtain ⟨hs,cK⟩:=cK
 induction is generalizing listed a with
 | nil=>exact h'
 | cons i l ih =>
   rw [tkOk,Bool.and_eq_true,Bool.and_eq_true,Bool.and_eq_true] at cK
   rw [tkD,tks] at h'
   obtain ⟨v,hy,hk⟩:=h'
   exact wpAnyS_take i hs cK.1 cK.2.1 cK.2.2.1 (fun d c a w=>hQ v d c a w) hS hy (fun d hd=>by
    rw [hd] at hk
    exact ih hk cK.2.2.2)
theorem pQ (l:List Value) (df:List Deferred) (k:Nat) (v:Value):Act.put ⟨l.toArray,df⟩ (some k) v=⟨(l.set k v).toArray,df⟩:=by simp [Act.put]
theorem pN (a:Act) (v:Value):Act.put a none v=a:=rfl
theorem pZ (x y:Value) (l:List Value):(x::l).set 0 y=y::l:=rfl
theorem pS (x y:Value) (l:List Value) (n:Nat):(x::l).set (n+1) y=x::l.set n y:=rfl
theorem wpAnyS_one (i:Nat) {fuel:Nat} {listed:Array Bool} {a:Act} {w:World} (hr:Region.ready md ops listed=[i])
 (h:∀ o,ops[i]? = some o->∀ K':Act->World->Prop,Shut (∀ a w,(T i=false->S w)->qh P md ops Q S T fuel (listed.setIfInBounds i true) a w->K' a w) ->
  if Region.wanted o (yielded ops a.tmps)=true then Oper.wp P o a w K' Q else K' (a.put o.dst undef) w):qh P md ops Q S T (fuel+1) listed a w:=by
 refine ⟨fun h0=>by rw [hr] at h0;simp at h0,fun j hj=>?_⟩
 rw [hr] at hj
 simp only [List.mem_singleton] at hj
 subst hj
 obtain ⟨_,o,ho,_⟩:=jN (md:=md) (ops:=ops) (L:=listed) (j:=j) (by rw [hr];simp)
 exact wpOp_step ho (fun K' hK=>h o ho K' (fun a w hS hW=>hK a w ⟨hS,hW⟩))
theorem on (i:Nat) {fuel:Nat} {listed:Array Bool} {a:Act} {w:World}
 (h:∀ o,ops[i]? = some o->∀ K':Act->World->Prop,Shut (∀ a w,(T i=false->S w)->qh P md ops Q S T fuel (listed.setIfInBounds i true) a w->K' a w) ->
  if Region.wanted o (yielded ops a.tmps)=true then Oper.wp P o a w K' Q else K' (a.put o.dst undef) w) (hr:Region.ready md ops listed=[i]:=by kernel_rfl):qh P md ops Q S T (fuel+1) listed a w :=
 wpAnyS_one i hr h
theorem kL {listed:Array Bool} {a:Act} {w:World} (hr:Region.ready md ops listed=[]) (h:Q .normal a w) :
 ∀ fuel,qh P md ops Q S T fuel listed a w
 | 0=>⟨hr,h⟩
 | _+1=>⟨fun _=>h,by rw [hr];simp⟩
theorem kT {id:Nat} {a:Act} {w:World} (S:World->Prop) (T:Nat->Bool) (hm:P.follows .mixedOrders=true)
 (h:qh P .any ops Q S T ops.size (Array.replicate ops.size false) a w.drew):(Code.region id ops true).wp P Q a w :=
 wp_region_any hm (pL _ _ _ _ h)
end
theorem out_cell {m:Nat->Prop} {w6 w7:World} {o:Obj} {ob f:Nat} {u:Value} (hb:But m (w6.alloc o) w7) (hm:¬ m ob) (h:w6.cell? ⟨ob,f,none⟩=some u):w7.cell? ⟨ob,f,none⟩=some u:=by
 have bX:=h_ w6 ⟨ob,f,none⟩ h
 rw [hb.cell (p:=⟨ob,f,none⟩) (by rw [zQ];exact Nat.lt_succ_of_lt bX) hm]
 exact zK h
theorem out_free {m:Nat->Prop} {w6 w7:World} {o:Obj} {ob f:Nat} (hb:But m (w6.alloc o) w7) (hm:¬ m ob) (bX:ob<w6.heap.size) (h:w6.frozen? ⟨ob,f,none⟩=false):w7.frozen? ⟨ob,f,none⟩=false:=by
 rw [World.frozen?_of_block (w:=w6) (by rw [hb.block _ (by rw [zQ];omega) hm,Below.heap_alloc _ _ _ bX])]
 exact h
theorem own_thru {wr w5 w6:World} {e:TypeId} {sz n:Nat} {v:Value} {xs:List Value} {rd:Nat} (h:Own wr e sz v n xs) (hg:∀ g,v.ownBlock=some g->g≠rd) (bF:But (· = rd) wr w5) (bW:But (· = rd) w5 w6):Own w6 e sz v n xs :=
 h.keep fun g o hgo ho=>by
  have bX:=zZ ho
  rw [bW.block g (bJ bX bF.size) (hg g hgo),bF.block g bX (hg g hgo)];exact ho
theorem qn {rd:Nat} {w w':World} (hb:But (· = rd) w w') {b o:Nat} {u:Value} (hne:b≠rd) (h:w.cell? ⟨b,o,none⟩=some u):w'.cell? ⟨b,o,none⟩=some u :=
 (hb.cell (p:=⟨b,o,none⟩) (h_ w ⟨b,o,none⟩ h) hne).trans h
theorem xy {rd:Nat} {w w':World} (hb:But (· = rd) w w') {b o:Nat} (hne:b≠rd) (bX:b<w.heap.size) (h:w.frozen? ⟨b,o,none⟩=false):w'.frozen? ⟨b,o,none⟩=false:=by
 rw [World.frozen?_of_block (w:=w) (hb.block b bX hne)];exact h
def yX (size:Nat) (v:Value) (n:Nat) (xs:List Value) (w:World):Prop :=
 xs.length=n*size/\((∃ b,v=.slice (some b) n n/\∀ (j:Nat) u,xs[j]? = some u->w.cell? (b.add j)=some u)\/(v=.slice none 0 0/\n=0))
theorem pB {P:Program} {w:World} (t ty e:TypeId) (i:TypeInfo) (z:Value) (size bytes:Nat) (ht:P.underlying t=some (.slice e)) (hi:P.info? e=some i) (hz:i.zero=some z)
 (cQ:i.size=size) (dW:i.bytes=bytes) (fQ:z.cells.size=size)
 (v:Value) (n:Nat) (xs:List Value) (bG:yX size v n xs w)
 (x:Value) (m:Nat) (news:List Value) (hs:zp size x m news w) (hm:0<m) (fN:n+m<=maxLen) (bh:(n+m)*bytes<=140737488355328) :
 ∃ c' w',(Builtin.append_ #[t,t] ty #[v,x]).run P w=.ok (.slice (some ⟨w.heap.size,0,none⟩) (n+m) c') w'/\Own w' e size (.slice (some ⟨w.heap.size,0,none⟩) (n+m) c') (n+m) (xs++news)/\Below w.heap.size w w':=by
 obtain ⟨hl,h1,⟨a,c,rfl,bw⟩ | ⟨rfl,rfl⟩⟩:=hs
 ·subst cQ
  subst dW
  have rR:n+m<=9223372036854775807:=by simp only [maxLen] at fN;omega
  have bP:(xs++news).length=(n+m)*i.size:=by rw [List.length_append,bG.1,hl,Nat.add_mul]
  have grown:∀ (old:Nat),
   Own (w.drew.alloc (.cells (xs.toArray++news.toArray++Builtin.zeroCells z.cells (grownCap w (n+m) old e-(n+m))) e)) e i.size
    (.slice (some ⟨w.heap.size,0,none⟩) (n+m) (grownCap w (n+m) old e)) (n+m) (xs++news) /\
   Below w.heap.size w (w.drew.alloc (.cells (xs.toArray++news.toArray++Builtin.zeroCells z.cells (grownCap w (n+m) old e-(n+m))) e)):=by
   intro old
   have r_:=grownCap_ge w (n+m) old e
   have aT:grownCap w (n+m) old e<=maxLen:=grownCap_le_maxLen w (n+m) old e fN
   refine ⟨⟨bP,.inr ⟨w.heap.size,_,_,rfl,Nat.zero_le _,Go.heap_alloc_new w.drew _,r_,aT,?_,?_⟩⟩,((bZ _ w).drew).alloc (hG _) _⟩
   ·simp only [Array.size_append,List.size_toArray,size_zeroCells,fQ,bG.1,hl,<- Nat.add_mul]
    congr 1
    omega
   ·simp only [Array.toList_append,List.append_assoc]
    rw [<- List.append_assoc,<- bP]
    exact List.take_left
  rcases bG.2 with ⟨b,rfl,holds⟩ | ⟨rfl,rfl⟩
  ·have hr:=run_append_grow (P:=P) w t ty e i z ht hi hz b n n xs bG.1 holds a m c news hl bw (by omega) (by omega) (growslice_fits (by omega) bh)
   exact ⟨_,_,hr,grown n⟩
  ·have hx:xs=[]:=List.eq_nil_of_length_eq_zero (by simpa using bG.1)
   subst hx
   have hr:=run_append_nil (P:=P) w t ty e i z ht hi hz a m c news hl bw (by omega) (by omega) (by have hb:=bh;simp only [Nat.zero_add] at hb;omega)
   have mb:=grown 0
   simp only [Nat.zero_add,List.nil_append,Array.empty_append] at mb ⊢
   exact ⟨_,_,hr,mb⟩
 ·omega
theorem pH {P:Program} {w:World} (t ty e:TypeId) (i:TypeInfo) (size:Nat) (ht:P.underlying t=some (.slice e)) (hi:P.info? e=some i) (a:Option Addr) (n c:Nat) (hn:n<=c) (hc:c<=maxLen)
 (x:Value) (hs:zp size x 0 [] w) :
 (Builtin.append_ #[t,t] ty #[.slice a n c,x]).run P w=.ok (.slice a n c) w:=by
 obtain ⟨hl,h1,⟨b,c',rfl,_⟩ | ⟨rfl,_⟩⟩:=hs
 ·cases a <;> simp [Builtin.append_,run_underlying ht,sizeOf,typeInfo,hi,Builtin.lenOf,Builtin.firstCells,hn,storeCells,loadCells,loadCellsFrom]
 ·cases a <;> simp [Builtin.append_,run_underlying ht,sizeOf,typeInfo,hi,Builtin.lenOf,Builtin.firstCells,hn,storeCells,loadCells,loadCellsFrom]
theorem xn {P:Program} {w:World} {ops:Array Oper} {o:Oper} {a:Act} {K:Act->World->Prop} {Q:Exit->Act->World->Prop} {E:Prop} (ma:o.guard=none) (s x:Operand) (t:TypeId)
 (ho:o.op=.call { callee:=.builtin .append,args:=#[s,x],argTypes:=#[t,t] })
 (e:TypeId) (z:Value) (size bytes:Nat) (ht:P.underlying t=some (.slice e)) (hi:(P.info? e).map (fun i=>(i.zero,i.size,i.bytes))=some (some z,size,bytes))
 (fQ:z.cells.size=size)
 (v:Value) (n:Nat) (xs:List Value) (hs:a.eval s=v) (bG:yX size v n xs w)
 (y:Value) (m:Nat) (news:List Value) (hx:a.eval x=y) (be:zp size y m news w) (hm:0<m)
 (fN:n+m<=maxLen) (bh:(n+m)*bytes<=140737488355328)
 (h:∀ c' w',Own w' e size (.slice (some ⟨w.heap.size,0,none⟩) (n+m) c') (n+m) (xs++news)->Below w.heap.size w w' ->
  K (a.put o.dst (.slice (some ⟨w.heap.size,0,none⟩) (n+m) c')) w'):if Region.wanted o (yielded ops a.tmps)=true then Oper.wp P o a w K Q else E:=by
 rw [if_pos (by simp [Region.wanted,ma])]
 obtain ⟨i,hi,hz,cQ,dW⟩:=info_parts hi
 obtain ⟨c',w',hr,h2,h3⟩:=pB (P:=P) (w:=w) t o.type e i z size bytes ht hi hz cQ dW fQ v n xs bG y m news be hm fN bh
 unfold Oper.wp execOp
 simp only [ho,resolve,invoke,builtin,Sem.run_bind,Sem.run_pure,Result.andThen_ok,List.map_toArray,List.map_cons,List.map_nil,hs,hx,hr]
 exact h c' w' h2 h3
theorem xl {P:Program} {w:World} {ops:Array Oper} {o:Oper} {a:Act} {K:Act->World->Prop} {Q:Exit->Act->World->Prop} {E:Prop} (ma:o.guard=none) (s x:Operand) (t:TypeId)
 (ho:o.op=.call { callee:=.builtin .append,args:=#[s,x],argTypes:=#[t,t] })
 (e:TypeId) (z:Value) (size bytes:Nat) (ht:P.underlying t=some (.slice e)) (hi:(P.info? e).map (fun i=>(i.zero,i.size,i.bytes))=some (some z,size,bytes))
 (b:Option Addr) (n c:Nat) (hn:n<=c) (hc:c<=maxLen) (hs:a.eval s=.slice b n c)
 (y:Value) (hx:a.eval x=y) (be:zp size y 0 [] w)
 (h:K (a.put o.dst (.slice b n c)) w):if Region.wanted o (yielded ops a.tmps)=true then Oper.wp P o a w K Q else E:=by
 rw [if_pos (by simp [Region.wanted,ma])]
 obtain ⟨i,hi,hz,cQ,dW⟩:=info_parts hi
 have hr:=pH (P:=P) (w:=w) t o.type e i size ht hi b n c hn hc y be
 unfold Oper.wp execOp
 simp only [ho,resolve,invoke,builtin,Sem.run_bind,Sem.run_pure,Result.andThen_ok,List.map_toArray,List.map_cons,List.map_nil,hs,hx,hr]
 exact h
theorem yX.ofRep {F:Nat->Prop} {w:World} {e:TypeId} {sz n:Nat} {cs:List DV} {a:Option Addr} {c:Nat} (h:Rep F w (.sl e sz n cs) (.slice a n c)) (fX:∀ us,zC F w cs us->∀ u∈us,u.oneCell'=true) :
 ∃ xs,zC F w cs xs/\yX sz (.slice a n n) n xs w:=by
 obtain ⟨xs,h1,h2,_,h4⟩:=zp.ofRep h fX
 refine ⟨xs,h1,h2,?_⟩
 rcases h4 with ⟨b,c',e1,h5⟩ | ⟨e1,rfl⟩
 ·injection e1 with e2 e3 e4
  subst e2
  exact .inl ⟨b,rfl,h5⟩
 ·injection e1 with e2 e3 e4
  subst e2
  exact .inr ⟨rfl,rfl⟩
theorem yX.drew {w:World} {size n:Nat} {v:Value} {xs:List Value} (h:yX size v n xs w):yX size v n xs w.drew:=h
theorem Rep.cutSl {F:Nat->Prop} {w:World} {e:TypeId} {sz n:Nat} {cs:List DV} {a:Option Addr} {c:Nat} (h:Rep F w (.sl e sz n cs) (.slice a n c)):Rep F w (.sl e sz n cs) (.slice a n n):=by
 rw [kD] at h ⊢
 obtain ⟨hl,a',cap,e1,hn,hz,h⟩:=h
 injection e1 with e2 e3 e4
 subst e2;subst e4
 exact ⟨hl,a,n,rfl,hG _,fun ha=>by have:=hz ha;omega,h⟩
structure BoxRes (F0:Nat->Prop) (W:World) (g:Nat) (o:Obj) (d:List DV) (v:List Value) (Z:World):Prop where
 below:Below W.heap.size W Z
 new:W.heap.size<=g
 blk:Z.heap[g]? = some o
 rep:zC (fun i=>(F0 i\/W.heap.size<=i)/\i≠g) Z d v
theorem BoxRes.first {F0:Nat->Prop} {W V0 V1 Z:World} {o:Obj} {d:List DV} {v:List Value} (hF0:∀ i,F0 i->i<W.heap.size) (h0:Below W.heap.size W V0) (hz0:V0.heap.size=W.heap.size+1) (hb:Below V0.heap.size V0 V1) (hr:zC (fun i=>F0 i\/V0.heap.size<=i) V1 d v)
 (ne:But (fun i=>i=W.heap.size) V1 Z) (cU:Z.heap[W.heap.size]? = some o):BoxRes F0 W W.heap.size o d v Z:=by
 have hz:=hb.size
 have bU:Below W.heap.size W V1:=h0.trans (hb.mono (by omega))
 refine ⟨bU.trans (ne.toBelow (by omega) fun i hi e=>by omega),hG _,cU,?_⟩
 refine (Rep.keep fun i x hi hx=>?_).2 _ _ hr
 have hne:i≠W.heap.size:=by rcases hi with h | h;have:=hF0 i h;omega;omega
 exact ⟨⟨hi.elim .inl (fun h=>.inr (by omega)),hne⟩,by rw [ne.block i (zZ hx) hne];exact hx⟩
theorem BoxRes.last {F0:Nat->Prop} {W V1 Z:World} {z o:Obj} {d:List DV} {v:List Value} (hb:Below W.heap.size W V1) (hr:zC (fun i=>F0 i\/W.heap.size<=i) V1 d v)
 (ne:But (fun i=>i=V1.heap.size) (V1.alloc z) Z) (cU:Z.heap[V1.heap.size]? = some o):BoxRes F0 W V1.heap.size o d v Z:=by
 have hz:=hb.size
 refine ⟨(hb.alloc hz z).trans (ne.toBelow (by rw [zQ];omega) fun i hi e=>by omega),hz,cU,?_⟩
 refine (Rep.keep fun i x hi hx=>?_).2 _ _ hr
 have hl:=zZ hx
 have hne:i≠V1.heap.size:=by omega
 exact ⟨⟨hi,hne⟩,by rw [ne.block i (by rw [zQ];omega) hne,Below.heap_alloc _ _ _ hl];exact hx⟩
end Go.Proofs.YtepgfdhkkjfmhabGreatDoor

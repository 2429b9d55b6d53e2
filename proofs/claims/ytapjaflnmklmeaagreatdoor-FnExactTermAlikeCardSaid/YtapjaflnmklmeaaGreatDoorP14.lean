import Derived.Test.YtapjaflnmklmeaaGreatDoorP8
/- Plain words: strategies applied to strategies: the machine that writes what a body becomes. -/
namespace Go.Proofs.YtapjaflnmklmeaaGreatDoor
open Go.RowKit
inductive Mn where
 | op (o:Nat) (t:Ty)
 | bd (t:Ty) (b:Bd) (env:List Mn)
structure Gf where
 yes:Bd
 no:Bd
 env:List Mn
def opens:Nat→List Ty→List Mn
 | _,[]=>[]
 | n,t::ts=>.op n t::opens (n+1) ts
def owns (env:List Mn):List Ty→List Bd→List Mn
 | t::ts,s::ss=>.bd t s env::owns env ts ss
 | _,_=>[]
def evSubs (ev:Nat→Bd→List Mn→Nat→List Gf→Option (Bd×Nat)) (env:List Mn) (n:Nat):Nat→List Ty→List Bd→Option (List Bd×Nat)
 | l,t::ts,s::ss=>do
   let (x,l1)←ev l s (env++opens n t.args) (n+t.args.length) []
   let (xs,l2)←evSubs ev env n l1 ts ss
   some (x::xs,l2)
 | l,_,_=>some ([],l)
def ev:Nat→Nat→Bd→List Mn→Nat→List Gf→Option (Bd×Nat)
 | 0,_,_,_,_,_=>none
 | d+1,l,b,env,n,st=>match l with
   | 0=>none
   | l+1=>match b with
     | .leaf c=>if c=117 then some (.leaf c,l) else match st with
       | []=>some (.leaf c,l)
       | f::st'=>ev d l (if c=116 then f.yes else f.no) f.env n st'
     | .ask v ss y no=>match env[v]? with
       | none=>none
       | some (.bd t b' e)=>ev d l b' (e++owns env t.args ss) n (⟨y,no,env⟩::st)
       | some (.op o t)=>do
         let (xs,l1)←evSubs (ev d) env n l t.args ss
         let (x,l2)←ev d l1 y env n st
         let (z,l3)←ev d l2 no env n st
         some (.ask o xs x z,l3)
def evSubsN (ev:Nat→Nat→Bd→List Mn→Nat→List Gf→Option (Bd×Nat×Nat)) (env:List Mn) (n:Nat):Nat→Nat→List Ty→List Bd→Option (List Bd×Nat×Nat)
 | k,l,t::ts,s::ss=>do
   let (x,k1,l1)←ev k l s (env++opens n t.args) (n+t.args.length) []
   let (xs,k2,l2)←evSubsN ev env n k1 l1 ts ss
   some (x::xs,k2,l2)
 | k,l,_,_=>some ([],k,l)
def evN:Nat→Nat→Nat→Bd→List Mn→Nat→List Gf→Option (Bd×Nat×Nat)
 | 0,_,_,_,_,_,_=>none
 | d+1,k,l,b,env,n,st=>match l with
   | 0=>none
   | l+1=>match k with
     | 0=>none
     | k+1=>match b with
       | .leaf c=>if c=117 then some (.leaf c,k,l) else match st with
         | []=>some (.leaf c,k,l)
         | f::st'=>evN d (k+1) l (if c=116 then f.yes else f.no) f.env n st'
       | .ask v ss y no=>match env[v]? with
         | none=>none
         | some (.bd t b' e)=>evN d (k+1) l b' (e++owns env t.args ss) n (⟨y,no,env⟩::st)
         | some (.op o t)=>do
           let (xs,k1,l1)←evSubsN (evN d) env n k l t.args ss
           let (x,k2,l2)←evN d k1 l1 y env n st
           let (z,k3,l3)←evN d k2 l2 no env n st
           some (.ask o xs x z,k3,l3)
def capN (k:Nat):Option (Bd×Nat)→Option (Bd×Nat×Nat)
 | none=>none
 | some (b,l)=>if sizeB b≤k then some (b,k-sizeB b,l) else none
def capNs (k:Nat):Option (List Bd×Nat)→Option (List Bd×Nat×Nat)
 | none=>none
 | some (bs,l)=>if sizeBs bs≤k then some (bs,k-sizeBs bs,l) else none
theorem capN_none (k:Nat):capN k none=none:=rfl
theorem capN_pos {k l:Nat} {b:Bd} (h:sizeB b≤k):capN k (some (b,l))=some (b,k-sizeB b,l):=by simp only [capN];rw [if_pos h]
theorem capN_neg {k l:Nat} {b:Bd} (h:¬ sizeB b≤k):capN k (some (b,l))=none:=by simp only [capN];rw [if_neg h]
theorem capNs_none (k:Nat):capNs k none=none:=rfl
theorem capNs_pos {k l:Nat} {b:List Bd} (h:sizeBs b≤k):capNs k (some (b,l))=some (b,k-sizeBs b,l):=by simp only [capNs];rw [if_pos h]
theorem capNs_neg {k l:Nat} {b:List Bd} (h:¬ sizeBs b≤k):capNs k (some (b,l))=none:=by simp only [capNs];rw [if_neg h]
theorem evSubsN_eq (d:Nat) (ih:∀ k l b env n st,evN d k l b env n st=capN k (ev d l b env n st)) (env:List Mn) (n:Nat) :
 ∀ (ts:List Ty) (ss:List Bd) (k l:Nat),evSubsN (evN d) env n k l ts ss=capNs k (evSubs (ev d) env n l ts ss)
 | [],ss,k,l=>by cases ss <;> simp [evSubsN,evSubs,capNs,sizeBs]
 | t::ts,[],k,l=>by simp [evSubsN,evSubs,capNs,sizeBs]
 | t::ts,s::ss,k,l=>by
   simp only [evSubsN,evSubs,Option.bind_eq_bind,ih]
   cases h1:ev d l s (env++opens n t.args) (n+t.args.length) [] with
   | none=>simp [capN,capNs]
   | some x =>
     obtain ⟨x,l1⟩:=x
     simp only [capN,Option.bind_some]
     by_cases hx:sizeB x≤k
     ·rw [if_pos hx]
      simp only [Option.bind_some,evSubsN_eq d ih env n ts ss]
      cases h2:evSubs (ev d) env n l1 ts ss with
      | none=>simp [capNs]
      | some y =>
        obtain ⟨xs,l2⟩:=y
        have hsz:sizeBs (x::xs)=sizeB x+sizeBs xs:=by simp only [sizeBs]
        simp only [capNs,Option.bind_some]
        by_cases hy:sizeBs xs≤k-sizeB x
        ·rw [if_pos hy,if_pos (by omega),hsz];simp;omega
        ·rw [if_neg hy,if_neg (by omega)];rfl
     ·rw [if_neg hx]
      cases h2:evSubs (ev d) env n l1 ts ss with
      | none=>simp [capNs]
      | some y =>
        obtain ⟨xs,l2⟩:=y
        have hsz:sizeBs (x::xs)=sizeB x+sizeBs xs:=by simp only [sizeBs]
        simp only [capNs,Option.bind_some]
        rw [if_neg (by omega)];rfl
theorem evN_eq (d:Nat):∀ (k l:Nat) (b:Bd) (env:List Mn) (n:Nat) (st:List Gf),evN d k l b env n st=capN k (ev d l b env n st):=by
 induction d with
 | zero=>intro k l b env n st;simp [evN,ev,capN]
 | succ d ih =>
   intro k l b env n st
   rw [evN.eq_def,ev.eq_def]
   cases l with
   | zero=>simp [capN]
   | succ l =>
     cases k with
     | zero =>
       simp only
       cases h:(match b with
     | .leaf c=>if c=117 then some (.leaf c,l) else match st with
       | []=>some (.leaf c,l)
       | f::st'=>ev d l (if c=116 then f.yes else f.no) f.env n st'
     | .ask v ss y no=>match env[v]? with
       | none=>none
       | some (.bd t b' e)=>ev d l b' (e++owns env t.args ss) n (⟨y,no,env⟩::st)
       | some (.op o t)=>do
         let (xs,l1)←evSubs (ev d) env n l t.args ss
         let (x,l2)←ev d l1 y env n st
         let (z,l3)←ev d l2 no env n st
         some (.ask o xs x z,l3):Option (Bd×Nat)) with
       | none=>simp [capN]
       | some x=>obtain ⟨x,l'⟩:=x;have:=sizeB_pos x;simp only [capN];rw [if_neg (by omega)]
     | succ k =>
       simp only
       cases b with
       | leaf c =>
         simp only
         by_cases hc:c=117
         ·rw [if_pos hc,if_pos hc];simp [capN,sizeB]
         ·rw [if_neg hc,if_neg hc]
          cases st with
          | nil=>simp [capN,sizeB]
          | cons f st'=>simp only;exact ih _ _ _ _ _ _
       | ask v ss y no =>
         simp only
         cases hv:env[v]? with
         | none=>simp [capN]
         | some m =>
           cases m with
           | bd t b' e=>simp only;exact ih _ _ _ _ _ _
           | op o t =>
             simp only [Option.bind_eq_bind,evSubsN_eq d ih,ih]
             cases h1:evSubs (ev d) env n l t.args ss with
             | none=>simp only [capNs_none,capN_none,Option.bind_none]
             | some x =>
               obtain ⟨xs,l1⟩:=x
               by_cases hxs:sizeBs xs≤k
               ·simp only [capNs_pos hxs,Option.bind_some]
                cases h2:ev d l1 y env n st with
                | none=>simp only [capN_none,Option.bind_none]
                | some x =>
                  obtain ⟨x,l2⟩:=x
                  by_cases hx:sizeB x≤k-sizeBs xs
                  ·simp only [capN_pos hx,Option.bind_some]
                   cases h3:ev d l2 no env n st with
                   | none=>simp only [capN_none,Option.bind_none]
                   | some z =>
                     obtain ⟨z,l3⟩:=z
                     have hsz:sizeB (.ask o xs x z)=1+(sizeBs xs+(sizeB x+sizeB z)):=by simp only [sizeB]
                     by_cases hz:sizeB z≤k-sizeBs xs-sizeB x
                     ·simp only [capN_pos hz,Option.bind_some]
                      rw [capN_pos (by omega),hsz]
                      simp;omega
                     ·simp only [capN_neg hz,Option.bind_some,Option.bind_none]
                      rw [capN_neg (by omega)]
                  ·simp only [capN_neg hx,Option.bind_some,Option.bind_none]
                   cases h3:ev d l2 no env n st with
                   | none=>rfl
                   | some z =>
                     obtain ⟨z,l3⟩:=z
                     have hsz:sizeB (.ask o xs x z)=1+(sizeBs xs+(sizeB x+sizeB z)):=by simp only [sizeB]
                     simp only [Option.bind_some]
                     rw [capN_neg (by omega)]
               ·simp only [capNs_neg hxs,Option.bind_some,Option.bind_none]
                cases h2:ev d l1 y env n st with
                | none=>rfl
                | some x =>
                  obtain ⟨x,l2⟩:=x
                  simp only [Option.bind_some]
                  cases h3:ev d l2 no env n st with
                  | none=>rfl
                  | some z =>
                    obtain ⟨z,l3⟩:=z
                    have hsz:sizeB (.ask o xs x z)=1+(sizeBs xs+(sizeB x+sizeB z)):=by simp only [sizeB]
                    simp only [Option.bind_some]
                    rw [capN_neg (by omega)]
end Go.Proofs.YtapjaflnmklmeaaGreatDoor
namespace Go.Proofs.YtapjaflnmklmeaaGreatDoor
open Go.RowKit
mutual
def mnFit (H:List Ty):Mn→Ty→Prop
 | .op o t,t'=>t=t'∧H[o]? = some t
 | .bd t b e,t'=>t=t'∧∃ h,mnFits H e h∧fitB (h++t.args) b
def mnFits (H:List Ty):List Mn→List Ty→Prop
 | [],h=>h=[]
 | m::ms,h=>∃ t ts,h=t::ts∧mnFit H m t∧mnFits H ms ts
end
theorem mnFits_at {H:List Ty}:∀ (cs:List Mn) (h:List Ty),mnFits H cs h→∀ (i:Nat) (t:Ty),h[i]? = some t→∃ c,cs[i]? = some c∧mnFit H c t
 | [],h,k,i,c,hc=>by rw [mnFits] at k;subst k;simp at hc
 | c::cs,h,k,i,t',hc=>by
   rw [mnFits] at k
   obtain ⟨t,ts,rfl,k1,k2⟩:=k
   cases i with
   | zero=>simp at hc;subst hc;exact ⟨c,rfl,k1⟩
   | succ i=>simp at hc;simpa using mnFits_at cs ts k2 i t' hc
theorem mnFits_append {H:List Ty}:∀ (xs bs:List Mn) (h k:List Ty),mnFits H xs h→mnFits H bs k→mnFits H (xs++bs) (h++k)
 | [],bs,h,k,h1,h2=>by rw [mnFits] at h1;subst h1;simpa using h2
 | a::xs,bs,h,k,h1,h2=>by
   rw [mnFits] at h1
   obtain ⟨t,ts,rfl,k1,k2⟩:=h1
   simp only [List.cons_append]
   rw [mnFits]
   exact ⟨t,ts++k,rfl,k1,mnFits_append xs bs ts k k2 h2⟩
mutual
theorem mnFit_more {H X:List Ty}:∀ (m:Mn) (t:Ty),mnFit H m t→mnFit (H++X) m t
 | .op o t,t',h=>by
   rw [mnFit] at *
   exact ⟨h.1,by rw [List.getElem?_append_left (List.getElem?_eq_some_iff.1 h.2).1];exact h.2⟩
 | .bd t b e,t',h=>by
   rw [mnFit] at *
   obtain ⟨h1,k,h2,h3⟩:=h
   exact ⟨h1,k,mnFits_more e k h2,h3⟩
theorem mnFits_more {H X:List Ty}:∀ (ms:List Mn) (h:List Ty),mnFits H ms h→mnFits (H++X) ms h
 | [],h,k=>by rw [mnFits] at *;exact k
 | m::ms,h,k=>by
   rw [mnFits] at *
   obtain ⟨t,ts,rfl,k1,k2⟩:=k
   exact ⟨t,ts,rfl,mnFit_more m t k1,mnFits_more ms ts k2⟩
end
theorem opens_fit {H:List Ty}:∀ (ts:List Ty) (n:Nat),(∀ i t,ts[i]? = some t→H[n+i]? = some t)→mnFits H (opens n ts) ts
 | [],n,h=>by rw [opens,mnFits]
 | t::ts,n,h=>by
   rw [opens,mnFits]
   refine ⟨t,ts,rfl,?_,opens_fit ts (n+1) fun i t' hi=>?_⟩
   ·rw [mnFit];exact ⟨rfl,by have:=h 0 t rfl;simpa using this⟩
   ·have:=h (i+1) t' (by simpa using hi)
    rw [show n+1+i=n+(i+1) from by omega];exact this
theorem opens_fit_end (H:List Ty) (ts:List Ty):mnFits (H++ts) (opens H.length ts) ts :=
 opens_fit ts H.length fun i t h=>by rw [List.getElem?_append_right (by omega),Nat.add_sub_cancel_left];exact h
theorem owns_fit {H h:List Ty} {env:List Mn} (he:mnFits H env h):∀ (ts:List Ty) (ss:List Bd),fitBs (hands h ts) ss→mnFits H (owns env ts ss) ts
 | [],ss,hf=>by
   rw [owns]
   ·rw [mnFits]
   ·intros;contradiction
 | t::ts,[],hf=>by
   rw [fitBs] at hf;simp [hands] at hf
 | t::ts,s::ss,hf=>by
   rw [fitBs] at hf
   obtain ⟨h',hs',e,h1,h2⟩:=hf
   simp only [hands,List.map_cons,List.cons.injEq] at e
   obtain ⟨rfl,rfl⟩:=e
   rw [owns,mnFits]
   refine ⟨t,ts,rfl,?_,owns_fit he ts ss h2⟩
   rw [mnFit]
   exact ⟨rfl,h,he,h1⟩
def gfFit (H:List Ty) (f:Gf):Prop:=∃ h,mnFits H f.env h∧fitB h f.yes∧fitB h f.no
structure EvFit (H:List Ty) (b:Bd) (env:List Mn) (st:List Gf):Prop where
 fit:∃ h,mnFits H env h∧fitB h b
 frames:∀ f∈st,gfFit H f
theorem EvFit.back {H:List Ty} {b:Bd} {env:List Mn} {f:Gf} {st:List Gf} (h:EvFit H b env (f::st)) (c:UInt8):EvFit H (if c=116 then f.yes else f.no) f.env st:=by
 obtain ⟨k,k1,k2,k3⟩:=h.frames f (by simp)
 refine ⟨⟨k,k1,?_⟩,fun g hg=>h.frames g (by simp [hg])⟩
 split
 ·exact k2
 ·exact k3
theorem EvFit.ask {H:List Ty} {v:Nat} {ss:List Bd} {y no:Bd} {env:List Mn} {st:List Gf} (h:EvFit H (.ask v ss y no) env st) :
 ∃ m t hh,env[v]? = some m∧mnFit H m t∧mnFits H env hh∧fitBs (hands hh t.args) ss∧fitB hh y∧fitB hh no:=by
 obtain ⟨⟨hh,h1,h2⟩,_⟩:=h
 rw [fitB] at h2
 obtain ⟨t,k1,k2,k3,k4⟩:=h2
 obtain ⟨m,m1,m2⟩:=mnFits_at _ _ h1 v t k1
 exact ⟨m,t,hh,m1,m2,h1,k2,k3,k4⟩
theorem EvFit.call {H:List Ty} {v:Nat} {ss:List Bd} {y no:Bd} {env:List Mn} {st:List Gf} (h:EvFit H (.ask v ss y no) env st) {t:Ty} {b':Bd} {e:List Mn} (he:env[v]? = some (.bd t b' e)) :
 ss.length=t.args.length∧EvFit H b' (e++owns env t.args ss) (⟨y,no,env⟩::st):=by
 obtain ⟨m,t',hh,m1,m2,m3,m4,m5,m6⟩:=h.ask
 rw [he] at m1;simp at m1;subst m1
 rw [mnFit] at m2
 obtain ⟨rfl,k,k1,k2⟩:=m2
 refine ⟨?_,⟨k++t.args,mnFits_append _ _ _ _ k1 (owns_fit m3 _ _ m4),k2⟩,fun f hf=>?_⟩
 ·have:=fitBs_length _ _ m4;rw [hands_length] at this;exact this.symm
 ·rcases List.mem_cons.1 hf with rfl | hf
  ·exact ⟨hh,m3,m5,m6⟩
  ·exact h.frames f hf
theorem EvFit.keep {H:List Ty} {v:Nat} {ss:List Bd} {y no:Bd} {env:List Mn} {st:List Gf} (h:EvFit H (.ask v ss y no) env st) {t:Ty} {o:Nat} (he:env[v]? = some (.op o t)) :
 ss.length=t.args.length∧H[o]? = some t∧(∀ (k:Nat) (a:Ty) (s:Bd),t.args[k]? = some a→ss[k]? = some s→EvFit (H++a.args) s (env++opens H.length a.args) [])∧EvFit H y env st∧EvFit H no env st:=by
 obtain ⟨m,t',hh,m1,m2,m3,m4,m5,m6⟩:=h.ask
 rw [he] at m1;simp at m1;subst m1
 rw [mnFit] at m2
 obtain ⟨rfl,k1⟩:=m2
 have hl:=fitBs_length _ _ m4
 rw [hands_length] at hl
 refine ⟨hl.symm,k1,fun k a s ha hs=>?_,⟨⟨hh,m3,m5⟩,h.frames⟩,⟨⟨hh,m3,m6⟩,h.frames⟩⟩
 obtain ⟨x,hx,hf⟩:=fitBs_at _ _ m4 k s hs
 have hx':x=hh++a.args:=by simp [hands,ha] at hx;exact hx.symm
 subst hx'
 exact ⟨⟨hh++a.args,mnFits_append _ _ _ _ (mnFits_more _ _ m3) (opens_fit_end H a.args),hf⟩,by simp⟩
theorem evSubs_fit {H:List Ty} {env:List Mn} {d:Nat} (ih:∀ (H:List Ty) (l:Nat) (b:Bd) (env:List Mn) (st:List Gf) (out:Bd) (l':Nat),EvFit H b env st→ev d l b env H.length st=some (out,l')→fitB H out) :
 ∀ (ts:List Ty) (ss:List Bd) (l:Nat) (outs:List Bd) (l':Nat),ss.length=ts.length→(∀ (k:Nat) (a:Ty) (s:Bd),ts[k]? = some a→ss[k]? = some s→EvFit (H++a.args) s (env++opens H.length a.args) []) →
   evSubs (ev d) env H.length l ts ss=some (outs,l')→fitBs (hands H ts) outs
 | [],[],l,outs,l',hl,hk,h=>by simp [evSubs] at h;obtain ⟨rfl,rfl⟩:=h;simp [hands,fitBs]
 | [],s::ss,l,outs,l',hl,hk,h=>by simp at hl
 | t::ts,[],l,outs,l',hl,hk,h=>by simp at hl
 | t::ts,s::ss,l,outs,l',hl,hk,h=>by
   simp only [evSubs,Option.bind_eq_bind,Option.bind_eq_some_iff,Prod.exists] at h
   obtain ⟨x,l1,h1,xs,l2,h2,h3⟩:=h
   simp at h3;obtain ⟨rfl,rfl⟩:=h3
   have k0:=hk 0 t s rfl rfl
   have h1':ev d l s (env++opens H.length t.args) (H++t.args).length []=some (x,l1):=by rw [List.length_append];exact h1
   refine ⟨H++t.args,hands H ts,rfl,ih _ _ _ _ _ _ _ k0 h1',evSubs_fit ih ts ss l1 xs l2 (by simpa using hl) (fun k a s' ha hs=>hk (k+1) a s' (by simpa using ha) (by simpa using hs)) h2⟩
theorem ev_fit (d:Nat):∀ (H:List Ty) (l:Nat) (b:Bd) (env:List Mn) (st:List Gf) (out:Bd) (l':Nat),EvFit H b env st→ev d l b env H.length st=some (out,l')→fitB H out:=by
 induction d with
 | zero=>intro H l b env st out l' _ h;simp [ev] at h
 | succ d ih =>
   intro H l b env st out l' hf h
   rw [ev.eq_def] at h
   cases l with
   | zero=>simp at h
   | succ l =>
     simp only at h
     cases b with
     | leaf c =>
       simp only at h
       split at h
       ·simp at h;obtain ⟨rfl,_⟩:=h;simp [fitB]
       ·cases st with
        | nil=>simp at h;obtain ⟨rfl,_⟩:=h;simp [fitB]
        | cons f st'=>exact ih _ _ _ _ _ _ _ (hf.back c) h
     | ask v ss y no =>
       simp only at h
       cases hv:env[v]? with
       | none=>rw [hv] at h;simp at h
       | some m =>
         rw [hv] at h
         cases m with
         | bd t b' e=>exact ih _ _ _ _ _ _ _ (hf.call hv).2 h
         | op o t =>
           simp only [Option.bind_eq_bind,Option.bind_eq_some_iff,Prod.exists] at h
           obtain ⟨xs,l1,h1,x,l2,h2,z,l3,h3,h4⟩:=h
           simp at h4;obtain ⟨rfl,_⟩:=h4
           obtain ⟨k1,k2,k3,k4,k5⟩:=hf.keep hv
           rw [fitB]
           exact ⟨t,k2,evSubs_fit ih _ _ _ _ _ k1 k3 h1,ih _ _ _ _ _ _ _ k4 h2,ih _ _ _ _ _ _ _ k5 h3⟩
end Go.Proofs.YtapjaflnmklmeaaGreatDoor
namespace Go.Proofs.YtapjaflnmklmeaaGreatDoor
open Go.RowKit
mutual
def wfB:Bd→Prop
 | .leaf c=>c=116∨c=102∨c=117
 | .ask _ ss y n=>wfBs ss∧wfB y∧wfB n
def wfBs:List Bd→Prop
 | []=>True
 | b::bs=>wfB b∧wfBs bs
end
theorem wfBs_append:∀ (xs ys:List Bd),wfBs xs→wfBs ys→wfBs (xs++ys)
 | [],ys,_,h=>h
 | x::xs,ys,h,k=>by rw [wfBs] at h;exact ⟨h.1,wfBs_append xs ys h.2 k⟩
theorem wfBs_at:∀ (xs:List Bd),wfBs xs→∀ (k:Nat) (b:Bd),xs[k]? = some b→wfB b
 | [],_,k,b,h=>by simp at h
 | x::xs,hw,k,b,h=>by
   rw [wfBs] at hw
   cases k with
   | zero=>simp at h;subst h;exact hw.1
   | succ k=>exact wfBs_at xs hw.2 k b (by simpa using h)
theorem dec_ne (n:Nat):dec n≠[]:=by
 by_cases h:n<10
 ·rw [dec_small h];simp
 ·rw [dec_great h];simp
theorem dig_digit {r:Nat} (h:r<10):dig (digit r)=true:=by
 rcases (by omega:r=0∨r=1∨r=2∨r=3∨r=4∨r=5∨r=6∨r=7∨r=8∨r=9) with rfl | rfl | rfl | rfl | rfl | rfl | rfl | rfl | rfl | rfl <;> rfl
theorem digit_val {r:Nat} (h:r<10):(digit r).toNat-48=r:=by
 rcases (by omega:r=0∨r=1∨r=2∨r=3∨r=4∨r=5∨r=6∨r=7∨r=8∨r=9) with rfl | rfl | rfl | rfl | rfl | rfl | rfl | rfl | rfl | rfl <;> rfl
theorem dec_all (n:Nat):∀ c∈dec n,dig c=true:=by
 induction n using Nat.strongRecOn with
 | _ n ih =>
   by_cases h:n<10
   ·rw [dec_small h];intro c hc;simp at hc;subst hc;exact dig_digit h
   ·rw [dec_great h]
    intro c hc
    rcases List.mem_append.1 hc with hc | hc
    ·exact ih (n / 10) (Nat.div_lt_self (by omega) (by omega)) c hc
    ·simp at hc;subst hc;exact dig_digit (Nat.mod_lt _ (by omega))
theorem dec_val (n:Nat):valOf (dec n)=n:=by
 induction n using Nat.strongRecOn with
 | _ n ih =>
   by_cases h:n<10
   ·rw [dec_small h];unfold valOf;simp only [List.foldl_cons,List.foldl_nil];rw [digit_val h];omega
   ·rw [dec_great h,valOf_snoc,ih (n / 10) (Nat.div_lt_self (by omega) (by omega)),digit_val (Nat.mod_lt _ (by omega))];omega
theorem dec_head (n:Nat):1<(dec n).length→(dec n).head?≠some 48:=by
 induction n using Nat.strongRecOn with
 | _ n ih =>
   by_cases h:n<10
   ·rw [dec_small h];simp
   ·rw [dec_great h]
    intro _
    have hne:=dec_ne (n / 10)
    obtain ⟨c,cs,hc⟩:∃ c cs,dec (n / 10)=c::cs:=by
     cases hd:dec (n / 10) with
     | nil=>exact absurd hd hne
     | cons c cs=>exact ⟨c,cs,rfl⟩
    rw [hc]
    simp only [List.cons_append,List.head?_cons,ne_eq,Option.some.injEq]
    by_cases h1:1<(dec (n / 10)).length
    ·have:=ih (n / 10) (Nat.div_lt_self (by omega) (by omega)) h1
     rw [hc] at this;simpa using this
    ·have h10:n / 10<10:=by
      rcases Nat.lt_or_ge (n / 10) 10 with h' | h'
      ·exact h'
      ·exfalso;apply h1
       rw [dec_great (by omega)]
       have:=List.length_pos_iff.2 (dec_ne (n / 10 / 10))
       simp;omega
     rw [dec_small h10] at hc
     simp at hc
     obtain ⟨rfl,_⟩:=hc
     intro e
     have hv:=digit_val h10
     rw [e] at hv
     have:(48:UInt8).toNat-48=0:=rfl
     omega
theorem digsOf_dec {v:Nat} (h:v<10000) (r:Bs):digsOf (dec v++32::r)=dec v:=by
 have h4:(dec v).length≤4:=dec_length 3 v (by omega)
 unfold digsOf
 have key:∀ (ds:Bs) (m:Nat),ds.length≤m→(∀ c∈ds,dig c=true)→((ds++32::r).take m).takeWhile dig=ds:=by
  intro ds
  induction ds with
  | nil =>
    intro m _ _
    cases m with
    | zero=>simp
    | succ m=>simp [dig]
  | cons d ds ih =>
    intro m hm hd
    cases m with
    | zero=>simp at hm
    | succ m =>
      simp only [List.cons_append,List.take_succ_cons,List.takeWhile_cons]
      rw [if_pos (hd d (by simp)),ih m (by simpa using hm) (fun c hc=>hd c (by simp [hc]))]
 exact key _ 4 h4 (dec_all v)
theorem specNum_dec {v:Nat} (h:v<10000) (r:Bs):specNum (dec v++32::r)=some (v,(dec v).length):=by
 unfold specNum
 rw [digsOf_dec h,dec_val,if_neg]
 rintro (h1 | ⟨h1,h2⟩)
 ·exact dec_ne v h1
 ·have:=dec_head v h1
  apply this
  cases hd:dec v with
  | nil=>exact absurd hd (dec_ne v)
  | cons c cs=>rw [hd] at h2;simpa using h2
theorem textB_ask (v:Nat) (ss:List Bd) (y n:Bd):textB (.ask v ss y n)=40::(dec v++(textBs (ss++[y,n])++[41])):=by
 rw [textB,textBs_append];simp [textBs]
theorem askOf_parts (v:Nat) (ss:List Bd) (y n:Bd):askOf v ss.length (ss++[y,n])=some (.ask v ss y n):=by
 unfold askOf
 rw [List.drop_left,List.take_left]
theorem specParts_text {rd:RdS}:∀ (ps:List Bd) (hs:List (List Ty)) (r:Bs),hs.length=ps.length→(∀ (k:Nat) (h:List Ty) (p:Bd) (r:Bs),hs[k]? = some h→ps[k]? = some p→rd h (textB p++r)=some (p,r))→specParts rd hs (textBs ps++r)=some (ps,r)
 | [],[],r,_,_=>by simp [specParts,textBs]
 | [],h::hs,r,hl,_=>by simp at hl
 | p::ps,[],r,hl,_=>by simp at hl
 | p::ps,h::hs,r,hl,hp=>by
   rw [textBs,specParts]
   have h0:=hp 0 h p (textBs ps++r) rfl rfl
   have hc:cut [32] ([32]++textB p++textBs ps++r)=some (textB p++(textBs ps++r)):=by
    rw [List.append_assoc,List.append_assoc];exact cut_app [32] _
   simp only [specPart,hc,Option.bind_eq_bind,Option.bind_some,h0,specParts_text ps hs r (by simpa using hl) (fun k h' p' r' hh hk=>hp (k+1) h' p' r' (by simpa using hh) (by simpa using hk))]
theorem depthBs_mem {ts:List Bd} {t:Bd} (h:t∈ts):1+depthB t≤depthBs ts:=by
 induction ts with
 | nil=>simp at h
 | cons x xs ih =>
   rcases List.mem_cons.1 h with rfl | h
   ·simp only [depthBs];omega
   ·have:=ih h;simp only [depthBs];omega
theorem rdN_text (e:Nat):∀ (hand:List Ty) (b:Bd) (r:Bs),fitB hand b→wfB b→depthB b<e→HandOk e hand→rdN e hand (textB b++r)=some (b,r):=by
 induction e with
 | zero=>intro hand b r _ _ h;omega
 | succ e ih =>
   intro hand b r hf hw hd hh
   cases b with
   | leaf c =>
     rw [wfB] at hw
     rw [textB]
     simp only [List.cons_append,List.nil_append,rdN]
     rw [if_pos hw]
   | ask v ss y n =>
     obtain ⟨t,ht,hfp,hsl⟩:=fit_parts hf
     rw [wfB] at hw
     have hwp:wfBs (ss++[y,n]):=wfBs_append _ _ hw.1 ⟨hw.2.1,hw.2.2,trivial⟩
     have hv:v<10000:=by
      have h1:=(List.getElem?_eq_some_iff.1 ht).1
      have:=hh.2;omega
     rw [depthB_parts] at hd
     have hnum:specNum (dec v++(textBs (ss++[y,n])++[41])++r)=some (v,(dec v).length):=by
      obtain ⟨q,hq⟩:∃ q,dec v++(textBs (ss++[y,n])++[41])++r=dec v++32::q:=by
       cases ss with
       | nil=>exact ⟨textB y++textBs [n]++[41]++r,by simp [textBs]⟩
       | cons s ss=>exact ⟨textB s++textBs (ss++[y,n])++[41]++r,by simp [textBs]⟩
      rw [hq];exact specNum_dec hv q
     rw [textB_ask,List.cons_append,rdN.eq_def]
     simp only
     rw [if_neg (by decide),if_neg (by decide),hnum]
     simp only [ht]
     have hdrop:(dec v++(textBs (ss++[y,n])++[41])++r).drop (dec v).length=textBs (ss++[y,n])++([41]++r):=by
      rw [List.append_assoc,List.drop_left,List.append_assoc]
     have hps:specParts (rdN e) (allHands hand t) (textBs (ss++[y,n])++([41]++r))=some (ss++[y,n],[41]++r):=by
      refine specParts_text _ _ _ (fitBs_length _ _ hfp) fun k h p r' hk hp=>?_
      obtain ⟨h',hk',hf'⟩:=fitBs_at _ _ hfp k p hp
      rw [hk] at hk';simp at hk';subst hk'
      have hmem:p∈ss++[y,n]:=List.mem_of_getElem? hp
      have hdp:=depthBs_mem hmem
      refine ih h p r' hf' (wfBs_at _ hwp k p hp) (by have:depthBs (ss++[y,n])<e+1:=hd;omega) ?_
      rcases Nat.lt_or_ge k t.args.length with hka | hka
      ·obtain ⟨a,ha⟩:∃ a,t.args[k]? = some a:=⟨t.args[k],by simp [hka]⟩
       rw [allHands_kid ha] at hk;simp at hk;subst hk
       exact hh.next ht (List.mem_of_getElem? ha)
      ·have hkl:k<t.args.length+2:=by
        have:=(List.getElem?_eq_some_iff.1 hk).1
        rwa [allHands_length] at this
       rw [allHands_yes hka hkl] at hk;simp at hk;subst hk
       have:=hh.same;rwa [List.append_nil] at this
     rw [hdrop,hps]
     simp only [Option.bind_eq_bind,Option.bind_some,cut_app]
     rw [← hsl,askOf_parts]
     rfl
theorem specParts_mono {rd rd':RdS} (h:∀ hand l x,rd hand l=some x→rd' hand l=some x):∀ (hs:List (List Ty)) (l:Bs) (x:List Bd×Bs),specParts rd hs l=some x→specParts rd' hs l=some x
 | [],l,x,hx=>by simpa [specParts] using hx
 | a::hs,l,x,hx=>by
   simp only [specParts,specPart,Option.bind_eq_bind,Option.bind_eq_some_iff,Prod.exists] at hx ⊢
   obtain ⟨b,l1,⟨l0,h0,h1⟩,bs,l2,h2,h3⟩:=hx
   exact ⟨b,l1,⟨l0,h0,h _ _ _ h1⟩,bs,l2,specParts_mono h hs l1 _ h2,h3⟩
theorem rdN_mono (e:Nat):∀ (e':Nat) (hand:List Ty) (l:Bs) (x:Bd×Bs),e≤e'→rdN e hand l=some x→rdN e' hand l=some x:=by
 induction e with
 | zero=>intro e' hand l x _ h;simp [rdN] at h
 | succ e ih =>
   intro e' hand l x he h
   cases e' with
   | zero=>omega
   | succ e' =>
     cases l with
     | nil=>simp [rdN] at h
     | cons c m =>
       simp only [rdN] at h ⊢
       split at h
       ·rename_i hc;rw [if_pos hc];exact h
       ·rename_i hc
        rw [if_neg hc]
        split at h
        ·simp at h
        ·rename_i h40
         rw [if_neg h40]
         cases hn:specNum m with
         | none=>rw [hn] at h;simp at h
         | some vk =>
           obtain ⟨v,k⟩:=vk
           rw [hn] at h
           simp only at h ⊢
           cases ht:hand[v]? with
           | none=>rw [ht] at h;simp at h
           | some t =>
             rw [ht] at h
             simp only [Option.bind_eq_bind,Option.bind_eq_some_iff,Prod.exists] at h ⊢
             obtain ⟨ps,l1,h1,h2⟩:=h
             exact ⟨ps,l1,specParts_mono (fun a b c d=>ih e' a b c (by omega) d) _ _ _ h1,h2⟩
theorem specParts_each {rd:RdS} {P:Bd→Prop} (h:∀ hand l b r,rd hand l=some (b,r)→P b):∀ (hs:List (List Ty)) (l:Bs) (ps:List Bd) (r:Bs),specParts rd hs l=some (ps,r)→∀ p∈ps,P p
 | [],l,ps,r,hx=>by simp [specParts] at hx;obtain ⟨rfl,_⟩:=hx;simp
 | a::hs,l,ps,r,hx=>by
   simp only [specParts,specPart,Option.bind_eq_bind,Option.bind_eq_some_iff,Prod.exists] at hx
   obtain ⟨b,l1,⟨l0,h0,h1⟩,bs,l2,h2,h3⟩:=hx
   simp at h3;obtain ⟨rfl,rfl⟩:=h3
   intro p hp
   rcases List.mem_cons.1 hp with rfl | hp
   ·exact h _ _ _ _ h1
   ·exact specParts_each h hs l1 bs l2 h2 p hp
theorem askOf_some {v n:Nat} {ps:List Bd} {b:Bd} (h:askOf v n ps=some b):∃ ss y no,b=.ask v ss y no∧ps=ss++[y,no]:=by
 unfold askOf at h
 split at h
 ·rename_i y no hd
  simp at h;subst h
  exact ⟨_,_,_,rfl,by rw [← hd,List.take_append_drop]⟩
 ·simp at h
theorem wfBs_of:∀ (ps:List Bd),(∀ p∈ps,wfB p)→wfBs ps
 | [],_=>trivial
 | p::ps,h=>⟨h p (by simp),wfBs_of ps fun q hq=>h q (by simp [hq])⟩
theorem wfBs_split:∀ (xs ys:List Bd),wfBs (xs++ys)→wfBs xs∧wfBs ys
 | [],ys,h=>⟨trivial,h⟩
 | x::xs,ys,h=>by
   simp only [List.cons_append] at h;rw [wfBs] at h
   have:=wfBs_split xs ys h.2
   exact ⟨⟨h.1,this.1⟩,this.2⟩
theorem rdN_wf (e:Nat):∀ (hand:List Ty) (l:Bs) (b:Bd) (r:Bs),rdN e hand l=some (b,r)→wfB b∧depthB b<e:=by
 induction e with
 | zero=>intro hand l b r h;simp [rdN] at h
 | succ e ih =>
   intro hand l b r h
   cases l with
   | nil=>simp [rdN] at h
   | cons c m =>
     simp only [rdN] at h
     split at h
     ·rename_i hc;simp at h;obtain ⟨rfl,_⟩:=h;exact ⟨hc,by simp [depthB]⟩
     ·split at h
      ·simp at h
      ·split at h
       ·simp at h
       ·split at h
        ·simp at h
        ·simp only [Option.bind_eq_bind,Option.bind_eq_some_iff,Prod.exists] at h
         obtain ⟨ps,l1,h1,l2,h2,b',h3,h4⟩:=h
         simp at h4;obtain ⟨rfl,_⟩:=h4
         obtain ⟨ss,y,no,rfl,rfl⟩:=askOf_some h3
         have k1:=specParts_each (P:=fun b=>wfB b∧depthB b<e) (fun hand l b r h=>ih hand l b r h) _ _ _ _ h1
         have k2:=wfBs_split _ _ (wfBs_of _ fun p hp=>(k1 p hp).1)
         refine ⟨⟨k2.1,k2.2.1,k2.2.2.1⟩,?_⟩
         rw [depthB_parts]
         have key:∀ (qs:List Bd),(∀ q∈qs,depthB q<e)→depthBs qs≤e:=by
          intro qs
          induction qs with
          | nil=>intro _;simp [depthBs]
          | cons q qs ihq =>
            intro hq
            have h1:=hq q (by simp)
            have h2:=ihq fun x hx=>hq x (by simp [hx])
            simp only [depthBs];omega
         exact Nat.lt_succ_of_le (key _ fun q hq=>(k1 q hq).2)
mutual
theorem textB_short:∀ (b:Bd) (hand:List Ty) (e:Nat),fitB hand b→depthB b<e→HandOk e hand→2*(textB b).length+7≤9*sizeB b
 | .leaf c,hand,e,_,_,_=>by simp [textB,sizeB]
 | .ask v ss y n,hand,0,_,h,_=>by omega
 | .ask v ss y n,hand,e+1,hf,hd,hh=>by
   have hf':=hf
   rw [fitB] at hf
   obtain ⟨t,ht,h1,h2,h3⟩:=hf
   have hv:v<10000:=by
    have h1:=(List.getElem?_eq_some_iff.1 ht).1
    have:=hh.2;omega
   have h4:(dec v).length≤4:=dec_length 3 v (by omega)
   have hs:HandOk e hand:=by have:=hh.same;rwa [List.append_nil] at this
   simp only [depthB] at hd
   have k1:=textBs_short ss t.args hand e h1 (by omega) (fun a ha=>hh.next ht ha)
   have k2:=textB_short y hand e h2 (by omega) hs
   have k3:=textB_short n hand e h3 (by omega) hs
   rw [textB_ask,textBs_append]
   simp only [textBs,sizeB,List.length_append,List.length_cons,List.length_nil]
   omega
theorem textBs_short:∀ (bs:List Bd) (ts:List Ty) (hand:List Ty) (e:Nat),fitBs (hands hand ts) bs→depthBs bs≤e→(∀ a∈ts,HandOk e (hand++a.args))→2*(textBs bs).length≤9*sizeBs bs
 | [],ts,hand,e,_,_,_=>by simp [textBs]
 | b::bs,ts,hand,e,hf,hd,hh=>by
   rw [fitBs] at hf
   obtain ⟨h',hs',e',h1,h2⟩:=hf
   cases ts with
   | nil=>simp [hands] at e'
   | cons t ts =>
     simp only [hands,List.map_cons,List.cons.injEq] at e'
     obtain ⟨rfl,rfl⟩:=e'
     simp only [depthBs] at hd
     have k1:=textB_short b (hand++t.args) e h1 (by omega) (hh t (by simp))
     have k2:=textBs_short bs ts hand e h2 (by omega) (fun a ha=>hh a (by simp [ha]))
     simp only [textBs,sizeBs,List.length_append,List.length_cons,List.length_nil]
     omega
end
theorem HandOk.less {d e:Nat} {levels:List Ty} (h:HandOk e levels) (hd:d≤e):HandOk d levels:=⟨h.1,by have:=h.2;omega⟩
theorem specStrat_text {t:Ty} (ht:atomsT t≤15) {b:Bd} (hf:fitB t.args b) (hw:wfB b) (hs:sizeB b≤200):specStrat (textT t) (textB b)=if depthB b≤100 then some b else none:=by
 have hd:=depthB_lt _ b (Nat.le_refl _)
 have hh:HandOk 201 t.args:=by
  have h1:=handOk_of ht
  have h2:=atomsT_mk t
  have h3:=length_le_atomsTs t.args
  exact ⟨h1.1,by omega⟩
 have hl:=textB_short b t.args 201 hf (by omega) hh
 unfold specStrat
 rw [specType_text ht]
 simp only
 rw [if_neg (by simp;omega)]
 by_cases h100:depthB b≤100
 ·have:=rdN_text 101 t.args b [] hf hw (by omega) (hh.less (by omega))
  rw [List.append_nil] at this
  rw [this,if_pos h100]
  simp [hs]
 ·rw [if_neg h100]
  cases hq:rdN 101 t.args (textB b) with
  | none=>rfl
  | some x =>
    obtain ⟨b',r⟩:=x
    have h1:=rdN_mono 101 201 _ _ _ (by omega) hq
    have h2:=rdN_text 201 t.args b [] hf hw (by omega) hh
    rw [List.append_nil] at h2
    rw [h2] at h1
    simp at h1
    obtain ⟨rfl,rfl⟩:=h1
    have:=(rdN_wf _ _ _ _ _ hq).2
    omega
end Go.Proofs.YtapjaflnmklmeaaGreatDoor
namespace Go.Proofs.YtapjaflnmklmeaaGreatDoor
open Go.RowKit
theorem cut_eq {p l r:Bs} (h:cut p l=some r):l=p++r:=by
 unfold cut at h
 split at h
 ·rename_i hp
  simp at h
  obtain ⟨q,hq⟩:=List.isPrefixOf_iff_prefix.1 hp
  subst hq
  simp at h;rw [h]
 ·simp at h
structure Good (t:Ty) (b:Bd):Prop where
 atoms:atomsT t≤15
 fit:fitB t.args b
 wf:wfB b
 size:sizeB b≤200
 depth:depthB b≤100
theorem specStrat_of_good {t:Ty} {b:Bd} (h:Good t b):specStrat (textT t) (textB b)=some b:=by
 rw [specStrat_text h.atoms h.fit h.wf h.size,if_pos h.depth]
theorem rdK_canon (d:Nat):∀ (l:Bs) (t:Ty) (r:Bs),rdK d l=some (t,r)→l=textT t++r:=by
 induction d with
 | zero =>
   intro l t r h
   rcases cut_cases [98] l with hc | ⟨r',hc⟩
   ·rw [rdK_zero hc] at h;simp at h
   ·rw [rdK_b hc] at h;simp at h;obtain ⟨rfl,rfl⟩:=h;rw [textT_nil];exact cut_eq hc.out
 | succ d ih =>
   intro l t r h
   rcases cut_cases [98] l with hc | ⟨r',hc⟩
   ·rw [rdK_succ hc] at h
    simp only [Option.bind_eq_bind,Option.bind_eq_some_iff,Prod.exists] at h
    obtain ⟨r1,h1,a,r2,h2,r3,h3,b,r4,h4,r5,h5,h6⟩:=h
    simp at h6;obtain ⟨rfl,rfl⟩:=h6
    cases b with
    | mk bs =>
    rw [arrowT,textT_cons,cut_eq h1,ih _ _ _ h2,cut_eq h3,ih _ _ _ h4,cut_eq h5]
    simp [Ty.args]
   ·rw [rdK_b hc] at h;simp at h;obtain ⟨rfl,rfl⟩:=h;rw [textT_nil];exact cut_eq hc.out
theorem specType_canon {l:Bs} (h:(specType l).2=true):l=textT (specType l).1∧atomsT (specType l).1≤15:=by
 refine ⟨?_,specType_ok h⟩
 unfold specType at h ⊢
 split at h
 ·simp at h
 ·rename_i hl
  rw [if_neg hl]
  cases hq:rdS 21 l with
  | none=>rw [hq] at h;simp at h
  | some x =>
    obtain ⟨t,rest⟩:=x
    rw [hq] at h
    simp at h
    obtain ⟨h1,h2⟩:=h
    have hq':rdK 20 l=some (t,rest):=hq
    have hr:=rdK_canon _ _ _ _ hq'
    simp only
    have h3:rest=[]:=by simpa using h1
    rw [h3,List.append_nil] at hr;exact hr
mutual
def wfM:Mn→Prop
 | .op _ _=>True
 | .bd _ b e=>wfB b∧wfMs e
def wfMs:List Mn→Prop
 | []=>True
 | m::ms=>wfM m∧wfMs ms
end
theorem wfMs_append:∀ (xs ys:List Mn),wfMs xs→wfMs ys→wfMs (xs++ys)
 | [],ys,_,h=>h
 | x::xs,ys,h,k=>by rw [wfMs] at h;exact ⟨h.1,wfMs_append xs ys h.2 k⟩
theorem wfMs_at:∀ (xs:List Mn),wfMs xs→∀ (k:Nat) (m:Mn),xs[k]? = some m→wfM m
 | [],_,k,b,h=>by simp at h
 | x::xs,hw,k,b,h=>by
   rw [wfMs] at hw
   cases k with
   | zero=>simp at h;subst h;exact hw.1
   | succ k=>exact wfMs_at xs hw.2 k b (by simpa using h)
theorem wfMs_opens:∀ (ts:List Ty) (n:Nat),wfMs (opens n ts)
 | [],n=>trivial
 | t::ts,n=>⟨trivial,wfMs_opens ts (n+1)⟩
theorem wfMs_owns {env:List Mn} (he:wfMs env):∀ (ts:List Ty) (ss:List Bd),wfBs ss→wfMs (owns env ts ss)
 | [],ss,_=>by rw [owns];· trivial
               ·intros;contradiction
 | t::ts,[],_=>by rw [owns];· trivial
                  ·intros;contradiction
 | t::ts,s::ss,h=>by
   rw [wfBs] at h
   rw [owns]
   exact ⟨⟨h.1,he⟩,wfMs_owns he ts ss h.2⟩
def wfG (f:Gf):Prop:=wfB f.yes∧wfB f.no∧wfMs f.env
theorem evSubs_wf {d n:Nat} {env:List Mn} (he:wfMs env) (ih:∀ (l:Nat) (b:Bd) (env:List Mn) (n:Nat) (st:List Gf) (out:Bd) (l':Nat),wfB b→wfMs env→(∀ f∈st,wfG f)→ev d l b env n st=some (out,l')→wfB out) :
 ∀ (ts:List Ty) (ss:List Bd) (l:Nat) (outs:List Bd) (l':Nat),wfBs ss→evSubs (ev d) env n l ts ss=some (outs,l')→wfBs outs
 | [],ss,l,outs,l',_,h=>by simp [evSubs] at h;obtain ⟨rfl,_⟩:=h;trivial
 | t::ts,[],l,outs,l',_,h=>by simp [evSubs] at h;obtain ⟨rfl,_⟩:=h;trivial
 | t::ts,s::ss,l,outs,l',hs,h=>by
   rw [wfBs] at hs
   simp only [evSubs,Option.bind_eq_bind,Option.bind_eq_some_iff,Prod.exists] at h
   obtain ⟨x,l1,h1,xs,l2,h2,h3⟩:=h
   simp at h3;obtain ⟨rfl,rfl⟩:=h3
   exact ⟨ih _ _ _ _ _ _ _ hs.1 (wfMs_append _ _ he (wfMs_opens _ _)) (by simp) h1,evSubs_wf he ih ts ss l1 xs l2 hs.2 h2⟩
theorem ev_wf (d:Nat):∀ (l:Nat) (b:Bd) (env:List Mn) (n:Nat) (st:List Gf) (out:Bd) (l':Nat),wfB b→wfMs env→(∀ f∈st,wfG f)→ev d l b env n st=some (out,l')→wfB out:=by
 induction d with
 | zero=>intro l b env n st out l' _ _ _ h;simp [ev] at h
 | succ d ih =>
   intro l b env n st out l' hb he hs h
   rw [ev.eq_def] at h
   cases l with
   | zero=>simp at h
   | succ l =>
     simp only at h
     cases b with
     | leaf c =>
       simp only at h
       split at h
       ·simp at h;obtain ⟨rfl,_⟩:=h;exact hb
       ·cases st with
        | nil=>simp at h;obtain ⟨rfl,_⟩:=h;exact hb
        | cons f st' =>
          obtain ⟨k1,k2,k3⟩:=hs f (by simp)
          refine ih _ _ _ _ _ _ _ ?_ k3 (fun g hg=>hs g (by simp [hg])) h
          split
          ·exact k1
          ·exact k2
     | ask v ss y no =>
       rw [wfB] at hb
       simp only at h
       cases hv:env[v]? with
       | none=>rw [hv] at h;simp at h
       | some m =>
         rw [hv] at h
         have hm:=wfMs_at _ he _ _ hv
         cases m with
         | bd t b' e =>
           rw [wfM] at hm
           refine ih _ _ _ _ _ _ _ hm.1 (wfMs_append _ _ hm.2 (wfMs_owns he _ _ hb.1)) (fun f hf=>?_) h
           rcases List.mem_cons.1 hf with rfl | hf
           ·exact ⟨hb.2.1,hb.2.2,he⟩
           ·exact hs f hf
         | op o t =>
           simp only [Option.bind_eq_bind,Option.bind_eq_some_iff,Prod.exists] at h
           obtain ⟨xs,l1,h1,x,l2,h2,z,l3,h3,h4⟩:=h
           simp at h4;obtain ⟨rfl,_⟩:=h4
           exact ⟨evSubs_wf he ih _ _ _ _ _ hb.1 h1,ih _ _ _ _ _ _ _ hb.2.1 he hs h2,ih _ _ _ _ _ _ _ hb.2.2 he hs h3⟩
def become (b:Bd) (env:List Mn) (n:Nat):Option Bd:=match ev 20000 20000 b env n [] with
 | some (out,_)=>if sizeB out≤200∧depthB out≤100 then some out else none
 | none=>none
def writes (b:Bd) (env:List Mn) (n:Nat):Option Bd:=(evN 20000 200 20000 b env n []).map (·.1)
theorem writes_eq (b:Bd) (env:List Mn) (n:Nat):writes b env n=match ev 20000 20000 b env n [] with
 | some (out,_)=>if sizeB out≤200 then some out else none
 | none=>none:=by
 unfold writes
 rw [evN_eq]
 cases ev 20000 20000 b env n [] with
 | none=>rfl
 | some x =>
   obtain ⟨out,l⟩:=x
   simp only [capN]
   split <;> rfl
end Go.Proofs.YtapjaflnmklmeaaGreatDoor
namespace Go.Proofs.YtapjaflnmklmeaaGreatDoor
open Go.RowKit
theorem Ty_atoms_cons {a:Ty} {rest:List Ty} {t:Ty} (h:t.args=a::rest):atomsT t=1+atomsT a+atomsT (.mk rest):=by
 cases t with
 | mk ts=>simp only [Ty.args] at h;subst h;exact atomsT_cons a rest
end Go.Proofs.YtapjaflnmklmeaaGreatDoor

import Derived.Test.YtapjaflnmklmeaaGreatDoorP14
/- Plain words: ComposeOf: impl's and the reference's are the same. -/
namespace Go.Proofs.YtapjaflnmklmeaaGreatDoor
open Go.RowKit
end Go.Proofs.YtapjaflnmklmeaaGreatDoor
namespace Go.Proofs.YtapjaflnmklmeaaGreatDoor
open Go.RowKit
mutual
def eta:Ty→Nat→Nat→Bd
 | .mk ts,v,n=>.ask v (etas ts n (n+ts.length)) (.leaf 116) (.leaf 102)
def etas:List Ty→Nat→Nat→List Bd
 | [],_,_=>[]
 | t::ts,v,n=>eta t v n::etas ts (v+1) n
end
theorem eta_eq (t:Ty) (v n:Nat):eta t v n=.ask v (etas t.args n (n+t.args.length)) (.leaf 116) (.leaf 102):=by cases t;rw [eta];rfl
theorem etas_length:∀ (ts:List Ty) (v n:Nat),(etas ts v n).length=ts.length
 | [],_,_=>by simp [etas]
 | t::ts,v,n=>by rw [etas,List.length_cons,etas_length ts,List.length_cons]
theorem etas_at:∀ (ts:List Ty) (v n k:Nat) (t:Ty),ts[k]? = some t→(etas ts v n)[k]? = some (eta t (v+k) n)
 | [],v,n,k,t,h=>by simp at h
 | a::ts,v,n,k,t,h=>by
   rw [etas]
   cases k with
   | zero=>simp at h;subst h;simp
   | succ k=>simp only [List.getElem?_cons_succ] at *;rw [etas_at ts (v+1) n k t h,show v+1+k=v+(k+1) from by omega]
mutual
theorem eta_fit:∀ (t:Ty) (v n:Nat) (hand:List Ty),hand.length=n→hand[v]? = some t→fitB (hand++t.args) (eta t v n)
 | .mk ts,v,n,hand,hn,hv=>by
   rw [eta,fitB]
   have hlt:=(List.getElem?_eq_some_iff.1 hv).1
   refine ⟨.mk ts,by rw [List.getElem?_append_left hlt];exact hv,?_,by simp [fitB],by simp [fitB]⟩
   refine etas_fit ts n (n+ts.length) (hand++ts) (by simp [hn]) fun j t hj=>?_
   subst hn
   rw [List.getElem?_append_right (by omega),Nat.add_sub_cancel_left];exact hj
theorem etas_fit:∀ (ts:List Ty) (v n:Nat) (hand:List Ty),hand.length=n→(∀ j t,ts[j]? = some t→hand[v+j]? = some t)→fitBs (hands hand ts) (etas ts v n)
 | [],v,n,hand,_,_=>by rw [etas,fitBs];rfl
 | t::ts,v,n,hand,hn,hv=>by
   rw [etas,fitBs]
   refine ⟨hand++t.args,hands hand ts,rfl,eta_fit t v n hand hn (by simpa using hv 0 t rfl),etas_fit ts (v+1) n hand hn fun j t' hj=>?_⟩
   rw [show v+1+j=v+(j+1) from by omega]
   exact hv (j+1) t' (by simpa using hj)
end
mutual
theorem eta_wf:∀ (t:Ty) (v n:Nat),wfB (eta t v n)
 | .mk ts,v,n=>by rw [eta,wfB];exact ⟨etas_wf ts n _,.inl rfl,.inr (.inl rfl)⟩
theorem etas_wf:∀ (ts:List Ty) (v n:Nat),wfBs (etas ts v n)
 | [],v,n=>by rw [etas];trivial
 | t::ts,v,n=>by rw [etas,wfBs];exact ⟨eta_wf t v n,etas_wf ts (v+1) n⟩
end
mutual
theorem eta_size:∀ (t:Ty) (v n:Nat),sizeB (eta t v n)≤3*atomsT t∧depthB (eta t v n)≤atomsT t
 | .mk ts,v,n=>by
   have:=etas_size ts n (n+ts.length)
   rw [eta,sizeB,depthB,atomsT]
   simp only [sizeB,depthB] at *
   omega
theorem etas_size:∀ (ts:List Ty) (v n:Nat),sizeBs (etas ts v n)≤3*atomsTs ts∧depthBs (etas ts v n)≤atomsTs ts
 | [],v,n=>by simp [etas,sizeBs,depthBs]
 | t::ts,v,n=>by
   have h1:=eta_size t v n
   have h2:=etas_size ts (v+1) n
   rw [etas,sizeBs,depthBs,atomsTs]
   omega
end
def cost:Bd→Nat
 | .leaf c=>if c=117 then 1 else 2
 | .ask _ ss y n=>4+costs ss+cost y+cost n
where costs:List Bd→Nat
 | []=>0
 | s::ss=>1+cost s+costs ss
theorem ev_bd {d l v n:Nat} {ss:List Bd} {y no b':Bd} {t:Ty} {env e:List Mn} {st:List Gf} (h:env[v]? = some (.bd t b' e)) :
 ev (d+1) (l+1) (.ask v ss y no) env n st=ev d l b' (e++owns env t.args ss) n (⟨y,no,env⟩::st):=by rw [ev.eq_def];simp only [h]
theorem ev_op {d l v n o:Nat} {ss:List Bd} {y no:Bd} {t:Ty} {env:List Mn} {st:List Gf} (h:env[v]? = some (.op o t)) :
 ev (d+1) (l+1) (.ask v ss y no) env n st=(evSubs (ev d) env n l t.args ss).bind fun x=>(ev d x.2 y env n st).bind fun z=>(ev d z.2 no env n st).bind fun u=>some (.ask o x.1 z.1 u.1,u.2):=by rw [ev.eq_def];simp only [h];rfl
theorem ev_u {d l n:Nat} {env:List Mn} {st:List Gf}:ev (d+1) (l+1) (.leaf 117) env n st=some (.leaf 117,l):=by rw [ev.eq_def];simp
theorem ev_end {d l n:Nat} {c:UInt8} {env:List Mn}:ev (d+1) (l+1) (.leaf c) env n []=some (.leaf c,l):=by rw [ev.eq_def];simp
theorem ev_back {d l n:Nat} {c:UInt8} (h:c≠117) {env:List Mn} {f:Gf} {st:List Gf}:ev (d+1) (l+1) (.leaf c) env n (f::st)=ev d l (if c=116 then f.yes else f.no) f.env n st:=by rw [ev.eq_def];simp only [if_neg h]
theorem owns_at {env:List Mn}:∀ (ts:List Ty) (ss:List Bd) (k:Nat) (t:Ty) (s:Bd),ts[k]? = some t→ss[k]? = some s→(owns env ts ss)[k]? = some (.bd t s env)
 | [],ss,k,t,s,h,_=>by simp at h
 | t'::ts,[],k,t,s,_,h=>by simp at h
 | t'::ts,s'::ss,k,t,s,h1,h2=>by
   rw [owns]
   cases k with
   | zero=>simp at h1 h2;subst h1;subst h2;rfl
   | succ k=>simp only [List.getElem?_cons_succ] at *;exact owns_at ts ss k t s h1 h2
theorem owns_length {env:List Mn}:∀ (ts:List Ty) (ss:List Bd),ts.length=ss.length→(owns env ts ss).length=ts.length
 | [],[],_=>by rw [owns]
               ·rfl
               ·intros;contradiction
 | [],s::ss,h=>by simp at h
 | t::ts,[],h=>by simp at h
 | t::ts,s::ss,h=>by rw [owns];simp [owns_length ts ss (by simpa using h)]
theorem opens_at:∀ (ts:List Ty) (n k:Nat) (t:Ty),ts[k]? = some t→(opens n ts)[k]? = some (.op (n+k) t)
 | [],n,k,t,h=>by simp at h
 | a::ts,n,k,t,h=>by
   rw [opens]
   cases k with
   | zero=>simp at h;subst h;rfl
   | succ k=>simp only [List.getElem?_cons_succ] at *;rw [opens_at ts (n+1) k t h,show n+1+k=n+(k+1) from by omega]
theorem opens_length:∀ (ts:List Ty) (n:Nat),(opens n ts).length=ts.length
 | [],n=>by rw [opens];rfl
 | t::ts,n=>by rw [opens];simp [opens_length ts]
structure Copies (env:List Mn) (hand:List Ty):Prop where
 len:env.length=hand.length
 each:∀ i t,hand[i]? = some t→∃ (v:Nat) (e:List Mn),env[i]? = some (Mn.bd t (eta t v e.length) e)∧e[v]? = some (Mn.op i t)
theorem Copies.more {env:List Mn} {hand:List Ty} (h:Copies env hand) (e2:List Mn) (ts:List Ty) :
 Copies (env++owns (e2++opens hand.length ts) ts (etas ts e2.length (e2.length+ts.length))) (hand++ts):=by
 have hl:=h.len
 refine ⟨?_,fun i t hi=>?_⟩
 ·rw [List.length_append,List.length_append,owns_length _ _ (etas_length _ _ _).symm,hl]
 ·rcases Nat.lt_or_ge i hand.length with hlt | hge
  ·rw [List.getElem?_append_left hlt] at hi
   obtain ⟨v,e,h1,h2⟩:=h.each i t hi
   exact ⟨v,e,by rw [List.getElem?_append_left (by omega)];exact h1,h2⟩
  ·rw [List.getElem?_append_right hge] at hi
   have h1:=etas_at ts e2.length (e2.length+ts.length) _ t hi
   have h2:=owns_at (env:=e2++opens hand.length ts) ts _ _ t _ hi h1
   have h3:=opens_at ts hand.length _ t hi
   refine ⟨e2.length+(i-hand.length),e2++opens hand.length ts,?_,?_⟩
   ·rw [List.getElem?_append_right (by omega),hl,h2,List.length_append,opens_length]
   ·rw [List.getElem?_append_right (by omega),Nat.add_sub_cancel_left,h3,show hand.length+(i-hand.length)=i from by omega]
end Go.Proofs.YtapjaflnmklmeaaGreatDoor

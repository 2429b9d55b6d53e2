/- Plain words: a body whose levels are left open under other numbers, or stand for copies, becomes itself under the other numbers. -/
import Derived.Test.YtllmjhbopmkpoaaGreatDoorP21
import Derived.Test.YtllmjhbopmkpoaaGreatDoorP27
namespace Go.Proofs.YtllmjhbopmkpoaaGreatDoor
open Go.RowKit
mutual
def renB (f:Nat→Nat) (b:Bd):Bd:=match b with
 | .leaf c=>.leaf c
 | .ask v ss y no=>.ask (f v) (renBs f ss) (renB f y) (renB f no)
def renBs (f:Nat→Nat) (bs:List Bd):List Bd:=match bs with
 | []=>[]
 | b::bs=>renB f b::renBs f bs
end
theorem renBs_map (f:Nat→Nat):∀ bs:List Bd,renBs f bs=bs.map (renB f)
 | []=>by rw [renBs];rfl
 | b::bs=>by rw [renBs,renBs_map f bs];rfl
mutual
theorem renB_id:∀ b:Bd,renB id b=b
 | .leaf c=>by rw [renB]
 | .ask v ss y no=>by rw [renB,renBs_id ss,renB_id y,renB_id no];rfl
theorem renBs_id:∀ bs:List Bd,renBs id bs=bs
 | []=>by rw [renBs]
 | b::bs=>by rw [renBs,renB_id b,renBs_id bs]
end
def up (n k v:Nat):Nat:=if n≤v then v+k else v
mutual
theorem shift_ren:∀ (b:Bd) (n k:Nat),shiftB b n k=renB (up n k) b
 | .leaf c,n,k=>by rw [shiftB,renB]
 | .ask v ss y no,n,k=>by rw [shiftB,renB,shift_rens ss n k,shift_ren y n k,shift_ren no n k];rfl
theorem shift_rens:∀ (bs:List Bd) (n k:Nat),shiftBs bs n k=renBs (up n k) bs
 | [],n,k=>by rw [shiftBs,renBs]
 | b::bs,n,k=>by rw [shiftBs,renBs,shift_ren b n k,shift_rens bs n k]
end
def Along (f:Nat→Nat) (N:Nat):Prop:=∀ i,f (N+i)=f N+i
theorem Along.more {f:Nat→Nat} {N:Nat} (h:Along f N) (k:Nat):Along f (N+k):=fun i=>by
 rw [Nat.add_assoc,h,h,Nat.add_assoc]
theorem along_up (n k N:Nat) (h:n≤N):Along (up n k) N:=fun i=>by unfold up;rw [if_pos (by omega),if_pos h];omega
theorem along_id (N:Nat):Along id N:=fun i=>rfl
mutual
theorem eta_ren:∀ (t:Ty) (v n:Nat) (f:Nat→Nat),Along f n→renB f (eta t v n)=eta t (f v) (f n)
 | .mk ts,v,n,f,h=>by rw [eta,eta,renB,etas_ren ts n (n+ts.length) f (h.more _) (fun i hi=>h i),h];rfl
theorem etas_ren:∀ (ts:List Ty) (v n:Nat) (f:Nat→Nat),Along f n→(∀ i,i<ts.length→f (v+i)=f v+i)→renBs f (etas ts v n)=etas ts (f v) (f n)
 | [],v,n,f,_,_=>by rw [etas,etas,renBs]
 | t::ts,v,n,f,h,hv=>by
   rw [etas,etas,renBs,eta_ren t v n f h]
   cases ts with
   | nil=>rw [etas,etas,renBs]
   | cons u us =>
     have h1:=hv 1 (by simp)
     rw [etas_ren (u::us) (v+1) n f h (fun i hi=>by
      have:=hv (1+i) (by simp at hi ⊢;omega)
      rw [Nat.add_assoc,this,h1];omega),h1]
end
structure RenEnv (f g:Nat→Nat) (env:List Mn) (hand:List Ty) (m:Nat):Prop where
 len:env.length=f hand.length
 cnt:m=g hand.length
 af:Along f hand.length
 ag:Along g hand.length
 each:∀ i t,hand[i]? = some t→env[f i]? = some (Mn.op (g i) t)∨∃ (v:Nat) (e:List Mn),env[f i]? = some (Mn.bd t (eta t v e.length) e)∧e[v]? = some (Mn.op (g i) t)
theorem RenEnv.lt {f g:Nat→Nat} {env:List Mn} {hand:List Ty} {m:Nat} (h:RenEnv f g env hand m) {i:Nat} {t:Ty} (hi:hand[i]? = some t):f i<env.length:=by
 rcases h.each i t hi with k | ⟨_,_,k,_⟩ <;> exact (List.getElem?_eq_some_iff.1 k).1
theorem RenEnv.opens {f g:Nat→Nat} {env:List Mn} {hand:List Ty} {m:Nat} (h:RenEnv f g env hand m) (ts:List Ty):RenEnv f g (env++Go.Proofs.YtllmjhbopmkpoaaGreatDoor.opens m ts) (hand++ts) (m+ts.length):=by
 refine ⟨?_,?_,?_,?_,fun i t hi=>?_⟩
 ·rw [List.length_append,List.length_append,opens_length,h.af,h.len]
 ·rw [List.length_append,h.ag,h.cnt]
 ·rw [List.length_append];exact h.af.more _
 ·rw [List.length_append];exact h.ag.more _
 ·rcases Nat.lt_or_ge i hand.length with hlt | hge
  ·rw [List.getElem?_append_left hlt] at hi
   rw [List.getElem?_append_left (h.lt hi)]
   exact h.each i t hi
  ·rw [List.getElem?_append_right hge] at hi
   have e1:=h.af (i-hand.length)
   have e2:=h.ag (i-hand.length)
   rw [show hand.length+(i-hand.length)=i from by omega] at e1 e2
   left
   rw [e1,e2,← h.len,← h.cnt,List.getElem?_append_right (by omega),Nat.add_sub_cancel_left]
   exact opens_at ts m _ t hi
theorem RenEnv.more {f g:Nat→Nat} {env:List Mn} {hand:List Ty} {m:Nat} (h:RenEnv f g env hand m) (e2:List Mn) (ts:List Ty) :
 RenEnv f g (env++owns (e2++Go.Proofs.YtllmjhbopmkpoaaGreatDoor.opens m ts) ts (etas ts e2.length (e2.length+ts.length))) (hand++ts) (m+ts.length):=by
 refine ⟨?_,?_,?_,?_,fun i t hi=>?_⟩
 ·rw [List.length_append,List.length_append,owns_length _ _ (etas_length _ _ _).symm,h.af,h.len]
 ·rw [List.length_append,h.ag,h.cnt]
 ·rw [List.length_append];exact h.af.more _
 ·rw [List.length_append];exact h.ag.more _
 ·rcases Nat.lt_or_ge i hand.length with hlt | hge
  ·rw [List.getElem?_append_left hlt] at hi
   rw [List.getElem?_append_left (h.lt hi)]
   exact h.each i t hi
  ·rw [List.getElem?_append_right hge] at hi
   have q1:=h.af (i-hand.length)
   have q2:=h.ag (i-hand.length)
   rw [show hand.length+(i-hand.length)=i from by omega] at q1 q2
   have h1:=etas_at ts e2.length (e2.length+ts.length) _ t hi
   have h2:=owns_at (env:=e2++Go.Proofs.YtllmjhbopmkpoaaGreatDoor.opens m ts) ts _ _ t _ hi h1
   have h3:=opens_at ts m _ t hi
   right
   refine ⟨e2.length+(i-hand.length),e2++Go.Proofs.YtllmjhbopmkpoaaGreatDoor.opens m ts,?_,?_⟩
   ·rw [q1,← h.len,List.getElem?_append_right (by omega),Nat.add_sub_cancel_left,h2,List.length_append,opens_length]
   ·rw [q2,← h.cnt,List.getElem?_append_right (by omega),Nat.add_sub_cancel_left,h3]
def Goes (d l:Nat) (b:Bd) (env:List Mn) (m:Nat) (st:List Gf) (r:Bd) (c:Nat):Prop:=∃ l',ev d l b env m st=some (r,l')∧l≤l'+c
mutual
theorem ev_ren:∀ (b:Bd) (hand:List Ty) (f g:Nat→Nat) (env:List Mn) (m d l:Nat) (st:List Gf),fitB hand b→wfB b→RenEnv f g env hand m→Waits st→cost b≤d→cost b≤l→Goes d l (renB f b) env m st (renB g b) (cost b)
 | .leaf c,hand,f,g,env,m,d,l,st,hf,hw,hc,hst,hd,hl=>by
   rw [wfB] at hw
   rw [renB,renB]
   have hpos:1≤cost (.leaf c):=by rw [cost];split <;> omega
   obtain ⟨d,rfl⟩:∃ k,d=k+1:=⟨d-1,by omega⟩
   obtain ⟨l,rfl⟩:∃ k,l=k+1:=⟨l-1,by omega⟩
   by_cases h:c=117
   ·subst h
    exact ⟨l,ev_u,by omega⟩
   ·rcases hst with rfl | ⟨e,rfl⟩
    ·exact ⟨l,ev_end,by omega⟩
    ·rw [cost,if_neg h] at *
     obtain ⟨d,rfl⟩:∃ k,d=k+1:=⟨d-1,by omega⟩
     obtain ⟨l,rfl⟩:∃ k,l=k+1:=⟨l-1,by omega⟩
     refine ⟨l,?_,by omega⟩
     rw [ev_back h]
     have e1:(if c=116 then (Gf.mk (.leaf 116) (.leaf 102) e).yes else (Gf.mk (.leaf 116) (.leaf 102) e).no)=.leaf c:=by
      rcases hw with rfl | rfl | rfl
      ·rfl
      ·rfl
      ·exact absurd rfl h
     rw [e1,ev_end]
 | .ask i ss y no,hand,f,g,env,m,d,l,st,hf,hw,hc,hst,hd,hl=>by
   rw [wfB] at hw
   rw [cost] at hd hl
   rw [fitB] at hf
   obtain ⟨t,ht,h1,h2,h3⟩:=hf
   have hlen:=fitBs_length _ _ h1
   rw [hands_length] at hlen
   rw [renB,renB]
   obtain ⟨d,rfl⟩:∃ k,d=k+4:=⟨d-4,by omega⟩
   obtain ⟨l,rfl⟩:∃ k,l=k+4:=⟨l-4,by omega⟩
   rcases hc.each i t ht with k1 | ⟨v,e2,k1,k2⟩
   ·obtain ⟨l1,q1,b1⟩:=evs_ren ss t.args hand f g env m (d+3) (l+3) h1 hw.1 hc (by omega) (by omega)
    obtain ⟨l2,q2,b2⟩:=ev_ren y hand f g env m (d+3) l1 st h2 hw.2.1 hc hst (by omega) (by omega)
    obtain ⟨l3,q3,b3⟩:=ev_ren no hand f g env m (d+3) l2 st h3 hw.2.2 hc hst (by omega) (by omega)
    refine ⟨l3,?_,by rw [cost];omega⟩
    rw [ev_op k1,q1,Option.bind_some,q2,Option.bind_some,q3,Option.bind_some]
   ·have hv:=(List.getElem?_eq_some_iff.1 k2).1
    have hlen2:t.args.length=(renBs f ss).length:=by rw [renBs_map,List.length_map];exact hlen
    have hop:(e2++owns env t.args (renBs f ss))[v]? = some (Mn.op (g i) t):=by rw [List.getElem?_append_left hv];exact k2
    obtain ⟨l1,q1,b1⟩:=evs_ren2 ss t.args hand f g env (e2++owns env t.args (renBs f ss)) m (d+2) (l+2) e2.length h1 hw.1 hc (by omega) (by omega) (fun j a s ha hs=>by
     rw [List.getElem?_append_right (by omega),Nat.add_sub_cancel_left]
     exact owns_at _ _ _ _ _ ha (by rw [renBs_map,List.getElem?_map,hs];rfl)) (by rw [List.length_append,owns_length _ _ hlen2])
    obtain ⟨l2,q2,b2⟩:=ev_ren y hand f g env m (d+1) (l1-1) st h2 hw.2.1 hc hst (by omega) (by omega)
    obtain ⟨l3,q3,b3⟩:=ev_ren no hand f g env m (d+1) (l2-1) st h3 hw.2.2 hc hst (by omega) (by omega)
    refine ⟨l3,?_,by rw [cost];omega⟩
    rw [ev_bd k1,eta_eq,ev_op hop,q1]
    simp only [Option.bind_some]
    rw [show l1=(l1-1)+1 from by omega,ev_back (by decide)]
    simp only [if_true]
    rw [q2]
    simp only [Option.bind_some]
    rw [show l2=(l2-1)+1 from by omega,ev_back (by decide),if_neg (by decide),q3]
    rfl
theorem evs_ren:∀ (ss:List Bd) (ts:List Ty) (hand:List Ty) (f g:Nat→Nat) (env:List Mn) (m d l:Nat),fitBs (hands hand ts) ss→wfBs ss→RenEnv f g env hand m→cost.costs ss≤d→cost.costs ss≤l →
 ∃ l',evSubs (ev d) env m l ts (renBs f ss)=some (renBs g ss,l')∧l≤l'+cost.costs ss
 | [],ts,hand,f,g,env,m,d,l,hf,hw,hc,hd,hl=>by
   have:=fitBs_length _ _ hf
   rw [hands_length] at this
   obtain rfl:ts=[]:=List.eq_nil_of_length_eq_zero this
   refine ⟨l,?_,by omega⟩
   rw [renBs,renBs,evSubs]
   intros;contradiction
 | s::ss,[],hand,f,g,env,m,d,l,hf,hw,hc,hd,hl=>by
   have:=fitBs_length _ _ hf
   rw [hands_length] at this
   simp at this
 | s::ss,t::ts,hand,f,g,env,m,d,l,hf,hw,hc,hd,hl=>by
   rw [cost.costs] at *
   rw [wfBs] at hw
   rw [fitBs] at hf
   obtain ⟨h',hs',e',f1,f2⟩:=hf
   simp only [hands,List.map_cons,List.cons.injEq] at e'
   obtain ⟨rfl,rfl⟩:=e'
   obtain ⟨l1,q1,b1⟩:=ev_ren s (hand++t.args) f g (env++opens m t.args) (m+t.args.length) d l [] f1 hw.1 (hc.opens t.args) (.inl rfl) (by omega) (by omega)
   obtain ⟨l2,q2,b2⟩:=evs_ren ss ts hand f g env m d l1 f2 hw.2 hc (by omega) (by omega)
   refine ⟨l2,?_,by omega⟩
   rw [renBs,renBs,evSubs,q1]
   simp only [Option.bind_eq_bind,Option.bind_some,q2]
theorem evs_ren2:∀ (ss:List Bd) (ts:List Ty) (hand:List Ty) (f g:Nat→Nat) (env e2:List Mn) (m d l v:Nat),fitBs (hands hand ts) ss→wfBs ss→RenEnv f g env hand m→cost.costs ss≤d→cost.costs ss≤l →
 (∀ j a s,ts[j]? = some a→ss[j]? = some s→e2[v+j]? = some (.bd a (renB f s) env))→∀ {N:Nat},e2.length=N →
 ∃ l',evSubs (ev d) e2 m l ts (etas ts v N)=some (renBs g ss,l')∧l≤l'+cost.costs ss
 | [],ts,hand,f,g,env,e2,m,d,l,v,hf,hw,hc,hd,hl,hk,N,hN=>by
   have:=fitBs_length _ _ hf
   rw [hands_length] at this
   obtain rfl:ts=[]:=List.eq_nil_of_length_eq_zero this
   refine ⟨l,?_,by omega⟩
   rw [etas,renBs,evSubs]
   intros;contradiction
 | s::ss,[],hand,f,g,env,e2,m,d,l,v,hf,hw,hc,hd,hl,hk,N,hN=>by
   have:=fitBs_length _ _ hf
   rw [hands_length] at this
   simp at this
 | s::ss,t::ts,hand,f,g,env,e2,m,d,l,v,hf,hw,hc,hd,hl,hk,N,hN=>by
   subst hN
   rw [cost.costs] at *
   rw [wfBs] at hw
   rw [fitBs] at hf
   obtain ⟨h',hs',e',f1,f2⟩:=hf
   simp only [hands,List.map_cons,List.cons.injEq] at e'
   obtain ⟨rfl,rfl⟩:=e'
   obtain ⟨d,rfl⟩:∃ k,d=k+1:=⟨d-1,by omega⟩
   obtain ⟨l,rfl⟩:∃ k,l=k+1:=⟨l-1,by omega⟩
   have h0:=hk 0 t s rfl rfl
   rw [Nat.add_zero] at h0
   have hlt:=(List.getElem?_eq_some_iff.1 h0).1
   obtain ⟨l1,q1,b1⟩:=ev_ren s (hand++t.args) f g _ (m+t.args.length) d l [⟨.leaf 116,.leaf 102,e2++opens m t.args⟩] f1 hw.1 (hc.more e2 t.args) (.inr ⟨_,rfl⟩) (by omega) (by omega)
   obtain ⟨l2,q2,b2⟩:=evs_ren2 ss ts hand f g env e2 m (d+1) l1 (v+1) f2 hw.2 hc (by omega) (by omega) (fun j a s' ha hs=>by
    have:=hk (j+1) a s' (by simpa using ha) (by simpa using hs)
    rw [show v+1+j=v+(j+1) from by omega];exact this) rfl
   refine ⟨l2,?_,by omega⟩
   rw [etas,renBs,evSubs,eta_eq,ev_bd (t:=t) (b':=renB f s) (e:=env) (by rw [List.getElem?_append_left hlt];exact h0),q1]
   simp only [Option.bind_eq_bind,Option.bind_some,q2]
end
end Go.Proofs.YtllmjhbopmkpoaaGreatDoor

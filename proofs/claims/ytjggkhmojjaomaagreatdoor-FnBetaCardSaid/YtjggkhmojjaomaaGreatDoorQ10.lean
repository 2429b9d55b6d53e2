/- Walks of functions that the statement reaches, and plain words. No conditions. -/
import Derived.Test.YtjggkhmojjaomaaGreatDoorQ9
set_option linter.unusedVariables false
set_option linter.unusedSimpArgs false
namespace Go.Proofs.YtjggkhmojjaomaaGreatDoor
open Go.RowKit
theorem eg:∀ (ss:List Bd),(∀ s∈ss,2*kP s+1<=zW s)->ss≠[]->2*kI ss<=zR ss+1
 | [],_,h=>absurd rfl h
 | [s],hs,_=>by
   have:=hs s (by simp)
   simp only [kI,zR];omega
 | s::t::ss,hs,_=>by
   have h1:=hs s (by simp)
   have h2:=eg (t::ss) (fun x hx=>hs x (List.mem_cons_of_mem _ hx)) (by simp)
   rw [kI,zR];omega
theorem wH:∀ (n:Nat) (b:Bd),zW b<=n->2*kP b+1<=zW b
 | 0,b,h=>by have:=kW b;omega
 | n+1,.leaf c,_=>by simp [kP,zW]
 | n+1,.ask v ss y no,h=>by
   rw [zW] at h
   have py:=kW y
   have pn:=kW no
   have hy:=wH n y (by omega)
   have hn:=wH n no (by omega)
   rw [kP,zW]
   by_cases hs:ss=[]
   ·subst hs;simp only [kI,zR];omega
   ·have:=eg ss (fun s aK=>wH n s (by have:=vu aK;omega)) hs
    omega
theorem ej {b:Bd} (h:zW b<=200):kP b<=100:=by
 have:=wH _ b (fP _);omega
theorem become_writes (b:Bd) (env:List Mn) (n:Nat):ud b env n=jB b env n:=by
 rw [writes_eq]
 unfold jB
 cases ev 20000 20000 b env n [] with
 | none=>rfl
 | some x =>
   obtain ⟨out,l⟩:=x
   simp only
   by_cases hs:zW out<=200
   ·rw [if_pos hs,if_pos ⟨hs,ej hs⟩]
   ·rw [if_neg hs,if_neg (fun h=>hs h.1)]
def vj (b:Bd):Option Bd:=if zW b<=200 then some b else none
mutual
def zo (b:Bd) (n k:Nat):Bd:=match b with
 | .leaf c=>.leaf c
 | .ask v ss y no=>.ask (if n<=v then v+k else v) (zg ss n k) (zo y n k) (zo no n k)
def zg (bs:List Bd) (n k:Nat):List Bd:=match bs with
 | []=>[]
 | b::bs=>zo b n k::zg bs n k
end
def kz (b yes no:Bd):Bd:=match b with
 | .leaf c=>if c=116 then yes else if c=102 then no else .leaf c
 | .ask v ss y n=>.ask v ss (kz y yes no) (kz n yes no)
mutual
theorem pI:∀ (b:Bd) (H A X:List Ty),jH (H++X) b->jH (H++A++X) (zo b H.length A.length)
 | .leaf c,H,A,X,h=>by simp [zo,jH]
 | .ask v ss y no,H,A,X,h=>by
   rw [jH] at h
   obtain ⟨t,ht,h1,h2,h3⟩:=h
   rw [zo,jH]
   refine ⟨t,?_,d9 ss t.args H A X h1,pI y H A X h2,pI no H A X h3⟩
   by_cases hv:H.length<=v
   ·rw [if_pos hv]
    rw [List.getElem?_append_right hv] at ht
    rw [List.append_assoc,List.getElem?_append_right (by omega),List.getElem?_append_right (by omega),show v+A.length-H.length-A.length=v-H.length from by omega];exact ht
   ·rw [if_neg hv]
    rw [List.getElem?_append_left (by omega)] at ht
    rw [List.append_assoc,List.getElem?_append_left (by omega)];exact ht
theorem d9:∀ (bs:List Bd) (ts:List Ty) (H A X:List Ty),qe (jN (H++X) ts) bs->qe (jN (H++A++X) ts) (zg bs H.length A.length)
 | [],ts,H,A,X,h=>by
   have:=qI _ _ h
   rw [jK] at this
   obtain rfl:ts=[]:=List.eq_nil_of_length_eq_zero this
   rw [zg,qe];rfl
 | b::bs,[],H,A,X,h=>by
   have:=qI _ _ h
   rw [jK] at this
   simp at this
 | b::bs,t::ts,H,A,X,h=>by
   rw [qe] at h
   obtain ⟨h',aK,e,f1,f2⟩:=h
   simp only [jN,List.map_cons,List.cons.injEq] at e
   obtain ⟨rfl,rfl⟩:=e
   rw [zg,qe]
   refine ⟨H++A++X++t.args,jN (H++A++X) ts,rfl,?_,d9 bs ts H A X f2⟩
   have:=pI b H A (X++t.args) (by rw [<- List.append_assoc];exact f1)
   rw [<- List.append_assoc] at this
   exact this
end
mutual
theorem xd:∀ (b:Bd) (n k:Nat),wfB b->wfB (zo b n k)
 | .leaf c,n,k,h=>by rw [zo];exact h
 | .ask v ss y no,n,k,h=>by
   rw [wfB] at h
   rw [zo,wfB]
   exact ⟨shift_wfs ss n k h.1,xd y n k h.2.1,xd no n k h.2.2⟩
theorem shift_wfs:∀ (bs:List Bd) (n k:Nat),uL bs->uL (zg bs n k)
 | [],n,k,h=>by rw [zg];exact h
 | b::bs,n,k,h=>by
   rw [uL] at h
   rw [zg,uL]
   exact ⟨xd b n k h.1,shift_wfs bs n k h.2⟩
end
theorem cz:∀ (b yes no:Bd) (H:List Ty),jH H b->jH H yes->jH H no->jH H (kz b yes no)
 | .leaf c,yes,no,H,h,h1,h2=>by
   rw [kz]
   split
   ·exact h1
   ·split
    ·exact h2
    ·exact h
 | .ask v ss y n,yes,no,H,h,h1,h2=>by
   rw [jH] at h
   obtain ⟨t,ht,k1,k2,k3⟩:=h
   rw [kz,jH]
   exact ⟨t,ht,k1,cz y yes no H k2 h1 h2,cz n yes no H k3 h1 h2⟩
theorem eR:∀ (b yes no:Bd),wfB b->wfB yes->wfB no->wfB (kz b yes no)
 | .leaf c,yes,no,h,h1,h2=>by
   rw [kz]
   split
   ·exact h1
   ·split
    ·exact h2
    ·exact h
 | .ask v ss y n,yes,no,h,h1,h2=>by
   rw [wfB] at h
   rw [kz,wfB]
   exact ⟨h.1,eR y yes no h.2.1 h1 h2,eR n yes no h.2.2 h1 h2⟩
abbrev Nm:=Bs×Ty
def ke (ns:List Nm) (x:Bs):Nat->Option Nat
 | 0=>none
 | n+1=>if ns[n]?.map Prod.fst=some x then some n else ke ns x n
def q_ (ns:List Nm) (x:Bs):Option Nat:=ke ns x ns.length
theorem findAt_lt {ns:List Nm} {x:Bs}:∀ {n i:Nat},ke ns x n=some i->i<n/\∃ k,ns[i]? = some (x,k)
 | 0,i,h=>by simp [ke] at h
 | n+1,i,h=>by
   rw [ke] at h
   split at h
   ·rename_i hc
    obtain rfl:=Option.some.inj h
    rw [Option.map_eq_some_iff] at hc
    obtain ⟨⟨a,k⟩,h1,rfl⟩:=hc
    exact ⟨by omega,k,h1⟩
   ·obtain ⟨h1,h2⟩:=findAt_lt h
    exact ⟨by omega,h2⟩
def kinds (ns:List Nm):List Ty:=ns.map Prod.snd
def typeOf (ns:List Nm):Tm->Option Ty
 | .nm x=>(q_ ns x).bind fun i=>ns[i]?.map Prod.snd
 | .wd _=>some (.mk [])
 | .lam x k t=>if 15<zV k then none else (typeOf (ns++[(x,k)]) t).bind fun b=>if 15<zV (zd k b) then none else some (zd k b)
 | .app m n=>(typeOf ns m).bind fun a=>(typeOf ns n).bind fun b=>match a.args with
   | []=>none
   | c::cs=>if zN c=zN b then some (.mk cs) else none
 | .ite l m n=>(typeOf ns l).bind fun a=>(typeOf ns m).bind fun b=>(typeOf ns n).bind fun c=>if a.args=[]/\zN b=zN c then some b else none
def zD (ns:List Nm):Tm->Option Bd
 | .nm x=>(q_ ns x).bind fun i=>ns[i]?.bind fun p=>vj (eta p.2 i ns.length)
 | .wd w=>some (.leaf (w.headD 0))
 | .lam x k t=>zD (ns++[(x,k)]) t
 | .app m n=>(zD ns m).bind fun a=>(zD ns n).bind fun b=>(typeOf ns m).bind fun t=>match t.args with
   | []=>none
   | k::rest=>jB a (zS (kinds ns) k b rest) (ns.length+rest.length)
 | .ite l m n=>(zD ns l).bind fun a=>(zD ns m).bind fun b=>(zD ns n).bind fun c=>(typeOf ns m).bind fun t=>vj (kz (zo a ns.length t.args.length) b c)
theorem cW {a b:Ty} (h:zN a=zN b):a=b:=by
 have k1:=wl (zV a+zV b) a [] (by omega)
 have k2:=wl (zV a+zV b) b [] (by omega)
 rw [h,k2] at k1
 exact (Prod.mk.inj (Option.some.inj k1)).1.symm
theorem pM {bs rest:List Ty} {a:Ty} {n m:Bd} (hn:jH (bs++a.args) n) (hm:jH (bs++a::rest) m):jz (bs++rest) m (zS bs a n rest) []:=by
 refine ⟨⟨bs++a::rest,?_,hm⟩,by simp⟩
 have h1:qd (bs++rest) (opens 0 bs) bs:=cM bs 0 fun i t h=>by rw [Nat.zero_add,List.getElem?_append_left (List.getElem?_eq_some_iff.1 h).1];exact h
 refine u_ _ _ _ _ h1 ?_
 rw [qd]
 refine ⟨a,rest,rfl,?_,gX bs rest⟩
 rw [xE]
 exact ⟨rfl,bs,h1,hn⟩
theorem between_wf {bs rest:List Ty} {a:Ty} {n:Bd} (hn:wfB n):xj (zS bs a n rest):=by
 unfold zS
 refine jF _ _ (jW bs 0) ?_
 exact ⟨⟨hn,jW bs 0⟩,jW rest bs.length⟩
theorem y7 {b c:Bd} (h:vj b=some c):c=b/\zW b<=200:=by
 unfold vj at h
 split at h
 ·exact ⟨(Option.some.inj h).symm,by assumption⟩
 ·simp at h
theorem jG (ns:List Nm) (x:Bs) (k:Ty):kinds (ns++[(x,k)])=kinds ns++[k]:=by simp [kinds]
theorem qL (ns:List Nm):(kinds ns).length=ns.length:=by simp [kinds]
theorem uK {ns:List Nm} {i:Nat} {x:Bs} {k:Ty} (h:ns[i]? = some (x,k)):(kinds ns)[i]? = some k:=by simp [kinds,h]
theorem k9:∀ (t:Tm) (ns:List Nm) (k:Ty),(∀ a∈kinds ns,zV a<=15)->typeOf ns t=some k->zV k<=15
 | .nm x,ns,k,hn,h=>by
   rw [typeOf,Option.bind_eq_some_iff] at h
   obtain ⟨i,_,h2⟩:=h
   rw [Option.map_eq_some_iff] at h2
   obtain ⟨⟨y,a⟩,h3,rfl⟩:=h2
   exact hn a (List.mem_of_getElem? (uK h3))
 | .wd w,ns,k,_,h=>by
   rw [typeOf] at h
   obtain rfl:=Option.some.inj h
   decide
 | .lam x k t,ns,k',hn,h=>by
   rw [typeOf] at h
   split at h
   ·simp at h
   ·rw [Option.bind_eq_some_iff] at h
    obtain ⟨b,_,h2⟩:=h
    split at h2
    ·simp at h2
    ·obtain rfl:=Option.some.inj h2
     omega
 | .app m n,ns,k,hn,h=>by
   rw [typeOf,Option.bind_eq_some_iff] at h
   obtain ⟨a,h1,h⟩:=h
   rw [Option.bind_eq_some_iff] at h
   obtain ⟨b,_,h⟩:=h
   have ha:=k9 m ns a hn h1
   split at h
   ·simp at h
   ·rename_i c cs hc
    split at h
    ·obtain rfl:=Option.some.inj h
     have:=gD hc
     omega
    ·simp at h
 | .ite l m n,ns,k,hn,h=>by
   rw [typeOf,Option.bind_eq_some_iff] at h
   obtain ⟨a,_,h⟩:=h
   rw [Option.bind_eq_some_iff] at h
   obtain ⟨b,h1,h⟩:=h
   rw [Option.bind_eq_some_iff] at h
   obtain ⟨c,_,h⟩:=h
   split at h
   ·obtain rfl:=Option.some.inj h
    exact k9 m ns _ hn h1
   ·simp at h
theorem xy {ns:List Nm} {m n:Tm} {k:Ty} (h:typeOf ns (.app m n)=some k):∃ a b rest,typeOf ns m=some a/\typeOf ns n=some b/\a.args=b::rest/\k=.mk rest:=by
 rw [typeOf,Option.bind_eq_some_iff] at h
 obtain ⟨a,h1,h⟩:=h
 rw [Option.bind_eq_some_iff] at h
 obtain ⟨b,h2,h⟩:=h
 split at h
 ·simp at h
 ·rename_i c cs hc
  split at h
  ·rename_i he
   obtain rfl:=Option.some.inj h
   obtain rfl:=cW he
   exact ⟨a,c,cs,h1,h2,hc,rfl⟩
  ·simp at h
theorem xu {ns:List Nm} {l m n:Tm} {k:Ty} (h:typeOf ns (.ite l m n)=some k):typeOf ns l=some (.mk [])/\typeOf ns m=some k/\typeOf ns n=some k:=by
 rw [typeOf,Option.bind_eq_some_iff] at h
 obtain ⟨a,h1,h⟩:=h
 rw [Option.bind_eq_some_iff] at h
 obtain ⟨b,h2,h⟩:=h
 rw [Option.bind_eq_some_iff] at h
 obtain ⟨c,h3,h⟩:=h
 split at h
 ·rename_i he
  obtain rfl:=Option.some.inj h
  obtain rfl:=cW he.2
  refine ⟨?_,h2,h3⟩
  rw [h1]
  cases a with
  | mk ts=>have:=he.1;simp only [Ty.args] at this;subst this;rfl
 ·simp at h
theorem xv {ns:List Nm} {x:Bs} {a:Ty} {t:Tm} {k:Ty} (h:typeOf ns (.lam x a t)=some k):zV a<=15/\∃ b,typeOf (ns++[(x,a)]) t=some b/\k=zd a b:=by
 rw [typeOf] at h
 split at h
 ·simp at h
 ·rw [Option.bind_eq_some_iff] at h
  obtain ⟨b,h1,h2⟩:=h
  split at h2
  ·simp at h2
  ·obtain rfl:=Option.some.inj h2
   exact ⟨by omega,b,h1,rfl⟩
theorem jR:∀ (t:Tm) (ns:List Nm) (k:Ty) (b:Bd),uZ t->(∀ a∈kinds ns,zV a<=15)->typeOf ns t=some k->zD ns t=some b->jH (kinds ns++k.args) b/\wfB b/\zW b<=200
 | .nm x,ns,k,b,_,hn,ht,h=>by
   rw [typeOf,Option.bind_eq_some_iff] at ht
   obtain ⟨i,hi,ht⟩:=ht
   rw [zD,hi,Option.bind_some,Option.bind_eq_some_iff] at h
   obtain ⟨⟨y,a⟩,h1,h2⟩:=h
   rw [h1] at ht
   simp at ht;subst ht
   obtain ⟨rfl,hs⟩:=y7 h2
   exact ⟨eta_fit a i ns.length (kinds ns) (qL ns) (uK h1),eta_wf a i ns.length,hs⟩
 | .wd w,ns,k,b,ho,hn,ht,h=>by
   rw [zD] at h
   obtain rfl:=Option.some.inj h
   refine ⟨by simp [jH],?_,by simp [zW]⟩
   rw [wfB]
   have:qj w=true:=ho
   simp only [qj,Bool.or_eq_true,beq_iff_eq] at this
   rcases this with (rfl | rfl) | rfl
   ·exact .inl rfl
   ·exact .inr (.inl rfl)
   ·exact .inr (.inr rfl)
 | .lam x a t,ns,k,b,ho,hn,ht,h=>by
   obtain ⟨ha,c,hc,rfl⟩:=xv ht
   rw [zD] at h
   have:=jR t (ns++[(x,a)]) c b ho.2 (fun y hy=>by
    rw [jG] at hy
    rcases List.mem_append.1 hy with hy | hy
    ·exact hn y hy
    ·simp at hy;subst hy;exact ha) hc h
   rw [jG,List.append_assoc] at this
   exact this
 | .app m n,ns,k,b,ho,hn,ht,h=>by
   obtain ⟨a,c,rest,h1,h2,h3,rfl⟩:=xy ht
   rw [zD,Option.bind_eq_some_iff] at h
   obtain ⟨p,hp,h⟩:=h
   rw [Option.bind_eq_some_iff] at h
   obtain ⟨q,hq,h⟩:=h
   rw [h1,Option.bind_some,h3] at h
   simp only at h
   obtain ⟨f1,w1,s1⟩:=jR m ns a p ho.1 hn h1 hp
   obtain ⟨f2,w2,s2⟩:=jR n ns c q ho.2 hn h2 hq
   rw [h3] at f1
   have hf:=pM f2 f1
   have hlen:ns.length+rest.length=(kinds ns++rest).length:=by rw [List.length_append,qL]
   rw [hlen] at h
   unfold jB at h
   cases hv:ev 20000 20000 p (zS (kinds ns) c q rest) (kinds ns++rest).length [] with
   | none=>rw [hv] at h;simp at h
   | some x =>
     obtain ⟨o,l⟩:=x
     rw [hv] at h
     simp only at h
     split at h
     ·rename_i hs
      obtain rfl:=Option.some.inj h
      exact ⟨ev_fit _ _ _ _ _ _ _ _ hf hv,ev_wf _ _ _ _ _ _ _ _ w1 (between_wf w2) (by simp) hv,hs.1⟩
     ·simp at h
 | .ite l m n,ns,k,b,ho,hn,ht,h=>by
   obtain ⟨h1,h2,h3⟩:=xu ht
   rw [zD,Option.bind_eq_some_iff] at h
   obtain ⟨p,hp,h⟩:=h
   rw [Option.bind_eq_some_iff] at h
   obtain ⟨q,hq,h⟩:=h
   rw [Option.bind_eq_some_iff] at h
   obtain ⟨r,hr,h⟩:=h
   rw [h2,Option.bind_some] at h
   obtain ⟨rfl,hs⟩:=y7 h
   obtain ⟨f1,w1,_⟩:=jR l ns _ p ho.1 hn h1 hp
   obtain ⟨f2,w2,_⟩:=jR m ns _ q ho.2.1 hn h2 hq
   obtain ⟨f3,w3,_⟩:=jR n ns _ r ho.2.2 hn h3 hr
   have IM:=pI p (kinds ns) k.args [] (show jH (kinds ns++[]) p from f1)
   rw [List.append_nil,qL] at IM
   exact ⟨cz _ _ _ _ IM f2 f3,eR _ _ _ (xd _ _ _ w1) w2 w3,hs⟩
theorem pV {t:Tm} {k:Ty} {b:Bd} (ho:uZ t) (ht:typeOf [] t=some k) (h:zD [] t=some b):Good k b:=by
 obtain ⟨h1,h2,h3⟩:=jR t [] k b ho (by simp [kinds]) ht h
 exact ⟨k9 t [] k (by simp [kinds]) ht,by simpa [kinds] using h1,h2,h3,ej h3⟩
def jw (s:Bs):Option (Ty×Bd):=(qD s).bind fun t=>(typeOf [] t).bind fun k=>(zD [] t).map fun b=>(k,b)
def xp (s:Bs):Option Ty:=(qD s).bind fun t=>typeOf [] t
theorem bH {s:Bs} {k:Ty} {b:Bd} (h:jw s=some (k,b)):xp s=some k/\Good k b:=by
 unfold jw at h
 simp only [Option.bind_eq_some_iff,Option.map_eq_some_iff,Prod.mk.injEq] at h
 obtain ⟨t,h1,k',h2,b',h3,rfl,rfl⟩:=h
 obtain ⟨_,ho,_⟩:=jr h1
 exact ⟨by unfold xp;rw [h1];exact h2,pV ho h2 h3⟩
theorem yU:∀ (t:Tm) (ns:List Nm) (k:Ty),typeOf ns t=some k->kV t=true
 | .nm x,ns,k,h=>by rw [kV]
 | .wd w,ns,k,h=>by rw [kV]
 | .lam x a t,ns,k,h=>by
   obtain ⟨ha,b,hb,_⟩:=xv h
   rw [kV,decide_eq_true ha,yU t _ b hb];rfl
 | .app m n,ns,k,h=>by
   obtain ⟨a,b,rest,h1,h2,_⟩:=xy h
   rw [kV,yU m ns a h1,yU n ns b h2];rfl
 | .ite l m n,ns,k,h=>by
   obtain ⟨h1,h2,h3⟩:=xu h
   rw [kV,yU l ns _ h1,yU m ns _ h2,yU n ns _ h3];rfl
def zc (ns:List Nm):Tm->Ty×Bool
 | .nm x=>match (q_ ns x).bind fun i=>ns[i]?.map Prod.snd with
   | some k=>(k,true)
   | none=>(.mk [],false)
 | .wd _=>(.mk [],true)
 | .lam x k t=>(zd k (zc (ns++[(x,k)]) t).1,(zc (ns++[(x,k)]) t).2 && decide (zV (zd k (zc (ns++[(x,k)]) t).1)<=15))
 | .app m n=>if (zc ns m).2=false\/(zc ns n).2=false then ((zc ns m).1,false) else match (zc ns m).1.args with
   | []=>((zc ns m).1,false)
   | c::cs=>if zN c=zN (zc ns n).1 then (.mk cs,true) else ((zc ns m).1,false)
 | .ite l m n=>((zc ns m).1,(zc ns l).2 && (zc ns m).2 && (zc ns n).2 && decide ((zc ns l).1.args=[]) && decide (zN (zc ns m).1=zN (zc ns n).1))
theorem uj:∀ (t:Tm) (ns:List Nm),kV t=true->typeOf ns t=if (zc ns t).2=true then some (zc ns t).1 else none
 | .nm x,ns,_=>by
   rw [typeOf,zc]
   cases (q_ ns x).bind fun i=>ns[i]?.map Prod.snd <;> rfl
 | .wd w,ns,_=>by rw [typeOf,zc];rfl
 | .lam x k t,ns,h=>by
   rw [kV,Bool.and_eq_true,decide_eq_true_eq] at h
   rw [typeOf,if_neg (by omega),uj t _ h.2,zc]
   cases (zc (ns++[(x,k)]) t).2 with
   | false=>rfl
   | true =>
     simp only [if_true,Option.bind_some,Bool.true_and,decide_eq_true_eq]
     by_cases fu:zV (zd k (zc (ns++[(x,k)]) t).1)<=15
     ·rw [if_neg (by omega),if_pos fu]
     ·rw [if_pos (by omega),if_neg fu]
 | .app m n,ns,h=>by
   rw [kV,Bool.and_eq_true] at h
   rw [typeOf,uj m ns h.1,uj n ns h.2,zc]
   cases hm:(zc ns m).2 with
   | false=>simp
   | true =>
     cases hn:(zc ns n).2 with
     | false=>simp
     | true =>
       simp only [if_true,Option.bind_some,Bool.true_eq_false,or_self,if_false]
       cases ha:(zc ns m).1.args with
       | nil=>rfl
       | cons c cs =>
         simp only
         by_cases he:zN c=zN (zc ns n).1
         ·rw [if_pos he,if_pos he];rfl
         ·rw [if_neg he,if_neg he];rfl
 | .ite l m n,ns,h=>by
   rw [kV,Bool.and_eq_true,Bool.and_eq_true] at h
   rw [typeOf,uj l ns h.1.1,uj m ns h.1.2,uj n ns h.2,zc]
   cases hl:(zc ns l).2 with
   | false=>simp
   | true =>
     cases hm:(zc ns m).2 with
     | false=>simp
     | true =>
       cases hn:(zc ns n).2 with
       | false=>simp
       | true =>
         simp only [if_true,Option.bind_some,Bool.true_and,Bool.and_eq_true,decide_eq_true_eq]
theorem uo {t:Tm} {ns:List Nm} (hs:kV t=true) (h:(zc ns t).2=true):typeOf ns t=some (zc ns t).1:=by
 rw [uj t ns hs,if_pos h]
theorem kindR_of {t:Tm} {ns:List Nm} {k:Ty} (h:typeOf ns t=some k):zc ns t=(k,true):=by
 have hs:=yU t ns k h
 rw [uj t ns hs] at h
 split at h
 ·rename_i hq
  exact Prod.ext (Option.some.inj h) hq
 ·simp at h
theorem pm:∀ (t:Tm) (ns:List Nm),(∀ a∈kinds ns,a.args.length<=15)->kV t=true->(zc ns t).1.args.length<=15+zM t
 | .nm x,ns,hn,_=>by
   rw [zc]
   cases hq:(q_ ns x).bind fun i=>ns[i]?.map Prod.snd with
   | none=>simp [Ty.args]
   | some k =>
     rw [Option.bind_eq_some_iff] at hq
     obtain ⟨i,_,h2⟩:=hq
     rw [Option.map_eq_some_iff] at h2
     obtain ⟨⟨y,a⟩,h3,rfl⟩:=h2
     have:=hn a (List.mem_of_getElem? (uK h3))
     simp only
     omega
 | .wd w,ns,_,_=>by rw [zc];simp [Ty.args]
 | .lam x k t,ns,hn,h=>by
   rw [kV,Bool.and_eq_true,decide_eq_true_eq] at h
   have:=pm t (ns++[(x,k)]) (fun a ha=>by
    rw [jG] at ha
    rcases List.mem_append.1 ha with ha | ha
    ·exact hn a ha
    ·simp at ha;subst ha;have:=qV a.args;have:=qg a;omega) h.2
   have e:(zd k (zc (ns++[(x,k)]) t).1).args.length=(zc (ns++[(x,k)]) t).1.args.length+1:=rfl
   rw [zc,zM]
   simp only
   rw [e]
   omega
 | .app m n,ns,hn,h=>by
   rw [kV,Bool.and_eq_true] at h
   have h1:=pm m ns hn h.1
   rw [zc,zM]
   split
   ·simp only;omega
   ·cases ha:(zc ns m).1.args with
    | nil=>simp only [ha];simp
    | cons c cs =>
      rw [ha] at h1
      simp only [List.length_cons] at h1
      simp only
      split
      ·simp only [Ty.args];omega
      ·rw [ha];simp only [List.length_cons];omega
 | .ite l m n,ns,hn,h=>by
   rw [kV,Bool.and_eq_true,Bool.and_eq_true] at h
   have h1:=pm m ns hn h.1.2
   rw [zc,zM]
   simp only
   omega
mutual
theorem yW:∀ (b:Bd) (n k:Nat),zW (zo b n k)=zW b
 | .leaf c,n,k=>by rw [zo]
 | .ask v ss y no,n,k=>by rw [zo,zW,zW,bZ ss n k,yW y n k,yW no n k]
theorem bZ:∀ (bs:List Bd) (n k:Nat),zR (zg bs n k)=zR bs
 | [],n,k=>by rw [zg]
 | b::bs,n,k=>by rw [zg,zR,zR,yW b n k,bZ bs n k]
end
theorem xM:∀ (b y n:Bd),zW (kz b y n)<=zW b*(zW y+zW n)
 | .leaf c,y,n=>by
   have hy:=kW y
   have hn:=kW n
   have e:zW (.leaf c)=1:=by rw [zW]
   rw [e,Nat.one_mul,kz]
   split
   ·omega
   ·split
    ·omega
    ·rw [e];omega
 | .ask v ss a c,y,n=>by
   have hy:=kW y
   have h1:=xM a y n
   have h2:=xM c y n
   rw [kz,zW,zW]
   have h3:1+zR ss<=(1+zR ss)*(zW y+zW n):=Nat.le_mul_of_pos_right _ (by omega)
   have e:(1+(zR ss+(zW a+zW c)))*(zW y+zW n)=(1+zR ss)*(zW y+zW n)+zW a*(zW y+zW n)+zW c*(zW y+zW n):=by rw [<- Nat.add_mul,<- Nat.add_mul];congr 1;omega
   omega
theorem h_ {b:Bd} (h:zW b<=200):vj b=some b:=by unfold vj;rw [if_pos h]
theorem become_small {b:Bd} {env:List Mn} {n:Nat} {c:Bd} (h:jB b env n=some c):zW c<=200:=by
 unfold jB at h
 cases hv:ev 20000 20000 b env n [] with
 | none=>rw [hv] at h;simp at h
 | some x =>
   obtain ⟨o,l⟩:=x
   rw [hv] at h
   simp only at h
   split at h
   ·rename_i hs
    obtain rfl:=Option.some.inj h
    exact hs.1
   ·simp at h
theorem jm:∀ (t:Tm) (ns:List Nm) (b:Bd),zD ns t=some b->zW b<=200
 | .nm x,ns,b,h=>by
   rw [zD,Option.bind_eq_some_iff] at h
   obtain ⟨i,_,h⟩:=h
   rw [Option.bind_eq_some_iff] at h
   obtain ⟨p,_,h⟩:=h
   obtain ⟨rfl,hs⟩:=y7 h
   exact hs
 | .wd w,ns,b,h=>by
   rw [zD] at h
   obtain rfl:=Option.some.inj h
   simp [zW]
 | .lam x k t,ns,b,h=>by rw [zD] at h;exact jm t _ b h
 | .app m n,ns,b,h=>by
   rw [zD,Option.bind_eq_some_iff] at h
   obtain ⟨p,_,h⟩:=h
   rw [Option.bind_eq_some_iff] at h
   obtain ⟨q,_,h⟩:=h
   rw [Option.bind_eq_some_iff] at h
   obtain ⟨t,_,h⟩:=h
   split at h
   ·simp at h
   ·exact become_small h
 | .ite l m n,ns,b,h=>by
   rw [zD,Option.bind_eq_some_iff] at h
   obtain ⟨p,_,h⟩:=h
   rw [Option.bind_eq_some_iff] at h
   obtain ⟨q,_,h⟩:=h
   rw [Option.bind_eq_some_iff] at h
   obtain ⟨r,_,h⟩:=h
   rw [Option.bind_eq_some_iff] at h
   obtain ⟨t,_,h⟩:=h
   obtain ⟨rfl,hs⟩:=y7 h
   exact hs
def kL (ns:List Nm):Tm->Option Bd
 | .nm x=>(q_ ns x).bind fun i=>ns[i]?.map fun p=>eta p.2 i ns.length
 | .wd w=>some (.leaf (w.headD 0))
 | .lam x k t=>zD (ns++[(x,k)]) t
 | .app m n=>zD ns (.app m n)
 | .ite l m n=>(zD ns l).bind fun a=>(zD ns m).bind fun b=>(zD ns n).bind fun c=>(typeOf ns m).bind fun t=>some (kz (zo a ns.length t.args.length) b c)
theorem g9 {o:Option Bd} (h:∀ b,o=some b->zW b<=200):o.bind vj=o:=by
 cases o with
 | none=>rfl
 | some b=>rw [Option.bind_some,h_ (h b rfl)]
theorem mean_meant (t:Tm) (ns:List Nm):zD ns t=(kL ns t).bind vj:=by
 cases t with
 | nm x =>
   rw [zD,kL]
   cases q_ ns x with
   | none=>rfl
   | some i =>
     rw [Option.bind_some,Option.bind_some]
     cases ns[i]? <;> rfl
 | wd w=>rw [zD,kL,g9 (fun b h=>by obtain rfl:=Option.some.inj h;simp [zW])]
 | lam x k t=>rw [kL,g9 (fun b h=>jm _ _ b h),zD]
 | app m n=>rw [kL,g9 (fun b h=>jm _ _ b h)]
 | ite l m n =>
   rw [zD,kL]
   cases zD ns l with
   | none=>rfl
   | some a =>
     cases zD ns m with
     | none=>rfl
     | some b =>
       cases zD ns n with
       | none=>rfl
       | some c =>
         cases typeOf ns m <;> rfl
theorem meant_size (t:Tm) (ns:List Nm) (b:Bd) (hn:∀ a∈kinds ns,zV a<=15) (h:kL ns t=some b):zW b<=100000:=by
 cases t with
 | nm x =>
   rw [kL,Option.bind_eq_some_iff] at h
   obtain ⟨i,_,h⟩:=h
   rw [Option.map_eq_some_iff] at h
   obtain ⟨⟨y,k⟩,hp,rfl⟩:=h
   have:=(ez k i ns.length).1
   have:=hn k (List.mem_of_getElem? (uK hp))
   simp only
   omega
 | wd w=>rw [kL] at h;obtain rfl:=Option.some.inj h;simp [zW]
 | lam x k t=>rw [kL] at h;have:=jm _ _ b h;omega
 | app m n=>rw [kL] at h;have:=jm _ _ b h;omega
 | ite l m n =>
   rw [kL,Option.bind_eq_some_iff] at h
   obtain ⟨p,hp,h⟩:=h
   rw [Option.bind_eq_some_iff] at h
   obtain ⟨q,hq,h⟩:=h
   rw [Option.bind_eq_some_iff] at h
   obtain ⟨r,hr,h⟩:=h
   rw [Option.bind_eq_some_iff] at h
   obtain ⟨t,_,h⟩:=h
   obtain rfl:=Option.some.inj h
   have h1:=jm _ _ _ hp
   have h2:=jm _ _ _ hq
   have h3:=jm _ _ _ hr
   have h4:=xM (zo p ns.length t.args.length) q r
   rw [yW] at h4
   have h5:zW p*(zW q+zW r)<=200*400:=Nat.mul_le_mul h1 (by omega)
   omega
theorem small_fits {b:Bd}:decide (zW b<=200/\kP b<=100)=decide (zW b<=200):=by
 by_cases h:zW b<=200
 ·rw [decide_eq_true ⟨h,ej h⟩,decide_eq_true h]
 ·rw [decide_eq_false (fun hx=>h hx.1),decide_eq_false h]

def evFs (f:Bd->List Mn->Nat->List Gf->Option Bd) (env:List Mn) (n:Nat):List Ty->List Bd->Option (List Bd)
 | t::ts,s::ss=>(f s (env++opens n t.args) (n+t.args.length) []).bind fun x=>(evFs f env n ts ss).bind fun xs=>some (x::xs)
 | _,_=>some []
def evF:Nat->Bd->List Mn->Nat->List Gf->Option Bd
 | 0,_,_,_,_=>none
 | d+1,b,env,n,st=>match b with
   | .leaf c=>if c=117 then some (.leaf c) else match st with
     | []=>some (.leaf c)
     | f::st'=>evF d (if c=116 then f.yes else f.no) f.env n st'
   | .ask v ss y no=>match env[v]? with
     | none=>none
     | some (.bd t b' e)=>if ss.length=t.args.length then evF d b' (e++owns env t.args ss) n (⟨y,no,env⟩::st) else none
     | some (.op o t)=>if ss.length=t.args.length then (evFs (evF d) env n t.args ss).bind fun xs=>(evF d y env n st).bind fun x=>(evF d no env n st).bind fun z=>some (.ask o xs x z) else none
mutual
def sbM (s:List Mn):Mn->Mn
 | .op o t=>(s[o]?).getD (.op o t)
 | .bd t b e=>.bd t b (cH s e)
def cH (s:List Mn):List Mn->List Mn
 | []=>[]
 | m::ms=>sbM s m::cH s ms
end
def substGs (s:List Mn):List Gf->List Gf
 | []=>[]
 | f::fs=>⟨f.yes,f.no,cH s f.env⟩::substGs s fs
def tyOf:Mn->Ty
 | .op _ t=>t
 | .bd t _ _=>t
mutual
def scM (H:List Ty):Mn->Prop
 | .op o t=>H[o]? = some t
 | .bd _ _ e=>scMs H e
def scMs (H:List Ty):List Mn->Prop
 | []=>True
 | m::ms=>scM H m/\scMs H ms
end
def scGs (H:List Ty):List Gf->Prop
 | []=>True
 | f::fs=>scMs H f.env/\scGs H fs
mutual
inductive MR:Mn->Mn->Prop
 | op (o:Nat) (t:Ty):MR (.op o t) (.op o t)
 | same {t:Ty} {b:Bd} {e1 e2:List Mn} (h:MRs e1 e2):MR (.bd t b e1) (.bd t b e2)
 | wrote {t:Ty} {b1 b2:Bd} {env s1 s2:List Mn} {d:Nat} {H:List Ty} (h:evF d b2 (env++opens H.length t.args) (H.length+t.args.length) []=some b1) (hs:scMs H env) (hl:s1.map tyOf=H) (hr:MRs s1 s2):MR (.bd t b1 s1) (.bd t b2 (cH s2 env))
inductive MRs:List Mn->List Mn->Prop
 | nil:MRs [] []
 | cons {a b:Mn} {la lb:List Mn} (h:MR a b) (hs:MRs la lb):MRs (a::la) (b::lb)
end
inductive GRs:List Gf->List Gf->Prop
 | nil:GRs [] []
 | same {y no:Bd} {e1 e2:List Mn} {K1 K2:List Gf} (h:MRs e1 e2) (hk:GRs K1 K2):GRs (⟨y,no,e1⟩::K1) (⟨y,no,e2⟩::K2)
 | wrote {x z y no:Bd} {env s1 s2:List Mn} {st K1 K2:List Gf} {d:Nat} {H:List Ty} (hy:evF d y env H.length st=some x) (hn:evF d no env H.length st=some z) (hs:scMs H env) (hg:scGs H st) (hl:s1.map tyOf=H) (hr:MRs s1 s2) (hk:GRs K1 K2) :
  GRs (⟨x,z,s1⟩::K1) (⟨y,no,cH s2 env⟩::(substGs s2 st++K2))
theorem MRs.length:∀ {a b:List Mn},MRs a b->a.length=b.length
 | _,_,.nil=>rfl
 | _,_,.cons _ hs=>by simp [MRs.length hs]
theorem MRs.at:∀ {a b:List Mn},MRs a b->∀ (k:Nat) (m:Mn),a[k]? = some m->∃ m',b[k]? = some m'/\MR m m'
 | _,_,.nil,k,m,h=>by simp at h
 | _,_,.cons h hs,k,m,hk=>by
   cases k with
   | zero=>simp at hk;subst hk;exact ⟨_,rfl,h⟩
   | succ k=>simp only [List.getElem?_cons_succ] at *;exact MRs.at hs k m hk
theorem MRs.append:∀ {a b:List Mn},MRs a b->∀ {c d:List Mn},MRs c d->MRs (a++c) (b++d)
 | _,_,.nil,_,_,h=>h
 | _,_,.cons h hs,_,_,k=>.cons h (MRs.append hs k)
mutual
theorem MR.refl:∀ m:Mn,MR m m
 | .op o t=>.op o t
 | .bd t b e=>.same (MRs.refl e)
theorem MRs.refl:∀ ms:List Mn,MRs ms ms
 | []=>.nil
 | m::ms=>.cons (MR.refl m) (MRs.refl ms)
end
theorem MRs.owns {e1 e2:List Mn} (h:MRs e1 e2):∀ (ts:List Ty) (ss:List Bd),MRs (owns e1 ts ss) (Go.Proofs.YtjggkhmojjaomaaGreatDoor.owns e2 ts ss)
 | [],ss=>by
   rw [Go.Proofs.YtjggkhmojjaomaaGreatDoor.owns,Go.Proofs.YtjggkhmojjaomaaGreatDoor.owns]
   ·exact .nil
   ·intros;contradiction
   ·intros;contradiction
 | t::ts,[]=>by
   rw [Go.Proofs.YtjggkhmojjaomaaGreatDoor.owns,Go.Proofs.YtjggkhmojjaomaaGreatDoor.owns]
   ·exact .nil
   ·intros;contradiction
   ·intros;contradiction
 | t::ts,s::ss=>by
   rw [Go.Proofs.YtjggkhmojjaomaaGreatDoor.owns,Go.Proofs.YtjggkhmojjaomaaGreatDoor.owns]
   exact .cons (.same h) (MRs.owns h ts ss)
inductive CR:Bd->List Mn->List Gf->Bd->List Mn->List Gf->Prop
 | same {b:Bd} {e1 e2:List Mn} {K1 K2:List Gf} (h:MRs e1 e2) (hk:GRs K1 K2):CR b e1 K1 b e2 K2
 | wrote {b1 b2:Bd} {env s1 s2:List Mn} {st K1 K2:List Gf} {d:Nat} {H:List Ty} (h:evF d b2 env H.length st=some b1) (hs:scMs H env) (hg:scGs H st) (hl:s1.map tyOf=H) (hr:MRs s1 s2) (hk:GRs K1 K2) :
  CR b1 s1 K1 b2 (cH s2 env) (substGs s2 st++K2)
structure Mixed (env:List Mn) (hand:List Ty):Prop where
 len:env.length=hand.length
 each:∀ i t,hand[i]? = some t->env[i]? = some (Mn.op i t)\/∃ (v:Nat) (e:List Mn),env[i]? = some (Mn.bd t (eta t v e.length) e)/\e[v]? = some (Mn.op i t)
theorem Mixed.opens {env:List Mn} {hand:List Ty} (h:Mixed env hand) (ts:List Ty):Mixed (env++Go.Proofs.YtjggkhmojjaomaaGreatDoor.opens hand.length ts) (hand++ts):=by
 have hl:=h.len
 refine ⟨by rw [List.length_append,List.length_append,kT,hl],fun i t hi=>?_⟩
 rcases Nat.lt_or_ge i hand.length with fT | tf
 ·rw [List.getElem?_append_left fT] at hi
  rw [List.getElem?_append_left (by omega)]
  exact h.each i t hi
 ·rw [List.getElem?_append_right tf] at hi
  left
  rw [List.getElem?_append_right (by omega),hl,y_ ts hand.length _ t hi,show hand.length+(i-hand.length)=i from by omega]
theorem Mixed.more {env:List Mn} {hand:List Ty} (h:Mixed env hand) (e2:List Mn) (ts:List Ty) :
 Mixed (env++owns (e2++Go.Proofs.YtjggkhmojjaomaaGreatDoor.opens hand.length ts) ts (jp ts e2.length (e2.length+ts.length))) (hand++ts):=by
 have hl:=h.len
 refine ⟨?_,fun i t hi=>?_⟩
 ·rw [List.length_append,List.length_append,yG _ _ (uN _ _ _).symm,hl]
 ·rcases Nat.lt_or_ge i hand.length with fT | tf
  ·rw [List.getElem?_append_left fT] at hi
   rw [List.getElem?_append_left (by omega)]
   exact h.each i t hi
  ·rw [List.getElem?_append_right tf] at hi
   have h1:=dj ts e2.length (e2.length+ts.length) _ t hi
   have h2:=pw (env:=e2++Go.Proofs.YtjggkhmojjaomaaGreatDoor.opens hand.length ts) ts _ _ t _ hi h1
   have h3:=y_ ts hand.length _ t hi
   right
   refine ⟨e2.length+(i-hand.length),e2++Go.Proofs.YtjggkhmojjaomaaGreatDoor.opens hand.length ts,?_,?_⟩
   ·rw [List.getElem?_append_right (by omega),hl,h2,List.length_append,kT]
   ·rw [List.getElem?_append_right (by omega),Nat.add_sub_cancel_left,h3,show hand.length+(i-hand.length)=i from by omega]
def Waits (st:List Gf):Prop:=st=[]\/∃ e,st=[⟨.leaf 116,.leaf 102,e⟩]
structure Composed (a b c m n out:Bs) (x y z:Ty) (f g o:Bd):Prop where
 ta:zI a=(x,true)
 tb:zI b=(y,true)
 tc:zI c=(z,true)
 ea:a=zN x
 eb:b=zN y
 ec:c=zN z
 gf:Good (zd x y) f
 gg:Good (zd y z) g
 em:m=kM f
 en:n=kM g
 ho:jB g (composeEnv x y f z.args) (1+z.args.length)=some o
 go:Good (zd x z) o
 eo:out=kM o
theorem Composed.valid {a b c m n out:Bs} {x y z:Ty} {f g o:Bd} (h:Composed a b c m n out x y z f g o):qw (cd a c) out=some o:=by
 rw [h.ea,h.ec,arrowText_eq,h.eo]
 exact xB h.go
mutual
def qT (f:Nat->Nat) (b:Bd):Bd:=match b with
 | .leaf c=>.leaf c
 | .ask v ss y no=>.ask (f v) (qQ f ss) (qT f y) (qT f no)
def qQ (f:Nat->Nat) (bs:List Bd):List Bd:=match bs with
 | []=>[]
 | b::bs=>qT f b::qQ f bs
end
theorem cE (f:Nat->Nat):∀ bs:List Bd,qQ f bs=bs.map (qT f)
 | []=>by rw [qQ];rfl
 | b::bs=>by rw [qQ,cE f bs];rfl
mutual
theorem dL:∀ b:Bd,qT id b=b
 | .leaf c=>by rw [qT]
 | .ask v ss y no=>by rw [qT,renBs_id ss,dL y,dL no];rfl
theorem renBs_id:∀ bs:List Bd,qQ id bs=bs
 | []=>by rw [qQ]
 | b::bs=>by rw [qQ,dL b,renBs_id bs]
end
def up (n k v:Nat):Nat:=if n<=v then v+k else v
mutual
theorem xf:∀ (b:Bd) (n k:Nat),zo b n k=qT (up n k) b
 | .leaf c,n,k=>by rw [zo,qT]
 | .ask v ss y no,n,k=>by rw [zo,qT,d8 ss n k,xf y n k,xf no n k];rfl
theorem d8:∀ (bs:List Bd) (n k:Nat),zg bs n k=qQ (up n k) bs
 | [],n,k=>by rw [zg,qQ]
 | b::bs,n,k=>by rw [zg,qQ,xf b n k,d8 bs n k]
end
def cY (f:Nat->Nat) (N:Nat):Prop:=∀ i,f (N+i)=f N+i
theorem cY.more {f:Nat->Nat} {N:Nat} (h:cY f N) (k:Nat):cY f (N+k):=fun i=>by
 rw [Nat.add_assoc,h,h,Nat.add_assoc]
theorem along_id (N:Nat):cY id N:=fun i=>rfl
mutual
theorem eta_ren:∀ (t:Ty) (v n:Nat) (f:Nat->Nat),cY f n->qT f (eta t v n)=eta t (f v) (f n)
 | .mk ts,v,n,f,h=>by rw [eta,eta,qT,etas_ren ts n (n+ts.length) f (h.more _) (fun i hi=>h i),h];rfl
theorem etas_ren:∀ (ts:List Ty) (v n:Nat) (f:Nat->Nat),cY f n->(∀ i,i<ts.length->f (v+i)=f v+i)->qQ f (jp ts v n)=jp ts (f v) (f n)
 | [],v,n,f,_,_=>by rw [jp,jp,qQ]
 | t::ts,v,n,f,h,hv=>by
   rw [jp,jp,qQ,eta_ren t v n f h]
   cases ts with
   | nil=>rw [jp,jp,qQ]
   | cons u us =>
     have h1:=hv 1 (by simp)
     rw [etas_ren (u::us) (v+1) n f h (fun i hi=>by
      have:=hv (1+i) (by simp at hi ⊢;omega)
      rw [Nat.add_assoc,this,h1];omega),h1]
end
structure yL (f g:Nat->Nat) (env:List Mn) (hand:List Ty) (m:Nat):Prop where
 len:env.length=f hand.length
 cnt:m=g hand.length
 af:cY f hand.length
 ag:cY g hand.length
 each:∀ i t,hand[i]? = some t->env[f i]? = some (Mn.op (g i) t)\/∃ (v:Nat) (e:List Mn),env[f i]? = some (Mn.bd t (eta t v e.length) e)/\e[v]? = some (Mn.op (g i) t)
theorem yL.lt {f g:Nat->Nat} {env:List Mn} {hand:List Ty} {m:Nat} (h:yL f g env hand m) {i:Nat} {t:Ty} (hi:hand[i]? = some t):f i<env.length:=by
 rcases h.each i t hi with k | ⟨_,_,k,_⟩ <;> exact (List.getElem?_eq_some_iff.1 k).1
theorem yL.opens {f g:Nat->Nat} {env:List Mn} {hand:List Ty} {m:Nat} (h:yL f g env hand m) (ts:List Ty):yL f g (env++Go.Proofs.YtjggkhmojjaomaaGreatDoor.opens m ts) (hand++ts) (m+ts.length):=by
 refine ⟨?_,?_,?_,?_,fun i t hi=>?_⟩
 ·rw [List.length_append,List.length_append,kT,h.af,h.len]
 ·rw [List.length_append,h.ag,h.cnt]
 ·rw [List.length_append];exact h.af.more _
 ·rw [List.length_append];exact h.ag.more _
 ·rcases Nat.lt_or_ge i hand.length with fT | tf
  ·rw [List.getElem?_append_left fT] at hi
   rw [List.getElem?_append_left (h.lt hi)]
   exact h.each i t hi
  ·rw [List.getElem?_append_right tf] at hi
   have e1:=h.af (i-hand.length)
   have e2:=h.ag (i-hand.length)
   rw [show hand.length+(i-hand.length)=i from by omega] at e1 e2
   left
   rw [e1,e2,<- h.len,<- h.cnt,List.getElem?_append_right (by omega),Nat.add_sub_cancel_left]
   exact y_ ts m _ t hi
theorem yL.more {f g:Nat->Nat} {env:List Mn} {hand:List Ty} {m:Nat} (h:yL f g env hand m) (e2:List Mn) (ts:List Ty) :
 yL f g (env++owns (e2++Go.Proofs.YtjggkhmojjaomaaGreatDoor.opens m ts) ts (jp ts e2.length (e2.length+ts.length))) (hand++ts) (m+ts.length):=by
 refine ⟨?_,?_,?_,?_,fun i t hi=>?_⟩
 ·rw [List.length_append,List.length_append,yG _ _ (uN _ _ _).symm,h.af,h.len]
 ·rw [List.length_append,h.ag,h.cnt]
 ·rw [List.length_append];exact h.af.more _
 ·rw [List.length_append];exact h.ag.more _
 ·rcases Nat.lt_or_ge i hand.length with fT | tf
  ·rw [List.getElem?_append_left fT] at hi
   rw [List.getElem?_append_left (h.lt hi)]
   exact h.each i t hi
  ·rw [List.getElem?_append_right tf] at hi
   have q1:=h.af (i-hand.length)
   have q2:=h.ag (i-hand.length)
   rw [show hand.length+(i-hand.length)=i from by omega] at q1 q2
   have h1:=dj ts e2.length (e2.length+ts.length) _ t hi
   have h2:=pw (env:=e2++Go.Proofs.YtjggkhmojjaomaaGreatDoor.opens m ts) ts _ _ t _ hi h1
   have h3:=y_ ts m _ t hi
   right
   refine ⟨e2.length+(i-hand.length),e2++Go.Proofs.YtjggkhmojjaomaaGreatDoor.opens m ts,?_,?_⟩
   ·rw [q1,<- h.len,List.getElem?_append_right (by omega),Nat.add_sub_cancel_left,h2,List.length_append,kT]
   ·rw [q2,<- h.cnt,List.getElem?_append_right (by omega),Nat.add_sub_cancel_left,h3]
def Goes (d l:Nat) (b:Bd) (env:List Mn) (m:Nat) (st:List Gf) (r:Bd) (c:Nat):Prop:=∃ l',ev d l b env m st=some (r,l')/\l<=l'+c
mutual
theorem gt:∀ (b:Bd) (hand:List Ty) (f g:Nat->Nat) (env:List Mn) (m d l:Nat) (st:List Gf),jH hand b->wfB b->yL f g env hand m->Waits st->yM b<=d->yM b<=l->Goes d l (qT f b) env m st (qT g b) (yM b)
 | .leaf c,hand,f,g,env,m,d,l,st,hf,hw,hc,hst,hd,hl=>by
   rw [wfB] at hw
   rw [qT,qT]
   have mo:1<=yM (.leaf c):=by rw [yM];split <;> omega
   obtain ⟨d,rfl⟩:∃ k,d=k+1:=⟨d-1,by omega⟩
   obtain ⟨l,rfl⟩:∃ k,l=k+1:=⟨l-1,by omega⟩
   by_cases h:c=117
   ·subst h
    exact ⟨l,ev_u,by omega⟩
   ·rcases hst with rfl | ⟨e,rfl⟩
    ·exact ⟨l,gb,by omega⟩
    ·rw [yM,if_neg h] at *
     obtain ⟨d,rfl⟩:∃ k,d=k+1:=⟨d-1,by omega⟩
     obtain ⟨l,rfl⟩:∃ k,l=k+1:=⟨l-1,by omega⟩
     refine ⟨l,?_,by omega⟩
     rw [xN h]
     have e1:(if c=116 then (Gf.mk (.leaf 116) (.leaf 102) e).yes else (Gf.mk (.leaf 116) (.leaf 102) e).no)=.leaf c:=by
      rcases hw with rfl | rfl | rfl
      ·rfl
      ·rfl
      ·exact absurd rfl h
     rw [e1,gb]
 | .ask i ss y no,hand,f,g,env,m,d,l,st,hf,hw,hc,hst,hd,hl=>by
   rw [wfB] at hw
   rw [yM] at hd hl
   rw [jH] at hf
   obtain ⟨t,ht,h1,h2,h3⟩:=hf
   have hlen:=qI _ _ h1
   rw [jK] at hlen
   rw [qT,qT]
   obtain ⟨d,rfl⟩:∃ k,d=k+4:=⟨d-4,by omega⟩
   obtain ⟨l,rfl⟩:∃ k,l=k+4:=⟨l-4,by omega⟩
   rcases hc.each i t ht with k1 | ⟨v,e2,k1,k2⟩
   ·obtain ⟨l1,q1,b1⟩:=evs_ren ss t.args hand f g env m (d+3) (l+3) h1 hw.1 hc (by omega) (by omega)
    obtain ⟨l2,q2,b2⟩:=gt y hand f g env m (d+3) l1 st h2 hw.2.1 hc hst (by omega) (by omega)
    obtain ⟨l3,q3,b3⟩:=gt no hand f g env m (d+3) l2 st h3 hw.2.2 hc hst (by omega) (by omega)
    refine ⟨l3,?_,by rw [yM];omega⟩
    rw [eS k1,q1,Option.bind_some,q2,Option.bind_some,q3,Option.bind_some]
   ·have hv:=(List.getElem?_eq_some_iff.1 k2).1
    have Jp:t.args.length=(qQ f ss).length:=by rw [cE,List.length_map];exact hlen
    have hop:(e2++owns env t.args (qQ f ss))[v]? = some (Mn.op (g i) t):=by rw [List.getElem?_append_left hv];exact k2
    obtain ⟨l1,q1,b1⟩:=evs_ren2 ss t.args hand f g env (e2++owns env t.args (qQ f ss)) m (d+2) (l+2) e2.length h1 hw.1 hc (by omega) (by omega) (fun j a s ha hs=>by
     rw [List.getElem?_append_right (by omega),Nat.add_sub_cancel_left]
     exact pw _ _ _ _ _ ha (by rw [cE,List.getElem?_map,hs];rfl)) (by rw [List.length_append,yG _ _ Jp])
    obtain ⟨l2,q2,b2⟩:=gt y hand f g env m (d+1) (l1-1) st h2 hw.2.1 hc hst (by omega) (by omega)
    obtain ⟨l3,q3,b3⟩:=gt no hand f g env m (d+1) (l2-1) st h3 hw.2.2 hc hst (by omega) (by omega)
    refine ⟨l3,?_,by rw [yM];omega⟩
    rw [eT k1,eta_eq,eS hop,q1]
    simp only [Option.bind_some]
    rw [show l1=(l1-1)+1 from by omega,xN (by decide)]
    simp only [if_true]
    rw [q2]
    simp only [Option.bind_some]
    rw [show l2=(l2-1)+1 from by omega,xN (by decide),if_neg (by decide),q3]
    rfl
theorem evs_ren:∀ (ss:List Bd) (ts:List Ty) (hand:List Ty) (f g:Nat->Nat) (env:List Mn) (m d l:Nat),qe (jN hand ts) ss->uL ss->yL f g env hand m->yM.costs ss<=d->yM.costs ss<=l ->
 ∃ l',kQ (ev d) env m l ts (qQ f ss)=some (qQ g ss,l')/\l<=l'+yM.costs ss
 | [],ts,hand,f,g,env,m,d,l,hf,hw,hc,hd,hl=>by
   have:=qI _ _ hf
   rw [jK] at this
   obtain rfl:ts=[]:=List.eq_nil_of_length_eq_zero this
   refine ⟨l,?_,by omega⟩
   rw [qQ,qQ,kQ]
   intros;contradiction
 | s::ss,[],hand,f,g,env,m,d,l,hf,hw,hc,hd,hl=>by
   have:=qI _ _ hf
   rw [jK] at this
   simp at this
 | s::ss,t::ts,hand,f,g,env,m,d,l,hf,hw,hc,hd,hl=>by
   rw [yM.costs] at *
   rw [uL] at hw
   rw [qe] at hf
   obtain ⟨h',aK,e',f1,f2⟩:=hf
   simp only [jN,List.map_cons,List.cons.injEq] at e'
   obtain ⟨rfl,rfl⟩:=e'
   obtain ⟨l1,q1,b1⟩:=gt s (hand++t.args) f g (env++opens m t.args) (m+t.args.length) d l [] f1 hw.1 (hc.opens t.args) (.inl rfl) (by omega) (by omega)
   obtain ⟨l2,q2,b2⟩:=evs_ren ss ts hand f g env m d l1 f2 hw.2 hc (by omega) (by omega)
   refine ⟨l2,?_,by omega⟩
   rw [qQ,qQ,kQ,q1]
   simp only [Option.bind_eq_bind,Option.bind_some,q2]
theorem evs_ren2:∀ (ss:List Bd) (ts:List Ty) (hand:List Ty) (f g:Nat->Nat) (env e2:List Mn) (m d l v:Nat),qe (jN hand ts) ss->uL ss->yL f g env hand m->yM.costs ss<=d->yM.costs ss<=l ->
 (∀ j a s,ts[j]? = some a->ss[j]? = some s->e2[v+j]? = some (.bd a (qT f s) env))->∀ {N:Nat},e2.length=N ->
 ∃ l',kQ (ev d) e2 m l ts (jp ts v N)=some (qQ g ss,l')/\l<=l'+yM.costs ss
 | [],ts,hand,f,g,env,e2,m,d,l,v,hf,hw,hc,hd,hl,hk,N,hN=>by
   have:=qI _ _ hf
   rw [jK] at this
   obtain rfl:ts=[]:=List.eq_nil_of_length_eq_zero this
   refine ⟨l,?_,by omega⟩
   rw [jp,qQ,kQ]
   intros;contradiction
 | s::ss,[],hand,f,g,env,e2,m,d,l,v,hf,hw,hc,hd,hl,hk,N,hN=>by
   have:=qI _ _ hf
   rw [jK] at this
   simp at this
 | s::ss,t::ts,hand,f,g,env,e2,m,d,l,v,hf,hw,hc,hd,hl,hk,N,hN=>by
   subst hN
   rw [yM.costs] at *
   rw [uL] at hw
   rw [qe] at hf
   obtain ⟨h',aK,e',f1,f2⟩:=hf
   simp only [jN,List.map_cons,List.cons.injEq] at e'
   obtain ⟨rfl,rfl⟩:=e'
   obtain ⟨d,rfl⟩:∃ k,d=k+1:=⟨d-1,by omega⟩
   obtain ⟨l,rfl⟩:∃ k,l=k+1:=⟨l-1,by omega⟩
   have h0:=hk 0 t s rfl rfl
   rw [Nat.add_zero] at h0
   have fT:=(List.getElem?_eq_some_iff.1 h0).1
   obtain ⟨l1,q1,b1⟩:=gt s (hand++t.args) f g _ (m+t.args.length) d l [⟨.leaf 116,.leaf 102,e2++opens m t.args⟩] f1 hw.1 (hc.more e2 t.args) (.inr ⟨_,rfl⟩) (by omega) (by omega)
   obtain ⟨l2,q2,b2⟩:=evs_ren2 ss ts hand f g env e2 m (d+1) l1 (v+1) f2 hw.2 hc (by omega) (by omega) (fun j a s' ha hs=>by
    have:=hk (j+1) a s' (by simpa using ha) (by simpa using hs)
    rw [show v+1+j=v+(j+1) from by omega];exact this) rfl
   refine ⟨l2,?_,by omega⟩
   rw [jp,qQ,kQ,eta_eq,eT (t:=t) (b':=qT f s) (e:=env) (by rw [List.getElem?_append_left fT];exact h0),q1]
   simp only [Option.bind_eq_bind,Option.bind_some,q2]
end
mutual
theorem wi:∀ (b:Bd) (f:Nat->Nat),zW (qT f b)=zW b
 | .leaf c,f=>by rw [qT]
 | .ask v ss y no,f=>by rw [qT,zW,zW,ren_sizes ss f,wi y f,wi no f]
theorem ren_sizes:∀ (bs:List Bd) (f:Nat->Nat),zR (qQ f bs)=zR bs
 | [],f=>by rw [qQ]
 | b::bs,f=>by rw [qQ,zR,zR,wi b f,ren_sizes bs f]
end
theorem dec_inj {a b:Nat} (h:dec a=dec b):a=b:=by rw [<- dec_val a,h,dec_val]
theorem lname_inj {a b:Nat} (h:lname a=lname b):a=b:=dec_inj (List.cons.inj h).2
structure fV (ns:List Nm) (H:List Ty):Prop where
 len:ns.length=H.length
 each:∀ i k,H[i]? = some k->ns[i]? = some (lname i,k)
theorem fV.nil:fV [] []:=⟨rfl,fun i k h=>by simp at h⟩
theorem fV.kinds {ns:List Nm} {H:List Ty} (h:fV ns H):kinds ns=H:=by
 apply List.ext_getElem?
 intro i
 cases hi:H[i]? with
 | none =>
   have:H.length<=i:=List.getElem?_eq_none_iff.1 hi
   exact List.getElem?_eq_none (by rw [qL,h.len];exact this)
 | some k=>exact uK (h.each i k hi)
theorem dB {ns:List Nm} {H:List Ty} (h:fV ns H) {v:Nat} (hv:v<H.length):∀ n,v<n->n<=H.length->ke ns (lname v) n=some v
 | 0,h0,_=>by omega
 | n+1,hn,hl=>by
   rw [ke]
   obtain ⟨k,hk⟩:∃ k,H[n]? = some k:=⟨H[n],by simp [show n<H.length from by omega]⟩
   rw [h.each n k hk]
   simp only [Option.map_some,Option.some.injEq]
   by_cases e:n=v
   ·subst e;rw [if_pos rfl]
   ·rw [if_neg (fun h'=>e (lname_inj h')),dB h hv n (by omega) (by omega)]
theorem fV.find {ns:List Nm} {H:List Ty} (h:fV ns H) {v:Nat} {t:Ty} (hv:H[v]? = some t):q_ ns (lname v)=some v/\ns[v]? = some (lname v,t):=by
 have fT:=(List.getElem?_eq_some_iff.1 hv).1
 exact ⟨by unfold q_;exact dB h fT _ (by rw [h.len];exact fT) (by rw [h.len];exact fP _),h.each v t hv⟩
def xD:Tm->Prop
 | .nm x=>qj x=false
 | .wd w=>qG w=false
 | .lam x _ t=>qj x=false/\xD t
 | .app m n=>xD m/\xD n
 | .ite l m n=>xD l/\xD m/\xD n
theorem ul:∀ a b:Tm,uZ a->xD b->z_ a=z_ b->a=b
 | .nm x,b,ha,hb,h=>by
   cases b with
   | nm y=>simp only [z_,Tr.am.injEq] at h;rw [h]
   | wd y =>
     simp only [z_,Tr.am.injEq] at h
     subst h
     have h1:qG x=true:=ha
     have h2:qG x=false:=hb
     rw [h1] at h2;simp at h2
   | lam y l u=>simp [z_] at h
   | app m n=>simp [z_] at h
   | ite l m n=>simp [z_] at h
 | .wd x,b,ha,hb,h=>by
   cases b with
   | wd y=>simp only [z_,Tr.am.injEq] at h;rw [h]
   | nm y =>
     simp only [z_,Tr.am.injEq] at h
     subst h
     have h1:qj x=true:=ha
     have h2:qj x=false:=hb
     rw [h1] at h2;simp at h2
   | lam y l u=>simp [z_] at h
   | app m n=>simp [z_] at h
   | ite l m n=>simp [z_] at h
 | .lam x k t,b,ha,hb,h=>by
   cases b with
   | lam y l u =>
     simp only [z_,Tr.ls.injEq,List.cons.injEq,Tr.am.injEq,and_true,true_and] at h
     obtain ⟨rfl,hk,ht⟩:=h
     obtain rfl:=cW (show zN k=zN l from by rw [<- ju,hk,ju])
     rw [ul t u ha.2 hb.2 ht]
   | nm y=>simp [z_] at h
   | wd y=>simp [z_] at h
   | app m n=>simp [z_] at h
   | ite l m n=>simp [z_,jq,ifW] at h
 | .app m n,b,ha,hb,h=>by
   cases b with
   | app p q =>
     simp only [z_,Tr.ls.injEq,List.cons.injEq,and_true,true_and] at h
     rw [ul m p ha.1 hb.1 h.1,ul n q ha.2 hb.2 h.2]
   | nm y=>simp [z_] at h
   | wd y=>simp [z_] at h
   | lam y l u=>simp [z_] at h
   | ite l m n=>simp [z_] at h
 | .ite l m n,b,ha,hb,h=>by
   cases b with
   | ite o p q =>
     simp only [z_,Tr.ls.injEq,List.cons.injEq,and_true,true_and] at h
     rw [ul l o ha.1 hb.1 h.1,ul m p ha.2.1 hb.2.1 h.2.1,ul n q ha.2.2 hb.2.2 h.2.2]
   | nm y=>simp [z_] at h
   | wd y=>simp [z_] at h
   | lam y l u=>simp [z_,jq,ifW] at h
   | app p q=>simp [z_] at h
mutual
def wkM (a:Ty):Mn->Mn
 | .op o t=>.op (o+1) t
 | .bd t b e=>.bd t (qT Nat.succ b) (.op 0 a::xz a e)
def xz (a:Ty):List Mn->List Mn
 | []=>[]
 | m::ms=>wkM a m::xz a ms
end
def wkE (a:Ty) (e:List Mn):List Mn:=.op 0 a::xz a e
def wkG (a:Ty) (f:Gf):Gf:=⟨qT Nat.succ f.yes,qT Nat.succ f.no,wkE a f.env⟩
theorem xP (a:Ty):∀ (x y:List Mn),xz a (x++y)=xz a x++xz a y
 | [],y=>by rw [xz];rfl
 | m::x,y=>by rw [List.cons_append,xz,xz,xP a x y];rfl
theorem wkMs_at (a:Ty):∀ (x:List Mn) (i:Nat),(xz a x)[i]? = x[i]?.map (wkM a)
 | [],i=>by rw [xz];simp
 | m::x,i=>by
   rw [xz]
   cases i with
   | zero=>rfl
   | succ i=>rw [List.getElem?_cons_succ,List.getElem?_cons_succ,wkMs_at a x i]
theorem wK (a:Ty):∀ (ts:List Ty) (n:Nat),xz a (opens n ts)=opens (n+1) ts
 | [],n=>by rw [opens,opens,xz]
 | t::ts,n=>by rw [opens,opens,xz,wkM,wK a ts (n+1)]
theorem wkMs_owns (a:Ty) (env:List Mn):∀ (ts:List Ty) (ss:List Bd),xz a (owns env ts ss)=owns (wkE a env) ts (qQ Nat.succ ss)
 | [],ss=>by
   rw [owns,owns,xz]
   ·intros;contradiction
   ·intros;contradiction
 | t::ts,[]=>by
   rw [qQ,owns,owns,xz]
   ·intros;contradiction
   ·intros;contradiction
 | t::ts,s::ss=>by rw [qQ,owns,owns,xz,wkM,wkMs_owns a env ts ss];rfl
theorem wkE_opens (a:Ty) (env:List Mn) (n:Nat) (ts:List Ty):wkE a env++opens (n+1) ts=wkE a (env++opens n ts):=by
 unfold wkE;rw [xP,wK];rfl
def mapB (x:Option (Bd×Nat)):Option (Bd×Nat):=x.map fun y=>(qT Nat.succ y.1,y.2)
theorem evSubs_wk (a:Ty) {d:Nat} (ih:∀ (l:Nat) (b:Bd) (env:List Mn) (n:Nat) (st:List Gf),ev d l (qT Nat.succ b) (wkE a env) (n+1) (st.map (wkG a))=mapB (ev d l b env n st)) (env:List Mn) (n:Nat) :
 ∀ (ts:List Ty) (ss:List Bd) (l:Nat),kQ (ev d) (wkE a env) (n+1) l ts (qQ Nat.succ ss)=(kQ (ev d) env n l ts ss).map fun y=>(qQ Nat.succ y.1,y.2)
 | [],ss,l=>by
   rw [kQ,kQ]
   ·rw [Option.map_some,qQ]
   ·intros;contradiction
   ·intros;contradiction
 | t::ts,[],l=>by
   rw [qQ,kQ,kQ]
   ·rw [Option.map_some,qQ]
   ·intros;contradiction
   ·intros;contradiction
 | t::ts,s::ss,l=>by
   have h:=ih l s (env++opens n t.args) (n+t.args.length) []
   rw [List.map_nil,<- wkE_opens] at h
   rw [qQ,kQ,kQ,show n+1+t.args.length=n+t.args.length+1 from by omega,h]
   cases ev d l s (env++opens n t.args) (n+t.args.length) [] with
   | none=>rfl
   | some x =>
     simp only [mapB,Option.map_some,Option.bind_eq_bind,Option.bind_some]
     rw [evSubs_wk a ih env n ts ss x.2]
     cases kQ (ev d) env n x.2 ts ss with
     | none=>rfl
     | some y=>simp only [Option.map_some,Option.bind_some,qQ]
theorem ev_wk (a:Ty) (d:Nat):∀ (l:Nat) (b:Bd) (env:List Mn) (n:Nat) (st:List Gf),ev d l (qT Nat.succ b) (wkE a env) (n+1) (st.map (wkG a))=mapB (ev d l b env n st):=by
 induction d with
 | zero=>intro l b env n st;rw [ev.eq_def,ev.eq_def];rfl
 | succ d ih =>
   intro l b env n st
   cases l with
   | zero=>rw [ev.eq_def,ev.eq_def];rfl
   | succ l =>
     cases b with
     | leaf c =>
       rw [qT]
       by_cases hc:c=117
       ·subst hc;rw [ev_u,ev_u];simp [mapB,qT]
       ·cases st with
        | nil=>rw [List.map_nil,gb,gb];simp [mapB,qT]
        | cons f st =>
          rw [List.map_cons,xN hc,xN hc]
          have:=ih l (if c=116 then f.yes else f.no) f.env n st
          rw [<- this]
          unfold wkG
          by_cases h6:c=116
          ·simp only [h6,if_true]
          ·simp only [if_neg h6]
     | ask v ss y no =>
       rw [qT]
       have fM:(wkE a env)[Nat.succ v]? = env[v]?.map (wkM a):=by unfold wkE;rw [List.getElem?_cons_succ,wkMs_at]
       cases hv:env[v]? with
       | none =>
         rw [hv] at fM
         rw [ev.eq_def,ev.eq_def]
         simp only [fM,hv,Option.map_none]
         rfl
       | some m =>
         rw [hv,Option.map_some] at fM
         cases m with
         | bd t b' e =>
           rw [wkM] at fM
           rw [eT fM,eT hv]
           have:=ih l b' (e++owns env t.args ss) n (⟨y,no,env⟩::st)
           rw [<- this]
           congr 1
           unfold wkE
           rw [xP,wkMs_owns];rfl
         | op o t =>
           rw [wkM] at fM
           rw [eS fM,eS hv,evSubs_wk a ih env n]
           cases kQ (ev d) env n l t.args ss with
           | none=>rfl
           | some x =>
             simp only [Option.map_some,Option.bind_some]
             rw [ih]
             cases ev d x.2 y env n st with
             | none=>rfl
             | some z =>
               simp only [mapB,Option.map_some,Option.bind_some]
               have:=ih z.2 no env n st
               unfold mapB at this
               rw [this]
               cases ev d z.2 no env n st with
               | none=>rfl
               | some u=>simp only [Option.map_some,Option.bind_some,qT]
mutual
theorem pz:∀ (b:Bd) (f:Nat->Nat),kP (qT f b)=kP b
 | .leaf c,f=>by rw [qT]
 | .ask v ss y no,f=>by rw [qT,kP,kP,d_ ss f,pz y f,pz no f]
theorem d_:∀ (bs:List Bd) (f:Nat->Nat),kI (qQ f bs)=kI bs
 | [],f=>by rw [qQ]
 | b::bs,f=>by rw [qQ,kI,kI,pz b f,d_ bs f]
end
theorem become_wk (a:Ty) (b:Bd) (env:List Mn) (n:Nat):jB (qT Nat.succ b) (wkE a env) (n+1)=(jB b env n).map (qT Nat.succ):=by
 unfold jB
 have:=ev_wk a 20000 20000 b env n []
 rw [List.map_nil] at this
 rw [this]
 cases ev 20000 20000 b env n [] with
 | none=>rfl
 | some x =>
   obtain ⟨o,l⟩:=x
   simp only [mapB,Option.map_some]
   rw [wi,pz]
   split <;> rfl
theorem between_wk (a:Ty) (H:List Ty) (k:Ty) (q:Bd) (rest:List Ty):zS (a::H) k (qT Nat.succ q) rest=wkE a (zS H k q rest):=by
 unfold zS wkE
 rw [xP,xz,wkM,wK,wK,opens,List.length_cons]
 simp
theorem small_wk (b:Bd) (f:Nat->Nat):vj (qT f b)=(vj b).map (qT f):=by
 unfold vj;rw [wi];split <;> rfl
theorem e_ (N:Nat):cY Nat.succ N:=fun i=>by omega
mutual
theorem bQ:∀ (b:Bd) (f g:Nat->Nat),qT f (qT g b)=qT (fun v=>f (g v)) b
 | .leaf c,f,g=>by rw [qT,qT,qT]
 | .ask v ss y no,f,g=>by rw [qT,qT,qT,ren_rens ss f g,bQ y f g,bQ no f g]
theorem ren_rens:∀ (bs:List Bd) (f g:Nat->Nat),qQ f (qQ g bs)=qQ (fun v=>f (g v)) bs
 | [],f,g=>by rw [qQ,qQ,qQ]
 | b::bs,f,g=>by rw [qQ,qQ,qQ,bQ b f g,ren_rens bs f g]
end
theorem shift_wk (b:Bd) (n k:Nat):zo (qT Nat.succ b) (n+1) k=qT Nat.succ (zo b n k):=by
 rw [xf,xf,bQ,bQ]
 congr 1
 funext v
 unfold up
 by_cases h:n<=v
 ·rw [if_pos h,if_pos (by omega)];omega
 ·rw [if_neg h,if_neg (by omega)]
theorem eN (f:Nat->Nat):∀ (b y n:Bd),kz (qT f b) (qT f y) (qT f n)=qT f (kz b y n)
 | .leaf c,y,n=>by
   rw [qT,kz,kz]
   split
   ·rfl
   ·split
    ·rfl
    ·rw [qT]
 | .ask v ss p q,y,n=>by rw [qT,kz,kz,qT,eN f p y n,eN f q y n]
theorem dC (p:Nm) (ns:List Nm) (x:Bs):∀ (n i:Nat),ke ns x n=some i->ke (p::ns) x (n+1)=some (i+1)
 | 0,i,h=>by simp [ke] at h
 | n+1,i,h=>by
   rw [ke] at h
   rw [ke,List.getElem?_cons_succ]
   split at h
   ·rename_i hc
    obtain rfl:=Option.some.inj h
    rw [if_pos hc]
   ·rename_i hc
    rw [if_neg hc]
    exact dC p ns x n i h
theorem gM:∀ (t:Tm) (p:Nm) (ns:List Nm) (k:Ty),typeOf ns t=some k->typeOf (p::ns) t=some k/\zD (p::ns) t=(zD ns t).map (qT Nat.succ)
 | .nm x,p,ns,k,h=>by
   rw [typeOf,Option.bind_eq_some_iff] at h
   obtain ⟨i,hi,h⟩:=h
   have hf:q_ (p::ns) x=some (i+1):=by unfold q_ at *;exact dC p ns x _ i hi
   rw [typeOf,zD,zD,hf,hi]
   simp only [Option.bind_some,List.getElem?_cons_succ]
   refine ⟨h,?_⟩
   rw [Option.map_eq_some_iff] at h
   obtain ⟨q,hq,_⟩:=h
   rw [hq]
   simp only [Option.bind_some]
   have e:=eta_ren q.2 i ns.length Nat.succ (e_ _)
   rw [List.length_cons,<- small_wk,e]
 | .wd w,p,ns,k,h=>by rw [typeOf] at h;rw [typeOf,zD,zD];exact ⟨h,by rw [Option.map_some,qT]⟩
 | .lam x a t,p,ns,k,h=>by
   obtain ⟨ha,b,hb,rfl⟩:=xv h
   have hk:¬ 15<zV (zd a b):=by
    rw [typeOf,if_neg (by omega),hb,Option.bind_some] at h
    split at h
    ·simp at h
    ·assumption
   obtain ⟨h1,h2⟩:=gM t p (ns++[(x,a)]) b hb
   rw [typeOf,zD,zD,if_neg (by omega),List.cons_append,h1,h2]
   simp only [Option.bind_some]
   rw [if_neg hk]
   refine ⟨?_,?_⟩ <;> first | rfl | trivial
 | .app m n,p,ns,k,h=>by
   obtain ⟨a,b,rest,h1,h2,h3,rfl⟩:=xy h
   obtain ⟨p1,p2⟩:=gM m p ns a h1
   obtain ⟨q1,q2⟩:=gM n p ns b h2
   refine ⟨?_,?_⟩
   ·rw [typeOf,p1,q1]
    simp only [Option.bind_some,h3,if_true]
   ·rw [zD,zD,p2,q2,p1,h1]
    cases zD ns m with
    | none=>rfl
    | some c =>
      cases zD ns n with
      | none=>rfl
      | some d =>
        simp only [Option.map_some,Option.bind_some,h3]
        have:kinds (p::ns)=p.2::kinds ns:=by simp [kinds]
        rw [this,between_wk,List.length_cons,show ns.length+1+rest.length=ns.length+rest.length+1 from by omega,become_wk]
 | .ite l m n,p,ns,k,h=>by
   obtain ⟨h1,h2,h3⟩:=xu h
   obtain ⟨p1,p2⟩:=gM l p ns _ h1
   obtain ⟨q1,q2⟩:=gM m p ns _ h2
   obtain ⟨r1,r2⟩:=gM n p ns _ h3
   refine ⟨?_,?_⟩
   ·rw [typeOf,p1,q1,r1]
    simp [Ty.args]
   ·rw [zD,zD,p2,q2,r2,q1,h2]
    cases zD ns l with
    | none=>rfl
    | some a =>
      cases zD ns m with
      | none=>rfl
      | some b =>
        cases zD ns n with
        | none=>rfl
        | some c =>
          simp only [Option.map_some,Option.bind_some]
          rw [List.length_cons,shift_wk,eN,small_wk]
theorem beta_const {k a:Ty} {m q out:Bd} (hg:Good k m) (h:jB (qT Nat.succ m) (zS [] a q k.args) k.args.length=some out):out=m:=by
 have hc:=dy m
 have hs:=hg.size
 have R:yL Nat.succ id (zS [] a q k.args) k.args k.args.length:=by
  refine ⟨?_,rfl,e_ _,along_id _,fun i t hi=>.inl ?_⟩
  ·unfold zS;rw [opens,List.nil_append,List.length_cons,kT]
  ·unfold zS
   rw [opens,List.nil_append,List.length_nil,List.getElem?_cons_succ,y_ _ 0 i t hi,Nat.zero_add];rfl
 obtain ⟨l',h1,_⟩:=gt m k.args Nat.succ id _ k.args.length 20000 20000 [] hg.fit hg.wf R (.inl rfl) (by omega) (by omega)
 rw [dL] at h1
 unfold jB at h
 rw [h1] at h
 simp only at h
 rw [if_pos ⟨hg.size,hg.depth⟩] at h
 exact (Option.some.inj h).symm
def yx (s:Bs):Option Bs:=(jw s).map fun x=>kM x.2
def termTy (s:Bs):Option Bs:=(xp s).map zN
theorem xZ:∀ t:Tm,uZ t->xD t
 | .nm x,h=>by
   have h1:qG x=true:=h
   show qj x=false
   cases hq:qj x with
   | false=>rfl
   | true=>rw [yw hq] at h1;simp at h1
 | .wd w,h=>yw h
 | .lam x k t,h=>⟨by
  have h1:qG x=true:=h.1
  cases hq:qj x with
  | false=>rfl
  | true=>rw [yw hq] at h1;simp at h1,xZ t h.2⟩
 | .app m n,h=>⟨xZ m h.1,xZ n h.2⟩
 | .ite l m n,h=>⟨xZ l h.1,xZ m h.2.1,xZ n h.2.2⟩
theorem tm_inj {a b:Tm} (ha:uZ a) (hb:uZ b) (h:zt a=zt b):a=b :=
 ul a b ha (xZ b hb) (gN (vU a ha) (vU b hb) h)
theorem read_as {s:Bs} {t u:Tm} (h:qD s=some u) (ht:uZ t) (e:s=zt t):u=t:=by
 obtain ⟨e2,ho,_⟩:=jr h
 exact tm_inj ho ht (by rw [<- e2,e])
theorem yZ {s:Bs} {k:Ty} {b:Bd} (h:jw s=some (k,b)):∃ t,qD s=some t/\uZ t/\s=zt t/\typeOf [] t=some k/\zD [] t=some b:=by
 unfold jw at h
 simp only [Option.bind_eq_some_iff,Option.map_eq_some_iff,Prod.mk.injEq] at h
 obtain ⟨t,h1,k',h2,b',h3,rfl,rfl⟩:=h
 obtain ⟨e,ho,_⟩:=jr h1
 exact ⟨t,h1,ho,e,h2,h3⟩
theorem y5 {s out:Bs} (h:yx s=some out):∃ k b,jw s=some (k,b)/\out=kM b/\Good k b/\termTy s=some (zN k):=by
 unfold yx at h
 rw [Option.map_eq_some_iff] at h
 obtain ⟨⟨k,b⟩,h1,rfl⟩:=h
 obtain ⟨h2,h3⟩:=bH h1
 exact ⟨k,b,h1,rfl,h3,by unfold termTy;rw [h2];rfl⟩
def b8 (s:Bs):Bs:=[40,97,112,112,32,40,108,97,109,32,122,57,32,98,32]++s++[41,32,116,41]
def ifText (s:Bs):Bs:=[40,105,102,32,116,32]++s++[32,117,41]
theorem beta_text (t:Tm):b8 (zt t)=zt (.app (.lam [122,57] (.mk []) t) (.wd [116])):=by
 unfold b8
 rw [ue,um,uB,wd_text]
 simp [vT,jq]
theorem if_text (t:Tm):ifText (zt t)=zt (.ite (.wd [116]) t (.wd [117])):=by
 unfold ifText
 rw [ur,wd_text,wd_text]
 simp [ifW]
theorem beta_law {s out x:Bs} (h:yx s=some out) (hx:yx (b8 s)=some x):x=out:=by
 obtain ⟨k,b,h1,rfl,hg,_⟩:=y5 h
 obtain ⟨k',b',g1,rfl,_,_⟩:=y5 hx
 obtain ⟨t,_,o1,rfl,t1,m1⟩:=yZ h1
 obtain ⟨u,r2,_,_,t2,m2⟩:=yZ g1
 have ho:uZ (.app (.lam [122,57] (.mk []) t) (.wd [116])):=⟨⟨by decide,o1⟩,show qj [116]=true from by decide⟩
 obtain rfl:=read_as r2 ho (beta_text t)
 obtain ⟨a,c,rest,a1,a2,a3,rfl⟩:=xy t2
 obtain ⟨_,d,d1,rfl⟩:=xv a1
 obtain ⟨w1,w2⟩:=gM t ([122,57],.mk []) [] k t1
 rw [List.nil_append] at d1
 rw [w1] at d1
 obtain rfl:=Option.some.inj d1
 have e3:(zd (.mk []) k).args=Ty.mk []::k.args:=rfl
 have rB:zD [] (.lam [122,57] (.mk []) t)=some (qT Nat.succ b):=by rw [zD,List.nil_append,w2,m1];rfl
 rw [zD,rB,Option.bind_some,zD,Option.bind_some,a1,Option.bind_some,e3] at m2
 simp only [List.length_nil,Nat.zero_add,kinds,List.map_nil] at m2
 rw [beta_const hg m2]
theorem if_law {s out y:Bs} (h:yx s=some out) (hy:yx (ifText s)=some y):y=out:=by
 obtain ⟨k,b,h1,rfl,hg,_⟩:=y5 h
 obtain ⟨k',b',g1,rfl,_,_⟩:=y5 hy
 obtain ⟨t,_,o1,rfl,t1,m1⟩:=yZ h1
 obtain ⟨u,r2,_,_,t2,m2⟩:=yZ g1
 have ho:uZ (.ite (.wd [116]) t (.wd [117])):=⟨show qj [116]=true from by decide,o1,show qj [117]=true from by decide⟩
 obtain rfl:=read_as r2 ho (if_text t)
 obtain ⟨a1,a2,a3⟩:=xu t2
 rw [t1] at a2
 obtain rfl:=Option.some.inj a2
 rw [zD,zD,Option.bind_some,m1,Option.bind_some,zD,Option.bind_some,t1,Option.bind_some] at m2
 obtain ⟨e,_⟩:=y7 m2
 rw [e,zo,kz]
 simp
end Go.Proofs.YtjggkhmojjaomaaGreatDoor

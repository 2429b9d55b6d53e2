/- Walks of functions that the statement reaches, and plain words. No conditions. -/
import Derived.Test.YtjggkhmojjaomaaGreatDoorQ9
set_option linter.unusedVariables false
set_option linter.unusedSimpArgs false
namespace Go.Proofs.YtjggkhmojjaomaaGreatDoor
open Go.RowKit
theorem eC:∀ (ss:List Bd),(∀ s∈ss,2*kR s+1<=zW s)->ss≠[]->2*kx ss<=zR ss+1
 | [],_,h=>absurd rfl h
 | [s],hs,_=>by
   have:=hs s (by simp)
   simp only [kx,zR];omega
 | s::t::ss,hs,_=>by
   have h1:=hs s (by simp)
   have h2:=eC (t::ss) (fun x hx=>hs x (List.mem_cons_of_mem _ hx)) (by simp)
   rw [kx,zR];omega
theorem wQ:∀ (n:Nat) (b:Bd),zW b<=n->2*kR b+1<=zW b
 | 0,b,h=>by have:=kW b;omega
 | n+1,.leaf c,_=>by simp [kR,zW]
 | n+1,.ask v ss y no,h=>by
   rw [zW] at h
   have py:=kW y
   have pn:=kW no
   have hy:=wQ n y (by omega)
   have hn:=wQ n no (by omega)
   rw [kR,zW]
   by_cases hs:ss=[]
   ·subst hs;simp only [kx,zR];omega
   ·have:=eC ss (fun s aw=>wQ n s (by have:=vL aw;omega)) hs
    omega
theorem eH {b:Bd} (h:zW b<=200):kR b<=100:=by
 have:=wQ _ b (ei _);omega
theorem become_writes (b:Bd) (env:List Mn) (n:Nat):uf b env n=jp b env n:=by
 rw [writes_eq]
 unfold jp
 cases ev 20000 20000 b env n [] with
 | none=>rfl
 | some x =>
   obtain ⟨out,l⟩:=x
   simp only
   by_cases hs:zW out<=200
   ·rw [if_pos hs,if_pos ⟨hs,eH hs⟩]
   ·rw [if_neg hs,if_neg (fun h=>hs h.1)]
def uL (b:Bd):Option Bd:=if zW b<=200 then some b else none
mutual
def kV (b:Bd) (n k:Nat):Bd:=match b with
 | .leaf c=>.leaf c
 | .ask v ss y no=>.ask (if n<=v then v+k else v) (zc ss n k) (kV y n k) (kV no n k)
def zc (bs:List Bd) (n k:Nat):List Bd:=match bs with
 | []=>[]
 | b::bs=>kV b n k::zc bs n k
end
def qK (b yes no:Bd):Bd:=match b with
 | .leaf c=>if c=116 then yes else if c=102 then no else .leaf c
 | .ask v ss y n=>.ask v ss (qK y yes no) (qK n yes no)
mutual
theorem pD:∀ (b:Bd) (H A X:List Ty),jP (H++X) b->jP (H++A++X) (kV b H.length A.length)
 | .leaf c,H,A,X,h=>by simp [kV,jP]
 | .ask v ss y no,H,A,X,h=>by
   rw [jP] at h
   obtain ⟨t,ht,h1,h2,h3⟩:=h
   rw [kV,jP]
   refine ⟨t,?_,dc ss t.args H A X h1,pD y H A X h2,pD no H A X h3⟩
   by_cases hv:H.length<=v
   ·rw [if_pos hv]
    rw [List.getElem?_append_right hv] at ht
    rw [List.append_assoc,List.getElem?_append_right (by omega),List.getElem?_append_right (by omega),show v+A.length-H.length-A.length=v-H.length from by omega];exact ht
   ·rw [if_neg hv]
    rw [List.getElem?_append_left (by omega)] at ht
    rw [List.append_assoc,List.getElem?_append_left (by omega)];exact ht
theorem dc:∀ (bs:List Bd) (ts:List Ty) (H A X:List Ty),jW (jg (H++X) ts) bs->jW (jg (H++A++X) ts) (zc bs H.length A.length)
 | [],ts,H,A,X,h=>by
   have:=vK _ _ h
   rw [uu] at this
   obtain rfl:ts=[]:=List.eq_nil_of_length_eq_zero this
   rw [zc,jW];rfl
 | b::bs,[],H,A,X,h=>by
   have:=vK _ _ h
   rw [uu] at this
   simp at this
 | b::bs,t::ts,H,A,X,h=>by
   rw [jW] at h
   obtain ⟨h',aw,e,f1,f2⟩:=h
   simp only [jg,List.map_cons,List.cons.injEq] at e
   obtain ⟨rfl,rfl⟩:=e
   rw [zc,jW]
   refine ⟨H++A++X++t.args,jg (H++A++X) ts,rfl,?_,dc bs ts H A X f2⟩
   have:=pD b H A (X++t.args) (by rw [<- List.append_assoc];exact f1)
   rw [<- List.append_assoc] at this
   exact this
end
mutual
theorem xj:∀ (b:Bd) (n k:Nat),wfB b->wfB (kV b n k)
 | .leaf c,n,k,h=>by rw [kV];exact h
 | .ask v ss y no,n,k,h=>by
   rw [wfB] at h
   rw [kV,wfB]
   exact ⟨shift_wfs ss n k h.1,xj y n k h.2.1,xj no n k h.2.2⟩
theorem shift_wfs:∀ (bs:List Bd) (n k:Nat),yT bs->yT (zc bs n k)
 | [],n,k,h=>by rw [zc];exact h
 | b::bs,n,k,h=>by
   rw [yT] at h
   rw [zc,yT]
   exact ⟨xj b n k h.1,shift_wfs bs n k h.2⟩
end
theorem cB:∀ (b yes no:Bd) (H:List Ty),jP H b->jP H yes->jP H no->jP H (qK b yes no)
 | .leaf c,yes,no,H,h,h1,h2=>by
   rw [qK]
   split
   ·exact h1
   ·split
    ·exact h2
    ·exact h
 | .ask v ss y n,yes,no,H,h,h1,h2=>by
   rw [jP] at h
   obtain ⟨t,ht,k1,k2,k3⟩:=h
   rw [qK,jP]
   exact ⟨t,ht,k1,cB y yes no H k2 h1 h2,cB n yes no H k3 h1 h2⟩
theorem eX:∀ (b yes no:Bd),wfB b->wfB yes->wfB no->wfB (qK b yes no)
 | .leaf c,yes,no,h,h1,h2=>by
   rw [qK]
   split
   ·exact h1
   ·split
    ·exact h2
    ·exact h
 | .ask v ss y n,yes,no,h,h1,h2=>by
   rw [wfB] at h
   rw [qK,wfB]
   exact ⟨h.1,eX y yes no h.2.1 h1 h2,eX n yes no h.2.2 h1 h2⟩
abbrev Nm:=Bs×Ty
def qJ (ns:List Nm) (x:Bs):Nat->Option Nat
 | 0=>none
 | n+1=>if ns[n]?.map Prod.fst=some x then some n else qJ ns x n
def jQ (ns:List Nm) (x:Bs):Option Nat:=qJ ns x ns.length
theorem findAt_lt {ns:List Nm} {x:Bs}:∀ {n i:Nat},qJ ns x n=some i->i<n/\∃ k,ns[i]? = some (x,k)
 | 0,i,h=>by simp [qJ] at h
 | n+1,i,h=>by
   rw [qJ] at h
   split at h
   ·rename_i hc
    obtain rfl:=Option.some.inj h
    rw [Option.map_eq_some_iff] at hc
    obtain ⟨⟨a,k⟩,h1,rfl⟩:=hc
    exact ⟨by omega,k,h1⟩
   ·obtain ⟨h1,h2⟩:=findAt_lt h
    exact ⟨by omega,h2⟩
def kinds (ns:List Nm):List Ty:=ns.map Prod.snd
def typeOf (ns:List Nm):Tm->Option Ty
 | .nm x=>(jQ ns x).bind fun i=>ns[i]?.map Prod.snd
 | .wd _=>some (.mk [])
 | .lam x k t=>if 15<zV k then none else (typeOf (ns++[(x,k)]) t).bind fun b=>if 15<zV (zd k b) then none else some (zd k b)
 | .app m n=>(typeOf ns m).bind fun a=>(typeOf ns n).bind fun b=>match a.args with
   | []=>none
   | c::cs=>if zF c=zF b then some (.mk cs) else none
 | .ite l m n=>(typeOf ns l).bind fun a=>(typeOf ns m).bind fun b=>(typeOf ns n).bind fun c=>if a.args=[]/\zF b=zF c then some b else none
def zN (ns:List Nm):Tm->Option Bd
 | .nm x=>(jQ ns x).bind fun i=>ns[i]?.bind fun p=>uL (eta p.2 i ns.length)
 | .wd w=>some (.leaf (w.headD 0))
 | .lam x k t=>zN (ns++[(x,k)]) t
 | .app m n=>(zN ns m).bind fun a=>(zN ns n).bind fun b=>(typeOf ns m).bind fun t=>match t.args with
   | []=>none
   | k::rest=>jp a (zq (kinds ns) k b rest) (ns.length+rest.length)
 | .ite l m n=>(zN ns l).bind fun a=>(zN ns m).bind fun b=>(zN ns n).bind fun c=>(typeOf ns m).bind fun t=>uL (qK (kV a ns.length t.args.length) b c)
theorem pB {a b:Ty} (h:zF a=zF b):a=b:=by
 have k1:=wj (zV a+zV b) a [] (by omega)
 have k2:=wj (zV a+zV b) b [] (by omega)
 rw [h,k2] at k1
 exact (Prod.mk.inj (Option.some.inj k1)).1.symm
theorem pX {bs rest:List Ty} {a:Ty} {n m:Bd} (hn:jP (bs++a.args) n) (hm:jP (bs++a::rest) m):jT (bs++rest) m (zq bs a n rest) []:=by
 refine ⟨⟨bs++a::rest,?_,hm⟩,by simp⟩
 have h1:qh (bs++rest) (opens 0 bs) bs:=cY bs 0 fun i t h=>by rw [Nat.zero_add,List.getElem?_append_left (List.getElem?_eq_some_iff.1 h).1];exact h
 refine yZ _ _ _ _ h1 ?_
 rw [qh]
 refine ⟨a,rest,rfl,?_,p8 bs rest⟩
 rw [xB]
 exact ⟨rfl,bs,h1,hn⟩
theorem between_wf {bs rest:List Ty} {a:Ty} {n:Bd} (hn:wfB n):xI (zq bs a n rest):=by
 unfold zq
 refine jC _ _ (jV bs 0) ?_
 exact ⟨⟨hn,jV bs 0⟩,jV rest bs.length⟩
theorem xo {b c:Bd} (h:uL b=some c):c=b/\zW b<=200:=by
 unfold uL at h
 split at h
 ·exact ⟨(Option.some.inj h).symm,by assumption⟩
 ·simp at h
theorem jY (ns:List Nm) (x:Bs) (k:Ty):kinds (ns++[(x,k)])=kinds ns++[k]:=by simp [kinds]
theorem qL (ns:List Nm):(kinds ns).length=ns.length:=by simp [kinds]
theorem uK {ns:List Nm} {i:Nat} {x:Bs} {k:Ty} (h:ns[i]? = some (x,k)):(kinds ns)[i]? = some k:=by simp [kinds,h]
theorem kg:∀ (t:Tm) (ns:List Nm) (k:Ty),(∀ a∈kinds ns,zV a<=15)->typeOf ns t=some k->zV k<=15
 | .nm x,ns,k,hn,h=>by
   rw [typeOf,Option.bind_eq_some_iff] at h
   obtain ⟨i,_,h2⟩:=h
   rw [Option.map_eq_some_iff] at h2
   obtain ⟨⟨y,a⟩,h3,rfl⟩:=h2
   exact hn a (List.mem_of_getElem? (uK h3))
 | .wd w,ns,k,_,h=>by
   rw [typeOf] at h
   obtain rfl:=Option.some.inj h
   decide
 | .lam x k t,ns,k',hn,h=>by
   rw [typeOf] at h
   split at h
   ·simp at h
   ·rw [Option.bind_eq_some_iff] at h
    obtain ⟨b,_,h2⟩:=h
    split at h2
    ·simp at h2
    ·obtain rfl:=Option.some.inj h2
     omega
 | .app m n,ns,k,hn,h=>by
   rw [typeOf,Option.bind_eq_some_iff] at h
   obtain ⟨a,h1,h⟩:=h
   rw [Option.bind_eq_some_iff] at h
   obtain ⟨b,_,h⟩:=h
   have ha:=kg m ns a hn h1
   split at h
   ·simp at h
   ·rename_i c cs hc
    split at h
    ·obtain rfl:=Option.some.inj h
     have:=gQ hc
     omega
    ·simp at h
 | .ite l m n,ns,k,hn,h=>by
   rw [typeOf,Option.bind_eq_some_iff] at h
   obtain ⟨a,_,h⟩:=h
   rw [Option.bind_eq_some_iff] at h
   obtain ⟨b,h1,h⟩:=h
   rw [Option.bind_eq_some_iff] at h
   obtain ⟨c,_,h⟩:=h
   split at h
   ·obtain rfl:=Option.some.inj h
    exact kg m ns _ hn h1
   ·simp at h
theorem wR {ns:List Nm} {m n:Tm} {k:Ty} (h:typeOf ns (.app m n)=some k):∃ a b rest,typeOf ns m=some a/\typeOf ns n=some b/\a.args=b::rest/\k=.mk rest:=by
 rw [typeOf,Option.bind_eq_some_iff] at h
 obtain ⟨a,h1,h⟩:=h
 rw [Option.bind_eq_some_iff] at h
 obtain ⟨b,h2,h⟩:=h
 split at h
 ·simp at h
 ·rename_i c cs hc
  split at h
  ·rename_i he
   obtain rfl:=Option.some.inj h
   obtain rfl:=pB he
   exact ⟨a,c,cs,h1,h2,hc,rfl⟩
  ·simp at h
theorem gj {ns:List Nm} {l m n:Tm} {k:Ty} (h:typeOf ns (.ite l m n)=some k):typeOf ns l=some (.mk [])/\typeOf ns m=some k/\typeOf ns n=some k:=by
 rw [typeOf,Option.bind_eq_some_iff] at h
 obtain ⟨a,h1,h⟩:=h
 rw [Option.bind_eq_some_iff] at h
 obtain ⟨b,h2,h⟩:=h
 rw [Option.bind_eq_some_iff] at h
 obtain ⟨c,h3,h⟩:=h
 split at h
 ·rename_i he
  obtain rfl:=Option.some.inj h
  obtain rfl:=pB he.2
  refine ⟨?_,h2,h3⟩
  rw [h1]
  cases a with
  | mk ts=>have:=he.1;simp only [Ty.args] at this;subst this;rfl
 ·simp at h
theorem gz {ns:List Nm} {x:Bs} {a:Ty} {t:Tm} {k:Ty} (h:typeOf ns (.lam x a t)=some k):zV a<=15/\∃ b,typeOf (ns++[(x,a)]) t=some b/\k=zd a b:=by
 rw [typeOf] at h
 split at h
 ·simp at h
 ·rw [Option.bind_eq_some_iff] at h
  obtain ⟨b,h1,h2⟩:=h
  split at h2
  ·simp at h2
  ·obtain rfl:=Option.some.inj h2
   exact ⟨by omega,b,h1,rfl⟩
theorem jE:∀ (t:Tm) (ns:List Nm) (k:Ty) (b:Bd),uP t->(∀ a∈kinds ns,zV a<=15)->typeOf ns t=some k->zN ns t=some b->jP (kinds ns++k.args) b/\wfB b/\zW b<=200
 | .nm x,ns,k,b,_,hn,ht,h=>by
   rw [typeOf,Option.bind_eq_some_iff] at ht
   obtain ⟨i,hi,ht⟩:=ht
   rw [zN,hi,Option.bind_some,Option.bind_eq_some_iff] at h
   obtain ⟨⟨y,a⟩,h1,h2⟩:=h
   rw [h1] at ht
   simp at ht;subst ht
   obtain ⟨rfl,hs⟩:=xo h2
   exact ⟨eta_fit a i ns.length (kinds ns) (qL ns) (uK h1),eta_wf a i ns.length,hs⟩
 | .wd w,ns,k,b,ho,hn,ht,h=>by
   rw [zN] at h
   obtain rfl:=Option.some.inj h
   refine ⟨by simp [jP],?_,by simp [zW]⟩
   rw [wfB]
   have:qy w=true:=ho
   simp only [qy,Bool.or_eq_true,beq_iff_eq] at this
   rcases this with (rfl | rfl) | rfl
   ·exact .inl rfl
   ·exact .inr (.inl rfl)
   ·exact .inr (.inr rfl)
 | .lam x a t,ns,k,b,ho,hn,ht,h=>by
   obtain ⟨ha,c,hc,rfl⟩:=gz ht
   rw [zN] at h
   have:=jE t (ns++[(x,a)]) c b ho.2 (fun y hy=>by
    rw [jY] at hy
    rcases List.mem_append.1 hy with hy | hy
    ·exact hn y hy
    ·simp at hy;subst hy;exact ha) hc h
   rw [jY,List.append_assoc] at this
   exact this
 | .app m n,ns,k,b,ho,hn,ht,h=>by
   obtain ⟨a,c,rest,h1,h2,h3,rfl⟩:=wR ht
   rw [zN,Option.bind_eq_some_iff] at h
   obtain ⟨p,hp,h⟩:=h
   rw [Option.bind_eq_some_iff] at h
   obtain ⟨q,hq,h⟩:=h
   rw [h1,Option.bind_some,h3] at h
   simp only at h
   obtain ⟨f1,w1,s1⟩:=jE m ns a p ho.1 hn h1 hp
   obtain ⟨f2,w2,s2⟩:=jE n ns c q ho.2 hn h2 hq
   rw [h3] at f1
   have hf:=pX f2 f1
   have hlen:ns.length+rest.length=(kinds ns++rest).length:=by rw [List.length_append,qL]
   rw [hlen] at h
   unfold jp at h
   cases hv:ev 20000 20000 p (zq (kinds ns) c q rest) (kinds ns++rest).length [] with
   | none=>rw [hv] at h;simp at h
   | some x =>
     obtain ⟨o,l⟩:=x
     rw [hv] at h
     simp only at h
     split at h
     ·rename_i hs
      obtain rfl:=Option.some.inj h
      exact ⟨ev_fit _ _ _ _ _ _ _ _ hf hv,ev_wf _ _ _ _ _ _ _ _ w1 (between_wf w2) (by simp) hv,hs.1⟩
     ·simp at h
 | .ite l m n,ns,k,b,ho,hn,ht,h=>by
   obtain ⟨h1,h2,h3⟩:=gj ht
   rw [zN,Option.bind_eq_some_iff] at h
   obtain ⟨p,hp,h⟩:=h
   rw [Option.bind_eq_some_iff] at h
   obtain ⟨q,hq,h⟩:=h
   rw [Option.bind_eq_some_iff] at h
   obtain ⟨r,hr,h⟩:=h
   rw [h2,Option.bind_some] at h
   obtain ⟨rfl,hs⟩:=xo h
   obtain ⟨f1,w1,_⟩:=jE l ns _ p ho.1 hn h1 hp
   obtain ⟨f2,w2,_⟩:=jE m ns _ q ho.2.1 hn h2 hq
   obtain ⟨f3,w3,_⟩:=jE n ns _ r ho.2.2 hn h3 hr
   have IB:=pD p (kinds ns) k.args [] (show jP (kinds ns++[]) p from f1)
   rw [List.append_nil,qL] at IB
   exact ⟨cB _ _ _ _ IB f2 f3,eX _ _ _ (xj _ _ _ w1) w2 w3,hs⟩
theorem ws {t:Tm} {k:Ty} {b:Bd} (ho:uP t) (ht:typeOf [] t=some k) (h:zN [] t=some b):eh k b:=by
 obtain ⟨h1,h2,h3⟩:=jE t [] k b ho (by simp [kinds]) ht h
 exact ⟨kg t [] k (by simp [kinds]) ht,by simpa [kinds] using h1,h2,h3,eH h3⟩
def kq (s:Bs):Option (Ty×Bd):=(qE s).bind fun t=>(typeOf [] t).bind fun k=>(zN [] t).map fun b=>(k,b)
def dz (s:Bs):Option Ty:=(qE s).bind fun t=>typeOf [] t
theorem vp {s:Bs} {k:Ty} {b:Bd} (h:kq s=some (k,b)):dz s=some k/\eh k b:=by
 unfold kq at h
 simp only [Option.bind_eq_some_iff,Option.map_eq_some_iff,Prod.mk.injEq] at h
 obtain ⟨t,h1,k',h2,b',h3,rfl,rfl⟩:=h
 obtain ⟨_,ho,_⟩:=vH h1
 exact ⟨by unfold dz;rw [h1];exact h2,ws ho h2 h3⟩
theorem yU:∀ (t:Tm) (ns:List Nm) (k:Ty),typeOf ns t=some k->kQ t=true
 | .nm x,ns,k,h=>by rw [kQ]
 | .wd w,ns,k,h=>by rw [kQ]
 | .lam x a t,ns,k,h=>by
   obtain ⟨ha,b,hb,_⟩:=gz h
   rw [kQ,decide_eq_true ha,yU t _ b hb];rfl
 | .app m n,ns,k,h=>by
   obtain ⟨a,b,rest,h1,h2,_⟩:=wR h
   rw [kQ,yU m ns a h1,yU n ns b h2];rfl
 | .ite l m n,ns,k,h=>by
   obtain ⟨h1,h2,h3⟩:=gj h
   rw [kQ,yU l ns _ h1,yU m ns _ h2,yU n ns _ h3];rfl
def zh (ns:List Nm):Tm->Ty×Bool
 | .nm x=>match (jQ ns x).bind fun i=>ns[i]?.map Prod.snd with
   | some k=>(k,true)
   | none=>(.mk [],false)
 | .wd _=>(.mk [],true)
 | .lam x k t=>(zd k (zh (ns++[(x,k)]) t).1,(zh (ns++[(x,k)]) t).2 && decide (zV (zd k (zh (ns++[(x,k)]) t).1)<=15))
 | .app m n=>if (zh ns m).2=false\/(zh ns n).2=false then ((zh ns m).1,false) else match (zh ns m).1.args with
   | []=>((zh ns m).1,false)
   | c::cs=>if zF c=zF (zh ns n).1 then (.mk cs,true) else ((zh ns m).1,false)
 | .ite l m n=>((zh ns m).1,(zh ns l).2 && (zh ns m).2 && (zh ns n).2 && decide ((zh ns l).1.args=[]) && decide (zF (zh ns m).1=zF (zh ns n).1))
theorem uq:∀ (t:Tm) (ns:List Nm),kQ t=true->typeOf ns t=if (zh ns t).2=true then some (zh ns t).1 else none
 | .nm x,ns,_=>by
   rw [typeOf,zh]
   cases (jQ ns x).bind fun i=>ns[i]?.map Prod.snd <;> rfl
 | .wd w,ns,_=>by rw [typeOf,zh];rfl
 | .lam x k t,ns,h=>by
   rw [kQ,Bool.and_eq_true,decide_eq_true_eq] at h
   rw [typeOf,if_neg (by omega),uq t _ h.2,zh]
   cases (zh (ns++[(x,k)]) t).2 with
   | false=>rfl
   | true =>
     simp only [if_true,Option.bind_some,Bool.true_and,decide_eq_true_eq]
     by_cases fM:zV (zd k (zh (ns++[(x,k)]) t).1)<=15
     ·rw [if_neg (by omega),if_pos fM]
     ·rw [if_pos (by omega),if_neg fM]
 | .app m n,ns,h=>by
   rw [kQ,Bool.and_eq_true] at h
   rw [typeOf,uq m ns h.1,uq n ns h.2,zh]
   cases hm:(zh ns m).2 with
   | false=>simp
   | true =>
     cases hn:(zh ns n).2 with
     | false=>simp
     | true =>
       simp only [if_true,Option.bind_some,Bool.true_eq_false,or_self,if_false]
       cases ha:(zh ns m).1.args with
       | nil=>rfl
       | cons c cs =>
         simp only
         by_cases he:zF c=zF (zh ns n).1
         ·rw [if_pos he,if_pos he];rfl
         ·rw [if_neg he,if_neg he];rfl
 | .ite l m n,ns,h=>by
   rw [kQ,Bool.and_eq_true,Bool.and_eq_true] at h
   rw [typeOf,uq l ns h.1.1,uq m ns h.1.2,uq n ns h.2,zh]
   cases hl:(zh ns l).2 with
   | false=>simp
   | true =>
     cases hm:(zh ns m).2 with
     | false=>simp
     | true =>
       cases hn:(zh ns n).2 with
       | false=>simp
       | true =>
         simp only [if_true,Option.bind_some,Bool.true_and,Bool.and_eq_true,decide_eq_true_eq]
theorem u4 {t:Tm} {ns:List Nm} (hs:kQ t=true) (h:(zh ns t).2=true):typeOf ns t=some (zh ns t).1:=by
 rw [uq t ns hs,if_pos h]
theorem kindR_of {t:Tm} {ns:List Nm} {k:Ty} (h:typeOf ns t=some k):zh ns t=(k,true):=by
 have hs:=yU t ns k h
 rw [uq t ns hs] at h
 split at h
 ·rename_i hq
  exact Prod.ext (Option.some.inj h) hq
 ·simp at h
theorem pI:∀ (t:Tm) (ns:List Nm),(∀ a∈kinds ns,a.args.length<=15)->kQ t=true->(zh ns t).1.args.length<=15+zM t
 | .nm x,ns,hn,_=>by
   rw [zh]
   cases hq:(jQ ns x).bind fun i=>ns[i]?.map Prod.snd with
   | none=>simp [Ty.args]
   | some k =>
     rw [Option.bind_eq_some_iff] at hq
     obtain ⟨i,_,h2⟩:=hq
     rw [Option.map_eq_some_iff] at h2
     obtain ⟨⟨y,a⟩,h3,rfl⟩:=h2
     have:=hn a (List.mem_of_getElem? (uK h3))
     simp only
     omega
 | .wd w,ns,_,_=>by rw [zh];simp [Ty.args]
 | .lam x k t,ns,hn,h=>by
   rw [kQ,Bool.and_eq_true,decide_eq_true_eq] at h
   have:=pI t (ns++[(x,k)]) (fun a ha=>by
    rw [jY] at ha
    rcases List.mem_append.1 ha with ha | ha
    ·exact hn a ha
    ·simp at ha;subst ha;have:=qV a.args;have:=qw a;omega) h.2
   have e:(zd k (zh (ns++[(x,k)]) t).1).args.length=(zh (ns++[(x,k)]) t).1.args.length+1:=rfl
   rw [zh,zM]
   simp only
   rw [e]
   omega
 | .app m n,ns,hn,h=>by
   rw [kQ,Bool.and_eq_true] at h
   have h1:=pI m ns hn h.1
   rw [zh,zM]
   split
   ·simp only;omega
   ·cases ha:(zh ns m).1.args with
    | nil=>simp only [ha];simp
    | cons c cs =>
      rw [ha] at h1
      simp only [List.length_cons] at h1
      simp only
      split
      ·simp only [Ty.args];omega
      ·rw [ha];simp only [List.length_cons];omega
 | .ite l m n,ns,hn,h=>by
   rw [kQ,Bool.and_eq_true,Bool.and_eq_true] at h
   have h1:=pI m ns hn h.1.2
   rw [zh,zM]
   simp only
   omega
mutual
theorem yG:∀ (b:Bd) (n k:Nat),zW (kV b n k)=zW b
 | .leaf c,n,k=>by rw [kV]
 | .ask v ss y no,n,k=>by rw [kV,zW,zW,gh ss n k,yG y n k,yG no n k]
theorem gh:∀ (bs:List Bd) (n k:Nat),zR (zc bs n k)=zR bs
 | [],n,k=>by rw [zc]
 | b::bs,n,k=>by rw [zc,zR,zR,yG b n k,gh bs n k]
end
theorem xD:∀ (b y n:Bd),zW (qK b y n)<=zW b*(zW y+zW n)
 | .leaf c,y,n=>by
   have hy:=kW y
   have hn:=kW n
   have e:zW (.leaf c)=1:=by rw [zW]
   rw [e,Nat.one_mul,qK]
   split
   ·omega
   ·split
    ·omega
    ·rw [e];omega
 | .ask v ss a c,y,n=>by
   have hy:=kW y
   have h1:=xD a y n
   have h2:=xD c y n
   rw [qK,zW,zW]
   have h3:1+zR ss<=(1+zR ss)*(zW y+zW n):=Nat.le_mul_of_pos_right _ (by omega)
   have e:(1+(zR ss+(zW a+zW c)))*(zW y+zW n)=(1+zR ss)*(zW y+zW n)+zW a*(zW y+zW n)+zW c*(zW y+zW n):=by rw [<- Nat.add_mul,<- Nat.add_mul];congr 1;omega
   omega
theorem gw {b:Bd} (h:zW b<=200):uL b=some b:=by unfold uL;rw [if_pos h]
theorem become_small {b:Bd} {env:List Mn} {n:Nat} {c:Bd} (h:jp b env n=some c):zW c<=200:=by
 unfold jp at h
 cases hv:ev 20000 20000 b env n [] with
 | none=>rw [hv] at h;simp at h
 | some x =>
   obtain ⟨o,l⟩:=x
   rw [hv] at h
   simp only at h
   split at h
   ·rename_i hs
    obtain rfl:=Option.some.inj h
    exact hs.1
   ·simp at h
theorem jx:∀ (t:Tm) (ns:List Nm) (b:Bd),zN ns t=some b->zW b<=200
 | .nm x,ns,b,h=>by
   rw [zN,Option.bind_eq_some_iff] at h
   obtain ⟨i,_,h⟩:=h
   rw [Option.bind_eq_some_iff] at h
   obtain ⟨p,_,h⟩:=h
   obtain ⟨rfl,hs⟩:=xo h
   exact hs
 | .wd w,ns,b,h=>by
   rw [zN] at h
   obtain rfl:=Option.some.inj h
   simp [zW]
 | .lam x k t,ns,b,h=>by rw [zN] at h;exact jx t _ b h
 | .app m n,ns,b,h=>by
   rw [zN,Option.bind_eq_some_iff] at h
   obtain ⟨p,_,h⟩:=h
   rw [Option.bind_eq_some_iff] at h
   obtain ⟨q,_,h⟩:=h
   rw [Option.bind_eq_some_iff] at h
   obtain ⟨t,_,h⟩:=h
   split at h
   ·simp at h
   ·exact become_small h
 | .ite l m n,ns,b,h=>by
   rw [zN,Option.bind_eq_some_iff] at h
   obtain ⟨p,_,h⟩:=h
   rw [Option.bind_eq_some_iff] at h
   obtain ⟨q,_,h⟩:=h
   rw [Option.bind_eq_some_iff] at h
   obtain ⟨r,_,h⟩:=h
   rw [Option.bind_eq_some_iff] at h
   obtain ⟨t,_,h⟩:=h
   obtain ⟨rfl,hs⟩:=xo h
   exact hs
def kM (ns:List Nm):Tm->Option Bd
 | .nm x=>(jQ ns x).bind fun i=>ns[i]?.map fun p=>eta p.2 i ns.length
 | .wd w=>some (.leaf (w.headD 0))
 | .lam x k t=>zN (ns++[(x,k)]) t
 | .app m n=>zN ns (.app m n)
 | .ite l m n=>(zN ns l).bind fun a=>(zN ns m).bind fun b=>(zN ns n).bind fun c=>(typeOf ns m).bind fun t=>some (qK (kV a ns.length t.args.length) b c)
theorem gT {o:Option Bd} (h:∀ b,o=some b->zW b<=200):o.bind uL=o:=by
 cases o with
 | none=>rfl
 | some b=>rw [Option.bind_some,gw (h b rfl)]
theorem mean_meant (t:Tm) (ns:List Nm):zN ns t=(kM ns t).bind uL:=by
 cases t with
 | nm x =>
   rw [zN,kM]
   cases jQ ns x with
   | none=>rfl
   | some i =>
     rw [Option.bind_some,Option.bind_some]
     cases ns[i]? <;> rfl
 | wd w=>rw [zN,kM,gT (fun b h=>by obtain rfl:=Option.some.inj h;simp [zW])]
 | lam x k t=>rw [kM,gT (fun b h=>jx _ _ b h),zN]
 | app m n=>rw [kM,gT (fun b h=>jx _ _ b h)]
 | ite l m n =>
   rw [zN,kM]
   cases zN ns l with
   | none=>rfl
   | some a =>
     cases zN ns m with
     | none=>rfl
     | some b =>
       cases zN ns n with
       | none=>rfl
       | some c =>
         cases typeOf ns m <;> rfl
theorem meant_size (t:Tm) (ns:List Nm) (b:Bd) (hn:∀ a∈kinds ns,zV a<=15) (h:kM ns t=some b):zW b<=100000:=by
 cases t with
 | nm x =>
   rw [kM,Option.bind_eq_some_iff] at h
   obtain ⟨i,_,h⟩:=h
   rw [Option.map_eq_some_iff] at h
   obtain ⟨⟨y,k⟩,hp,rfl⟩:=h
   have:=(eG k i ns.length).1
   have:=hn k (List.mem_of_getElem? (uK hp))
   simp only
   omega
 | wd w=>rw [kM] at h;obtain rfl:=Option.some.inj h;simp [zW]
 | lam x k t=>rw [kM] at h;have:=jx _ _ b h;omega
 | app m n=>rw [kM] at h;have:=jx _ _ b h;omega
 | ite l m n =>
   rw [kM,Option.bind_eq_some_iff] at h
   obtain ⟨p,hp,h⟩:=h
   rw [Option.bind_eq_some_iff] at h
   obtain ⟨q,hq,h⟩:=h
   rw [Option.bind_eq_some_iff] at h
   obtain ⟨r,hr,h⟩:=h
   rw [Option.bind_eq_some_iff] at h
   obtain ⟨t,_,h⟩:=h
   obtain rfl:=Option.some.inj h
   have h1:=jx _ _ _ hp
   have h2:=jx _ _ _ hq
   have h3:=jx _ _ _ hr
   have h4:=xD (kV p ns.length t.args.length) q r
   rw [yG] at h4
   have h5:zW p*(zW q+zW r)<=200*400:=Nat.mul_le_mul h1 (by omega)
   omega
theorem small_fits {b:Bd}:decide (zW b<=200/\kR b<=100)=decide (zW b<=200):=by
 by_cases h:zW b<=200
 ·rw [decide_eq_true ⟨h,eH h⟩,decide_eq_true h]
 ·rw [decide_eq_false (fun hx=>h hx.1),decide_eq_false h]

def evFs (f:Bd->List Mn->Nat->List Gf->Option Bd) (env:List Mn) (n:Nat):List Ty->List Bd->Option (List Bd)
 | t::ts,s::ss=>(f s (env++opens n t.args) (n+t.args.length) []).bind fun x=>(evFs f env n ts ss).bind fun xs=>some (x::xs)
 | _,_=>some []
def evF:Nat->Bd->List Mn->Nat->List Gf->Option Bd
 | 0,_,_,_,_=>none
 | d+1,b,env,n,st=>match b with
   | .leaf c=>if c=117 then some (.leaf c) else match st with
     | []=>some (.leaf c)
     | f::st'=>evF d (if c=116 then f.yes else f.no) f.env n st'
   | .ask v ss y no=>match env[v]? with
     | none=>none
     | some (.bd t b' e)=>if ss.length=t.args.length then evF d b' (e++owns env t.args ss) n (⟨y,no,env⟩::st) else none
     | some (.op o t)=>if ss.length=t.args.length then (evFs (evF d) env n t.args ss).bind fun xs=>(evF d y env n st).bind fun x=>(evF d no env n st).bind fun z=>some (.ask o xs x z) else none
mutual
def sbM (s:List Mn):Mn->Mn
 | .op o t=>(s[o]?).getD (.op o t)
 | .bd t b e=>.bd t b (cQ s e)
def cQ (s:List Mn):List Mn->List Mn
 | []=>[]
 | m::ms=>sbM s m::cQ s ms
end
def substGs (s:List Mn):List Gf->List Gf
 | []=>[]
 | f::fs=>⟨f.yes,f.no,cQ s f.env⟩::substGs s fs
def tyOf:Mn->Ty
 | .op _ t=>t
 | .bd t _ _=>t
mutual
def scM (H:List Ty):Mn->Prop
 | .op o t=>H[o]? = some t
 | .bd _ _ e=>scMs H e
def scMs (H:List Ty):List Mn->Prop
 | []=>True
 | m::ms=>scM H m/\scMs H ms
end
def scGs (H:List Ty):List Gf->Prop
 | []=>True
 | f::fs=>scMs H f.env/\scGs H fs
mutual
inductive MR:Mn->Mn->Prop
 | op (o:Nat) (t:Ty):MR (.op o t) (.op o t)
 | same {t:Ty} {b:Bd} {e1 e2:List Mn} (h:MRs e1 e2):MR (.bd t b e1) (.bd t b e2)
 | wrote {t:Ty} {b1 b2:Bd} {env s1 s2:List Mn} {d:Nat} {H:List Ty} (h:evF d b2 (env++opens H.length t.args) (H.length+t.args.length) []=some b1) (hs:scMs H env) (hl:s1.map tyOf=H) (hr:MRs s1 s2):MR (.bd t b1 s1) (.bd t b2 (cQ s2 env))
inductive MRs:List Mn->List Mn->Prop
 | nil:MRs [] []
 | cons {a b:Mn} {la lb:List Mn} (h:MR a b) (hs:MRs la lb):MRs (a::la) (b::lb)
end
inductive GRs:List Gf->List Gf->Prop
 | nil:GRs [] []
 | same {y no:Bd} {e1 e2:List Mn} {K1 K2:List Gf} (h:MRs e1 e2) (hk:GRs K1 K2):GRs (⟨y,no,e1⟩::K1) (⟨y,no,e2⟩::K2)
 | wrote {x z y no:Bd} {env s1 s2:List Mn} {st K1 K2:List Gf} {d:Nat} {H:List Ty} (hy:evF d y env H.length st=some x) (hn:evF d no env H.length st=some z) (hs:scMs H env) (hg:scGs H st) (hl:s1.map tyOf=H) (hr:MRs s1 s2) (hk:GRs K1 K2) :
  GRs (⟨x,z,s1⟩::K1) (⟨y,no,cQ s2 env⟩::(substGs s2 st++K2))
theorem MRs.length:∀ {a b:List Mn},MRs a b->a.length=b.length
 | _,_,.nil=>rfl
 | _,_,.cons _ hs=>by simp [MRs.length hs]
theorem MRs.at:∀ {a b:List Mn},MRs a b->∀ (k:Nat) (m:Mn),a[k]? = some m->∃ m',b[k]? = some m'/\MR m m'
 | _,_,.nil,k,m,h=>by simp at h
 | _,_,.cons h hs,k,m,hk=>by
   cases k with
   | zero=>simp at hk;subst hk;exact ⟨_,rfl,h⟩
   | succ k=>simp only [List.getElem?_cons_succ] at *;exact MRs.at hs k m hk
theorem MRs.append:∀ {a b:List Mn},MRs a b->∀ {c d:List Mn},MRs c d->MRs (a++c) (b++d)
 | _,_,.nil,_,_,h=>h
 | _,_,.cons h hs,_,_,k=>.cons h (MRs.append hs k)
mutual
theorem MR.refl:∀ m:Mn,MR m m
 | .op o t=>.op o t
 | .bd t b e=>.same (MRs.refl e)
theorem MRs.refl:∀ ms:List Mn,MRs ms ms
 | []=>.nil
 | m::ms=>.cons (MR.refl m) (MRs.refl ms)
end
theorem MRs.owns {e1 e2:List Mn} (h:MRs e1 e2):∀ (ts:List Ty) (ss:List Bd),MRs (owns e1 ts ss) (Go.Proofs.YtjggkhmojjaomaaGreatDoor.owns e2 ts ss)
 | [],ss=>by
   rw [Go.Proofs.YtjggkhmojjaomaaGreatDoor.owns,Go.Proofs.YtjggkhmojjaomaaGreatDoor.owns]
   ·exact .nil
   ·intros;contradiction
   ·intros;contradiction
 | t::ts,[]=>by
   rw [Go.Proofs.YtjggkhmojjaomaaGreatDoor.owns,Go.Proofs.YtjggkhmojjaomaaGreatDoor.owns]
   ·exact .nil
   ·intros;contradiction
   ·intros;contradiction
 | t::ts,s::ss=>by
   rw [Go.Proofs.YtjggkhmojjaomaaGreatDoor.owns,Go.Proofs.YtjggkhmojjaomaaGreatDoor.owns]
   exact .cons (.same h) (MRs.owns h ts ss)
inductive CR:Bd->List Mn->List Gf->Bd->List Mn->List Gf->Prop
 | same {b:Bd} {e1 e2:List Mn} {K1 K2:List Gf} (h:MRs e1 e2) (hk:GRs K1 K2):CR b e1 K1 b e2 K2
 | wrote {b1 b2:Bd} {env s1 s2:List Mn} {st K1 K2:List Gf} {d:Nat} {H:List Ty} (h:evF d b2 env H.length st=some b1) (hs:scMs H env) (hg:scGs H st) (hl:s1.map tyOf=H) (hr:MRs s1 s2) (hk:GRs K1 K2) :
  CR b1 s1 K1 b2 (cQ s2 env) (substGs s2 st++K2)
structure Mixed (env:List Mn) (hand:List Ty):Prop where
 len:env.length=hand.length
 each:∀ i t,hand[i]? = some t->env[i]? = some (Mn.op i t)\/∃ (v:Nat) (e:List Mn),env[i]? = some (Mn.bd t (eta t v e.length) e)/\e[v]? = some (Mn.op i t)
theorem Mixed.opens {env:List Mn} {hand:List Ty} (h:Mixed env hand) (ts:List Ty):Mixed (env++Go.Proofs.YtjggkhmojjaomaaGreatDoor.opens hand.length ts) (hand++ts):=by
 have hl:=h.len
 refine ⟨by rw [List.length_append,List.length_append,kL,hl],fun i t hi=>?_⟩
 rcases Nat.lt_or_ge i hand.length with fG | tL
 ·rw [List.getElem?_append_left fG] at hi
  rw [List.getElem?_append_left (by omega)]
  exact h.each i t hi
 ·rw [List.getElem?_append_right tL] at hi
  left
  rw [List.getElem?_append_right (by omega),hl,xw ts hand.length _ t hi,show hand.length+(i-hand.length)=i from by omega]
theorem Mixed.more {env:List Mn} {hand:List Ty} (h:Mixed env hand) (e2:List Mn) (ts:List Ty) :
 Mixed (env++owns (e2++Go.Proofs.YtjggkhmojjaomaaGreatDoor.opens hand.length ts) ts (vi ts e2.length (e2.length+ts.length))) (hand++ts):=by
 have hl:=h.len
 refine ⟨?_,fun i t hi=>?_⟩
 ·rw [List.length_append,List.length_append,xH _ _ (uM _ _ _).symm,hl]
 ·rcases Nat.lt_or_ge i hand.length with fG | tL
  ·rw [List.getElem?_append_left fG] at hi
   rw [List.getElem?_append_left (by omega)]
   exact h.each i t hi
  ·rw [List.getElem?_append_right tL] at hi
   have h1:=dC ts e2.length (e2.length+ts.length) _ t hi
   have h2:=ge (env:=e2++Go.Proofs.YtjggkhmojjaomaaGreatDoor.opens hand.length ts) ts _ _ t _ hi h1
   have h3:=xw ts hand.length _ t hi
   right
   refine ⟨e2.length+(i-hand.length),e2++Go.Proofs.YtjggkhmojjaomaaGreatDoor.opens hand.length ts,?_,?_⟩
   ·rw [List.getElem?_append_right (by omega),hl,h2,List.length_append,kL]
   ·rw [List.getElem?_append_right (by omega),Nat.add_sub_cancel_left,h3,show hand.length+(i-hand.length)=i from by omega]
structure Composed (a b c m n out:Bs) (x y z:Ty) (f g o:Bd):Prop where
 ta:zL a=(x,true)
 tb:zL b=(y,true)
 tc:zL c=(z,true)
 ea:a=zF x
 eb:b=zF y
 ec:c=zF z
 gf:eh (zd x y) f
 gg:eh (zd y z) g
 em:m=kJ f
 en:n=kJ g
 ho:jp g (composeEnv x y f z.args) (1+z.args.length)=some o
 go:eh (zd x z) o
 eo:out=kJ o
theorem Composed.valid {a b c m n out:Bs} {x y z:Ty} {f g o:Bd} (h:Composed a b c m n out x y z f g o):qx (cA a c) out=some o:=by
 rw [h.ea,h.ec,arrowText_eq,h.eo]
 exact vM h.go
theorem textB_inj {t:Ty} {b c:Bd} (hb:eh t b) (hc:eh t c) (h:kJ b=kJ c):b=c:=by
 have h1:=vM hb
 rw [h,vM hc] at h1
 exact (Option.some.inj h1).symm
def Along (f:Nat->Nat) (N:Nat):Prop:=∀ i,f (N+i)=f N+i
theorem Along.more {f:Nat->Nat} {N:Nat} (h:Along f N) (k:Nat):Along f (N+k):=fun i=>by
 rw [Nat.add_assoc,h,h,Nat.add_assoc]
structure pP (f g:Nat->Nat) (env:List Mn) (hand:List Ty) (m:Nat):Prop where
 len:env.length=f hand.length
 cnt:m=g hand.length
 af:Along f hand.length
 ag:Along g hand.length
 each:∀ i t,hand[i]? = some t->env[f i]? = some (Mn.op (g i) t)\/∃ (v:Nat) (e:List Mn),env[f i]? = some (Mn.bd t (eta t v e.length) e)/\e[v]? = some (Mn.op (g i) t)
theorem pP.lt {f g:Nat->Nat} {env:List Mn} {hand:List Ty} {m:Nat} (h:pP f g env hand m) {i:Nat} {t:Ty} (hi:hand[i]? = some t):f i<env.length:=by
 rcases h.each i t hi with k | ⟨_,_,k,_⟩ <;> exact (List.getElem?_eq_some_iff.1 k).1
theorem pP.opens {f g:Nat->Nat} {env:List Mn} {hand:List Ty} {m:Nat} (h:pP f g env hand m) (ts:List Ty):pP f g (env++Go.Proofs.YtjggkhmojjaomaaGreatDoor.opens m ts) (hand++ts) (m+ts.length):=by
 refine ⟨?_,?_,?_,?_,fun i t hi=>?_⟩
 ·rw [List.length_append,List.length_append,kL,h.af,h.len]
 ·rw [List.length_append,h.ag,h.cnt]
 ·rw [List.length_append];exact h.af.more _
 ·rw [List.length_append];exact h.ag.more _
 ·rcases Nat.lt_or_ge i hand.length with fG | tL
  ·rw [List.getElem?_append_left fG] at hi
   rw [List.getElem?_append_left (h.lt hi)]
   exact h.each i t hi
  ·rw [List.getElem?_append_right tL] at hi
   have e1:=h.af (i-hand.length)
   have e2:=h.ag (i-hand.length)
   rw [show hand.length+(i-hand.length)=i from by omega] at e1 e2
   left
   rw [e1,e2,<- h.len,<- h.cnt,List.getElem?_append_right (by omega),Nat.add_sub_cancel_left]
   exact xw ts m _ t hi
theorem pP.more {f g:Nat->Nat} {env:List Mn} {hand:List Ty} {m:Nat} (h:pP f g env hand m) (e2:List Mn) (ts:List Ty) :
 pP f g (env++owns (e2++Go.Proofs.YtjggkhmojjaomaaGreatDoor.opens m ts) ts (vi ts e2.length (e2.length+ts.length))) (hand++ts) (m+ts.length):=by
 refine ⟨?_,?_,?_,?_,fun i t hi=>?_⟩
 ·rw [List.length_append,List.length_append,xH _ _ (uM _ _ _).symm,h.af,h.len]
 ·rw [List.length_append,h.ag,h.cnt]
 ·rw [List.length_append];exact h.af.more _
 ·rw [List.length_append];exact h.ag.more _
 ·rcases Nat.lt_or_ge i hand.length with fG | tL
  ·rw [List.getElem?_append_left fG] at hi
   rw [List.getElem?_append_left (h.lt hi)]
   exact h.each i t hi
  ·rw [List.getElem?_append_right tL] at hi
   have q1:=h.af (i-hand.length)
   have q2:=h.ag (i-hand.length)
   rw [show hand.length+(i-hand.length)=i from by omega] at q1 q2
   have h1:=dC ts e2.length (e2.length+ts.length) _ t hi
   have h2:=ge (env:=e2++Go.Proofs.YtjggkhmojjaomaaGreatDoor.opens m ts) ts _ _ t _ hi h1
   have h3:=xw ts m _ t hi
   right
   refine ⟨e2.length+(i-hand.length),e2++Go.Proofs.YtjggkhmojjaomaaGreatDoor.opens m ts,?_,?_⟩
   ·rw [q1,<- h.len,List.getElem?_append_right (by omega),Nat.add_sub_cancel_left,h2,List.length_append,kL]
   ·rw [q2,<- h.cnt,List.getElem?_append_right (by omega),Nat.add_sub_cancel_left,h3]

theorem dec_inj {a b:Nat} (h:dec a=dec b):a=b:=by rw [<- dec_val a,h,dec_val]
theorem lname_inj {a b:Nat} (h:lname a=lname b):a=b:=dec_inj (List.cons.inj h).2
structure ej (ns:List Nm) (H:List Ty):Prop where
 len:ns.length=H.length
 each:∀ i k,H[i]? = some k->ns[i]? = some (lname i,k)
theorem ej.nil:ej [] []:=⟨rfl,fun i k h=>by simp at h⟩
theorem ej.kinds {ns:List Nm} {H:List Ty} (h:ej ns H):kinds ns=H:=by
 apply List.ext_getElem?
 intro i
 cases hi:H[i]? with
 | none =>
   have:H.length<=i:=List.getElem?_eq_none_iff.1 hi
   exact List.getElem?_eq_none (by rw [qL,h.len];exact this)
 | some k=>exact uK (h.each i k hi)
theorem dZ {ns:List Nm} {H:List Ty} (h:ej ns H) {v:Nat} (hv:v<H.length):∀ n,v<n->n<=H.length->qJ ns (lname v) n=some v
 | 0,h0,_=>by omega
 | n+1,hn,hl=>by
   rw [qJ]
   obtain ⟨k,hk⟩:∃ k,H[n]? = some k:=⟨H[n],by simp [show n<H.length from by omega]⟩
   rw [h.each n k hk]
   simp only [Option.map_some,Option.some.injEq]
   by_cases e:n=v
   ·subst e;rw [if_pos rfl]
   ·rw [if_neg (fun h'=>e (lname_inj h')),dZ h hv n (by omega) (by omega)]
theorem ej.find {ns:List Nm} {H:List Ty} (h:ej ns H) {v:Nat} {t:Ty} (hv:H[v]? = some t):jQ ns (lname v)=some v/\ns[v]? = some (lname v,t):=by
 have fG:=(List.getElem?_eq_some_iff.1 hv).1
 exact ⟨by unfold jQ;exact dZ h fG _ (by rw [h.len];exact fG) (by rw [h.len];exact ei _),h.each v t hv⟩
def xG:Tm->Prop
 | .nm x=>qy x=false
 | .wd w=>qG w=false
 | .lam x _ t=>qy x=false/\xG t
 | .app m n=>xG m/\xG n
 | .ite l m n=>xG l/\xG m/\xG n
theorem un:∀ a b:Tm,uP a->xG b->z_ a=z_ b->a=b
 | .nm x,b,ha,hb,h=>by
   cases b with
   | nm y=>simp only [z_,Tr.am.injEq] at h;rw [h]
   | wd y =>
     simp only [z_,Tr.am.injEq] at h
     subst h
     have h1:qG x=true:=ha
     have h2:qG x=false:=hb
     rw [h1] at h2;simp at h2
   | lam y l u=>simp [z_] at h
   | app m n=>simp [z_] at h
   | ite l m n=>simp [z_] at h
 | .wd x,b,ha,hb,h=>by
   cases b with
   | wd y=>simp only [z_,Tr.am.injEq] at h;rw [h]
   | nm y =>
     simp only [z_,Tr.am.injEq] at h
     subst h
     have h1:qy x=true:=ha
     have h2:qy x=false:=hb
     rw [h1] at h2;simp at h2
   | lam y l u=>simp [z_] at h
   | app m n=>simp [z_] at h
   | ite l m n=>simp [z_] at h
 | .lam x k t,b,ha,hb,h=>by
   cases b with
   | lam y l u =>
     simp only [z_,Tr.ls.injEq,List.cons.injEq,Tr.am.injEq,and_true,true_and] at h
     obtain ⟨rfl,hk,ht⟩:=h
     obtain rfl:=pB (show zF k=zF l from by rw [<- jz,hk,jz])
     rw [un t u ha.2 hb.2 ht]
   | nm y=>simp [z_] at h
   | wd y=>simp [z_] at h
   | app m n=>simp [z_] at h
   | ite l m n=>simp [z_,jI,ifW] at h
 | .app m n,b,ha,hb,h=>by
   cases b with
   | app p q =>
     simp only [z_,Tr.ls.injEq,List.cons.injEq,and_true,true_and] at h
     rw [un m p ha.1 hb.1 h.1,un n q ha.2 hb.2 h.2]
   | nm y=>simp [z_] at h
   | wd y=>simp [z_] at h
   | lam y l u=>simp [z_] at h
   | ite l m n=>simp [z_] at h
 | .ite l m n,b,ha,hb,h=>by
   cases b with
   | ite o p q =>
     simp only [z_,Tr.ls.injEq,List.cons.injEq,and_true,true_and] at h
     rw [un l o ha.1 hb.1 h.1,un m p ha.2.1 hb.2.1 h.2.1,un n q ha.2.2 hb.2.2 h.2.2]
   | nm y=>simp [z_] at h
   | wd y=>simp [z_] at h
   | lam y l u=>simp [z_,jI,ifW] at h
   | app p q=>simp [z_] at h

def pC (s:Bs):Option Bs:=(kq s).map fun x=>kJ x.2
def termTy (s:Bs):Option Bs:=(dz s).map zF
def wP (a b:Bs):Bool:=match kq a,kq b with
 | some x,some y=>zF x.1 == zF y.1 && kJ x.2 == kJ y.2
 | _,_=>false
theorem y_:∀ t:Tm,uP t->xG t
 | .nm x,h=>by
   have h1:qG x=true:=h
   show qy x=false
   cases hq:qy x with
   | false=>rfl
   | true=>rw [yw hq] at h1;simp at h1
 | .wd w,h=>yw h
 | .lam x k t,h=>⟨by
  have h1:qG x=true:=h.1
  cases hq:qy x with
  | false=>rfl
  | true=>rw [yw hq] at h1;simp at h1,y_ t h.2⟩
 | .app m n,h=>⟨y_ m h.1,y_ n h.2⟩
 | .ite l m n,h=>⟨y_ l h.1,y_ m h.2.1,y_ n h.2.2⟩
theorem tm_inj {a b:Tm} (ha:uP a) (hb:uP b) (h:ze a=ze b):a=b :=
 un a b ha (y_ b hb) (gV (j_ a ha) (j_ b hb) h)
theorem read_as {s:Bs} {t u:Tm} (h:qE s=some u) (ht:uP t) (e:s=ze t):u=t:=by
 obtain ⟨e2,ho,_⟩:=vH h
 exact tm_inj ho ht (by rw [<- e2,e])
theorem p_ {s:Bs} {k:Ty} {b:Bd} (h:kq s=some (k,b)):∃ t,qE s=some t/\uP t/\s=ze t/\typeOf [] t=some k/\zN [] t=some b:=by
 unfold kq at h
 simp only [Option.bind_eq_some_iff,Option.map_eq_some_iff,Prod.mk.injEq] at h
 obtain ⟨t,h1,k',h2,b',h3,rfl,rfl⟩:=h
 obtain ⟨e,ho,_⟩:=vH h1
 exact ⟨t,h1,ho,e,h2,h3⟩
theorem dy {s out:Bs} (h:pC s=some out):∃ k b,kq s=some (k,b)/\out=kJ b/\eh k b/\termTy s=some (zF k):=by
 unfold pC at h
 rw [Option.map_eq_some_iff] at h
 obtain ⟨⟨k,b⟩,h1,rfl⟩:=h
 obtain ⟨h2,h3⟩:=vp h1
 exact ⟨k,b,h1,rfl,h3,by unfold termTy;rw [h2];rfl⟩
def appU (s:Bs):Bs:=[40,97,112,112,32]++s++[32,117,41]
theorem appU_text (t:Tm):appU (ze t)=ze (.app t (.wd [117])):=by
 unfold appU
 rw [ur,wd_text]
 simp [vN]
theorem eR {a b:Bs} (h:wP a b=true):∃ k x,kq a=some (k,x)/\kq b=some (k,x):=by
 unfold wP at h
 cases ha:kq a with
 | none=>rw [ha] at h;simp at h
 | some p =>
   cases hb:kq b with
   | none=>rw [ha,hb] at h;simp at h
   | some q =>
     rw [ha,hb] at h
     simp only [Bool.and_eq_true,beq_iff_eq] at h
     obtain ⟨k,x⟩:=p
     obtain ⟨l,y⟩:=q
     obtain ⟨_,g1⟩:=vp ha
     obtain ⟨_,g2⟩:=vp hb
     obtain rfl:=pB h.1
     obtain rfl:=textB_inj g1 g2 h.2
     exact ⟨k,x,rfl,rfl⟩
theorem alike_of {a b:Bs} {k:Ty} {x:Bd} (ha:kq a=some (k,x)) (hb:kq b=some (k,x)):wP a b=true:=by
 unfold wP;rw [ha,hb];simp
theorem app_u {a:Bs} {k:Ty} {m:Bd} (ha:kq a=some (k,m)) {k':Ty} {b':Bd} (hx:kq (appU a)=some (k',b')):∃ c,k.args=c::k'.args/\jp m (zq [] c (.leaf 117) k'.args) k'.args.length=some b':=by
 obtain ⟨t,_,o1,rfl,t1,m1⟩:=p_ ha
 obtain ⟨u,r2,_,_,t2,m2⟩:=p_ hx
 have ho:uP (.app t (.wd [117])):=⟨o1,show qy [117]=true from by decide⟩
 obtain rfl:=read_as r2 ho (appU_text t)
 obtain ⟨a,c,rest,a1,a2,a3,rfl⟩:=wR t2
 rw [t1] at a1
 obtain rfl:=Option.some.inj a1
 rw [zN,m1,Option.bind_some,zN,Option.bind_some,t1,Option.bind_some,a3] at m2
 simp only [List.length_nil,Nat.zero_add,kinds,List.map_nil] at m2
 exact ⟨c,a3,m2⟩
theorem alike_law {a b x y:Bs} (h:wP a b=true) (hx:pC (appU a)=some x) (hy:pC (appU b)=some y):wP (appU a) (appU b)=true:=by
 obtain ⟨k,m,h1,h2⟩:=eR h
 obtain ⟨k1,b1,g1,_,_,_⟩:=dy hx
 obtain ⟨k2,b2,g2,_,_,_⟩:=dy hy
 obtain ⟨c1,e1,f1⟩:=app_u h1 g1
 obtain ⟨c2,e2,f2⟩:=app_u h2 g2
 rw [e1] at e2
 obtain ⟨rfl,e⟩:=List.cons.inj e2
 obtain rfl:k1=k2:=by cases k1;cases k2;simp only [Ty.args] at e;rw [e]
 rw [f1] at f2
 obtain rfl:=Option.some.inj f2
 exact alike_of g1 g2
theorem alike_back {a b:Bs} (h:wP a b=true):wP b a=true:=by
 obtain ⟨k,m,h1,h2⟩:=eR h
 exact alike_of h2 h1
end Go.Proofs.YtjggkhmojjaomaaGreatDoor

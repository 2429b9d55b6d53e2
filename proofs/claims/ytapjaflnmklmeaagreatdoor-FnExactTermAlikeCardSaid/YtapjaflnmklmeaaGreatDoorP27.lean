/- Plain words: types of terms, and the strategies that they mean. -/
import Derived.Test.YtapjaflnmklmeaaGreatDoorP28
import Derived.Test.YtapjaflnmklmeaaGreatDoorP17
import Derived.Test.YtapjaflnmklmeaaGreatDoorA14
namespace Go.Proofs.YtapjaflnmklmeaaGreatDoor
open Go.RowKit
theorem depthBs_le:∀ (ss:List Bd),(∀ s∈ss,2*depthB s+1≤sizeB s)→ss≠[]→2*depthBs ss≤sizeBs ss+1
 | [],_,h=>absurd rfl h
 | [s],hs,_=>by
   have:=hs s (by simp)
   simp only [depthBs,sizeBs];omega
 | s::t::ss,hs,_=>by
   have h1:=hs s (by simp)
   have h2:=depthBs_le (t::ss) (fun x hx=>hs x (List.mem_cons_of_mem _ hx)) (by simp)
   rw [depthBs,sizeBs];omega
theorem depth_size:∀ (n:Nat) (b:Bd),sizeB b≤n→2*depthB b+1≤sizeB b
 | 0,b,h=>by have:=sizeB_pos b;omega
 | n+1,.leaf c,_=>by simp [depthB,sizeB]
 | n+1,.ask v ss y no,h=>by
   rw [sizeB] at h
   have py:=sizeB_pos y
   have pn:=sizeB_pos no
   have hy:=depth_size n y (by omega)
   have hn:=depth_size n no (by omega)
   rw [depthB,sizeB]
   by_cases hs:ss=[]
   ·subst hs;simp only [depthBs,sizeBs];omega
   ·have:=depthBs_le ss (fun s hs'=>depth_size n s (by have:=mem_sizeBs hs';omega)) hs
    omega
theorem depth_ok {b:Bd} (h:sizeB b≤200):depthB b≤100:=by
 have:=depth_size _ b (Nat.le_refl _);omega
theorem become_writes (b:Bd) (env:List Mn) (n:Nat):writes b env n=become b env n:=by
 rw [writes_eq]
 unfold become
 cases ev 20000 20000 b env n [] with
 | none=>rfl
 | some x =>
   obtain ⟨out,l⟩:=x
   simp only
   by_cases hs:sizeB out≤200
   ·rw [if_pos hs,if_pos ⟨hs,depth_ok hs⟩]
   ·rw [if_neg hs,if_neg (fun h=>hs h.1)]
def smallB (b:Bd):Option Bd:=if sizeB b≤200 then some b else none
mutual
def shiftB (b:Bd) (n k:Nat):Bd:=match b with
 | .leaf c=>.leaf c
 | .ask v ss y no=>.ask (if n≤v then v+k else v) (shiftBs ss n k) (shiftB y n k) (shiftB no n k)
def shiftBs (bs:List Bd) (n k:Nat):List Bd:=match bs with
 | []=>[]
 | b::bs=>shiftB b n k::shiftBs bs n k
end
def graftB (b yes no:Bd):Bd:=match b with
 | .leaf c=>if c=116 then yes else if c=102 then no else .leaf c
 | .ask v ss y n=>.ask v ss (graftB y yes no) (graftB n yes no)
mutual
theorem shift_fit:∀ (b:Bd) (H A X:List Ty),fitB (H++X) b→fitB (H++A++X) (shiftB b H.length A.length)
 | .leaf c,H,A,X,h=>by simp [shiftB,fitB]
 | .ask v ss y no,H,A,X,h=>by
   rw [fitB] at h
   obtain ⟨t,ht,h1,h2,h3⟩:=h
   rw [shiftB,fitB]
   refine ⟨t,?_,shift_fits ss t.args H A X h1,shift_fit y H A X h2,shift_fit no H A X h3⟩
   by_cases hv:H.length≤v
   ·rw [if_pos hv]
    rw [List.getElem?_append_right hv] at ht
    rw [List.append_assoc,List.getElem?_append_right (by omega),List.getElem?_append_right (by omega),show v+A.length-H.length-A.length=v-H.length from by omega];exact ht
   ·rw [if_neg hv]
    rw [List.getElem?_append_left (by omega)] at ht
    rw [List.append_assoc,List.getElem?_append_left (by omega)];exact ht
theorem shift_fits:∀ (bs:List Bd) (ts:List Ty) (H A X:List Ty),fitBs (hands (H++X) ts) bs→fitBs (hands (H++A++X) ts) (shiftBs bs H.length A.length)
 | [],ts,H,A,X,h=>by
   have:=fitBs_length _ _ h
   rw [hands_length] at this
   obtain rfl:ts=[]:=List.eq_nil_of_length_eq_zero this
   rw [shiftBs,fitBs];rfl
 | b::bs,[],H,A,X,h=>by
   have:=fitBs_length _ _ h
   rw [hands_length] at this
   simp at this
 | b::bs,t::ts,H,A,X,h=>by
   rw [fitBs] at h
   obtain ⟨h',hs',e,f1,f2⟩:=h
   simp only [hands,List.map_cons,List.cons.injEq] at e
   obtain ⟨rfl,rfl⟩:=e
   rw [shiftBs,fitBs]
   refine ⟨H++A++X++t.args,hands (H++A++X) ts,rfl,?_,shift_fits bs ts H A X f2⟩
   have:=shift_fit b H A (X++t.args) (by rw [← List.append_assoc];exact f1)
   rw [← List.append_assoc] at this
   exact this
end
mutual
theorem shift_wf:∀ (b:Bd) (n k:Nat),wfB b→wfB (shiftB b n k)
 | .leaf c,n,k,h=>by rw [shiftB];exact h
 | .ask v ss y no,n,k,h=>by
   rw [wfB] at h
   rw [shiftB,wfB]
   exact ⟨shift_wfs ss n k h.1,shift_wf y n k h.2.1,shift_wf no n k h.2.2⟩
theorem shift_wfs:∀ (bs:List Bd) (n k:Nat),wfBs bs→wfBs (shiftBs bs n k)
 | [],n,k,h=>by rw [shiftBs];exact h
 | b::bs,n,k,h=>by
   rw [wfBs] at h
   rw [shiftBs,wfBs]
   exact ⟨shift_wf b n k h.1,shift_wfs bs n k h.2⟩
end
theorem graft_fit:∀ (b yes no:Bd) (H:List Ty),fitB H b→fitB H yes→fitB H no→fitB H (graftB b yes no)
 | .leaf c,yes,no,H,h,h1,h2=>by
   rw [graftB]
   split
   ·exact h1
   ·split
    ·exact h2
    ·exact h
 | .ask v ss y n,yes,no,H,h,h1,h2=>by
   rw [fitB] at h
   obtain ⟨t,ht,k1,k2,k3⟩:=h
   rw [graftB,fitB]
   exact ⟨t,ht,k1,graft_fit y yes no H k2 h1 h2,graft_fit n yes no H k3 h1 h2⟩
theorem graft_wf:∀ (b yes no:Bd),wfB b→wfB yes→wfB no→wfB (graftB b yes no)
 | .leaf c,yes,no,h,h1,h2=>by
   rw [graftB]
   split
   ·exact h1
   ·split
    ·exact h2
    ·exact h
 | .ask v ss y n,yes,no,h,h1,h2=>by
   rw [wfB] at h
   rw [graftB,wfB]
   exact ⟨h.1,graft_wf y yes no h.2.1 h1 h2,graft_wf n yes no h.2.2 h1 h2⟩
abbrev Nm:=Bs×Ty
def findAt (ns:List Nm) (x:Bs):Nat→Option Nat
 | 0=>none
 | n+1=>if ns[n]?.map Prod.fst=some x then some n else findAt ns x n
def findN (ns:List Nm) (x:Bs):Option Nat:=findAt ns x ns.length
theorem findAt_lt {ns:List Nm} {x:Bs}:∀ {n i:Nat},findAt ns x n=some i→i<n∧∃ k,ns[i]? = some (x,k)
 | 0,i,h=>by simp [findAt] at h
 | n+1,i,h=>by
   rw [findAt] at h
   split at h
   ·rename_i hc
    obtain rfl:=Option.some.inj h
    rw [Option.map_eq_some_iff] at hc
    obtain ⟨⟨a,k⟩,h1,rfl⟩:=hc
    exact ⟨by omega,k,h1⟩
   ·obtain ⟨h1,h2⟩:=findAt_lt h
    exact ⟨by omega,h2⟩
def kinds (ns:List Nm):List Ty:=ns.map Prod.snd
def typeOf (ns:List Nm):Tm→Option Ty
 | .nm x=>(findN ns x).bind fun i=>ns[i]?.map Prod.snd
 | .wd _=>some (.mk [])
 | .lam x k t=>if 15<atomsT k then none else (typeOf (ns++[(x,k)]) t).bind fun b=>if 15<atomsT (arrowT k b) then none else some (arrowT k b)
 | .app m n=>(typeOf ns m).bind fun a=>(typeOf ns n).bind fun b=>match a.args with
   | []=>none
   | c::cs=>if textT c=textT b then some (.mk cs) else none
 | .ite l m n=>(typeOf ns l).bind fun a=>(typeOf ns m).bind fun b=>(typeOf ns n).bind fun c=>if a.args=[]∧textT b=textT c then some b else none
def meanOf (ns:List Nm):Tm→Option Bd
 | .nm x=>(findN ns x).bind fun i=>ns[i]?.bind fun p=>smallB (eta p.2 i ns.length)
 | .wd w=>some (.leaf (w.headD 0))
 | .lam x k t=>meanOf (ns++[(x,k)]) t
 | .app m n=>(meanOf ns m).bind fun a=>(meanOf ns n).bind fun b=>(typeOf ns m).bind fun t=>match t.args with
   | []=>none
   | k::rest=>become a (betweenEnv (kinds ns) k b rest) (ns.length+rest.length)
 | .ite l m n=>(meanOf ns l).bind fun a=>(meanOf ns m).bind fun b=>(meanOf ns n).bind fun c=>(typeOf ns m).bind fun t=>smallB (graftB (shiftB a ns.length t.args.length) b c)
theorem textT_inj {a b:Ty} (h:textT a=textT b):a=b:=by
 have k1:=rdK_text (atomsT a+atomsT b) a [] (by omega)
 have k2:=rdK_text (atomsT a+atomsT b) b [] (by omega)
 rw [h,k2] at k1
 exact (Prod.mk.inj (Option.some.inj k1)).1.symm
theorem between_fit {bs rest:List Ty} {a:Ty} {n m:Bd} (hn:fitB (bs++a.args) n) (hm:fitB (bs++a::rest) m):EvFit (bs++rest) m (betweenEnv bs a n rest) []:=by
 refine ⟨⟨bs++a::rest,?_,hm⟩,by simp⟩
 have h1:mnFits (bs++rest) (opens 0 bs) bs:=opens_fit bs 0 fun i t h=>by rw [Nat.zero_add,List.getElem?_append_left (List.getElem?_eq_some_iff.1 h).1];exact h
 refine mnFits_append _ _ _ _ h1 ?_
 rw [mnFits]
 refine ⟨a,rest,rfl,?_,opens_fit_end bs rest⟩
 rw [mnFit]
 exact ⟨rfl,bs,h1,hn⟩
theorem between_wf {bs rest:List Ty} {a:Ty} {n:Bd} (hn:wfB n):wfMs (betweenEnv bs a n rest):=by
 unfold betweenEnv
 refine wfMs_append _ _ (wfMs_opens bs 0) ?_
 exact ⟨⟨hn,wfMs_opens bs 0⟩,wfMs_opens rest bs.length⟩
theorem small_some {b c:Bd} (h:smallB b=some c):c=b∧sizeB b≤200:=by
 unfold smallB at h
 split at h
 ·exact ⟨(Option.some.inj h).symm,by assumption⟩
 ·simp at h
theorem kinds_snoc (ns:List Nm) (x:Bs) (k:Ty):kinds (ns++[(x,k)])=kinds ns++[k]:=by simp [kinds]
theorem kinds_length (ns:List Nm):(kinds ns).length=ns.length:=by simp [kinds]
theorem kinds_at {ns:List Nm} {i:Nat} {x:Bs} {k:Ty} (h:ns[i]? = some (x,k)):(kinds ns)[i]? = some k:=by simp [kinds,h]
theorem type_small:∀ (t:Tm) (ns:List Nm) (k:Ty),(∀ a∈kinds ns,atomsT a≤15)→typeOf ns t=some k→atomsT k≤15
 | .nm x,ns,k,hn,h=>by
   rw [typeOf,Option.bind_eq_some_iff] at h
   obtain ⟨i,_,h2⟩:=h
   rw [Option.map_eq_some_iff] at h2
   obtain ⟨⟨y,a⟩,h3,rfl⟩:=h2
   exact hn a (List.mem_of_getElem? (kinds_at h3))
 | .wd w,ns,k,_,h=>by
   rw [typeOf] at h
   obtain rfl:=Option.some.inj h
   decide
 | .lam x k t,ns,k',hn,h=>by
   rw [typeOf] at h
   split at h
   ·simp at h
   ·rw [Option.bind_eq_some_iff] at h
    obtain ⟨b,_,h2⟩:=h
    split at h2
    ·simp at h2
    ·obtain rfl:=Option.some.inj h2
     omega
 | .app m n,ns,k,hn,h=>by
   rw [typeOf,Option.bind_eq_some_iff] at h
   obtain ⟨a,h1,h⟩:=h
   rw [Option.bind_eq_some_iff] at h
   obtain ⟨b,_,h⟩:=h
   have ha:=type_small m ns a hn h1
   split at h
   ·simp at h
   ·rename_i c cs hc
    split at h
    ·obtain rfl:=Option.some.inj h
     have:=Ty_atoms_cons hc
     omega
    ·simp at h
 | .ite l m n,ns,k,hn,h=>by
   rw [typeOf,Option.bind_eq_some_iff] at h
   obtain ⟨a,_,h⟩:=h
   rw [Option.bind_eq_some_iff] at h
   obtain ⟨b,h1,h⟩:=h
   rw [Option.bind_eq_some_iff] at h
   obtain ⟨c,_,h⟩:=h
   split at h
   ·obtain rfl:=Option.some.inj h
    exact type_small m ns _ hn h1
   ·simp at h
theorem type_app {ns:List Nm} {m n:Tm} {k:Ty} (h:typeOf ns (.app m n)=some k):∃ a b rest,typeOf ns m=some a∧typeOf ns n=some b∧a.args=b::rest∧k=.mk rest:=by
 rw [typeOf,Option.bind_eq_some_iff] at h
 obtain ⟨a,h1,h⟩:=h
 rw [Option.bind_eq_some_iff] at h
 obtain ⟨b,h2,h⟩:=h
 split at h
 ·simp at h
 ·rename_i c cs hc
  split at h
  ·rename_i he
   obtain rfl:=Option.some.inj h
   obtain rfl:=textT_inj he
   exact ⟨a,c,cs,h1,h2,hc,rfl⟩
  ·simp at h
theorem type_ite {ns:List Nm} {l m n:Tm} {k:Ty} (h:typeOf ns (.ite l m n)=some k):typeOf ns l=some (.mk [])∧typeOf ns m=some k∧typeOf ns n=some k:=by
 rw [typeOf,Option.bind_eq_some_iff] at h
 obtain ⟨a,h1,h⟩:=h
 rw [Option.bind_eq_some_iff] at h
 obtain ⟨b,h2,h⟩:=h
 rw [Option.bind_eq_some_iff] at h
 obtain ⟨c,h3,h⟩:=h
 split at h
 ·rename_i he
  obtain rfl:=Option.some.inj h
  obtain rfl:=textT_inj he.2
  refine ⟨?_,h2,h3⟩
  rw [h1]
  cases a with
  | mk ts=>have:=he.1;simp only [Ty.args] at this;subst this;rfl
 ·simp at h
theorem type_lam {ns:List Nm} {x:Bs} {a:Ty} {t:Tm} {k:Ty} (h:typeOf ns (.lam x a t)=some k):atomsT a≤15∧∃ b,typeOf (ns++[(x,a)]) t=some b∧k=arrowT a b:=by
 rw [typeOf] at h
 split at h
 ·simp at h
 ·rw [Option.bind_eq_some_iff] at h
  obtain ⟨b,h1,h2⟩:=h
  split at h2
  ·simp at h2
  ·obtain rfl:=Option.some.inj h2
   exact ⟨by omega,b,h1,rfl⟩
theorem mean_good:∀ (t:Tm) (ns:List Nm) (k:Ty) (b:Bd),okTm t→(∀ a∈kinds ns,atomsT a≤15)→typeOf ns t=some k→meanOf ns t=some b→fitB (kinds ns++k.args) b∧wfB b∧sizeB b≤200
 | .nm x,ns,k,b,_,hn,ht,h=>by
   rw [typeOf,Option.bind_eq_some_iff] at ht
   obtain ⟨i,hi,ht⟩:=ht
   rw [meanOf,hi,Option.bind_some,Option.bind_eq_some_iff] at h
   obtain ⟨⟨y,a⟩,h1,h2⟩:=h
   rw [h1] at ht
   simp at ht;subst ht
   obtain ⟨rfl,hs⟩:=small_some h2
   exact ⟨eta_fit a i ns.length (kinds ns) (kinds_length ns) (kinds_at h1),eta_wf a i ns.length,hs⟩
 | .wd w,ns,k,b,ho,hn,ht,h=>by
   rw [meanOf] at h
   obtain rfl:=Option.some.inj h
   refine ⟨by simp [fitB],?_,by simp [sizeB]⟩
   rw [wfB]
   have:leafW w=true:=ho
   simp only [leafW,Bool.or_eq_true,beq_iff_eq] at this
   rcases this with (rfl | rfl) | rfl
   ·exact .inl rfl
   ·exact .inr (.inl rfl)
   ·exact .inr (.inr rfl)
 | .lam x a t,ns,k,b,ho,hn,ht,h=>by
   obtain ⟨ha,c,hc,rfl⟩:=type_lam ht
   rw [meanOf] at h
   have:=mean_good t (ns++[(x,a)]) c b ho.2 (fun y hy=>by
    rw [kinds_snoc] at hy
    rcases List.mem_append.1 hy with hy | hy
    ·exact hn y hy
    ·simp at hy;subst hy;exact ha) hc h
   rw [kinds_snoc,List.append_assoc] at this
   exact this
 | .app m n,ns,k,b,ho,hn,ht,h=>by
   obtain ⟨a,c,rest,h1,h2,h3,rfl⟩:=type_app ht
   rw [meanOf,Option.bind_eq_some_iff] at h
   obtain ⟨p,hp,h⟩:=h
   rw [Option.bind_eq_some_iff] at h
   obtain ⟨q,hq,h⟩:=h
   rw [h1,Option.bind_some,h3] at h
   simp only at h
   obtain ⟨f1,w1,s1⟩:=mean_good m ns a p ho.1 hn h1 hp
   obtain ⟨f2,w2,s2⟩:=mean_good n ns c q ho.2 hn h2 hq
   rw [h3] at f1
   have hf:=between_fit f2 f1
   have hlen:ns.length+rest.length=(kinds ns++rest).length:=by rw [List.length_append,kinds_length]
   rw [hlen] at h
   unfold become at h
   cases hv:ev 20000 20000 p (betweenEnv (kinds ns) c q rest) (kinds ns++rest).length [] with
   | none=>rw [hv] at h;simp at h
   | some x =>
     obtain ⟨o,l⟩:=x
     rw [hv] at h
     simp only at h
     split at h
     ·rename_i hs
      obtain rfl:=Option.some.inj h
      exact ⟨ev_fit _ _ _ _ _ _ _ _ hf hv,ev_wf _ _ _ _ _ _ _ _ w1 (between_wf w2) (by simp) hv,hs.1⟩
     ·simp at h
 | .ite l m n,ns,k,b,ho,hn,ht,h=>by
   obtain ⟨h1,h2,h3⟩:=type_ite ht
   rw [meanOf,Option.bind_eq_some_iff] at h
   obtain ⟨p,hp,h⟩:=h
   rw [Option.bind_eq_some_iff] at h
   obtain ⟨q,hq,h⟩:=h
   rw [Option.bind_eq_some_iff] at h
   obtain ⟨r,hr,h⟩:=h
   rw [h2,Option.bind_some] at h
   obtain ⟨rfl,hs⟩:=small_some h
   obtain ⟨f1,w1,_⟩:=mean_good l ns _ p ho.1 hn h1 hp
   obtain ⟨f2,w2,_⟩:=mean_good m ns _ q ho.2.1 hn h2 hq
   obtain ⟨f3,w3,_⟩:=mean_good n ns _ r ho.2.2 hn h3 hr
   have hsh:=shift_fit p (kinds ns) k.args [] (show fitB (kinds ns++[]) p from f1)
   rw [List.append_nil,kinds_length] at hsh
   exact ⟨graft_fit _ _ _ _ hsh f2 f3,graft_wf _ _ _ (shift_wf _ _ _ w1) w2 w3,hs⟩
theorem mean_closed {t:Tm} {k:Ty} {b:Bd} (ho:okTm t) (ht:typeOf [] t=some k) (h:meanOf [] t=some b):Good k b:=by
 obtain ⟨h1,h2,h3⟩:=mean_good t [] k b ho (by simp [kinds]) ht h
 exact ⟨type_small t [] k (by simp [kinds]) ht,by simpa [kinds] using h1,h2,h3,depth_ok h3⟩
def meaning (s:Bs):Option (Ty×Bd):=(implTerm s).bind fun t=>(typeOf [] t).bind fun k=>(meanOf [] t).map fun b=>(k,b)
def termType (s:Bs):Option Ty:=(implTerm s).bind fun t=>typeOf [] t
theorem meaning_good {s:Bs} {k:Ty} {b:Bd} (h:meaning s=some (k,b)):termType s=some k∧Good k b:=by
 unfold meaning at h
 simp only [Option.bind_eq_some_iff,Option.map_eq_some_iff,Prod.mk.injEq] at h
 obtain ⟨t,h1,k',h2,b',h3,rfl,rfl⟩:=h
 obtain ⟨_,ho,_⟩:=implTerm_some h1
 exact ⟨by unfold termType;rw [h1];exact h2,mean_closed ho h2 h3⟩
theorem type_all:∀ (t:Tm) (ns:List Nm) (k:Ty),typeOf ns t=some k→smallTm t=true
 | .nm x,ns,k,h=>by rw [smallTm]
 | .wd w,ns,k,h=>by rw [smallTm]
 | .lam x a t,ns,k,h=>by
   obtain ⟨ha,b,hb,_⟩:=type_lam h
   rw [smallTm,decide_eq_true ha,type_all t _ b hb];rfl
 | .app m n,ns,k,h=>by
   obtain ⟨a,b,rest,h1,h2,_⟩:=type_app h
   rw [smallTm,type_all m ns a h1,type_all n ns b h2];rfl
 | .ite l m n,ns,k,h=>by
   obtain ⟨h1,h2,h3⟩:=type_ite h
   rw [smallTm,type_all l ns _ h1,type_all m ns _ h2,type_all n ns _ h3];rfl
end Go.Proofs.YtapjaflnmklmeaaGreatDoor

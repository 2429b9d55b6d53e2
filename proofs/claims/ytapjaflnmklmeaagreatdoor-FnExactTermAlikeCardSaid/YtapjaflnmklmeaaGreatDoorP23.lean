/- Plain words: texts that are read as trees (the reference), and terms (impl). -/
import Derived.Test.YtapjaflnmklmeaaGreatDoorP14
namespace Go.Proofs.YtapjaflnmklmeaaGreatDoor
open Go.RowKit
inductive Tr where
 | am (a:Bs)
 | ls (ps:List Tr)
mutual
def textTr:Tr→Bs
 | .am a=>a
 | .ls ps=>40::textTrs ps
def textTrs:List Tr→Bs
 | []=>[41]
 | p::ps=>textTr p++tailTrs ps
def tailTrs:List Tr→Bs
 | []=>[41]
 | p::ps=>32::(textTr p++tailTrs ps)
end
mutual
def okTr:Tr→Prop
 | .am a=>a≠[]∧∀ c∈a,sep c=false
 | .ls ps=>ps≠[]∧okTrs ps
def okTrs:List Tr→Prop
 | []=>True
 | p::ps=>okTr p∧okTrs ps
end
mutual
def deepTr:Tr→Nat
 | .am _=>0
 | .ls ps=>1+deepTrs ps
def deepTrs:List Tr→Nat
 | []=>0
 | p::ps=>max (deepTr p) (deepTrs ps)
end
mutual
def sizeTr:Tr→Nat
 | .am _=>1
 | .ls ps=>sizeTrs ps
def sizeTrs:List Tr→Nat
 | []=>0
 | p::ps=>sizeTr p+sizeTrs ps
end
def rdTrs (rd:Bs→Option (Tr×Bs)):Nat→Bs→Option (List Tr×Bs)
 | 0,_=>none
 | n+1,l=>(rd l).bind fun x=>match x.2 with
   | []=>none
   | c::r=>if c=41 then some ([x.1],r) else if c=32 then (rdTrs rd n r).map fun y=>(x.1::y.1,y.2) else none
def rdTr:Nat→Bs→Option (Tr×Bs)
 | 0,_=>none
 | d+1,l=>match l with
   | []=>none
   | c::r=>if c=40 then (rdTrs (rdTr d) (r.length+1) r).map fun y=>(.ls y.1,y.2) else if wordOf l=[] then none else some (.am (wordOf l),wordRest l)
theorem rdTr_open (d:Nat) (r:Bs):rdTr (d+1) (40::r)=(rdTrs (rdTr d) (r.length+1) r).map fun y=>(.ls y.1,y.2):=by rw [rdTr];simp
theorem rdTr_atom (d:Nat) (c:UInt8) (r:Bs) (h:c≠40):rdTr (d+1) (c::r)=if wordOf (c::r)=[] then none else some (.am (wordOf (c::r)),wordRest (c::r)):=by rw [rdTr];simp [h]
theorem wordOf_pos {l:Bs} (h:wordOf l≠[]):(wordRest l).length<l.length:=by
 have:=congrArg List.length (word_cut l)
 rw [List.length_append] at this
 have:0<(wordOf l).length:=by cases hw:wordOf l with
  | nil=>exact absurd hw h
  | cons c r=>simp
 omega
def Shrinks (rd:Bs→Option (Tr×Bs)):Prop:=∀ l t r,rd l=some (t,r)→r.length<l.length
theorem rdTrs_shrinks {rd:Bs→Option (Tr×Bs)} (h:Shrinks rd):∀ (n:Nat) (l:Bs) (ps:List Tr) (r:Bs),rdTrs rd n l=some (ps,r)→r.length<l.length
 | 0,l,ps,r,k=>by simp [rdTrs] at k
 | n+1,l,ps,r,k=>by
   rw [rdTrs,Option.bind_eq_some_iff] at k
   obtain ⟨⟨t,r1⟩,k1,k2⟩:=k
   have h1:=h _ _ _ k1
   cases r1 with
   | nil=>simp at k2
   | cons c r1 =>
     simp only [List.length_cons] at h1
     simp only at k2
     split at k2
     ·simp at k2;obtain ⟨_,rfl⟩:=k2;omega
     ·split at k2
      ·rw [Option.map_eq_some_iff] at k2
       obtain ⟨⟨qs,r2⟩,k3,k4⟩:=k2
       simp at k4;obtain ⟨_,rfl⟩:=k4
       have:=rdTrs_shrinks h n _ _ _ k3
       omega
      ·simp at k2
theorem rdTr_shrinks:∀ d,Shrinks (rdTr d)
 | 0=>fun l t r h=>by simp [rdTr] at h
 | d+1=>fun l t r h=>by
   cases l with
   | nil=>simp [rdTr] at h
   | cons c l =>
     by_cases hc:c=40
     ·subst hc
      rw [rdTr_open,Option.map_eq_some_iff] at h
      obtain ⟨⟨ps,r1⟩,h1,h2⟩:=h
      simp at h2;obtain ⟨_,rfl⟩:=h2
      have:=rdTrs_shrinks (rdTr_shrinks d) _ _ _ _ h1
      simp;omega
     ·rw [rdTr_atom d c l hc] at h
      split at h
      ·simp at h
      ·rename_i hw
       simp at h;obtain ⟨_,rfl⟩:=h
       exact wordOf_pos hw
theorem rdTrs_more {rd:Bs→Option (Tr×Bs)} (h:Shrinks rd):∀ (n m:Nat) (l:Bs),l.length<n→l.length<m→rdTrs rd n l=rdTrs rd m l
 | 0,_,_,k,_=>by omega
 | _+1,0,_,_,k=>by omega
 | n+1,m+1,l,k,k'=>by
   rw [rdTrs,rdTrs]
   cases hq:rd l with
   | none=>rfl
   | some x =>
     obtain ⟨t,r1⟩:=x
     have h1:=h _ _ _ hq
     simp only [Option.bind_some]
     cases r1 with
     | nil=>rfl
     | cons c r1 =>
       simp only [List.length_cons] at h1
       simp only
       rw [rdTrs_more h n m r1 (by omega) (by omega)]
theorem tail_start (ps:List Tr) (r:Bs):sepStart (tailTrs ps++r):=by
 cases ps with
 | nil=>rw [tailTrs];exact .inr ⟨41,r,rfl,by decide⟩
 | cons p ps=>rw [tailTrs];exact .inr ⟨32,_,rfl,by decide⟩
mutual
theorem rdTr_text:∀ (t:Tr) (d:Nat) (r:Bs),okTr t→deepTr t<d→sepStart r→rdTr d (textTr t++r)=some (t,r)
 | .am a,d,r,ho,hd,hr=>by
   rw [okTr] at ho
   obtain ⟨d,rfl⟩:∃ k,d=k+1:=⟨d-1,by omega⟩
   obtain ⟨h1,h2⟩:=word_of ho.2 hr
   rw [textTr]
   cases a with
   | nil=>exact absurd rfl ho.1
   | cons c a =>
     have hc:c≠40:=by rintro rfl;have:=ho.2 40 (by simp);simp [sep] at this
     rw [List.cons_append] at *
     rw [rdTr_atom d c _ hc,h1,h2,if_neg (by simp)]
 | .ls ps,d,r,ho,hd,hr=>by
   rw [okTr] at ho
   rw [deepTr] at hd
   obtain ⟨d,rfl⟩:∃ k,d=k+1:=⟨d-1,by omega⟩
   rw [textTr,List.cons_append,rdTr_open]
   have:=rdTrs_text ps d r _ ho.2 ho.1 (by omega) (Nat.lt_succ_self _)
   rw [this];rfl
theorem rdTrs_text:∀ (ps:List Tr) (d:Nat) (r:Bs) (n:Nat),okTrs ps→ps≠[]→deepTrs ps<d→(textTrs ps++r).length<n→rdTrs (rdTr d) n (textTrs ps++r)=some (ps,r)
 | [],d,r,n,_,hne,_,_=>absurd rfl hne
 | p::ps,d,r,n,ho,_,hd,hn=>by
   rw [okTrs] at ho
   rw [deepTrs] at hd
   obtain ⟨n,rfl⟩:∃ k,n=k+1:=⟨n-1,by omega⟩
   have h1:=rdTr_text p d (tailTrs ps++r) ho.1 (by omega) (tail_start ps r)
   rw [textTrs,List.append_assoc] at *
   rw [rdTrs,h1,Option.bind_some]
   have hl:=rdTr_shrinks d _ _ _ h1
   cases ps with
   | nil=>rw [tailTrs];simp
   | cons q qs =>
     rw [tailTrs] at *
     simp only [List.cons_append]
     rw [if_neg (by decide),if_pos trivial]
     have e:textTrs (q::qs)=textTr q++tailTrs qs:=by rw [textTrs]
     have:=rdTrs_text (q::qs) d r n ho.2 (by simp) (by omega) (by
      rw [e]
      simp only [List.cons_append,List.length_cons,List.length_append] at hn hl ⊢
      omega)
     rw [e] at this
     rw [this];rfl
end
theorem rdTrs_canon {d:Nat} (ih:∀ (l:Bs) (t:Tr) (r:Bs),rdTr d l=some (t,r)→l=textTr t++r∧okTr t∧deepTr t<d∧(∀ a,t=.am a→sepStart r)) :
 ∀ (n:Nat) (l:Bs) (ps:List Tr) (r:Bs),rdTrs (rdTr d) n l=some (ps,r)→l=textTrs ps++r∧okTrs ps∧ps≠[]∧deepTrs ps<d
 | 0,l,ps,r,k=>by simp [rdTrs] at k
 | n+1,l,ps,r,k=>by
   rw [rdTrs,Option.bind_eq_some_iff] at k
   obtain ⟨⟨t,r1⟩,k1,k2⟩:=k
   obtain ⟨e1,o1,d1,_⟩:=ih _ _ _ k1
   cases r1 with
   | nil=>simp at k2
   | cons c r1 =>
     simp only at k2
     split at k2
     ·rename_i hc
      simp at k2;obtain ⟨rfl,rfl⟩:=k2
      subst hc
      refine ⟨?_,?_,by simp,?_⟩
      ·rw [textTrs,tailTrs,e1];simp
      ·rw [okTrs,okTrs];exact ⟨o1,trivial⟩
      ·rw [deepTrs,deepTrs];omega
     ·split at k2
      ·rename_i hc
       rw [Option.map_eq_some_iff] at k2
       obtain ⟨⟨qs,r2⟩,k3,k4⟩:=k2
       simp at k4;obtain ⟨rfl,rfl⟩:=k4
       obtain ⟨e2,o2,n2,d2⟩:=rdTrs_canon ih n _ _ _ k3
       subst hc
       refine ⟨?_,?_,by simp,?_⟩
       ·cases qs with
        | nil=>exact absurd rfl n2
        | cons q qs=>rw [textTrs] at e2;rw [textTrs,tailTrs,e1,e2];simp
       ·rw [okTrs];exact ⟨o1,o2⟩
       ·rw [deepTrs];omega
      ·simp at k2
theorem rdTr_canon:∀ (d:Nat) (l:Bs) (t:Tr) (r:Bs),rdTr d l=some (t,r)→l=textTr t++r∧okTr t∧deepTr t<d∧(∀ a,t=.am a→sepStart r)
 | 0,l,t,r,h=>by simp [rdTr] at h
 | d+1,l,t,r,h=>by
   cases l with
   | nil=>simp [rdTr] at h
   | cons c l =>
     by_cases hc:c=40
     ·subst hc
      rw [rdTr_open,Option.map_eq_some_iff] at h
      obtain ⟨⟨ps,r1⟩,h1,h2⟩:=h
      simp at h2;obtain ⟨rfl,rfl⟩:=h2
      obtain ⟨e1,o1,n1,d1⟩:=rdTrs_canon (rdTr_canon d) _ _ _ _ h1
      refine ⟨by rw [textTr,e1];rfl,by rw [okTr];exact ⟨n1,o1⟩,by rw [deepTr];omega,fun a e=>by simp at e⟩
     ·rw [rdTr_atom d c l hc] at h
      split at h
      ·simp at h
      ·rename_i hw
       simp at h;obtain ⟨rfl,rfl⟩:=h
       refine ⟨by rw [textTr];exact word_cut _,?_,by rw [deepTr];omega,fun a _=>wordRest_start _⟩
       rw [okTr]
       refine ⟨hw,fun x hx=>?_⟩
       have key:∀ (m:Bs),∀ y∈m.takeWhile (fun c=>!sep c),sep y=false:=by
        intro m
        induction m with
        | nil=>intro y hy;simp at hy
        | cons z m ih =>
          intro y hy
          rw [List.takeWhile_cons] at hy
          split at hy
          ·rename_i hz
           rcases List.mem_cons.1 hy with rfl | hy
           ·simpa using hz
           ·exact ih y hy
          ·simp at hy
       exact key _ x hx
def nameB (s:Bs):Bool:=match s with
 | []=>false
 | c::r=>decide (r.length≤2) && (120≤c && c≤122) && r.all dig
def lamW:Bs:=[108,97,109]
def appW:Bs:=[97,112,112]
def ifW:Bs:=[105,102]
def leafW (a:Bs):Bool:=a == [116] || a == [102] || a == [117]
def headTr:List Tr→Bs
 | .am a::_=>a
 | _=>[]
def atomTr:Tr→Bs
 | .am a=>a
 | .ls _=>[]
def isTr:Tr→Bool
 | .am a=>leafW a || nameB a
 | .ls [h,a,b]=>headTr [h] == appW && isTr a && isTr b
 | .ls [h,a,b,c]=>(headTr [h] == lamW && (nameB (atomTr a) && (specType (textTr b)).2 && isTr c)) || (headTr [h] == ifW && (isTr a && isTr b && isTr c))
 | .ls _=>false
def specTerm (l:Bs):Option Tr:=if 1000<l.length then none else match rdTr 101 l with
 | some (t,[])=>if isTr t && decide (sizeTr t≤60) then some t else none
 | _=>none
inductive Tm where
 | nm (x:Bs)
 | wd (w:Bs)
 | lam (x:Bs) (k:Ty) (t:Tm)
 | app (m n:Tm)
 | ite (l m n:Tm)
def sizeTm:Tm→Nat
 | .nm _=>1
 | .wd _=>1
 | .lam _ k t=>2+atomsT k+sizeTm t
 | .app m n=>1+sizeTm m+sizeTm n
 | .ite l m n=>1+sizeTm l+sizeTm m+sizeTm n
def trT:Ty→Tr
 | .mk ts=>trTs ts
where trTs:List Ty→Tr
 | []=>.am [98]
 | t::ts=>.ls [.am [62],trT t,trTs ts]
def trTm:Tm→Tr
 | .nm x=>.am x
 | .wd w=>.am w
 | .lam x k t=>.ls [.am lamW,.am x,trT k,trTm t]
 | .app m n=>.ls [.am appW,trTm m,trTm n]
 | .ite l m n=>.ls [.am ifW,trTm l,trTm m,trTm n]
def okTm:Tm→Prop
 | .nm x=>nameB x=true
 | .wd w=>leafW w=true
 | .lam x _ t=>nameB x=true∧okTm t
 | .app m n=>okTm m∧okTm n
 | .ite l m n=>okTm l∧okTm m∧okTm n
def smallTm:Tm→Bool
 | .nm _=>true
 | .wd _=>true
 | .lam _ k t=>decide (atomsT k≤15) && smallTm t
 | .app m n=>smallTm m && smallTm n
 | .ite l m n=>smallTm l && smallTm m && smallTm n
def deepTm:Tm→Nat
 | .nm _=>0
 | .wd _=>0
 | .lam _ _ t=>1+deepTm t
 | .app m n=>1+max (deepTm m) (deepTm n)
 | .ite l m n=>1+max (deepTm l) (max (deepTm m) (deepTm n))
def rdTm:Nat→Bs→Option (Tm×Bs)
 | d,l=>match cut [40] l with
   | none=>if nameB (wordOf l) then some (.nm (wordOf l),wordRest l) else if leafW (wordOf l) then some (.wd (wordOf l),wordRest l) else none
   | some l1=>match d with
     | 0=>none
     | d+1 =>
       if wordOf l1=lamW then (cut [32] (wordRest l1)).bind fun l3=>if nameB (wordOf l3) then (cut [32] (wordRest l3)).bind fun l4=>(rdK 60 l4).bind fun k=>(cut [32] k.2).bind fun l6=>(rdTm d l6).bind fun t=>(cut [41] t.2).map fun l8=>(.lam (wordOf l3) k.1 t.1,l8) else none
       else if wordOf l1=appW then (cut [32] (wordRest l1)).bind fun l3=>(rdTm d l3).bind fun m=>(cut [32] m.2).bind fun l4=>(rdTm d l4).bind fun n=>(cut [41] n.2).map fun l5=>(.app m.1 n.1,l5)
       else if wordOf l1=ifW then (cut [32] (wordRest l1)).bind fun l3=>(rdTm d l3).bind fun x=>(cut [32] x.2).bind fun l4=>(rdTm d l4).bind fun m=>(cut [32] m.2).bind fun l5=>(rdTm d l5).bind fun n=>(cut [41] n.2).map fun l6=>(.ite x.1 m.1 n.1,l6)
       else none
def implTerm (l:Bs):Option Tm:=match rdTm 60 l with
 | some (t,[])=>if sizeTm t≤60 then some t else none
 | _=>none
theorem name_sep {x:Bs} (h:nameB x=true):x≠[]∧∀ c∈x,sep c=false:=by
 cases x with
 | nil=>simp [nameB] at h
 | cons c r =>
   simp only [nameB,Bool.and_eq_true,decide_eq_true_eq,List.all_eq_true] at h
   obtain ⟨⟨_,h1,h2⟩,h3⟩:=h
   refine ⟨by simp,fun y hy=>?_⟩
   rcases List.mem_cons.1 hy with rfl | hy
   ·rw [Bool.eq_false_iff];intro hs
    simp only [sep,Bool.or_eq_true,beq_iff_eq] at hs
    rcases hs with (rfl | rfl) | rfl <;> revert h1 <;> decide
   ·exact dig_sep (h3 y hy)
theorem leaf_sep {x:Bs} (h:leafW x=true):x≠[]∧∀ c∈x,sep c=false:=by
 simp only [leafW,Bool.or_eq_true,beq_iff_eq] at h
 rcases h with (rfl | rfl) | rfl <;> exact ⟨by simp,by intro c hc;simp at hc;subst hc;decide⟩
theorem name_leaf {x:Bs} (h:leafW x=true):nameB x=false:=by
 simp only [leafW,Bool.or_eq_true,beq_iff_eq] at h
 rcases h with (rfl | rfl) | rfl <;> decide
mutual
theorem textTr_T:∀ k:Ty,textTr (trT k)=textT k
 | .mk ts=>by rw [trT,textTr_Ts ts]
theorem textTr_Ts:∀ ts:List Ty,textTr (trT.trTs ts)=textT (.mk ts)
 | []=>by rw [trT.trTs,textTr,textT_nil]
 | t::ts=>by rw [trT.trTs,textTr,textTrs,tailTrs,tailTrs,tailTrs,textTr,textTr_T t,textTr_Ts ts,textT_cons];simp
end
mutual
theorem okTr_T:∀ k:Ty,okTr (trT k)
 | .mk ts=>by rw [trT];exact okTr_Ts ts
theorem okTr_Ts:∀ ts:List Ty,okTr (trT.trTs ts)
 | []=>by rw [trT.trTs,okTr];exact ⟨by simp,by intro c hc;simp at hc;subst hc;decide⟩
 | t::ts=>by
   rw [trT.trTs,okTr,okTrs,okTrs,okTrs,okTrs]
   exact ⟨by simp,by rw [okTr];exact ⟨by simp,by intro c hc;simp at hc;subst hc;decide⟩,okTr_T t,okTr_Ts ts,trivial⟩
end
mutual
theorem sizeTr_T:∀ k:Ty,sizeTr (trT k)=atomsT k
 | .mk ts=>by rw [trT,sizeTr_Ts ts]
theorem sizeTr_Ts:∀ ts:List Ty,sizeTr (trT.trTs ts)=atomsT (.mk ts)
 | []=>by rw [trT.trTs,sizeTr,atomsT,atomsTs]
 | t::ts=>by rw [trT.trTs,sizeTr,sizeTrs,sizeTrs,sizeTrs,sizeTrs,sizeTr,sizeTr_T t,sizeTr_Ts ts,atomsT_cons];omega
end
mutual
theorem deepTr_T:∀ k:Ty,deepTr (trT k)<atomsT k
 | .mk ts=>by rw [trT];exact deepTr_Ts ts
theorem deepTr_Ts:∀ ts:List Ty,deepTr (trT.trTs ts)<atomsT (.mk ts)
 | []=>by rw [trT.trTs,deepTr,atomsT];omega
 | t::ts=>by
   have h1:=deepTr_T t
   have h2:=deepTr_Ts ts
   rw [trT.trTs,deepTr,deepTrs,deepTrs,deepTrs,deepTrs,deepTr,atomsT_cons];omega
end
theorem okTr_Tm:∀ t:Tm,okTm t→okTr (trTm t)
 | .nm x,h=>by rw [trTm,okTr];exact name_sep h
 | .wd w,h=>by rw [trTm,okTr];exact leaf_sep h
 | .lam x k t,h=>by
   rw [trTm,okTr,okTrs,okTrs,okTrs,okTrs,okTrs]
   exact ⟨by simp,by rw [okTr];exact ⟨by decide,by decide⟩,by rw [okTr];exact name_sep h.1,okTr_T k,okTr_Tm t h.2,trivial⟩
 | .app m n,h=>by
   rw [trTm,okTr,okTrs,okTrs,okTrs,okTrs]
   exact ⟨by simp,by rw [okTr];exact ⟨by decide,by decide⟩,okTr_Tm m h.1,okTr_Tm n h.2,trivial⟩
 | .ite l m n,h=>by
   rw [trTm,okTr,okTrs,okTrs,okTrs,okTrs,okTrs]
   exact ⟨by simp,by rw [okTr];exact ⟨by decide,by decide⟩,okTr_Tm l h.1,okTr_Tm m h.2.1,okTr_Tm n h.2.2,trivial⟩
theorem sizeTr_Tm:∀ t:Tm,sizeTr (trTm t)=sizeTm t
 | .nm x=>by rw [trTm,sizeTr,sizeTm]
 | .wd w=>by rw [trTm,sizeTr,sizeTm]
 | .lam x k t=>by rw [trTm,sizeTr,sizeTrs,sizeTrs,sizeTrs,sizeTrs,sizeTrs,sizeTr,sizeTr,sizeTr_T,sizeTr_Tm t,sizeTm];omega
 | .app m n=>by rw [trTm,sizeTr,sizeTrs,sizeTrs,sizeTrs,sizeTrs,sizeTr,sizeTr_Tm m,sizeTr_Tm n,sizeTm];omega
 | .ite l m n=>by rw [trTm,sizeTr,sizeTrs,sizeTrs,sizeTrs,sizeTrs,sizeTrs,sizeTr,sizeTr_Tm l,sizeTr_Tm m,sizeTr_Tm n,sizeTm];omega
theorem deepTr_Tm:∀ t:Tm,deepTr (trTm t)<sizeTm t
 | .nm x=>by rw [trTm,deepTr,sizeTm];omega
 | .wd w=>by rw [trTm,deepTr,sizeTm];omega
 | .lam x k t=>by
   have h1:=deepTr_T k
   have h2:=deepTr_Tm t
   rw [trTm,deepTr,deepTrs,deepTrs,deepTrs,deepTrs,deepTrs,deepTr,deepTr,sizeTm];omega
 | .app m n=>by
   have h1:=deepTr_Tm m
   have h2:=deepTr_Tm n
   rw [trTm,deepTr,deepTrs,deepTrs,deepTrs,deepTrs,deepTr,sizeTm];omega
 | .ite l m n=>by
   have h0:=deepTr_Tm l
   have h1:=deepTr_Tm m
   have h2:=deepTr_Tm n
   rw [trTm,deepTr,deepTrs,deepTrs,deepTrs,deepTrs,deepTrs,deepTr,sizeTm];omega
theorem deepTm_size:∀ t:Tm,deepTm t<sizeTm t
 | .nm x=>by rw [deepTm,sizeTm];omega
 | .wd w=>by rw [deepTm,sizeTm];omega
 | .lam x k t=>by have:=deepTm_size t;rw [deepTm,sizeTm];omega
 | .app m n=>by have:=deepTm_size m;have:=deepTm_size n;rw [deepTm,sizeTm];omega
 | .ite l m n=>by have:=deepTm_size l;have:=deepTm_size m;have:=deepTm_size n;rw [deepTm,sizeTm];omega
def textTm (t:Tm):Bs:=textTr (trTm t)
theorem textTm_lam (x:Bs) (k:Ty) (t:Tm):textTm (.lam x k t)=40::(lamW++32::(x++32::(textT k++32::(textTm t++[41])))):=by
 unfold textTm;rw [trTm,textTr,textTrs,tailTrs,tailTrs,tailTrs,tailTrs,textTr,textTr,textTr_T]
theorem textTm_app (m n:Tm):textTm (.app m n)=40::(appW++32::(textTm m++32::(textTm n++[41]))):=by
 unfold textTm;rw [trTm,textTr,textTrs,tailTrs,tailTrs,tailTrs,textTr]
theorem textTm_ite (l m n:Tm):textTm (.ite l m n)=40::(ifW++32::(textTm l++32::(textTm m++32::(textTm n++[41])))):=by
 unfold textTm;rw [trTm,textTr,textTrs,tailTrs,tailTrs,tailTrs,tailTrs,textTr]
theorem cut_no {c:UInt8} {l:Bs} (h:∀ r,l≠c::r):cut [c] l=none:=by
 unfold cut
 cases l with
 | nil=>rfl
 | cons d r =>
   have:d≠c:=by rintro rfl;exact h r rfl
   simp [List.isPrefixOf,this.symm]
theorem sep_start (c:UInt8) (r:Bs) (h:sep c=true):sepStart (c::r):=.inr ⟨c,r,rfl,h⟩
theorem rdTm_word {d:Nat} {w r:Bs} (hw:w≠[]∧∀ c∈w,sep c=false) (hr:sepStart r):rdTm d (w++r)=if nameB w then some (.nm w,r) else if leafW w then some (.wd w,r) else none:=by
 obtain ⟨h1,h2⟩:=word_of hw.2 hr
 have hc:cut [40] (w++r)=none:=cut_no fun r' e=>by
  cases w with
  | nil=>exact hw.1 rfl
  | cons c w =>
    simp at e
    have:=hw.2 c (by simp)
    rw [e.1] at this;simp [sep] at this
 rw [rdTm.eq_def]
 simp only [hc,h1,h2]
theorem rdTm_open {d:Nat} {l:Bs}:rdTm (d+1) (40::l)=(
        if wordOf l=lamW then (cut [32] (wordRest l)).bind fun l3=>if nameB (wordOf l3) then (cut [32] (wordRest l3)).bind fun l4=>(rdK 60 l4).bind fun k=>(cut [32] k.2).bind fun l6=>(rdTm d l6).bind fun t=>(cut [41] t.2).map fun l8=>(.lam (wordOf l3) k.1 t.1,l8) else none
        else if wordOf l=appW then (cut [32] (wordRest l)).bind fun l3=>(rdTm d l3).bind fun m=>(cut [32] m.2).bind fun l4=>(rdTm d l4).bind fun n=>(cut [41] n.2).map fun l5=>(.app m.1 n.1,l5)
        else if wordOf l=ifW then (cut [32] (wordRest l)).bind fun l3=>(rdTm d l3).bind fun x=>(cut [32] x.2).bind fun l4=>(rdTm d l4).bind fun m=>(cut [32] m.2).bind fun l5=>(rdTm d l5).bind fun n=>(cut [41] n.2).map fun l6=>(.ite x.1 m.1 n.1,l6)
        else none):=by
 rw [rdTm.eq_def]
 simp only [cut_is]
theorem rdTm_zero {l:Bs}:rdTm 0 (40::l)=none:=by
 rw [rdTm.eq_def]
 simp only [cut_is]
theorem word_w {w:Bs} (hw:∀ c∈w,sep c=false) {c:UInt8} {r:Bs} (h:sep c=true):wordOf (w++c::r)=w∧wordRest (w++c::r)=c::r:=word_of hw (sep_start c r h)
theorem rdTm_text:∀ (t:Tm) (d:Nat) (r:Bs),okTm t→deepTm t≤d→sizeTm t≤100→sepStart r→rdTm d (textTm t++r)=some (t,r)
 | .nm x,d,r,ho,_,_,hr=>by
   have e:textTm (.nm x)=x:=by unfold textTm;rw [trTm,textTr]
   rw [e,rdTm_word (name_sep ho) hr,if_pos (show nameB x=true from ho)]
 | .wd w,d,r,ho,_,_,hr=>by
   have e:textTm (.wd w)=w:=by unfold textTm;rw [trTm,textTr]
   rw [e,rdTm_word (leaf_sep ho) hr,name_leaf ho,if_neg (by simp),if_pos (show leafW w=true from ho)]
 | .lam x k t,d,r,ho,hd,hs,hr=>by
   rw [deepTm] at hd;rw [sizeTm] at hs
   obtain ⟨d,rfl⟩:∃ j,d=j+1:=⟨d-1,by omega⟩
   have n1:=name_sep ho.1
   have e:textTm (.lam x k t)++r=40::(lamW++32::(x++32::(textT k++32::(textTm t++41::r)))):=by rw [textTm_lam];simp
   obtain ⟨a1,a2⟩:=word_w (w:=lamW) (by decide) (c:=32) (r:=x++32::(textT k++32::(textTm t++41::r))) (by decide)
   obtain ⟨b1,b2⟩:=word_w n1.2 (c:=32) (r:=textT k++32::(textTm t++41::r)) (by decide)
   rw [e,rdTm_open,a1,a2,if_pos rfl,cut_is]
   simp only [Option.bind_some]
   rw [b1,b2,if_pos ho.1,cut_is]
   simp only [Option.bind_some]
   rw [rdK_text 60 k _ (by omega)]
   simp only [Option.bind_some,cut_is]
   rw [rdTm_text t d (41::r) ho.2 (by omega) (by omega) (sep_start _ _ (by decide))]
   simp only [Option.bind_some,cut_is,Option.map_some]
 | .app m n,d,r,ho,hd,hs,hr=>by
   rw [deepTm] at hd;rw [sizeTm] at hs
   obtain ⟨d,rfl⟩:∃ j,d=j+1:=⟨d-1,by omega⟩
   have e:textTm (.app m n)++r=40::(appW++32::(textTm m++32::(textTm n++41::r))):=by rw [textTm_app];simp
   obtain ⟨a1,a2⟩:=word_w (w:=appW) (by decide) (c:=32) (r:=textTm m++32::(textTm n++41::r)) (by decide)
   rw [e,rdTm_open,a1,a2,if_neg (by decide),if_pos rfl,cut_is]
   simp only [Option.bind_some]
   rw [rdTm_text m d _ ho.1 (by omega) (by omega) (sep_start _ _ (by decide))]
   simp only [Option.bind_some,cut_is]
   rw [rdTm_text n d _ ho.2 (by omega) (by omega) (sep_start _ _ (by decide))]
   simp only [Option.bind_some,cut_is,Option.map_some]
 | .ite l m n,d,r,ho,hd,hs,hr=>by
   rw [deepTm] at hd;rw [sizeTm] at hs
   obtain ⟨d,rfl⟩:∃ j,d=j+1:=⟨d-1,by omega⟩
   have e:textTm (.ite l m n)++r=40::(ifW++32::(textTm l++32::(textTm m++32::(textTm n++41::r)))):=by rw [textTm_ite];simp
   obtain ⟨a1,a2⟩:=word_w (w:=ifW) (by decide) (c:=32) (r:=textTm l++32::(textTm m++32::(textTm n++41::r))) (by decide)
   rw [e,rdTm_open,a1,a2,if_neg (by decide),if_neg (by decide),if_pos rfl,cut_is]
   simp only [Option.bind_some]
   rw [rdTm_text l d _ ho.1 (by omega) (by omega) (sep_start _ _ (by decide))]
   simp only [Option.bind_some,cut_is]
   rw [rdTm_text m d _ ho.2.1 (by omega) (by omega) (sep_start _ _ (by decide))]
   simp only [Option.bind_some,cut_is]
   rw [rdTm_text n d _ ho.2.2 (by omega) (by omega) (sep_start _ _ (by decide))]
   simp only [Option.bind_some,cut_is,Option.map_some]
theorem rdTm_canon:∀ (d:Nat) (l:Bs) (t:Tm) (r:Bs),rdTm d l=some (t,r)→l=textTm t++r∧okTm t∧deepTm t≤d:=by
 intro d
 induction d with
 | zero =>
   intro l t r h
   rw [rdTm.eq_def] at h
   cases hc:cut [40] l with
   | none =>
     simp only [hc] at h
     split at h
     ·rename_i hn
      simp at h;obtain ⟨rfl,rfl⟩:=h
      exact ⟨by unfold textTm;rw [trTm,textTr];exact word_cut l,hn,by rw [deepTm];omega⟩
     ·split at h
      ·rename_i hn
       simp at h;obtain ⟨rfl,rfl⟩:=h
       exact ⟨by unfold textTm;rw [trTm,textTr];exact word_cut l,hn,by rw [deepTm];omega⟩
      ·simp at h
   | some l1=>simp [hc] at h
 | succ d ih =>
   intro l t r h
   cases hc:cut [40] l with
   | none =>
     rw [rdTm.eq_def] at h
     simp only [hc] at h
     split at h
     ·rename_i hn
      simp at h;obtain ⟨rfl,rfl⟩:=h
      exact ⟨by unfold textTm;rw [trTm,textTr];exact word_cut l,hn,by rw [deepTm];omega⟩
     ·split at h
      ·rename_i hn
       simp at h;obtain ⟨rfl,rfl⟩:=h
       exact ⟨by unfold textTm;rw [trTm,textTr];exact word_cut l,hn,by rw [deepTm];omega⟩
      ·simp at h
   | some l1 =>
     have e0:=cut_eq hc
     rw [e0] at h ⊢
     rw [List.singleton_append] at h ⊢
     rw [rdTm_open] at h
     have ew:=word_cut l1
     split at h
     ·rename_i hw
      rw [hw] at ew
      simp only [Option.bind_eq_some_iff] at h
      obtain ⟨l3,c1,h⟩:=h
      split at h
      ·rename_i hn
       simp only [Option.bind_eq_some_iff,Option.map_eq_some_iff] at h
       obtain ⟨l4,c2,⟨k,l5⟩,hk,l6,c3,⟨t',l7⟩,ht,l8,c4,e⟩:=h
       simp only [Prod.mk.injEq] at e
       obtain ⟨rfl,rfl⟩:=e
       obtain ⟨e1,o1,d1⟩:=ih _ _ _ ht
       have e2:=rdK_canon _ _ _ _ hk
       refine ⟨?_,⟨hn,o1⟩,by rw [deepTm];omega⟩
       rw [textTm_lam]
       simp only at c3 c4
       conv=>lhs;rw [ew,cut_eq c1,word_cut l3,cut_eq c2,e2,cut_eq c3,e1,cut_eq c4]
       simp
      ·simp at h
     ·split at h
      ·rename_i hw
       rw [hw] at ew
       simp only [Option.bind_eq_some_iff,Option.map_eq_some_iff] at h
       obtain ⟨l3,c1,⟨m,l4⟩,hm,l5,c2,⟨n,l6⟩,hn,l7,c3,e⟩:=h
       simp only [Prod.mk.injEq] at e
       obtain ⟨rfl,rfl⟩:=e
       obtain ⟨e1,o1,d1⟩:=ih _ _ _ hm
       obtain ⟨e2,o2,d2⟩:=ih _ _ _ hn
       refine ⟨?_,⟨o1,o2⟩,by rw [deepTm];omega⟩
       rw [textTm_app]
       simp only at c2 c3
       conv=>lhs;rw [ew,cut_eq c1,e1,cut_eq c2,e2,cut_eq c3]
       simp
      ·split at h
       ·rename_i hw
        rw [hw] at ew
        simp only [Option.bind_eq_some_iff,Option.map_eq_some_iff] at h
        obtain ⟨l3,c1,⟨x,l4⟩,hx,l5,c2,⟨m,l6⟩,hm,l7,c3,⟨n,l8⟩,hn,l9,c4,e⟩:=h
        simp only [Prod.mk.injEq] at e
        obtain ⟨rfl,rfl⟩:=e
        obtain ⟨e0,o0,d0⟩:=ih _ _ _ hx
        obtain ⟨e1,o1,d1⟩:=ih _ _ _ hm
        obtain ⟨e2,o2,d2⟩:=ih _ _ _ hn
        refine ⟨?_,⟨o0,o1,o2⟩,by rw [deepTm];omega⟩
        rw [textTm_ite]
        simp only at c2 c3 c4
        conv=>lhs;rw [ew,cut_eq c1,e0,cut_eq c2,e1,cut_eq c3,e2,cut_eq c4]
        simp
       ·simp at h
end Go.Proofs.YtapjaflnmklmeaaGreatDoor

/- Plain words: each strategy is meant by its term. -/
import Derived.Test.YtllmjhbopmkpoaaGreatDoorP29
import Derived.Test.YtllmjhbopmkpoaaGreatDoorP28
namespace Go.Proofs.YtllmjhbopmkpoaaGreatDoor
open Go.RowKit
theorem evSubs_append (f:Nat→Bd→List Mn→Nat→List Gf→Option (Bd×Nat)) (env:List Mn) (n:Nat):∀ (ts1 ts2:List Ty) (ss1 ss2:List Bd) (l:Nat),ts1.length=ss1.length →
 evSubs f env n l (ts1++ts2) (ss1++ss2)=(evSubs f env n l ts1 ss1).bind fun x=>(evSubs f env n x.2 ts2 ss2).map fun y=>(x.1++y.1,y.2)
 | [],ts2,[],ss2,l,_=>by
   rw [List.nil_append,List.nil_append]
   have:evSubs f env n l [] []=some ([],l):=by rw [evSubs];intros;contradiction
   rw [this,Option.bind_some]
   cases evSubs f env n l ts2 ss2 <;> rfl
 | [],_,s::ss,_,_,h=>by simp at h
 | t::ts,_,[],_,_,h=>by simp at h
 | t::ts1,ts2,s::ss1,ss2,l,h=>by
   rw [List.cons_append,List.cons_append,evSubs,evSubs]
   cases f l s (env++opens n t.args) (n+t.args.length) [] with
   | none=>rfl
   | some x =>
     simp only [Option.bind_eq_bind,Option.bind_some]
     rw [evSubs_append f env n ts1 ts2 ss1 ss2 x.2 (by simpa using h)]
     cases evSubs f env n x.2 ts1 ss1 with
     | none=>rfl
     | some y =>
       simp only [Option.bind_some]
       cases evSubs f env n y.2 ts2 ss2 <;> rfl
def partBody (v n:Nat) (ss1:List Bd) (rest:List Ty):Bd:=.ask v (renBs (up n rest.length) ss1++etas rest n (n+rest.length)) (.leaf 116) (.leaf 102)
theorem renBs_append (f:Nat→Nat) (xs ys:List Bd):renBs f (xs++ys)=renBs f xs++renBs f ys:=by
 rw [renBs_map,renBs_map,renBs_map,List.map_append]
theorem up_zero (n:Nat):up n 0=id:=by funext v;unfold up;split <;> rfl
mutual
theorem ren_size:∀ (b:Bd) (f:Nat→Nat),sizeB (renB f b)=sizeB b
 | .leaf c,f=>by rw [renB]
 | .ask v ss y no,f=>by rw [renB,sizeB,sizeB,ren_sizes ss f,ren_size y f,ren_size no f]
theorem ren_sizes:∀ (bs:List Bd) (f:Nat→Nat),sizeBs (renBs f bs)=sizeBs bs
 | [],f=>by rw [renBs]
 | b::bs,f=>by rw [renBs,sizeBs,sizeBs,ren_size b f,ren_sizes bs f]
end
theorem app_step {H:List Ty} {v:Nat} {t:Ty} {ts1:List Ty} {k:Ty} {rest:List Ty} {ss1:List Bd} {s:Bd} (hv:H[v]? = some t) (hts:t.args=ts1++k::rest) (ht15:atomsT t≤15)
 (h1:fitBs (hands H ts1) ss1) (w1:wfBs ss1) (hs:fitB (H++k.args) s) (ws:wfB s) (hsz:sizeBs ss1+sizeB s≤60) :
 become (partBody v H.length ss1 (k::rest)) (betweenEnv H k s rest) (H.length+rest.length)=some (partBody v H.length (ss1++[s]) rest):=by
 obtain ⟨n,hn⟩:∃ n,n=H.length:=⟨_,rfl⟩
 obtain ⟨r,hr⟩:∃ r,r=rest.length:=⟨_,rfl⟩
 obtain ⟨env,henv⟩:∃ env,env=betweenEnv H k s rest:=⟨_,rfl⟩
 have hvn:v<n:=by rw [hn];exact (List.getElem?_eq_some_iff.1 hv).1
 have helen:env.length=n+1+r:=by rw [henv];unfold betweenEnv;rw [List.length_append,List.length_cons,opens_length,opens_length,← hn,← hr];omega
 have elow:∀ i a,H[i]? = some a→env[i]? = some (Mn.op i a):=fun i a hi=>by
  have hlt:=(List.getElem?_eq_some_iff.1 hi).1
  rw [henv];unfold betweenEnv
  rw [List.getElem?_append_left (by rw [opens_length];exact hlt),opens_at H 0 i a hi,Nat.zero_add]
 have emid:env[n]? = some (Mn.bd k s (opens 0 H)):=by
  rw [henv];unfold betweenEnv
  rw [List.getElem?_append_right (by rw [opens_length];omega),opens_length,hn,Nat.sub_self];rfl
 have ehigh:∀ j a,rest[j]? = some a→env[n+1+j]? = some (Mn.op (n+j) a):=fun j a hj=>by
  rw [henv];unfold betweenEnv
  rw [List.getElem?_append_right (by rw [opens_length];omega),opens_length,show n+1+j-H.length=j+1 from by omega,List.getElem?_cons_succ,opens_at rest H.length j a hj,hn]
 have l1:=fitBs_length _ _ h1
 rw [hands_length] at l1
 have R1:RenEnv (up n (r+1)) (up n r) env H (n+r):=by
  refine ⟨?_,?_,?_,?_,fun i a hi=>.inl ?_⟩
  ·rw [helen,← hn];unfold up;rw [if_pos (Nat.le_refl _)];omega
  ·rw [← hn];unfold up;rw [if_pos (Nat.le_refl _)]
  ·rw [← hn];exact along_up n _ n (Nat.le_refl _)
  ·rw [← hn];exact along_up n _ n (Nat.le_refl _)
  ·have hlt:=(List.getElem?_eq_some_iff.1 hi).1
   have e1:up n (r+1) i=i:=by unfold up;rw [if_neg (by omega)]
   have e2:up n r i=i:=by unfold up;rw [if_neg (by omega)]
   rw [e1,e2];exact elow i a hi
 have c1:=costs_le ss1
 have cs:=cost_le s
 obtain ⟨la,qa,ba⟩:=evs_ren ss1 ts1 H (up n (r+1)) (up n r) env (n+r) 19999 19999 h1 w1 R1 (by omega) (by omega)
 have R2:RenEnv id (up n r) (opens 0 H) H (n+r):=by
  refine ⟨?_,?_,along_id _,?_,fun i a hi=>.inl ?_⟩
  ·rw [opens_length];rfl
  ·rw [← hn];unfold up;rw [if_pos (Nat.le_refl _)]
  ·rw [← hn];exact along_up n _ n (Nat.le_refl _)
  ·have hlt:=(List.getElem?_eq_some_iff.1 hi).1
   have e2:up n r i=i:=by unfold up;rw [if_neg (by omega)]
   rw [e2]
   have:=opens_at H 0 i a hi
   rw [Nat.zero_add] at this
   exact this
 have R2':=R2.more env k.args
 have hla:19999≤la+cost.costs ss1:=ba
 obtain ⟨lb,qb,bb⟩:=ev_ren s (H++k.args) id (up n r) _ (n+r+k.args.length) 19998 (la-1) [⟨.leaf 116,.leaf 102,env++opens (n+r) k.args⟩] hs ws R2' (.inr ⟨_,rfl⟩) (by omega) (by omega)
 rw [renB_id] at qb
 have R3:RenEnv (up n 1) id env (H++rest) (n+r):=by
  refine ⟨?_,?_,?_,along_id _,fun i a hi=>.inl ?_⟩
  ·rw [helen,List.length_append,← hn,← hr];unfold up;rw [if_pos (by omega)];omega
  ·rw [List.length_append,← hn,← hr];rfl
  ·rw [List.length_append,← hn];exact along_up n _ _ (by omega)
  ·rcases Nat.lt_or_ge i H.length with hlt | hge
   ·rw [List.getElem?_append_left hlt] at hi
    have e1:up n 1 i=i:=by unfold up;rw [if_neg (by omega)]
    rw [e1];exact elow i a hi
   ·rw [List.getElem?_append_right hge] at hi
    have e1:up n 1 i=n+1+(i-H.length):=by unfold up;rw [if_pos (by omega)];omega
    have:=ehigh _ a hi
    rw [e1,this,show n+(i-H.length)=i from by omega];rfl
 have f3:fitBs (hands (H++rest) rest) (etas rest n (n+r)):=etas_fit rest n (n+r) (H++rest) (by rw [List.length_append,← hn,← hr]) fun j a hj=>by
  rw [hn,List.getElem?_append_right (by omega),Nat.add_sub_cancel_left];exact hj
 have z3:=etas_size rest n (n+r)
 have c3:=costs_le (etas rest n (n+r))
 have hat:atomsTs rest≤15:=by
  have:=atomsT_mk t
  rw [hts,atomsTs_append,atomsTs] at this
  omega
 obtain ⟨lc,qc,bc⟩:=evs_ren (etas rest n (n+r)) rest (H++rest) (up n 1) id env (n+r) 19999 lb f3 (etas_wf _ _ _) R3 (by omega) (by omega)
 rw [renBs_id] at qc
 have e3:renBs (up n 1) (etas rest n (n+r))=etas rest (n+1) (n+1+r):=by
  have u1:up n 1 n=n+1:=by unfold up;rw [if_pos (Nat.le_refl _)]
  have u2:up n 1 (n+r)=n+1+r:=by unfold up;rw [if_pos (by omega)];omega
  rw [etas_ren rest n (n+r) (up n 1) (along_up n 1 _ (by omega)) (fun i _=>(along_up n 1 n (Nat.le_refl _)) i),u1,u2]
 rw [e3] at qc
 have hgo:ev 20000 20000 (partBody v n ss1 (k::rest)) env (n+r) []=some (partBody v n (ss1++[s]) rest,lc-2):=by
  unfold partBody
  rw [show (20000:Nat)=19999+1 from rfl,ev_op (elow v t hv),hts]
  rw [evSubs_append _ _ _ _ _ _ _ _ (by rw [renBs_map,List.length_map];exact l1)]
  rw [List.length_cons,← hr,qa]
  simp only [Option.bind_some]
  have hk:evSubs (ev 19999) env (n+r) la (k::rest) (etas (k::rest) n (n+(r+1)))=some (renB (up n r) s::etas rest n (n+r),lc):=by
   rw [etas,evSubs]
   have hk1:ev 19999 la (eta k n (n+(r+1))) (env++opens (n+r) k.args) (n+r+k.args.length) []=some (renB (up n r) s,lb):=by
    rw [eta_eq,show (19999:Nat)=19998+1 from rfl,show la=(la-1)+1 from by omega,ev_bd (t:=k) (b':=s) (e:=opens 0 H) (by rw [List.getElem?_append_left (by omega)];exact emid)]
    have e5:n+(r+1)=env.length:=by omega
    rw [e5]
    exact qb
   rw [hk1]
   simp only [Option.bind_eq_bind,Option.bind_some]
   rw [show n+(r+1)=n+1+r from by omega,qc]
   rfl
  rw [hk]
  simp only [Option.map_some,Option.bind_some]
  rw [show lc=(lc-1)+1 from by omega,ev_end]
  simp only [Option.bind_some]
  rw [show lc-1=(lc-2)+1 from by omega,ev_end]
  simp only [Option.bind_some]
  rw [renBs_append,renBs,renBs]
  simp only [List.append_assoc,List.cons_append,List.nil_append,← hr]
  congr 2
  all_goals omega
 unfold become
 rw [← hn,← hr,← henv,hgo]
 simp only
 have hsz2:sizeB (partBody v n (ss1++[s]) rest)≤200:=by
  unfold partBody
  rw [sizeB,sizeBs_append,ren_sizes,sizeBs_append,sizeBs,sizeBs,sizeB,sizeB,← hr]
  omega
 rw [if_pos ⟨hsz2,depth_ok hsz2⟩]
end Go.Proofs.YtllmjhbopmkpoaaGreatDoor

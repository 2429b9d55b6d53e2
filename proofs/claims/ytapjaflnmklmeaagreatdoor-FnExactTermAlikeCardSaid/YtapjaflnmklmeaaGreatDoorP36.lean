import Derived.Test.YtapjaflnmklmeaaGreatDoorP27
/- Plain words: the reference's type of a term. -/
namespace Go.Proofs.YtapjaflnmklmeaaGreatDoor
open Go.RowKit
def kindR (ns:List Nm):Tm→Ty×Bool
 | .nm x=>match (findN ns x).bind fun i=>ns[i]?.map Prod.snd with
   | some k=>(k,true)
   | none=>(.mk [],false)
 | .wd _=>(.mk [],true)
 | .lam x k t=>(arrowT k (kindR (ns++[(x,k)]) t).1,(kindR (ns++[(x,k)]) t).2 && decide (atomsT (arrowT k (kindR (ns++[(x,k)]) t).1)≤15))
 | .app m n=>if (kindR ns m).2=false∨(kindR ns n).2=false then ((kindR ns m).1,false) else match (kindR ns m).1.args with
   | []=>((kindR ns m).1,false)
   | c::cs=>if textT c=textT (kindR ns n).1 then (.mk cs,true) else ((kindR ns m).1,false)
 | .ite l m n=>((kindR ns m).1,(kindR ns l).2 && (kindR ns m).2 && (kindR ns n).2 && decide ((kindR ns l).1.args=[]) && decide (textT (kindR ns m).1=textT (kindR ns n).1))
theorem kindR_eq:∀ (t:Tm) (ns:List Nm),smallTm t=true→typeOf ns t=if (kindR ns t).2=true then some (kindR ns t).1 else none
 | .nm x,ns,_=>by
   rw [typeOf,kindR]
   cases (findN ns x).bind fun i=>ns[i]?.map Prod.snd <;> rfl
 | .wd w,ns,_=>by rw [typeOf,kindR];rfl
 | .lam x k t,ns,h=>by
   rw [smallTm,Bool.and_eq_true,decide_eq_true_eq] at h
   rw [typeOf,if_neg (by omega),kindR_eq t _ h.2,kindR]
   cases (kindR (ns++[(x,k)]) t).2 with
   | false=>rfl
   | true =>
     simp only [if_true,Option.bind_some,Bool.true_and,decide_eq_true_eq]
     by_cases h15:atomsT (arrowT k (kindR (ns++[(x,k)]) t).1)≤15
     ·rw [if_neg (by omega),if_pos h15]
     ·rw [if_pos (by omega),if_neg h15]
 | .app m n,ns,h=>by
   rw [smallTm,Bool.and_eq_true] at h
   rw [typeOf,kindR_eq m ns h.1,kindR_eq n ns h.2,kindR]
   cases hm:(kindR ns m).2 with
   | false=>simp
   | true =>
     cases hn:(kindR ns n).2 with
     | false=>simp
     | true =>
       simp only [if_true,Option.bind_some,Bool.true_eq_false,or_self,if_false]
       cases ha:(kindR ns m).1.args with
       | nil=>rfl
       | cons c cs =>
         simp only
         by_cases he:textT c=textT (kindR ns n).1
         ·rw [if_pos he,if_pos he];rfl
         ·rw [if_neg he,if_neg he];rfl
 | .ite l m n,ns,h=>by
   rw [smallTm,Bool.and_eq_true,Bool.and_eq_true] at h
   rw [typeOf,kindR_eq l ns h.1.1,kindR_eq m ns h.1.2,kindR_eq n ns h.2,kindR]
   cases hl:(kindR ns l).2 with
   | false=>simp
   | true =>
     cases hm:(kindR ns m).2 with
     | false=>simp
     | true =>
       cases hn:(kindR ns n).2 with
       | false=>simp
       | true =>
         simp only [if_true,Option.bind_some,Bool.true_and,Bool.and_eq_true,decide_eq_true_eq]
theorem kindR_some {t:Tm} {ns:List Nm} (hs:smallTm t=true) (h:(kindR ns t).2=true):typeOf ns t=some (kindR ns t).1:=by
 rw [kindR_eq t ns hs,if_pos h]
theorem kindR_of {t:Tm} {ns:List Nm} {k:Ty} (h:typeOf ns t=some k):kindR ns t=(k,true):=by
 have hs:=type_all t ns k h
 rw [kindR_eq t ns hs] at h
 split at h
 ·rename_i hq
  exact Prod.ext (Option.some.inj h) hq
 ·simp at h
theorem kindR_len:∀ (t:Tm) (ns:List Nm),(∀ a∈kinds ns,a.args.length≤15)→smallTm t=true→(kindR ns t).1.args.length≤15+sizeTm t
 | .nm x,ns,hn,_=>by
   rw [kindR]
   cases hq:(findN ns x).bind fun i=>ns[i]?.map Prod.snd with
   | none=>simp [Ty.args]
   | some k =>
     rw [Option.bind_eq_some_iff] at hq
     obtain ⟨i,_,h2⟩:=hq
     rw [Option.map_eq_some_iff] at h2
     obtain ⟨⟨y,a⟩,h3,rfl⟩:=h2
     have:=hn a (List.mem_of_getElem? (kinds_at h3))
     simp only
     omega
 | .wd w,ns,_,_=>by rw [kindR];simp [Ty.args]
 | .lam x k t,ns,hn,h=>by
   rw [smallTm,Bool.and_eq_true,decide_eq_true_eq] at h
   have:=kindR_len t (ns++[(x,k)]) (fun a ha=>by
    rw [kinds_snoc] at ha
    rcases List.mem_append.1 ha with ha | ha
    ·exact hn a ha
    ·simp at ha;subst ha;have:=length_le_atomsTs a.args;have:=atomsT_mk a;omega) h.2
   have e:(arrowT k (kindR (ns++[(x,k)]) t).1).args.length=(kindR (ns++[(x,k)]) t).1.args.length+1:=rfl
   rw [kindR,sizeTm]
   simp only
   rw [e]
   omega
 | .app m n,ns,hn,h=>by
   rw [smallTm,Bool.and_eq_true] at h
   have h1:=kindR_len m ns hn h.1
   rw [kindR,sizeTm]
   split
   ·simp only;omega
   ·cases ha:(kindR ns m).1.args with
    | nil=>simp only [ha];simp
    | cons c cs =>
      rw [ha] at h1
      simp only [List.length_cons] at h1
      simp only
      split
      ·simp only [Ty.args];omega
      ·rw [ha];simp only [List.length_cons];omega
 | .ite l m n,ns,hn,h=>by
   rw [smallTm,Bool.and_eq_true,Bool.and_eq_true] at h
   have h1:=kindR_len m ns hn h.1.2
   rw [kindR,sizeTm]
   simp only
   omega
end Go.Proofs.YtapjaflnmklmeaaGreatDoor
namespace Go.Proofs.YtapjaflnmklmeaaGreatDoor
open Go.RowKit
mutual
theorem shift_sizeB:∀ (b:Bd) (n k:Nat),sizeB (shiftB b n k)=sizeB b
 | .leaf c,n,k=>by rw [shiftB]
 | .ask v ss y no,n,k=>by rw [shiftB,sizeB,sizeB,shift_sizesB ss n k,shift_sizeB y n k,shift_sizeB no n k]
theorem shift_sizesB:∀ (bs:List Bd) (n k:Nat),sizeBs (shiftBs bs n k)=sizeBs bs
 | [],n,k=>by rw [shiftBs]
 | b::bs,n,k=>by rw [shiftBs,sizeBs,sizeBs,shift_sizeB b n k,shift_sizesB bs n k]
end
theorem graft_sizeB:∀ (b y n:Bd),sizeB (graftB b y n)≤sizeB b*(sizeB y+sizeB n)
 | .leaf c,y,n=>by
   have hy:=sizeB_pos y
   have hn:=sizeB_pos n
   have e:sizeB (.leaf c)=1:=by rw [sizeB]
   rw [e,Nat.one_mul,graftB]
   split
   ·omega
   ·split
    ·omega
    ·rw [e];omega
 | .ask v ss a c,y,n=>by
   have hy:=sizeB_pos y
   have h1:=graft_sizeB a y n
   have h2:=graft_sizeB c y n
   rw [graftB,sizeB,sizeB]
   have h3:1+sizeBs ss≤(1+sizeBs ss)*(sizeB y+sizeB n):=Nat.le_mul_of_pos_right _ (by omega)
   have e:(1+(sizeBs ss+(sizeB a+sizeB c)))*(sizeB y+sizeB n)=(1+sizeBs ss)*(sizeB y+sizeB n)+sizeB a*(sizeB y+sizeB n)+sizeB c*(sizeB y+sizeB n):=by rw [← Nat.add_mul,← Nat.add_mul];congr 1;omega
   omega
theorem small_of {b:Bd} (h:sizeB b≤200):smallB b=some b:=by unfold smallB;rw [if_pos h]
theorem become_small {b:Bd} {env:List Mn} {n:Nat} {c:Bd} (h:become b env n=some c):sizeB c≤200:=by
 unfold become at h
 cases hv:ev 20000 20000 b env n [] with
 | none=>rw [hv] at h;simp at h
 | some x =>
   obtain ⟨o,l⟩:=x
   rw [hv] at h
   simp only at h
   split at h
   ·rename_i hs
    obtain rfl:=Option.some.inj h
    exact hs.1
   ·simp at h
theorem mean_small:∀ (t:Tm) (ns:List Nm) (b:Bd),meanOf ns t=some b→sizeB b≤200
 | .nm x,ns,b,h=>by
   rw [meanOf,Option.bind_eq_some_iff] at h
   obtain ⟨i,_,h⟩:=h
   rw [Option.bind_eq_some_iff] at h
   obtain ⟨p,_,h⟩:=h
   obtain ⟨rfl,hs⟩:=small_some h
   exact hs
 | .wd w,ns,b,h=>by
   rw [meanOf] at h
   obtain rfl:=Option.some.inj h
   simp [sizeB]
 | .lam x k t,ns,b,h=>by rw [meanOf] at h;exact mean_small t _ b h
 | .app m n,ns,b,h=>by
   rw [meanOf,Option.bind_eq_some_iff] at h
   obtain ⟨p,_,h⟩:=h
   rw [Option.bind_eq_some_iff] at h
   obtain ⟨q,_,h⟩:=h
   rw [Option.bind_eq_some_iff] at h
   obtain ⟨t,_,h⟩:=h
   split at h
   ·simp at h
   ·exact become_small h
 | .ite l m n,ns,b,h=>by
   rw [meanOf,Option.bind_eq_some_iff] at h
   obtain ⟨p,_,h⟩:=h
   rw [Option.bind_eq_some_iff] at h
   obtain ⟨q,_,h⟩:=h
   rw [Option.bind_eq_some_iff] at h
   obtain ⟨r,_,h⟩:=h
   rw [Option.bind_eq_some_iff] at h
   obtain ⟨t,_,h⟩:=h
   obtain ⟨rfl,hs⟩:=small_some h
   exact hs
def meantOf (ns:List Nm):Tm→Option Bd
 | .nm x=>(findN ns x).bind fun i=>ns[i]?.map fun p=>eta p.2 i ns.length
 | .wd w=>some (.leaf (w.headD 0))
 | .lam x k t=>meanOf (ns++[(x,k)]) t
 | .app m n=>meanOf ns (.app m n)
 | .ite l m n=>(meanOf ns l).bind fun a=>(meanOf ns m).bind fun b=>(meanOf ns n).bind fun c=>(typeOf ns m).bind fun t=>some (graftB (shiftB a ns.length t.args.length) b c)
theorem bind_small {o:Option Bd} (h:∀ b,o=some b→sizeB b≤200):o.bind smallB=o:=by
 cases o with
 | none=>rfl
 | some b=>rw [Option.bind_some,small_of (h b rfl)]
theorem mean_meant (t:Tm) (ns:List Nm):meanOf ns t=(meantOf ns t).bind smallB:=by
 cases t with
 | nm x =>
   rw [meanOf,meantOf]
   cases findN ns x with
   | none=>rfl
   | some i =>
     rw [Option.bind_some,Option.bind_some]
     cases ns[i]? <;> rfl
 | wd w=>rw [meanOf,meantOf,bind_small (fun b h=>by obtain rfl:=Option.some.inj h;simp [sizeB])]
 | lam x k t=>rw [meantOf,bind_small (fun b h=>mean_small _ _ b h),meanOf]
 | app m n=>rw [meantOf,bind_small (fun b h=>mean_small _ _ b h)]
 | ite l m n =>
   rw [meanOf,meantOf]
   cases meanOf ns l with
   | none=>rfl
   | some a =>
     cases meanOf ns m with
     | none=>rfl
     | some b =>
       cases meanOf ns n with
       | none=>rfl
       | some c =>
         cases typeOf ns m <;> rfl
theorem meant_size (t:Tm) (ns:List Nm) (b:Bd) (hn:∀ a∈kinds ns,atomsT a≤15) (h:meantOf ns t=some b):sizeB b≤100000:=by
 cases t with
 | nm x =>
   rw [meantOf,Option.bind_eq_some_iff] at h
   obtain ⟨i,_,h⟩:=h
   rw [Option.map_eq_some_iff] at h
   obtain ⟨⟨y,k⟩,hp,rfl⟩:=h
   have:=(eta_size k i ns.length).1
   have:=hn k (List.mem_of_getElem? (kinds_at hp))
   simp only
   omega
 | wd w=>rw [meantOf] at h;obtain rfl:=Option.some.inj h;simp [sizeB]
 | lam x k t=>rw [meantOf] at h;have:=mean_small _ _ b h;omega
 | app m n=>rw [meantOf] at h;have:=mean_small _ _ b h;omega
 | ite l m n =>
   rw [meantOf,Option.bind_eq_some_iff] at h
   obtain ⟨p,hp,h⟩:=h
   rw [Option.bind_eq_some_iff] at h
   obtain ⟨q,hq,h⟩:=h
   rw [Option.bind_eq_some_iff] at h
   obtain ⟨r,hr,h⟩:=h
   rw [Option.bind_eq_some_iff] at h
   obtain ⟨t,_,h⟩:=h
   obtain rfl:=Option.some.inj h
   have h1:=mean_small _ _ _ hp
   have h2:=mean_small _ _ _ hq
   have h3:=mean_small _ _ _ hr
   have h4:=graft_sizeB (shiftB p ns.length t.args.length) q r
   rw [shift_sizeB] at h4
   have h5:sizeB p*(sizeB q+sizeB r)≤200*400:=Nat.mul_le_mul h1 (by omega)
   omega
theorem small_fits {b:Bd}:decide (sizeB b≤200∧depthB b≤100)=decide (sizeB b≤200):=by
 by_cases h:sizeB b≤200
 ·rw [decide_eq_true ⟨h,depth_ok h⟩,decide_eq_true h]
 ·rw [decide_eq_false (fun hx=>h hx.1),decide_eq_false h]
end Go.Proofs.YtapjaflnmklmeaaGreatDoor

import Derived.Test.YtapjaflnmklmeaaGreatDoorP23
/- Plain words: impl and the reference read the same terms. -/
namespace Go.Proofs.YtapjaflnmklmeaaGreatDoor
open Go.RowKit
theorem textTr_inj {a b:Tr} (ha:okTr a) (hb:okTr b) (h:textTr a=textTr b):a=b:=by
 have h1:=rdTr_text a (max (deepTr a) (deepTr b)+1) [] ha (by omega) (.inl rfl)
 have h2:=rdTr_text b (max (deepTr a) (deepTr b)+1) [] hb (by omega) (.inl rfl)
 rw [h,h2] at h1
 exact (Prod.mk.inj (Option.some.inj h1)).1.symm
theorem isTr_three (h a b:Tr):isTr (.ls [h,a,b])=(headTr [h] == appW && isTr a && isTr b):=by rw [isTr]
theorem isTr_four (h a b c:Tr):isTr (.ls [h,a,b,c])=((headTr [h] == lamW && (nameB (atomTr a) && (specType (textTr b)).2 && isTr c)) || (headTr [h] == ifW && (isTr a && isTr b && isTr c))):=by rw [isTr]
theorem head_at {h:Tr} {w:Bs} (hw:w≠[]) (e:headTr [h]=w):h=.am w:=by
 cases h with
 | am a=>rw [headTr] at e;rw [e]
 | ls ps=>exact absurd e.symm hw
theorem isTr_tm:∀ (n:Nat) (t:Tr),SizeOf.sizeOf t<n→okTr t→isTr t=true→∃ m:Tm,t=trTm m∧okTm m∧smallTm m=true
 | 0,_,h,_,_=>by omega
 | n+1,.am a,_,ho,hi=>by
   rw [isTr,Bool.or_eq_true] at hi
   rcases hi with h | h
   ·exact ⟨.wd a,by rw [trTm],h,by rw [smallTm]⟩
   ·exact ⟨.nm a,by rw [trTm],h,by rw [smallTm]⟩
 | n+1,.ls [],_,_,hi=>by simp [isTr] at hi
 | n+1,.ls [_],_,_,hi=>by simp [isTr] at hi
 | n+1,.ls [_,_],_,_,hi=>by simp [isTr] at hi
 | n+1,.ls [h,a,b],hs,ho,hi=>by
   rw [isTr_three] at hi
   simp only [Bool.and_eq_true,beq_iff_eq] at hi
   obtain ⟨⟨e,h1⟩,h2⟩:=hi
   rw [okTr,okTrs,okTrs,okTrs,okTrs] at ho
   obtain ⟨_,_,o1,o2,_⟩:=ho
   obtain rfl:=head_at (by decide) e
   simp only [Tr.ls.sizeOf_spec,List.cons.sizeOf_spec] at hs
   obtain ⟨m,rfl,q1,q2⟩:=isTr_tm n a (by omega) o1 h1
   obtain ⟨k,rfl,r1,r2⟩:=isTr_tm n b (by omega) o2 h2
   exact ⟨.app m k,by rw [trTm],⟨q1,r1⟩,by rw [smallTm,q2,r2];rfl⟩
 | n+1,.ls [h,a,b,c],hs,ho,hi=>by
   rw [isTr_four] at hi
   simp only [Bool.or_eq_true,Bool.and_eq_true,beq_iff_eq] at hi
   rw [okTr,okTrs,okTrs,okTrs,okTrs,okTrs] at ho
   obtain ⟨_,_,o1,o2,o3,_⟩:=ho
   simp only [Tr.ls.sizeOf_spec,List.cons.sizeOf_spec] at hs
   rcases hi with ⟨e,⟨h1,h2⟩,h3⟩ | ⟨e,⟨h1,h2⟩,h3⟩
   ·obtain rfl:=head_at (by decide) e
    obtain ⟨m,rfl,q1,q2⟩:=isTr_tm n c (by omega) o3 h3
    obtain ⟨e1,l1⟩:=specType_canon h2
    have eb:b=trT (specType (textTr b)).1:=textTr_inj o2 (okTr_T _) (by rw [textTr_T];exact e1)
    have ea:a=.am (atomTr a):=by
     cases a with
     | am x=>rw [atomTr]
     | ls ps=>rw [atomTr] at h1;simp [nameB] at h1
    refine ⟨.lam (atomTr a) (specType (textTr b)).1 m,?_,⟨h1,q1⟩,by rw [smallTm,q2,decide_eq_true l1];rfl⟩
    rw [trTm,← eb,← ea]
   ·obtain rfl:=head_at (by decide) e
    obtain ⟨x,rfl,p1,p2⟩:=isTr_tm n a (by omega) o1 h1
    obtain ⟨y,rfl,q1,q2⟩:=isTr_tm n b (by omega) o2 h2
    obtain ⟨z,rfl,r1,r2⟩:=isTr_tm n c (by omega) o3 h3
    exact ⟨.ite x y z,by rw [trTm],⟨p1,q1,r1⟩,by rw [smallTm,p2,q2,r2];rfl⟩
 | n+1,.ls (_::_::_::_::_::_),_,_,hi=>by simp [isTr] at hi
theorem isTr_Tm:∀ t:Tm,okTm t→isTr (trTm t)=smallTm t
 | .nm x,h=>by rw [trTm,isTr,smallTm,show nameB x=true from h,Bool.or_true]
 | .wd w,h=>by rw [trTm,isTr,smallTm,show leafW w=true from h,Bool.true_or]
 | .lam x k t,h=>by
   rw [trTm,isTr_four,smallTm,isTr_Tm t h.2,textTr_T,headTr,atomTr,h.1]
   have e:(specType (textT k)).2=decide (atomsT k≤15):=by
    by_cases hk:atomsT k≤15
    ·rw [specType_text hk,decide_eq_true hk]
    ·rw [decide_eq_false hk]
     cases hq:(specType (textT k)).2 with
     | false=>rfl
     | true =>
       exfalso
       obtain ⟨h1,h2⟩:=specType_canon hq
       have:trT k=trT (specType (textT k)).1:=textTr_inj (okTr_T _) (okTr_T _) (by rw [textTr_T,textTr_T];exact h1)
       have h3:=sizeTr_T k
       rw [this,sizeTr_T] at h3
       omega
   rw [e]
   have a1:(lamW == lamW)=true:=by decide
   have a2:(lamW == ifW)=false:=by decide
   rw [a1,a2];simp
 | .app m n,h=>by
   rw [trTm,isTr_three,smallTm,isTr_Tm m h.1,isTr_Tm n h.2,headTr]
   have a1:(appW == appW)=true:=by decide
   rw [a1];simp
 | .ite l m n,h=>by
   rw [trTm,isTr_four,smallTm,isTr_Tm l h.1,isTr_Tm m h.2.1,isTr_Tm n h.2.2,headTr]
   have a1:(ifW == ifW)=true:=by decide
   have a2:(ifW == lamW)=false:=by decide
   rw [a1,a2];simp [Bool.and_assoc]
mutual
theorem textT_len:∀ k:Ty,(textTr (trT k)).length≤6*sizeTr (trT k)
 | .mk ts=>by rw [trT];exact textTs_len ts
theorem textTs_len:∀ ts:List Ty,(textTr (trT.trTs ts)).length≤6*sizeTr (trT.trTs ts)
 | []=>by rw [trT.trTs,textTr,sizeTr];simp
 | t::ts=>by
   have h1:=textT_len t
   have h2:=textTs_len ts
   rw [trT.trTs,textTr,textTrs,tailTrs,tailTrs,tailTrs,textTr,sizeTr,sizeTrs,sizeTrs,sizeTrs,sizeTrs,sizeTr]
   simp only [List.length_cons,List.length_append,List.length_nil];omega
end
theorem name_len {x:Bs} (h:nameB x=true):x.length≤3:=by
 cases x with
 | nil=>simp
 | cons c r=>simp only [nameB,Bool.and_eq_true,decide_eq_true_eq] at h;simp;omega
theorem leaf_len {x:Bs} (h:leafW x=true):x.length≤3:=by
 simp only [leafW,Bool.or_eq_true,beq_iff_eq] at h
 rcases h with (rfl | rfl) | rfl <;> simp
theorem textTm_len:∀ t:Tm,okTm t→(textTm t).length≤9*sizeTm t
 | .nm x,h=>by have:=name_len h;unfold textTm;rw [trTm,textTr,sizeTm];omega
 | .wd w,h=>by have:=leaf_len h;unfold textTm;rw [trTm,textTr,sizeTm];omega
 | .lam x k t,h=>by
   have h1:=name_len h.1
   have h2:=textT_len k
   rw [textTr_T,sizeTr_T] at h2
   have h3:=textTm_len t h.2
   rw [textTm_lam,sizeTm]
   simp only [lamW,List.length_cons,List.length_append,List.length_nil];omega
 | .app m n,h=>by
   have h1:=textTm_len m h.1
   have h2:=textTm_len n h.2
   rw [textTm_app,sizeTm]
   simp only [appW,List.length_cons,List.length_append,List.length_nil];omega
 | .ite l m n,h=>by
   have h0:=textTm_len l h.1
   have h1:=textTm_len m h.2.1
   have h2:=textTm_len n h.2.2
   rw [textTm_ite,sizeTm]
   simp only [ifW,List.length_cons,List.length_append,List.length_nil];omega
theorem implTerm_some {l:Bs} {t:Tm} (h:implTerm l=some t):l=textTm t∧okTm t∧sizeTm t≤60:=by
 unfold implTerm at h
 cases hq:rdTm 60 l with
 | none=>rw [hq] at h;simp at h
 | some x =>
   obtain ⟨t',r⟩:=x
   rw [hq] at h
   cases r with
   | cons c r=>simp at h
   | nil =>
     simp only at h
     split at h
     ·rename_i hs
      simp at h;subst h
      obtain ⟨e,o,_⟩:=rdTm_canon _ _ _ _ hq
      exact ⟨by simpa using e,o,hs⟩
     ·simp at h
theorem implTerm_text {t:Tm} (ho:okTm t) (hs:sizeTm t≤60):implTerm (textTm t)=some t:=by
 unfold implTerm
 have:=rdTm_text t 60 [] ho (by have:=deepTm_size t;omega) (by omega) (.inl rfl)
 rw [List.append_nil] at this
 rw [this]
 simp only
 rw [if_pos hs]
theorem specTerm_text {t:Tm} (ho:okTm t) (hs:sizeTm t≤60):specTerm (textTm t)=if smallTm t then some (trTm t) else none:=by
 unfold specTerm
 have hl:=textTm_len t ho
 rw [if_neg (by omega)]
 have:=rdTr_text (trTm t) 101 [] (okTr_Tm t ho) (by have:=deepTr_Tm t;omega) (.inl rfl)
 rw [List.append_nil] at this
 unfold textTm
 rw [this]
 simp only
 rw [isTr_Tm t ho,sizeTr_Tm,decide_eq_true hs,Bool.and_true]
theorem specTerm_some {l:Bs} {tr:Tr} (h:specTerm l=some tr):∃ t,tr=trTm t∧l=textTm t∧okTm t∧sizeTm t≤60∧smallTm t=true:=by
 unfold specTerm at h
 split at h
 ·simp at h
 ·split at h
  ·rename_i t' hq
   split at h
   ·rename_i hc
    simp at h;subst h
    simp only [Bool.and_eq_true,decide_eq_true_eq] at hc
    obtain ⟨e,o,_,_⟩:=rdTr_canon _ _ _ _ hq
    obtain ⟨t,rfl,q1,q2⟩:=isTr_tm _ t' (Nat.lt_succ_self _) o hc.1
    exact ⟨t,rfl,by simpa [textTm] using e,q1,by rw [← sizeTr_Tm];exact hc.2,q2⟩
   ·simp at h
  ·simp at h
theorem term_eq (l:Bs):specTerm l=(implTerm l).bind fun t=>if smallTm t then some (trTm t) else none:=by
 cases h:implTerm l with
 | some t =>
   obtain ⟨rfl,ho,hs⟩:=implTerm_some h
   rw [specTerm_text ho hs];rfl
 | none =>
   cases hq:specTerm l with
   | none=>rfl
   | some tr =>
     obtain ⟨t,_,rfl,ho,hs,_⟩:=specTerm_some hq
     rw [implTerm_text ho hs] at h;simp at h
end Go.Proofs.YtapjaflnmklmeaaGreatDoor
namespace Go.Proofs.YtapjaflnmklmeaaGreatDoor
open Go.RowKit
theorem arg_small {t:Ty} (h:atomsT t≤15):∀ a∈t.args,atomsT a≤15:=(hand_of_type h).1
end Go.Proofs.YtapjaflnmklmeaaGreatDoor
namespace Go.Proofs.YtapjaflnmklmeaaGreatDoor
open Go.RowKit
theorem arg_count {t:Ty} (h:atomsT t≤15):t.args.length≤14:=by
 have:=length_le_atomsTs t.args
 have:=atomsT_mk t
 omega
end Go.Proofs.YtapjaflnmklmeaaGreatDoor

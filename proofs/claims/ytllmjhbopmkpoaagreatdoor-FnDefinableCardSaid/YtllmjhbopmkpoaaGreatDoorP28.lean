import Derived.Test.YtllmjhbopmkpoaaGreatDoorP23
/- Plain words: impl and the reference read the same terms. -/
namespace Go.Proofs.YtllmjhbopmkpoaaGreatDoor
open Go.RowKit
theorem textTr_inj {a b:Tr} (ha:okTr a) (hb:okTr b) (h:textTr a=textTr b):a=b:=by
 have h1:=rdTr_text a (max (deepTr a) (deepTr b)+1) [] ha (by omega) (.inl rfl)
 have h2:=rdTr_text b (max (deepTr a) (deepTr b)+1) [] hb (by omega) (.inl rfl)
 rw [h,h2] at h1
 exact (Prod.mk.inj (Option.some.inj h1)).1.symm
theorem isTr_three (h a b:Tr):isTr (.ls [h,a,b])=(headTr [h] == appW && isTr a && isTr b):=by rw [isTr]
theorem isTr_four (h a b c:Tr):isTr (.ls [h,a,b,c])=((headTr [h] == lamW && (nameB (atomTr a) && (specType (textTr b)).2 && isTr c)) || (headTr [h] == ifW && (isTr a && isTr b && isTr c))):=by rw [isTr]
theorem head_at {h:Tr} {w:Bs} (hw:w≠[]) (e:headTr [h]=w):h=.am w:=by
 cases h with
 | am a=>rw [headTr] at e;rw [e]
 | ls ps=>exact absurd e.symm hw
theorem isTr_tm:∀ (n:Nat) (t:Tr),SizeOf.sizeOf t<n→okTr t→isTr t=true→∃ m:Tm,t=trTm m∧okTm m∧smallTm m=true
 | 0,_,h,_,_=>by omega
 | n+1,.am a,_,ho,hi=>by
   rw [isTr,Bool.or_eq_true] at hi
   rcases hi with h | h
   ·exact ⟨.wd a,by rw [trTm],h,by rw [smallTm]⟩
   ·exact ⟨.nm a,by rw [trTm],h,by rw [smallTm]⟩
 | n+1,.ls [],_,_,hi=>by simp [isTr] at hi
 | n+1,.ls [_],_,_,hi=>by simp [isTr] at hi
 | n+1,.ls [_,_],_,_,hi=>by simp [isTr] at hi
 | n+1,.ls [h,a,b],hs,ho,hi=>by
   rw [isTr_three] at hi
   simp only [Bool.and_eq_true,beq_iff_eq] at hi
   obtain ⟨⟨e,h1⟩,h2⟩:=hi
   rw [okTr,okTrs,okTrs,okTrs,okTrs] at ho
   obtain ⟨_,_,o1,o2,_⟩:=ho
   obtain rfl:=head_at (by decide) e
   simp only [Tr.ls.sizeOf_spec,List.cons.sizeOf_spec] at hs
   obtain ⟨m,rfl,q1,q2⟩:=isTr_tm n a (by omega) o1 h1
   obtain ⟨k,rfl,r1,r2⟩:=isTr_tm n b (by omega) o2 h2
   exact ⟨.app m k,by rw [trTm],⟨q1,r1⟩,by rw [smallTm,q2,r2];rfl⟩
 | n+1,.ls [h,a,b,c],hs,ho,hi=>by
   rw [isTr_four] at hi
   simp only [Bool.or_eq_true,Bool.and_eq_true,beq_iff_eq] at hi
   rw [okTr,okTrs,okTrs,okTrs,okTrs,okTrs] at ho
   obtain ⟨_,_,o1,o2,o3,_⟩:=ho
   simp only [Tr.ls.sizeOf_spec,List.cons.sizeOf_spec] at hs
   rcases hi with ⟨e,⟨h1,h2⟩,h3⟩ | ⟨e,⟨h1,h2⟩,h3⟩
   ·obtain rfl:=head_at (by decide) e
    obtain ⟨m,rfl,q1,q2⟩:=isTr_tm n c (by omega) o3 h3
    obtain ⟨e1,l1⟩:=specType_canon h2
    have eb:b=trT (specType (textTr b)).1:=textTr_inj o2 (okTr_T _) (by rw [textTr_T];exact e1)
    have ea:a=.am (atomTr a):=by
     cases a with
     | am x=>rw [atomTr]
     | ls ps=>rw [atomTr] at h1;simp [nameB] at h1
    refine ⟨.lam (atomTr a) (specType (textTr b)).1 m,?_,⟨h1,q1⟩,by rw [smallTm,q2,decide_eq_true l1];rfl⟩
    rw [trTm,← eb,← ea]
   ·obtain rfl:=head_at (by decide) e
    obtain ⟨x,rfl,p1,p2⟩:=isTr_tm n a (by omega) o1 h1
    obtain ⟨y,rfl,q1,q2⟩:=isTr_tm n b (by omega) o2 h2
    obtain ⟨z,rfl,r1,r2⟩:=isTr_tm n c (by omega) o3 h3
    exact ⟨.ite x y z,by rw [trTm],⟨p1,q1,r1⟩,by rw [smallTm,p2,q2,r2];rfl⟩
 | n+1,.ls (_::_::_::_::_::_),_,_,hi=>by simp [isTr] at hi
theorem isTr_Tm:∀ t:Tm,okTm t→isTr (trTm t)=smallTm t
 | .nm x,h=>by rw [trTm,isTr,smallTm,show nameB x=true from h,Bool.or_true]
 | .wd w,h=>by rw [trTm,isTr,smallTm,show leafW w=true from h,Bool.true_or]
 | .lam x k t,h=>by
   rw [trTm,isTr_four,smallTm,isTr_Tm t h.2,textTr_T,headTr,atomTr,h.1]
   have e:(specType (textT k)).2=decide (atomsT k≤15):=by
    by_cases hk:atomsT k≤15
    ·rw [specType_text hk,decide_eq_true hk]
    ·rw [decide_eq_false hk]
     cases hq:(specType (textT k)).2 with
     | false=>rfl
     | true =>
       exfalso
       obtain ⟨h1,h2⟩:=specType_canon hq
       have:trT k=trT (specType (textT k)).1:=textTr_inj (okTr_T _) (okTr_T _) (by rw [textTr_T,textTr_T];exact h1)
       have h3:=sizeTr_T k
       rw [this,sizeTr_T] at h3
       omega
   rw [e]
   have a1:(lamW == lamW)=true:=by decide
   have a2:(lamW == ifW)=false:=by decide
   rw [a1,a2];simp
 | .app m n,h=>by
   rw [trTm,isTr_three,smallTm,isTr_Tm m h.1,isTr_Tm n h.2,headTr]
   have a1:(appW == appW)=true:=by decide
   rw [a1];simp
 | .ite l m n,h=>by
   rw [trTm,isTr_four,smallTm,isTr_Tm l h.1,isTr_Tm m h.2.1,isTr_Tm n h.2.2,headTr]
   have a1:(ifW == ifW)=true:=by decide
   have a2:(ifW == lamW)=false:=by decide
   rw [a1,a2];simp [Bool.and_assoc]
mutual
theorem textT_len:∀ k:Ty,(textTr (trT k)).length≤6*sizeTr (trT k)
 | .mk ts=>by rw [trT];exact textTs_len ts
theorem textTs_len:∀ ts:List Ty,(textTr (trT.trTs ts)).length≤6*sizeTr (trT.trTs ts)
 | []=>by rw [trT.trTs,textTr,sizeTr];simp
 | t::ts=>by
   have h1:=textT_len t
   have h2:=textTs_len ts
   rw [trT.trTs,textTr,textTrs,tailTrs,tailTrs,tailTrs,textTr,sizeTr,sizeTrs,sizeTrs,sizeTrs,sizeTrs,sizeTr]
   simp only [List.length_cons,List.length_append,List.length_nil];omega
end
theorem name_len {x:Bs} (h:nameB x=true):x.length≤3:=by
 cases x with
 | nil=>simp
 | cons c r=>simp only [nameB,Bool.and_eq_true,decide_eq_true_eq] at h;simp;omega
theorem leaf_len {x:Bs} (h:leafW x=true):x.length≤3:=by
 simp only [leafW,Bool.or_eq_true,beq_iff_eq] at h
 rcases h with (rfl | rfl) | rfl <;> simp
theorem textTm_len:∀ t:Tm,okTm t→(textTm t).length≤9*sizeTm t
 | .nm x,h=>by have:=name_len h;unfold textTm;rw [trTm,textTr,sizeTm];omega
 | .wd w,h=>by have:=leaf_len h;unfold textTm;rw [trTm,textTr,sizeTm];omega
 | .lam x k t,h=>by
   have h1:=name_len h.1
   have h2:=textT_len k
   rw [textTr_T,sizeTr_T] at h2
   have h3:=textTm_len t h.2
   rw [textTm_lam,sizeTm]
   simp only [lamW,List.length_cons,List.length_append,List.length_nil];omega
 | .app m n,h=>by
   have h1:=textTm_len m h.1
   have h2:=textTm_len n h.2
   rw [textTm_app,sizeTm]
   simp only [appW,List.length_cons,List.length_append,List.length_nil];omega
 | .ite l m n,h=>by
   have h0:=textTm_len l h.1
   have h1:=textTm_len m h.2.1
   have h2:=textTm_len n h.2.2
   rw [textTm_ite,sizeTm]
   simp only [ifW,List.length_cons,List.length_append,List.length_nil];omega
theorem implTerm_some {l:Bs} {t:Tm} (h:implTerm l=some t):l=textTm t∧okTm t∧sizeTm t≤60:=by
 unfold implTerm at h
 cases hq:rdTm 60 l with
 | none=>rw [hq] at h;simp at h
 | some x =>
   obtain ⟨t',r⟩:=x
   rw [hq] at h
   cases r with
   | cons c r=>simp at h
   | nil =>
     simp only at h
     split at h
     ·rename_i hs
      simp at h;subst h
      obtain ⟨e,o,_⟩:=rdTm_canon _ _ _ _ hq
      exact ⟨by simpa using e,o,hs⟩
     ·simp at h
theorem implTerm_text {t:Tm} (ho:okTm t) (hs:sizeTm t≤60):implTerm (textTm t)=some t:=by
 unfold implTerm
 have:=rdTm_text t 60 [] ho (by have:=deepTm_size t;omega) (by omega) (.inl rfl)
 rw [List.append_nil] at this
 rw [this]
 simp only
 rw [if_pos hs]
theorem specTerm_text {t:Tm} (ho:okTm t) (hs:sizeTm t≤60):specTerm (textTm t)=if smallTm t then some (trTm t) else none:=by
 unfold specTerm
 have hl:=textTm_len t ho
 rw [if_neg (by omega)]
 have:=rdTr_text (trTm t) 101 [] (okTr_Tm t ho) (by have:=deepTr_Tm t;omega) (.inl rfl)
 rw [List.append_nil] at this
 unfold textTm
 rw [this]
 simp only
 rw [isTr_Tm t ho,sizeTr_Tm,decide_eq_true hs,Bool.and_true]
theorem specTerm_some {l:Bs} {tr:Tr} (h:specTerm l=some tr):∃ t,tr=trTm t∧l=textTm t∧okTm t∧sizeTm t≤60∧smallTm t=true:=by
 unfold specTerm at h
 split at h
 ·simp at h
 ·split at h
  ·rename_i t' hq
   split at h
   ·rename_i hc
    simp at h;subst h
    simp only [Bool.and_eq_true,decide_eq_true_eq] at hc
    obtain ⟨e,o,_,_⟩:=rdTr_canon _ _ _ _ hq
    obtain ⟨t,rfl,q1,q2⟩:=isTr_tm _ t' (Nat.lt_succ_self _) o hc.1
    exact ⟨t,rfl,by simpa [textTm] using e,q1,by rw [← sizeTr_Tm];exact hc.2,q2⟩
   ·simp at h
  ·simp at h
theorem term_eq (l:Bs):specTerm l=(implTerm l).bind fun t=>if smallTm t then some (trTm t) else none:=by
 cases h:implTerm l with
 | some t =>
   obtain ⟨rfl,ho,hs⟩:=implTerm_some h
   rw [specTerm_text ho hs];rfl
 | none =>
   cases hq:specTerm l with
   | none=>rfl
   | some tr =>
     obtain ⟨t,_,rfl,ho,hs,_⟩:=specTerm_some hq
     rw [implTerm_text ho hs] at h;simp at h
end Go.Proofs.YtllmjhbopmkpoaaGreatDoor
namespace Go.Proofs.YtllmjhbopmkpoaaGreatDoor
open Go.RowKit
def lname (v:Nat):Bs:=120::dec v
def lamsTm (n:Nat):List Ty→Tm→Tm
 | [],b=>b
 | t::ts,b=>.lam (lname n) t (lamsTm (n+1) ts b)
mutual
def tmB (hand:List Ty):Bd→Tm
 | .leaf c=>.wd [c]
 | .ask v ss y n=>.ite (tmApps hand (.nm (lname v)) ((hand[v]?.map Ty.args).getD []) ss) (tmB hand y) (tmB hand n)
def tmApps (hand:List Ty) (f:Tm):List Ty→List Bd→Tm
 | t::ts,s::ss=>tmApps hand (.app f (lamsTm hand.length t.args (tmB (hand++t.args) s))) ts ss
 | [],_=>f
 | _::_,[]=>f
end
def tmL (hand:List Ty) (t:Ty) (b:Bd):Tm:=lamsTm hand.length t.args (tmB (hand++t.args) b)
theorem tmApps_nil (hand:List Ty) (f:Tm) (ss:List Bd):tmApps hand f [] ss=f:=by rw [tmApps]
theorem tmApps_cons (hand:List Ty) (f:Tm) (t:Ty) (ts:List Ty) (s:Bd) (ss:List Bd):tmApps hand f (t::ts) (s::ss)=tmApps hand (.app f (tmL hand t s)) ts ss:=by rw [tmApps];rfl
theorem tmApps_snoc (hand:List Ty):∀ (ts:List Ty) (ss:List Bd) (f:Tm) (t:Ty) (s:Bd),ts.length=ss.length→tmApps hand f (ts++[t]) (ss++[s])=.app (tmApps hand f ts ss) (tmL hand t s)
 | [],[],f,t,s,_=>by rw [List.nil_append,List.nil_append,tmApps_cons,tmApps_nil,tmApps_nil]
 | [],s'::ss,f,t,s,h=>by simp at h
 | t'::ts,[],f,t,s,h=>by simp at h
 | t'::ts,s'::ss,f,t,s,h=>by rw [List.cons_append,List.cons_append,tmApps_cons,tmApps_cons,tmApps_snoc hand ts ss _ t s (by simpa using h)]
theorem dec_sep (n:Nat):∀ c∈dec n,sep c=false:=fun c hc=>dig_sep (dec_all n c hc)
theorem lname_sep (v:Nat):lname v≠[]∧∀ c∈lname v,sep c=false:=by
 refine ⟨by simp [lname],fun c hc=>?_⟩
 rcases List.mem_cons.1 hc with rfl | hc
 ·decide
 ·exact dec_sep v c hc
def wordTm:Tm→Prop
 | .nm x=>x≠[]∧∀ c∈x,sep c=false
 | .wd w=>w≠[]∧∀ c∈w,sep c=false
 | .lam x _ t=>(x≠[]∧∀ c∈x,sep c=false)∧wordTm t
 | .app m n=>wordTm m∧wordTm n
 | .ite l m n=>wordTm l∧wordTm m∧wordTm n
theorem okTr_word:∀ t:Tm,wordTm t→okTr (trTm t)
 | .nm x,h=>by rw [trTm,okTr];exact h
 | .wd w,h=>by rw [trTm,okTr];exact h
 | .lam x k t,h=>by
   rw [trTm,okTr,okTrs,okTrs,okTrs,okTrs,okTrs]
   exact ⟨by simp,by rw [okTr];exact ⟨by decide,by decide⟩,by rw [okTr];exact h.1,okTr_T k,okTr_word t h.2,trivial⟩
 | .app m n,h=>by
   rw [trTm,okTr,okTrs,okTrs,okTrs,okTrs]
   exact ⟨by simp,by rw [okTr];exact ⟨by decide,by decide⟩,okTr_word m h.1,okTr_word n h.2,trivial⟩
 | .ite l m n,h=>by
   rw [trTm,okTr,okTrs,okTrs,okTrs,okTrs,okTrs]
   exact ⟨by simp,by rw [okTr];exact ⟨by decide,by decide⟩,okTr_word l h.1,okTr_word m h.2.1,okTr_word n h.2.2,trivial⟩
theorem trT_inj {a b:Ty} (h:trT a=trT b):atomsT a=atomsT b:=by rw [← sizeTr_T a,h,sizeTr_T]
theorem small_tree:∀ a b:Tm,trTm a=trTm b→smallTm a=smallTm b
 | .nm x,b,h=>by cases b <;> simp [trTm] at h <;> simp [smallTm]
 | .wd x,b,h=>by cases b <;> simp [trTm] at h <;> simp [smallTm]
 | .lam x k t,b,h=>by
   cases b with
   | lam y l u =>
     simp only [trTm,Tr.ls.injEq,List.cons.injEq,and_true,true_and] at h
     rw [smallTm,smallTm,small_tree t u h.2.2,trT_inj h.2.1]
   | nm y=>simp [trTm] at h
   | wd y=>simp [trTm] at h
   | app m n=>simp [trTm] at h
   | ite l m n=>simp [trTm,lamW,ifW] at h
 | .app m n,b,h=>by
   cases b with
   | app p q =>
     simp only [trTm,Tr.ls.injEq,List.cons.injEq,and_true,true_and] at h
     rw [smallTm,smallTm,small_tree m p h.1,small_tree n q h.2]
   | nm y=>simp [trTm] at h
   | wd y=>simp [trTm] at h
   | lam y l u=>simp [trTm] at h
   | ite l m n=>simp [trTm] at h
 | .ite l m n,b,h=>by
   cases b with
   | ite o p q =>
     simp only [trTm,Tr.ls.injEq,List.cons.injEq,and_true,true_and] at h
     rw [smallTm,smallTm,small_tree l o h.1,small_tree m p h.2.1,small_tree n q h.2.2]
   | nm y=>simp [trTm] at h
   | wd y=>simp [trTm] at h
   | lam y l u=>simp [trTm,lamW,ifW] at h
   | app p q=>simp [trTm] at h
theorem term_both {t:Tm} (hw:wordTm t) (hs:smallTm t=true):(specTerm (textTm t)).isSome=(implTerm (textTm t)).isSome:=by
 rw [term_eq]
 cases h:implTerm (textTm t) with
 | none=>rfl
 | some u =>
   obtain ⟨e,ho,_⟩:=implTerm_some h
   have:trTm t=trTm u:=textTr_inj (okTr_word t hw) (okTr_Tm u ho) e
   rw [Option.bind_some,← small_tree t u this,hs]
   rfl
theorem lams_word:∀ (ts:List Ty) (n:Nat) (b:Tm),wordTm b→wordTm (lamsTm n ts b)
 | [],n,b,h=>h
 | t::ts,n,b,h=>⟨lname_sep n,lams_word ts (n+1) b h⟩
theorem lams_small:∀ (ts:List Ty) (n:Nat) (b:Tm),(∀ t∈ts,atomsT t≤15)→smallTm b=true→smallTm (lamsTm n ts b)=true
 | [],n,b,_,h=>h
 | t::ts,n,b,ht,h=>by
   rw [lamsTm,smallTm,decide_eq_true (ht t (by simp)),lams_small ts (n+1) b (fun x hx=>ht x (by simp [hx])) h];rfl
theorem leaf_word {c:UInt8} (h:c=116∨c=102∨c=117):wordTm (.wd [c]):=by
 refine ⟨by simp,fun x hx=>?_⟩
 simp at hx;subst hx
 rcases h with rfl | rfl | rfl <;> decide
mutual
theorem tmB_word:∀ (b:Bd) (hand:List Ty),wfB b→wordTm (tmB hand b)
 | .leaf c,hand,h=>by rw [wfB] at h;rw [tmB];exact leaf_word h
 | .ask v ss y n,hand,h=>by
   rw [wfB] at h
   rw [tmB]
   exact ⟨tmApps_word ss hand _ _ h.1 (lname_sep v),tmB_word y hand h.2.1,tmB_word n hand h.2.2⟩
theorem tmApps_word:∀ (ss:List Bd) (hand ts:List Ty) (f:Tm),wfBs ss→wordTm f→wordTm (tmApps hand f ts ss)
 | ss,hand,[],f,_,hf=>by rw [tmApps];exact hf
 | [],hand,t::ts,f,_,hf=>by rw [tmApps];exact hf
 | s::ss,hand,t::ts,f,h,hf=>by
   rw [wfBs] at h
   rw [tmApps_cons]
   exact tmApps_word ss hand ts _ h.2 ⟨hf,lams_word _ _ _ (tmB_word s _ h.1)⟩
end
theorem arg_small {t:Ty} (h:atomsT t≤15):∀ a∈t.args,atomsT a≤15:=(hand_of_type h).1
mutual
theorem tmB_small:∀ (b:Bd) (hand:List Ty),(∀ t∈hand,atomsT t≤15)→smallTm (tmB hand b)=true
 | .leaf c,hand,h=>by rw [tmB,smallTm]
 | .ask v ss y n,hand,h=>by
   rw [tmB,smallTm,tmB_small y hand h,tmB_small n hand h]
   rw [tmApps_small ss hand _ _ h (fun t ht=>?_) (by rw [smallTm])]
   ·rfl
   ·cases hv:hand[v]? with
    | none=>rw [hv] at ht;simp at ht
    | some k =>
      rw [hv] at ht
      exact arg_small (h k (List.mem_of_getElem? hv)) t (by simpa using ht)
theorem tmApps_small:∀ (ss:List Bd) (hand ts:List Ty) (f:Tm),(∀ t∈hand,atomsT t≤15)→(∀ t∈ts,atomsT t≤15)→smallTm f=true→smallTm (tmApps hand f ts ss)=true
 | ss,hand,[],f,_,_,hf=>by rw [tmApps];exact hf
 | [],hand,t::ts,f,_,_,hf=>by rw [tmApps];exact hf
 | s::ss,hand,t::ts,f,h,hts,hf=>by
   rw [tmApps_cons]
   have ha:=arg_small (hts t (by simp))
   refine tmApps_small ss hand ts _ h (fun x hx=>hts x (by simp [hx])) ?_
   rw [smallTm,hf,tmL,lams_small _ _ _ ha (tmB_small s _ fun x hx=>?_)]
   ·rfl
   ·rcases List.mem_append.1 hx with hx | hx
    ·exact h x hx
    ·exact ha x hx
end
def termOf (t:Ty) (b:Bd):Tm:=tmL [] t b
def stratTerm (s text:Bs):Option Bs:=(specStrat s text).bind fun b=>if (implTerm (textTm (termOf (specType s).1 b))).isSome then some (textTm (termOf (specType s).1 b)) else none
theorem termOf_good {t:Ty} {b:Bd} (h:Good t b):wordTm (termOf t b)∧smallTm (termOf t b)=true:=by
 refine ⟨lams_word _ _ _ (tmB_word b _ h.wf),lams_small _ _ _ (arg_small h.atoms) (tmB_small b _ fun x hx=>?_)⟩
 rw [List.nil_append] at hx
 exact arg_small h.atoms x hx
theorem stratTerm_both {s text:Bs} {b:Bd} (h:specStrat s text=some b):(specTerm (textTm (termOf (specType s).1 b))).isSome=(implTerm (textTm (termOf (specType s).1 b))).isSome:=by
 obtain ⟨h1,h2⟩:=termOf_good (specStrat_good h).1
 exact term_both h1 h2
end Go.Proofs.YtllmjhbopmkpoaaGreatDoor
namespace Go.Proofs.YtllmjhbopmkpoaaGreatDoor
open Go.RowKit
def headTx:Nat→List Ty→Bs
 | _,[]=>[]
 | n,t::ts=>[40,108,97,109,32]++lname n++[32]++textT t++[32]++headTx (n+1) ts
def closeTx (n:Nat):Bs:=List.replicate n 41
theorem closeTx_succ (n:Nat):closeTx (n+1)=closeTx n++[41]:=by unfold closeTx;rw [List.replicate_succ']
theorem closeTx_length (n:Nat):(closeTx n).length=n:=by simp [closeTx]
theorem headTx_snoc:∀ (ts:List Ty) (n:Nat) (t:Ty),headTx n (ts++[t])=headTx n ts++([40,108,97,109,32]++lname (n+ts.length)++[32]++textT t++[32])
 | [],n,t=>by rw [List.nil_append,headTx,headTx,headTx];simp
 | u::ts,n,t=>by
   rw [List.cons_append,headTx,headTx,headTx_snoc ts (n+1) t,List.length_cons,show n+1+ts.length=n+(ts.length+1) from by omega];simp
theorem lams_text:∀ (ts:List Ty) (n:Nat) (b:Tm),textTm (lamsTm n ts b)=headTx n ts++textTm b++closeTx ts.length
 | [],n,b=>by rw [lamsTm,headTx];simp [closeTx]
 | t::ts,n,b=>by
   rw [lamsTm,textTm_lam,lams_text ts (n+1) b,headTx,List.length_cons,closeTx_succ]
   simp [lamW]
theorem apps_text (hand:List Ty) (f:Tm) (t:Ty) (s:Bd):textTm (.app f (tmL hand t s))=[40,97,112,112,32]++textTm f++[32]++textTm (tmL hand t s)++[41]:=by
 rw [textTm_app];simp [appW]
theorem ite_text (l m n:Tm):textTm (.ite l m n)=[40,105,102,32]++textTm l++[32]++textTm m++[32]++textTm n++[41]:=by
 rw [textTm_ite];simp [ifW]
theorem nm_text (x:Bs):textTm (.nm x)=x:=by unfold textTm;rw [trTm,textTr]
theorem wd_text (x:Bs):textTm (.wd x)=x:=by unfold textTm;rw [trTm,textTr]
theorem lname_len {v:Nat} (h:v<100000):(lname v).length≤6:=by
 have:=dec_length 4 v (Nat.lt_of_lt_of_le h (by decide))
 simp [lname];omega
theorem headTx_len:∀ (ts:List Ty) (n:Nat),(∀ t∈ts,atomsT t≤15)→n+ts.length≤100000→(headTx n ts).length≤60*ts.length
 | [],n,_,_=>by simp [headTx]
 | t::ts,n,ht,hn=>by
   rw [List.length_cons] at hn
   have h1:=headTx_len ts (n+1) (fun x hx=>ht x (by simp [hx])) (by omega)
   have h2:=textT_length 15 t (ht t (by simp))
   have h3:=lname_len (v:=n) (by omega)
   have h4:=ht t (by simp)
   rw [headTx]
   simp only [List.length_append,List.length_cons,List.length_nil]
   omega
theorem arg_count {t:Ty} (h:atomsT t≤15):t.args.length≤14:=by
 have:=length_le_atomsTs t.args
 have:=atomsT_mk t
 omega
mutual
theorem tmB_len:∀ (b:Bd) (hand:List Ty),fitB hand b→(∀ t∈hand,atomsT t≤15)→hand.length+15*sizeB b≤10000→(textTm (tmB hand b)).length+900≤1900*sizeB b
 | .leaf c,hand,_,_,_=>by rw [tmB,wd_text,sizeB];simp
 | .ask v ss y n,hand,hf,hh,hl=>by
   rw [sizeB] at hl
   rw [fitB] at hf
   obtain ⟨t,ht,f1,f2,f3⟩:=hf
   have h1:=tmB_len y hand f2 hh (by omega)
   have h2:=tmB_len n hand f3 hh (by omega)
   have hv:=(List.getElem?_eq_some_iff.1 ht).1
   have hn:=lname_len (v:=v) (by omega)
   have e:(hand[v]?.map Ty.args).getD []=t.args:=by rw [ht];rfl
   have h3:=tmApps_len ss hand t.args (.nm (lname v)) f1 hh (arg_small (hh t (List.mem_of_getElem? ht))) (by omega)
   rw [nm_text] at h3
   rw [tmB,ite_text,sizeB,e]
   simp only [List.length_append,List.length_cons,List.length_nil]
   omega
theorem tmApps_len:∀ (ss:List Bd) (hand ts:List Ty) (f:Tm),fitBs (hands hand ts) ss→(∀ t∈hand,atomsT t≤15)→(∀ t∈ts,atomsT t≤15)→hand.length+15*(1+sizeBs ss)≤10000→(textTm (tmApps hand f ts ss)).length≤(textTm f).length+1900*sizeBs ss
 | ss,hand,[],f,_,_,_,_=>by rw [tmApps];omega
 | [],hand,t::ts,f,_,_,_,_=>by rw [tmApps];omega
 | s::ss,hand,t::ts,f,hf,hh,ht,hl=>by
   rw [sizeBs] at hl
   rw [fitBs] at hf
   obtain ⟨h',hs',e,f1,f2⟩:=hf
   simp only [hands,List.map_cons,List.cons.injEq] at e
   obtain ⟨rfl,rfl⟩:=e
   have ps:=sizeB_pos s
   have hc:=arg_count (ht t (by simp))
   have ha:=arg_small (ht t (by simp))
   have h1:=tmApps_len ss hand ts (.app f (tmL hand t s)) f2 hh (fun x hx=>ht x (by simp [hx])) (by omega)
   have h2:=tmB_len s (hand++t.args) f1 (fun x hx=>by
    rcases List.mem_append.1 hx with hx | hx
    ·exact hh x hx
    ·exact ha x hx) (by rw [List.length_append];omega)
   have h3:=headTx_len t.args hand.length ha (by omega)
   rw [apps_text] at h1
   have h4:(textTm (tmL hand t s)).length=(headTx hand.length t.args).length+(textTm (tmB (hand++t.args) s)).length+t.args.length:=by
    unfold tmL
    rw [lams_text,List.length_append,List.length_append,closeTx_length]
   rw [tmApps_cons,sizeBs]
   simp only [List.length_append,List.length_cons,List.length_nil] at h1
   omega
end
end Go.Proofs.YtllmjhbopmkpoaaGreatDoor

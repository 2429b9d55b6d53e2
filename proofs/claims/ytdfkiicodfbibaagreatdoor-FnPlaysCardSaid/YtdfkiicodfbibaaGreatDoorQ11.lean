/- Walks of functions that the statement reaches, and plain words. No conditions. -/
import Derived.Test.YtdfkiicodfbibaaGreatDoorQ10
set_option linter.unusedVariables false
set_option linter.unusedSimpArgs false
set_option maxHeartbeats 16000000
namespace Go.Proofs.YtdfkiicodfbibaaGreatDoor
open Go.RowKit
def qAt (v:Pl) (i:Nat):Prop:=∃ m z,v[i]? = some (m,z)/\isQ m=true
def ansB (v:Pl) (k:Nat) (ans:List Int) (q:Nat):Prop:=(q:Int)∈ans\/∃ j m,q<j/\j<k/\v[j]? = some (m,(q:Int))/\isQ m=false
structure PendIs (v:Pl) (k:Nat) (ans:List Int) (z:Nat):Prop where
 lt:z<k
 q:qAt v z
 free:¬ ansB v k ans z
 all:∀ i,z<i->i<k->qAt v i->ansB v k ans i
theorem pend_is (v:Pl):∀ (k:Nat) (ans:List Int),k<=v.length->(∃ z:Nat,pendF v k ans=(z:Int)/\PendIs v k ans z)\/(pendF v k ans = -1/\∀ i,i<k->qAt v i->ansB v k ans i)
 | 0,ans,_=>.inr ⟨rfl,fun i hi=>absurd hi (by omega)⟩
 | k+1,ans,hk=>by
   have hv:v[k]? = some v[k]:=List.getElem?_eq_getElem (by omega)
   obtain ⟨m,y⟩:Bs×Int:=v[k]
   obtain ⟨m,y,hv⟩:∃ m y,v[k]? = some (m,y):=⟨_,_,hv⟩
   cases hq:isQ m with
   | true =>
     have hmono:∀ i,ansB v k ans i->ansB v (k+1) ans i:=fun i h=>h.imp id fun ⟨j,m',h1,h2,h3⟩=>⟨j,m',h1,by omega,h3⟩
     have hback:∀ i,ansB v (k+1) ans i->ansB v k ans i:=fun i h=>h.imp id fun ⟨j,m',h1,h2,h3,h4⟩=>⟨j,m',h1,by
      rcases Nat.lt_or_ge j k with h | h
      ·exact h
      ·obtain rfl:j=k:=by omega
       rw [hv] at h3
       simp only [Option.some.injEq,Prod.mk.injEq] at h3
       rw [<- h3.1,hq] at h4;simp at h4,h3,h4⟩
     rw [pendF_at hv,hq,if_pos rfl]
     by_cases hc:ans.contains (k:Int)=true
     ·rw [if_pos hc]
      have hin:(k:Int)∈ans:=by simpa using hc
      rcases pend_is v k ans (by omega) with ⟨z,h1,h2⟩ | ⟨h1,h2⟩
      ·refine .inl ⟨z,h1,by have:=h2.lt;omega,h2.q,fun h=>h2.free (hback _ h),fun i hi hi2 hqi=>?_⟩
       rcases Nat.lt_or_ge i k with h | h
       ·exact hmono _ (h2.all i hi h hqi)
       ·obtain rfl:i=k:=by omega
        exact .inl hin
      ·refine .inr ⟨h1,fun i hi hqi=>?_⟩
       rcases Nat.lt_or_ge i k with h | h
       ·exact hmono _ (h2 i h hqi)
       ·obtain rfl:i=k:=by omega
        exact .inl hin
     ·rw [if_neg hc]
      refine .inl ⟨k,rfl,by omega,⟨m,y,hv,hq⟩,fun h=>?_,fun i hi hi2=>absurd hi2 (by omega)⟩
      rcases h with h | ⟨j,_,h1,h2,_⟩
      ·exact hc (by simpa using h)
      ·omega
   | false =>
     rw [pendF_at hv,hq,if_neg (by simp)]
     have hto:∀ i,i<k->(ansB v k (ans++[y]) i↔ansB v (k+1) ans i):=fun i hi=>by
      unfold ansB
      constructor
      ·rintro (h | ⟨j,m',h1,h2,h3,h4⟩)
       ·rw [List.mem_append,List.mem_singleton] at h
        rcases h with h | h
        ·exact .inl h
        ·exact .inr ⟨k,m,hi,by omega,by rw [hv,h],hq⟩
       ·exact .inr ⟨j,m',h1,by omega,h3,h4⟩
      ·rintro (h | ⟨j,m',h1,h2,h3,h4⟩)
       ·exact .inl (List.mem_append_left _ h)
       ·rcases Nat.lt_or_ge j k with h | h
        ·exact .inr ⟨j,m',h1,h,h3,h4⟩
        ·obtain rfl:j=k:=by omega
         rw [hv] at h3
         simp only [Option.some.injEq,Prod.mk.injEq] at h3
         exact .inl (List.mem_append_right _ (by rw [List.mem_singleton];exact h3.2.symm))
     have hnq:¬ qAt v k:=fun ⟨m',y',h1,h2⟩=>by
      rw [hv] at h1
      simp only [Option.some.injEq,Prod.mk.injEq] at h1
      rw [<- h1.1,hq] at h2;simp at h2
     rcases pend_is v k (ans++[y]) (by omega) with ⟨z,h1,h2⟩ | ⟨h1,h2⟩
     ·refine .inl ⟨z,h1,by have:=h2.lt;omega,h2.q,fun h=>h2.free ((hto z h2.lt).2 h),fun i hi hi2 hqi=>?_⟩
      rcases Nat.lt_or_ge i k with h | h
      ·exact (hto i h).1 (h2.all i hi h hqi)
      ·obtain rfl:i=k:=by omega
       exact absurd hqi hnq
     ·refine .inr ⟨h1,fun i hi hqi=>?_⟩
      rcases Nat.lt_or_ge i k with h | h
      ·exact (hto i h).1 (h2 i h hqi)
      ·obtain rfl:i=k:=by omega
       exact absurd hqi hnq
theorem PendIs.eq {v:Pl} {k z:Nat} {ans:List Int} (hk:k<=v.length) (h:PendIs v k ans z):pendF v k ans=(z:Int):=by
 rcases pend_is v k ans hk with ⟨y,h1,h2⟩ | ⟨_,h2⟩
 ·rw [h1]
  rcases Nat.lt_trichotomy y z with h3 | h3 | h3
  ·exact absurd (h2.all z h3 h.lt h.q) h.free
  ·rw [h3]
  ·exact absurd (h.all y h3 h2.lt h2.q) h2.free
 ·exact absurd (h2 z h.lt h.q) h.free
theorem pend_of {v:Pl} {k z:Nat} {ans:List Int} (hk:k<=v.length) (h:pendF v k ans=(z:Int)):PendIs v k ans z:=by
 rcases pend_is v k ans hk with ⟨y,h1,h2⟩ | ⟨h1,_⟩
 ·rw [h1] at h
  obtain rfl:y=z:=by omega
  exact h2
 ·rw [h1] at h;omega
def brTo (v:Pl) (n:Nat):Prop:=∀ i m z,i<n->v[i]? = some (m,z)->isQ m=false->z=pendF v i []
theorem brP_to {v:Pl} (h:legalP v=true):brTo v v.length:=fun i m z hi hv hq=>by
 unfold legalP brP at h
 rw [Bool.and_eq_true] at h
 have h1:=allP_at h.2 hi
 rw [brAt_at hv,hq,Bool.false_or] at h1
 simpa using h1
theorem pend_back {v:Pl} {k z g:Nat} {m mq:Bs} {y:Int} (hk:k<v.length) (hb:brTo v v.length) (hv:v[k]? = some (m,(z:Int))) (hq:isQ m=false) (hz:v[z]? = some (mq,y)) (hzq:isQ mq=true) (hlt:z<k) (hg:pendF v z []=(g:Int)):pendF v (k+1) []=(g:Int):=by
 have hP:PendIs v k [] z:=pend_of (by omega) (hb k m _ hk hv hq).symm
 have hG:PendIs v z [] g:=pend_of (by omega) hg
 have hgz:=hG.lt
 have hmono:∀ a c i,a<=c->ansB v a [] i->ansB v c [] i:=fun a c i hac h=>h.imp id fun ⟨j,m',h1,h2,h3⟩=>⟨j,m',h1,by omega,h3⟩
 refine PendIs.eq (by omega) ⟨by omega,hG.q,fun h=>?_,fun i hi hi2 hqi=>?_⟩
 ·rcases h with h | ⟨j,m',h1,h2,h3,h4⟩
  ·simp at h
  ·rcases Nat.lt_trichotomy j z with hj | hj | hj
   ·exact hG.free (.inr ⟨j,m',h1,hj,h3,h4⟩)
   ·subst hj
    rw [hz] at h3
    simp only [Option.some.injEq,Prod.mk.injEq] at h3
    rw [<- h3.1,hzq] at h4;simp at h4
   ·rcases Nat.lt_or_ge j k with hjk | hjk
    ·have h5:PendIs v j [] g:=pend_of (by omega) (hb j m' _ (by omega) h3 h4).symm
     have h6:=h5.all z hgz hj ⟨mq,y,hz,hzq⟩
     exact hP.free (hmono j k z (by omega) h6)
    ·obtain rfl:j=k:=by omega
     rw [hv] at h3
     simp only [Option.some.injEq,Prod.mk.injEq] at h3
     have:=h3.2;omega
 ·rcases Nat.lt_trichotomy i z with h | h | h
  ·exact hmono z (k+1) i (by omega) (hG.all i hi h hqi)
  ·subst h
   exact .inr ⟨k,m,hlt,by omega,hv,hq⟩
  ·rcases Nat.lt_or_ge i k with hik | hik
   ·exact hmono k (k+1) i (by omega) (hP.all i h hik hqi)
   ·obtain rfl:i=k:=by omega
    obtain ⟨m',y',h1,h2⟩:=hqi
    rw [hv] at h1
    simp only [Option.some.injEq,Prod.mk.injEq] at h1
    rw [<- h1.1,hq] at h2;simp at h2
structure StIn (v:Pl) (s:St) (n:Nat):Prop where
 lv:∀ (l:Nat) (pl:Place),s.2.1[l]? = some pl->pl.1 % 2=0/\pl.1<n/\pl.1∈viewP v false n/\∃ z j q,j<10/\pl.2=q++[digit j]/\v[pl.1]? = some (113::q,z)
 bg:s.2.2.1 % 2=0/\s.2.2.1<n/\s.2.2.1∈viewP v false n/\∃ z,v[s.2.2.1]? = some (113::s.2.2.2,z)
 pend:pendF v n []=(s.2.2.1:Int)
theorem place_in {t:Ty} {b:Bd} {v:Pl} (h15:atomsT t<=15) (hf:fitB t.args b) (hw:wfB b) (hv:validPl t v=true) (hl:legalP v=true) (k:Nat):k<v.length->k % 2=0->followsTo t b v k->∃ s hand,placeAt t b v (k+1)=some s/\StFit t hand s (k+1)/\StIn v s (k+1):=by
 have hbr:=brP_to hl
 induction k using Nat.strongRecOn with
 | _ k ih =>
   intro hk he hfo
   rcases Nat.eq_zero_or_pos k with h0 | h0
   ·subst h0
    obtain ⟨c,p,z,hv0,ho⟩:=valid_at hv hk
    obtain ⟨rfl,rfl,rfl⟩:=ho.zero rfl
    have hvw:=viewP_first hv hk
    refine ⟨_,_,placeAt_first t b v,startW_fit h15 hf hw,fun l pl h=>?_,⟨rfl,by show 0<0+1;omega,by rw [hvw];exact List.mem_singleton.2 rfl,-1,hv0⟩,?_⟩
    ·have hlen:=(List.getElem?_eq_some_iff.1 h).1
     have hlen':l<(placesOf t.args.length 0 []).length:=hlen
     rw [placesOf_length] at hlen'
     have h':(placesOf t.args.length 0 [])[l]? = some pl:=h
     rw [placesOf_at hlen'] at h'
     obtain rfl:=Option.some.inj h'
     have:=args_len t
     exact ⟨rfl,by show 0<0+1;omega,by rw [hvw];exact List.mem_singleton.2 rfl,-1,l,[],by omega,by show []++dec l=_;rw [dec_small (by omega)],hv0⟩
    ·rw [pendF_at hv0];rfl
   ·obtain ⟨c,p,z,ho,hok⟩:=opp_mv hv hk he h0
    have hlt:=ho.lt
    have hodd:=ho.odd
    obtain ⟨z',rfl⟩:∃ z',z=z'+1:=⟨z-1,by omega⟩
    obtain ⟨s,hand,hp,hs,hin⟩:=ih z' (by omega) (by omega) (by omega) (fun i hi h=>hfo i (by omega) h)
    obtain ⟨x,hx,hxe⟩:=ho.en
    have hr:=hfo (z'+1) (by omega) hodd
    unfold replyAt at hr
    rw [hp,Option.bind_some,hx] at hr
    obtain ⟨l,ss,y,n,a,pl,hd⟩:=step_data h15 hs hok h0 hxe hr
    obtain ⟨s',hand',h1,h2⟩:=hd.next (k:=k) hs (by omega) (by omega) h15
    have hvw:=viewP_step hv hk ho (by rw [hok.opp];simp [he])
    have hmem:∀ i,i∈viewP v false (z'+1)->i∈viewP v false (k+1):=fun i h=>by rw [hvw];exact List.mem_append_left _ h
    have hkm:k∈viewP v false (k+1):=by rw [hvw];exact List.mem_append_right _ (by simp)
    refine ⟨s',hand',by rw [placeAt_step hv b hk h0 ho,hp,Option.bind_some,h1],h2,?_⟩
    have hstep:=h1
    unfold stepW at hstep
    rw [hd.body] at hstep
    simp only at hstep
    rcases hd.mv with ⟨rfl,j,aj,sb,hpp,hj,haj,hsb,hat,hld⟩ | ⟨hc,hpp⟩
    ·rw [if_pos rfl,hld,hsb] at hstep
     obtain rfl:=Option.some.inj hstep
     refine ⟨fun i pl' hi=>?_,⟨he,by show k<k+1;omega,hkm,_,ho.at'⟩,?_⟩
     ·have hi':(s.2.1++placesOf (argsAt t p) k p)[i]? = some pl':=hi
      rcases Nat.lt_or_ge i s.2.1.length with h | h
      ·rw [List.getElem?_append_left h] at hi'
       obtain ⟨q1,q2,q3,q4⟩:=hin.lv i pl' hi'
       exact ⟨q1,by omega,hmem _ q3,q4⟩
      ·rw [List.getElem?_append_right h] at hi'
       have hlen:=(List.getElem?_eq_some_iff.1 hi').1
       rw [placesOf_length] at hlen
       rw [placesOf_at hlen] at hi'
       obtain rfl:=Option.some.inj hi'
       have e0:argsAt t p=aj.args.length:=by unfold argsAt;rw [hat]
       have e1:=atT_len _ _ _ hat
       have e2:=args_len aj
       exact ⟨he,by show k<k+1;omega,hkm,_,i-s.2.1.length,p,by omega,by show p++dec _=_;rw [dec_small (by omega)],ho.at'⟩
     ·rw [pendF_at ho.at',isQ_cons];rfl
    ·have hc':¬ c=113:=by rcases hc with h | h <;> rw [h] <;> decide
     rw [if_neg hc'] at hstep
     obtain rfl:=Option.some.inj hstep
     refine ⟨fun i pl' hi=>?_,⟨hin.bg.1,by have:=hin.bg.2.1;show s.2.2.1<k+1;omega,hmem _ hin.bg.2.2.1,hin.bg.2.2.2⟩,?_⟩
     ·obtain ⟨q1,q2,q3,q4⟩:=hin.lv i pl' hi
      exact ⟨q1,by omega,hmem _ q3,q4⟩
     ·obtain ⟨mq,yq⟩:=x
      have hnq:isQ (c::p)=false:=by rw [isQ_cons];simp [hc']
      refine pend_back hk hbr ho.at' hnq hx ?_ hlt hin.pend
      have hxe':mq=enab (c::p):=hxe
      rw [hxe']
      unfold enab
      rw [if_neg (fun e=>hc' (by simp only [List.cons.injEq] at e;exact e.1)),hnq,if_neg (by simp)]
      rfl
theorem snoc_at {v:Pl} {x:Bs×Int} {i:Nat} (h:i<v.length):(v++[x])[i]? = v[i]?:=List.getElem?_append_left h
theorem snoc_new (v:Pl) (x:Bs×Int):(v++[x])[v.length]? = some x:=by rw [List.getElem?_append_right (Nat.le_refl _),Nat.sub_self];rfl
theorem viewD_snoc {t:Ty} {v:Pl} (hv:validPl t v=true) (x:Bs×Int) (o:Bool):∀ f n,n<=v.length->viewD (v++[x]) o f n=viewD v o f n
 | 0,_,_=>by rw [viewD,viewD]
 | f+1,0,_=>by rw [viewD_zero,viewD_zero]
 | f+1,n+1,hn=>by
   have e:backTo (v++[x]) o n=backTo v o n:=by unfold backTo;rw [snoc_at (by omega)]
   have h1:=backTo_le hv o (n:=n) (by omega)
   rw [viewD_succ,viewD_succ,e,viewD_snoc hv x o f _ (by omega)]
theorem viewP_snoc {t:Ty} {v:Pl} (hv:validPl t v=true) (x:Bs×Int) (o:Bool) {n:Nat} (hn:n<=v.length):viewP (v++[x]) o n=viewP v o n:=by
 unfold viewP;rw [viewD_snoc hv x o n n hn]
theorem pendF_snoc (v:Pl) (x:Bs×Int):∀ (n:Nat) (ans:List Int),n<=v.length->pendF (v++[x]) n ans=pendF v n ans
 | 0,_,_=>rfl
 | n+1,ans,h=>by
   rw [pendF,pendF,snoc_at (show n<v.length by omega),pendF_snoc v x n ans (by omega)]
   cases v[n]? with
   | none=>rfl
   | some y=>simp only [pendF_snoc v x n _ (by omega)]
theorem okAt_snoc (t:Ty) (v:Pl) (x:Bs×Int) {i:Nat} (h:i<v.length):okAt t (v++[x]) i=okAt t v i:=by
 have:=okAt_take t (v++[x]) h
 rw [List.take_left' rfl] at this
 exact this.symm
theorem valid_snoc {t:Ty} {v:Pl} (hv:validPl t v=true) (x:Bs×Int):validPl t (v++[x])=(decide (v.length<60) && okAt t (v++[x]) v.length):=by
 unfold validPl at hv
 rw [Bool.and_eq_true] at hv
 have h1:allAt t (v++[x]) v.length=true:=allAt_of fun i hi=>by rw [okAt_snoc t v x hi];exact allAt_at hv.2 hi
 unfold validPl
 rw [List.length_append,List.length_singleton,allAt,h1,Bool.true_and]
 congr 1
theorem visAt_snoc {t:Ty} {v:Pl} (hv:validPl t v=true) (x:Bs×Int) {i:Nat} (h:i<v.length):visAt (v++[x]) i=visAt v i:=by
 unfold visAt
 rw [snoc_at h]
 cases v[i]? with
 | none=>rfl
 | some y=>simp only [viewP_snoc hv x _ (Nat.le_of_lt h)]
theorem brAt_snoc (v:Pl) (x:Bs×Int) {i:Nat} (h:i<v.length):brAt (v++[x]) i=brAt v i:=by
 unfold brAt
 rw [snoc_at h]
 cases v[i]? with
 | none=>rfl
 | some y=>simp only [pendF_snoc v x i _ (Nat.le_of_lt h)]
theorem legal_snoc {t:Ty} {v:Pl} (hv:validPl t v=true) (hl:legalP v=true) (x:Bs×Int):legalP (v++[x])=(visAt (v++[x]) v.length && brAt (v++[x]) v.length):=by
 unfold legalP visP brP at hl ⊢
 rw [Bool.and_eq_true] at hl
 have h1:allP (visAt (v++[x])) v.length=true:=allP_of fun i hi=>by rw [visAt_snoc hv x hi];exact allP_at hl.1 hi
 have h2:allP (brAt (v++[x])) v.length=true:=allP_of fun i hi=>by rw [brAt_snoc v x hi];exact allP_at hl.2 hi
 rw [List.length_append,List.length_singleton,allP,allP,h1,h2,Bool.true_and,Bool.true_and]
def replyTo (t:Ty) (b:Bd) (v:Pl):Option Pl:=if v.length=60 then none else (replyAt t b v v.length).map fun x=>v++[x]
structure InPl (t:Ty) (b:Bd) (v:Pl):Prop where
 ok:validPl t v=true
 lg:legalP v=true
 fo:followsTo t b v v.length
theorem follows_snoc {t:Ty} {b:Bd} {v:Pl} {x:Bs×Int} (hv:validPl t (v++[x])=true) (n:Nat) (hn:n<=v.length) (hf:followsTo t b v n):followsTo t b (v++[x]) n:=fun i hi ho=>by
 have h1:=placeAt_take hv b (n:=v.length) (m:=i) (by omega) (by rw [List.length_append];omega)
 rw [List.take_left' rfl] at h1
 unfold replyAt
 rw [<- h1,snoc_at (by omega)]
 exact hf i hi ho
theorem reply_legal {t:Ty} {b:Bd} {v:Pl} (h15:atomsT t<=15) (hf:fitB t.args b) (hw:wfB b) (h:InPl t b v) (ho:v.length % 2=1) (h60:v.length<60) {x:Bs×Int} (hx:replyAt t b v v.length=some x):InPl t b (v++[x]):=by
 obtain ⟨k,hk⟩:∃ k,v.length=k+1:=⟨v.length-1,by omega⟩
 obtain ⟨s,hand,hp,hs,hin⟩:=place_in h15 hf hw h.ok h.lg k (by omega) (by omega) (fun i hi ho=>h.fo i (by omega) ho)
 have hx':=hx
 unfold replyAt at hx'
 rw [hk,hp,Option.bind_some] at hx'
 rw [<- hk] at hin hs
 have hnew:=snoc_new v x
 have key:∃ (c:UInt8) (p:Bs) (i:Nat),x=(c::p,(i:Int))/\(c=113\/c=116\/c=102)/\(∃ a,atT t p=some a)/\byOpp (c::p)=false/\i<v.length/\¬ (c::p)=[113]/\(∃ z,v[i]? = some (enab (c::p),z))/\i∈viewP v false v.length/\(isQ (c::p)=true\/(i:Int)=pendF v v.length []):=by
  have hopp:∀ (i:Nat) (m:Bs) (z:Int),i % 2=0->i<v.length->v[i]? = some (m,z)->byOpp m=true:=fun i m z h1 h2 h3=>by
   obtain ⟨c',p',z',hv',ho'⟩:=valid_at h.ok h2
   rw [hv'] at h3
   simp only [Option.some.injEq,Prod.mk.injEq] at h3
   rw [<- h3.1,ho'.opp];simp [h1]
  obtain ⟨bd,lv,bg⟩:=s
  cases bd with
  | leaf c =>
    have hw':=hs.wf
    rw [show ((Bd.leaf c,lv,bg):St).1=.leaf c from rfl,wfB] at hw'
    unfold told at hx'
    simp only at hx'
    split at hx'
    ·simp at hx'
    ·rename_i hc
     obtain rfl:=Option.some.inj hx'
     have hc2:c=116\/c=102:=by
      rcases hw' with h | h | h
      ·exact .inl h
      ·exact .inr h
      ·exact absurd h hc
     have hc3:¬ c=113:=by rcases hc2 with h | h <;> rw [h] <;> decide
     have hne:¬ (c::bg.2)=[113]:=fun e=>hc3 (by simp only [List.cons.injEq] at e;exact e.1)
     have hnq:isQ (c::bg.2)=false:=by rw [isQ_cons];simp [hc3]
     have hen:enab (c::bg.2)=113::bg.2:=by unfold enab;rw [if_neg hne,hnq,if_neg (by simp)];rfl
     obtain ⟨q1,q2,q3,z,q4⟩:=hin.bg
     refine ⟨c,bg.2,bg.1,rfl,.inr hc2,hs.bgt,?_,q2,hne,⟨z,by rw [hen];exact q4⟩,q3,.inr hin.pend.symm⟩
     have h1:=byOpp_enab hne
     rw [hen,hopp _ _ _ q1 q2 q4] at h1
     cases hh:byOpp (c::bg.2) with
     | false=>rfl
     | true=>rw [hh] at h1;simp at h1
  | ask l ss y n =>
    have hfit:=hs.fit
    rw [show ((Bd.ask l ss y n,lv,bg):St).1=.ask l ss y n from rfl,fitB] at hfit
    obtain ⟨a,h1,_⟩:=hfit
    obtain ⟨pl,hl,hat,_⟩:=hs.pf.each l a h1
    have hl':lv[l]? = some pl:=hl
    unfold told at hx'
    simp only [hl',Option.map_some] at hx'
    obtain rfl:=Option.some.inj hx'
    obtain ⟨q1,q2,q3,z,j,q,hj,hpl,q4⟩:=hin.lv l pl hl
    have hne:¬ (113::pl.2)=[113]:=fun e=>by rw [hpl] at e;simp at e
    have hen:enab (113::pl.2)=113::q:=by
     unfold enab
     rw [if_neg hne,isQ_cons,show ((113:UInt8) == 113)=true from rfl,if_pos rfl,hpl,<- List.cons_append,List.dropLast_concat]
    refine ⟨113,pl.2,pl.1,rfl,.inl rfl,⟨a,hat⟩,?_,q2,hne,⟨z,by rw [hen];exact q4⟩,q3,.inl rfl⟩
    have h1:=byOpp_enab hne
    rw [hen,hopp _ _ _ q1 q2 q4] at h1
    cases hh:byOpp (113::pl.2) with
    | false=>rfl
    | true=>rw [hh] at h1;simp at h1
 obtain ⟨c,p,i,rfl,hc,⟨a,hat⟩,hby,hi,hne,⟨z,hz⟩,hvw,hbr⟩:=key
 have hok:okAt t (v++[(c::p,(i:Int))]) v.length=true:=by
  unfold okAt
  rw [hnew]
  simp only
  rw [if_neg (by omega),hby,show mvOk t (c::p)=true from by
   simp only [mvOk,hat];rcases hc with h | h | h <;> rw [h] <;> rfl,Int.toNat_natCast,snoc_at hi,hz]
  have e1:decide (v.length % 2=0)=false:=decide_eq_false (by omega)
  have e2:((c::p) == [113])=false:=by
   cases hh:((c::p) == [113]) with
   | false=>rfl
   | true=>exact absurd (by simpa using hh) hne
  have e3:decide ((0:Int)<=(i:Int))=true:=decide_eq_true (by omega)
  have e4:decide ((i:Int)<(v.length:Int))=true:=decide_eq_true (by omega)
  rw [e1,e2,e3,e4]
  simp
 have hval:validPl t (v++[(c::p,(i:Int))])=true:=by
  rw [valid_snoc h.ok,hok,decide_eq_true h60];rfl
 refine ⟨hval,?_,?_⟩
 ·rw [legal_snoc h.ok h.lg,visAt_at hnew (by omega),brAt_at hnew,viewP_snoc h.ok _ _ (Nat.le_refl _),pendF_snoc v _ _ _ (Nat.le_refl _),hby,Bool.and_eq_true]
  refine ⟨?_,?_⟩
  ·rw [List.contains_iff_mem,List.mem_map]
   exact ⟨i,hvw,rfl⟩
  ·rcases hbr with h | h
   ·rw [h];rfl
   ·rw [h];simp
 ·rw [List.length_append,List.length_singleton]
  intro j hj hjo
  rcases Nat.lt_or_ge j v.length with h' | h'
  ·exact follows_snoc hval v.length (Nat.le_refl _) h.fo j h' hjo
  ·obtain rfl:j=v.length:=by omega
   have h1:=placeAt_take hval b (n:=v.length) (m:=v.length) (Nat.le_refl _) (by rw [List.length_append];omega)
   rw [List.take_left' rfl] at h1
   rw [hnew]
   unfold replyAt
   rw [<- h1]
   exact hx
mutual
def movesT:Ty->Bs->List Bs
 | .mk ts,p=>(113::p)::(116::p)::(102::p)::movesTs ts 0 p
def movesTs:List Ty->Nat->Bs->List Bs
 | [],_,_=>[]
 | a::ts,i,p=>movesT a (p++dec i)++movesTs ts (i+1) p
end
theorem movesT_eq (t:Ty) (p:Bs):movesT t p=[113::p,116::p,102::p]++movesTs t.args 0 p:=by
 cases t;rw [movesT];rfl
theorem movesTs_snoc:∀ (ts:List Ty) (a:Ty) (i:Nat) (p:Bs),movesTs (ts++[a]) i p=movesTs ts i p++movesT a (p++dec (i+ts.length))
 | [],a,i,p=>by rw [List.nil_append,movesTs,movesTs,movesTs];simp
 | b::ts,a,i,p=>by rw [List.cons_append,movesTs,movesTs,movesTs_snoc ts a (i+1) p,List.append_assoc,List.length_cons,show i+1+ts.length=i+(ts.length+1) from by omega]
theorem movesTs_take {ts:List Ty} {i:Nat} {a:Ty} (h:ts[i]? = some a) (p:Bs):movesTs (ts.take (i+1)) 0 p=movesTs (ts.take i) 0 p++movesT a (p++dec i):=by
 have hl:=(List.getElem?_eq_some_iff.1 h).1
 rw [List.take_add_one,h,Option.toList_some,movesTs_snoc,List.length_take,show 0+min i ts.length=i from by omega]
mutual
theorem movesT_len:∀ (t:Ty) (p:Bs),2*(movesT t p).length<=3*(atomsT t+1)
 | .mk ts,p=>by
   have:=movesTs_len ts 0 p
   rw [movesT,atomsT]
   simp only [List.length_cons];omega
theorem movesTs_len:∀ (ts:List Ty) (i:Nat) (p:Bs),2*(movesTs ts i p).length<=3*atomsTs ts
 | [],_,_=>by simp [movesTs]
 | a::ts,i,p=>by
   have h1:=movesT_len a (p++dec i)
   have h2:=movesTs_len ts (i+1) p
   rw [movesTs,atomsTs,List.length_append];omega
end
mutual
theorem movesT_ok (t0:Ty):∀ (t:Ty) (p:Bs),atT t0 p=some t->atomsT t<=15->∀ m∈movesT t p,mvOk t0 m=true
 | .mk ts,p,h,h15,m,hm=>by
   rw [movesT] at hm
   simp only [List.mem_cons] at hm
   rcases hm with rfl | rfl | rfl | hm
   ·simp only [mvOk,h];rfl
   ·simp only [mvOk,h];rfl
   ·simp only [mvOk,h];rfl
   ·have h1:=args_len (.mk ts)
    refine movesTs_ok t0 (.mk ts) p h ts 0 (by simp [Ty.args]) (by show 0+ts.length<=10;have:(Ty.mk ts).args=ts:=rfl;rw [this] at h1;omega) (fun a ha=>?_) m hm
    obtain ⟨i,hi⟩:=List.mem_iff_getElem?.1 ha
    have:=atomsT_arg (t:=.mk ts) hi
    omega
theorem movesTs_ok (t0 t:Ty) (p:Bs) (h:atT t0 p=some t):∀ (ts:List Ty) (i:Nat),ts=t.args.drop i->i+ts.length<=10->(∀ a∈ts,atomsT a<=15)->∀ m∈movesTs ts i p,mvOk t0 m=true
 | [],_,_,_,_,m,hm=>by simp [movesTs] at hm
 | a::ts,i,e,h10,h15,m,hm=>by
   rw [List.length_cons] at h10
   rw [movesTs,List.mem_append] at hm
   have ha:t.args[i]? = some a:=by
    have:(t.args.drop i)[0]? = some a:=by rw [<- e];rfl
    rwa [List.getElem?_drop,Nat.add_zero] at this
   rcases hm with hm | hm
   ·refine movesT_ok t0 a (p++dec i) ?_ (h15 a (List.mem_cons_self ..)) m hm
    rw [atT_append,h,Option.bind_some,dec_small (by omega),atT_digit _ (by omega)];exact ha
   ·refine movesTs_ok t0 t p h ts (i+1) ?_ (by omega) (fun a' h'=>h15 a' (List.mem_cons_of_mem _ h')) m hm
    rw [<- List.drop_drop,<- e];rfl
end
def fitsM (t:Ty) (v:Pl) (m:Bs) (i:Nat):Bool:=validPl t (v++[(m,(i:Int))]) && legalP (v++[(m,(i:Int))])
def fitsS (v:Pl) (m:Bs) (i:Nat):Bool:=(viewP v (decide (v.length % 2=0)) v.length).contains i && (!(m == [113]) && (byOpp m == decide (v.length % 2=0)) && ((v[i]?).map (·.1) == some (enab m))) && (isQ m || pendF v v.length [] == (i:Int))
theorem fits_eq {t:Ty} {v:Pl} (hv:validPl t v=true) (hl:legalP v=true) (h0:0<v.length) (h60:v.length<60) {m:Bs} (hm:mvOk t m=true) {i:Nat} (hi:i<v.length):fitsM t v m i=fitsS v m i:=by
 have hnew:=snoc_new v (m,(i:Int))
 have hok:okAt t (v++[(m,(i:Int))]) v.length=((byOpp m == decide (v.length % 2=0)) && (!(m == [113]) && ((v[i]?).map (·.1) == some (enab m)))):=by
  unfold okAt
  rw [hnew]
  simp only
  rw [if_neg (by omega),hm,Int.toNat_natCast,snoc_at hi,decide_eq_true (show (0:Int)<=(i:Int) by omega),decide_eq_true (show (i:Int)<(v.length:Int) by omega),Bool.true_and,Bool.true_and]
  rfl
 have hcon:(((viewP v (byOpp m) v.length).map fun n=>((n:Nat):Int)).contains (i:Int))=(viewP v (byOpp m) v.length).contains i:=by
  rw [Bool.eq_iff_iff,List.contains_iff_mem,List.contains_iff_mem,List.mem_map]
  exact ⟨fun ⟨a,h1,h2⟩=>by obtain rfl:a=i:=by omega
                           exact h1,fun h=>⟨i,h,rfl⟩⟩
 unfold fitsM fitsS
 rw [valid_snoc hv,hok,legal_snoc hv hl,visAt_at hnew h0,brAt_at hnew,viewP_snoc hv _ _ (Nat.le_refl _),pendF_snoc v _ _ _ (Nat.le_refl _),hcon,decide_eq_true h60,Bool.true_and]
 cases hb:(byOpp m == decide (v.length % 2=0)) with
 | false=>simp
 | true =>
   have e:byOpp m=decide (v.length % 2=0):=by simpa using hb
   rw [e]
   have hz:((i:Int) == pendF v v.length [])=(pendF v v.length [] == (i:Int)):=by
    rw [Bool.eq_iff_iff,beq_iff_eq,beq_iff_eq];exact eq_comm
   rw [hz]
   cases (viewP v (decide (v.length % 2=0)) v.length).contains i <;> cases (m == [113]) <;> cases ((v[i]?).map (·.1) == some (enab m)) <;> simp
def rowL (t:Ty) (v:Pl) (i:Nat) (ms:List Bs):List Pl:=ms.filterMap fun m=>if fitsM t v m i then some (v++[(m,(i:Int))]) else none
def nextN (t:Ty) (v:Pl) (n:Nat):List Pl:=(List.range n).flatMap fun i=>rowL t v i (movesT t [])
def nextL (t:Ty) (v:Pl):List Pl:=if v.length=0 then [[([113],-1)]] else nextN t v v.length
theorem rowL_snoc (t:Ty) (v:Pl) (i:Nat) (ms:List Bs) (m:Bs):rowL t v i (ms++[m])=rowL t v i ms++(if fitsM t v m i then [v++[(m,(i:Int))]] else []):=by
 unfold rowL
 rw [List.filterMap_append]
 congr 1
 by_cases h:fitsM t v m i=true
 ·simp [h]
 ·simp [h]
theorem rowL_take {t:Ty} {v:Pl} {i j:Nat} {ms:List Bs} {m:Bs} (h:ms[j]? = some m):rowL t v i (ms.take (j+1))=rowL t v i (ms.take j)++(if fitsM t v m i then [v++[(m,(i:Int))]] else []):=by
 rw [List.take_add_one,h,Option.toList_some,rowL_snoc]
theorem rowL_nil (t:Ty) (v:Pl) (i:Nat):rowL t v i []=[]:=rfl
theorem nextN_succ (t:Ty) (v:Pl) (n:Nat):nextN t v (n+1)=nextN t v n++rowL t v n (movesT t []):=by
 unfold nextN;rw [List.range_succ,List.flatMap_append];simp
theorem rowL_len (t:Ty) (v:Pl) (i:Nat) (ms:List Bs):(rowL t v i ms).length<=ms.length:=List.length_filterMap_le ..
theorem moves_24 {t:Ty} (h15:atomsT t<=15) (p:Bs):(movesT t p).length<=24:=by have:=movesT_len t p;omega
theorem nextN_len {t:Ty} (h15:atomsT t<=15) (v:Pl):∀ n,(nextN t v n).length<=24*n
 | 0=>by simp [nextN]
 | n+1=>by
   have h1:=nextN_len h15 v n
   have h2:=rowL_len t v n (movesT t [])
   have h3:=moves_24 h15 []
   rw [nextN_succ,List.length_append];omega
theorem nextL_len {t:Ty} (h15:atomsT t<=15) (v:Pl):(nextL t v).length<=24*v.length+1:=by
 unfold nextL
 split
 ·simp
 ·have:=nextN_len h15 v v.length;omega
def LegPl (t:Ty) (v:Pl):Prop:=validPl t v=true/\legalP v=true
theorem mem_next {t:Ty} {v u:Pl} (h0:v.length≠0) (h:u∈nextL t v):∃ m i,i<v.length/\u=v++[(m,(i:Int))]/\LegPl t u:=by
 unfold nextL nextN at h
 rw [if_neg h0] at h
 simp only [List.mem_flatMap,List.mem_range,rowL,List.mem_filterMap] at h
 obtain ⟨i,hi,m,_,hm⟩:=h
 split at hm
 ·rename_i hf
  obtain rfl:=Option.some.inj hm
  unfold fitsM at hf
  rw [Bool.and_eq_true] at hf
  exact ⟨m,i,hi,rfl,hf⟩
 ·simp at hm
theorem leg_first (t:Ty):LegPl t [([113],-1)]:=by
 constructor
 ·unfold validPl allAt allAt okAt mvOk
  simp only [List.length_singleton,List.getElem?_cons_zero,atT_nil]
  rfl
 ·decide
theorem next_leg {t:Ty} {v u:Pl} (h:u∈nextL t v):LegPl t u/\u.length=v.length+1:=by
 by_cases h0:v.length=0
 ·unfold nextL at h
  rw [if_pos h0,List.mem_singleton] at h
  subst h
  exact ⟨leg_first t,by rw [h0];rfl⟩
 ·obtain ⟨m,i,hi,rfl,hl⟩:=mem_next h0 h
  exact ⟨hl,by rw [List.length_append];rfl⟩
theorem next_in {t:Ty} {b:Bd} {v u:Pl} (hv:InPl t b v) (he:v.length % 2=0) (h:u∈nextL t v):InPl t b u/\u.length=v.length+1:=by
 obtain ⟨h1,h2⟩:=next_leg h
 refine ⟨⟨h1.1,h1.2,fun j hj hjo=>?_⟩,h2⟩
 by_cases h0:v.length=0
 ·omega
 ·obtain ⟨m,i,hi,rfl,hl⟩:=mem_next h0 h
  exact follows_snoc hl.1 v.length (Nat.le_refl _) hv.fo j (by omega) hjo
def stepL (t:Ty) (b:Bd) (v:Pl):List Pl:=match replyTo t b v with
 | none=>[]
 | some u=>nextL t u
def lastAt (t:Ty) (b:Bd):Nat->List Pl
 | 0=>nextL t []
 | r+1=>(lastAt t b r).flatMap (stepL t b)
def outAt (t:Ty) (b:Bd):Nat->List Pl
 | 0=>[[]]
 | r+1=>outAt t b r++lastAt t b r
theorem in_nil (t:Ty) (b:Bd):InPl t b []:=⟨rfl,rfl,fun i hi=>absurd hi (by simp)⟩
theorem last_in {t:Ty} {b:Bd} (h15:atomsT t<=15) (hf:fitB t.args b) (hw:wfB b):∀ r,r<=20->∀ u∈lastAt t b r,InPl t b u/\u.length=2*r+1
 | 0,_,u,hu=>by
   obtain ⟨h1,h2⟩:=next_in (in_nil t b) rfl hu
   exact ⟨h1,h2⟩
 | r+1,hr,u,hu=>by
   rw [lastAt,List.mem_flatMap] at hu
   obtain ⟨v,hv,hu⟩:=hu
   obtain ⟨h1,h2⟩:=last_in h15 hf hw r (by omega) v hv
   unfold stepL replyTo at hu
   rw [if_neg (by omega)] at hu
   cases hx:replyAt t b v v.length with
   | none=>rw [hx] at hu;simp at hu
   | some x =>
     rw [hx] at hu
     simp only [Option.map_some] at hu
     have h3:=reply_legal h15 hf hw h1 (by omega) (by omega) hx
     have hl:(v++[x]).length=v.length+1:=by rw [List.length_append];rfl
     obtain ⟨h4,h5⟩:=next_in h3 (by omega) hu
     exact ⟨h4,by omega⟩
theorem out_in {t:Ty} {b:Bd} (h15:atomsT t<=15) (hf:fitB t.args b) (hw:wfB b):∀ r,r<=20->∀ u∈outAt t b r,InPl t b u/\u.length<=2*r/\(u.length=0\/u.length % 2=1)
 | 0,_,u,hu=>by
   rw [outAt,List.mem_singleton] at hu
   subst hu
   exact ⟨in_nil t b,Nat.le_refl _,.inl rfl⟩
 | r+1,hr,u,hu=>by
   rw [outAt,List.mem_append] at hu
   rcases hu with hu | hu
   ·obtain ⟨h1,h2,h3⟩:=out_in h15 hf hw r (by omega) u hu
    exact ⟨h1,by omega,h3⟩
   ·obtain ⟨h1,h2⟩:=last_in h15 hf hw r (by omega) u hu
    exact ⟨h1,by omega,.inr (by omega)⟩
theorem outAt_mono (t:Ty) (b:Bd) {r q:Nat} (h:r<=q):(outAt t b r).length<=(outAt t b q).length:=by
 induction q with
 | zero=>obtain rfl:r=0:=by omega
         exact Nat.le_refl _
 | succ q ih =>
   rcases Nat.lt_or_ge r (q+1) with h' | h'
   ·have:=ih (by omega)
    rw [outAt,List.length_append];omega
   ·obtain rfl:r=q+1:=by omega
    exact Nat.le_refl _
def playsOf (s text:Bs) (n:Int):Option (List Pl):=match specStrat s text with
 | none=>none
 | some b=>if n<0\/8<n then none else if 300<(outAt (specType s).1 b ((n.toNat+1) / 2)).length then none else some (outAt (specType s).1 b ((n.toNat+1) / 2))
theorem flat_take {α β:Type} {l:List α} {i:Nat} {x:α} (h:l[i]? = some x) (f:α->List β):(l.take (i+1)).flatMap f=(l.take i).flatMap f++f x:=by
 rw [List.take_add_one,h,Option.toList_some,List.flatMap_append];simp
theorem flat_take_le {α β:Type} (l:List α) (f:α->List β) (i:Nat):((l.take i).flatMap f).length<=(l.flatMap f).length:=by
 have:(l.take i).flatMap f++(l.drop i).flatMap f=l.flatMap f:=by rw [<- List.flatMap_append,List.take_append_drop]
 rw [<- this,List.length_append];omega


def PlQ (o:Option Pl) (w:World) (en:Ending) (w':World):Prop :=
 ∃ a1 c1 a2 c2,en=.returned (.tuple #[.agg #[.slice a1 (o.getD []).length c1,.slice a2 (o.getD []).length c2],.bool o.isSome])/\Below w.heap.size w w'/\PlayAt w' (o.getD []) (.slice a1 (o.getD []).length c1) (.slice a2 (o.getD []).length c2) /\
   ∀ g,(Value.slice a1 (o.getD []).length c1).ownBlock=some g\/(Value.slice a2 (o.getD []).length c2).ownBlock=some g->w.heap.size<=g
theorem PlQ.none {w w':World} (hb:Below w.heap.size w w'):PlQ none w (.returned (.tuple #[.agg #[.slice .none 0 0,.slice .none 0 0],.bool false])) w' :=
 ⟨_,_,_,_,rfl,hb,playAt_nil _,fun g h=>by simp [Value.ownBlock] at h⟩
theorem told_ne {s:St} {x:Bs×Int} (h:told s=some x):∃ c p,x.1=c::p:=by
 unfold told at h
 split at h
 ·split at h
  ·simp at h
  ·obtain rfl:=Option.some.inj h;exact ⟨_,_,rfl⟩
 ·rw [Option.map_eq_some_iff] at h
  obtain ⟨pl,_,rfl⟩:=h
  exact ⟨_,_,rfl⟩
set_option maxRecDepth 100000 in
theorem reply_any (F:Nat->Prop) (t:Ty) (b:Bd) (v:Pl) (k:Nat) (kv bv mv pt:Value) (w:World) (hg:Glob w) (hk:Rep F w (encK t) kv) (hb:Rep F w (encB b) bv) (hm:PlIn F t v mv pt w)
 (h15:atomsT t<=15) (hf:fitB t.args b) (hw:wfB b) (hvk:v.length=k+1) (hke:k % 2=0) (hfo:followsTo t b v k) :
 Calls Tryz.prog 55 #[kv,bv,.agg #[mv,pt]] w (PlQ (replyTo t b v) w):=by
 have h60:=valid_len hm.ok
 obtain ⟨s,hand,hs0,hfit⟩:=place_fits h15 hf hw hm.ok k (by omega) hke hfo
 obtain ⟨ba,rfl⟩:=encB_ptr hb
 obtain ⟨kb,ks,rfl,_⟩:=encK_open hk
 obtain ⟨ma,mc,rfl,_⟩:=hm.m.cells
 obtain ⟨pa,pc,rfl,_⟩:=hm.p.cells
 obtain ⟨W,hW,hbW,hz,b0,b1⟩:=boxes_2 w (.cells #[.slice ma v.length mc,.slice pa v.length pc] 33) (.cells #[.slice none 0 0,.slice none 0 0] 33)
 obtain ⟨c0,c1,_,_⟩:=cells_2 b0
 have CS:=Lib.hid (standIn_any F t b v k v.length hvk s (.pointer (some ⟨kb,0,none⟩)) (.pointer (some ⟨ba,0,none⟩)) (.slice ma v.length mc) (.slice pa v.length pc) W (hg.below hbW) (hk.below hbW fun _ h=>h) (hb.below hbW fun _ h=>h) (hm.below hbW) h15 hf hw (by omega) hke hfo hs0)
 have CT:=Lib.hid (fun (y:World) (xv lv:Value) (hr:StRep (fun _=>True) y s xv lv)=>tells_any (fun _=>True) xv lv y hfit h15 (by omega) hr)
 have CW:=Lib.hid (fun (y:World) (hy:Below W.heap.size W y) (m:Bs) (z:Int)=>with_any v (.slice ma v.length mc) (.slice pa v.length pc) m z y (MvRep.src ((hm.below hbW).below hy).m) (PtRep.src ((hm.below hbW).below hy).p) (by omega))
 have HR:Hid (replyAt t b v v.length=told s):=Lib.hid (by unfold replyAt;rw [hvk,hs0];rfl)
 have HW:=Lib.hid (And.intro hW (And.intro hbW (And.intro b1 hz)))
 clear hm hW hbW hz b0 b1 hg hk hb h15 hf hw hs0 hfit hfo hke hvk
 by_cases he:v.length=60
 ·have E:=Lib.hid (show replyTo t b v=none by unfold replyTo;rw [if_pos he])
  rw [he] at HW c0 c1
  rw [he]
  obtain ⟨z0,z1,f0,f1⟩:=cells_2 HW.out.2.2.1
  clear CS CT CW HR he h60
  go_enter Tryz.func55,Tryz.ntmps55
  go_upto_region 1 with (fail)
  rw [HW.out.1]
  go_wp2_with fail
  have hV:=set_two' HW.out.2.2.1 (.slice none 0 0) (.slice none 0 0)
  obtain ⟨s0,s1,_,_⟩:=cells_2 hV
  refine bodyPost_ret (v:=.tuple #[.agg #[.slice none 0 0,.slice none 0 0],.bool false]) (by simp [results,Tryz.results55,go_sem,s0,s1]) rfl ?_
  rw [E.out]
  exact PlQ.none ((HW.out.2.1.setCell (p:=⟨w.heap.size+1,0,none⟩) (Nat.le_add_right _ _) _).setCell (p:=⟨w.heap.size+1,1,none⟩) (Nat.le_add_right _ _) _)
 ·have heI:¬ (v.length:Int)=60:=by omega
  have heB:((v.length:Int) == 60)=false:=by simpa using heI
  have E:=Lib.hid (show replyTo t b v=(told s).map fun x=>v++[x] by unfold replyTo;rw [if_neg he,HR.out])
  clear HR he
  go_enter Tryz.func55,Tryz.ntmps55
  go_upto_region 1 with (fail)
  rw [HW.out.1]
  go_wp2_with fail
  (with_reducible refine CS.out.mono ?_)
  rintro en w1 ⟨xv,lv,rfl,hb1,hr1⟩
  have d0:=(hb1.cell (World.block_lt_of_cell? _ _ c0)).trans c0
  have d1:=(hb1.cell (World.block_lt_of_cell? _ _ c1)).trans c1
  have HB1:=Lib.hid hb1
  have CT1:=CT.out w1 xv lv hr1
  clear CS CT hb1 hr1 c0 c1
  cases ho:told s with
  | none =>
    rw [ho] at E
    have et:tellV s=([],-1):=by unfold tellV;rw [ho];rfl
    rw [et] at CT1
    have CT1:=Lib.hid CT1
    clear CW ho et
    go_wp2_with fail
    (with_reducible refine CT1.out.mono ?_)
    rintro en w2 ⟨rfl,hb2⟩
    have hb12:=zzT HB1.out hb2
    have b3:=(hb12.block _ (lt_of_heap HW.out.2.2.1)).trans HW.out.2.2.1
    obtain ⟨z0,z1,f0,f1⟩:=cells_2 b3
    have HB2:=Lib.hid (And.intro b3 (zzT HW.out.2.1 hb12))
    clear hb2 hb12 b3 d0 d1 CT1
    go_wp2_with fail
    have hV:=set_two' HB2.out.1 (.slice none 0 0) (.slice none 0 0)
    obtain ⟨s0,s1,_,_⟩:=cells_2 hV
    refine bodyPost_ret (v:=.tuple #[.agg #[.slice none 0 0,.slice none 0 0],.bool false]) (by simp [results,Tryz.results55,go_sem,s0,s1]) rfl ?_
    rw [E.out]
    exact PlQ.none ((HB2.out.2.setCell (p:=⟨w.heap.size+1,0,none⟩) (Nat.le_add_right _ _) _).setCell (p:=⟨w.heap.size+1,1,none⟩) (Nat.le_add_right _ _) _)
  | some x =>
    rw [ho] at E
    obtain ⟨c,p,hcp⟩:=told_ne ho
    obtain ⟨m,z⟩:=x
    simp only at hcp
    have et:tellV s=(m,z):=by unfold tellV;rw [ho];rfl
    rw [et] at CT1
    have CT1:=Lib.hid CT1
    have hm1:(m == ([]:Bs))=false:=by rw [hcp];rfl
    have hm2:¬ m=[]:=by rw [hcp];simp
    clear ho et hcp
    go_wp2_with fail
    (with_reducible refine CT1.out.mono ?_)
    rintro en w2 ⟨rfl,hb2⟩
    have hb12:=zzT HB1.out hb2
    have b3:=(hb12.block _ (lt_of_heap HW.out.2.2.1)).trans HW.out.2.2.1
    have e0:=(hb2.cell (World.block_lt_of_cell? _ _ d0)).trans d0
    have e1:=(hb2.cell (World.block_lt_of_cell? _ _ d1)).trans d1
    have CW2:=Lib.hid (CW.out w2 hb12 m z)
    have HB2:=Lib.hid (And.intro b3 (zzT HW.out.2.1 hb12))
    clear hb2 hb12 b3 d0 d1 CT1 CW
    go_wp2_with fail
    (with_reducible refine CW2.out.mono ?_)
    rintro en w3 ⟨mvn,ptn,rfl,hpn,hb3,hfn⟩
    obtain ⟨a8,c8,e8⟩:=hpn.1.slice
    obtain ⟨a9,c9,e9⟩:=hpn.2.slice
    subst e8;subst e9
    have b3:=(hb3.block _ (lt_of_heap HB2.out.1)).trans HB2.out.1
    obtain ⟨z0,z1,f0,f1⟩:=cells_2 b3
    have HB3:=Lib.hid (And.intro b3 (And.intro (zzT HB2.out.2 hb3) (And.intro hpn (And.intro hfn (show w.heap.size+1<w2.heap.size from lt_of_heap HB2.out.1)))))
    clear hb3 b3 hpn hfn CW2 e0 e1
    generalize hL:(v++[(m,z)]).length=L at *
    go_wp2_with fail
    have hV:=set_two' HB3.out.1 (.slice a8 L c8) (.slice a9 L c9)
    obtain ⟨s0',s1',_,_⟩:=cells_2 hV
    have hoth:∀ g,g≠w.heap.size+1->((w3.setCell ⟨w.heap.size+1,0,none⟩ (.slice a8 L c8)).setCell ⟨w.heap.size+1,1,none⟩ (.slice a9 L c9)).heap[g]? = w3.heap[g]?:=fun g hg=>by
     rw [Below.heap_setCell _ _ _ _ (by show g≠w.heap.size+1;exact hg),Below.heap_setCell _ _ _ _ (by show g≠w.heap.size+1;exact hg)]
    refine bodyPost_ret (v:=.tuple #[.agg #[.slice a8 L c8,.slice a9 L c9],.bool true]) (by simp [results,Tryz.results55,go_sem,s0',s1']) rfl ?_
    rw [E.out]
    have hlt:=HB3.out.2.2.2.2
    refine ⟨a8,c8,a9,c9,by rw [Option.map_some,Option.getD_some,hL];rfl,(HB3.out.2.1.setCell (p:=⟨w.heap.size+1,0,none⟩) (Nat.le_add_right _ _) _).setCell (p:=⟨w.heap.size+1,1,none⟩) (Nat.le_add_right _ _) _,?_,fun g hg=>?_⟩
    ·rw [Option.map_some,Option.getD_some,hL]
     refine ⟨HB3.out.2.2.1.1.keep fun g o hg ho=>?_,HB3.out.2.2.1.2.keep fun g o hg ho=>?_⟩
     ·have:=HB3.out.2.2.2.1 g (.inl hg)
      rw [hoth g (by omega)];exact ho
     ·have:=HB3.out.2.2.2.1 g (.inr hg)
      rw [hoth g (by omega)];exact ho
    ·rw [Option.map_some,Option.getD_some,hL] at hg
     have:=HB3.out.2.2.2.1 g hg;omega
def movesTo (t:Ty) (p:Bs) (k:Nat):List Bs:=[113::p,116::p,102::p]++movesTs (t.args.take k) 0 p
theorem movesTo_zero (t:Ty) (p:Bs):movesTo t p 0=[113::p,116::p,102::p]:=by unfold movesTo;rw [List.take_zero,movesTs];rfl
theorem movesTo_all (t:Ty) (p:Bs):movesTo t p t.args.length=movesT t p:=by unfold movesTo;rw [List.take_length,movesT_eq]
theorem movesTo_next {t a:Ty} {k:Nat} (h:t.args[k]? = some a) (p:Bs):movesTo t p (k+1)=movesTo t p k++movesT a (p++dec k):=by unfold movesTo;rw [movesTs_take h,List.append_assoc]
theorem movesTs_le (ts:List Ty) (k:Nat) (p:Bs):(movesTs (ts.take k) 0 p).length<=(movesTs ts 0 p).length:=by
 have h:=movesTs_len (ts.take k) 0 p
 induction k with
 | zero=>simp [movesTs]
 | succ k ih =>
   rcases Nat.lt_or_ge k ts.length with hk | hk
   ·have key:∀ (us:List Ty) (i:Nat),(movesTs us i p).length<=(movesTs us i p).length:=fun _ _=>Nat.le_refl _
    have e:∀ (us vs:List Ty) (i:Nat),(movesTs us i p).length<=(movesTs (us++vs) i p).length:=by
     intro us
     induction us with
     | nil=>intro vs i;simp [movesTs]
     | cons a us ih=>intro vs i;rw [List.cons_append,movesTs,movesTs,List.length_append,List.length_append];have:=ih vs (i+1);omega
    have:=e (ts.take (k+1)) (ts.drop (k+1)) 0
    rwa [List.take_append_drop] at this
   ·rw [List.take_of_length_le (by omega)];exact Nat.le_refl _
theorem movesTo_len {t:Ty} (h15:atomsT t<=15) (p:Bs) (k:Nat):(movesTo t p k).length<=24:=by
 have h1:=movesTs_le t.args k p
 have h2:=moves_24 h15 p
 rw [movesT_eq,List.length_append] at h2
 unfold movesTo
 rw [List.length_append];omega
theorem strs_one (L:List Bs):∀ u∈L.map str,u.oneCell'=true:=fun u h=>by
 obtain ⟨x,_,rfl⟩:=List.mem_map.1 h
 rfl
set_option maxRecDepth 100000 in
theorem moves_any (F:Nat->Prop):∀ (m:Nat) (t:Ty) (p:Bs) (kv:Value) (w:World),atomsT t<=m->m<=15->p.length+m<=1000->Glob w->Rep F w (encK t) kv ->
 Calls Tryz.prog 111 #[kv,str p] w (FreshSl w 9 1 (movesT t p).length ((movesT t p).map str)):=by
 intro m
 induction m with
 | zero=>intro t p kv w h;have:=atomsT_pos t;omega
 | succ m ih =>
   intro t p kv w hm h15 hp hg hv
   obtain ⟨b,s,rfl,hb,hc,hs⟩:=encK_open hv
   obtain ⟨a,cap,rfl,hn,hlen,hat⟩:=Rep_sl1_open hs
   have hal:=args_len t
   obtain ⟨Q,hQ⟩:∃ O:Bs,O=[113]++p:=⟨_,rfl⟩
   obtain ⟨T,hT⟩:∃ O:Bs,O=[116]++p:=⟨_,rfl⟩
   obtain ⟨G,hG⟩:∃ O:Bs,O=[102]++p:=⟨_,rfl⟩
   have s1:=fun w0=>add_str (P:=Tryz.prog) [113] p (by simp;omega) w0
   have s2:=fun w0=>add_str (P:=Tryz.prog) [116] p (by simp;omega) w0
   have s3:=fun w0=>add_str (P:=Tryz.prog) [102] p (by simp;omega) w0
   rw [<- hQ] at s1;rw [<- hT] at s2;rw [<- hG] at s3
   have HM0:=Lib.hid (show movesTo t p 0=[Q,T,G] by rw [movesTo_zero,hQ,hT,hG];rfl)
   have HALL:=Lib.hid (movesTo_all t p)
   have HNX:=Lib.hid (fun k a (h:t.args[k]? = some a)=>movesTo_next h p)
   have HLN:=Lib.hid (fun k=>movesTo_len (t:=t) (by omega) p k)
   obtain ⟨W,hW⟩:=zzN (w.alloc (.cells #[str Q,str T,str G] 9))
   have hbW:Below w.heap.size w W:=by rw [<- hW];exact (Below.refl _ _).alloc (Nat.le_refl _) _
   have hown:Own W 9 1 (.slice (some ⟨w.heap.size,0,none⟩) 3 3) 3 [str Q,str T,str G]:=by rw [<- hW];exact Own.lit #[str Q,str T,str G] 3 (by unfold maxLen;omega) rfl
   have c1:W.cell? ⟨b,0,none⟩=some (.slice a t.args.length cap):=(hbW.cell (by exact lt_of_heap hc)).trans (by simp [World.cell?,hc])
   have HW:=Lib.hid hW
   have H0:=Lib.hid (And.intro hbW hown)
   have AT:=Lib.hid hat
   have HG:=Lib.hid hg
   have IH:=Lib.hid ih
   have HP:=Lib.hid (And.intro hm (And.intro h15 (And.intro hp hal)))
   have hnn:t.args.length<=7:=by omega
   have hpl:p.length<=1000:=by omega
   clear hQ hT hG hW hbW hown hat hg ih hm h15 hp hal hc hb hv hs hlen
   go_enter Tryz.func111,Tryz.ntmps111
   go_upto_region 2 with (fail)
   rw [HW.out]
   go_wp2_with fail
   go_loopw [5,20] (fun o i wr=>∃ (k L:Nat) (a2:Option Addr) (c2:Nat) (wz:World),wz=wr/\k<=t.args.length/\i=.int .i64 k/\o=.slice a2 L c2/\(movesTo t p k).length=L/\Own wz 9 1 (.slice a2 L c2) L ((movesTo t p k).map str)/\Below w.heap.size w wz/\(∀ g,(Value.slice a2 L c2).ownBlock=some g->w.heap.size<=g)) (fun _ i _=>t.args.length-(intOf i).toNat)
   case atStart=>exact ⟨0,3,_,_,_,rfl,Nat.zero_le _,rfl,rfl,by rw [HM0.out];rfl,by rw [HM0.out];exact H0.out.2,H0.out.1,own_some (Nat.le_refl _)⟩
   case round =>
    obtain ⟨k,L,a2,c2,wr,rfl,hk,rfl,rfl,hL,ho,hB,hf⟩:=hrel
    have HO:=Lib.hid (And.intro ho (And.intro hB (And.intro hf hL)))
    clear ho hB hf hL
    by_cases hlt:k<t.args.length
    ·have hltI:(k:Int)<(t.args.length:Int):=by omega
     obtain ⟨b',o',u,d,rfl,_,hb',hd,hu,hr⟩:=AT.out k hlt
     rw [encKs_at,Option.map_eq_some_iff] at hd
     obtain ⟨t',ht',rfl⟩:=hd
     obtain ⟨bu,eu⟩:∃ bu,u=.pointer (some ⟨bu,0,none⟩):=by obtain ⟨ba,_,h,_⟩:=encK_open hr;exact ⟨ba,h⟩
     subst eu
     have kk:wr.cell? ⟨b',o'+k,none⟩=some (.pointer (some ⟨bu,0,none⟩)):=(HO.out.2.1.cell (p:=⟨b',o'+k,none⟩) hb').trans hu
     have hat2:=atomsT_arg ht'
     have hNX:=HNX.out k t' ht'
     have HT:=Lib.hid (And.intro hr (And.intro hat2 hNX))
     clear hb' hu hr ht' hat2 hNX
     have C1:Hid (Calls Tryz.prog 161 #[.int .i64 (k:Nat)] wr fun en w'=>en=.returned (str (dec k))/\Below wr.heap.size wr w'):=Lib.hid (by
      have:=itoa_any (k:Nat) wr (HG.out.below HO.out.2.1) (by omega) (by omega)
      rwa [itoa_dec] at this)
     have hdl:(dec k).length<=2:=dec_length 1 k (by omega)
     have hadd:=fun w0=>add_str (P:=Tryz.prog) p (dec k) (by omega) w0
     obtain ⟨S,hS⟩:=zzN (p++dec k)
     rw [hS] at hadd HT
     have hSl:S.length<=p.length+1:=by rw [<- hS,List.length_append];have:=dec_small (show k<10 by omega);rw [this];simp
     have IH1:=Lib.hid (fun (y:World) (hy:Below w.heap.size w y)=>IH.out t' S (.pointer (some ⟨bu,0,none⟩)) y (by have:=HT.out.2.1;have:=HP.out;omega) (by have:=HP.out;omega) (by have:=HP.out;omega) (HG.out.below hy) (HT.out.1.below hy fun _ h=>h))
     clear hS hdl
     go_wp2_with fail
     (with_reducible refine C1.out.mono ?_)
     rintro en w1 ⟨rfl,hb1⟩
     have hb01:=zzT HO.out.2.1 hb1
     have C2:=Lib.hid (IH1.out w1 hb01)
     have HB1:=Lib.hid (And.intro hb1 hb01)
     clear hb1 hb01 C1 IH1 kk hSl
     unfold FreshSl at C2
     obtain ⟨L2,hL2⟩:=zzN ((movesT t' S).length)
     rw [hL2] at C2
     have HL2:=Lib.hid hL2
     clear hL2
     go_wp2_with fail
     (with_reducible refine C2.out.mono ?_)
     rintro en w2 ⟨a3,c3,rfl,ho2,hb2,hf2⟩
     have HB2:=Lib.hid (And.intro hb2 (And.intro (zzT HB1.out.2 hb2) (And.intro ho2 hf2)))
     have hlen1:=HLN.out (k+1)
     have hl24:L+L2<=24:=by rw [HT.out.2.2,List.length_append,HL2.out] at hlen1;have:=HO.out.2.2.2;omega
     clear hb2 ho2 hf2 C2 hlen1
     go_wp2_with (at_builtin;refine wpList_append_gen rfl _ _ 30 rfl 9 (str []) 1 16 Tryz.underlying30 Tryz.infoStr rfl (by decide) (.slice a2 L c2) L ((movesTo t p k).map str) rfl ?c1 (.slice a3 L2 c3) L2 ((movesT t' S).map str) rfl ?c2 ?c3 ?c4 ?_)
     case c1=>exact HO.out.1.keep fun g o _ ho=>by rw [HB2.out.1.block g (Nat.lt_of_lt_of_le (lt_of_heap ho) HB1.out.1.size),HB1.out.1.block g (lt_of_heap ho)];exact ho
     case c2=>exact SrcSl.ofOwn HB2.out.2.2.1 (strs_one _)
     case c3=>unfold maxLen;omega
     case c4=>omega
     intro a' c' w7 ho7 hb7 hg7
     obtain ⟨hB7,hF7⟩:=fresh_append HB2.out.2.1 HO.out.2.2.1 hb7 hg7
     have HA:=Lib.hid (And.intro ho7 (And.intro hB7 hF7))
     clear ho7 hb7 hg7 hB7 hF7
     go_wp2_with fail
     go_roundw
     case rel =>
      refine ⟨k+1,L+L2,a',c',_,rfl,by omega,by go_num,rfl,?_,?_,HA.out.2.1,HA.out.2.2⟩
      ·rw [HT.out.2.2,List.length_append,HL2.out,HO.out.2.2.2]
      ·rw [HT.out.2.2,List.map_append];exact HA.out.1
     case measure=>simp [intOf];omega
    ·have hltI:¬ (k:Int)<(t.args.length:Int):=by omega
     obtain rfl:k=t.args.length:=by omega
     go_wp2_with fail
     go_ret
     have e:=HO.out.2.2.2
     have ho:=HO.out.1
     rw [HALL.out] at e ho
     exact ⟨a2,c2,by rw [e];rfl,by rw [e];exact ho,HO.out.2.1,by rw [e];exact HO.out.2.2.1⟩
structure NxR (B:Nat) (L:List Pl) (a:Option Addr) (n c:Nat) (us:List (Value×Value)) (wz:World):Prop where
 len:L.length=n
 pls:PlsAt wz L (.slice a n c) us
 new:∀ g,PlB (.slice a n c) us g->B<=g
theorem NxR.below {B:Nat} {L:List Pl} {a:Option Addr} {n c:Nat} {us:List (Value×Value)} {w w':World} (h:NxR B L a n c us w) (hb:Below w.heap.size w w'):NxR B L a n c us w':=⟨h.len,PlsG.below h.pls hb,h.new⟩
theorem NxR.mono {B B':Nat} {L:List Pl} {a:Option Addr} {n c:Nat} {us:List (Value×Value)} {w:World} (h:NxR B L a n c us w) (hb:B'<=B):NxR B' L a n c us w:=⟨h.len,h.pls,fun g hg=>Nat.le_trans hb (h.new g hg)⟩
theorem NxR.nil (B:Nat) (w:World):NxR B [] none 0 0 [] w:=⟨rfl,PlsG.nil w,fun g h=>by
 rcases h with h | ⟨u,hu,_⟩
 ·simp [Value.ownBlock] at h
 ·simp at hu⟩
def PlsQ (L:List Pl) (w:World) (en:Ending) (w':World):Prop :=
 ∃ a n c us,en=.returned (.slice a n c)/\Below w.heap.size w w'/\NxR w.heap.size L a n c us w'
theorem NxR.add {B:Nat} {L:List Pl} {a:Option Addr} {n c:Nat} {us:List (Value×Value)} {w W:World} {l:Pl} {mv pt:Value} (h:NxR B L a n c us w) (hB:Below w.heap.size w W) (hBB:B<=w.heap.size) (hl:PlayAt W l mv pt) (hn:∀ g,mv.ownBlock=some g\/pt.ownBlock=some g->w.heap.size<=g)
 {a':Option Addr} {c':Nat} {w5:World} (ho5:Own w5 33 2 (.slice a' (n+1) c') (n+1) (plC us++[mv,pt])) (hb5:But (fun b=>(Value.slice a n c).ownBlock=some b) W w5) (hg5:∀ g,(Value.slice a' (n+1) c').ownBlock=some g->(Value.slice a n c).ownBlock=some g\/g=W.heap.size) :
 NxR B (L++[l]) a' (n+1) c' (us++[(mv,pt)]) w5:=by
 have hul:us.length=n:=by rw [h.pls.length,h.len]
 have h1:=pls_add (v':=.slice a' (n+1) c') h.pls hB hl hn (by rw [hul];exact ho5) hb5
 refine ⟨by rw [List.length_append,h.len];rfl,h1,fun g hg=>?_⟩
 rcases hg with hg | ⟨u,hu,hg⟩
 ·rcases hg5 g hg with hg | hg
  ·exact h.new g (.inl hg)
  ·have:=hB.size;omega
 ·rcases List.mem_append.1 hu with hu | hu
  ·exact h.new g (.inr ⟨u,hu,hg⟩)
  ·rw [List.mem_singleton] at hu
   subst hu
   have:=hn g hg;omega
theorem NxR.own {B:Nat} {L:List Pl} {a:Option Addr} {n c:Nat} {us:List (Value×Value)} {w:World} (h:NxR B L a n c us w):Own w 33 2 (.slice a n c) n (plC us):=by
 have hul:us.length=n:=by rw [h.pls.length,h.len]
 have:=h.pls.own
 rwa [hul] at this
theorem movesT_lim {t:Ty} (h15:atomsT t<=15) {m:Bs} (h:m∈movesT t []):mvOk t m=true/\m.length<=8:=by
 have h1:=movesT_ok t t [] (atT_nil t) h15 m h
 refine ⟨h1,?_⟩
 cases m with
 | nil=>simp
 | cons c p =>
   unfold mvOk at h1
   rw [Bool.and_eq_true] at h1
   obtain ⟨a,ha⟩:=Option.isSome_iff_exists.1 h1.2
   have:=atT_len _ _ _ ha
   have:=args_len a
   rw [List.length_cons];omega
theorem fitsM_no {t:Ty} {v:Pl} {m:Bs} {i:Nat} (h:allAt t (v++[(m,(i:Int))]) (v++[(m,(i:Int))]).length=false):fitsM t v m i=false:=by unfold fitsM validPl;rw [h];simp
theorem fitsM_valid {t:Ty} {v:Pl} {m:Bs} {i:Nat} (h:allAt t (v++[(m,(i:Int))]) (v++[(m,(i:Int))]).length=true) (h60:v.length<60):validPl t (v++[(m,(i:Int))])=true:=by
 unfold validPl;rw [h,decide_eq_true (by rw [List.length_append,List.length_singleton];omega)];rfl
theorem fitsM_of {t:Ty} {v:Pl} {m:Bs} {i:Nat} (h:validPl t (v++[(m,(i:Int))])=true):fitsM t v m i=legalP (v++[(m,(i:Int))]):=by unfold fitsM;rw [h];rfl
set_option maxRecDepth 100000 in
theorem next_nil (t:Ty) (kv:Value) (c1 c2:Nat) (a1 a2:Option Addr) (w:World) :
 Calls Tryz.prog 56 #[kv,.agg #[.slice a1 0 c1,.slice a2 0 c2]] w (PlsQ (nextL t []) w):=by
 go_enter Tryz.func56,Tryz.ntmps56
 go_wp2_with fail
 go_ret
 obtain ⟨W1,hW1⟩:=zzN (w.alloc (.cells #[.slice a1 0 c1,.slice a2 0 c2] 33))
 have hz1:W1.heap.size=w.heap.size+1:=by rw [<- hW1,size_alloc]
 have hb1:Below w.heap.size w W1:=by rw [<- hW1];exact (Below.refl _ _).alloc (Nat.le_refl _) _
 rw [hW1]
 have hb2:=hb1.alloc hb1.size (.cells #[str [113]] 9)
 have hb3:=hb2.alloc hb2.size (.cells #[.int .i64 (-1)] 3)
 have hpl:PlayAt ((W1.alloc (.cells #[str [113]] 9)).alloc (.cells #[.int .i64 (-1)] 3)) [([113],-1)] (.slice (some ⟨w.heap.size+1,0,none⟩) 1 1) (.slice (some ⟨w.heap.size+1+1,0,none⟩) 1 1) :=
  ⟨(Own.litAt #[str [113]] 1 _ hz1.symm (by unfold maxLen;omega) rfl).alloc _,Own.litAt #[.int .i64 (-1)] 1 _ (by rw [size_alloc,hz1]) (by unfold maxLen;omega) rfl⟩
 have hn:=NxR.add (NxR.nil w.heap.size w) hb3 (Nat.le_refl _) hpl (fun g hg=>by
  rcases hg with hg | hg <;> simp [Value.ownBlock] at hg <;> omega) (a':=some ⟨w.heap.size+1+1+1,0,none⟩) (c':=1)
  (w5:=((W1.alloc (.cells #[str [113]] 9)).alloc (.cells #[.int .i64 (-1)] 3)).alloc (.cells #[.slice (some ⟨w.heap.size+1,0,none⟩) 1 1,.slice (some ⟨w.heap.size+1+1,0,none⟩) 1 1] 33))
  (Own.litAt #[.slice (some ⟨w.heap.size+1,0,none⟩) 1 1,.slice (some ⟨w.heap.size+1+1,0,none⟩) 1 1] 1 _ (by rw [size_alloc,size_alloc,hz1]) (by unfold maxLen;omega) rfl)
  (But.ofBelow ((Below.refl _ _).alloc (Nat.le_refl _) _)) (fun g hg=>.inr (by simp [Value.ownBlock] at hg;rw [size_alloc,size_alloc,hz1];omega))
 exact ⟨_,_,_,_,rfl,hb3.alloc hb3.size _,hn⟩
set_option maxRecDepth 100000 in
theorem next_any (F:Nat->Prop) (t:Ty) (v:Pl) (kv mv pt:Value) (w:World) (hg:Glob w) (hk:Rep F w (encK t) kv) (hm:MvRep F w v mv) (hp:PtRep F w v pt) (h15:atomsT t<=15) (hlen:v.length<60) (hl:∀ x∈v,Lim x.1.length) :
 Calls Tryz.prog 56 #[kv,.agg #[mv,pt]] w (PlsQ (nextL t v) w):=by
 obtain ⟨kb,ks,rfl,_⟩:=encK_open hk
 obtain ⟨ma,mc,rfl⟩:=hm.src.slice
 obtain ⟨pa,pc,rfl⟩:=hp.src.slice
 by_cases h0:v.length=0
 ·obtain rfl:=List.eq_nil_of_length_eq_zero h0
  exact next_nil t _ _ _ _ _ w
 have h0I:¬ (v.length:Int)=0:=by omega
 have h0B:((v.length:Int) == 0)=false:=by simpa using h0I
 obtain ⟨W,hW,hbW,hz,b0⟩:=box_1 w (.cells #[.slice ma v.length mc,.slice pa v.length pc] 33)
 have E:=Lib.hid (show nextL t v=nextN t v v.length by unfold nextL;rw [if_neg h0])
 have CM:=Lib.hid (fun (y:World) (hy:Below W.heap.size W y)=>moves_any F 15 t [] (.pointer (some ⟨kb,0,none⟩)) y h15 (Nat.le_refl _) (by simp) ((hg.below hbW).below hy) ((hk.below hbW fun _ h=>h).below hy fun _ h=>h))
 have CW:=Lib.hid (fun (y:World) (hy:Below W.heap.size W y) (m:Bs) (z:Int)=>with_any v (.slice ma v.length mc) (.slice pa v.length pc) m z y (MvRep.src ((hm.below hbW fun _ h=>h).below hy fun _ h=>h)) (PtRep.src ((hp.below hbW fun _ h=>h).below hy fun _ h=>h)) (by omega))
 have CH:=Lib.hid (fun (y:World) (hy:Below W.heap.size W y) (u:Pl) (mv pt:Value) (hu:PlayAt y u mv pt) (hul:u.length<=60) (hll:∀ x∈u,Lim x.1.length)=>hasPlay_v (fun _=>True) t (.pointer (some ⟨kb,0,none⟩)) mv pt u y (Rep.below hy (fun _ h=>h) ((Rep.keep fun b o _ ho=>⟨trivial,ho⟩).1 _ _ (hk.below hbW fun _ h=>h))) h15 (hu.mv fun _ _=>trivial).1 (hu.mv fun _ _=>trivial).2 hul hll)
 have CL:=Lib.hid (fun (y:World) (u:Pl) (mv pt:Value) (hu:PlayAt y u mv pt) (hv:validPl t u=true) (hll:∀ x∈u,Lim x.1.length)=>legal_any (fun _=>True) t u mv pt y ⟨(hu.mv fun _ _=>trivial).1,(hu.mv fun _ _=>trivial).2,hv,fun x hx=>(hll x hx)⟩)
 have HW:=Lib.hid (And.intro hW (And.intro hbW (And.intro b0 (And.intro hl h15))))
 have HM:=Lib.hid (fun j m (h:(movesT t [])[j]? = some m)=>movesT_lim h15 (List.mem_of_getElem? h))
 have H24:=Lib.hid (And.intro (moves_24 h15 []) (fun i=>nextN_len h15 v i))
 have KEY:=Lib.hid (fun (y:World) (hy:Below W.heap.size W y)=>(show y.cell? ⟨w.heap.size,0,none⟩=some (.slice ma v.length mc)/\y.cell? ⟨w.heap.size,1,none⟩=some (.slice pa v.length pc) from by
  obtain ⟨c0,c1,_,_⟩:=cells_2 b0
  exact ⟨(hy.cell (World.block_lt_of_cell? _ _ c0)).trans c0,(hy.cell (World.block_lt_of_cell? _ _ c1)).trans c1⟩))
 obtain ⟨c0,c1⟩:=KEY.out W (Below.refl _ _)
 clear hW hbW hz b0 hg hk hm hp h15 hl
 go_enter Tryz.func56,Tryz.ntmps56
 go_upto_region 1 with (fail)
 rw [HW.out.1]
 go_wp2_with fail
 go_loopw [5,21] (fun o x wr=>∃ (i n c:Nat) (a:Option Addr) (us:List (Value×Value)) (wz:World),wz=wr/\i<=v.length/\x=.int .i64 i/\o=.slice a n c/\Below W.heap.size W wz/\NxR W.heap.size (nextN t v i) a n c us wz) (fun _ x _=>v.length-(intOf x).toNat)
 case atStart=>exact ⟨0,0,0,none,[],_,rfl,Nat.zero_le _,rfl,rfl,Below.refl _ _,NxR.nil _ _⟩
 case round =>
  obtain ⟨i,n,c,a,us,wr,rfl,hi,rfl,rfl,hB,hN⟩:=hrel
  by_cases hlt:i<v.length
  ·have hltI:(i:Int)<(v.length:Int):=by omega
   have C1:=CM.out wr hB
   unfold FreshSl at C1
   obtain ⟨nm,hnm⟩:=zzN ((movesT t []).length)
   rw [hnm] at C1
   have hnm24:nm<=24:=by have:=H24.out.1;omega
   have HNM:=Lib.hid hnm
   have C1:=Lib.hid C1
   have HB:=Lib.hid (And.intro hB hN)
   clear hB hN hnm
   go_wp2_with fail
   (with_reducible refine C1.out.mono ?_)
   rintro en w1 ⟨a1,k1,rfl,ho1,hb1,hf1⟩
   have H1:=Lib.hid (And.intro (zzT HB.out.1 hb1) (And.intro ho1 (And.intro (HB.out.2.below hb1) hf1)))
   clear ho1 hb1 hf1 C1
   go_wp2_with fail
   go_loopw [5,27] (fun o x wr=>∃ (j n c:Nat) (a:Option Addr) (us:List (Value×Value)) (wz:World),wz=wr/\j<=nm/\x=.int .i64 j/\o=.slice a n c/\Below W.heap.size W wz/\Own wz 9 1 (.slice a1 nm k1) nm ((movesT t []).map str)/\NxR W.heap.size (nextN t v i++rowL t v i ((movesT t []).take j)) a n c us wz) (fun _ x _=>nm-(intOf x).toNat)
   case atStart=>exact ⟨0,n,c,a,us,_,rfl,Nat.zero_le _,rfl,rfl,H1.out.1,H1.out.2.1,by rw [List.take_zero,rowL_nil,List.append_nil];exact H1.out.2.2.1⟩
   case round =>
    obtain ⟨j,n2,c2,a2,us2,wq,rfl,hj,rfl,rfl,hB2,hO2,hN2⟩:=hrel
    by_cases hjt:j<nm
    ·have hjI:(j:Int)<(nm:Int):=by omega
     obtain ⟨m,hm⟩:∃ m,(movesT t [])[j]? = some m:=⟨_,List.getElem?_eq_getElem (by rw [HNM.out];exact hjt)⟩
     obtain ⟨g,k,eg,hcell⟩:=hO2.at (j:=j) (u:=str m) (by rw [List.getElem?_map,hm];rfl)
     simp only [Value.slice.injEq,true_and] at eg
     obtain ⟨rfl,rfl⟩:=eg
     obtain ⟨hok,hml⟩:=HM.out j m hm
     have hn2:n2<=2000:=by
      have h1:=hN2.len
      rw [List.length_append] at h1
      have h2:=H24.out.2 i
      have h3:=rowL_len t v i ((movesT t []).take j)
      rw [List.length_take] at h3
      have h4:=H24.out.1
      omega
     obtain ⟨d0,d1⟩:=KEY.out wq hB2
     have C2:=Lib.hid (CW.out wq hB2 m (i:Int))
     have HQ:=Lib.hid (And.intro hB2 (And.intro hO2 (And.intro hN2 (rowL_take (v:=v) (t:=t) (i:=i) hm))))
     have HLM:=Lib.hid (show ∀ x∈v++[(m,(i:Int))],Lim x.1.length from fun x hx=>by
      rcases List.mem_append.1 hx with hx | hx
      ·exact HW.out.2.2.2.1 x hx
      ·rw [List.mem_singleton] at hx;subst hx;show m.length<=_;omega)
     clear hB2 hO2 hN2 hok hml hm c0 c1
     go_wp2_with fail
     (with_reducible refine C2.out.mono ?_)
     rintro en w2 ⟨mvn,ptn,rfl,hpn,hb2,hfn⟩
     have hL1:(v++[(m,(i:Int))]).length=v.length+1:=by rw [List.length_append];rfl
     obtain ⟨LU,hLU⟩:=zzN (v.length+1)
     obtain ⟨a8,c8,e8⟩:=hpn.1.slice
     obtain ⟨a9,c9,e9⟩:=hpn.2.slice
     rw [hL1,hLU] at e8 e9
     subst e8;subst e9
     obtain ⟨W3,hW3,hbW3,hz3,x9⟩:=box_1 w2 (.cells #[.slice a8 LU c8,.slice a9 LU c9] 33)
     have hp3:=hpn.below hbW3
     have hb3:Below wq.heap.size wq W3:=zzT hb2 hbW3
     obtain ⟨q0,q1,_,_⟩:=cells_2 x9
     have C3:=CH.out W3 (zzT HQ.out.1 hb3) _ _ _ hp3 (by rw [hL1];omega) HLM.out
     have H3:=Lib.hid (And.intro hW3 (And.intro hb3 (And.intro hp3 (And.intro hfn x9))))
     clear hW3 hbW3 hz3 x9 hp3 hpn hb2 hfn hb3 hL1 hLU d0 d1 C2
     go_upto_region 11 with (fail)
     rw [H3.out.1]
     cases hA:allAt t (v++[(m,(i:Int))]) (v++[(m,(i:Int))]).length with
     | false =>
       rw [hA] at C3
       have C3:=Lib.hid C3
       have HF:=Lib.hid (fitsM_no hA)
       clear hA
       go_wp2_with fail
       (with_reducible refine C3.out.mono ?_)
       rintro en w4 ⟨rfl,hb4⟩
       have hb24:=zzT H3.out.2.1 hb4
       have H4:=Lib.hid hb24
       clear hb4 hb24 C3 q0 q1
       go_wp2_with fail
       go_roundw
       case rel =>
        refine ⟨j+1,n2,c2,a2,us2,_,rfl,by omega,by go_num,rfl,zzT HQ.out.1 H4.out,?_,?_⟩
        ·exact HQ.out.2.1.keep fun g o _ ho=>by rw [H4.out.block g (lt_of_heap ho)];exact ho
        ·rw [HQ.out.2.2.2,HF.out,if_neg (by simp),List.append_nil]
         exact HQ.out.2.2.1.below H4.out
       case measure=>simp [intOf];omega
     | true =>
       rw [hA] at C3
       have C3:=Lib.hid C3
       have hV:=fitsM_valid hA (by omega)
       have HV:=Lib.hid (And.intro hV (fitsM_of hV))
       clear hA hV
       go_wp2_with fail
       (with_reducible refine C3.out.mono ?_)
       rintro en w4 ⟨rfl,hb4⟩
       have r0:=(hb4.cell (World.block_lt_of_cell? _ _ q0)).trans q0
       have r1:=(hb4.cell (World.block_lt_of_cell? _ _ q1)).trans q1
       have hp4:=H3.out.2.2.1.below hb4
       have C4:=CL.out w4 _ _ _ hp4 HV.out.1 HLM.out
       have x9:=(hb4.block _ (lt_of_heap H3.out.2.2.2.2)).trans H3.out.2.2.2.2
       have H4:=Lib.hid (And.intro (zzT H3.out.2.1 hb4) (And.intro hp4 x9))
       clear hb4 hp4 x9 C3 q0 q1
       cases hA:legalP (v++[(m,(i:Int))]) with
       | false =>
         rw [hA] at C4
         have C4:=Lib.hid C4
         have HF:=Lib.hid (HV.out.2.trans hA)
         clear hA
         go_wp2_with fail
         (with_reducible refine C4.out.mono ?_)
         rintro en w5 ⟨rfl,hb5⟩
         have H5:=Lib.hid (zzT H4.out.1 hb5)
         clear hb5 C4 r0 r1
         go_wp2_with fail
         go_roundw
         case rel =>
          refine ⟨j+1,n2,c2,a2,us2,_,rfl,by omega,by go_num,rfl,zzT HQ.out.1 H5.out,?_,?_⟩
          ·exact HQ.out.2.1.keep fun g o _ ho=>by rw [H5.out.block g (lt_of_heap ho)];exact ho
          ·rw [HQ.out.2.2.2,HF.out,if_neg (by simp),List.append_nil]
           exact HQ.out.2.2.1.below H5.out
         case measure=>simp [intOf];omega
       | true =>
         rw [hA] at C4
         have C4:=Lib.hid C4
         have HF:=Lib.hid (HV.out.2.trans hA)
         clear hA
         go_wp2_with fail
         (with_reducible refine C4.out.mono ?_)
         rintro en w5 ⟨rfl,hb5⟩
         have s0:=(hb5.cell (World.block_lt_of_cell? _ _ r0)).trans r0
         have s1:=(hb5.cell (World.block_lt_of_cell? _ _ r1)).trans r1
         have H5:=Lib.hid (And.intro (zzT H4.out.1 hb5) (H4.out.2.1.below hb5))
         clear hb5 C4 r0 r1
         go_wp2_with (at_builtin;refine wpList_append_gen rfl _ _ 26 rfl 33 (.agg #[.slice none 0 0,.slice none 0 0]) 2 48 Tryz.underlying26 Tryz.infoPlay rfl (by decide) (.slice a2 n2 c2) n2 (plC us2) rfl ?c1 _ 1 [.slice a8 LU c8,.slice a9 LU c9] rfl ?c2 ?c3 ?c4 ?_)
         case c1=>exact (HQ.out.2.2.1.below H5.out.1).own.alloc _
         case c2=>exact SrcSl.litk #[.slice a8 LU c8,.slice a9 LU c9] rfl (by simp [Value.oneCell']) _ (by rfl)
         case c3=>unfold maxLen;omega
         case c4=>omega
         intro a7 c7 w7 ho7 hb7 hg7
         have hz5:=H5.out.1.size
         have hzq:=HQ.out.1.size
         have hN7:=HQ.out.2.2.1.add (H5.out.1.alloc hz5 _) hzq (H5.out.2.below ((Below.refl _ _).alloc (Nat.le_refl _) _)) H3.out.2.2.2.1 ho7 hb7 (fun g hg=>by rw [size_alloc];exact hg7 g hg)
         have hB7:Below W.heap.size W w7:=(HQ.out.1.trans ((H5.out.1.alloc hz5 _).mono hzq)).trans (hb7.toBelow (by rw [size_alloc];omega) fun g hg e=>by have:=HQ.out.2.2.1.new g (.inl e);omega)
         have hO7:Own w7 9 1 (.slice (some ⟨g,0,none⟩) nm k1) nm ((movesT t []).map str):=HQ.out.2.1.keep fun g o hg ho=>by
          have h1:=lt_of_heap ho
          rw [hb7.block g (by rw [size_alloc];omega) (fun e=>HQ.out.2.1.unlikeG HQ.out.2.2.1.own str_play hg e),Below.heap_alloc _ _ _ (by omega),H5.out.1.block g h1];exact ho
         have H7:=Lib.hid (And.intro hB7 (And.intro hO7 hN7))
         clear ho7 hb7 hg7 hN7 hB7 hO7 hz5 hzq s0 s1
         go_wp2_with fail
         go_roundw
         case rel =>
          refine ⟨j+1,n2+1,c7,a7,us2++[(.slice a8 LU c8,.slice a9 LU c9)],_,rfl,by omega,by go_num,rfl,H7.out.1,H7.out.2.1,?_⟩
          rw [HQ.out.2.2.2,HF.out,if_pos rfl,<- List.append_assoc]
          exact H7.out.2.2
         case measure=>simp [intOf];omega
    ·have hjI:¬ (j:Int)<(nm:Int):=by omega
     have HE:=Lib.hid (And.intro hB2 (show NxR W.heap.size (nextN t v (i+1)) a2 n2 c2 us2 wq by
      rw [nextN_succ]
      rw [List.take_of_length_le (by rw [HNM.out];omega)] at hN2
      exact hN2))
     clear hB2 hO2 hN2
     go_wp2_with fail
     go_roundw
     case rel=>exact ⟨i+1,n2,c2,a2,us2,_,rfl,by omega,by go_num,rfl,HE.out.1,HE.out.2⟩
     case measure=>simp [intOf];omega
  ·have hltI:¬ (i:Int)<(v.length:Int):=by omega
   obtain rfl:i=v.length:=by omega
   have HE:=Lib.hid (And.intro hB hN)
   clear hB hN
   go_wp2_with fail
   go_ret
   rw [E.out]
   exact ⟨a,n,c,us,rfl,zzT HW.out.2.1 HE.out.1,HE.out.2.mono HW.out.2.1.size⟩
structure RdR (B:Nat) (L:List Pl) (a:Option Addr) (n c:Nat) (us:List (Value×Value)) (wz:World):Prop where
 len:L.length=n
 ul:us.length=n
 own:Own wz 33 2 (.slice a n c) n (plC us)
 each:∀ (i:Nat) (u:Value×Value) (l:Pl),us[i]? = some u->L[i]? = some l->PlayAt wz l u.1 u.2
 new:∀ g,PlB (.slice a n c) us g->B<=g
theorem NxR.rd {B:Nat} {L:List Pl} {a:Option Addr} {n c:Nat} {us:List (Value×Value)} {w:World} (h:NxR B L a n c us w):RdR B L a n c us w :=
 ⟨h.len,by rw [h.pls.length,h.len],h.own,fun i u l hu hl=>h.pls.play hu hl,h.new⟩
theorem RdR.below {B:Nat} {L:List Pl} {a:Option Addr} {n c:Nat} {us:List (Value×Value)} {w w':World} (h:RdR B L a n c us w) (hb:Below w.heap.size w w'):RdR B L a n c us w' :=
 ⟨h.len,h.ul,h.own.keep fun g o _ ho=>by rw [hb.block g (lt_of_heap ho)];exact ho,fun i u l hu hl=>(h.each i u l hu hl).below hb,h.new⟩
theorem RdR.mono {B B':Nat} {L:List Pl} {a:Option Addr} {n c:Nat} {us:List (Value×Value)} {w:World} (h:RdR B L a n c us w) (hb:B'<=B):RdR B' L a n c us w:=⟨h.len,h.ul,h.own,h.each,fun g hg=>Nat.le_trans hb (h.new g hg)⟩
theorem PlayAt.offRow {w w':World} {l:Pl} {mv pt v:Value} {n:Nat} {xs:List Value} (h:PlayAt w l mv pt) (ho:Own w 33 2 v n xs) (hb:But (fun b=>v.ownBlock=some b) w w'):PlayAt w' l mv pt :=
 h.but hb fun g hg e=>hg.elim (fun hg=>h.1.unlikeG ho str_play hg e) fun hg=>h.2.unlikeG ho int_play hg e
theorem RdR.off {B:Nat} {L:List Pl} {a:Option Addr} {n c:Nat} {us:List (Value×Value)} {w w':World} (h:RdR B L a n c us w) {v:Value} {m:Nat} {xs:List Value} (ho:Own w 33 2 v m xs) (hb:But (fun b=>v.ownBlock=some b) w w') (hn:∀ g,(Value.slice a n c).ownBlock=some g->v.ownBlock≠some g):RdR B L a n c us w' :=
 ⟨h.len,h.ul,h.own.keep fun g o hg hh=>by rw [hb.block g (lt_of_heap hh) (hn g hg)];exact hh,fun i u l hu hl=>(h.each i u l hu hl).offRow ho hb,h.new⟩
theorem RdR.cells {B:Nat} {L:List Pl} {a:Option Addr} {n c:Nat} {us:List (Value×Value)} {w:World} (h:RdR B L a n c us w) {i:Nat} {u:Value×Value} (hu:us[i]? = some u):∃ g,a=some ⟨g,0,none⟩/\w.cell? ⟨g,i*2,none⟩=some u.1/\w.cell? ⟨g,i*2+1,none⟩=some u.2:=by
 obtain ⟨h1,h2⟩:=plC_at us i u hu
 obtain ⟨g,c',e,k1⟩:=h.own.at h1
 obtain ⟨g',c'',e',k2⟩:=h.own.at h2
 simp only [Value.slice.injEq,true_and] at e e'
 obtain ⟨rfl,_⟩:=e
 obtain ⟨e',_⟩:=e'
 simp only [Option.some.injEq,Addr.mk.injEq,and_true] at e'
 obtain rfl:=e'
 exact ⟨g,rfl,k1,k2⟩
theorem RdR.at {B:Nat} {L:List Pl} {a:Option Addr} {n c:Nat} {us:List (Value×Value)} {w:World} (h:RdR B L a n c us w) {i:Nat} (hi:i<n):∃ u l,us[i]? = some u/\L[i]? = some l/\PlayAt w l u.1 u.2:=by
 have h1:us[i]? = some (us[i]'(by rw [h.ul];exact hi)):=List.getElem?_eq_getElem _
 have h2:L[i]? = some (L[i]'(by rw [h.len];exact hi)):=List.getElem?_eq_getElem _
 exact ⟨_,_,h1,h2,h.each i _ _ h1 h2⟩
theorem RdR.one {B:Nat} {L:List Pl} {a:Option Addr} {n c:Nat} {us:List (Value×Value)} {w:World} (h:RdR B L a n c us w):∀ x∈plC us,x.oneCell'=true:=by
 intro x hx
 unfold plC at hx
 rw [List.mem_flatMap] at hx
 obtain ⟨u,hu,hx⟩:=hx
 obtain ⟨i,hi⟩:=List.mem_iff_getElem?.1 hu
 have hl:=(List.getElem?_eq_some_iff.1 hi).1
 have hL:L[i]? = some (L[i]'(by rw [h.len,<- h.ul];exact hl)):=List.getElem?_eq_getElem _
 have hp:=h.each i u _ hi hL
 obtain ⟨a1,c1,e1⟩:=hp.1.slice
 obtain ⟨a2,c2,e2⟩:=hp.2.slice
 simp only [List.mem_cons,List.not_mem_nil,or_false] at hx
 rcases hx with rfl | rfl
 ·rw [e1];rfl
 ·rw [e2];rfl
theorem RdR.cat {B B2:Nat} {L L2:List Pl} {a a2:Option Addr} {n c n2 c2:Nat} {us us2:List (Value×Value)} {w:World} (h:RdR B L a n c us w) (h2:RdR B2 L2 a2 n2 c2 us2 w) (hB:B<=B2) (hBw:B<=w.heap.size)
 {a':Option Addr} {c':Nat} {w5:World} (ho5:Own w5 33 2 (.slice a' (n+n2) c') (n+n2) (plC us++plC us2)) (hb5:But (fun b=>(Value.slice a n c).ownBlock=some b) w w5) (hg5:∀ g,(Value.slice a' (n+n2) c').ownBlock=some g->(Value.slice a n c).ownBlock=some g\/g=w.heap.size) :
 RdR B (L++L2) a' (n+n2) c' (us++us2) w5:=by
 refine ⟨by rw [List.length_append,h.len,h2.len],by rw [List.length_append,h.ul,h2.ul],by rw [plC_append];exact ho5,fun i u l hu hl=>?_,fun g hg=>?_⟩
 ·rcases Nat.lt_or_ge i n with hi | hi
  ·rw [List.getElem?_append_left (by rw [h.ul];exact hi)] at hu
   rw [List.getElem?_append_left (by rw [h.len];exact hi)] at hl
   exact (h.each i u l hu hl).offRow h.own hb5
  ·rw [List.getElem?_append_right (by rw [h.ul];exact hi),h.ul] at hu
   rw [List.getElem?_append_right (by rw [h.len];exact hi),h.len] at hl
   exact (h2.each _ u l hu hl).offRow h.own hb5
 ·rcases hg with hg | ⟨u,hu,hg⟩
  ·rcases hg5 g hg with hg | hg
   ·exact h.new g (.inl hg)
   ·omega
  ·rcases List.mem_append.1 hu with hu | hu
   ·exact h.new g (.inr ⟨u,hu,hg⟩)
   ·have:=h2.new g (.inr ⟨u,hu,hg⟩);omega
theorem RdR.first (B:Nat) (w:World) (hB:B<=w.heap.size):RdR B [[]] (some ⟨w.heap.size,0,none⟩) 1 1 [(.slice none 0 0,.slice none 0 0)] (w.alloc (.cells #[.slice none 0 0,.slice none 0 0] 33)):=by
 refine ⟨rfl,rfl,Own.lit #[.slice none 0 0,.slice none 0 0] 1 (by unfold maxLen;omega) rfl,fun i u l hu hl=>?_,fun g hg=>?_⟩
 ·cases i with
  | zero =>
    obtain rfl:=Option.some.inj hu
    obtain rfl:=Option.some.inj hl
    exact playAt_nil _
  | succ i=>simp at hu
 ·rcases hg with hg | ⟨u,hu,hg⟩
  ·simp [Value.ownBlock] at hg;omega
  ·rw [List.mem_singleton] at hu
   subst hu
   rcases hg with hg | hg <;> simp [Value.ownBlock] at hg
structure ClR (B:Nat) (L:List Pl) (a:Option Addr) (n c i:Nat) (us vs:List (Value×Value)) (wz:World):Prop where
 len:L.length=n
 ul:us.length=n
 vl:vs.length=i
 own:Own wz 33 2 (.slice a n c) n (plC (vs++us.drop i))
 each:∀ (k:Nat) (u:Value×Value) (l:Pl),us[k]? = some u->L[k]? = some l->PlayAt wz l u.1 u.2
 done:∀ (k:Nat) (u:Value×Value) (l:Pl),vs[k]? = some u->L[k]? = some l->PlayAt wz l u.1 u.2
 apart:∀ (i j:Nat) (u u':Value×Value),i≠j->vs[i]? = some u->vs[j]? = some u'->∀ g,(u.1.ownBlock=some g->u'.1.ownBlock≠some g)/\(u.2.ownBlock=some g->u'.2.ownBlock≠some g)
 row:∀ g,(Value.slice a n c).ownBlock=some g->B<=g
 new:∀ u∈vs,∀ g,u.1.ownBlock=some g\/u.2.ownBlock=some g->B<=g
theorem RdR.cl {B:Nat} {L:List Pl} {a:Option Addr} {n c:Nat} {us:List (Value×Value)} {w:World} (h:RdR B L a n c us w):ClR B L a n c 0 us [] w :=
 ⟨h.len,h.ul,rfl,h.own,h.each,fun k u l hu _=>by simp at hu,fun i j u u' _ hu=>by simp at hu,fun g hg=>h.new g (.inl hg),fun u hu=>by simp at hu⟩
theorem ClR.nx {B:Nat} {L:List Pl} {a:Option Addr} {n c:Nat} {us vs:List (Value×Value)} {w:World} (h:ClR B L a n c n us vs w):NxR B L a n c vs w:=by
 have ho:=h.own
 rw [List.drop_of_length_le (by rw [h.ul];exact Nat.le_refl _),List.append_nil] at ho
 refine ⟨h.len,⟨by rw [h.vl];exact ho,by rw [h.vl,List.length_map,h.len],fun i u x hu hx=>?_,h.apart⟩,fun g hg=>?_⟩
 ·rw [List.getElem?_map,Option.map_eq_some_iff] at hx
  obtain ⟨l,hl,rfl⟩:=hx
  have hp:=h.done i u l hu hl
  have lM:(plX l).1.length=l.length:=by simp [plX,logM]
  have lP:(plX l).2.length=l.length:=by simp [plX,logP]
  rw [lM,lP];exact hp
 ·rcases hg with hg | ⟨u,hu,hg⟩
  ·exact h.row g hg
  ·exact h.new u hu g hg
theorem ClR.at {B:Nat} {L:List Pl} {a:Option Addr} {n c i:Nat} {us vs:List (Value×Value)} {w:World} (h:ClR B L a n c i us vs w) (hi:i<n):∃ u l,us[i]? = some u/\L[i]? = some l/\PlayAt w l u.1 u.2:=by
 have h1:us[i]? = some (us[i]'(by rw [h.ul];exact hi)):=List.getElem?_eq_getElem _
 have h2:L[i]? = some (L[i]'(by rw [h.len];exact hi)):=List.getElem?_eq_getElem _
 exact ⟨_,_,h1,h2,h.each i _ _ h1 h2⟩
theorem ClR.cells {B:Nat} {L:List Pl} {a:Option Addr} {n c i:Nat} {us vs:List (Value×Value)} {w:World} (h:ClR B L a n c i us vs w) {u:Value×Value} (hu:us[i]? = some u):∃ g,a=some ⟨g,0,none⟩/\w.cell? ⟨g,i*2,none⟩=some u.1/\w.cell? ⟨g,i*2+1,none⟩=some u.2:=by
 have hu':(vs++us.drop i)[i]? = some u:=by
  have hv:=h.vl
  rw [List.getElem?_append_right (by omega),List.getElem?_drop,hv,Nat.sub_self,Nat.add_zero];exact hu
 obtain ⟨h1,h2⟩:=plC_at _ i u hu'
 obtain ⟨g,c',e,k1⟩:=h.own.at h1
 obtain ⟨g',c'',e',k2⟩:=h.own.at h2
 simp only [Value.slice.injEq,true_and] at e e'
 obtain ⟨rfl,_⟩:=e
 obtain ⟨e',_⟩:=e'
 simp only [Option.some.injEq,Addr.mk.injEq,and_true] at e'
 obtain rfl:=e'
 exact ⟨g,rfl,k1,k2⟩
theorem Own.put2 {w:World} {e:TypeId} {g n c:Nat} {xs:List Value} (h:Own w e 2 (.slice (some ⟨g,0,none⟩) n c) n xs) (j:Nat) (u:Value):Own (w.setCell ⟨g,j,none⟩ u) e 2 (.slice (some ⟨g,0,none⟩) n c) n (xs.set j u):=by
 obtain ⟨hl,⟨h0,_⟩ | ⟨g',cap,cur,hv,h0,hg,hnc,hcm,hcs,htk⟩⟩:=h
 ·cases h0
 ·simp only [Value.slice.injEq,Option.some.injEq,Addr.mk.injEq] at hv
  obtain ⟨⟨rfl,_,_⟩,_,rfl⟩:=hv
  refine ⟨by simpa using hl,.inr ⟨g,c,cur.setIfInBounds j u,rfl,h0,setCell_at hg,hnc,hcm,by simpa using hcs,?_⟩⟩
  rw [Array.toList_setIfInBounds,<- htk,List.take_set]
theorem Own.open2 {w:World} {e:TypeId} {g n c:Nat} {xs:List Value} (h:Own w e 2 (.slice (some ⟨g,0,none⟩) n c) n xs) {j:Nat} (hj:j<n*2):w.frozen? ⟨g,j,none⟩=false/\∃ u,w.cell? ⟨g,j,none⟩=some u:=by
 obtain ⟨hl,⟨h0,_⟩ | ⟨g',cap,cur,hv,_,hg,hnc,_,hcs,htk⟩⟩:=h
 ·cases h0
 ·simp only [Value.slice.injEq,Option.some.injEq,Addr.mk.injEq] at hv
  obtain ⟨⟨rfl,_,_⟩,_,rfl⟩:=hv
  have:j<cur.size:=by omega
  exact ⟨by simp [World.frozen?,hg],cur[j],by simp [World.cell?,hg,this]⟩
theorem plC_put (vs us:List (Value×Value)) (u:Value×Value) (h:vs.length<us.length):((plC (vs++us.drop vs.length)).set (vs.length*2) u.1).set (vs.length*2+1) u.2=plC ((vs++[u])++us.drop (vs.length+1)):=by
 have hl:=plC_length vs
 have hd:us.drop vs.length=us[vs.length]::us.drop (vs.length+1):=(List.drop_eq_getElem_cons h)
 rw [hd,plC_append,plC_cons,List.append_assoc,plC_append,plC_append,show plC [u]=[u.1,u.2] from rfl]
 rw [<- hl,List.set_append_right _ _ (Nat.le_refl _),Nat.sub_self,List.set_cons_zero,List.set_append_right _ _ (by omega),Nat.add_sub_cancel_left]
 rfl
theorem ClR.put {B:Nat} {L:List Pl} {g n c i:Nat} {us vs:List (Value×Value)} {w W:World} (h:ClR B L (some ⟨g,0,none⟩) n c i us vs w) (hi:i<n) (hB:Below w.heap.size w W) (hBB:B<=w.heap.size) {l:Pl} (hL:L[i]? = some l) {mv pt:Value} (hp:PlayAt W l mv pt) (hn:∀ g,mv.ownBlock=some g\/pt.ownBlock=some g->w.heap.size<=g) :
 ClR B L (some ⟨g,0,none⟩) n c (i+1) us (vs++[(mv,pt)]) ((W.setCell ⟨g,i*2,none⟩ mv).setCell ⟨g,i*2+1,none⟩ pt):=by
 have hoW:Own W 33 2 (.slice (some ⟨g,0,none⟩) n c) n (plC (vs++us.drop i)):=h.own.keep fun g o _ ho=>by rw [hB.block g (lt_of_heap ho)];exact ho
 have hbut:But (fun b=>(Value.slice (some ⟨g,0,none⟩) n c).ownBlock=some b) W ((W.setCell ⟨g,i*2,none⟩ mv).setCell ⟨g,i*2+1,none⟩ pt):=((But.refl (fun b=>(Value.slice (some ⟨g,0,none⟩) n c).ownBlock=some b) W).setCell (p:=⟨g,i*2,none⟩) (.inl rfl) _).setCell (p:=⟨g,i*2+1,none⟩) (.inl rfl) _
 have hput:=(hoW.put2 (i*2) mv).put2 (i*2+1) pt
 have hvl:=h.vl
 refine ⟨h.len,h.ul,by rw [List.length_append,hvl];rfl,?_,fun k u l hu hl=>?_,fun k u l' hu hl=>?_,fun k j u u' hkj hu hu' g'=>?_,h.row,fun u hu g' hg=>?_⟩
 ·subst hvl
  rw [plC_put vs us (mv,pt) (by rw [h.ul];exact hi)] at hput
  exact hput
 ·exact ((h.each k u l hu hl).below hB).offRow hoW hbut
 ·rcases Nat.lt_or_ge k vs.length with hk | hk
  ·rw [List.getElem?_append_left hk] at hu
   exact ((h.done k u l' hu hl).below hB).offRow hoW hbut
  ·rw [List.getElem?_append_right hk] at hu
   have hk0:k-vs.length=0:=by have:=(List.getElem?_eq_some_iff.1 hu).1;simp at this;omega
   rw [hk0] at hu
   obtain rfl:=Option.some.inj hu
   obtain rfl:k=i:=by omega
   rw [hL] at hl
   obtain rfl:=Option.some.inj hl
   exact hp.offRow hoW hbut
 ·have old:∀ q x,q<vs.length->(vs++[(mv,pt)])[q]? = some x->∀ g',(x.1.ownBlock=some g'\/x.2.ownBlock=some g')->g'<w.heap.size:=fun q x hq hx g' hg'=>by
   rw [List.getElem?_append_left hq] at hx
   have hqn:q<L.length:=by rw [h.len];omega
   have hp:=h.done q x _ hx (List.getElem?_eq_getElem hqn)
   exact hg'.elim (fun e=>hp.1.lt e) fun e=>hp.2.lt e
  have new:∀ q x,vs.length<=q->(vs++[(mv,pt)])[q]? = some x->q=vs.length/\x=(mv,pt):=fun q x hq hx=>by
   have h2:=(List.getElem?_eq_some_iff.1 hx).1
   rw [List.length_append,List.length_singleton] at h2
   obtain rfl:q=vs.length:=by omega
   rw [List.getElem?_append_right (Nat.le_refl _),Nat.sub_self] at hx
   exact ⟨rfl,(Option.some.inj hx).symm⟩
  rcases Nat.lt_or_ge k vs.length with hk | hk <;> rcases Nat.lt_or_ge j vs.length with hj | hj
  ·rw [List.getElem?_append_left hk] at hu
   rw [List.getElem?_append_left hj] at hu'
   exact h.apart k j u u' hkj hu hu' g'
  ·obtain ⟨_,rfl⟩:=new j u' hj hu'
   refine ⟨fun e e'=>?_,fun e e'=>?_⟩
   ·have h1:=old k u hk hu g' (.inl e);have h2:=hn g' (.inl e');omega
   ·have h1:=old k u hk hu g' (.inr e);have h2:=hn g' (.inr e');omega
  ·obtain ⟨_,rfl⟩:=new k u hk hu
   refine ⟨fun e e'=>?_,fun e e'=>?_⟩
   ·have h1:=old j u' hj hu' g' (.inl e');have h2:=hn g' (.inl e);omega
   ·have h1:=old j u' hj hu' g' (.inr e');have h2:=hn g' (.inr e);omega
  ·obtain ⟨rfl,_⟩:=new k u hk hu
   obtain ⟨rfl,_⟩:=new j u' hj hu'
   exact absurd rfl hkj
 ·rcases List.mem_append.1 hu with hu | hu
  ·exact h.new u hu g' hg
  ·rw [List.mem_singleton] at hu
   subst hu
   have:=hn g' hg;omega
def prevAt (t:Ty) (b:Bd):Nat->List Pl
 | 0=>[[]]
 | r+1=>lastAt t b r
def fAt (t:Ty) (b:Bd) (r:Nat) (v:Pl):List Pl:=if r=0 then nextL t v else stepL t b v
theorem last_flat (t:Ty) (b:Bd):∀ r,lastAt t b r=(prevAt t b r).flatMap (fAt t b r)
 | 0=>by simp [lastAt,prevAt,fAt]
 | r+1=>by
   rw [lastAt,prevAt]
   congr 1
theorem prev_in {t:Ty} {b:Bd} (h15:atomsT t<=15) (hf:fitB t.args b) (hw:wfB b) (r:Nat) (hr:r<=20) (u:Pl) (hu:u∈prevAt t b r):InPl t b u/\(r=0/\u=[]\/0<r/\u.length+1=2*r):=by
 cases r with
 | zero =>
   rw [prevAt,List.mem_singleton] at hu
   subst hu
   exact ⟨in_nil t b,.inl ⟨rfl,rfl⟩⟩
 | succ r =>
   obtain ⟨h1,h2⟩:=last_in h15 hf hw r (by omega) u hu
   exact ⟨h1,.inr ⟨by omega,by omega⟩⟩
theorem flat_next {t:Ty} {b:Bd} {r j:Nat} {v:Pl} (h:(prevAt t b r)[j]? = some v):((prevAt t b r).take (j+1)).flatMap (fAt t b r)=((prevAt t b r).take j).flatMap (fAt t b r)++fAt t b r v:=flat_take h _
def PlaysQ (o:Option (List Pl)) (w:World) (en:Ending) (w':World):Prop :=
 ∃ a n c us,en=.returned (.tuple #[.slice a n c,.bool o.isSome])/\Below w.heap.size w w'/\NxR w.heap.size (o.getD []) a n c us w'
theorem PlaysQ.none {w w':World} (hb:Below w.heap.size w w'):PlaysQ none w (.returned (.tuple #[.slice .none 0 0,.bool false])) w':=⟨_,_,_,[],rfl,hb,NxR.nil _ _⟩
theorem plays_over {s text:Bs} {b:Bd} {n:Int} (h:specStrat s text=some b) (h0:¬ n<0) (h8:¬ 8<n) {r k:Nat} (hr:r+1<=(n.toNat+1) / 2) (hk:300<(outAt (specType s).1 b r).length+(((prevAt (specType s).1 b r).take k).flatMap (fAt (specType s).1 b r)).length):playsOf s text n=none:=by
 unfold playsOf
 rw [h]
 simp only
 rw [if_neg (by omega)]
 have h1:=flat_take_le (prevAt (specType s).1 b r) (fAt (specType s).1 b r) k
 have h2:=outAt_mono (specType s).1 b hr
 rw [outAt,List.length_append,last_flat] at h2
 rw [if_pos (by omega)]
theorem plays_done {s text:Bs} {b:Bd} {n:Int} (h:specStrat s text=some b) (h0:¬ n<0) (h8:¬ 8<n) {r:Nat} (hr:r=(n.toNat+1) / 2) (hk:(outAt (specType s).1 b r).length<=300):playsOf s text n=some (outAt (specType s).1 b r):=by
 subst hr
 unfold playsOf
 rw [h]
 simp only
 rw [if_neg (by omega),if_neg (by omega)]
theorem plays_no {s text:Bs} (h:specStrat s text=none) (n:Int):playsOf s text n=none:=by unfold playsOf;rw [h]
theorem plays_off {s text:Bs} {b:Bd} {n:Int} (h:specStrat s text=some b) (h0:n<0\/8<n):playsOf s text n=none:=by
 unfold playsOf
 rw [h]
 simp only
 rw [if_pos h0]
theorem legPl_lim {t:Ty} (h15:atomsT t<=15) {v:Pl} (h:validPl t v=true):∀ x∈v,Lim x.1.length:=by
 intro x hx
 obtain ⟨i,hi⟩:=List.mem_iff_getElem?.1 hx
 have hl:=(List.getElem?_eq_some_iff.1 hi).1
 obtain ⟨c,p,z,hv,ho⟩:=valid_at h hl
 rw [hv] at hi
 obtain rfl:=Option.some.inj hi
 obtain ⟨a,ha⟩:=ho.hp
 have:=atT_len _ _ _ ha
 show (c::p).length<=_
 rw [List.length_cons];omega
set_option maxRecDepth 100000 in
theorem implStrategyPlays_any (s text:Bs) (n:Int) (w:World) (hg:Glob w) (hs:Lim s.length) (ht:Lim text.length) :
 Calls Tryz.prog 16 #[str s,str text,.int .i64 n] w (PlaysQ (playsOf s text n) w):=by
 have C:=Lib.hid (strategy_any s text w hg hs ht)
 have HGW:=Lib.hid hg
 clear hs ht hg
 go_enter Tryz.func16,Tryz.ntmps16
 go_wp2_with fail
 (with_reducible refine C.out.mono ?_)
 rintro en w1 ⟨kv,bv,rfl,hb1,hn1,hy1⟩
 clear C
 cases hq:rdTS s text with
 | none =>
   obtain rfl:=hn1 hq
   rw [rdTS_eq,Option.map_eq_none_iff] at hq
   have E:=Lib.hid (plays_no hq n)
   have HB:=Lib.hid hb1
   clear hn1 hy1 hq hb1
   go_wp2_with fail
   go_ret2
   rw [E.out]
   exact PlaysQ.none HB.out
 | some tb =>
   obtain ⟨t,b⟩:=tb
   obtain ⟨rk,rb⟩:=hy1 t b hq
   rw [rdTS_eq,Option.map_eq_some_iff] at hq
   obtain ⟨b',hq,e⟩:=hq
   simp only [Prod.mk.injEq] at e
   obtain ⟨et,eb⟩:=e
   rw [eb] at hq
   clear eb
   have hgd:=(specStrat_good hq).1
   rw [et] at hgd
   obtain ⟨ka,ks,rfl,_⟩:=encK_open rk
   obtain ⟨ba,rfl⟩:=encB_ptr rb
   by_cases h0:n<0
   ·have E:=Lib.hid (plays_off hq (.inl h0))
    have HB:=Lib.hid hb1
    clear hn1 hy1 hq hb1 et rk rb hgd
    go_wp2_with fail
    go_ret2
    rw [E.out]
    exact PlaysQ.none HB.out
   by_cases h8:8<n
   ·have E:=Lib.hid (plays_off hq (.inr h8))
    have HB:=Lib.hid hb1
    clear hn1 hy1 hq hb1 et rk rb hgd
    go_wp2_with fail
    go_ret2
    rw [E.out]
    exact PlaysQ.none HB.out
   obtain ⟨N,rfl⟩:∃ N:Nat,n=(N:Int):=⟨n.toNat,by omega⟩
   have hN8:N<=8:=by omega
   have rk':Rep (fun _=>True) w1 (encK t) (.pointer (some ⟨ka,0,none⟩)):=(Rep.keep fun i o _ ho=>⟨trivial,ho⟩).1 _ _ rk
   have rb':Rep (fun _=>True) w1 (encB b) (.pointer (some ⟨ba,0,none⟩)):=(Rep.keep fun i o _ ho=>⟨trivial,ho⟩).1 _ _ rb
   have HG:=Lib.hid (And.intro (HGW.out.below hb1) (And.intro rk' (And.intro hb1 hgd)))
   have HRB:=Lib.hid rb'
   have HFAIL:Hid (∀ r k,r+1<=(N+1) / 2->300<(outAt t b r).length+(((prevAt t b r).take k).flatMap (fAt t b r)).length->playsOf s text (N:Int)=none):=Lib.hid (fun r k h1 h2=>by
    have h3:=plays_over hq h0 h8 (r:=r) (k:=k) (by rw [Int.toNat_natCast];exact h1)
    rw [et] at h3
    exact h3 h2)
   have HDONE:Hid (∀ r,r=(N+1) / 2->(outAt t b r).length<=300->playsOf s text (N:Int)=some (outAt t b r)):=Lib.hid (fun r h1 h2=>by
    have h3:=plays_done hq h0 h8 (r:=r) (by rw [Int.toNat_natCast];exact h1)
    rw [et] at h3
    exact h3 h2)
   have h0N:¬ (N:Int)<0:=h0
   have h8N:¬ (8:Int)<(N:Int):=h8
   have HLEN:=Lib.hid (fun r (hr:r<=4) u (hu:u∈outAt t b r)=>show u.length<=8 from by have:=(out_in hgd.atoms hgd.fit hgd.wf r (by omega) u hu).2.1;omega)
   have HIN:=Lib.hid (fun r (hr:r<=20) u (hu:u∈prevAt t b r)=>prev_in hgd.atoms hgd.fit hgd.wf r hr u hu)
   clear hn1 hy1 hq hb1 et rk rb rk' rb' hgd h0 h8
   go_wp2_with fail
   go_loopw [10,11,12] (fun o l x wr=>∃ (r n1 c1:Nat) (a1:Option Addr) (us1:List (Value×Value)) (n2 c2:Nat) (a2:Option Addr) (us2:List (Value×Value)) (wz:World),wz=wr/\r<=(N+1) / 2/\x=.int .i64 ((2*r+1:Nat):Int)/\o=.slice a1 n1 c1/\l=.slice a2 n2 c2/\n1<=300/\n2<=300/\Below w1.heap.size w1 wz/\RdR w1.heap.size (outAt t b r) a1 n1 c1 us1 wz/\RdR w1.heap.size (prevAt t b r) a2 n2 c2 us2 wz) (fun _ _ x _=>40-(intOf x).toNat)
   case atStart =>
    have f1:=RdR.first w1.heap.size w1 (Nat.le_refl _)
    have f2:=RdR.first w1.heap.size (w1.alloc (.cells #[.slice none 0 0,.slice none 0 0] 33)) (by rw [size_alloc];omega)
    rw [size_alloc] at f2
    have hb:=(Below.refl w1.heap.size w1).alloc (Nat.le_refl _) (.cells #[.slice none 0 0,.slice none 0 0] 33)
    exact ⟨0,1,1,_,_,1,1,_,_,_,rfl,Nat.zero_le _,rfl,rfl,rfl,by omega,by omega,hb.alloc hb.size _,f1.below ((Below.refl _ _).alloc (Nat.le_refl _) _),f2⟩
   case round =>
    obtain ⟨r,n1,c1,a1,us1,n2,c2,a2,us2,wr,rfl,hr,rfl,rfl,rfl,hn1,hn2,hB,hO,hP⟩:=hrel
    have HO:=Lib.hid (And.intro hr (And.intro hn1 (And.intro hB (And.intro hO hP))))
    have hr4:r<=4:=by omega
    clear hB hO hP
    by_cases hlt:2*r+1<=N
    ·have hltI:((2*r+1:Nat):Int)<=(N:Int):=by omega
     have hltI2:2*(r:Int)+1<=(N:Int):=by omega
     obtain ⟨X,hX⟩:=zzN (2*r+1)
     rw [hX] at hltI ⊢
     have HX:=Lib.hid hX
     have hr1:=Lib.hid (show r+1<=(N+1) / 2 by omega)
     clear hX hr hltI2
     go_wp2_with fail
     go_loopw [13,47] (fun o x wr'=>∃ (j m c3:Nat) (a3:Option Addr) (us3:List (Value×Value)) (wz:World),wz=wr'/\j<=n2/\x=.int .i64 j/\o=.slice a3 m c3/\n1+m<=300/\Below wr.heap.size wr wz/\RdR wr.heap.size (((prevAt t b r).take j).flatMap (fAt t b r)) a3 m c3 us3 wz) (fun _ x _=>n2-(intOf x).toNat)
     case atStart=>exact ⟨0,0,0,none,[],_,rfl,Nat.zero_le _,rfl,rfl,by omega,Below.refl _ _,by rw [List.take_zero];exact (NxR.nil _ _).rd⟩
     case round =>
      obtain ⟨j,m,c3,a3,us3,wq,rfl,hj,rfl,rfl,hnm,hBq,hRq⟩:=hrel
      have HQ:=Lib.hid (And.intro hBq hRq)
      have hPq:=HO.out.2.2.2.2.below hBq
      clear hRq hBq
      by_cases hjt:j<n2
      ·have hjI:(j:Int)<(n2:Int):=by omega
       obtain ⟨u,l,hu,hl,hpl⟩:=hPq.at hjt
       obtain ⟨g,rfl,k1,k2⟩:=hPq.cells hu
       obtain ⟨lv,lc,e1⟩:=hpl.1.slice
       obtain ⟨lp,ld,e2⟩:=hpl.2.slice
       obtain ⟨hin,hcs⟩:=HIN.out r (by omega) l (List.mem_of_getElem? hl)
       have HNXT:=Lib.hid (flat_next hl)
       rw [e1] at k1 hpl;rw [e2] at k2 hpl
       obtain ⟨W3,hW3,hbW3,hz3,x15⟩:=box_1 wq (.cells #[.slice lv l.length lc,.slice lp l.length ld] 33)
       obtain ⟨q0,q1,f0,f1⟩:=cells_2 x15
       have H3:=Lib.hid (And.intro hW3 (And.intro hbW3 (And.intro (hpl.below hbW3) (And.intro x15 hz3))))
       have HIL:=Lib.hid hin
       have HLIM0:=Lib.hid (legPl_lim HG.out.2.2.2.atoms hin.ok)
       clear hPq hu hl hpl e1 e2 hin hW3 hbW3 hz3 x15
       rcases hcs with ⟨hr0,hl0⟩ | ⟨hr0,hl0⟩
       ·subst hl0
        have HLIM:=Lib.hid (show ∀ x∈([]:Pl),Lim x.1.length from fun x hx=>by simp at hx)
        have HLL:=Lib.hid (show ([]:Pl).length<=58 from Nat.zero_le _)
        have HNX:=Lib.hid (show ((prevAt t b r).take (j+1)).flatMap (fAt t b r)=((prevAt t b r).take j).flatMap (fAt t b r)++nextL t [] by rw [HNXT.out];unfold fAt;rw [if_pos hr0])
        have hX1:X=1:=by have:=HX.out;omega
        have hXI:¬ (1:Int)<(X:Int):=by omega
        have HW0:=Lib.hid (show wq.alloc (.cells #[.slice lv 0 lc,.slice lp 0 ld] 33)=W3 from H3.out.1)
        have q0':W3.cell? ⟨wq.heap.size,0,none⟩=some (.slice lv 0 lc):=q0
        have q1':W3.cell? ⟨wq.heap.size,1,none⟩=some (.slice lp 0 ld):=q1
        clear hX1 HNXT HLIM0 HIL hr0 q0 q1
        go_upto_region 13 with (fail)
        rw [HW0.out]
        have hbT:=HO.out.2.2.1.trans ((zzT HQ.out.1 H3.out.2.1).mono HO.out.2.2.1.size)
        have C5:=Lib.hid (next_any (fun _=>True) t ([]:Pl) (.pointer (some ⟨ka,0,none⟩)) (.slice lv 0 lc) (.slice lp 0 ld) W3 (HG.out.1.below hbT) (Rep.below hbT (fun _ h=>h) HG.out.2.1) (H3.out.2.2.1.mv fun _ _=>trivial).1 (H3.out.2.2.1.mv fun _ _=>trivial).2 HG.out.2.2.2.atoms (by have:=HLL.out;omega) HLIM.out)
        clear hbT
        unfold PlsQ at C5
        go_wp2_with fail
        (with_reducible refine C5.out.mono ?_)
        rintro en w6 ⟨a6,m6,c6,us6,rfl,hb6,hN6⟩
        have hb46:=zzT H3.out.2.1 hb6
        have hm6:m6<=1450:=by have h1:=nextL_len HG.out.2.2.2.atoms (([]:Pl));have h2:=hN6.len;have h3:=HLL.out;omega
        have H6:=Lib.hid (And.intro hb46 hN6.rd)
        clear hb6 hN6 hb46 C5
        go_wp2_with (at_builtin;refine wpList_append_gen rfl _ _ 26 rfl 33 (.agg #[.slice none 0 0,.slice none 0 0]) 2 48 Tryz.underlying26 Tryz.infoPlay rfl (by decide) (.slice a3 m c3) m (plC us3) rfl ?c1 (.slice a6 m6 c6) m6 (plC us6) rfl ?c2 ?c3 ?c4 ?_)
        case c1=>exact (HQ.out.2.below H6.out.1).own
        case c2=>exact SrcSl.ofOwn H6.out.2.own H6.out.2.one
        case c3=>unfold maxLen;omega
        case c4=>omega
        intro a7 c7 w7 ho7 hb7 hg7
        have hR7:=(HQ.out.2.below H6.out.1).cat H6.out.2 (Nat.le_trans HQ.out.1.size H3.out.2.1.size) (Nat.le_trans HQ.out.1.size H6.out.1.size) ho7 hb7 hg7
        have hB7:Below wr.heap.size wr w7:=(zzT HQ.out.1 H6.out.1).trans (hb7.toBelow (Nat.le_trans HQ.out.1.size H6.out.1.size) fun g hg e=>by have:=HQ.out.2.new g (.inl e);omega)
        rw [<- HNX.out] at hR7
        have hcnt:=hR7.len
        obtain ⟨M3,hM3⟩:=zzN (m+m6)
        rw [hM3] at hR7 hcnt ⊢
        have H7:=Lib.hid (And.intro hB7 (And.intro hR7 hcnt))
        have hM3b:M3<=2000:=by omega
        clear ho7 hb7 hg7 hR7 hB7 hM3 hcnt
        by_cases h300:300<n1+M3
        ·have h3I:(300:Int)<(n1:Int)+(M3:Int):=by omega
         have HE:=Lib.hid (HFAIL.out r (j+1) (by have:=HO.out;omega) (by rw [H7.out.2.2,HO.out.2.2.2.1.len];exact h300))
         clear h300
         go_wp2_with fail
         go_ret2
         rw [HE.out]
         exact PlaysQ.none (HG.out.2.2.1.trans ((zzT HO.out.2.2.1 H7.out.1).mono HG.out.2.2.1.size))
        ·have h3I:¬ (300:Int)<(n1:Int)+(M3:Int):=by omega
         have h3N:=Lib.hid (show n1+M3<=300 by omega)
         clear h300
         go_wp2_with fail
         go_roundw
         case rel=>exact ⟨j+1,M3,c7,a7,_,_,rfl,by omega,by go_num,rfl,h3N.out,H7.out.1,H7.out.2.1⟩
         case measure=>simp [intOf];omega
       ·have hXI:(1:Int)<(X:Int):=by have:=HX.out;omega
        have hBq0:=HQ.out.1
        have hB3:=zzT hBq0 H3.out.2.1
        have hodd:l.length % 2=1:=by omega
        have hll:l.length<=7:=by omega
        have C4:=Lib.hid (reply_any (fun _=>True) t b l (l.length-1) (.pointer (some ⟨ka,0,none⟩)) (.pointer (some ⟨ba,0,none⟩)) (.slice lv l.length lc) (.slice lp l.length ld) W3 (HG.out.1.below (zzT HO.out.2.2.1 hB3)) (Rep.below (zzT HO.out.2.2.1 hB3) (fun _ h=>h) HG.out.2.1) (Rep.below (zzT HO.out.2.2.1 hB3) (fun _ h=>h) HRB.out) ⟨(H3.out.2.2.1.mv fun _ _=>trivial).1,(H3.out.2.2.1.mv fun _ _=>trivial).2,HIL.out.ok,HLIM0.out⟩ HG.out.2.2.2.atoms HG.out.2.2.2.fit HG.out.2.2.2.wf (by omega) (by omega) (fun i hi ho=>HIL.out.fo i (by omega) ho))
        have HRT:Hid (replyTo t b l=none/\fAt t b r l=[]\/∃ x,replyTo t b l=some (l++[x])/\fAt t b r l=nextL t (l++[x])/\InPl t b (l++[x])):=Lib.hid (by
         unfold fAt stepL
         rw [if_neg (by omega)]
         unfold replyTo
         rw [if_neg (by omega)]
         cases hx:replyAt t b l l.length with
         | none=>exact .inl ⟨rfl,rfl⟩
         | some x=>exact .inr ⟨x,rfl,rfl,reply_legal HG.out.2.2.2.atoms HG.out.2.2.2.fit HG.out.2.2.2.wf HIL.out hodd (by omega) hx⟩)
        have HLW:=Lib.hid hll
        clear hBq0 hB3 hodd hll hr0 hl0
        obtain ⟨o,ho⟩:=zzN (replyTo t b l)
        rw [ho] at C4 HRT
        clear ho
        unfold PlQ at C4
        rcases HRT.out with ⟨ho,hf⟩ | ⟨x,ho,hf,hin⟩
        ·subst ho
         have HNX:=Lib.hid (show ((prevAt t b r).take (j+1)).flatMap (fAt t b r)=((prevAt t b r).take j).flatMap (fAt t b r) by rw [HNXT.out,hf,List.append_nil])
         clear hf HRT HNXT
         go_upto_region 13 with (fail)
         rw [H3.out.1]
         go_wp2_with fail
         (with_reducible refine C4.out.mono ?_)
         rintro en w4 ⟨a4,c4,a5,c5,rfl,hb4,hp4,hf4⟩
         have H4:=Lib.hid (HQ.out.1.trans ((zzT H3.out.2.1 hb4).mono HQ.out.1.size))
         have H4q:=Lib.hid (zzT H3.out.2.1 hb4)
         obtain ⟨W5,hW5,hbW5,hz5,x16⟩:=box_1 w4 (.cells #[.slice a4 0 c4,.slice a5 0 c5] 33)
         have H5:=Lib.hid (And.intro hW5 (And.intro (zzT H4.out hbW5) (zzT H4q.out hbW5)))
         clear hb4 hp4 hf4 hW5 hbW5 hz5 x16 C4 q0 q1 f0 f1
         go_upto_region 15 with (fail)
         rw [H5.out.1]
         go_wp2_with fail
         go_roundw
         case rel=>exact ⟨j+1,m,c3,a3,us3,_,rfl,by omega,by go_num,rfl,hnm,H5.out.2.1,by rw [HNX.out];exact HQ.out.2.below H5.out.2.2⟩
         case measure=>simp [intOf];omega
        ·subst ho
         have HNX:=Lib.hid (show ((prevAt t b r).take (j+1)).flatMap (fAt t b r)=((prevAt t b r).take j).flatMap (fAt t b r)++nextL t (l++[x]) by rw [HNXT.out,hf])
         have HLIM:=Lib.hid (legPl_lim HG.out.2.2.2.atoms hin.ok)
         have HLL:=Lib.hid (show (l++[x]).length<=58 by rw [List.length_append,List.length_singleton];have:=HLW.out;omega)
         have hl1:(l++[x]).length=l.length+1:=by rw [List.length_append];rfl
         clear hf HRT HNXT hin
         go_upto_region 13 with (fail)
         rw [H3.out.1]
         go_wp2_with fail
         (with_reducible refine C4.out.mono ?_)
         rintro en w4 ⟨a4,c4,a5,c5,rfl,hb4,hp4,hf4⟩
         rw [Option.getD_some] at hp4 ⊢
         rw [hl1] at hp4 ⊢
         have hb34:=zzT H3.out.2.1 hb4
         obtain ⟨W5,hW5,hbW5,hz5,x16⟩:=box_1 w4 (.cells #[.slice a4 (l.length+1) c4,.slice a5 (l.length+1) c5] 33)
         have hb35:Below wq.heap.size wq W5:=zzT hb34 hbW5
         have y15:=(hbW5.block _ (lt_of_heap ((hb4.block _ (lt_of_heap H3.out.2.2.2.1)).trans H3.out.2.2.2.1))).trans ((hb4.block _ (lt_of_heap H3.out.2.2.2.1)).trans H3.out.2.2.2.1)
         obtain ⟨z0,z1,_,_⟩:=cells_2 x16
         have hp5:=hp4.below hbW5
         have H5:=Lib.hid (And.intro hW5 (And.intro hb35 (And.intro hp5 (And.intro y15 (show wq.heap.size<w4.heap.size from by have:=lt_of_heap ((hb4.block _ (lt_of_heap H3.out.2.2.2.1)).trans H3.out.2.2.2.1);exact this)))))
         clear hb4 hp4 hf4 hW5 hbW5 hz5 x16 C4 q0 q1 f0 f1 hb34 hb35 y15 hp5 hl1
         go_upto_region 15 with (fail)
         rw [H5.out.1]
         obtain ⟨q0,q1,f0,f1⟩:=cells_2 H5.out.2.2.2.1
         go_upto_region 17 with (fail)
         obtain ⟨W6,hW6⟩:=zzN ((W5.setCell ⟨wq.heap.size,0,none⟩ (.slice a4 (l.length+1) c4)).setCell ⟨wq.heap.size,1,none⟩ (.slice a5 (l.length+1) c5))
         have x6:W6.heap[wq.heap.size]? = some (.cells #[.slice a4 (l.length+1) c4,.slice a5 (l.length+1) c5] 33 (0,0)):=by rw [<- hW6];exact set_two' H5.out.2.2.2.1 _ _
         have hb6:Below wq.heap.size wq W6:=by rw [<- hW6];exact (H5.out.2.1.setCell (p:=⟨wq.heap.size,0,none⟩) (Nat.le_refl _) _).setCell (p:=⟨wq.heap.size,1,none⟩) (Nat.le_refl _) _
         have hbt:But (fun i=>i=wq.heap.size) W5 W6:=by rw [<- hW6];exact ((But.refl (fun i=>i=wq.heap.size) W5).setCell (p:=⟨wq.heap.size,0,none⟩) (.inl rfl) _).setCell (p:=⟨wq.heap.size,1,none⟩) (.inl rfl) _
         have hp6:PlayAt W6 (l++[x]) (.slice a4 (l.length+1) c4) (.slice a5 (l.length+1) c5):=H5.out.2.2.1.but hbt fun g hg e=>by
          exact H5.out.2.2.1.notBox H5.out.2.2.2.1 (by decide) (by decide) g hg e
         rw [hW6]
         have HZ:=Lib.hid (And.intro hb6 hp6)
         clear q0 q1 f0 f1 z0 z1
         obtain ⟨q0,q1,_,_⟩:=cells_2 x6
         clear hW6 hb6 hbt hp6 x6
         have hbT:=HO.out.2.2.1.trans ((zzT HQ.out.1 HZ.out.1).mono HO.out.2.2.1.size)
         have C5:=Lib.hid (next_any (fun _=>True) t (l++[x]) (.pointer (some ⟨ka,0,none⟩)) (.slice a4 (l.length+1) c4) (.slice a5 (l.length+1) c5) W6 (HG.out.1.below hbT) (Rep.below hbT (fun _ h=>h) HG.out.2.1) (HZ.out.2.mv fun _ _=>trivial).1 (HZ.out.2.mv fun _ _=>trivial).2 HG.out.2.2.2.atoms (by have:=HLL.out;omega) HLIM.out)
         clear hbT
         unfold PlsQ at C5
         go_wp2_with fail
         (with_reducible refine C5.out.mono ?_)
         rintro en w6 ⟨a6,m6,c6,us6,rfl,hb6,hN6⟩
         have hb46:=zzT HZ.out.1 hb6
         have hm6:m6<=1450:=by have h1:=nextL_len HG.out.2.2.2.atoms ((l++[x]));have h2:=hN6.len;have h3:=HLL.out;omega
         have H6:=Lib.hid (And.intro hb46 hN6.rd)
         clear hb6 hN6 hb46 C5
         go_wp2_with (at_builtin;refine wpList_append_gen rfl _ _ 26 rfl 33 (.agg #[.slice none 0 0,.slice none 0 0]) 2 48 Tryz.underlying26 Tryz.infoPlay rfl (by decide) (.slice a3 m c3) m (plC us3) rfl ?c1 (.slice a6 m6 c6) m6 (plC us6) rfl ?c2 ?c3 ?c4 ?_)
         case c1=>exact (HQ.out.2.below H6.out.1).own
         case c2=>exact SrcSl.ofOwn H6.out.2.own H6.out.2.one
         case c3=>unfold maxLen;omega
         case c4=>omega
         intro a7 c7 w7 ho7 hb7 hg7
         have hR7:=(HQ.out.2.below H6.out.1).cat H6.out.2 (Nat.le_trans HQ.out.1.size HZ.out.1.size) (Nat.le_trans HQ.out.1.size H6.out.1.size) ho7 hb7 hg7
         have hB7:Below wr.heap.size wr w7:=(zzT HQ.out.1 H6.out.1).trans (hb7.toBelow (Nat.le_trans HQ.out.1.size H6.out.1.size) fun g hg e=>by have:=HQ.out.2.new g (.inl e);omega)
         rw [<- HNX.out] at hR7
         have hcnt:=hR7.len
         obtain ⟨M3,hM3⟩:=zzN (m+m6)
         rw [hM3] at hR7 hcnt ⊢
         have H7:=Lib.hid (And.intro hB7 (And.intro hR7 hcnt))
         have hM3b:M3<=2000:=by omega
         clear ho7 hb7 hg7 hR7 hB7 hM3 hcnt
         by_cases h300:300<n1+M3
         ·have h3I:(300:Int)<(n1:Int)+(M3:Int):=by omega
          have HE:=Lib.hid (HFAIL.out r (j+1) (by have:=HO.out;omega) (by rw [H7.out.2.2,HO.out.2.2.2.1.len];exact h300))
          clear h300
          go_wp2_with fail
          go_ret2
          rw [HE.out]
          exact PlaysQ.none (HG.out.2.2.1.trans ((zzT HO.out.2.2.1 H7.out.1).mono HG.out.2.2.1.size))
         ·have h3I:¬ (300:Int)<(n1:Int)+(M3:Int):=by omega
          have h3N:=Lib.hid (show n1+M3<=300 by omega)
          clear h300
          go_wp2_with fail
          go_roundw
          case rel=>exact ⟨j+1,M3,c7,a7,_,_,rfl,by omega,by go_num,rfl,h3N.out,H7.out.1,H7.out.2.1⟩
          case measure=>simp [intOf];omega
      ·have hjI:¬ (j:Int)<(n2:Int):=by omega
       obtain rfl:j=n2:=by omega
       have hNL:((prevAt t b r).take j).flatMap (fAt t b r)=lastAt t b r:=by rw [last_flat,List.take_of_length_le (by rw [HO.out.2.2.2.2.len];exact Nat.le_refl _)]
       rw [hNL] at HQ
       have hOq:=HO.out.2.2.2.1.below HQ.out.1
       have HK:=Lib.hid hOq
       clear hPq hOq hNL
       go_wp2_with (at_builtin;refine wpList_append_gen rfl _ _ 26 rfl 33 (.agg #[.slice none 0 0,.slice none 0 0]) 2 48 Tryz.underlying26 Tryz.infoPlay rfl (by decide) (.slice a1 n1 c1) n1 (plC us1) rfl ?c1 (.slice a3 m c3) m (plC us3) rfl ?c2 ?c3 ?c4 ?_)
       case c1=>exact HK.out.own
       case c2=>exact SrcSl.ofOwn HQ.out.2.own HQ.out.2.one
       case c3=>unfold maxLen;omega
       case c4=>omega
       intro a7 c7 w7 ho7 hb7 hg7
       have hlt1:∀ g,(Value.slice a1 n1 c1).ownBlock=some g->g<wr.heap.size:=fun g hg=>HO.out.2.2.2.1.own.lt hg
       have hR7:=HK.out.cat HQ.out.2 HO.out.2.2.1.size (Nat.le_trans HO.out.2.2.1.size HQ.out.1.size) ho7 hb7 hg7
       have hN7:=(HQ.out.2.off HK.out.own hb7 fun g hg e=>by have h1:=hlt1 g e;have h2:=HQ.out.2.new g (.inl hg);omega).mono HO.out.2.2.1.size
       have hB7:Below w1.heap.size w1 w7:=(zzT HO.out.2.2.1 HQ.out.1).trans (hb7.toBelow (Nat.le_trans HO.out.2.2.1.size HQ.out.1.size) fun g hg e=>by have:=HK.out.new g (.inl e);omega)
       have H7:=Lib.hid (And.intro hB7 (And.intro hR7 hN7))
       clear ho7 hb7 hg7 hR7 hN7 hB7 hlt1
       have hX2:IntKind.i64.wrap ((X:Int)+2)=((2*(r+1)+1:Nat):Int):=by rw [wrap_low _ (by omega) (by omega)];have:=HX.out;omega
       go_wp2_with fail
       go_roundw
       case rel=>exact ⟨r+1,n1+m,c7,a7,_,m,c3,a3,_,_,rfl,hr1.out,rfl,rfl,rfl,by omega,by omega,H7.out.1,H7.out.2.1,H7.out.2.2⟩
       case measure=>simp [intOf];have:=HX.out;omega
    ·have hltI:¬ ((2*r+1:Nat):Int)<=(N:Int):=by omega
     have hltI2:¬ 2*(r:Int)+1<=(N:Int):=by omega
     have E:=Lib.hid (HDONE.out r (by omega) (by rw [HO.out.2.2.2.1.len];exact HO.out.2.1))
     clear hlt
     go_wp2_with fail
     go_loopw [81] (fun x wr'=>∃ (i:Nat) (vs:List (Value×Value)) (wz:World),wz=wr'/\i<=n1/\x=.int .i64 i/\Below w1.heap.size w1 wz/\ClR w1.heap.size (outAt t b r) a1 n1 c1 i us1 vs wz) (fun x _=>n1-(intOf x).toNat)
     case atStart=>exact ⟨0,[],_,rfl,Nat.zero_le _,rfl,HO.out.2.2.1,HO.out.2.2.2.1.cl⟩
     case round =>
      obtain ⟨i,vs,wq,rfl,hi,rfl,hBq,hC⟩:=hrel
      by_cases hit:i<n1
      ·have hiI:(i:Int)<(n1:Int):=by omega
       obtain ⟨u,l,hu,hl,hpl⟩:=hC.at hit
       obtain ⟨g,rfl,k1,k2⟩:=hC.cells hu
       obtain ⟨lv,lc,e1⟩:=hpl.1.slice
       obtain ⟨lp,ld,e2⟩:=hpl.2.slice
       rw [e1] at k1 hpl;rw [e2] at k2 hpl
       have hll:l.length<=100000:=by
        have h1:=HLEN.out r hr4 l (List.mem_of_getElem? hl);omega
       obtain ⟨W3,hW3,hbW3,hz3,x19⟩:=box_1 wq (.cells #[.slice lv l.length lc,.slice lp l.length ld] 33)
       have hp3:=hpl.below hbW3
       have C6:=Lib.hid (clone_any l (.slice lv l.length lc) (.slice lp l.length ld) W3 (hp3.mv (F:=fun _=>True) fun _ _=>trivial).1.src (hp3.mv (F:=fun _=>True) fun _ _=>trivial).2.src hll)
       obtain ⟨q0,q1,_,_⟩:=cells_2 x19
       have H3:=Lib.hid (And.intro hW3 (And.intro hbW3 (And.intro hC (And.intro hl hBq))))
       clear hu hl hpl e1 e2 hW3 hbW3 hz3 x19 hp3 hC hBq hll
       go_upto_region 26 with (fail)
       rw [H3.out.1]
       go_wp2_with fail
       (with_reducible refine C6.out.mono ?_)
       rintro en w4 ⟨mvn,ptn,rfl,hp4,hb4,hf4⟩
       obtain ⟨a8,c8,e8⟩:=hp4.1.slice
       obtain ⟨a9,c9,e9⟩:=hp4.2.slice
       subst e8;subst e9
       have hb34:=zzT H3.out.2.1 hb4
       have hoW:=H3.out.2.2.1.own.keep (w':=w4) fun g o _ ho=>by rw [hb34.block g (lt_of_heap ho)];exact ho
       obtain ⟨f0,y0,k0⟩:=hoW.open2 (j:=i*2) (by omega)
       obtain ⟨f1,y1,k1'⟩:=hoW.open2 (j:=i*2+1) (by omega)
       have hput:=H3.out.2.2.1.put hit hb34 H3.out.2.2.2.2.size H3.out.2.2.2.1 hp4 (fun g hg=>Nat.le_trans H3.out.2.1.size (hf4 g hg))
       have hgb:¬ g<w1.heap.size:=by have:=H3.out.2.2.1.row g rfl;omega
       have hbF:Below w1.heap.size w1 ((w4.setCell ⟨g,i*2,none⟩ (.slice a8 l.length c8)).setCell ⟨g,i*2+1,none⟩ (.slice a9 l.length c9)):=((zzT H3.out.2.2.2.2 hb34).setCell (p:=⟨g,i*2,none⟩) (by show w1.heap.size<=g;omega) _).setCell (p:=⟨g,i*2+1,none⟩) (by show w1.heap.size<=g;omega) _
       have HF:=Lib.hid (And.intro hbF hput)
       clear hb4 hp4 hf4 hb34 hoW hput hgb hbF C6 q0 q1 k1 k2
       go_wp2_with fail
       go_roundw
       case rel=>exact ⟨i+1,_,_,rfl,by omega,by go_num,HF.out.1,HF.out.2⟩
       case measure=>simp [intOf];omega
      ·have hiI:¬ (i:Int)<(n1:Int):=by omega
       obtain rfl:i=n1:=by omega
       have HF:=Lib.hid (And.intro hBq hC.nx)
       clear hBq hC
       go_wp2_with fail
       go_ret2
       rw [E.out]
       exact ⟨a1,i,c1,vs,rfl,zzT HG.out.2.2.1 HF.out.1,HF.out.2.mono HG.out.2.2.1.size⟩
end Go.Proofs.YtdfkiicodfbibaaGreatDoor

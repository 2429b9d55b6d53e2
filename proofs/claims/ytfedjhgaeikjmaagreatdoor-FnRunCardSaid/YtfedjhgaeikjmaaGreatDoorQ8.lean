/- Walks of functions that the statement reaches, and plain words. No conditions. -/
import Derived.Laws.Entries
import Derived.Test.YtfedjhgaeikjmaaGreatDoorQ7
set_option linter.unusedVariables false
set_option linter.unusedSimpArgs false
set_option maxHeartbeats 8000000
namespace Go.Proofs.YtfedjhgaeikjmaaGreatDoor
open Go.RowKit
def plC (us:List (Value×Value)):List Value:=us.flatMap fun u=>[u.1,u.2]
theorem xn (u:Value×Value) (us:List (Value×Value)):plC (u::us)=u.1::u.2::plC us:=by simp [plC]
theorem ur (us vs:List (Value×Value)):plC (us++vs)=plC us++plC vs:=by simp [plC]
theorem gg:∀ us:List (Value×Value),(plC us).length=us.length*2
 | []=>rfl
 | u::us=>by rw [xn,List.length_cons,List.length_cons,gg us,List.length_cons];omega
theorem plC_at:∀ (us:List (Value×Value)) (i:Nat) (u:Value×Value),us[i]? = some u->(plC us)[i*2]? = some u.1/\(plC us)[i*2+1]? = some u.2
 | [],i,u,h=>by simp at h
 | v::us,0,u,h=>by obtain rfl:v=u:=by simpa using h
                   rw [xn];exact ⟨rfl,rfl⟩
 | v::us,i+1,u,h=>by
   rw [List.getElem?_cons_succ] at h
   have:=plC_at us i u h
   rw [xn,show (i+1)*2=i*2+1+1 from by omega]
   simpa using this
theorem Own.unlikeG {w:World} {e e':TypeId} {sz sz':Nat} {v v':Value} {n n':Nat} {xs ys:List Value} (h:Own w e sz v n xs) (h':Own w e' sz' v' n' ys) (he:e≠e') {g:Nat} (hg:v.ownBlock=some g):v'.ownBlock≠some g:=by
 intro ch
 rcases h.2 with ⟨rfl,_⟩ | ⟨b,cap,cur,rfl,_,hb,_⟩
 ·simp [Value.ownBlock] at hg
 ·rcases h'.2 with ⟨rfl,_⟩ | ⟨b',cap',cur',rfl,_,co,_⟩
  ·simp [Value.ownBlock] at ch
  ·simp [Value.ownBlock] at hg ch
   subst hg;subst ch
   rw [hb] at co
   simp at co
   exact he co.2
theorem yE:(9:TypeId)≠33:=by decide
theorem wJ:(3:TypeId)≠33:=by decide
theorem str_int:(9:TypeId)≠3:=by decide
abbrev wT:=List (List Value×List Value)
structure jw (w:World) (v:Value) (us:List (Value×Value)) (xs:wT):Prop where
 own:Own w 33 2 v us.length (plC us)
 len:us.length=xs.length
 each:∀ (i:Nat) (u:Value×Value) (x:List Value×List Value),us[i]? = some u->xs[i]? = some x->Own w 9 1 u.1 x.1.length x.1/\Own w 3 1 u.2 x.2.length x.2
 apart:∀ (i j:Nat) (u u':Value×Value),i≠j->us[i]? = some u->us[j]? = some u'->∀ g,(u.1.ownBlock=some g->u'.1.ownBlock≠some g)/\(u.2.ownBlock=some g->u'.2.ownBlock≠some g)
def PlB (v:Value) (us:List (Value×Value)) (b:Nat):Prop:=v.ownBlock=some b\/∃ u∈us,u.1.ownBlock=some b\/u.2.ownBlock=some b
theorem jw.mem {w:World} {v:Value} {us:List (Value×Value)} {xs:wT} (h:jw w v us xs) {u:Value×Value} (hu:u∈us):∃ (i:Nat) (x:List Value×List Value),us[i]? = some u/\xs[i]? = some x:=by
 obtain ⟨i,hi⟩:=List.mem_iff_getElem?.1 hu
 have hl:=(List.getElem?_eq_some_iff.1 hi).1
 rw [h.len] at hl
 exact ⟨i,xs[i],hi,List.getElem?_eq_getElem hl⟩
theorem jw.lt {w:World} {v:Value} {us:List (Value×Value)} {xs:wT} (h:jw w v us xs) {b:Nat} (hb:PlB v us b):b<w.heap.size:=by
 rcases hb with hb | ⟨u,hu,hb⟩
 ·exact h.own.lt hb
 ·obtain ⟨i,x,h1,h2⟩:=h.mem hu
  rcases hb with hb | hb
  ·exact (h.each i u x h1 h2).1.lt hb
  ·exact (h.each i u x h1 h2).2.lt hb
theorem jw.but {w w':World} {v:Value} {us:List (Value×Value)} {xs:wT} {m:Nat->Prop} (h:jw w v us xs) (hb:But m w w') (hm:∀ b,PlB v us b->¬ m b):jw w' v us xs :=
 ⟨h.own.keep fun g o hg ho=>by rw [hb.block g (zZ ho) (hm g (.inl hg))];exact ho,h.len,
  fun i u x h1 h2=>by
   have hu:=List.mem_of_getElem? h1
   obtain ⟨k1,k2⟩:=h.each i u x h1 h2
   exact ⟨k1.keep fun g o hg ho=>by rw [hb.block g (zZ ho) (hm g (.inr ⟨u,hu,.inl hg⟩))];exact ho,k2.keep fun g o hg ho=>by rw [hb.block g (zZ ho) (hm g (.inr ⟨u,hu,.inr hg⟩))];exact ho⟩,h.apart⟩
theorem jw.below {w w':World} {v:Value} {us:List (Value×Value)} {xs:wT} (h:jw w v us xs) (hb:Below w.heap.size w w'):jw w' v us xs :=
 h.but (m:=fun _=>False) (But.ofBelow hb) fun _ _ h=>h
theorem jw.nil (w:World):jw w (.slice none 0 0) [] [] :=
 ⟨World.ownsRow_nil w 0 _ 2,rfl,fun i u x h=>by simp at h,fun i j u u' _ h=>by simp at h⟩
theorem jw.snoc {w w':World} {v v':Value} {us:List (Value×Value)} {xs:wT} (h:jw w v us xs) {u:Value×Value} {x:List Value×List Value}
 (ho:Own w' 33 2 v' (us.length+1) (plC us++[u.1,u.2])) (hb:But (fun b=>v.ownBlock=some b) w w')
 (h1:Own w 9 1 u.1 x.1.length x.1) (h2:Own w 3 1 u.2 x.2.length x.2)
 (hf:∀ (g:Nat),u.1.ownBlock=some g\/u.2.ownBlock=some g->¬ PlB v us g):jw w' v' (us++[u]) (xs++[x]):=by
 have key:∀ {e:TypeId} {n:Nat} {r:Value} {ys:List Value},Own w e 1 r n ys->(∀ g,r.ownBlock=some g->v.ownBlock≠some g)->Own w' e 1 r n ys:=fun h cX =>
  h.keep fun g o hg ho=>by rw [hb.block g (zZ ho) (fun e=>cX g hg e)];exact ho
 refine ⟨by rw [List.length_append,List.length_singleton,ur];exact ho,by rw [List.length_append,List.length_append,h.len];rfl,fun i u' x' hu hx=>?_,fun i j a b sg ha co g=>?_⟩
 ·rcases Nat.lt_or_ge i us.length with hi | hi
  ·rw [List.getElem?_append_left hi] at hu
   rw [List.getElem?_append_left (by rw [<- h.len];exact hi)] at hx
   obtain ⟨k1,k2⟩:=h.each i u' x' hu hx
   exact ⟨key k1 (fun g hg=>k1.unlikeG h.own yE hg),key k2 (fun g hg=>k2.unlikeG h.own wJ hg)⟩
  ·rw [List.getElem?_append_right hi] at hu
   rw [List.getElem?_append_right (by rw [<- h.len];exact hi),<- h.len] at hx
   have hi0:i-us.length=0:=by have:=(List.getElem?_eq_some_iff.1 hu).1;simp at this;omega
   rw [hi0] at hu hx
   obtain rfl:u=u':=by simpa using hu
   obtain rfl:x=x':=by simpa using hx
   exact ⟨key h1 (fun g hg=>h1.unlikeG h.own yE hg),key h2 (fun g hg=>h2.unlikeG h.own wJ hg)⟩
 ·have last:∀ {k:Nat} {c:Value×Value},(us++[u])[k]? = some c->(us[k]? = some c/\k<us.length)\/(c=u/\k=us.length):=by
   intro k c hc
   rcases Nat.lt_or_ge k us.length with hk | hk
   ·rw [List.getElem?_append_left hk] at hc;exact .inl ⟨hc,hk⟩
   ·rw [List.getElem?_append_right hk] at hc
    have hi0:k-us.length=0:=by have:=(List.getElem?_eq_some_iff.1 hc).1;simp at this;omega
    rw [hi0] at hc
    exact .inr ⟨by simpa using hc.symm,by omega⟩
  rcases last ha with ⟨ka,hia⟩ | ⟨ea,hia⟩
  ·rcases last co with ⟨kb,hjb⟩ | ⟨eb,hjb⟩
   ·exact h.apart i j a b sg ka kb g
   ·have hm:=List.mem_of_getElem? ka
    rw [eb]
    exact ⟨fun e1 e2=>hf g (.inl e2) (.inr ⟨a,hm,.inl e1⟩),fun e1 e2=>hf g (.inr e2) (.inr ⟨a,hm,.inr e1⟩)⟩
  ·rcases last co with ⟨kb,hjb⟩ | ⟨eb,hjb⟩
   ·have hm:=List.mem_of_getElem? kb
    rw [ea]
    exact ⟨fun e1 e2=>hf g (.inl e1) (.inr ⟨b,hm,.inl e2⟩),fun e1 e2=>hf g (.inr e1) (.inr ⟨b,hm,.inr e2⟩)⟩
   ·omega
theorem PlB.snoc {v v':Value} {us:List (Value×Value)} {u:Value×Value} {b:Nat} (h:PlB v' (us++[u]) b):v'.ownBlock=some b\/PlB v us b\/u.1.ownBlock=some b\/u.2.ownBlock=some b:=by
 rcases h with h | ⟨c,hc,h⟩
 ·exact .inl h
 ·rcases List.mem_append.1 hc with hc | hc
  ·exact .inr (.inl (.inr ⟨c,hc,h⟩))
  ·simp at hc;subst hc;exact .inr (.inr h)
def plX (l:Pl):List Value×List Value:=(jk l,jU l)
def ym (w:World) (L:List Pl) (v:Value) (us:List (Value×Value)):Prop:=jw w v us (L.map plX)
theorem ym.play {w:World} {L:List Pl} {v:Value} {us:List (Value×Value)} (h:ym w L v us) {i:Nat} {u:Value×Value} {l:Pl} (hu:us[i]? = some u) (hl:L[i]? = some l):za w l u.1 u.2:=by
 have:=h.each i u (plX l) hu (by rw [List.getElem?_map,hl];rfl)
 simpa [plX,za,jk,jU] using this
theorem ym.length {w:World} {L:List Pl} {v:Value} {us:List (Value×Value)} (h:ym w L v us):us.length=L.length:=by have:=h.len;rwa [List.length_map] at this
theorem jw.set1 {w w':World} {v:Value} {us:List (Value×Value)} {xs:wT} (h:jw w v us xs) {i:Nat} {u:Value×Value} {x:List Value×List Value} (hu:us[i]? = some u) (hx:xs[i]? = some x) {ys:List Value}
 (ho:Own w' 9 1 u.1 ys.length ys) (hb:But (fun b=>u.1.ownBlock=some b) w w'):jw w' v us (xs.set i (ys,x.2)):=by
 obtain ⟨o1,o2⟩:=h.each i u x hu hx
 refine ⟨h.own.keep fun g o hg ho=>by rw [hb.block g (zZ ho) (fun e=>o1.unlikeG h.own yE e hg)];exact ho,by rw [List.length_set];exact h.len,fun j c y hc hy=>?_,h.apart⟩
 by_cases sg:i=j
 ·subst sg
  rw [hu] at hc
  obtain rfl:=Option.some.inj hc
  rw [List.getElem?_set_self (List.getElem?_eq_some_iff.1 hx).1] at hy
  obtain rfl:=Option.some.inj hy
  exact ⟨ho,o2.keep fun g o hg ho=>by rw [hb.block g (zZ ho) (fun e=>o1.unlikeG o2 str_int e hg)];exact ho⟩
 ·rw [List.getElem?_set_ne sg] at hy
  obtain ⟨k1,k2⟩:=h.each j c y hc hy
  exact ⟨k1.keep fun g o hg ho=>by rw [hb.block g (zZ ho) (fun e=>(h.apart i j u c sg hu hc g).1 e hg)];exact ho,
   k2.keep fun g o hg ho=>by rw [hb.block g (zZ ho) (fun e=>o1.unlikeG k2 str_int e hg)];exact ho⟩
section
variable {P:Program} {ops:Array Oper} {Q:Exit->Act->World->Prop} {md:Region.Mode} {S:World->Prop} {T:Nat->Bool}
def jI (P:Program) (md:Region.Mode) (ops:Array Oper) (Q:Exit->Act->World->Prop) (S:World->Prop) (T:Nat->Bool):Nat->Array Bool->Act->World->Prop
 | 0,listed,a,w=>Region.ready md ops listed=[]/\Q .normal a w
 | fuel+1,listed,a,w =>
   (Region.ready md ops listed=[]->Q .normal a w) /\
   ∀ i∈Region.ready md ops listed,wpOp P ops Q i (fun a' w'=>(T i=false->S w')/\jI P md ops Q S T fuel (listed.setIfInBounds i true) a' w') a w
theorem gY:∀ (fuel:Nat) (listed:Array Bool) (a:Act) (w:World),jI P md ops Q S T fuel listed a w->wpAny P md ops Q fuel listed a w
 | 0,_,_,_,h=>h
 | fuel+1,_,_,_,h=>⟨h.1,fun i hi=>wpOp_mono (fun a' w' h'=>gY fuel _ a' w' h'.2) (h.2 i hi)⟩
theorem xN {md:Region.Mode} {ops:Array Oper} {L:Array Bool} {i j:Nat} (h:j∈Region.ready md ops L) (cX:j≠i):j∈Region.ready md ops (L.setIfInBounds i true):=by
 unfold Region.ready at *
 rw [List.mem_filter] at *
 refine ⟨h.1,?_⟩
 have h2:=h.2
 rw [Bool.and_eq_true] at *
 refine ⟨?_,?_⟩
 ·have e:(L.setIfInBounds i true).getD j true=L.getD j true:=by
   simp only [Array.getD_eq_getD_getElem?]
   rw [Array.getElem?_setIfInBounds_ne (fun e=>cX e.symm)]
  rw [e];exact h2.1
 ·have h3:=h2.2
  cases ho:ops[j]? with
  | none=>rw [ho] at h3;simp at h3
  | some o =>
    rw [ho] at h3
    simp only [Option.map_some,Option.getD_some] at h3 ⊢
    rw [Array.all_eq_true'] at *
    intro e he
    have h4:=h3 e he
    rw [Bool.or_eq_true] at *
    rcases h4 with h4 | h4
    ·exact .inl h4
    ·refine .inr ?_
     by_cases hk:e.on=i
     ·rw [hk]
      simp only [Array.getD_eq_getD_getElem?] at h4 ⊢
      rw [hk] at h4
      rcases Nat.lt_or_ge i L.size with h' | h'
      ·simp [h']
      ·rw [Array.getElem?_eq_none h'] at h4;simp at h4
     ·simp only [Array.getD_eq_getD_getElem?] at h4 ⊢
      rw [Array.getElem?_setIfInBounds_ne (fun e=>hk e.symm)];exact h4
theorem uu {md:Region.Mode} {ops:Array Oper} {L:Array Bool} {j:Nat} (h:j∈Region.ready md ops L) :
 L.getD j true=false/\∃ o,ops[j]? = some o/\∀ e∈o.after,Region.binds md e=true->L.getD e.on false=true:=by
 unfold Region.ready at h
 rw [List.mem_filter] at h
 have h2:=h.2
 rw [Bool.and_eq_true] at h2
 refine ⟨by simpa using h2.1,?_⟩
 cases ho:ops[j]? with
 | none=>have:=h2.2;rw [ho] at this;simp at this
 | some o =>
   refine ⟨o,rfl,fun e he hb=>?_⟩
   have h3:=h2.2
   rw [ho] at h3
   simp only [Option.map_some,Option.getD_some] at h3
   rw [Array.all_eq_true'] at h3
   have h4:=h3 e he
   rw [Bool.or_eq_true] at h4
   rcases h4 with h4 | h4
   ·rw [hb] at h4;simp at h4
   ·exact h4
theorem wpAnyS_first {i:Nat} {oi:Oper} {v:Value} (hi:ops[i]? = some oi) (AH:∀ (j:Nat) (o:Oper) cs b,ops[j]? = some o->o.op≠.select cs b)
 (hQ:∀ c a w,Q (.panic c) (a.put oi.dst v) w->Q (.panic c) a w)
 (hT:∀ j oj,ops[j]? = some oj->T j=true->∃ e∈oj.after,Region.binds md e=true/\e.on=i) (hTi:T i=false) :
 ∀ (fuel:Nat) (listed:Array Bool) (a:Act) (w:World),
   (∀ j oj,ops[j]? = some oj->j≠i->listed.getD j true=false->(∀ e∈oj.after,Region.binds md e=true->e.on≠i)->oi.apart ops oj=true) ->
   i∈Region.ready md ops listed->YieldsIf P ops S oi v a->S w ->
   jI P md ops Q S T fuel (listed.setIfInBounds i true) (a.put oi.dst v) w->jI P md ops Q S T (fuel+1) listed a w:=by
 intro fuel
 induction fuel with
 | zero =>
   intro listed a w _ hr hy hS H
   refine ⟨fun h=>(by rw [h] at hr;cases hr),fun j hj=>?_⟩
   by_cases tq:j=i
   ·subst tq;exact hy.wpOp hi hS ⟨fun _=>hS,H⟩
   ·have:=xN hj tq
    rw [H.1] at this
    cases this
 | succ fuel ih =>
   intro listed a w fD hr hy hS H
   refine ⟨fun h=>(by rw [h] at hr;cases hr),fun j hj=>?_⟩
   by_cases tq:j=i
   ·subst tq;exact hy.wpOp hi hS ⟨fun _=>hS,H⟩
   ·have h1:=H.2 j (xN hj tq)
    obtain ⟨Bz,oj,hoj,cq⟩:=uu hj
    have Ba:∀ e∈oj.after,Region.binds md e=true->e.on≠i:=fun e he hb o3=>by
     have h1:=cq e he hb
     have h0:=(uu hr).1
     rw [o3] at h1
     simp only [Array.getD_eq_getD_getElem?] at h0 h1
     rcases Nat.lt_or_ge i listed.size with h' | h'
     ·simp [h'] at h0 h1;rw [h0] at h1;cases h1
     ·simp [Array.getElem?_eq_none h'] at h1
    have hTj:T j=false:=by
     cases hT':T j with
     | false=>rfl
     | true =>
       obtain ⟨e,he,hb,o3⟩:=hT j oj hoj hT'
       exact absurd o3 (Ba e he hb)
    have h2:=wpOp_putIf hoj (fD j oj hoj tq Bz Ba) (fun cs b=>AH i oi cs b hi) (fun cs b=>AH j oj cs b hoj) hQ hy h1
    have lO:∀ k ok,ops[k]? = some ok->k≠i->(listed.setIfInBounds j true).getD k true=false ->
     (∀ e∈ok.after,Region.binds md e=true->e.on≠i)->oi.apart ops ok=true:=fun k ok hk hki hun f7=>by
     refine fD k ok hk hki ?_ f7
     by_cases hjk:j=k
     ·subst hjk;exact Bz
     ·simp only [Array.getD_eq_getD_getElem?] at hun ⊢
      rw [Array.getElem?_setIfInBounds_ne hjk] at hun;exact hun
    refine wpOp_mono (fun a' w' h3=>⟨h3.2.1,ih (listed.setIfInBounds j true) a' w' lO (xN hr (Ne.symm tq)) h3.1 (h3.2.1 hTj) ?_⟩) h2
    rw [Array.setIfInBounds_comm _ _ tq]
    exact h3.2.2
def waitT (md:Region.Mode) (ops:Array Oper) (T:Nat->Bool) (i:Nat):Bool :=
 !T i && (List.range ops.size).all fun j=>!T j || ((ops[j]?).map fun o=>o.after.any fun e=>Region.binds md e && e.on == i).getD true
theorem waitT_spec {i:Nat} (h:waitT md ops T i=true):T i=false/\∀ j oj,ops[j]? = some oj->T j=true->∃ e∈oj.after,Region.binds md e=true/\e.on=i:=by
 unfold waitT at h
 rw [Bool.and_eq_true] at h
 refine ⟨by simpa using h.1,fun j oj hj hT=>?_⟩
 have h2:=h.2
 rw [List.all_eq_true] at h2
 have h3:=h2 j (List.mem_range.2 (Array.getElem?_eq_some_iff.1 hj).1)
 rw [hT,hj] at h3
 simp only [Bool.not_true,Bool.false_or,Option.map_some,Option.getD_some] at h3
 rw [Array.any_eq_true'] at h3
 obtain ⟨e,he,h4⟩:=h3
 rw [Bool.and_eq_true,beq_iff_eq] at h4
 exact ⟨e,he,h4⟩
theorem wpAnyS_take (i:Nat) {v:Value} {fuel:Nat} {listed:Array Bool} {a:Act} {w:World}
 (hs:Region.noSelect ops=true) (hf:Region.free md ops listed i=true) (hr:(Region.ready md ops listed).contains i=true) (ht:waitT md ops T i=true)
 (hQ:∀ d c a w,Q (.panic c) (a.put d v) w->Q (.panic c) a w) (hS:S w)
 (hy:∀ oi,ops[i]? = some oi->YieldsIf P ops S oi v a)
 (h:∀ d,(ops[i]?).bind (·.dst)=d->jI P md ops Q S T fuel (listed.setIfInBounds i true) (a.put d v) w):jI P md ops Q S T (fuel+1) listed a w:=by
 have hm:i∈Region.ready md ops listed:=by simpa using hr
 obtain ⟨_,oi,hi,_⟩:=uu hm
 obtain ⟨h1,h2⟩:=waitT_spec ht
 exact wpAnyS_first hi (Region.noSelect_spec hs) (fun c a w=>hQ _ c a w) h2 h1 fuel listed a w (Region.free_spec hi hf) hm (hy oi hi) hS (h _ (by rw [hi];rfl))
def tks (P:Program) (ops:Array Oper) (S:World->Prop):List Nat->List (Option Tmp)->Act->(Act->Prop)->Prop
 | i::l,d::ds,a,K=>∃ v,(∀ oi,ops[i]? = some oi->YieldsIf P ops S oi v a)/\tks P ops S l ds (a.put d v) K
 | [],_,a,K=>K a
 | _::_,[],_,_=>False
def tkOk (md:Region.Mode) (ops:Array Oper) (T:Nat->Bool):List Nat->Array Bool->Bool
 | [],_=>true
 | i::l,L=>Region.free md ops L i && ((Region.ready md ops L).contains i && (waitT md ops T i && tkOk md ops T l (L.setIfInBounds i true)))
def tkL:List Nat->Array Bool->Array Bool
 | [],L=>L
 | i::l,L=>tkL l (L.setIfInBounds i true)
def tkN:List Nat->Nat->Nat
 | [],n=>n
 | _::l,n=>tkN l n+1
def tkD (ops:Array Oper):List Nat->List (Option Tmp)
 | []=>[]
 | i::l=>(ops[i]?).bind (·.dst)::tkD ops l
theorem tk (is:List Nat) {fuel:Nat} {listed:Array Bool} {a:Act} {w:World} (hS:S w) (h:∀ ds,tkD ops is=ds->tks P ops S is ds a (fun a'=>jI P md ops Q S T fuel (tkL is listed) a' w))
 (cH:(Region.noSelect ops && tkOk md ops T is listed)=true:=by kernel_rfl) (hQ:∀ v d c a w,Q (.panic c) (a.put d v) w->Q (.panic c) a w:=by exact fun _ _ _ _ _ h=>h):jI P md ops Q S T (tkN is fuel) listed a w:=by
 have h':=h _ rfl
 clear h
 rw [Bool.and_eq_true] at cH
 obtain ⟨hs,cH⟩:=cH
 induction is generalizing listed a with
 | nil=>exact h'
 | cons i l ih =>
   rw [tkOk,Bool.and_eq_true,Bool.and_eq_true,Bool.and_eq_true] at cH
   rw [tkD,tks] at h'
   obtain ⟨v,hy,hk⟩:=h'
   exact wpAnyS_take i hs cH.1 cH.2.1 cH.2.2.1 (fun d c a w=>hQ v d c a w) hS hy (fun d hd=>by
    rw [hd] at hk
    exact ih hk cH.2.2.2)
theorem pQ (l:List Value) (df:List Deferred) (k:Nat) (v:Value):Act.put ⟨l.toArray,df⟩ (some k) v=⟨(l.set k v).toArray,df⟩:=by simp [Act.put]
theorem pN (a:Act) (v:Value):Act.put a none v=a:=rfl
theorem pZ (x y:Value) (l:List Value):(x::l).set 0 y=y::l:=rfl
theorem pS (x y:Value) (l:List Value) (n:Nat):(x::l).set (n+1) y=x::l.set n y:=rfl
theorem wpAnyS_one (i:Nat) {fuel:Nat} {listed:Array Bool} {a:Act} {w:World} (hr:Region.ready md ops listed=[i])
 (h:∀ o,ops[i]? = some o->∀ K':Act->World->Prop,Shut (∀ a w,(T i=false->S w)->jI P md ops Q S T fuel (listed.setIfInBounds i true) a w->K' a w) ->
  if Region.wanted o (yielded ops a.tmps)=true then Oper.wp P o a w K' Q else K' (a.put o.dst undef) w):jI P md ops Q S T (fuel+1) listed a w:=by
 refine ⟨fun h0=>by rw [hr] at h0;simp at h0,fun j hj=>?_⟩
 rw [hr] at hj
 simp only [List.mem_singleton] at hj
 subst hj
 obtain ⟨_,o,ho,_⟩:=uu (md:=md) (ops:=ops) (L:=listed) (j:=j) (by rw [hr];simp)
 exact wpOp_step ho (fun K' hK=>h o ho K' (fun a w hS hW=>hK a w ⟨hS,hW⟩))
theorem on (i:Nat) {fuel:Nat} {listed:Array Bool} {a:Act} {w:World}
 (h:∀ o,ops[i]? = some o->∀ K':Act->World->Prop,Shut (∀ a w,(T i=false->S w)->jI P md ops Q S T fuel (listed.setIfInBounds i true) a w->K' a w) ->
  if Region.wanted o (yielded ops a.tmps)=true then Oper.wp P o a w K' Q else K' (a.put o.dst undef) w) (hr:Region.ready md ops listed=[i]:=by kernel_rfl):jI P md ops Q S T (fuel+1) listed a w :=
 wpAnyS_one i hr h
theorem kF {listed:Array Bool} {a:Act} {w:World} (hr:Region.ready md ops listed=[]) (h:Q .normal a w) :
 ∀ fuel,jI P md ops Q S T fuel listed a w
 | 0=>⟨hr,h⟩
 | _+1=>⟨fun _=>h,by rw [hr];simp⟩
theorem kE {id:Nat} {a:Act} {w:World} (S:World->Prop) (T:Nat->Bool) (hm:P.follows .mixedOrders=true)
 (h:jI P .any ops Q S T ops.size (Array.replicate ops.size false) a w.drew):(Code.region id ops true).wp P Q a w :=
 wp_region_any hm (gY _ _ _ _ h)
end
theorem out_cell {m:Nat->Prop} {w6 w7:World} {o:Obj} {ob f:Nat} {u:Value} (hb:But m (w6.alloc o) w7) (hm:¬ m ob) (h:w6.cell? ⟨ob,f,none⟩=some u):w7.cell? ⟨ob,f,none⟩=some u:=by
 have cZ:=be w6 ⟨ob,f,none⟩ h
 rw [hb.cell (p:=⟨ob,f,none⟩) (by rw [zK];exact Nat.lt_succ_of_lt cZ) hm]
 exact zU h
theorem out_free {m:Nat->Prop} {w6 w7:World} {o:Obj} {ob f:Nat} (hb:But m (w6.alloc o) w7) (hm:¬ m ob) (cZ:ob<w6.heap.size) (h:w6.frozen? ⟨ob,f,none⟩=false):w7.frozen? ⟨ob,f,none⟩=false:=by
 rw [World.frozen?_of_block (w:=w6) (by rw [hb.block _ (by rw [zK];omega) hm,Below.heap_alloc _ _ _ cZ])]
 exact h
theorem own_thru {wr w5 w6:World} {e:TypeId} {sz n:Nat} {v:Value} {xs:List Value} {rd:Nat} (h:Own wr e sz v n xs) (hg:∀ g,v.ownBlock=some g->g≠rd) (cF:But (· = rd) wr w5) (cW:But (· = rd) w5 w6):Own w6 e sz v n xs :=
 h.keep fun g o m_ ho=>by
  have cZ:=zZ ho
  rw [cW.block g (b6 cZ cF.size) (hg g m_),cF.block g cZ (hg g m_)];exact ho
theorem j9 {rd:Nat} {w w':World} (hb:But (· = rd) w w') {b o:Nat} {u:Value} (cX:b≠rd) (h:w.cell? ⟨b,o,none⟩=some u):w'.cell? ⟨b,o,none⟩=some u :=
 (hb.cell (p:=⟨b,o,none⟩) (be w ⟨b,o,none⟩ h) cX).trans h
theorem wC {rd:Nat} {w w':World} (hb:But (· = rd) w w') {b o:Nat} (cX:b≠rd) (cZ:b<w.heap.size) (h:w.frozen? ⟨b,o,none⟩=false):w'.frozen? ⟨b,o,none⟩=false:=by
 rw [World.frozen?_of_block (w:=w) (hb.block b cZ cX)];exact h
def bp (size:Nat) (v:Value) (n:Nat) (xs:List Value) (w:World):Prop :=
 xs.length=n*size/\((∃ b,v=.slice (some b) n n/\∀ (j:Nat) u,xs[j]? = some u->w.cell? (b.add j)=some u)\/(v=.slice none 0 0/\n=0))
theorem bp.ofRep {F:Nat->Prop} {w:World} {e:TypeId} {sz n:Nat} {cs:List DV} {a:Option Addr} {c:Nat} (h:Rep F w (.sl e sz n cs) (.slice a n c)) (lB:∀ us,zG F w cs us->∀ u∈us,u.oneCell'=true) :
 ∃ xs,zG F w cs xs/\bp sz (.slice a n n) n xs w:=by
 obtain ⟨xs,h1,h2,_,h4⟩:=zM.ofRep h lB
 refine ⟨xs,h1,h2,?_⟩
 rcases h4 with ⟨b,c',e1,h5⟩ | ⟨e1,rfl⟩
 ·injection e1 with e2 e3 e4
  subst e2
  exact .inl ⟨b,rfl,h5⟩
 ·injection e1 with e2 e3 e4
  subst e2
  exact .inr ⟨rfl,rfl⟩
theorem bp.drew {w:World} {size n:Nat} {v:Value} {xs:List Value} (h:bp size v n xs w):bp size v n xs w.drew:=h
theorem kM {w:World} {b o:Nat} {c:Array Value} {e:TypeId} {u:Value} (h:w.heap[b]? = some (.cells c e (0,0))):(w.setCell ⟨b,o,none⟩ u).heap[b]? = some (.cells (c.setIfInBounds o u) e (0,0)):=by
 have cZ:=zZ h
 have h':w.heap[b]=.cells c e (0,0):=by simpa [Array.getElem?_eq_getElem cZ] using h
 show (w.heap.modify b _)[b]? = _
 rw [Array.getElem?_eq_getElem (by simpa using cZ),Array.getElem_modify_self,h']
 simp
structure BoxRes (F0:Nat->Prop) (W:World) (g:Nat) (o:Obj) (d:List DV) (v:List Value) (Z:World):Prop where
 below:Below W.heap.size W Z
 new:W.heap.size<=g
 blk:Z.heap[g]? = some o
 rep:zG (fun i=>(F0 i\/W.heap.size<=i)/\i≠g) Z d v
theorem BoxRes.first {F0:Nat->Prop} {W V0 V1 Z:World} {o:Obj} {d:List DV} {v:List Value} (hF0:∀ i,F0 i->i<W.heap.size) (h0:Below W.heap.size W V0) (i8:V0.heap.size=W.heap.size+1) (hb:Below V0.heap.size V0 V1) (hr:zG (fun i=>F0 i\/V0.heap.size<=i) V1 d v)
 (dX:But (fun i=>i=W.heap.size) V1 Z) (dF:Z.heap[W.heap.size]? = some o):BoxRes F0 W W.heap.size o d v Z:=by
 have hz:=hb.size
 have b9:Below W.heap.size W V1:=h0.trans (hb.mono (by omega))
 refine ⟨b9.trans (dX.toBelow (by omega) fun i hi e=>by omega),br _,dF,?_⟩
 refine (Rep.keep fun i x hi hx=>?_).2 _ _ hr
 have cX:i≠W.heap.size:=by rcases hi with h | h;have:=hF0 i h;omega;omega
 exact ⟨⟨hi.elim .inl (fun h=>.inr (by omega)),cX⟩,by rw [dX.block i (zZ hx) cX];exact hx⟩
theorem BoxRes.last {F0:Nat->Prop} {W V1 Z:World} {z o:Obj} {d:List DV} {v:List Value} (hb:Below W.heap.size W V1) (hr:zG (fun i=>F0 i\/W.heap.size<=i) V1 d v)
 (dX:But (fun i=>i=V1.heap.size) (V1.alloc z) Z) (dF:Z.heap[V1.heap.size]? = some o):BoxRes F0 W V1.heap.size o d v Z:=by
 have hz:=hb.size
 refine ⟨(hb.alloc hz z).trans (dX.toBelow (by rw [zK];omega) fun i hi e=>by omega),hz,dF,?_⟩
 refine (Rep.keep fun i x hi hx=>?_).2 _ _ hr
 have hl:=zZ hx
 have cX:i≠V1.heap.size:=by omega
 exact ⟨⟨hi,cX⟩,by rw [dX.block i (by rw [zK];omega) cX,Below.heap_alloc _ _ _ hl];exact hx⟩
theorem qX {w:World} {b:Nat} {x y:Value} {T:TypeId} (h:w.heap[b]? = some (.cells #[x,y] T (0,0))):w.cell? ⟨b,0,none⟩=some x/\w.cell? ⟨b,1,none⟩=some y/\w.frozen? ⟨b,0,none⟩=false/\w.frozen? ⟨b,1,none⟩=false :=
 ⟨by simp [World.cell?,h],by simp [World.cell?,h],by simp [World.frozen?,h],by simp [World.frozen?,h]⟩
theorem boxes_2 (w:World) (A B:Obj):∃ W,(w.alloc A).alloc B=W/\Below w.heap.size w W/\W.heap.size=w.heap.size+2/\W.heap[w.heap.size]? = some A/\W.heap[w.heap.size+1]? = some B:=by
 refine ⟨_,rfl,((bi _ _).alloc (br _) _).alloc (by rw [zK];omega) _,by rw [zK,zK],zX (zS _ _),?_⟩
 have h:=zS (w.alloc A) B
 rwa [zK] at h
theorem qn (w:World) (A:Obj):∃ W,w.alloc A=W/\Below w.heap.size w W/\W.heap.size=w.heap.size+1/\W.heap[w.heap.size]? = some A :=
 ⟨_,rfl,(bi _ _).alloc (br _) _,by rw [zK],zS _ _⟩
def lvD (lv:List zj):List DV:=lv.flatMap fun p=>[DV.val (.int .i64 (p.1:Nat)),DV.val (str p.2)]
def lvC (lv:List zj):List Value:=lv.flatMap fun p=>[.int .i64 (p.1:Nat),str p.2]
theorem g7 (a b:List zj):lvC (a++b)=lvC a++lvC b:=by simp [lvC]
theorem lvD_at:∀ (lv:List zj) (i:Nat) (p:zj),lv[i]? = some p->(lvD lv)[i*2]? = some (.val (.int .i64 (p.1:Nat)))/\(lvD lv)[i*2+1]? = some (.val (str p.2))
 | [],i,p,h=>by simp at h
 | q::lv,0,p,h=>by obtain rfl:q=p:=by simpa using h
                   exact ⟨rfl,rfl⟩
 | q::lv,i+1,p,h=>by
   rw [List.getElem?_cons_succ] at h
   have:=lvD_at lv i p h
   rw [show lvD (q::lv)=[DV.val (.int .i64 (q.1:Nat)),DV.val (str q.2)]++lvD lv from rfl,show (i+1)*2=2+i*2 from by omega]
   rw [List.getElem?_append_right (by simp),List.getElem?_append_right (by simp;omega)]
   simpa [Nat.add_sub_cancel_left,show 2+i*2+1-2=i*2+1 from by omega] using this
def jG (F:Nat->Prop) (w:World) (lv:List zj) (v:Value):Prop:=Rep F w (.sl 115 2 lv.length (lvD lv)) v
theorem jG.open {F:Nat->Prop} {w:World} {lv:List zj} {v:Value} (h:jG F w lv v):∃ a c,v=.slice a lv.length c /\
 ∀ (i:Nat) (p:zj),lv[i]? = some p->∃ b o,a=some ⟨b,o,none⟩/\F b/\b<w.heap.size/\w.cell? ⟨b,o+i*2,none⟩=some (.int .i64 (p.1:Nat))/\w.cell? ⟨b,o+i*2+1,none⟩=some (str p.2):=by
 unfold jG at h
 rw [kP] at h
 obtain ⟨hl,a,cap,hv,hn,hz,h⟩:=h
 refine ⟨a,cap,hv,fun i p hp=>?_⟩
 have hi:=(List.getElem?_eq_some_iff.1 hp).1
 obtain ⟨d1,d2⟩:=lvD_at lv i p hp
 rcases h with h | ⟨b,o,c,fr,ha,hb,hc,hr⟩
 ·omega
 ·obtain ⟨u1,k1,r1⟩:=hr.at d1
  obtain ⟨u2,k2,r2⟩:=hr.at d2
  rw [zI] at r1 r2
  subst r1;subst r2
  rw [List.getElem?_take,if_pos (by omega),List.getElem?_drop] at k1 k2
  exact ⟨b,o,ha,hb,zZ hc,by simp [World.cell?,hc];simpa using k1,by simp [World.cell?,hc,Nat.add_assoc];simpa using k2⟩
theorem kH {w:World} {b:Nat} {x y z u:Value} {T:TypeId} (h:w.heap[b]? = some (.cells #[x,y,z,u] T (0,0))):w.cell? ⟨b,0,none⟩=some x/\w.cell? ⟨b,1,none⟩=some y/\w.cell? ⟨b,2,none⟩=some z/\w.cell? ⟨b,3,none⟩=some u :=
 ⟨by simp [World.cell?,h],by simp [World.cell?,h],by simp [World.cell?,h],by simp [World.cell?,h]⟩
def TellP (m:Bs) (i:Nat) (w:World) (en:Ending) (w':World):Prop:=en=.returned (.tuple #[str m,.int .i64 (i:Nat)])/\Below w.heap.size w w'
set_option maxRecDepth 100000 in
theorem tells_leaf (F:Nat->Prop) (c:UInt8) (bv lsl:Value) (bg:zj) (w:World) (hb:Rep F w (kp (.leaf c)) bv) (eO:¬ c=117) (hl:bg.2.length<=1000) :
 Calls Tryz.prog 67 #[.agg #[bv,lsl,.int .i64 (bg.1:Nat),str bg.2]] w (TellP (c::bg.2) bg.1 w):=by
 have C:=bc (fun wz (h:Below w.heap.size w wz)=>yu F wz c bv (hb.below h (fun _ h=>h)))
 obtain ⟨b,sl,rfl,_,hc,_⟩:=y6 hb
 obtain ⟨W,hW,cK,hz,bx⟩:=qn w (.cells #[.pointer (some ⟨b,0,none⟩),lsl,.int .i64 (bg.1:Nat),str bg.2] 117)
 have CW:=bc (C.out W cK)
 obtain ⟨e0,e1,e2,e3⟩:=kH bx
 have c1:W.cell? ⟨b,0,none⟩=some (.string ⟨#[c]⟩):=(cK.cell (by exact zZ hc)).trans (by simp [World.cell?,hc])
 have q1:(([c]:Bs) == [117])=false:=by rw [beq_eq_false_iff_ne];simpa using eO
 have a1:=fun w0=>kN (P:=Tryz.prog) [c] bg.2 (by simp;omega) w0
 rw [List.singleton_append] at a1
 generalize hM:c::bg.2=M at *
 have HW:=bc (bm hW cK)
 clear hW cK hz bx hc hb C eO hM e1
 go_enter Tryz.func67,Tryz.ntmps67
 go_upto_region 1 with (fail)
 rw [HW.out.1]
 go_wp2_with fail
 (with_reducible refine CW.out.mono ?_)
 rintro en w1 ⟨rfl,ew⟩
 subst ew
 go_wp2_with fail
 go_quiet (fail)
 go_wp2_with fail
 go_ret2
 exact ⟨rfl,zi HW.out.2 _⟩
set_option maxRecDepth 100000 in
theorem tells_ask (F:Nat->Prop) (l:Nat) (ss:List Bd) (y n:Bd) (bv lsl:Value) (lv:List zj) (bg pl:zj) (w:World) (hb:Rep F w (kp (.ask l ss y n)) bv) (dx:jG F w lv lsl) (cI:lv[l]? = some pl) (hl:pl.2.length<=1000) (rE:lv.length<=100000) :
 Calls Tryz.prog 67 #[.agg #[bv,lsl,.int .i64 (bg.1:Nat),str bg.2]] w (TellP (113::pl.2) pl.1 w):=by
 have C:=bc (fun wz (h:Below w.heap.size w wz)=>bZ F wz l ss y n bv (hb.below h (fun _ h=>h)))
 obtain ⟨b,sl,yv,nv,rfl,_,hc,_⟩:=yd hb
 obtain ⟨la,lc,rfl,hat⟩:=dx.open
 obtain ⟨lb,lo,rfl,_,lS,t0,t1⟩:=hat l pl cI
 have cZ:=(List.getElem?_eq_some_iff.1 cI).1
 have nF:(l:Int)<(lv.length:Int):=by omega
 obtain ⟨W,hW,cK,hz,bx⟩:=qn w (.cells #[.pointer (some ⟨b,0,none⟩),.slice (some ⟨lb,lo,none⟩) lv.length lc,.int .i64 (bg.1:Nat),str bg.2] 117)
 have CW:=bc (C.out W cK)
 have c1:W.cell? ⟨b,1,none⟩=some (.int .i64 (l:Nat)):=(cK.cell (by exact zZ hc)).trans (by simp [World.cell?,hc])
 have t0W:=(cK.cell (p:=⟨lb,lo+l*2,none⟩) lS).trans t0
 have t1W:=(cK.cell (p:=⟨lb,lo+l*2+1,none⟩) lS).trans t1
 have Bt:lb<W.heap.size:=by omega
 have hbb:b<W.heap.size:=by have:=zZ hc;omega
 have KEY:Hid (∀ x,Below W.heap.size W x->x.cell? ⟨w.heap.size,0,none⟩=some (.pointer (some ⟨b,0,none⟩))/\x.cell? ⟨w.heap.size,1,none⟩=some (.slice (some ⟨lb,lo,none⟩) lv.length lc)/\x.cell? ⟨b,1,none⟩=some (.int .i64 (l:Nat))/\x.cell? ⟨lb,lo+l*2,none⟩=some (.int .i64 (pl.1:Nat))/\x.cell? ⟨lb,lo+l*2+1,none⟩=some (str pl.2)):=bc (fun x hx=>by
  obtain ⟨k0,k1,_,_⟩:=kH bx
  exact ⟨(hx.cell (be _ _ k0)).trans k0,(hx.cell (be _ _ k1)).trans k1,(hx.cell hbb).trans c1,(hx.cell Bt).trans t0W,(hx.cell Bt).trans t1W⟩)
 obtain ⟨e0,_,_,_⟩:=kH bx
 have a1:=fun w0=>kN (P:=Tryz.prog) [113] pl.2 (by simp;omega) w0
 rw [List.singleton_append] at a1
 generalize hM:113::pl.2=M at *
 have HW:=bc (bm hW cK)
 clear hW cK hz bx hc hb C hM hat cI dx t0 t1 t0W t1W c1 lS
 go_enter Tryz.func67,Tryz.ntmps67
 go_upto_region 1 with (fail)
 rw [HW.out.1]
 go_wp2_with fail
 (with_reducible refine CW.out.mono ?_)
 rintro en w1 ⟨rfl,ew⟩
 subst ew
 go_wp2_with fail
 refine wp_region_noPanic ?_
 refine kE (fun w'=>Below w1.heap.size w1 w') (fun i=>i == 10) (by kernel_rfl) ?_
 have cR:(fun w'=>Below w1.heap.size w1 w') w1.drew:=Below.drew (bi _ _)
 refine tk [0,1,2,3,4,5,6,7,8] cR ?_
 (intro d hd;simp [tkD] at hd;subst hd;simp only [tks,pQ,pZ,pS])
 iterate 9 (refine ⟨?_,?_,?_⟩;rotate_left;· (intro oi ho;simp at ho;subst ho;refine Or.inl ⟨by rfl,fun w' cL=>?_⟩;obtain ⟨e0,e1,e2,e3,e4⟩:=KEY.out w' cL;go_simp;try with_reducible rfl))
 (refine on 9 ?_;intro o ho K' hK;simp at ho;subst ho;go_simp)
 (refine hK.out _ _ (fun _=>cR.alloc (br _) _) ?_;clear hK K';try simp only [pQ,pN,pZ,pS])
 (refine on 10 ?_;intro o ho K' hK;simp at ho;subst ho;go_simp)
 (refine hK.out _ _ (fun h=>by simp at h) ?_;clear hK K';try simp only [pQ,pN,pZ,pS])
 refine kF (by kernel_rfl) (NoPanic.normal ?_) _
 obtain ⟨V,hV,hbV,_,bV⟩:=qn w1 (.cells #[.int .i64 (pl.1:Nat),str pl.2] 115)
 obtain ⟨v0,v1,_,_⟩:=qX bV
 have v0':V.drew.cell? ⟨w1.heap.size,0,none⟩=some (.int .i64 (pl.1:Nat)):=v0
 have v1':V.drew.cell? ⟨w1.heap.size,1,none⟩=some (str pl.2):=v1
 rw [hV]
 have HV:=bc (zzT HW.out.2 hbV)
 clear hV hbV bV cR v0' v1'
 go_wp2_with fail
 go_quiet (fail)
 go_wp2_with fail
 go_ret2
 exact ⟨rfl,zi HV.out.drew _⟩
theorem growP_any (n:Nat) (w:World) (hn:Lim n) :
 Calls Tryz.prog 145 #[.slice none 0 0,.int .i64 n] w fun en w' =>
  ∃ a c,en=.returned (.slice a 0 c)/\Own w' 115 2 (.slice a 0 c) 0 []/\Below w.heap.size w w'/\(∀ g,(Value.slice a 0 c).ownBlock=some g->w.heap.size<=g):=by
 have hl:=hn.le
 by_cases h0:n=0
 ·subst h0
  go_enter Tryz.func145,Tryz.ntmps145
  go_wp2_with fail
  go_ret
  exact ⟨none,0,rfl,World.ownsRow_nil _ _ _ _,bi _ _,fun g h=>by simp [Value.ownBlock] at h⟩
 ·have h1:0<n:=by omega
  clear h0
  go_enter Tryz.func145,Tryz.ntmps145
  go_wp2_with (at_builtin;refine vX rfl _ _ 113 3 rfl 115 (.agg #[.int .i64 0,str []]) 2 24 Tryz.underlying113 Tryz.underlying3 Tryz.infoPl rfl (by decide) (by decide) rfl n rfl h1 hl ?_)
  intro cap c me fQ n6
  go_wp2_with fail
  go_ret
  exact ⟨_,cap,rfl,⟨by simp,.inr ⟨w.heap.size,cap,c,rfl,Nat.zero_le _,zS w _,Nat.zero_le _,fQ,by simpa using n6,by simp⟩⟩,((bi _ _).alloc (br _) _).drew,fun g h=>by simp [Value.ownBlock] at h;omega⟩
def xK (e:TypeId) (w:World) (n1 n2:Nat) (xs1 xs2:List Value) (v i:Value) (wr:World):Prop :=
 ∃ k m xs a c,i=.int .i64 (k:Nat)/\v=.slice a m c/\Own wr e 2 (.slice a m c) m xs/\Below w.heap.size w wr/\(∀ g,(Value.slice a m c).ownBlock=some g->w.heap.size<=g) /\
   ((k=0/\m=0/\xs=[])\/(k=1/\m=n1/\xs=xs1)\/(k=2/\m=n1+n2/\xs=xs1++xs2))
theorem xK.next {e:TypeId} {w:World} {n1 n2:Nat} {xs1 xs2:List Value} {k m m':Nat} {xs:List Value} {a a':Option Addr} {c c':Nat} {wr w':World}
 (ho:Own w' e 2 (.slice a' m' c') m' xs) (hb:Below w.heap.size w wr) (cS:But (fun b=>(Value.slice a m c).ownBlock=some b) wr w')
 (hf:∀ g,(Value.slice a m c).ownBlock=some g->w.heap.size<=g) (hg:∀ g,(Value.slice a' m' c').ownBlock=some g->(Value.slice a m c).ownBlock=some g\/g=wr.heap.size)
 (hk:(k=0/\m'=0/\xs=[])\/(k=1/\m'=n1/\xs=xs1)\/(k=2/\m'=n1+n2/\xs=xs1++xs2)):xK e w n1 n2 xs1 xs2 (.slice a' m' c') (.int .i64 (k:Nat)) w' :=
 ⟨k,m',xs,a',c',rfl,rfl,ho,hb.trans (cS.toBelow hb.size fun i hi h=>by have:=hf i h;omega),fun g h=>by
  rcases hg g h with h | h
  ·exact hf g h
  ·have:=hb.size;omega,hk⟩
theorem concatP_any (b n1 n2:Nat) (s1 s2:Value) (xs1 xs2:List Value) (w:World) (c1:w.cell? ⟨b,0,none⟩=some s1) (c2:w.cell? ⟨b,1,none⟩=some s2)
 (h1:zM 2 s1 n1 xs1 w) (h2:zM 2 s2 n2 xs2 w) (cT:Lim n1) (fB:Lim n2) (hn:Lim (n1+n2)) :
 Calls Tryz.prog 134 #[.slice (some ⟨b,0,none⟩) 2 2] w fun en w' =>
  ∃ a c,en=.returned (.slice a (n1+n2) c)/\Own w' 115 2 (.slice a (n1+n2) c) (n1+n2) (xs1++xs2)/\Below w.heap.size w w'/\(∀ g,(Value.slice a (n1+n2) c).ownBlock=some g->w.heap.size<=g):=by
 obtain ⟨a1,k1,rfl⟩:=h1.slice
 obtain ⟨a2,k2,rfl⟩:=h2.slice
 have hl:=hn.le;have rF:=cT.le;have Bu:=fB.le
 have lb:b<w.heap.size:=be w _ c1
 go_enter Tryz.func134,Tryz.ntmps134
 go_wp2_with fail
 go_loop [3,11] (fun n i=>(i=.int .i64 0/\n=.int .i64 0)\/(i=.int .i64 1/\n=.int .i64 n1)\/(i=.int .i64 2/\n=.int .i64 ((n1:Int)+(n2:Int)))) (fun _ i=>2-(intOf i).toNat)
 case atStart=>exact .inl ⟨rfl,rfl⟩
 case round =>
  rcases hrel with ⟨rfl,rfl⟩ | ⟨rfl,rfl⟩ | ⟨rfl,rfl⟩
  ·go_wp2_with fail
   go_round
   case rel=>exact .inr (.inl ⟨rfl,rfl⟩)
   case measure=>simp [intOf]
  ·go_wp2_with fail
   go_round
   case rel=>exact .inr (.inr ⟨rfl,rfl⟩)
   case measure=>simp [intOf]
  ·go_wp2_with fail
   rw [show (n1:Int)+(n2:Int)=((n1+n2:Nat):Int) from by omega]
   refine (growP_any (n1+n2) w hn).mono ?_
   rintro en wg ⟨ag,cg,rfl,A3,fA,BM⟩
   have fE:xK 115 w n1 n2 xs1 xs2 (.slice ag 0 cg) (.int .i64 (0:Nat)) wg:=⟨0,0,[],ag,cg,rfl,rfl,A3,fA,BM,.inl ⟨rfl,rfl,rfl⟩⟩
   clear A3 fA BM
   go_wp2_with fail
   go_loopw [6,27] (fun v i wr=>xK 115 w n1 n2 xs1 xs2 v i wr) (fun _ i _=>2-(intOf i).toNat)
   case atStart=>exact fE
   case round =>
    rename_i wr
    obtain ⟨k,m,xs,a,c,rfl,rfl,ho,hb,hf,hk⟩:=hrel
    have d1:wr.cell? ⟨b,0,none⟩=some (.slice a1 n1 k1):=by rw [hb.cell lb];exact c1
    have d2:wr.cell? ⟨b,1,none⟩=some (.slice a2 n2 k2):=by rw [hb.cell lb];exact c2
    have g1:=h1.below hb;have g2:=h2.below hb
    have HF:=bc hf;clear hf
    rcases hk with ⟨rfl,rfl,rfl⟩ | ⟨rfl,rfl,rfl⟩ | ⟨rfl,rfl,rfl⟩
    ·go_wp2_with (at_builtin;refine zW rfl _ _ 113 rfl 115 (.agg #[.int .i64 0,str []]) 2 24 Tryz.underlying113 Tryz.infoPl rfl (by decide) _ 0 [] rfl ho _ n1 xs1 rfl g1 ?c3 ?c4 ?_)
     case c3=>unfold maxLen;omega
     case c4=>omega
     intro a' c' w' e9 co ch
     have fE:=xK.next (n1:=n1) (n2:=n2) (xs1:=xs1) (xs2:=xs2) (k:=1) e9 hb co HF.out ch (.inr (.inl ⟨rfl,rfl,rfl⟩))
     clear co ch e9 HF
     go_wp2_with fail
     go_roundw
     case rel=>exact fE
     case measure=>simp [intOf]
    ·go_wp2_with (at_builtin;refine zW rfl _ _ 113 rfl 115 (.agg #[.int .i64 0,str []]) 2 24 Tryz.underlying113 Tryz.infoPl rfl (by decide) _ m xs rfl ho _ n2 xs2 rfl g2 ?c3 ?c4 ?_)
     case c3=>unfold maxLen;omega
     case c4=>omega
     intro a' c' w' e9 co ch
     have fE:=xK.next (n1:=m) (n2:=n2) (xs1:=xs) (xs2:=xs2) (k:=2) e9 hb co HF.out ch (.inr (.inr ⟨rfl,rfl,rfl⟩))
     clear co ch e9 HF
     go_wp2_with fail
     go_roundw
     case rel=>exact fE
     case measure=>simp [intOf]
    ·go_wp2_with fail
     go_ret
     exact ⟨a,c,rfl,ho,hb,HF.out⟩
theorem Reps_lv (F:Nat->Prop) (w:World):∀ lv:List zj,zG F w (lvD lv) (lvC lv)
 | []=>zC.2 rfl
 | p::lv=>by
   rw [show lvD (p::lv)=DV.val (.int .i64 (p.1:Nat))::DV.val (str p.2)::lvD lv from rfl,show lvC (p::lv)=.int .i64 (p.1:Nat)::str p.2::lvC lv from rfl]
   exact zJ.2 ⟨_,_,rfl,zI.2 rfl,zJ.2 ⟨_,_,rfl,zI.2 rfl,Reps_lv F w lv⟩⟩
theorem xu {F:Nat->Prop} {w:World}:∀ (lv:List zj) (us:List Value),zG F w (lvD lv) us->us=lvC lv
 | [],us,h=>zC.1 h
 | p::lv,us,h=>by
   rw [show lvD (p::lv)=DV.val (.int .i64 (p.1:Nat))::DV.val (str p.2)::lvD lv from rfl] at h
   obtain ⟨u,us1,rfl,h1,h2⟩:=zJ.1 h
   obtain ⟨u2,us2,rfl,h3,h4⟩:=zJ.1 h2
   rw [zI] at h1 h3
   subst h1;subst h3
   rw [xu lv us2 h4];rfl
theorem lvC_one:∀ (lv:List zj),∀ u∈lvC lv,u.oneCell'=true
 | [],u,h=>by simp [lvC] at h
 | p::lv,u,h=>by
   rw [show lvC (p::lv)=.int .i64 (p.1:Nat)::str p.2::lvC lv from rfl] at h
   rcases List.mem_cons.1 h with rfl | h
   ·simp [Value.oneCell']
   ·rcases List.mem_cons.1 h with rfl | h
    ·simp [str,Value.oneCell']
    ·exact lvC_one lv u h
theorem jG.src {F:Nat->Prop} {w:World} {lv:List zj} {v:Value} (h:jG F w lv v):zM 2 v lv.length (lvC lv) w:=by
 obtain ⟨xs,hx,hs⟩:=zM.ofRep h (fun us hu u hm=>by rw [xu lv us hu] at hm;exact lvC_one lv u hm)
 rw [xu lv xs hx] at hs;exact hs
theorem plcs_eq (b:Nat) (p:Bs):∀ n:Nat,xT b p n=lvC (zx n b p)
 | 0=>rfl
 | n+1=>by rw [xT,plcs_eq b p n,placesOf_succ,g7];rfl
theorem Own.lv {F:Nat->Prop} {w:World} {lv:List zj} {a:Option Addr} {n c:Nat} (h:Own w 115 2 (.slice a n c) n (lvC lv)) (hn:n=lv.length) (hF:∀ g,(Value.slice a n c).ownBlock=some g->F g):jG F w lv (.slice a n c):=by
 subst hn
 exact h.rep hF (Reps_lv F w lv)
theorem jG.but {F F':Nat->Prop} {m:Nat->Prop} {w w':World} {lv:List zj} {v:Value} (h:jG F w lv v) (hb:But m w w') (hF:∀ b,F b->¬ m b/\F' b):jG F' w' lv v:=Rep.but hb hF h
theorem jG.below {F F':Nat->Prop} {w w':World} {lv:List zj} {v:Value} (h:jG F w lv v) (hb:Below w.heap.size w w') (hF:∀ b,F b->F' b):jG F' w' lv v:=Rep.below hb hF h
def StandP (bv:Value) (lv:List zj) (bg:zj) (w:World) (en:Ending) (w':World):Prop :=
 ∃ la lc,en=.returned (.agg #[bv,.slice la lv.length lc,.int .i64 (bg.1:Nat),str bg.2])/\Below w.heap.size w w'/\jG (w.heap.size<=·) w' lv (.slice la lv.length lc)
theorem uC {w:World} {b:Nat} {x y z u:Value} {T:TypeId} (h:w.heap[b]? = some (.cells #[x,y,z,u] T (0,0))) (x' y' z' u':Value):((((w.setCell ⟨b,0,none⟩ x').setCell ⟨b,1,none⟩ y').setCell ⟨b,2,none⟩ z').setCell ⟨b,3,none⟩ u').heap[b]? = some (.cells #[x',y',z',u'] T (0,0)):=by
 rw [kM (kM (kM (kM h)))];rfl
theorem zd {w:World} {b:Nat} {c:Array Value} {T:TypeId} (h:w.heap[b]? = some (.cells c T (0,0))) (o:Nat):w.frozen? ⟨b,o,none⟩=false:=by simp [World.frozen?,h]
set_option maxRecDepth 100000 in
theorem standOf_any (F:Nat->Prop) (t:Ty) (kv bv:Value) (idx:Nat) (w:World) (hg:qF w) (hk:Rep F w (jS t) kv) (ht:zV t<=15) (hbv:∃ a,bv=.pointer a) :
 Calls Tryz.prog 103 #[kv,bv,.int .i64 (idx:Nat)] w (StandP bv (zx t.args.length idx []) (idx,[]) w):=by
 obtain ⟨ba,rfl⟩:=hbv
 obtain ⟨kb,ks,rfl,_,hb,cO⟩:=zv hk
 obtain ⟨sa,sc,rfl,dz,b_,dV⟩:=zF cO
 have mQ:=jW t
 obtain ⟨W,hW,cK,hz,bx⟩:=qn w (.cells #[.pointer none,.slice none 0 0,.int .i64 0,str []] 117)
 have c0:W.cell? ⟨kb,0,none⟩=some (.slice sa t.args.length sc):=(cK.cell (by exact zZ hb)).trans (by simp [World.cell?,hb])
 have C:=bc (um t.args.length idx [] W (hg.below cK) (by omega) (by simp))
 have HW:=bc (bm hW (bm cK (bm hz bx)))
 clear hW cK hz bx hk hb cO dV b_ dz hg
 go_enter Tryz.func103,Tryz.ntmps103
 go_upto_region 1 with (fail)
 rw [HW.out.1]
 go_wp2_with fail
 (with_reducible refine C.out.mono ?_)
 rintro en w1 ⟨la,lc,rfl,ho,b9,hf⟩
 rw [plcs_eq] at ho
 have b1:=(b9.block _ (zZ HW.out.2.2.2)).trans HW.out.2.2.2
 obtain ⟨z0,z1,z2,z3⟩:=kH b1
 have f0:=zd b1 0;have f1:=zd b1 1;have f2:=zd b1 2;have f3:=zd b1 3
 have H1:=bc (bm ho (bm b9 (bm hf b1)))
 clear ho b9 hf b1 c0 C
 go_wp2_with fail
 have hV:=uC H1.out.2.2.2 (.pointer ba) (.slice la t.args.length lc) (.int .i64 (idx:Nat)) (str [])
 obtain ⟨s0,s1,s2,s3⟩:=kH hV
 have oR:=HW.out.2.2.1
 have eP:=((((zzT HW.out.2.1 H1.out.2.1).setCell (p:=⟨w.heap.size,0,none⟩) (br _) (.pointer ba)).setCell (p:=⟨w.heap.size,1,none⟩) (br _) (.slice la t.args.length lc)).setCell (p:=⟨w.heap.size,2,none⟩) (br _) (.int .i64 (idx:Nat))).setCell (p:=⟨w.heap.size,3,none⟩) (br _) (str [])
 refine bodyPost_ret (v:=.agg #[.pointer ba,.slice la t.args.length lc,.int .i64 (idx:Nat),str []]) (by simp [results,Tryz.results103,go_sem,s0,s1,s2,s3]) rfl ?_
 refine ⟨la,lc,by rw [kQ],eP,?_⟩
 rw [kQ]
 refine Own.lv ?_ (by rw [kQ]) (fun g hg=>by have:=H1.out.2.2.1 g hg;omega)
 exact H1.out.1.keep fun g o hg ho=>by
  have:=H1.out.2.2.1 g hg
  rw [b5 _ _ _ _ (by show g≠w.heap.size;omega),b5 _ _ _ _ (by show g≠w.heap.size;omega),b5 _ _ _ _ (by show g≠w.heap.size;omega),b5 _ _ _ _ (by show g≠w.heap.size;omega)];exact ho
def BehT (bv':Bd) (F:Nat->Prop) (lsl:Value) (bg:zj) (w:World) (en:Ending) (w':World):Prop :=
 ∃ a,en=.returned (.agg #[.pointer (some ⟨a,0,none⟩),lsl,.int .i64 (bg.1:Nat),str bg.2])/\Below w.heap.size w w'/\Rep F w (kp bv') (.pointer (some ⟨a,0,none⟩))
set_option maxRecDepth 100000 in
theorem behind_ans (c:UInt8) (hc:c=116\/c=102) (F:Nat->Prop) (l:Nat) (ss:List Bd) (y n:Bd) (bv kv:Value) (la:Option Addr) (ln lc:Nat) (bg:zj) (M:Bs) (idx:Nat) (w:World) (hb:Rep F w (kp (.ask l ss y n)) bv) (hM:0<M.length) (tG:M[0]=c) (aH:∃ a,kv=.pointer a) :
 Calls Tryz.prog 104 #[.agg #[bv,.slice la ln lc,.int .i64 (bg.1:Nat),str bg.2],kv,str M,.int .i64 (idx:Nat)] w (BehT (if c=116 then y else n) F (.slice la ln lc) bg w):=by
 obtain ⟨ka,rfl⟩:=aH
 obtain ⟨b,sl,yv,nv,rfl,_,sQ,hs,hy,hn⟩:=yd hb
 obtain ⟨ya,rfl⟩:=kU hy
 obtain ⟨na,rfl⟩:=kU hn
 obtain ⟨W,hW,cK,hz,b0,b1⟩:=boxes_2 w (.cells #[.pointer (some ⟨b,0,none⟩),.slice la ln lc,.int .i64 (bg.1:Nat),str bg.2] 117) (.cells #[.pointer none,.slice none 0 0,.int .i64 0,str []] 117)
 have nT:W.heap[b]? = w.heap[b]?:=cK.block _ (zZ sQ)
 have cY:W.cell? ⟨b,3,none⟩=some (.pointer (some ⟨ya,0,none⟩)):=by simp [World.cell?,nT,sQ]
 have cN:W.cell? ⟨b,4,none⟩=some (.pointer (some ⟨na,0,none⟩)):=by simp [World.cell?,nT,sQ]
 obtain ⟨e0,e1,e2,e3⟩:=kH b0
 have f0:=zd b0 0
 have Q:=bc (bm hy hn)
 have HW:=bc (bm hW (bm cK (bm hz (bm b0 b1))))
 clear hW cK hz b0 b1 nT sQ hs hy hn hb e1 e2 e3
 rcases hc with rfl | rfl
 ·have q1:=j7 hM (c:=116) (n:=116) rfl tG
  clear tG
  go_enter Tryz.func104,Tryz.ntmps104
  go_upto_region 1 with (fail)
  rw [HW.out.1]
  go_upto_region 10 with (fail)
  obtain ⟨W2,cM⟩:=zzN (W.setCell ⟨w.heap.size,0,none⟩ (.pointer (some ⟨ya,0,none⟩)))
  have x0:W2.heap[w.heap.size]? = some (.cells #[.pointer (some ⟨ya,0,none⟩),.slice la ln lc,.int .i64 (bg.1:Nat),str bg.2] 117 (0,0)):=by rw [<- cM,kM HW.out.2.2.2.1];rfl
  have x1:W2.heap[w.heap.size+1]? = some (.cells #[.pointer none,.slice none 0 0,.int .i64 0,str []] 117 (0,0)):=by rw [<- cM,b5 _ _ _ _ (by show w.heap.size+1≠w.heap.size;omega)];exact HW.out.2.2.2.2
  have b8:Below w.heap.size w W2:=by rw [<- cM];exact HW.out.2.1.setCell (p:=⟨w.heap.size,0,none⟩) (br _) _
  rw [cM]
  obtain ⟨y0,y1,y2,y3⟩:=kH x0
  obtain ⟨z0,z1,z2,z3⟩:=kH x1
  have g0:=zd x1 0;have g1:=zd x1 1;have g2:=zd x1 2;have g3:=zd x1 3
  have H2:=bc (bm b8 x1)
  clear b8 x0 x1 cM e0 f0 cY cN
  go_wp2_with fail
  have hV:=uC H2.out.2 (.pointer (some ⟨ya,0,none⟩)) (.slice la ln lc) (.int .i64 (bg.1:Nat)) (str bg.2)
  obtain ⟨s0,s1,s2,s3⟩:=kH hV
  have eP:=(((H2.out.1.setCell (p:=⟨w.heap.size+1,0,none⟩) (Nat.le_succ _) (.pointer (some ⟨ya,0,none⟩))).setCell (p:=⟨w.heap.size+1,1,none⟩) (Nat.le_succ _) (.slice la ln lc)).setCell (p:=⟨w.heap.size+1,2,none⟩) (Nat.le_succ _) (.int .i64 (bg.1:Nat))).setCell (p:=⟨w.heap.size+1,3,none⟩) (Nat.le_succ _) (str bg.2)
  refine bodyPost_ret (v:=.agg #[.pointer (some ⟨ya,0,none⟩),.slice la ln lc,.int .i64 (bg.1:Nat),str bg.2]) (by simp [results,Tryz.results104,go_sem,s0,s1,s2,s3]) rfl ?_
  exact ⟨_,rfl,eP,Q.out.1⟩
 ·have q0:=qt hM (c:=116) (n:=116) rfl (by rw [tG];decide)
  have q1:=j7 hM (c:=102) (n:=102) rfl tG
  clear tG
  go_enter Tryz.func104,Tryz.ntmps104
  go_upto_region 1 with (fail)
  rw [HW.out.1]
  go_upto_region 10 with (fail)
  obtain ⟨W2,cM⟩:=zzN (W.setCell ⟨w.heap.size,0,none⟩ (.pointer (some ⟨na,0,none⟩)))
  have x0:W2.heap[w.heap.size]? = some (.cells #[.pointer (some ⟨na,0,none⟩),.slice la ln lc,.int .i64 (bg.1:Nat),str bg.2] 117 (0,0)):=by rw [<- cM,kM HW.out.2.2.2.1];rfl
  have x1:W2.heap[w.heap.size+1]? = some (.cells #[.pointer none,.slice none 0 0,.int .i64 0,str []] 117 (0,0)):=by rw [<- cM,b5 _ _ _ _ (by show w.heap.size+1≠w.heap.size;omega)];exact HW.out.2.2.2.2
  have b8:Below w.heap.size w W2:=by rw [<- cM];exact HW.out.2.1.setCell (p:=⟨w.heap.size,0,none⟩) (br _) _
  rw [cM]
  obtain ⟨y0,y1,y2,y3⟩:=kH x0
  obtain ⟨z0,z1,z2,z3⟩:=kH x1
  have g0:=zd x1 0;have g1:=zd x1 1;have g2:=zd x1 2;have g3:=zd x1 3
  have H2:=bc (bm b8 x1)
  clear b8 x0 x1 cM e0 f0 cY cN
  go_wp2_with fail
  have hV:=uC H2.out.2 (.pointer (some ⟨na,0,none⟩)) (.slice la ln lc) (.int .i64 (bg.1:Nat)) (str bg.2)
  obtain ⟨s0,s1,s2,s3⟩:=kH hV
  have eP:=(((H2.out.1.setCell (p:=⟨w.heap.size+1,0,none⟩) (Nat.le_succ _) (.pointer (some ⟨na,0,none⟩))).setCell (p:=⟨w.heap.size+1,1,none⟩) (Nat.le_succ _) (.slice la ln lc)).setCell (p:=⟨w.heap.size+1,2,none⟩) (Nat.le_succ _) (.int .i64 (bg.1:Nat))).setCell (p:=⟨w.heap.size+1,3,none⟩) (Nat.le_succ _) (str bg.2)
  refine bodyPost_ret (v:=.agg #[.pointer (some ⟨na,0,none⟩),.slice la ln lc,.int .i64 (bg.1:Nat),str bg.2]) (by simp [results,Tryz.results104,go_sem,s0,s1,s2,s3]) rfl ?_
  exact ⟨_,rfl,eP,Q.out.2⟩
inductive Tr where
 | am (a:Bs)
 | ls (ps:List Tr)
def trT:Ty->Tr
 | .mk ts=>trTs ts
where trTs:List Ty->Tr
 | []=>.am [98]
 | t::ts=>.ls [.am [62],trT t,trTs ts]


def BoxT (g:Nat) (s:Bs) (k:Value) (w:World):Prop:=w.cell? ⟨g,0,none⟩=some (str s)/\w.cell? ⟨g,1,none⟩=some k
theorem BoxT.below {g:Nat} {s:Bs} {k:Value} {w w':World} (h:BoxT g s k w) (hb:Below w.heap.size w w'):BoxT g s k w':=by
 obtain ⟨h1,h2⟩:=h
 have:=be w _ h1
 exact ⟨by rw [hb.cell (by exact this)];exact h1,by rw [hb.cell (by exact this)];exact h2⟩

theorem q_int (c:UInt8):((c.toNat:Int) == 113)=(c == 113):=by
 rw [Bool.eq_iff_iff,beq_iff_eq,beq_iff_eq]
 constructor
 ·intro h
  have:c.toNat=(113:UInt8).toNat:=by rw [show ((113:UInt8).toNat)=113 from rfl];omega
  exact UInt8.toNat_inj.1 this
 ·intro h;subst h;rfl
theorem odd_int (n:Nat):((n:Int) % 2 == 1)=decide (n % 2=1):=by
 rw [Bool.eq_iff_iff,beq_iff_eq,decide_eq_true_iff];omega
theorem ext_tail' (c:UInt8) (p:Bs):(⟨(c::p).toArray⟩:ByteArray).extract 1 (c::p).length=⟨p.toArray⟩:=by rw [vB,List.take_length];rfl
set_option maxRecDepth 20000 in
theorem jj (c:UInt8) (p:Bs) (w:World):Calls Tryz.prog 114 #[str (c::p)] w fun en w'=>en=.returned (.bool (isQ (c::p)))/\w'=w:=by
 obtain ⟨M,hM⟩:=zzM (c::p)
 have tG:0<M.length:=by rw [hM];simp
 have hM0I:(0:Int)<(M.length:Int):=by omega
 have B0:((((⟨M.toArray⟩:ByteArray)[0]'(k9 tG)).toNat:Int))=(c.toNat:Int):=by rw [j8 tG];subst hM;rfl
 have E:=bc (show isQ (c::p)=((c.toNat:Int) == 113) by rw [qH,q_int])
 rw [<- hM] at E ⊢
 clear hM
 go_enter Tryz.func114,Tryz.ntmps114
 go_wp2_with fail
 go_ret
 exact ⟨by rw [E.out];rfl,rfl⟩
set_option maxRecDepth 20000 in
theorem vq (c:UInt8) (p:Bs) (hl:p.length<=16777216) (w:World):Calls Tryz.prog 94 #[str (c::p)] w fun en w'=>en=.returned (.bool (qZ (c::p)))/\w'=w:=by
 have C:=bc (jj c p w)
 obtain ⟨bq,li⟩:=zzN (isQ (c::p))
 have E:=bc (show qZ (c::p)=(decide (((c::p).length:Nat) % 2=1) == bq) by rw [<- li];rfl)
 rw [li] at C
 obtain ⟨M,hM⟩:=zzM (c::p)
 have hMl:M.length<=16777217:=by rw [hM];simp;omega
 rw [<- hM] at E C ⊢
 clear hM li
 go_enter Tryz.func94,Tryz.ntmps94
 go_wp2_with fail
 (with_reducible refine C.out.mono ?_)
 rintro en w1 ⟨rfl,e⟩
 subst e
 go_wp2_with fail
 go_ret
 refine ⟨?_,rfl⟩
 rw [E.out,<- odd_int]
 rfl
set_option maxRecDepth 20000 in
theorem enabler_any (c:UInt8) (p:Bs) (hl:p.length<=16777216) (w:World):Calls Tryz.prog 107 #[str (c::p)] w fun en w'=>en=.returned (.string ⟨(uY (c::p)).toArray⟩)/\w'=w:=by
 by_cases h0:c::p=[113]
 ·rw [h0,show uY [113]=[] from rfl]
  go_enter Tryz.func107,Tryz.ntmps107
  go_wp2_with fail
  go_ret
  exact ⟨rfl,rfl⟩
 ·have q1:((c::p:Bs) == [113])=false:=by rw [beq_eq_false_iff_ne];exact h0
  have C:=bc (jj c p w)
  by_cases hc:c=113
  ·subst hc
   rw [qH,show ((113:UInt8) == 113)=true from rfl] at C
   cases p with
   | nil=>exact absurd rfl h0
   | cons d q =>
     have e:uY (113::d::q)=(113::d::q).take (q.length+1):=by
      unfold uY
      rw [if_neg h0,qH,show ((113:UInt8) == 113)=true from rfl,if_pos rfl,List.dropLast_eq_take];simp
     rw [e]
     obtain ⟨M,hM⟩:=zzM (113::d::q)
     obtain ⟨m1,tO⟩:=zzM (q.length+1)
     rw [<- hM] at q1 C ⊢
     rw [<- tO]
     have hMl:M.length=m1+1:=by rw [hM,tO];simp
     rw [List.length_cons] at hl
     have ex:(⟨M.toArray⟩:ByteArray).extract 0 m1=⟨(M.take m1).toArray⟩:=by rw [vB];rfl
     have hw:IntKind.i64.wrap ((M.length:Int)-1)=(m1:Int):=by
      rw [hMl,show ((m1+1:Nat):Int)-1=(m1:Int) from by omega]
      exact qu _ (by omega)
     have d_:(m1:Int)<=(M.length:Int):=by omega
     obtain ⟨R,hR⟩:=zzM (M.take m1)
     rw [<- hR] at ex ⊢
     clear hR e h0 hM tO hMl
     go_enter Tryz.func107,Tryz.ntmps107
     go_wp2_with fail
     (with_reducible refine C.out.mono ?_)
     rintro en w1 ⟨rfl,e⟩
     subst e
     go_wp2_with fail
     go_ret
     exact ⟨rfl,rfl⟩
  ·rw [qH,show (c == 113)=false from by simp [hc]] at C
   have e:uY (c::p)=113::p:=by
    unfold uY
    rw [if_neg h0,qH,show (c == 113)=false from by simp [hc],if_neg (by simp),List.tail_cons]
   rw [e]
   have ex:(⟨(c::p).toArray⟩:ByteArray).extract 1 (p.length+1)=⟨p.toArray⟩:=ext_tail' c p
   have a1:=fun w0=>kN (P:=Tryz.prog) [113] p (by simp;omega) w0
   rw [List.singleton_append] at a1
   have h1p:(1:Int)<=(p.length:Int)+1:=by omega
   obtain ⟨R,hR⟩:=zzM (113::p)
   rw [<- hR] at a1 ⊢
   clear hR e h0
   go_enter Tryz.func107,Tryz.ntmps107
   go_wp2_with fail
   (with_reducible refine C.out.mono ?_)
   rintro en w1 ⟨rfl,e⟩
   subst e
   go_wp2_with fail
   go_ret
   exact ⟨rfl,rfl⟩
set_option maxRecDepth 20000 in
theorem hasMove_any (F:Nat->Prop) (t:Ty) (kv:Value) (m:Bs) (w:World) (hk:Rep F w (jS t) kv) (ht:zV t<=15) (hl:Lim m.length) :
 Calls Tryz.prog 106 #[kv,str m] w fun en w'=>en=.returned (.bool (xJ t m))/\w'=w:=by
 obtain ⟨kb,ks,rfl,_⟩:=zv hk
 cases m with
 | nil =>
   go_enter Tryz.func106,Tryz.ntmps106
   go_wp2_with fail
   go_ret
   exact ⟨rfl,rfl⟩
 | cons c p =>
   have eS:=hl.le
   rw [List.length_cons] at eS
   have C1:=bc (Tryz.strings_IndexByte ⟨#[113,116,102]⟩ (c.toNat:Int) w)
   have hcc:(c.toNat:Int).toNat.toUInt8=c:=by simp
   rw [hcc] at C1
   obtain ⟨ix,hix⟩:=zzN (Lib.indexByte (#[113,116,102]:Array UInt8).toList c)
   rw [hix] at C1
   have iv:decide (0<=ix)=(c == 113 || c == 116 || c == 102):=by
    have h:=Lib.contains_iff_indexByte [113,116,102] c
    have hix':Lib.indexByte [113,116,102] c=ix:=hix
    rw [hix'] at h
    rw [<- h]
    simp only [List.contains,List.elem]
    cases c == 113 <;> cases c == 116 <;> cases c == 102 <;> rfl
   have C2:=bc (h_ F t p (.pointer (some ⟨kb,0,none⟩)) w hk ht (show _<=_ by omega))
   have E:Hid (xJ t (c::p)=(decide (0<=ix) && (atT t p).isSome)):=by rw [iv];exact bc rfl
   obtain ⟨M,hM⟩:=zzM (c::p)
   have tG:0<M.length:=by rw [hM];simp
   have hM0I:(0:Int)<(M.length:Int):=by omega
   have hM1I:(1:Int)<=(M.length:Int):=by omega
   have B0:((((⟨M.toArray⟩:ByteArray)[0]'(k9 tG)).toNat:Int))=(c.toNat:Int):=by rw [j8 tG];subst hM;rfl
   have q0:((M:Bs) == [])=false:=by rw [hM];rfl
   have q0':((M:Bs) != [])=true:=by rw [hM];rfl
   have ex:(⟨M.toArray⟩:ByteArray).extract 1 M.length=⟨p.toArray⟩:=by rw [hM];exact ext_tail' c p
   rw [<- hM] at E ⊢
   clear hM hcc hix hl hk iv
   by_cases r9:0<=ix
   ·go_enter Tryz.func106,Tryz.ntmps106
    go_wp2_with fail
    refine C1.out.mono ?_
    rintro en w1 ⟨rfl,e⟩
    subst e
    go_wp2_with fail
    refine C2.out.mono ?_
    rintro en w2 ⟨v,rfl,e,hn,hy⟩
    subst e
    cases hat:atT t p with
    | none =>
      obtain rfl:=hn hat
      have E2:=bc (show xJ t M=false by rw [E.out,hat];simp)
      clear hn hy hat E
      go_wp2_with fail
      go_ret
      exact ⟨by rw [E2.out];rfl,rfl⟩
    | some a =>
      obtain ⟨ka,_,rfl,_⟩:=zv (hy a hat)
      have E2:=bc (show xJ t M=true by rw [E.out,hat];simp [r9])
      clear hn hy hat E
      go_wp2_with fail
      go_ret
      exact ⟨by rw [E2.out];rfl,rfl⟩
   ·have E2:=bc (show xJ t M=false by rw [E.out];simp [r9])
    clear E
    go_enter Tryz.func106,Tryz.ntmps106
    go_wp2_with fail
    refine C1.out.mono ?_
    rintro en w1 ⟨rfl,e⟩
    subst e
    go_wp2_with fail
    go_ret
    exact ⟨by rw [E2.out];rfl,rfl⟩

theorem ext_tail (c:UInt8) (p:Bs):(⟨(c::p).toArray⟩:ByteArray).extract 1 (c::p).length=⟨p.toArray⟩:=by rw [vB,List.take_length];rfl
def BehQ (b':Bd) (lv:List zj) (bg:zj) (F:Nat->Prop) (w:World) (en:Ending) (w':World):Prop :=
 ∃ a la lc,en=.returned (.agg #[.pointer (some ⟨a,0,none⟩),.slice la lv.length lc,.int .i64 (bg.1:Nat),str bg.2])/\Below w.heap.size w w'/\Rep F w (kp b') (.pointer (some ⟨a,0,none⟩))/\jG (w.heap.size<=·) w' lv (.slice la lv.length lc)
set_option maxRecDepth 100000 in
theorem behind_q (F:Nat->Prop) (t a:Ty) (l j:Nat) (ss:List Bd) (s y n:Bd) (bv kv lsl:Value) (lv:List zj) (bg:zj) (p:Bs) (idx:Nat) (w:World) (hg:qF w) (hb:Rep F w (kp (.ask l ss y n)) bv) (hk:Rep F w (jS t) kv) (dx:jG F w lv lsl) (ht:zV t<=15)
 (hs:ss[j]? = some s) (hj:j<10) (hp:0<p.length) (cI:p.length<=1000) (dw:p[p.length-1]=qi j) (hat:atT t p=some a) (rE:lv.length<=100000) (hssl:ss.length<=100000) :
 Calls Tryz.prog 104 #[.agg #[bv,lsl,.int .i64 (bg.1:Nat),str bg.2],kv,str (113::p),.int .i64 (idx:Nat)] w (BehQ s (lv++zx a.args.length idx p) (idx,p) F w):=by
 obtain ⟨kb,ks,rfl,_,ri,hkr⟩:=zv hk
 obtain ⟨la,lc,rfl,_⟩:=dx.open
 obtain ⟨b,sl,yv,nv,rfl,_,sQ,oO,hy,hn⟩:=yd hb
 obtain ⟨sa,sc,rfl,dz,b_,dV⟩:=zF oO
 have hjl:=(List.getElem?_eq_some_iff.1 hs).1
 obtain ⟨sb,so,su,sd,rfl,_,rh,hsd,nu,hsu⟩:=dV j hjl
 rw [bC,hs] at hsd
 obtain rfl:=Option.some.inj hsd
 obtain ⟨ab,rfl⟩:=kU hsu
 obtain ⟨W,hW,cK,hz,b0,b1⟩:=boxes_2 w (.cells #[.pointer (some ⟨b,0,none⟩),.slice la lv.length lc,.int .i64 (bg.1:Nat),str bg.2] 117) (.cells #[.pointer none,.slice none 0 0,.int .i64 0,str []] 117)
 have a15:=jE _ _ _ hat
 have aarg:=jW a
 have KEY:Hid (∀ x,Below W.heap.size W x->x.cell? ⟨w.heap.size,0,none⟩=some (.pointer (some ⟨b,0,none⟩))/\x.cell? ⟨b,2,none⟩=some (.slice (some ⟨sb,so,none⟩) ss.length sc)/\x.cell? ⟨sb,so+j,none⟩=some (.pointer (some ⟨ab,0,none⟩))):=bc (fun x hx=>by
  obtain ⟨k0,_,_,_⟩:=kH b0
  have k2:W.cell? ⟨b,2,none⟩=some (.slice (some ⟨sb,so,none⟩) ss.length sc):=(cK.cell (by exact zZ sQ)).trans (by simp [World.cell?,sQ])
  have k3:W.cell? ⟨sb,so+j,none⟩=some (.pointer (some ⟨ab,0,none⟩)):=(cK.cell rh).trans nu
  exact ⟨(hx.cell (be _ _ k0)).trans k0,(hx.cell (be _ _ k2)).trans k2,(hx.cell (be _ _ k3)).trans k3⟩)
 have f0:=zd b0 0
 have ex:(⟨(113::p).toArray⟩:ByteArray).extract 1 (p.length+1)=⟨p.toArray⟩:=ext_tail 113 p
 obtain ⟨m1,tO⟩:=zzM (p.length-1)
 have hpm:IntKind.i64.wrap ((p.length:Int)-1)=(m1:Int):=by rw [show (p.length:Int)-1=(m1:Int) from by omega];exact qu _ (by omega)
 have hpi:m1<p.length:=by omega
 have rF:p[m1]=qi j:=by subst tO;exact dw
 have B:((((⟨p.toArray⟩:ByteArray)[m1]'(k9 hpi)).toNat:Int))=48+(j:Int):=by rw [j8 hpi,rF,y8 hj];omega
 have hj8:IntKind.u8.wrap (48+(j:Int)-48)=(j:Int):=by simp [IntKind.wrap,IntKind.bits,IntKind.signed];omega
 have hjI:(j:Int)<(ss.length:Int):=by omega
 have hm1I:(m1:Int)<(p.length:Int):=by omega
 have HW:=bc (bm hW (bm cK (bm hz (bm b0 b1))))
 have HA:=bc (bm hg (bm hk (bm dx (bm hat (bm hsu (bm ht (bm a15 aarg)))))))
 have HL:=bc (bm cI rE)
 clear hW cK hz b0 b1 sQ oO hy hn hb dV b_ dz nu rh hsu hg hk dx ri hkr hat hs dw ht a15 aarg tO rF cI rE
 go_enter Tryz.func104,Tryz.ntmps104
 go_upto_region 1 with (fail)
 rw [HW.out.1]
 go_upto_region 3 with (fail)
 refine wp_region_noPanic ?_
 refine kE (fun w'=>Below W.heap.size W w') (fun i=>i == 14) (by kernel_rfl) ?_
 have cR:(fun w'=>Below W.heap.size W w') W.drew:=Below.drew (bi _ _)
 refine tk [0,1,2,3,4,5,6,7,8,9,10,11,12,13] cR ?_
 (intro d hd;simp [tkD] at hd;subst hd;simp only [tks,pQ,pZ,pS])
 iterate 14 (refine ⟨?_,?_,?_⟩;rotate_left;· (intro oi ho;simp at ho;subst ho;refine Or.inl ⟨by rfl,fun w' cL=>?_⟩;obtain ⟨e0,e1,e2⟩:=KEY.out w' cL;go_simp;try with_reducible rfl))
 (refine on 14 ?_;intro o ho K' hK;simp at ho;subst ho)
 obtain ⟨e0,_,_⟩:=KEY.out W (bi _ _)
 go_simp
 (refine hK.out _ _ (fun h=>by simp at h) ?_;clear hK K';try simp only [pQ,pN,pZ,pS])
 refine kF (by kernel_rfl) (NoPanic.normal ?_) _
 obtain ⟨W2,cM⟩:=zzN ((W.setCell ⟨w.heap.size,0,none⟩ (.pointer (some ⟨ab,0,none⟩))).drew)
 have x0:W2.heap[w.heap.size]? = some (.cells #[.pointer (some ⟨ab,0,none⟩),.slice la lv.length lc,.int .i64 (bg.1:Nat),str bg.2] 117 (0,0)):=by
  rw [<- cM];show (W.setCell ⟨w.heap.size,0,none⟩ (.pointer (some ⟨ab,0,none⟩))).heap[w.heap.size]? = _
  rw [kM HW.out.2.2.2.1];rfl
 have x1:W2.heap[w.heap.size+1]? = some (.cells #[.pointer none,.slice none 0 0,.int .i64 0,str []] 117 (0,0)):=by
  rw [<- cM];show (W.setCell ⟨w.heap.size,0,none⟩ (.pointer (some ⟨ab,0,none⟩))).heap[w.heap.size+1]? = _
  rw [b5 _ _ _ _ (by show w.heap.size+1≠w.heap.size;omega)];exact HW.out.2.2.2.2
 have m7:Below w.heap.size w W2:=by rw [<- cM];exact (HW.out.2.1.setCell (p:=⟨w.heap.size,0,none⟩) (br _) _).drew
 have nj:W2.heap.size=w.heap.size+2:=by rw [<- cM];show (W.setCell ⟨w.heap.size,0,none⟩ _).heap.size=_;simp [World.setCell,HW.out.2.2.1]
 rw [cM]
 have K2:Hid (∀ x,Below W2.heap.size W2 x->x.cell? ⟨w.heap.size,1,none⟩=some (.slice la lv.length lc)):=bc (fun x hx=>by
  obtain ⟨_,k1,_,_⟩:=kH x0
  exact (hx.cell (be _ _ k1)).trans k1)
 have CA:Hid (∀ wz,Below W2.heap.size W2 wz->Calls Tryz.prog 135 #[.pointer (some ⟨kb,0,none⟩),str p] wz fun en w'=>∃ oN An Am,en=.returned (.pointer (some ⟨oN,0,none⟩))/\w'=wz/\wz.cell? ⟨oN,0,none⟩=some (.slice An a.args.length Am)):=bc (fun wz hz=>by
  have ro:=HA.out.2.1.below (zzT m7 hz) (fun _ h=>h)
  have cI:=HL.out.1
  refine (h_ F t p _ wz ro HA.out.2.2.2.2.2.1 (show _<=_ by omega)).mono ?_
  rintro en w' ⟨v,rfl,rfl,_,hy⟩
  obtain ⟨oN,ks2,rfl,_,fQ,dR⟩:=zv (hy a HA.out.2.2.2.1)
  obtain ⟨An,Am,rfl,_⟩:=zF dR
  exact ⟨oN,An,Am,rfl,rfl,by simp [World.cell?,fQ]⟩)
 have CP:=bc (fun wz (hz:Below W2.heap.size W2 wz)=>um a.args.length idx p wz (HA.out.1.below (zzT m7 hz)) (by have:=HA.out.2.2.2.2.2;omega) (by have:=HL.out.1;omega))
 have CC:=bc (fun x pa pc (hx:Below W2.heap.size W2 x) (ho:Own x 115 2 (.slice pa a.args.length pc) a.args.length (xT idx p a.args.length)) =>
  concatP_any x.heap.size lv.length a.args.length (.slice la lv.length lc) (.slice pa a.args.length pc) (lvC lv) (lvC (zx a.args.length idx p)) (x.alloc (.cells #[.slice la lv.length lc,.slice pa a.args.length pc] 113)) (by simp) (by simp)
   ((HA.out.2.2.1.below (zzT m7 hx) (fun _ h=>h)).src.alloc _) ((zM.ofOwn (by rw [plcs_eq] at ho;exact ho) (lvC_one _)).alloc _) (show _<=_ by have:=HL.out.2;omega) (show _<=_ by have:=HA.out.2.2.2.2.2;omega) (show _<=_ by have:=HL.out.2;have:=HA.out.2.2.2.2.2;omega))
 have H2:=bc (bm x0 (bm x1 (bm m7 nj)))
 clear cM x0 x1 m7 nj cR KEY f0 ex hpm B hj8 hjI hm1I
 go_upto_region 4 with (fail)
 refine wp_region_noPanic ?_
 refine kE (fun w'=>Below W2.heap.size W2 w') (fun i=>i == 15) (by kernel_rfl) ?_
 have cR:(fun w'=>Below W2.heap.size W2 w') W2.drew:=Below.drew (bi _ _)
 refine tk [0,1,2,3,9,10] cR ?_
 (intro d hd;simp [tkD] at hd;subst hd;simp only [tks,pQ,pZ,pS])
 iterate 6 (refine ⟨?_,?_,?_⟩;rotate_left;· (intro oi ho;simp at ho;subst ho;refine Or.inl ⟨by rfl,fun w' cL=>?_⟩;have e1:=K2.out w' cL;go_simp;try with_reducible rfl))
 (refine on 4 ?_;intro o ho K' hK;simp at ho;subst ho;go_simp)
 go_at_call 135
 (with_reducible refine (CA.out _ cR).mono ?_)
 rintro en x4 ⟨oN,An,Am,rfl,ex4,hc4⟩
 subst ex4
 have B3:Hid (∀ x,Below W2.heap.size W2 x->x.cell? ⟨oN,0,none⟩=some (.slice An a.args.length Am)):=bc (fun x hx=>(hx.cell (be W2 _ hc4)).trans hc4)
 (refine hK.out _ _ (fun _=>cR) ?_;clear hK K';try simp only [pQ,pN,pZ,pS])
 have hS4:=cR
 refine tk [5,6,7,8] hS4 ?_
 (intro d hd;simp [tkD] at hd;subst hd;simp only [tks,pQ,pZ,pS])
 iterate 4 (refine ⟨?_,?_,?_⟩;rotate_left;· (intro oi ho;simp at ho;subst ho;refine Or.inl ⟨by rfl,fun w' cL=>?_⟩;have e1:=B3.out w' cL;go_simp;try with_reducible rfl))
 (refine on 11 ?_;intro o ho K' hK;simp at ho;subst ho;go_simp)
 go_at_call 111
 (with_reducible refine (CP.out _ cR).mono ?_)
 rintro en Al ⟨pa,pc,rfl,A8,tU,hf11⟩
 have nI:Below W2.heap.size W2 Al:=Below.trans cR (tU.mono (Below.size cR))
 (refine hK.out _ _ (fun _=>nI) ?_;clear hK K';try simp only [pQ,pN,pZ,pS])
 (refine on 12 ?_;intro o ho K' hK;simp at ho;subst ho;go_simp)
 (refine hK.out _ _ (fun _=>nI.alloc nI.size _) ?_;clear hK K';try simp only [pQ,pN,pZ,pS])
 (refine on 13 ?_;intro o ho K' hK;simp at ho;subst ho)
 have au:Below W2.heap.size W2 (Al.alloc (.cells #[.slice la lv.length lc,.slice pa a.args.length pc] 113)):=nI.alloc nI.size _
 go_simp
 go_at_call 134
 (with_reducible refine (CC.out Al pa pc nI A8).mono ?_)
 rintro en x13 ⟨ca,cc,rfl,A7,Cg,BQ⟩
 have rq:Below W2.heap.size W2 x13:=zzT au Cg
 (refine hK.out _ _ (fun _=>rq) ?_;clear hK K';try simp only [pQ,pN,pZ,pS])
 have Cr:=rq
 refine tk [14] Cr ?_
 (intro d hd;simp [tkD] at hd;subst hd;simp only [tks,pQ,pZ,pS])
 (refine ⟨?_,?_,?_⟩;rotate_left;· (intro oi ho;simp at ho;subst ho;refine Or.inl ⟨by rfl,fun w' cL=>?_⟩;go_simp;try with_reducible rfl))
 (refine on 15 ?_;intro o ho K' hK;simp at ho;subst ho)
 have xx0:=(rq.block _ (zZ H2.out.1)).trans H2.out.1
 obtain ⟨_,e1,_,_⟩:=kH xx0
 have f1:=zd xx0 1
 go_simp
 (refine hK.out _ _ (fun h=>by simp at h) ?_;clear hK K';try simp only [pQ,pN,pZ,pS])
 refine kF (by kernel_rfl) (NoPanic.normal ?_) _
 obtain ⟨W3,sJ⟩:=zzN (x13.setCell ⟨w.heap.size,1,none⟩ (.slice ca (lv.length+a.args.length) cc))
 have y0:W3.heap[w.heap.size]? = some (.cells #[.pointer (some ⟨ab,0,none⟩),.slice ca (lv.length+a.args.length) cc,.int .i64 (bg.1:Nat),str bg.2] 117 (0,0)):=by rw [<- sJ,kM xx0];rfl
 have xx1:=(rq.block _ (zZ H2.out.2.1)).trans H2.out.2.1
 have y1:W3.heap[w.heap.size+1]? = some (.cells #[.pointer none,.slice none 0 0,.int .i64 0,str []] 117 (0,0)):=by rw [<- sJ,b5 _ _ _ _ (by show w.heap.size+1≠w.heap.size;omega)];exact xx1
 have Cj:Below w.heap.size w W3:=by rw [<- sJ];exact (zzT H2.out.2.2.1 rq).setCell (p:=⟨w.heap.size,1,none⟩) (br _) _
 have iq:∀ g,(Value.slice ca (lv.length+a.args.length) cc).ownBlock=some g->w.heap.size+2<=g:=fun g hg=>by
  have h1:=BQ g hg
  have h2:=au.size
  have h3:=H2.out.2.2.2
  omega
 have cV:Own W3 115 2 (.slice ca (lv.length+a.args.length) cc) (lv.length+a.args.length) (lvC (lv++zx a.args.length idx p)):=by
  rw [g7,<- sJ]
  exact A7.keep fun g o hg ho=>by
   have:=iq g hg
   rw [b5 _ _ _ _ (by show g≠w.heap.size;omega)];exact ho
 rw [sJ]
 obtain ⟨k0,k1,k2,k3⟩:=kH y0
 have g2:=zd y0 2;have g3:=zd y0 3
 have H3:=bc (bm y0 (bm y1 (bm Cj (bm iq cV))))
 clear sJ y0 y1 xx1 xx0 Cj iq cV nI au rq tU Cg A8 A7 hf11 BQ hc4 B3 cR e1 f1 Cr CA CP CC K2
 go_upto_region 10 with (fail)
 obtain ⟨W4,aO⟩:=zzN ((W3.setCell ⟨w.heap.size,2,none⟩ (.int .i64 (idx:Nat))).setCell ⟨w.heap.size,3,none⟩ (str p))
 have y0:W4.heap[w.heap.size]? = some (.cells #[.pointer (some ⟨ab,0,none⟩),.slice ca (lv.length+a.args.length) cc,.int .i64 (idx:Nat),str p] 117 (0,0)):=by rw [<- aO,kM (kM H3.out.1)];rfl
 have oth:∀ g,g≠w.heap.size->W4.heap[g]? = W3.heap[g]?:=fun g hg=>by rw [<- aO,b5 _ _ _ _ (by show g≠w.heap.size;exact hg),b5 _ _ _ _ (by show g≠w.heap.size;exact hg)]
 have y1:W4.heap[w.heap.size+1]? = some (.cells #[.pointer none,.slice none 0 0,.int .i64 0,str []] 117 (0,0)):=by rw [oth _ (by omega)];exact H3.out.2.1
 have Ci:Below w.heap.size w W4:=by rw [<- aO];exact (H3.out.2.2.1.setCell (p:=⟨w.heap.size,2,none⟩) (br _) _).setCell (p:=⟨w.heap.size,3,none⟩) (br _) _
 have cV:Own W4 115 2 (.slice ca (lv.length+a.args.length) cc) (lv.length+a.args.length) (lvC (lv++zx a.args.length idx p)):=H3.out.2.2.2.2.keep fun g o hg ho=>by
  have:=H3.out.2.2.2.1 g hg
  rw [oth g (by omega)];exact ho
 rw [aO]
 clear k0 k1 k2 k3 g2 g3
 obtain ⟨k0,k1,k2,k3⟩:=kH y0
 obtain ⟨z0,z1,z2,z3⟩:=kH y1
 have g0:=zd y1 0;have g1:=zd y1 1;have g2:=zd y1 2;have g3:=zd y1 3
 have H4:=bc (bm y1 (bm Ci cV))
 clear aO y0 y1 oth Ci cV
 go_wp2_with fail
 have hV:=uC H4.out.1 (.pointer (some ⟨ab,0,none⟩)) (.slice ca (lv.length+a.args.length) cc) (.int .i64 (idx:Nat)) (str p)
 obtain ⟨s0,s1,s2,s3⟩:=kH hV
 have eP:=(((H4.out.2.1.setCell (p:=⟨w.heap.size+1,0,none⟩) (Nat.le_succ _) (.pointer (some ⟨ab,0,none⟩))).setCell (p:=⟨w.heap.size+1,1,none⟩) (Nat.le_succ _) (.slice ca (lv.length+a.args.length) cc)).setCell (p:=⟨w.heap.size+1,2,none⟩) (Nat.le_succ _) (.int .i64 (idx:Nat))).setCell (p:=⟨w.heap.size+1,3,none⟩) (Nat.le_succ _) (str p)
 refine bodyPost_ret (v:=.agg #[.pointer (some ⟨ab,0,none⟩),.slice ca (lv.length+a.args.length) cc,.int .i64 (idx:Nat),str p]) (by simp [results,Tryz.results104,go_sem,s0,s1,s2,s3]) rfl ?_
 have b_:(lv++zx a.args.length idx p).length=lv.length+a.args.length:=by rw [List.length_append,kQ]
 refine ⟨ab,ca,cc,by rw [b_],eP,HA.out.2.2.2.2.1,?_⟩
 rw [b_]
 refine Own.lv ?_ b_.symm (fun g hg=>by have:=H3.out.2.2.2.1 g hg;omega)
 exact H4.out.2.2.keep fun g o hg ho=>by
  have:=H3.out.2.2.2.1 g hg
  rw [b5 _ _ _ _ (by show g≠w.heap.size+1;omega),b5 _ _ _ _ (by show g≠w.heap.size+1;omega),b5 _ _ _ _ (by show g≠w.heap.size+1;omega),b5 _ _ _ _ (by show g≠w.heap.size+1;omega)];exact ho
def vK (F:Nat->Prop) (w:World) (v:Pl) (x:Value):Prop:=Rep F w (.sl 9 1 v.length (v.map fun m=>DV.val (str m.1))) x
def j_ (F:Nat->Prop) (w:World) (v:Pl) (x:Value):Prop:=Rep F w (.sl 3 1 v.length (v.map fun m=>DV.val (.int .i64 m.2))) x
theorem qb {F:Nat->Prop} {w:World}:∀ (us vs:List Value),zG F w (us.map DV.val) vs↔vs=us
 | [],vs=>by simp [zC]
 | u::us,vs=>by
   rw [List.map_cons,zJ]
   constructor
   ·rintro ⟨x,xs,rfl,h1,h2⟩
    rw [zI] at h1
    rw [(qb us xs).1 h2,h1]
   ·rintro rfl
    exact ⟨u,us,rfl,zI.2 rfl,(qb us us).2 rfl⟩
theorem vK.src {F:Nat->Prop} {w:World} {v:Pl} {x:Value} (h:vK F w v x):zM 1 x v.length (jk v) w:=by
 have h':Rep F w (.sl 9 1 v.length ((jk v).map DV.val)) x:=by unfold vK at h;rw [show (jk v).map DV.val=v.map fun m=>DV.val (str m.1) from by simp [jk,Function.comp_def]];exact h
 obtain ⟨xs,hx,hs⟩:=zM.ofRep h' (fun us hu u hm=>by
  rw [(qb _ _).1 hu] at hm
  obtain ⟨m,_,rfl⟩:=List.mem_map.1 hm
  simp [str,Value.oneCell'])
 rw [(qb _ _).1 hx] at hs;exact hs
theorem j_.src {F:Nat->Prop} {w:World} {v:Pl} {x:Value} (h:j_ F w v x):zM 1 x v.length (jU v) w:=by
 have h':Rep F w (.sl 3 1 v.length ((jU v).map DV.val)) x:=by unfold j_ at h;rw [show (jU v).map DV.val=v.map fun m=>DV.val (.int .i64 m.2) from by simp [jU,Function.comp_def]];exact h
 obtain ⟨xs,hx,hs⟩:=zM.ofRep h' (fun us hu u hm=>by
  rw [(qb _ _).1 hu] at hm
  obtain ⟨m,_,rfl⟩:=List.mem_map.1 hm
  simp [Value.oneCell'])
 rw [(qb _ _).1 hx] at hs;exact hs
theorem za.mv {F:Nat->Prop} {w:World} {v:Pl} {mv pt:Value} (h:za w v mv pt) (hF:∀ g,mv.ownBlock=some g\/pt.ownBlock=some g->F g):vK F w v mv/\j_ F w v pt:=by
 obtain ⟨a1,c1,rfl⟩:=h.1.slice
 obtain ⟨a2,c2,rfl⟩:=h.2.slice
 refine ⟨h.1.rep (fun g hg=>hF g (.inl hg)) ?_,h.2.rep (fun g hg=>hF g (.inr hg)) ?_⟩
 ·rw [show (v.map fun m=>DV.val (str m.1))=(jk v).map DV.val from by simp [jk,Function.comp_def]];exact (qb _ _).2 rfl
 ·rw [show (v.map fun m=>DV.val (.int .i64 m.2))=(jU v).map DV.val from by simp [jU,Function.comp_def]];exact (qb _ _).2 rfl
def Fv (va:Nat) (vw:Value) (i:Nat):Prop:=i≠va/\vw.ownBlock≠some i
def Mv (va:Nat) (vw:Value) (i:Nat):Prop:=i=va\/vw.ownBlock=some i
theorem Fv.keep {va:Nat} {vw vw':Value} {w w':World} (hb:But (Mv va vw) w w') (hf:∀ g,vw'.ownBlock=some g->vw.ownBlock=some g\/w.heap.size<=g) {d:DV} {x:Value} (h:Rep (Fv va vw) w d x):Rep (Fv va vw') w' d x :=
 (Rep.keep fun b o hF ho=>⟨⟨hF.1,fun e=>by
  rcases hf b e with h | h
  ·exact hF.2 h
  ·have:=zZ ho;omega⟩,by rw [hb.block b (zZ ho) (fun e=>e.elim hF.1 hF.2)];exact ho⟩).1 _ _ h
def numD (ns:List Nat):DV:=.sl 3 1 ns.length (ns.map fun n=>DV.val (.int .i64 (n:Nat)))
theorem vK.cells {F:Nat->Prop} {w:World} {v:Pl} {x:Value} (h:vK F w v x):∃ a c,x=.slice a v.length c/\∀ (i:Nat) (m:Bs×Int),v[i]? = some m->∃ b o,a=some ⟨b,o,none⟩/\F b/\b<w.heap.size/\w.cell? ⟨b,o+i,none⟩=some (str m.1):=by
 obtain ⟨a,c,e,_,_,dV⟩:=zF h
 refine ⟨a,c,e,fun i m hi=>?_⟩
 obtain ⟨b,o,u,d,ea,hF,cZ,hd,hc,hr⟩:=dV i (List.getElem?_eq_some_iff.1 hi).1
 rw [List.getElem?_map,hi] at hd
 obtain rfl:=Option.some.inj hd
 rw [zI] at hr
 subst hr
 exact ⟨b,o,ea,hF,cZ,hc⟩
def AtD (b:Bd) (begun args:List Nat) (opens:Nat):List DV:=kC b++[numD begun,numD args,.val (.int .i64 (opens:Nat))]
def SpAt (F:Nat->Prop) (w:World) (b:Bd) (lv:List zj) (bg:zj) (v:Pl) (vs:List Value):Prop :=
 ∃ begun args opens,xj lv bg v begun args opens/\zG F w (AtD b begun args opens) vs
theorem okAt_eq {t:Ty} {v:Pl} {k:Nat} {m:Bs} {z:Int} (h:v[k]? = some (m,z)):vV t v k=(xJ t m && (qZ m == decide (k % 2=0)) && (if k=0 then m == [113] && decide (z = -1) else decide (0<=z) && decide (z<(k:Int)) && !(m == [113]) && ((v[z.toNat]?).map (·.1) == some (uY m)))):=by
 unfold vV;rw [h]
theorem even_int (k:Nat):((k:Int) % 2 == 0)=decide (k % 2=0):=by
 rw [Bool.eq_iff_iff,beq_iff_eq,decide_eq_true_iff];omega
theorem j_.cells {F:Nat->Prop} {w:World} {v:Pl} {x:Value} (h:j_ F w v x):∃ a c,x=.slice a v.length c/\∀ (i:Nat) (m:Bs×Int),v[i]? = some m->∃ b o,a=some ⟨b,o,none⟩/\F b/\b<w.heap.size/\w.cell? ⟨b,o+i,none⟩=some (.int .i64 m.2):=by
 obtain ⟨a,c,e,_,_,dV⟩:=zF h
 refine ⟨a,c,e,fun i m hi=>?_⟩
 obtain ⟨b,o,u,d,ea,hF,cZ,hd,hc,hr⟩:=dV i (List.getElem?_eq_some_iff.1 hi).1
 rw [List.getElem?_map,hi] at hd
 obtain rfl:=Option.some.inj hd
 rw [zI] at hr
 subst hr
 exact ⟨b,o,ea,hF,cZ,hc⟩
set_option maxRecDepth 100000 in
theorem hasPlay_v (F:Nat->Prop) (t:Ty) (kv mv pt:Value) (v:Pl) (w:World) (hk:Rep F w (jS t) kv) (ht:zV t<=15) (hm:vK F w v mv) (hp:j_ F w v pt) (fd:v.length<=60) (hl:∀ x∈v,Lim x.1.length) :
 Calls Tryz.prog 70 #[kv,.agg #[mv,pt]] w fun en w'=>en=.returned (.bool (qp t v v.length))/\Below w.heap.size w w':=by
 obtain ⟨kb,ks,rfl,_⟩:=zv hk
 obtain ⟨ma,mc,rfl,fT⟩:=hm.cells
 obtain ⟨pa,pc,rfl,fq⟩:=hp.cells
 obtain ⟨W,hW,cK,hz,b0⟩:=qn w (.cells #[.slice ma v.length mc,.slice pa v.length pc] 33)
 obtain ⟨c0,c1,_,_⟩:=qX b0
 have b_:¬ (60:Int)<(v.length:Int):=by omega
 have cX:((v.length:Int) != (v.length:Int))=false:=by simp
 have eW:=hk.below cK (fun _ h=>h)
 have HH:=bc (bm fT (bm fq (bm cK (bm eW hl))))
 have HW:=bc hW
 clear hk hm hp fT fq hz b0 eW cK hW hl
 go_enter Tryz.func70,Tryz.ntmps70
 go_upto_region 1 with (fail)
 rw [HW.out]
 go_wp2_with fail
 go_loopw [24] (fun i wr=>∃ (wz:World) (k:Nat),wz=wr/\k<=v.length/\i=.int .i64 k/\qp t v k=true/\Below W.heap.size W wz) (fun i _=>v.length-(intOf i).toNat)
 case atStart=>exact ⟨_,0,rfl,Nat.zero_le _,rfl,rfl,bi _ _⟩
 case round =>
  obtain ⟨wr,k,rfl,hk,rfl,cq,hB⟩:=hrel
  have d0:=(hB.cell (be _ _ c0)).trans c0
  have d1:=(hB.cell (be _ _ c1)).trans c1
  clear c0 c1
  have HB:=bc (bm hB (zzT HH.out.2.2.1 hB))
  clear hB
  by_cases cZ:k<v.length
  ·have dd:(k:Int)<(v.length:Int):=by omega
   obtain ⟨⟨m,z⟩,dW⟩:∃ x,v[k]? = some x:=⟨_,List.getElem?_eq_getElem cZ⟩
   obtain ⟨mb,mo,rfl,_,f_,fZ⟩:=HH.out.1 k _ dW
   obtain ⟨pb,po,rfl,_,mS,fk⟩:=HH.out.2.1 k _ dW
   have m0:=(HB.out.2.cell (p:=⟨mb,mo+k,none⟩) f_).trans fZ
   have p0:=(HB.out.2.cell (p:=⟨pb,po+k,none⟩) mS).trans fk
   have cH:=okAt_eq (t:=t) dW
   have rt:Lim m.length:=HH.out.2.2.2.2 _ (List.mem_of_getElem? dW)
   have CM:=bc (hasMove_any F t (.pointer (some ⟨kb,0,none⟩)) m wr (HH.out.2.2.2.1.below HB.out.1 (fun _ h=>h)) ht rt)
   have HA:=bc (bm cq (bm dW cH))
   have FALSE:Hid (vV t v k=false->qp t v v.length=false):=bc (fun h=>pw h cZ)
   clear cq f_ mS fZ fk cH
   cases aX:xJ t m with
   | false =>
     have E:=bc (FALSE.out (by rw [HA.out.2.2,aX];rfl))
     rw [aX] at CM
     clear FALSE dW rt
     go_wp2_with fail
     (with_reducible refine CM.out.mono ?_)
     rintro en w1 ⟨rfl,e⟩
     subst w1
     go_wp2_with fail
     go_ret
     exact ⟨by rw [E.out];rfl,HB.out.2⟩
   | true =>
     rw [aX] at CM
     obtain ⟨c,p,hcp⟩:∃ c p,m=c::p:=by
      cases m with
      | nil=>simp [xJ] at aX
      | cons c p=>exact ⟨c,p,rfl⟩
     have cI:p.length<=16777216:=by have:=rt.le;rw [hcp,List.length_cons] at this;omega
     have CB:=bc (vq c p cI wr)
     have CE:=bc (fun x=>enabler_any c p cI x)
     rw [<- hcp] at CB CE
     obtain ⟨bo,nZ⟩:=zzN (qZ m)
     obtain ⟨oX,ly⟩:=zzN (uY m)
     rw [nZ] at CB
     rw [ly] at CE
     have HO:Hid (vV t v k=((bo == decide (k % 2=0)) && (if k=0 then m == [113] && decide (z = -1) else decide (0<=z) && decide (z<(k:Int)) && !(m == [113]) && ((v[z.toNat]?).map (·.1) == some oX)))):=by
      rw [HA.out.2.2,aX,nZ,ly];exact bc (by rw [Bool.true_and])
     clear nZ ly aX rt cI hcp dW
     by_cases b9:bo=((k:Int) % 2 == 0)
     ·subst b9
      have b8:(((k:Int) % 2 == 0) == decide (k % 2=0))=true:=by rw [even_int];simp
      replace HO:Hid (vV t v k=(if k=0 then m == [113] && decide (z = -1) else decide (0<=z) && decide (z<(k:Int)) && !(m == [113]) && ((v[z.toNat]?).map (·.1) == some oX))):=by rw [HO.out,b8];exact bc (by rw [Bool.true_and])
      clear b8
      by_cases du:z < -1
      ·have E:=bc (FALSE.out (by rw [HO.out];split;(· rw [Bool.and_eq_false_iff];exact .inr (by simp;omega));(· simp only [Bool.and_eq_false_iff];exact .inl (.inl (.inl (by simp;omega))))))
       clear FALSE HO
       go_wp2_with fail
       (with_reducible refine CM.out.mono ?_)
       rintro en w1 ⟨rfl,e⟩
       subst w1
       go_wp2_with fail
       (with_reducible refine CB.out.mono ?_)
       rintro en w2 ⟨rfl,e⟩
       subst w2
       go_wp2_with fail
       go_ret
       exact ⟨by rw [E.out];rfl,HB.out.2⟩
      by_cases nj:(k:Int)<=z
      ·have E:=bc (FALSE.out (by rw [HO.out];split;(· rw [Bool.and_eq_false_iff];exact .inr (by simp;omega));(· simp only [Bool.and_eq_false_iff];exact .inl (.inl (.inr (by simp;omega))))))
       clear FALSE HO
       go_wp2_with fail
       (with_reducible refine CM.out.mono ?_)
       rintro en w1 ⟨rfl,e⟩
       subst w1
       go_wp2_with fail
       (with_reducible refine CB.out.mono ?_)
       rintro en w2 ⟨rfl,e⟩
       subst w2
       go_wp2_with fail
       go_ret
       exact ⟨by rw [E.out];rfl,HB.out.2⟩
      by_cases nr:k=0
      ·have hk0b:((k:Int) == 0)=true:=by rw [nr];rfl
       have hz:z = -1:=by omega
       have At:(z == -1)=true:=by rw [hz];rfl
       have hkp:¬ (0:Int)<(k:Int):=by omega
       have aB:(0<k)=False:=by simp [nr]
       replace HO:Hid (vV t v k=(m == [113] && decide (z = -1))):=by rw [HO.out,if_pos nr];exact bc rfl
       have hd:decide (z = -1)=true:=by simp [hz]
       cases aW:((m:Bs) == [113]) with
       | false =>
         have Bn:((m:Bs) != [113])=true:=by rw [bne,aW];rfl
         have E:=bc (FALSE.out (by rw [HO.out,aW];rfl))
         clear FALSE HO hz nr hd
         go_wp2_with fail
         (with_reducible refine CM.out.mono ?_)
         rintro en w1 ⟨rfl,e⟩
         subst w1
         go_wp2_with fail
         (with_reducible refine CB.out.mono ?_)
         rintro en w2 ⟨rfl,e⟩
         subst w2
         go_upto_region 9 with (fail)
         refine wp_region_noPanic ?_
         refine kE (fun w'=>Below wr.heap.size wr w') (fun _=>false) (by kernel_rfl) ?_
         have cR:(fun w'=>Below wr.heap.size wr w') wr.drew:=Below.drew (bi _ _)
         refine tk [0,1,2,3,4,5,6,7,8,9,10,11,12,13,14,15,16,17,18,19,20,21,22,23] cR ?_
         (intro d hd;simp [tkD] at hd;subst hd;simp only [tks,pQ,pZ,pS])
         iterate 24 (refine ⟨?_,?_,?_⟩;rotate_left;· (intro oi ho;simp at ho;subst ho;first | (refine Or.inr ⟨by rfl,?_⟩;with_reducible rfl) | (refine Or.inl ⟨by rfl,fun w' cL=>?_⟩;go_simp;try with_reducible rfl)))
         refine kF (by kernel_rfl) (NoPanic.normal ?_) _
         go_wp2_with fail
         go_ret
         exact ⟨by rw [E.out];rfl,zi HB.out.2 _⟩
       | true =>
         have Bn:((m:Bs) != [113])=false:=by rw [bne,aW];rfl
         have E:=bc (show qp t v (k+1)=true by rw [qp,HA.out.1,HO.out,aW,hd];rfl)
         clear FALSE HO hz nr hd
         go_wp2_with fail
         (with_reducible refine CM.out.mono ?_)
         rintro en w1 ⟨rfl,e⟩
         subst w1
         go_wp2_with fail
         (with_reducible refine CB.out.mono ?_)
         rintro en w2 ⟨rfl,e⟩
         subst w2
         go_upto_region 9 with (fail)
         refine wp_region_noPanic ?_
         refine kE (fun w'=>Below wr.heap.size wr w') (fun _=>false) (by kernel_rfl) ?_
         have cR:(fun w'=>Below wr.heap.size wr w') wr.drew:=Below.drew (bi _ _)
         refine tk [0,1,2,3,4,5,6,7,8,9,10,11,12,13,14,15,16,17,18,19,20,21,22,23] cR ?_
         (intro d hd;simp [tkD] at hd;subst hd;simp only [tks,pQ,pZ,pS])
         iterate 24 (refine ⟨?_,?_,?_⟩;rotate_left;· (intro oi ho;simp at ho;subst ho;first | (refine Or.inr ⟨by rfl,?_⟩;with_reducible rfl) | (refine Or.inl ⟨by rfl,fun w' cL=>?_⟩;go_simp;try with_reducible rfl)))
         refine kF (by kernel_rfl) (NoPanic.normal ?_) _
         go_wp2_with fail
         go_roundw
         case rel=>exact ⟨_,k+1,rfl,by omega,by go_num,E.out,HB.out.1.drew⟩
         case measure=>simp [intOf];omega
      ·have hk0b:((k:Int) == 0)=false:=by rw [beq_eq_false_iff_ne];omega
       have hkp:(0:Int)<(k:Int):=by omega
       have aB:(0<k)=True:=by simp;omega
       replace HO:Hid (vV t v k=(decide (0<=z) && decide (z<(k:Int)) && !(m == [113]) && ((v[z.toNat]?).map (·.1) == some oX))):=by rw [HO.out,if_neg nr];exact bc rfl
       by_cases tS:z = -1
       ·have At:(z == -1)=true:=by rw [tS];rfl
        have E:=bc (FALSE.out (by rw [HO.out];simp only [Bool.and_eq_false_iff];exact .inl (.inl (.inl (by simp;omega)))))
        clear FALSE HO tS nr
        go_wp2_with fail
        (with_reducible refine CM.out.mono ?_)
        rintro en w1 ⟨rfl,e⟩
        subst w1
        go_wp2_with fail
        (with_reducible refine CB.out.mono ?_)
        rintro en w2 ⟨rfl,e⟩
        subst w2
        go_wp2_with fail
        go_ret
        exact ⟨by rw [E.out];rfl,HB.out.2⟩
       have At:(z == -1)=false:=by rw [beq_eq_false_iff_ne];exact tS
       obtain ⟨zn,hzn⟩:∃ zn:Nat,z=(zn:Int):=⟨z.toNat,by omega⟩
       subst hzn
       obtain ⟨⟨my,zy⟩,hvy⟩:∃ x,v[zn]? = some x:=⟨_,List.getElem?_eq_getElem (by omega)⟩
       have hznl:(zn:Int)<(v.length:Int):=by omega
       have hdd:(decide ((0:Int)<=(zn:Int)) && decide ((zn:Int)<(k:Int)))=true:=by simp;omega
       replace HO:Hid (vV t v k=(!(m == [113]) && (my == oX))):=by rw [HO.out,hdd,Int.toNat_natCast,hvy];exact bc (by rw [Bool.true_and];rfl)
       obtain ⟨yb,yo,ey,_,hyb,hyk⟩:=HH.out.1 zn _ hvy
       simp only [Option.some.injEq,Addr.mk.injEq] at ey
       obtain ⟨rfl,rfl,_⟩:=ey
       have y0:=(HB.out.2.cell (p:=⟨mb,mo+zn,none⟩) hyb).trans hyk
       clear hyb hyk hvy hdd tS
       cases aW:((m:Bs) == [113]) with
       | true =>
         have E:=bc (FALSE.out (by rw [HO.out,aW];rfl))
         clear FALSE HO nr
         go_wp2_with fail
         (with_reducible refine CM.out.mono ?_)
         rintro en w1 ⟨rfl,e⟩
         subst w1
         go_wp2_with fail
         (with_reducible refine CB.out.mono ?_)
         rintro en w2 ⟨rfl,e⟩
         subst w2
         go_upto_region 9 with (fail)
         refine wp_region_noPanic ?_
         refine kE (fun w'=>Below wr.heap.size wr w') (fun _=>false) (by kernel_rfl) ?_
         have cR:(fun w'=>Below wr.heap.size wr w') wr.drew:=Below.drew (bi _ _)
         refine tk [0,1,2,3,4,5,6,7,8,9,10,11,12,13,14,15,16,17,18,19,20,21,22,23] cR ?_
         (intro d hd;simp [tkD] at hd;subst hd;simp only [tks,pQ,pZ,pS])
         iterate 24 (refine ⟨?_,?_,?_⟩;rotate_left;· (intro oi ho;simp at ho;subst ho;first | (refine Or.inr ⟨by rfl,?_⟩;with_reducible rfl) | (refine Or.inl ⟨by rfl,fun w' cL=>?_⟩;go_simp;try with_reducible rfl)))
         refine kF (by kernel_rfl) (NoPanic.normal ?_) _
         go_wp2_with fail
         go_ret
         exact ⟨by rw [E.out];rfl,zi HB.out.2 _⟩
       | false =>
         have KEY:Hid (∀ x,Below wr.heap.size wr x->x.cell? ⟨w.heap.size,0,none⟩=some (.slice (some ⟨mb,mo,none⟩) v.length mc)):=bc (fun x hx=>(hx.cell (be _ _ d0)).trans d0)
         have KEYY:Hid (∀ x,Below wr.heap.size wr x->x.cell? ⟨mb,mo+zn,none⟩=some (str my)):=bc (fun x hx=>(hx.cell (be _ _ y0)).trans y0)
         have Bn:((m:Bs) != [113])=true:=by rw [bne,aW];rfl
         cases hme:(my == oX) with
         | false =>
           have hme2:((my:Bs) != oX)=true:=by rw [bne,hme];rfl
           have E:=bc (FALSE.out (by rw [HO.out,aW,hme];rfl))
           clear FALSE HO nr
           go_wp2_with fail
           (with_reducible refine CM.out.mono ?_)
           rintro en w1 ⟨rfl,e⟩
           subst w1
           go_wp2_with fail
           (with_reducible refine CB.out.mono ?_)
           rintro en w2 ⟨rfl,e⟩
           subst w2
           go_upto_region 9 with (fail)
           refine wp_region_noPanic ?_
           refine kE (fun w'=>Below wr.heap.size wr w') (fun _=>false) (by kernel_rfl) ?_
           have cR:(fun w'=>Below wr.heap.size wr w') wr.drew:=Below.drew (bi _ _)
           refine tk [0,1,2,3,4,5,6,7,8,9,10,11,12,13,14,15,16] cR ?_
           (intro d hd;simp [tkD] at hd;subst hd;simp only [tks,pQ,pZ,pS])
           iterate 17 (refine ⟨?_,?_,?_⟩;rotate_left;· (intro oi ho;simp at ho;subst ho;first | (refine Or.inr ⟨by rfl,?_⟩;with_reducible rfl) | (refine Or.inl ⟨by rfl,fun w' cL=>?_⟩;have e0:=KEY.out w' cL;go_simp;try with_reducible rfl)))
           refine tk [17,18] cR ?_
           (intro d hd;simp [tkD] at hd;subst hd;simp only [tks,pQ,pZ,pS])
           iterate 2 (refine ⟨?_,?_,?_⟩;rotate_left;· (intro oi ho;simp at ho;subst ho;refine Or.inl ⟨by rfl,fun w' cL=>?_⟩;have e0:=KEYY.out w' cL;go_simp;try with_reducible rfl))
           (refine on 19 ?_;intro o ho K' hK;simp at ho;subst ho;go_simp)
           go_at_call 107
           (with_reducible refine (CE.out _).mono ?_)
           rintro en x19 ⟨rfl,e⟩
           subst x19
           (refine hK.out _ _ (fun _=>cR) ?_;clear hK K';try simp only [pQ,pN,pZ,pS])
           refine tk [20,21,22,23] cR ?_
           (intro d hd;simp [tkD] at hd;subst hd;simp only [tks,pQ,pZ,pS])
           iterate 4 (refine ⟨?_,?_,?_⟩;rotate_left;· (intro oi ho;simp at ho;subst ho;refine Or.inl ⟨by rfl,fun w' cL=>?_⟩;go_simp;try with_reducible rfl))
           refine kF (by kernel_rfl) (NoPanic.normal ?_) _
           go_wp2_with fail
           go_ret
           exact ⟨by rw [E.out];rfl,zi HB.out.2 _⟩
         | true =>
           have hme2:((my:Bs) != oX)=false:=by rw [bne,hme];rfl
           have E:=bc (show qp t v (k+1)=true by rw [qp,HA.out.1,HO.out,aW,hme];rfl)
           clear FALSE HO nr
           go_wp2_with fail
           (with_reducible refine CM.out.mono ?_)
           rintro en w1 ⟨rfl,e⟩
           subst w1
           go_wp2_with fail
           (with_reducible refine CB.out.mono ?_)
           rintro en w2 ⟨rfl,e⟩
           subst w2
           go_upto_region 9 with (fail)
           refine wp_region_noPanic ?_
           refine kE (fun w'=>Below wr.heap.size wr w') (fun _=>false) (by kernel_rfl) ?_
           have cR:(fun w'=>Below wr.heap.size wr w') wr.drew:=Below.drew (bi _ _)
           refine tk [0,1,2,3,4,5,6,7,8,9,10,11,12,13,14,15,16] cR ?_
           (intro d hd;simp [tkD] at hd;subst hd;simp only [tks,pQ,pZ,pS])
           iterate 17 (refine ⟨?_,?_,?_⟩;rotate_left;· (intro oi ho;simp at ho;subst ho;first | (refine Or.inr ⟨by rfl,?_⟩;with_reducible rfl) | (refine Or.inl ⟨by rfl,fun w' cL=>?_⟩;have e0:=KEY.out w' cL;go_simp;try with_reducible rfl)))
           refine tk [17,18] cR ?_
           (intro d hd;simp [tkD] at hd;subst hd;simp only [tks,pQ,pZ,pS])
           iterate 2 (refine ⟨?_,?_,?_⟩;rotate_left;· (intro oi ho;simp at ho;subst ho;refine Or.inl ⟨by rfl,fun w' cL=>?_⟩;have e0:=KEYY.out w' cL;go_simp;try with_reducible rfl))
           (refine on 19 ?_;intro o ho K' hK;simp at ho;subst ho;go_simp)
           go_at_call 107
           (with_reducible refine (CE.out _).mono ?_)
           rintro en x19 ⟨rfl,e⟩
           subst x19
           (refine hK.out _ _ (fun _=>cR) ?_;clear hK K';try simp only [pQ,pN,pZ,pS])
           refine tk [20,21,22,23] cR ?_
           (intro d hd;simp [tkD] at hd;subst hd;simp only [tks,pQ,pZ,pS])
           iterate 4 (refine ⟨?_,?_,?_⟩;rotate_left;· (intro oi ho;simp at ho;subst ho;refine Or.inl ⟨by rfl,fun w' cL=>?_⟩;go_simp;try with_reducible rfl))
           refine kF (by kernel_rfl) (NoPanic.normal ?_) _
           go_wp2_with fail
           go_roundw
           case rel=>exact ⟨_,k+1,rfl,by omega,by go_num,E.out,HB.out.1.drew⟩
           case measure=>simp [intOf];omega
     ·have E:=bc (FALSE.out (by rw [HO.out];rw [even_int] at b9;rw [Bool.and_eq_false_iff];exact .inl (by rw [beq_eq_false_iff_ne];exact b9)))
      clear FALSE HO
      go_wp2_with fail
      (with_reducible refine CM.out.mono ?_)
      rintro en w1 ⟨rfl,e⟩
      subst w1
      go_wp2_with fail
      (with_reducible refine CB.out.mono ?_)
      rintro en w2 ⟨rfl,e⟩
      subst w2
      go_wp2_with fail
      go_ret
      exact ⟨by rw [E.out];rfl,HB.out.2⟩
  ·obtain rfl:k=v.length:=by omega
   go_wp2_with fail
   go_ret
   exact ⟨by rw [cq];rfl,HB.out.2⟩

def ve (F:Nat->Prop) (w:World) (ms:List Bs) (x:Value):Prop:=Rep F w (.sl 9 1 ms.length (ms.map fun m=>DV.val (str m))) x
def vt (F:Nat->Prop) (w:World) (ps:List Int) (x:Value):Prop:=Rep F w (.sl 3 1 ps.length (ps.map fun z=>DV.val (.int .i64 z))) x
def jb (t:Ty) (ms:List Bs) (ps:List Int):Bool:=decide (ms.length<=60) && (decide (ps.length=ms.length) && qp t (ms.zip ps) (ms.zip ps).length)
theorem ve.slice {F:Nat->Prop} {w:World} {ms:List Bs} {x:Value} (h:ve F w ms x):∃ a c,x=.slice a ms.length c:=by
 obtain ⟨a,c,e,_⟩:=zF h;exact ⟨a,c,e⟩
theorem vt.slice {F:Nat->Prop} {w:World} {ps:List Int} {x:Value} (h:vt F w ps x):∃ a c,x=.slice a ps.length c:=by
 obtain ⟨a,c,e,_⟩:=zF h;exact ⟨a,c,e⟩
theorem zip_fst {ms:List Bs} {ps:List Int} (h:ps.length=ms.length):(ms.zip ps).map (·.1)=ms:=by
 rw [List.map_fst_zip (by omega)]
theorem zip_snd {ms:List Bs} {ps:List Int} (h:ps.length=ms.length):(ms.zip ps).map (·.2)=ps:=by
 rw [List.map_snd_zip (by omega)]
theorem ve.zip {F:Nat->Prop} {w:World} {ms:List Bs} {ps:List Int} {x:Value} (h:ve F w ms x) (he:ps.length=ms.length):vK F w (ms.zip ps) x:=by
 have h1:(ms.zip ps).length=ms.length:=by rw [List.length_zip];omega
 unfold vK
 rw [h1,show (ms.zip ps).map (fun m=>DV.val (str m.1))=ms.map (fun m=>DV.val (str m)) from by
  conv=>rhs;rw [<- zip_fst he]
  rw [List.map_map];rfl]
 exact h
theorem vt.zip {F:Nat->Prop} {w:World} {ms:List Bs} {ps:List Int} {x:Value} (h:vt F w ps x) (he:ps.length=ms.length):j_ F w (ms.zip ps) x:=by
 have h1:(ms.zip ps).length=ps.length:=by rw [List.length_zip];omega
 unfold j_
 rw [h1,show (ms.zip ps).map (fun m=>DV.val (.int .i64 m.2))=ps.map (fun z=>DV.val (.int .i64 z)) from by
  conv=>rhs;rw [<- zip_snd he]
  rw [List.map_map];rfl]
 exact h
set_option maxRecDepth 100000 in
theorem hasPlay_any (F:Nat->Prop) (t:Ty) (kv mv pt:Value) (ms:List Bs) (ps:List Int) (w:World) (hk:Rep F w (jS t) kv) (ht:zV t<=15) (hm:ve F w ms mv) (hp:vt F w ps pt) (hl:∀ x∈ms,Lim x.length) :
 Calls Tryz.prog 70 #[kv,.agg #[mv,pt]] w fun en w'=>en=.returned (.bool (jb t ms ps))/\Below w.heap.size w w':=by
 by_cases fd:ms.length<=60
 ·by_cases he:ps.length=ms.length
  ·refine (hasPlay_v F t kv mv pt (ms.zip ps) w hk ht (hm.zip he) (hp.zip he) (by rw [List.length_zip];omega) (fun x hx=>hl _ (List.of_mem_zip hx).1)).mono ?_
   rintro en w' ⟨rfl,hb⟩
   refine ⟨?_,hb⟩
   unfold jb
   rw [decide_eq_true fd,decide_eq_true he];rfl
  ·have E:=bc (show jb t ms ps=false by unfold jb;rw [decide_eq_false he,Bool.false_and,Bool.and_false])
   obtain ⟨kb,ks,rfl,_⟩:=zv hk
   obtain ⟨ma,mc,rfl⟩:=hm.slice
   obtain ⟨pa,pc,rfl⟩:=hp.slice
   obtain ⟨W,hW,cK,hz,b0⟩:=qn w (.cells #[.slice ma ms.length mc,.slice pa ps.length pc] 33)
   obtain ⟨c0,c1,_,_⟩:=qX b0
   have b_:¬ (60:Int)<(ms.length:Int):=by omega
   have cX:((ps.length:Int) != (ms.length:Int))=true:=by simp;omega
   have HW:=bc hW
   have HB:=bc cK
   clear hk hm hp hz b0 cK hW hl fd he
   go_enter Tryz.func70,Tryz.ntmps70
   go_upto_region 1 with (fail)
   rw [HW.out]
   go_wp2_with fail
   go_ret
   exact ⟨by rw [E.out];rfl,HB.out⟩
 ·have E:=bc (show jb t ms ps=false by unfold jb;rw [decide_eq_false fd,Bool.false_and])
  obtain ⟨kb,ks,rfl,_⟩:=zv hk
  obtain ⟨ma,mc,rfl⟩:=hm.slice
  obtain ⟨pa,pc,rfl⟩:=hp.slice
  obtain ⟨W,hW,cK,hz,b0⟩:=qn w (.cells #[.slice ma ms.length mc,.slice pa ps.length pc] 33)
  obtain ⟨c0,c1,_,_⟩:=qX b0
  have b_:(60:Int)<(ms.length:Int):=by omega
  have HW:=bc hW
  have HB:=bc cK
  clear hk hm hp hz b0 cK hW hl fd
  go_enter Tryz.func70,Tryz.ntmps70
  go_upto_region 1 with (fail)
  rw [HW.out]
  go_wp2_with fail
  go_ret
  exact ⟨by rw [E.out];rfl,HB.out⟩
theorem ve.below {F F':Nat->Prop} {w w':World} {ms:List Bs} {x:Value} (h:ve F w ms x) (hb:Below w.heap.size w w') (hF:∀ b,F b->F' b):ve F' w' ms x:=Rep.below hb hF h
theorem vt.below {F F':Nat->Prop} {w w':World} {ps:List Int} {x:Value} (h:vt F w ps x) (hb:Below w.heap.size w w') (hF:∀ b,F b->F' b):vt F' w' ps x:=Rep.below hb hF h
def jM (s:Bs) (ms:List Bs) (ps:List Int):Bool:=(zQ s).2 && jb (zQ s).1 ms ps
theorem playOk_kind {s:Bs} {t:Ty} (h:qk s=some t) (ms:List Bs) (ps:List Int):jM s ms ps=jb t ms ps/\zV t<=15:=by
 rw [yF] at h
 unfold jM
 cases h2:(zQ s).2 with
 | false=>rw [h2] at h;simp at h
 | true =>
   rw [h2] at h
   obtain rfl:=Option.some.inj h
   exact ⟨by rw [Bool.true_and],(yM h2).2⟩
theorem playOk_none {s:Bs} (h:qk s=none) (ms:List Bs) (ps:List Int):jM s ms ps=false:=by
 rw [yF] at h
 unfold jM
 cases h2:(zQ s).2 with
 | false=>rfl
 | true=>rw [h2] at h;simp at h
set_option maxRecDepth 100000 in
theorem wU (F:Nat->Prop) (s:Bs) (mv pt:Value) (ms:List Bs) (ps:List Int) (w:World) (hs:Lim s.length) (hm:ve F w ms mv) (hp:vt F w ps pt) (hl:∀ x∈ms,Lim x.length) :
 Calls Tryz.prog 43 #[str s,.agg #[mv,pt]] w fun en w'=>en=.returned (.bool (jM s ms ps))/\Below w.heap.size w w':=by
 obtain ⟨ma,mc,rfl⟩:=hm.slice
 obtain ⟨pa,pc,rfl⟩:=hp.slice
 obtain ⟨W,hW,cK,hz,b0⟩:=qn w (.cells #[.slice ma ms.length mc,.slice pa ps.length pc] 33)
 have C:=bc (xt s W hs)
 have HR:=bc (bm (hm.below cK (F':=fun _=>True) fun _ _=>trivial) (bm (hp.below cK (F':=fun _=>True) fun _ _=>trivial) (bm hl cK)))
 have HW:=bc (bm hW b0)
 clear hs hm hp hl hW hz b0 cK
 go_enter Tryz.func43,Tryz.ntmps43
 go_upto_region 1 with (fail)
 rw [HW.out.1]
 go_wp2_with fail
 (with_reducible refine C.out.mono ?_)
 rintro en w1 ⟨kv,rfl,b9,cT,dH⟩
 clear C
 obtain ⟨c0,c1,_,_⟩:=qX HW.out.2
 have c0':=(b9.cell (be _ _ c0)).trans c0
 have c1':=(b9.cell (be _ _ c1)).trans c1
 clear c0 c1
 have dh:=bc (bm b9 (zzT HR.out.2.2.2 b9))
 cases hq:qk s with
 | none =>
   obtain rfl:=cT hq
   have E:=bc (playOk_none hq ms ps)
   clear cT dH hq b9
   go_wp2_with fail
   go_ret
   exact ⟨by rw [E.out];rfl,dh.out.2⟩
 | some t =>
   have rk:=dH t hq
   obtain ⟨ka,ks,rfl,_⟩:=zv rk
   obtain ⟨E,cQ⟩:=playOk_kind hq ms ps
   have E:=bc E
   have C2:=bc (hasPlay_any (fun _=>True) t (.pointer (some ⟨ka,0,none⟩)) _ _ ms ps w1 ((Rep.keep fun b o _ ho=>⟨trivial,ho⟩).1 _ _ rk) cQ (HR.out.1.below dh.out.1 fun _ h=>h) (HR.out.2.1.below dh.out.1 fun _ h=>h) HR.out.2.2.1)
   clear cT dH hq b9 rk cQ
   go_wp2_with fail
   (with_reducible refine C2.out.mono ?_)
   rintro en w2 ⟨rfl,b8⟩
   have c_:=bc (zzT dh.out.2 b8)
   clear b8
   go_wp2_with fail
   go_ret
   exact ⟨by rw [E.out];rfl,c_.out⟩
def km (ns:List Nat):List Value:=ns.map fun n=>Value.int .i64 (n:Nat)
theorem Own.numD {F:Nat->Prop} {w:World} {ns:List Nat} {a:Option Addr} {n c:Nat} (h:Own w 3 1 (.slice a n c) n (km ns)) (hn:n=ns.length) (hF:∀ g,(Value.slice a n c).ownBlock=some g->F g):Rep F w (numD ns) (.slice a n c):=by
 subst hn
 refine h.rep hF ?_
 rw [show (ns.map fun n=>DV.val (.int .i64 (n:Nat)))=(km ns).map DV.val from by simp [km,Function.comp_def]]
 exact (qb _ _).2 rfl
theorem cells7_set5 {w:World} {b:Nat} {x0 x1 x2 x3 x4 x5 x6:Value} {T:TypeId} (h:w.heap[b]? = some (.cells #[x0,x1,x2,x3,x4,x5,x6] T (0,0))) (u:Value):(w.setCell ⟨b,5,none⟩ u).heap[b]? = some (.cells #[x0,x1,x2,x3,x4,u,x6] T (0,0)):=by rw [kM h];rfl
structure BegI (g:Nat) (s:Bs) (v:Int) (a2:Option Addr) (n2 c2:Nat) (a3:Option Addr) (n3 c3:Nat) (nb na:Nat) (xs ys:List Nat) (idx:Nat) (k:Nat) (a5:Option Addr) (c5:Nat) (a6:Option Addr) (c6:Nat) (w wr:World):Prop where
 below:Below w.heap.size w wr
 box:wr.heap[g]? = some (.cells #[str s,.int .i64 v,.slice a2 n2 c2,.slice a3 n3 c3,.slice a5 (nb+k) c5,.slice a6 (na+k) c6,.int .i64 (idx:Nat)] 145 (0,0))
 o5:Own wr 3 1 (.slice a5 (nb+k) c5) (nb+k) (km xs++List.replicate k (.int .i64 (idx:Nat)))
 o6:Own wr 3 1 (.slice a6 (na+k) c6) (na+k) (km ys++km (List.range k))
 gw:w.heap.size<=g
 f5:∀ i,(Value.slice a5 (nb+k) c5).ownBlock=some i->w.heap.size<=i/\i≠g
 f6:∀ i,(Value.slice a6 (na+k) c6).ownBlock=some i->w.heap.size<=i/\i≠g
 ap:∀ i,(Value.slice a5 (nb+k) c5).ownBlock=some i->(Value.slice a6 (na+k) c6).ownBlock≠some i
theorem BegI.next {g:Nat} {s:Bs} {v:Int} {a2:Option Addr} {n2 c2:Nat} {a3:Option Addr} {n3 c3:Nat} {nb na:Nat} {xs ys:List Nat} {idx k:Nat} {a7:Option Addr} {c7:Nat} {a6:Option Addr} {c6:Nat} {w wr:World} (db:Below w.heap.size w wr) (r_:w.heap.size<=g)
 (mE:wr.heap[g]? = some (.cells #[str s,.int .i64 v,.slice a2 n2 c2,.slice a3 n3 c3,.slice a7 (nb+k+1) c7,.slice a6 (na+k) c6,.int .i64 (idx:Nat)] 145 (0,0)))
 (o5:Own wr 3 1 (.slice a7 (nb+k+1) c7) (nb+k+1) (km xs++List.replicate (k+1) (.int .i64 (idx:Nat)))) (o6:Own wr 3 1 (.slice a6 (na+k) c6) (na+k) (km ys++km (List.range k)))
 (f5:∀ i,(Value.slice a7 (nb+k+1) c7).ownBlock=some i->w.heap.size<=i/\i≠g) (f6:∀ i,(Value.slice a6 (na+k) c6).ownBlock=some i->w.heap.size<=i/\i≠g) (ap:∀ i,(Value.slice a7 (nb+k+1) c7).ownBlock=some i->(Value.slice a6 (na+k) c6).ownBlock≠some i)
 {a8:Option Addr} {c8:Nat} {w8:World} {o:Obj} (ho:Own w8 3 1 (.slice a8 (na+k+1) c8) (na+k+1) (km ys++km (List.range k)++[.int .i64 (k:Nat)])) (hb:But (fun b=>(Value.slice a6 (na+k) c6).ownBlock=some b) (wr.alloc o) w8)
 (hg:∀ i,(Value.slice a8 (na+k+1) c8).ownBlock=some i->(Value.slice a6 (na+k) c6).ownBlock=some i\/i=wr.heap.size+1) :
 BegI g s v a2 n2 c2 a3 n3 c3 nb na xs ys idx (k+1) a7 c7 a8 c8 w (w8.setCell ⟨g,5,none⟩ (.slice a8 (na+k+1) c8)):=by
 have hz:=db.size
 have aE:=zZ mE
 have sq:∀ i,(Value.slice a7 (nb+k+1) c7).ownBlock=some i->i<wr.heap.size:=fun i hi=>o5.lt hi
 have BP:∀ i,(Value.slice a8 (na+k+1) c8).ownBlock=some i->w.heap.size<=i/\i≠g:=fun i hi=>by
  rcases hg i hi with e | e
  ·exact f6 i e
  ·omega
 have s_:w8.heap[g]? = some (.cells #[str s,.int .i64 v,.slice a2 n2 c2,.slice a3 n3 c3,.slice a7 (nb+k+1) c7,.slice a6 (na+k) c6,.int .i64 (idx:Nat)] 145 (0,0)) :=
  (hb.block g (by rw [zK];omega) (fun e=>(f6 g e).2 rfl)).trans (zX mE)
 refine ⟨?_,cells7_set5 s_ _,?_,?_,r_,f5,BP,fun i hi e8=>?_⟩
 ·exact ((db.alloc hz o).trans (hb.toBelow (by rw [zK];omega) fun i hi e=>by have:=(f6 i e).1;omega)).setCell (p:=⟨g,5,none⟩) r_ _
 ·exact o5.keep fun i x hi hx=>by
   rw [b5 _ _ _ _ (by show i≠g;exact (f5 i hi).2),hb.block i (by rw [zK];have:=sq i hi;omega) (fun e=>ap i hi e)];exact zX hx
 ·have e:km ys++km (List.range (k+1))=km ys++km (List.range k)++[.int .i64 (k:Nat)]:=by simp [km,List.range_succ]
  rw [e]
  exact ho.keep fun i x hi hx=>by rw [b5 _ _ _ _ (by show i≠g;exact (BP i hi).2)];exact hx
 ·rcases hg i e8 with e | e
  ·exact ap i hi e
  ·have:=sq i hi;omega
end Go.Proofs.YtfedjhgaeikjmaaGreatDoor

/- Walks of functions that the statement reaches, and plain words. No conditions. -/
import Derived.Laws.Entries
import Derived.Test.YtdhaafoiokkbnaaGreatDoorQ7
set_option linter.unusedVariables false
set_option linter.unusedSimpArgs false
set_option maxHeartbeats 8000000
namespace Go.Proofs.YtdhaafoiokkbnaaGreatDoor
open Go.RowKit
def plC (us:List (Value×Value)):List Value:=us.flatMap fun u=>[u.1,u.2]
theorem wE (u:Value×Value) (us:List (Value×Value)):plC (u::us)=u.1::u.2::plC us:=by simp [plC]
theorem yW (us vs:List (Value×Value)):plC (us++vs)=plC us++plC vs:=by simp [plC]
theorem bW:∀ us:List (Value×Value),(plC us).length=us.length*2
 | []=>rfl
 | u::us=>by rw [wE,List.length_cons,List.length_cons,bW us,List.length_cons];omega
theorem plC_at:∀ (us:List (Value×Value)) (i:Nat) (u:Value×Value),us[i]? = some u->(plC us)[i*2]? = some u.1/\(plC us)[i*2+1]? = some u.2
 | [],i,u,h=>by simp at h
 | v::us,0,u,h=>by obtain rfl:v=u:=by simpa using h
                   rw [wE];exact ⟨rfl,rfl⟩
 | v::us,i+1,u,h=>by
   rw [List.getElem?_cons_succ] at h
   have:=plC_at us i u h
   rw [wE,show (i+1)*2=i*2+1+1 from by omega]
   simpa using this
theorem Own.unlikeG {w:World} {e e':TypeId} {sz sz':Nat} {v v':Value} {n n':Nat} {xs ys:List Value} (h:Own w e sz v n xs) (h':Own w e' sz' v' n' ys) (he:e≠e') {g:Nat} (hg:v.ownBlock=some g):v'.ownBlock≠some g:=by
 intro dF
 rcases h.2 with ⟨rfl,_⟩ | ⟨b,cap,cur,rfl,_,hb,_⟩
 ·simp [Value.ownBlock] at hg
 ·rcases h'.2 with ⟨rfl,_⟩ | ⟨b',cap',cur',rfl,_,dW,_⟩
  ·simp [Value.ownBlock] at dF
  ·simp [Value.ownBlock] at hg dF
   subst hg;subst dF
   rw [hb] at dW
   simp at dW
   exact he dW.2
theorem yx:(9:TypeId)≠28:=by decide
theorem wA:(3:TypeId)≠28:=by decide
theorem str_int:(9:TypeId)≠3:=by decide
abbrev wi:=List (List Value×List Value)
structure jl (w:World) (v:Value) (us:List (Value×Value)) (xs:wi):Prop where
 own:Own w 28 2 v us.length (plC us)
 len:us.length=xs.length
 each:∀ (i:Nat) (u:Value×Value) (x:List Value×List Value),us[i]? = some u->xs[i]? = some x->Own w 9 1 u.1 x.1.length x.1/\Own w 3 1 u.2 x.2.length x.2
 apart:∀ (i j:Nat) (u u':Value×Value),i≠j->us[i]? = some u->us[j]? = some u'->∀ g,(u.1.ownBlock=some g->u'.1.ownBlock≠some g)/\(u.2.ownBlock=some g->u'.2.ownBlock≠some g)
def PlB (v:Value) (us:List (Value×Value)) (b:Nat):Prop:=v.ownBlock=some b\/∃ u∈us,u.1.ownBlock=some b\/u.2.ownBlock=some b
theorem jl.mem {w:World} {v:Value} {us:List (Value×Value)} {xs:wi} (h:jl w v us xs) {u:Value×Value} (hu:u∈us):∃ (i:Nat) (x:List Value×List Value),us[i]? = some u/\xs[i]? = some x:=by
 obtain ⟨i,hi⟩:=List.mem_iff_getElem?.1 hu
 have hl:=(List.getElem?_eq_some_iff.1 hi).1
 rw [h.len] at hl
 exact ⟨i,xs[i],hi,List.getElem?_eq_getElem hl⟩
theorem jl.lt {w:World} {v:Value} {us:List (Value×Value)} {xs:wi} (h:jl w v us xs) {b:Nat} (hb:PlB v us b):b<w.heap.size:=by
 rcases hb with hb | ⟨u,hu,hb⟩
 ·exact h.own.lt hb
 ·obtain ⟨i,x,h1,h2⟩:=h.mem hu
  rcases hb with hb | hb
  ·exact (h.each i u x h1 h2).1.lt hb
  ·exact (h.each i u x h1 h2).2.lt hb
theorem jl.but {w w':World} {v:Value} {us:List (Value×Value)} {xs:wi} {m:Nat->Prop} (h:jl w v us xs) (hb:But m w w') (hm:∀ b,PlB v us b->¬ m b):jl w' v us xs :=
 ⟨h.own.keep fun g o hg ho=>by rw [hb.block g (zZ ho) (hm g (.inl hg))];exact ho,h.len,
  fun i u x h1 h2=>by
   have hu:=List.mem_of_getElem? h1
   obtain ⟨k1,k2⟩:=h.each i u x h1 h2
   exact ⟨k1.keep fun g o hg ho=>by rw [hb.block g (zZ ho) (hm g (.inr ⟨u,hu,.inl hg⟩))];exact ho,k2.keep fun g o hg ho=>by rw [hb.block g (zZ ho) (hm g (.inr ⟨u,hu,.inr hg⟩))];exact ho⟩,h.apart⟩
theorem jl.below {w w':World} {v:Value} {us:List (Value×Value)} {xs:wi} (h:jl w v us xs) (hb:Below w.heap.size w w'):jl w' v us xs :=
 h.but (m:=fun _=>False) (But.ofBelow hb) fun _ _ h=>h
theorem jl.nil (w:World):jl w (.slice none 0 0) [] [] :=
 ⟨World.ownsRow_nil w 0 _ 2,rfl,fun i u x h=>by simp at h,fun i j u u' _ h=>by simp at h⟩
theorem jl.snoc {w w':World} {v v':Value} {us:List (Value×Value)} {xs:wi} (h:jl w v us xs) {u:Value×Value} {x:List Value×List Value}
 (ho:Own w' 28 2 v' (us.length+1) (plC us++[u.1,u.2])) (hb:But (fun b=>v.ownBlock=some b) w w')
 (h1:Own w 9 1 u.1 x.1.length x.1) (h2:Own w 3 1 u.2 x.2.length x.2)
 (hf:∀ (g:Nat),u.1.ownBlock=some g\/u.2.ownBlock=some g->¬ PlB v us g):jl w' v' (us++[u]) (xs++[x]):=by
 have key:∀ {e:TypeId} {n:Nat} {r:Value} {ys:List Value},Own w e 1 r n ys->(∀ g,r.ownBlock=some g->v.ownBlock≠some g)->Own w' e 1 r n ys:=fun h hne =>
  h.keep fun g o hg ho=>by rw [hb.block g (zZ ho) (fun e=>hne g hg e)];exact ho
 refine ⟨by rw [List.length_append,List.length_singleton,yW];exact ho,by rw [List.length_append,List.length_append,h.len];rfl,fun i u' x' hu hx=>?_,fun i j a b tq ha dW g=>?_⟩
 ·rcases Nat.lt_or_ge i us.length with hi | hi
  ·rw [List.getElem?_append_left hi] at hu
   rw [List.getElem?_append_left (by rw [<- h.len];exact hi)] at hx
   obtain ⟨k1,k2⟩:=h.each i u' x' hu hx
   exact ⟨key k1 (fun g hg=>k1.unlikeG h.own yx hg),key k2 (fun g hg=>k2.unlikeG h.own wA hg)⟩
  ·rw [List.getElem?_append_right hi] at hu
   rw [List.getElem?_append_right (by rw [<- h.len];exact hi),<- h.len] at hx
   have hi0:i-us.length=0:=by have:=(List.getElem?_eq_some_iff.1 hu).1;simp at this;omega
   rw [hi0] at hu hx
   obtain rfl:u=u':=by simpa using hu
   obtain rfl:x=x':=by simpa using hx
   exact ⟨key h1 (fun g hg=>h1.unlikeG h.own yx hg),key h2 (fun g hg=>h2.unlikeG h.own wA hg)⟩
 ·have last:∀ {k:Nat} {c:Value×Value},(us++[u])[k]? = some c->(us[k]? = some c/\k<us.length)\/(c=u/\k=us.length):=by
   intro k c hc
   rcases Nat.lt_or_ge k us.length with hk | hk
   ·rw [List.getElem?_append_left hk] at hc;exact .inl ⟨hc,hk⟩
   ·rw [List.getElem?_append_right hk] at hc
    have hi0:k-us.length=0:=by have:=(List.getElem?_eq_some_iff.1 hc).1;simp at this;omega
    rw [hi0] at hc
    exact .inr ⟨by simpa using hc.symm,by omega⟩
  rcases last ha with ⟨ka,hia⟩ | ⟨ea,hia⟩
  ·rcases last dW with ⟨kb,hjb⟩ | ⟨eb,hjb⟩
   ·exact h.apart i j a b tq ka kb g
   ·have hm:=List.mem_of_getElem? ka
    rw [eb]
    exact ⟨fun e1 e2=>hf g (.inl e2) (.inr ⟨a,hm,.inl e1⟩),fun e1 e2=>hf g (.inr e2) (.inr ⟨a,hm,.inr e1⟩)⟩
  ·rcases last dW with ⟨kb,hjb⟩ | ⟨eb,hjb⟩
   ·have hm:=List.mem_of_getElem? kb
    rw [ea]
    exact ⟨fun e1 e2=>hf g (.inl e1) (.inr ⟨b,hm,.inl e2⟩),fun e1 e2=>hf g (.inr e1) (.inr ⟨b,hm,.inr e2⟩)⟩
   ·omega
theorem PlB.snoc {v v':Value} {us:List (Value×Value)} {u:Value×Value} {b:Nat} (h:PlB v' (us++[u]) b):v'.ownBlock=some b\/PlB v us b\/u.1.ownBlock=some b\/u.2.ownBlock=some b:=by
 rcases h with h | ⟨c,hc,h⟩
 ·exact .inl h
 ·rcases List.mem_append.1 hc with hc | hc
  ·exact .inr (.inl (.inr ⟨c,hc,h⟩))
  ·simp at hc;subst hc;exact .inr (.inr h)
def plX (l:Pl):List Value×List Value:=(qg l,qD l)
def xY (w:World) (L:List Pl) (v:Value) (us:List (Value×Value)):Prop:=jl w v us (L.map plX)
theorem xY.play {w:World} {L:List Pl} {v:Value} {us:List (Value×Value)} (h:xY w L v us) {i:Nat} {u:Value×Value} {l:Pl} (hu:us[i]? = some u) (hl:L[i]? = some l):zo w l u.1 u.2:=by
 have:=h.each i u (plX l) hu (by rw [List.getElem?_map,hl];rfl)
 simpa [plX,zo,qg,qD] using this
theorem xY.length {w:World} {L:List Pl} {v:Value} {us:List (Value×Value)} (h:xY w L v us):us.length=L.length:=by have:=h.len;rwa [List.length_map] at this
theorem jl.set1 {w w':World} {v:Value} {us:List (Value×Value)} {xs:wi} (h:jl w v us xs) {i:Nat} {u:Value×Value} {x:List Value×List Value} (hu:us[i]? = some u) (hx:xs[i]? = some x) {ys:List Value}
 (ho:Own w' 9 1 u.1 ys.length ys) (hb:But (fun b=>u.1.ownBlock=some b) w w'):jl w' v us (xs.set i (ys,x.2)):=by
 obtain ⟨o1,o2⟩:=h.each i u x hu hx
 refine ⟨h.own.keep fun g o hg ho=>by rw [hb.block g (zZ ho) (fun e=>o1.unlikeG h.own yx e hg)];exact ho,by rw [List.length_set];exact h.len,fun j c y hc hy=>?_,h.apart⟩
 by_cases tq:i=j
 ·subst tq
  rw [hu] at hc
  obtain rfl:=Option.some.inj hc
  rw [List.getElem?_set_self (List.getElem?_eq_some_iff.1 hx).1] at hy
  obtain rfl:=Option.some.inj hy
  exact ⟨ho,o2.keep fun g o hg ho=>by rw [hb.block g (zZ ho) (fun e=>o1.unlikeG o2 str_int e hg)];exact ho⟩
 ·rw [List.getElem?_set_ne tq] at hy
  obtain ⟨k1,k2⟩:=h.each j c y hc hy
  exact ⟨k1.keep fun g o hg ho=>by rw [hb.block g (zZ ho) (fun e=>(h.apart i j u c tq hu hc g).1 e hg)];exact ho,
   k2.keep fun g o hg ho=>by rw [hb.block g (zZ ho) (fun e=>o1.unlikeG k2 str_int e hg)];exact ho⟩
section
variable {P:Program} {ops:Array Oper} {Q:Exit->Act->World->Prop} {md:Region.Mode} {S:World->Prop} {T:Nat->Bool}
def jg (P:Program) (md:Region.Mode) (ops:Array Oper) (Q:Exit->Act->World->Prop) (S:World->Prop) (T:Nat->Bool):Nat->Array Bool->Act->World->Prop
 | 0,listed,a,w=>Region.ready md ops listed=[]/\Q .normal a w
 | fuel+1,listed,a,w =>
   (Region.ready md ops listed=[]->Q .normal a w) /\
   ∀ i∈Region.ready md ops listed,wpOp P ops Q i (fun a' w'=>(T i=false->S w')/\jg P md ops Q S T fuel (listed.setIfInBounds i true) a' w') a w
theorem gj:∀ (fuel:Nat) (listed:Array Bool) (a:Act) (w:World),jg P md ops Q S T fuel listed a w->wpAny P md ops Q fuel listed a w
 | 0,_,_,_,h=>h
 | fuel+1,_,_,_,h=>⟨h.1,fun i hi=>wpOp_mono (fun a' w' h'=>gj fuel _ a' w' h'.2) (h.2 i hi)⟩
theorem xc {md:Region.Mode} {ops:Array Oper} {L:Array Bool} {i j:Nat} (h:j∈Region.ready md ops L) (hne:j≠i):j∈Region.ready md ops (L.setIfInBounds i true):=by
 unfold Region.ready at *
 rw [List.mem_filter] at *
 refine ⟨h.1,?_⟩
 have h2:=h.2
 rw [Bool.and_eq_true] at *
 refine ⟨?_,?_⟩
 ·have e:(L.setIfInBounds i true).getD j true=L.getD j true:=by
   simp only [Array.getD_eq_getD_getElem?]
   rw [Array.getElem?_setIfInBounds_ne (fun e=>hne e.symm)]
  rw [e];exact h2.1
 ·have h3:=h2.2
  cases ho:ops[j]? with
  | none=>rw [ho] at h3;simp at h3
  | some o =>
    rw [ho] at h3
    simp only [Option.map_some,Option.getD_some] at h3 ⊢
    rw [Array.all_eq_true'] at *
    intro e he
    have h4:=h3 e he
    rw [Bool.or_eq_true] at *
    rcases h4 with h4 | h4
    ·exact .inl h4
    ·refine .inr ?_
     by_cases hk:e.on=i
     ·rw [hk]
      simp only [Array.getD_eq_getD_getElem?] at h4 ⊢
      rw [hk] at h4
      rcases Nat.lt_or_ge i L.size with h' | h'
      ·simp [h']
      ·rw [Array.getElem?_eq_none h'] at h4;simp at h4
     ·simp only [Array.getD_eq_getD_getElem?] at h4 ⊢
      rw [Array.getElem?_setIfInBounds_ne (fun e=>hk e.symm)];exact h4
theorem yZ {md:Region.Mode} {ops:Array Oper} {L:Array Bool} {j:Nat} (h:j∈Region.ready md ops L) :
 L.getD j true=false/\∃ o,ops[j]? = some o/\∀ e∈o.after,Region.binds md e=true->L.getD e.on false=true:=by
 unfold Region.ready at h
 rw [List.mem_filter] at h
 have h2:=h.2
 rw [Bool.and_eq_true] at h2
 refine ⟨by simpa using h2.1,?_⟩
 cases ho:ops[j]? with
 | none=>have:=h2.2;rw [ho] at this;simp at this
 | some o =>
   refine ⟨o,rfl,fun e he hb=>?_⟩
   have h3:=h2.2
   rw [ho] at h3
   simp only [Option.map_some,Option.getD_some] at h3
   rw [Array.all_eq_true'] at h3
   have h4:=h3 e he
   rw [Bool.or_eq_true] at h4
   rcases h4 with h4 | h4
   ·rw [hb] at h4;simp at h4
   ·exact h4
theorem wpAnyS_first {i:Nat} {oi:Oper} {v:Value} (hi:ops[i]? = some oi) (Bx:∀ (j:Nat) (o:Oper) cs b,ops[j]? = some o->o.op≠.select cs b)
 (hQ:∀ c a w,Q (.panic c) (a.put oi.dst v) w->Q (.panic c) a w)
 (hT:∀ j oj,ops[j]? = some oj->T j=true->∃ e∈oj.after,Region.binds md e=true/\e.on=i) (hTi:T i=false) :
 ∀ (fuel:Nat) (listed:Array Bool) (a:Act) (w:World),
   (∀ j oj,ops[j]? = some oj->j≠i->listed.getD j true=false->(∀ e∈oj.after,Region.binds md e=true->e.on≠i)->oi.apart ops oj=true) ->
   i∈Region.ready md ops listed->YieldsIf P ops S oi v a->S w ->
   jg P md ops Q S T fuel (listed.setIfInBounds i true) (a.put oi.dst v) w->jg P md ops Q S T (fuel+1) listed a w:=by
 intro fuel
 induction fuel with
 | zero =>
   intro listed a w _ hr hy hS H
   refine ⟨fun h=>(by rw [h] at hr;cases hr),fun j hj=>?_⟩
   by_cases aO:j=i
   ·subst aO;exact hy.wpOp hi hS ⟨fun _=>hS,H⟩
   ·have:=xc hj aO
    rw [H.1] at this
    cases this
 | succ fuel ih =>
   intro listed a w fl hr hy hS H
   refine ⟨fun h=>(by rw [h] at hr;cases hr),fun j hj=>?_⟩
   by_cases aO:j=i
   ·subst aO;exact hy.wpOp hi hS ⟨fun _=>hS,H⟩
   ·have h1:=H.2 j (xc hj aO)
    obtain ⟨Cu,oj,hoj,dC⟩:=yZ hj
    have B7:∀ e∈oj.after,Region.binds md e=true->e.on≠i:=fun e he hb heq=>by
     have h1:=dC e he hb
     have h0:=(yZ hr).1
     rw [heq] at h1
     simp only [Array.getD_eq_getD_getElem?] at h0 h1
     rcases Nat.lt_or_ge i listed.size with h' | h'
     ·simp [h'] at h0 h1;rw [h0] at h1;cases h1
     ·simp [Array.getElem?_eq_none h'] at h1
    have hTj:T j=false:=by
     cases hT':T j with
     | false=>rfl
     | true =>
       obtain ⟨e,he,hb,heq⟩:=hT j oj hoj hT'
       exact absurd heq (B7 e he hb)
    have h2:=wpOp_putIf hoj (fl j oj hoj aO Cu B7) (fun cs b=>Bx i oi cs b hi) (fun cs b=>Bx j oj cs b hoj) hQ hy h1
    have ow:∀ k ok,ops[k]? = some ok->k≠i->(listed.setIfInBounds j true).getD k true=false ->
     (∀ e∈ok.after,Region.binds md e=true->e.on≠i)->oi.apart ops ok=true:=fun k ok hk hki hun mj=>by
     refine fl k ok hk hki ?_ mj
     by_cases hjk:j=k
     ·subst hjk;exact Cu
     ·simp only [Array.getD_eq_getD_getElem?] at hun ⊢
      rw [Array.getElem?_setIfInBounds_ne hjk] at hun;exact hun
    refine wpOp_mono (fun a' w' h3=>⟨h3.2.1,ih (listed.setIfInBounds j true) a' w' ow (xc hr (Ne.symm aO)) h3.1 (h3.2.1 hTj) ?_⟩) h2
    rw [Array.setIfInBounds_comm _ _ aO]
    exact h3.2.2
def waitT (md:Region.Mode) (ops:Array Oper) (T:Nat->Bool) (i:Nat):Bool :=
 !T i && (List.range ops.size).all fun j=>!T j || ((ops[j]?).map fun o=>o.after.any fun e=>Region.binds md e && e.on == i).getD true
theorem waitT_spec {i:Nat} (h:waitT md ops T i=true):T i=false/\∀ j oj,ops[j]? = some oj->T j=true->∃ e∈oj.after,Region.binds md e=true/\e.on=i:=by
 unfold waitT at h
 rw [Bool.and_eq_true] at h
 refine ⟨by simpa using h.1,fun j oj hj hT=>?_⟩
 have h2:=h.2
 rw [List.all_eq_true] at h2
 have h3:=h2 j (List.mem_range.2 (Array.getElem?_eq_some_iff.1 hj).1)
 rw [hT,hj] at h3
 simp only [Bool.not_true,Bool.false_or,Option.map_some,Option.getD_some] at h3
 rw [Array.any_eq_true'] at h3
 obtain ⟨e,he,h4⟩:=h3
 rw [Bool.and_eq_true,beq_iff_eq] at h4
 exact ⟨e,he,h4⟩
theorem zJ (i:Nat) {v:Value} {fuel:Nat} {listed:Array Bool} {a:Act} {w:World}
 (hs:Region.noSelect ops=true) (hf:Region.free md ops listed i=true) (hr:(Region.ready md ops listed).contains i=true) (ht:waitT md ops T i=true)
 (hQ:∀ d c a w,Q (.panic c) (a.put d v) w->Q (.panic c) a w) (hS:S w)
 (hy:∀ oi,ops[i]? = some oi->YieldsIf P ops S oi v a)
 (h:∀ d,(ops[i]?).bind (·.dst)=d->jg P md ops Q S T fuel (listed.setIfInBounds i true) (a.put d v) w):jg P md ops Q S T (fuel+1) listed a w:=by
 have hm:i∈Region.ready md ops listed:=by simpa using hr
 obtain ⟨_,oi,hi,_⟩:=yZ hm
 obtain ⟨h1,h2⟩:=waitT_spec ht
 exact wpAnyS_first hi (Region.noSelect_spec hs) (fun c a w=>hQ _ c a w) h2 h1 fuel listed a w (Region.free_spec hi hf) hm (hy oi hi) hS (h _ (by rw [hi];rfl))
def tks (P:Program) (ops:Array Oper) (S:World->Prop):List Nat->List (Option Tmp)->Act->(Act->Prop)->Prop
 | i::l,d::ds,a,K=>∃ v,(∀ oi,ops[i]? = some oi->YieldsIf P ops S oi v a)/\tks P ops S l ds (a.put d v) K
 | [],_,a,K=>K a
 | _::_,[],_,_=>False
def tkOk (md:Region.Mode) (ops:Array Oper) (T:Nat->Bool):List Nat->Array Bool->Bool
 | [],_=>true
 | i::l,L=>Region.free md ops L i && ((Region.ready md ops L).contains i && (waitT md ops T i && tkOk md ops T l (L.setIfInBounds i true)))
def tkL:List Nat->Array Bool->Array Bool
 | [],L=>L
 | i::l,L=>tkL l (L.setIfInBounds i true)
def tkN:List Nat->Nat->Nat
 | [],n=>n
 | _::l,n=>tkN l n+1
def tkD (ops:Array Oper):List Nat->List (Option Tmp)
 | []=>[]
 | i::l=>(ops[i]?).bind (·.dst)::tkD ops l
theorem tk (is:List Nat) {fuel:Nat} {listed:Array Bool} {a:Act} {w:World} (hS:S w) (h:∀ ds,tkD ops is=ds->tks P ops S is ds a (fun a'=>jg P md ops Q S T fuel (tkL is listed) a' w))
 (co:(Region.noSelect ops && tkOk md ops T is listed)=true:=by kernel_rfl) (hQ:∀ v d c a w,Q (.panic c) (a.put d v) w->Q (.panic c) a w:=by exact fun _ _ _ _ _ h=>h):jg P md ops Q S T (tkN is fuel) listed a w:=by
 have h':=h _ rfl
 clear h
 rw [Bool.and_eq_true] at co
 obtain ⟨hs,co⟩:=co
 induction is generalizing listed a with
 | nil=>exact h'
 | cons i l ih =>
   rw [tkOk,Bool.and_eq_true,Bool.and_eq_true,Bool.and_eq_true] at co
   rw [tkD,tks] at h'
   obtain ⟨v,hy,hk⟩:=h'
   exact zJ i hs co.1 co.2.1 co.2.2.1 (fun d c a w=>hQ v d c a w) hS hy (fun d hd=>by
    rw [hd] at hk
    exact ih hk co.2.2.2)
theorem pQ (l:List Value) (df:List Deferred) (k:Nat) (v:Value):Act.put ⟨l.toArray,df⟩ (some k) v=⟨(l.set k v).toArray,df⟩:=by simp [Act.put]
theorem pN (a:Act) (v:Value):Act.put a none v=a:=rfl
theorem pZ (x y:Value) (l:List Value):(x::l).set 0 y=y::l:=rfl
theorem pS (x y:Value) (l:List Value) (n:Nat):(x::l).set (n+1) y=x::l.set n y:=rfl
theorem kQ (i:Nat) {fuel:Nat} {listed:Array Bool} {a:Act} {w:World} (hr:Region.ready md ops listed=[i])
 (h:∀ o,ops[i]? = some o->∀ K':Act->World->Prop,Shut (∀ a w,(T i=false->S w)->jg P md ops Q S T fuel (listed.setIfInBounds i true) a w->K' a w) ->
  if Region.wanted o (yielded ops a.tmps)=true then Oper.wp P o a w K' Q else K' (a.put o.dst undef) w):jg P md ops Q S T (fuel+1) listed a w:=by
 refine ⟨fun h0=>by rw [hr] at h0;simp at h0,fun j hj=>?_⟩
 rw [hr] at hj
 simp only [List.mem_singleton] at hj
 subst hj
 obtain ⟨_,o,ho,_⟩:=yZ (md:=md) (ops:=ops) (L:=listed) (j:=j) (by rw [hr];simp)
 exact wpOp_step ho (fun K' hK=>h o ho K' (fun a w hS hW=>hK a w ⟨hS,hW⟩))
theorem on (i:Nat) {fuel:Nat} {listed:Array Bool} {a:Act} {w:World}
 (h:∀ o,ops[i]? = some o->∀ K':Act->World->Prop,Shut (∀ a w,(T i=false->S w)->jg P md ops Q S T fuel (listed.setIfInBounds i true) a w->K' a w) ->
  if Region.wanted o (yielded ops a.tmps)=true then Oper.wp P o a w K' Q else K' (a.put o.dst undef) w) (hr:Region.ready md ops listed=[i]:=by kernel_rfl):jg P md ops Q S T (fuel+1) listed a w :=
 kQ i hr h
theorem zt {listed:Array Bool} {a:Act} {w:World} (hr:Region.ready md ops listed=[]) (h:Q .normal a w) :
 ∀ fuel,jg P md ops Q S T fuel listed a w
 | 0=>⟨hr,h⟩
 | _+1=>⟨fun _=>h,by rw [hr];simp⟩
theorem zm {id:Nat} {a:Act} {w:World} (S:World->Prop) (T:Nat->Bool) (hm:P.follows .mixedOrders=true)
 (h:jg P .any ops Q S T ops.size (Array.replicate ops.size false) a w.drew):(Code.region id ops true).wp P Q a w :=
 wp_region_any hm (gj _ _ _ _ h)
end
theorem out_cell {m:Nat->Prop} {w6 w7:World} {o:Obj} {ob f:Nat} {u:Value} (hb:But m (w6.alloc o) w7) (hm:¬ m ob) (h:w6.cell? ⟨ob,f,none⟩=some u):w7.cell? ⟨ob,f,none⟩=some u:=by
 have cL:=cD w6 ⟨ob,f,none⟩ h
 rw [hb.cell (p:=⟨ob,f,none⟩) (by rw [zK];exact Nat.lt_succ_of_lt cL) hm]
 exact zX h
theorem out_free {m:Nat->Prop} {w6 w7:World} {o:Obj} {ob f:Nat} (hb:But m (w6.alloc o) w7) (hm:¬ m ob) (cL:ob<w6.heap.size) (h:w6.frozen? ⟨ob,f,none⟩=false):w7.frozen? ⟨ob,f,none⟩=false:=by
 rw [World.frozen?_of_block (w:=w6) (by rw [hb.block _ (by rw [zK];omega) hm,Below.heap_alloc _ _ _ cL])]
 exact h
theorem own_thru {wr w5 w6:World} {e:TypeId} {sz n:Nat} {v:Value} {xs:List Value} {rd:Nat} (h:Own wr e sz v n xs) (hg:∀ g,v.ownBlock=some g->g≠rd) (dK:But (· = rd) wr w5) (cd:But (· = rd) w5 w6):Own w6 e sz v n xs :=
 h.keep fun g o n7 ho=>by
  have cL:=zZ ho
  rw [cd.block g (cM cL dK.size) (hg g n7),dK.block g cL (hg g n7)];exact ho
theorem vF {rd:Nat} {w w':World} (hb:But (· = rd) w w') {b o:Nat} {u:Value} (hne:b≠rd) (h:w.cell? ⟨b,o,none⟩=some u):w'.cell? ⟨b,o,none⟩=some u :=
 (hb.cell (p:=⟨b,o,none⟩) (cD w ⟨b,o,none⟩ h) hne).trans h
theorem wd {rd:Nat} {w w':World} (hb:But (· = rd) w w') {b o:Nat} (hne:b≠rd) (cL:b<w.heap.size) (h:w.frozen? ⟨b,o,none⟩=false):w'.frozen? ⟨b,o,none⟩=false:=by
 rw [World.frozen?_of_block (w:=w) (hb.block b cL hne)];exact h
def cP (size:Nat) (v:Value) (n:Nat) (xs:List Value) (w:World):Prop :=
 xs.length=n*size/\((∃ b,v=.slice (some b) n n/\∀ (j:Nat) u,xs[j]? = some u->w.cell? (b.add j)=some u)\/(v=.slice none 0 0/\n=0))
theorem cP.ofRep {F:Nat->Prop} {w:World} {e:TypeId} {sz n:Nat} {cs:List DV} {a:Option Addr} {c:Nat} (h:Rep F w (.sl e sz n cs) (.slice a n c)) (eO:∀ us,zH F w cs us->∀ u∈us,u.oneCell'=true) :
 ∃ xs,zH F w cs xs/\cP sz (.slice a n n) n xs w:=by
 obtain ⟨xs,h1,h2,_,h4⟩:=zM.ofRep h eO
 refine ⟨xs,h1,h2,?_⟩
 rcases h4 with ⟨b,c',e1,h5⟩ | ⟨e1,rfl⟩
 ·injection e1 with e2 e3 e4
  subst e2
  exact .inl ⟨b,rfl,h5⟩
 ·injection e1 with e2 e3 e4
  subst e2
  exact .inr ⟨rfl,rfl⟩
theorem cP.drew {w:World} {size n:Nat} {v:Value} {xs:List Value} (h:cP size v n xs w):cP size v n xs w.drew:=h
theorem kH {w:World} {b o:Nat} {c:Array Value} {e:TypeId} {u:Value} (h:w.heap[b]? = some (.cells c e (0,0))):(w.setCell ⟨b,o,none⟩ u).heap[b]? = some (.cells (c.setIfInBounds o u) e (0,0)):=by
 have cL:=zZ h
 have h':w.heap[b]=.cells c e (0,0):=by simpa [Array.getElem?_eq_getElem cL] using h
 show (w.heap.modify b _)[b]? = _
 rw [Array.getElem?_eq_getElem (by simpa using cL),Array.getElem_modify_self,h']
 simp
structure BoxRes (F0:Nat->Prop) (W:World) (g:Nat) (o:Obj) (d:List DV) (v:List Value) (Z:World):Prop where
 below:Below W.heap.size W Z
 new:W.heap.size<=g
 blk:Z.heap[g]? = some o
 rep:zH (fun i=>(F0 i\/W.heap.size<=i)/\i≠g) Z d v
theorem BoxRes.first {F0:Nat->Prop} {W V0 V1 Z:World} {o:Obj} {d:List DV} {v:List Value} (hF0:∀ i,F0 i->i<W.heap.size) (h0:Below W.heap.size W V0) (ie:V0.heap.size=W.heap.size+1) (hb:Below V0.heap.size V0 V1) (hr:zH (fun i=>F0 i\/V0.heap.size<=i) V1 d v)
 (dx:But (fun i=>i=W.heap.size) V1 Z) (dd:Z.heap[W.heap.size]? = some o):BoxRes F0 W W.heap.size o d v Z:=by
 have hz:=hb.size
 have cT:Below W.heap.size W V1:=h0.trans (hb.mono (by omega))
 refine ⟨cT.trans (dx.toBelow (by omega) fun i hi e=>by omega),cC _,dd,?_⟩
 refine (Rep.keep fun i x hi hx=>?_).2 _ _ hr
 have hne:i≠W.heap.size:=by rcases hi with h | h;have:=hF0 i h;omega;omega
 exact ⟨⟨hi.elim .inl (fun h=>.inr (by omega)),hne⟩,by rw [dx.block i (zZ hx) hne];exact hx⟩
theorem BoxRes.last {F0:Nat->Prop} {W V1 Z:World} {z o:Obj} {d:List DV} {v:List Value} (hb:Below W.heap.size W V1) (hr:zH (fun i=>F0 i\/W.heap.size<=i) V1 d v)
 (dx:But (fun i=>i=V1.heap.size) (V1.alloc z) Z) (dd:Z.heap[V1.heap.size]? = some o):BoxRes F0 W V1.heap.size o d v Z:=by
 have hz:=hb.size
 refine ⟨(hb.alloc hz z).trans (dx.toBelow (by rw [zK];omega) fun i hi e=>by omega),hz,dd,?_⟩
 refine (Rep.keep fun i x hi hx=>?_).2 _ _ hr
 have hl:=zZ hx
 have hne:i≠V1.heap.size:=by omega
 exact ⟨⟨hi,hne⟩,by rw [dx.block i (by rw [zK];omega) hne,Below.heap_alloc _ _ _ hl];exact hx⟩
theorem kp {w:World} {b:Nat} {x y:Value} {T:TypeId} (h:w.heap[b]? = some (.cells #[x,y] T (0,0))):w.cell? ⟨b,0,none⟩=some x/\w.cell? ⟨b,1,none⟩=some y/\w.frozen? ⟨b,0,none⟩=false/\w.frozen? ⟨b,1,none⟩=false :=
 ⟨by simp [World.cell?,h],by simp [World.cell?,h],by simp [World.frozen?,h],by simp [World.frozen?,h]⟩
theorem gI (w:World) (A B:Obj):∃ W,(w.alloc A).alloc B=W/\Below w.heap.size w W/\W.heap.size=w.heap.size+2/\W.heap[w.heap.size]? = some A/\W.heap[w.heap.size+1]? = some B:=by
 refine ⟨_,rfl,((cE _ _).alloc (cC _) _).alloc (by rw [zK];omega) _,by rw [zK,zK],zY (zT _ _),?_⟩
 have h:=zT (w.alloc A) B
 rwa [zK] at h
theorem q_ (w:World) (A:Obj):∃ W,w.alloc A=W/\Below w.heap.size w W/\W.heap.size=w.heap.size+1/\W.heap[w.heap.size]? = some A :=
 ⟨_,rfl,(cE _ _).alloc (cC _) _,by rw [zK],zT _ _⟩
def lvD (lv:List zx):List DV:=lv.flatMap fun p=>[DV.val (.int .i64 (p.1:Nat)),DV.val (str p.2)]
def lvC (lv:List zx):List Value:=lv.flatMap fun p=>[.int .i64 (p.1:Nat),str p.2]
theorem bM (a b:List zx):lvC (a++b)=lvC a++lvC b:=by simp [lvC]
theorem lvD_at:∀ (lv:List zx) (i:Nat) (p:zx),lv[i]? = some p->(lvD lv)[i*2]? = some (.val (.int .i64 (p.1:Nat)))/\(lvD lv)[i*2+1]? = some (.val (str p.2))
 | [],i,p,h=>by simp at h
 | q::lv,0,p,h=>by obtain rfl:q=p:=by simpa using h
                   exact ⟨rfl,rfl⟩
 | q::lv,i+1,p,h=>by
   rw [List.getElem?_cons_succ] at h
   have:=lvD_at lv i p h
   rw [show lvD (q::lv)=[DV.val (.int .i64 (q.1:Nat)),DV.val (str q.2)]++lvD lv from rfl,show (i+1)*2=2+i*2 from by omega]
   rw [List.getElem?_append_right (by simp),List.getElem?_append_right (by simp;omega)]
   simpa [Nat.add_sub_cancel_left,show 2+i*2+1-2=i*2+1 from by omega] using this
def jI (F:Nat->Prop) (w:World) (lv:List zx) (v:Value):Prop:=Rep F w (.sl 99 2 lv.length (lvD lv)) v
theorem jI.open {F:Nat->Prop} {w:World} {lv:List zx} {v:Value} (h:jI F w lv v):∃ a c,v=.slice a lv.length c /\
 ∀ (i:Nat) (p:zx),lv[i]? = some p->∃ b o,a=some ⟨b,o,none⟩/\F b/\b<w.heap.size/\w.cell? ⟨b,o+i*2,none⟩=some (.int .i64 (p.1:Nat))/\w.cell? ⟨b,o+i*2+1,none⟩=some (str p.2):=by
 unfold jI at h
 rw [kM] at h
 obtain ⟨hl,a,cap,hv,hn,hz,h⟩:=h
 refine ⟨a,cap,hv,fun i p hp=>?_⟩
 have hi:=(List.getElem?_eq_some_iff.1 hp).1
 obtain ⟨d1,d2⟩:=lvD_at lv i p hp
 rcases h with h | ⟨b,o,c,fr,ha,hb,hc,hr⟩
 ·omega
 ·obtain ⟨u1,k1,r1⟩:=hr.at d1
  obtain ⟨u2,k2,r2⟩:=hr.at d2
  rw [zj] at r1 r2
  subst r1;subst r2
  rw [List.getElem?_take,if_pos (by omega),List.getElem?_drop] at k1 k2
  exact ⟨b,o,ha,hb,zZ hc,by simp [World.cell?,hc];simpa using k1,by simp [World.cell?,hc,Nat.add_assoc];simpa using k2⟩
theorem kN {w:World} {b:Nat} {x y z u:Value} {T:TypeId} (h:w.heap[b]? = some (.cells #[x,y,z,u] T (0,0))):w.cell? ⟨b,0,none⟩=some x/\w.cell? ⟨b,1,none⟩=some y/\w.cell? ⟨b,2,none⟩=some z/\w.cell? ⟨b,3,none⟩=some u :=
 ⟨by simp [World.cell?,h],by simp [World.cell?,h],by simp [World.cell?,h],by simp [World.cell?,h]⟩
def TellP (m:Bs) (i:Nat) (w:World) (en:Ending) (w':World):Prop:=en=.returned (.tuple #[str m,.int .i64 (i:Nat)])/\Below w.heap.size w w'
set_option maxRecDepth 100000 in
theorem tells_leaf (F:Nat->Prop) (c:UInt8) (bv lsl:Value) (bg:zx) (w:World) (hb:Rep F w (kr (.leaf c)) bv) (fS:¬ c=117) (hl:bg.2.length<=1000) :
 Calls Tryz.prog 41 #[.agg #[bv,lsl,.int .i64 (bg.1:Nat),str bg.2]] w (TellP (c::bg.2) bg.1 w):=by
 have C:=cH (fun wz (h:Below w.heap.size w wz)=>y8 F wz c bv (hb.below h (fun _ h=>h)))
 obtain ⟨b,sl,rfl,_,hc,_⟩:=xH hb
 obtain ⟨W,hW,cO,hz,bx⟩:=q_ w (.cells #[.pointer (some ⟨b,0,none⟩),lsl,.int .i64 (bg.1:Nat),str bg.2] 101)
 have CW:=cH (C.out W cO)
 obtain ⟨e0,e1,e2,e3⟩:=kN bx
 have c1:W.cell? ⟨b,0,none⟩=some (.string ⟨#[c]⟩):=(cO.cell (by exact zZ hc)).trans (by simp [World.cell?,hc])
 have q1:(([c]:Bs) == [117])=false:=by rw [beq_eq_false_iff_ne];simpa using fS
 have a1:=fun w0=>kG (P:=Tryz.prog) [c] bg.2 (by simp;omega) w0
 rw [List.singleton_append] at a1
 generalize hM:c::bg.2=M at *
 have HW:=cH (cB hW cO)
 clear hW cO hz bx hc hb C fS hM e1
 go_enter Tryz.func41,Tryz.ntmps41
 go_upto_region 1 with (fail)
 rw [HW.out.1]
 go_wp2_with fail
 (with_reducible refine CW.out.mono ?_)
 rintro en w1 ⟨rfl,ew⟩
 subst ew
 go_wp2_with fail
 go_quiet (fail)
 go_wp2_with fail
 go_ret2
 exact ⟨rfl,kZ HW.out.2 _⟩
set_option maxRecDepth 100000 in
theorem tells_ask (F:Nat->Prop) (l:Nat) (ss:List Bd) (y n:Bd) (bv lsl:Value) (lv:List zx) (bg pl:zx) (w:World) (hb:Rep F w (kr (.ask l ss y n)) bv) (eJ:jI F w lv lsl) (dU:lv[l]? = some pl) (hl:pl.2.length<=1000) (nT:lv.length<=100000) :
 Calls Tryz.prog 41 #[.agg #[bv,lsl,.int .i64 (bg.1:Nat),str bg.2]] w (TellP (113::pl.2) pl.1 w):=by
 have C:=cH (fun wz (h:Below w.heap.size w wz)=>bI F wz l ss y n bv (hb.below h (fun _ h=>h)))
 obtain ⟨b,sl,yv,nv,rfl,_,hc,_⟩:=xJ hb
 obtain ⟨la,lc,rfl,hat⟩:=eJ.open
 obtain ⟨lb,lo,rfl,_,oO,t0,t1⟩:=hat l pl dU
 have cL:=(List.getElem?_eq_some_iff.1 dU).1
 have nS:(l:Int)<(lv.length:Int):=by omega
 obtain ⟨W,hW,cO,hz,bx⟩:=q_ w (.cells #[.pointer (some ⟨b,0,none⟩),.slice (some ⟨lb,lo,none⟩) lv.length lc,.int .i64 (bg.1:Nat),str bg.2] 101)
 have CW:=cH (C.out W cO)
 have c1:W.cell? ⟨b,1,none⟩=some (.int .i64 (l:Nat)):=(cO.cell (by exact zZ hc)).trans (by simp [World.cell?,hc])
 have t0W:=(cO.cell (p:=⟨lb,lo+l*2,none⟩) oO).trans t0
 have t1W:=(cO.cell (p:=⟨lb,lo+l*2+1,none⟩) oO).trans t1
 have Cp:lb<W.heap.size:=by omega
 have hbb:b<W.heap.size:=by have:=zZ hc;omega
 have KEY:Hid (∀ x,Below W.heap.size W x->x.cell? ⟨w.heap.size,0,none⟩=some (.pointer (some ⟨b,0,none⟩))/\x.cell? ⟨w.heap.size,1,none⟩=some (.slice (some ⟨lb,lo,none⟩) lv.length lc)/\x.cell? ⟨b,1,none⟩=some (.int .i64 (l:Nat))/\x.cell? ⟨lb,lo+l*2,none⟩=some (.int .i64 (pl.1:Nat))/\x.cell? ⟨lb,lo+l*2+1,none⟩=some (str pl.2)):=cH (fun x hx=>by
  obtain ⟨k0,k1,_,_⟩:=kN bx
  exact ⟨(hx.cell (cD _ _ k0)).trans k0,(hx.cell (cD _ _ k1)).trans k1,(hx.cell hbb).trans c1,(hx.cell Cp).trans t0W,(hx.cell Cp).trans t1W⟩)
 obtain ⟨e0,_,_,_⟩:=kN bx
 have a1:=fun w0=>kG (P:=Tryz.prog) [113] pl.2 (by simp;omega) w0
 rw [List.singleton_append] at a1
 generalize hM:113::pl.2=M at *
 have HW:=cH (cB hW cO)
 clear hW cO hz bx hc hb C hM hat dU eJ t0 t1 t0W t1W c1 oO
 go_enter Tryz.func41,Tryz.ntmps41
 go_upto_region 1 with (fail)
 rw [HW.out.1]
 go_wp2_with fail
 (with_reducible refine CW.out.mono ?_)
 rintro en w1 ⟨rfl,ew⟩
 subst ew
 go_wp2_with fail
 refine wp_region_noPanic ?_
 refine zm (fun w'=>Below w1.heap.size w1 w') (fun i=>i == 10) (by kernel_rfl) ?_
 have cI:(fun w'=>Below w1.heap.size w1 w') w1.drew:=Below.drew (cE _ _)
 refine tk [0,1,2,3,4,5,6,7,8] cI ?_
 (intro d hd;simp [tkD] at hd;subst hd;simp only [tks,pQ,pZ,pS])
 iterate 9 (refine ⟨?_,?_,?_⟩;rotate_left;· (intro oi ho;simp at ho;subst ho;refine Or.inl ⟨by rfl,fun w' cv=>?_⟩;obtain ⟨e0,e1,e2,e3,e4⟩:=KEY.out w' cv;go_simp;try with_reducible rfl))
 (refine on 9 ?_;intro o ho K' hK;simp at ho;subst ho;go_simp)
 (refine hK.out _ _ (fun _=>cI.alloc (cC _) _) ?_;clear hK K';try simp only [pQ,pN,pZ,pS])
 (refine on 10 ?_;intro o ho K' hK;simp at ho;subst ho;go_simp)
 (refine hK.out _ _ (fun h=>by simp at h) ?_;clear hK K';try simp only [pQ,pN,pZ,pS])
 refine zt (by kernel_rfl) (NoPanic.normal ?_) _
 obtain ⟨V,hV,hbV,_,bV⟩:=q_ w1 (.cells #[.int .i64 (pl.1:Nat),str pl.2] 99)
 obtain ⟨v0,v1,_,_⟩:=kp bV
 have v0':V.drew.cell? ⟨w1.heap.size,0,none⟩=some (.int .i64 (pl.1:Nat)):=v0
 have v1':V.drew.cell? ⟨w1.heap.size,1,none⟩=some (str pl.2):=v1
 rw [hV]
 have HV:=cH (zzT HW.out.2 hbV)
 clear hV hbV bV cI v0' v1'
 go_wp2_with fail
 go_quiet (fail)
 go_wp2_with fail
 go_ret2
 exact ⟨rfl,kZ HV.out.drew _⟩
theorem growP_any (n:Nat) (w:World) (hn:Lim n) :
 Calls Tryz.prog 93 #[.slice none 0 0,.int .i64 n] w fun en w' =>
  ∃ a c,en=.returned (.slice a 0 c)/\Own w' 99 2 (.slice a 0 c) 0 []/\Below w.heap.size w w'/\(∀ g,(Value.slice a 0 c).ownBlock=some g->w.heap.size<=g):=by
 have hl:=hn.le
 by_cases h0:n=0
 ·subst h0
  go_enter Tryz.func93,Tryz.ntmps93
  go_wp2_with fail
  go_ret
  exact ⟨none,0,rfl,World.ownsRow_nil _ _ _ _,cE _ _,fun g h=>by simp [Value.ownBlock] at h⟩
 ·have h1:0<n:=by omega
  clear h0
  go_enter Tryz.func93,Tryz.ntmps93
  go_wp2_with (at_builtin;refine vO rfl _ _ 97 3 rfl 99 (.agg #[.int .i64 0,str []]) 2 24 Tryz.underlying97 Tryz.underlying3 Tryz.infoPl rfl (by decide) (by decide) rfl n rfl h1 hl ?_)
  intro cap c nO fV rx
  go_wp2_with fail
  go_ret
  exact ⟨_,cap,rfl,⟨by simp,.inr ⟨w.heap.size,cap,c,rfl,Nat.zero_le _,zT w _,Nat.zero_le _,fV,by simpa using rx,by simp⟩⟩,((cE _ _).alloc (cC _) _).drew,fun g h=>by simp [Value.ownBlock] at h;omega⟩
def xN (e:TypeId) (w:World) (n1 n2:Nat) (xs1 xs2:List Value) (v i:Value) (wr:World):Prop :=
 ∃ k m xs a c,i=.int .i64 (k:Nat)/\v=.slice a m c/\Own wr e 2 (.slice a m c) m xs/\Below w.heap.size w wr/\(∀ g,(Value.slice a m c).ownBlock=some g->w.heap.size<=g) /\
   ((k=0/\m=0/\xs=[])\/(k=1/\m=n1/\xs=xs1)\/(k=2/\m=n1+n2/\xs=xs1++xs2))
theorem xN.next {e:TypeId} {w:World} {n1 n2:Nat} {xs1 xs2:List Value} {k m m':Nat} {xs:List Value} {a a':Option Addr} {c c':Nat} {wr w':World}
 (ho:Own w' e 2 (.slice a' m' c') m' xs) (hb:Below w.heap.size w wr) (dV:But (fun b=>(Value.slice a m c).ownBlock=some b) wr w')
 (hf:∀ g,(Value.slice a m c).ownBlock=some g->w.heap.size<=g) (hg:∀ g,(Value.slice a' m' c').ownBlock=some g->(Value.slice a m c).ownBlock=some g\/g=wr.heap.size)
 (hk:(k=0/\m'=0/\xs=[])\/(k=1/\m'=n1/\xs=xs1)\/(k=2/\m'=n1+n2/\xs=xs1++xs2)):xN e w n1 n2 xs1 xs2 (.slice a' m' c') (.int .i64 (k:Nat)) w' :=
 ⟨k,m',xs,a',c',rfl,rfl,ho,hb.trans (dV.toBelow hb.size fun i hi h=>by have:=hf i h;omega),fun g h=>by
  rcases hg g h with h | h
  ·exact hf g h
  ·have:=hb.size;omega,hk⟩
theorem concatP_any (b n1 n2:Nat) (s1 s2:Value) (xs1 xs2:List Value) (w:World) (c1:w.cell? ⟨b,0,none⟩=some s1) (c2:w.cell? ⟨b,1,none⟩=some s2)
 (h1:zM 2 s1 n1 xs1 w) (h2:zM 2 s2 n2 xs2 w) (dY:Lim n1) (fQ:Lim n2) (hn:Lim (n1+n2)) :
 Calls Tryz.prog 83 #[.slice (some ⟨b,0,none⟩) 2 2] w fun en w' =>
  ∃ a c,en=.returned (.slice a (n1+n2) c)/\Own w' 99 2 (.slice a (n1+n2) c) (n1+n2) (xs1++xs2)/\Below w.heap.size w w'/\(∀ g,(Value.slice a (n1+n2) c).ownBlock=some g->w.heap.size<=g):=by
 obtain ⟨a1,k1,rfl⟩:=h1.slice
 obtain ⟨a2,k2,rfl⟩:=h2.slice
 have hl:=hn.le;have nA:=dY.le;have oz:=fQ.le
 have lb:b<w.heap.size:=cD w _ c1
 go_enter Tryz.func83,Tryz.ntmps83
 go_wp2_with fail
 go_loop [3,11] (fun n i=>(i=.int .i64 0/\n=.int .i64 0)\/(i=.int .i64 1/\n=.int .i64 n1)\/(i=.int .i64 2/\n=.int .i64 ((n1:Int)+(n2:Int)))) (fun _ i=>2-(intOf i).toNat)
 case atStart=>exact .inl ⟨rfl,rfl⟩
 case round =>
  rcases hrel with ⟨rfl,rfl⟩ | ⟨rfl,rfl⟩ | ⟨rfl,rfl⟩
  ·go_wp2_with fail
   go_round
   case rel=>exact .inr (.inl ⟨rfl,rfl⟩)
   case measure=>simp [intOf]
  ·go_wp2_with fail
   go_round
   case rel=>exact .inr (.inr ⟨rfl,rfl⟩)
   case measure=>simp [intOf]
  ·go_wp2_with fail
   rw [show (n1:Int)+(n2:Int)=((n1+n2:Nat):Int) from by omega]
   refine (growP_any (n1+n2) w hn).mono ?_
   rintro en wg ⟨ag,cg,rfl,BY,fU,C0⟩
   have f_:xN 99 w n1 n2 xs1 xs2 (.slice ag 0 cg) (.int .i64 (0:Nat)) wg:=⟨0,0,[],ag,cg,rfl,rfl,BY,fU,C0,.inl ⟨rfl,rfl,rfl⟩⟩
   clear BY fU C0
   go_wp2_with fail
   go_loopw [6,27] (fun v i wr=>xN 99 w n1 n2 xs1 xs2 v i wr) (fun _ i _=>2-(intOf i).toNat)
   case atStart=>exact f_
   case round =>
    rename_i wr
    obtain ⟨k,m,xs,a,c,rfl,rfl,ho,hb,hf,hk⟩:=hrel
    have d1:wr.cell? ⟨b,0,none⟩=some (.slice a1 n1 k1):=by rw [hb.cell lb];exact c1
    have d2:wr.cell? ⟨b,1,none⟩=some (.slice a2 n2 k2):=by rw [hb.cell lb];exact c2
    have g1:=h1.below hb;have g2:=h2.below hb
    have HF:=cH hf;clear hf
    rcases hk with ⟨rfl,rfl,rfl⟩ | ⟨rfl,rfl,rfl⟩ | ⟨rfl,rfl,rfl⟩
    ·go_wp2_with (at_builtin;refine zG rfl _ _ 97 rfl 99 (.agg #[.int .i64 0,str []]) 2 24 Tryz.underlying97 Tryz.infoPl rfl (by decide) _ 0 [] rfl ho _ n1 xs1 rfl g1 ?c3 ?c4 ?_)
     case c3=>unfold maxLen;omega
     case c4=>omega
     intro a' c' w' fk dW dF
     have f_:=xN.next (n1:=n1) (n2:=n2) (xs1:=xs1) (xs2:=xs2) (k:=1) fk hb dW HF.out dF (.inr (.inl ⟨rfl,rfl,rfl⟩))
     clear dW dF fk HF
     go_wp2_with fail
     go_roundw
     case rel=>exact f_
     case measure=>simp [intOf]
    ·go_wp2_with (at_builtin;refine zG rfl _ _ 97 rfl 99 (.agg #[.int .i64 0,str []]) 2 24 Tryz.underlying97 Tryz.infoPl rfl (by decide) _ m xs rfl ho _ n2 xs2 rfl g2 ?c3 ?c4 ?_)
     case c3=>unfold maxLen;omega
     case c4=>omega
     intro a' c' w' fk dW dF
     have f_:=xN.next (n1:=m) (n2:=n2) (xs1:=xs) (xs2:=xs2) (k:=2) fk hb dW HF.out dF (.inr (.inr ⟨rfl,rfl,rfl⟩))
     clear dW dF fk HF
     go_wp2_with fail
     go_roundw
     case rel=>exact f_
     case measure=>simp [intOf]
    ·go_wp2_with fail
     go_ret
     exact ⟨a,c,rfl,ho,hb,HF.out⟩
theorem Reps_lv (F:Nat->Prop) (w:World):∀ lv:List zx,zH F w (lvD lv) (lvC lv)
 | []=>zF.2 rfl
 | p::lv=>by
   rw [show lvD (p::lv)=DV.val (.int .i64 (p.1:Nat))::DV.val (str p.2)::lvD lv from rfl,show lvC (p::lv)=.int .i64 (p.1:Nat)::str p.2::lvC lv from rfl]
   exact zV.2 ⟨_,_,rfl,zj.2 rfl,zV.2 ⟨_,_,rfl,zj.2 rfl,Reps_lv F w lv⟩⟩
theorem wZ {F:Nat->Prop} {w:World}:∀ (lv:List zx) (us:List Value),zH F w (lvD lv) us->us=lvC lv
 | [],us,h=>zF.1 h
 | p::lv,us,h=>by
   rw [show lvD (p::lv)=DV.val (.int .i64 (p.1:Nat))::DV.val (str p.2)::lvD lv from rfl] at h
   obtain ⟨u,us1,rfl,h1,h2⟩:=zV.1 h
   obtain ⟨u2,us2,rfl,h3,h4⟩:=zV.1 h2
   rw [zj] at h1 h3
   subst h1;subst h3
   rw [wZ lv us2 h4];rfl
theorem lvC_one:∀ (lv:List zx),∀ u∈lvC lv,u.oneCell'=true
 | [],u,h=>by simp [lvC] at h
 | p::lv,u,h=>by
   rw [show lvC (p::lv)=.int .i64 (p.1:Nat)::str p.2::lvC lv from rfl] at h
   rcases List.mem_cons.1 h with rfl | h
   ·simp [Value.oneCell']
   ·rcases List.mem_cons.1 h with rfl | h
    ·simp [str,Value.oneCell']
    ·exact lvC_one lv u h
theorem jI.src {F:Nat->Prop} {w:World} {lv:List zx} {v:Value} (h:jI F w lv v):zM 2 v lv.length (lvC lv) w:=by
 obtain ⟨xs,hx,hs⟩:=zM.ofRep h (fun us hu u hm=>by rw [wZ lv us hu] at hm;exact lvC_one lv u hm)
 rw [wZ lv xs hx] at hs;exact hs
theorem plcs_eq (b:Nat) (p:Bs):∀ n:Nat,xr b p n=lvC (zh n b p)
 | 0=>rfl
 | n+1=>by rw [xr,plcs_eq b p n,placesOf_succ,bM];rfl
theorem Own.lv {F:Nat->Prop} {w:World} {lv:List zx} {a:Option Addr} {n c:Nat} (h:Own w 99 2 (.slice a n c) n (lvC lv)) (hn:n=lv.length) (hF:∀ g,(Value.slice a n c).ownBlock=some g->F g):jI F w lv (.slice a n c):=by
 subst hn
 exact h.rep hF (Reps_lv F w lv)
theorem jI.but {F F':Nat->Prop} {m:Nat->Prop} {w w':World} {lv:List zx} {v:Value} (h:jI F w lv v) (hb:But m w w') (hF:∀ b,F b->¬ m b/\F' b):jI F' w' lv v:=Rep.but hb hF h
theorem jI.below {F F':Nat->Prop} {w w':World} {lv:List zx} {v:Value} (h:jI F w lv v) (hb:Below w.heap.size w w') (hF:∀ b,F b->F' b):jI F' w' lv v:=Rep.below hb hF h
def StandP (bv:Value) (lv:List zx) (bg:zx) (w:World) (en:Ending) (w':World):Prop :=
 ∃ la lc,en=.returned (.agg #[bv,.slice la lv.length lc,.int .i64 (bg.1:Nat),str bg.2])/\Below w.heap.size w w'/\jI (w.heap.size<=·) w' lv (.slice la lv.length lc)
theorem uu {w:World} {b:Nat} {x y z u:Value} {T:TypeId} (h:w.heap[b]? = some (.cells #[x,y,z,u] T (0,0))) (x' y' z' u':Value):((((w.setCell ⟨b,0,none⟩ x').setCell ⟨b,1,none⟩ y').setCell ⟨b,2,none⟩ z').setCell ⟨b,3,none⟩ u').heap[b]? = some (.cells #[x',y',z',u'] T (0,0)):=by
 rw [kH (kH (kH (kH h)))];rfl
theorem zi {w:World} {b:Nat} {c:Array Value} {T:TypeId} (h:w.heap[b]? = some (.cells c T (0,0))) (o:Nat):w.frozen? ⟨b,o,none⟩=false:=by simp [World.frozen?,h]
set_option maxRecDepth 100000 in
theorem standOf_any (F:Nat->Prop) (t:Ty) (kv bv:Value) (idx:Nat) (w:World) (hg:qL w) (hk:Rep F w (qe t) kv) (ht:zU t<=15) (hbv:∃ a,bv=.pointer a) :
 Calls Tryz.prog 63 #[kv,bv,.int .i64 (idx:Nat)] w (StandP bv (zh t.args.length idx []) (idx,[]) w):=by
 obtain ⟨ba,rfl⟩:=hbv
 obtain ⟨kb,ks,rfl,_,hb,dX⟩:=zO hk
 obtain ⟨sa,sc,rfl,d9,cA,dj⟩:=zC dX
 have mp:=jZ t
 obtain ⟨W,hW,cO,hz,bx⟩:=q_ w (.cells #[.pointer none,.slice none 0 0,.int .i64 0,str []] 101)
 have c0:W.cell? ⟨kb,0,none⟩=some (.slice sa t.args.length sc):=(cO.cell (by exact zZ hb)).trans (by simp [World.cell?,hb])
 have C:=cH (yX t.args.length idx [] W (hg.below cO) (by omega) (by simp))
 have HW:=cH (cB hW (cB cO (cB hz bx)))
 clear hW cO hz bx hk hb dX dj cA d9 hg
 go_enter Tryz.func63,Tryz.ntmps63
 go_upto_region 1 with (fail)
 rw [HW.out.1]
 go_wp2_with fail
 (with_reducible refine C.out.mono ?_)
 rintro en w1 ⟨la,lc,rfl,ho,cT,hf⟩
 rw [plcs_eq] at ho
 have b1:=(cT.block _ (zZ HW.out.2.2.2)).trans HW.out.2.2.2
 obtain ⟨z0,z1,z2,z3⟩:=kN b1
 have f0:=zi b1 0;have f1:=zi b1 1;have f2:=zi b1 2;have f3:=zi b1 3
 have H1:=cH (cB ho (cB cT (cB hf b1)))
 clear ho cT hf b1 c0 C
 go_wp2_with fail
 have hV:=uu H1.out.2.2.2 (.pointer ba) (.slice la t.args.length lc) (.int .i64 (idx:Nat)) (str [])
 obtain ⟨s0,s1,s2,s3⟩:=kN hV
 have s7:=HW.out.2.2.1
 have fY:=((((zzT HW.out.2.1 H1.out.2.1).setCell (p:=⟨w.heap.size,0,none⟩) (cC _) (.pointer ba)).setCell (p:=⟨w.heap.size,1,none⟩) (cC _) (.slice la t.args.length lc)).setCell (p:=⟨w.heap.size,2,none⟩) (cC _) (.int .i64 (idx:Nat))).setCell (p:=⟨w.heap.size,3,none⟩) (cC _) (str [])
 refine bodyPost_ret (v:=.agg #[.pointer ba,.slice la t.args.length lc,.int .i64 (idx:Nat),str []]) (by simp [results,Tryz.results63,go_sem,s0,s1,s2,s3]) rfl ?_
 refine ⟨la,lc,by rw [kP],fY,?_⟩
 rw [kP]
 refine Own.lv ?_ (by rw [kP]) (fun g hg=>by have:=H1.out.2.2.1 g hg;omega)
 exact H1.out.1.keep fun g o hg ho=>by
  have:=H1.out.2.2.1 g hg
  rw [cF _ _ _ _ (by show g≠w.heap.size;omega),cF _ _ _ _ (by show g≠w.heap.size;omega),cF _ _ _ _ (by show g≠w.heap.size;omega),cF _ _ _ _ (by show g≠w.heap.size;omega)];exact ho
def BehT (bv':Bd) (F:Nat->Prop) (lsl:Value) (bg:zx) (w:World) (en:Ending) (w':World):Prop :=
 ∃ a,en=.returned (.agg #[.pointer (some ⟨a,0,none⟩),lsl,.int .i64 (bg.1:Nat),str bg.2])/\Below w.heap.size w w'/\Rep F w (kr bv') (.pointer (some ⟨a,0,none⟩))
set_option maxRecDepth 100000 in
theorem behind_ans (c:UInt8) (hc:c=116\/c=102) (F:Nat->Prop) (l:Nat) (ss:List Bd) (y n:Bd) (bv kv:Value) (la:Option Addr) (ln lc:Nat) (bg:zx) (M:Bs) (idx:Nat) (w:World) (hb:Rep F w (kr (.ask l ss y n)) bv) (hM:0<M.length) (aW:M[0]=c) (iB:∃ a,kv=.pointer a) :
 Calls Tryz.prog 64 #[.agg #[bv,.slice la ln lc,.int .i64 (bg.1:Nat),str bg.2],kv,str M,.int .i64 (idx:Nat)] w (BehT (if c=116 then y else n) F (.slice la ln lc) bg w):=by
 obtain ⟨ka,rfl⟩:=iB
 obtain ⟨b,sl,yv,nv,rfl,_,sn,hs,hy,hn⟩:=xJ hb
 obtain ⟨ya,rfl⟩:=kC hy
 obtain ⟨na,rfl⟩:=kC hn
 obtain ⟨W,hW,cO,hz,b0,b1⟩:=gI w (.cells #[.pointer (some ⟨b,0,none⟩),.slice la ln lc,.int .i64 (bg.1:Nat),str bg.2] 101) (.cells #[.pointer none,.slice none 0 0,.int .i64 0,str []] 101)
 have rB:W.heap[b]? = w.heap[b]?:=cO.block _ (zZ sn)
 have cY:W.cell? ⟨b,3,none⟩=some (.pointer (some ⟨ya,0,none⟩)):=by simp [World.cell?,rB,sn]
 have cN:W.cell? ⟨b,4,none⟩=some (.pointer (some ⟨na,0,none⟩)):=by simp [World.cell?,rB,sn]
 obtain ⟨e0,e1,e2,e3⟩:=kN b0
 have f0:=zi b0 0
 have Q:=cH (cB hy hn)
 have HW:=cH (cB hW (cB cO (cB hz (cB b0 b1))))
 clear hW cO hz b0 b1 rB sn hs hy hn hb e1 e2 e3
 rcases hc with rfl | rfl
 ·have q1:=vD hM (c:=116) (n:=116) rfl aW
  clear aW
  go_enter Tryz.func64,Tryz.ntmps64
  go_upto_region 1 with (fail)
  rw [HW.out.1]
  go_upto_region 10 with (fail)
  obtain ⟨W2,dQ⟩:=zzN (W.setCell ⟨w.heap.size,0,none⟩ (.pointer (some ⟨ya,0,none⟩)))
  have x0:W2.heap[w.heap.size]? = some (.cells #[.pointer (some ⟨ya,0,none⟩),.slice la ln lc,.int .i64 (bg.1:Nat),str bg.2] 101 (0,0)):=by rw [<- dQ,kH HW.out.2.2.2.1];rfl
  have x1:W2.heap[w.heap.size+1]? = some (.cells #[.pointer none,.slice none 0 0,.int .i64 0,str []] 101 (0,0)):=by rw [<- dQ,cF _ _ _ _ (by show w.heap.size+1≠w.heap.size;omega)];exact HW.out.2.2.2.2
  have cS:Below w.heap.size w W2:=by rw [<- dQ];exact HW.out.2.1.setCell (p:=⟨w.heap.size,0,none⟩) (cC _) _
  rw [dQ]
  obtain ⟨y0,y1,y2,y3⟩:=kN x0
  obtain ⟨z0,z1,z2,z3⟩:=kN x1
  have g0:=zi x1 0;have g1:=zi x1 1;have g2:=zi x1 2;have g3:=zi x1 3
  have H2:=cH (cB cS x1)
  clear cS x0 x1 dQ e0 f0 cY cN
  go_wp2_with fail
  have hV:=uu H2.out.2 (.pointer (some ⟨ya,0,none⟩)) (.slice la ln lc) (.int .i64 (bg.1:Nat)) (str bg.2)
  obtain ⟨s0,s1,s2,s3⟩:=kN hV
  have fY:=(((H2.out.1.setCell (p:=⟨w.heap.size+1,0,none⟩) (Nat.le_succ _) (.pointer (some ⟨ya,0,none⟩))).setCell (p:=⟨w.heap.size+1,1,none⟩) (Nat.le_succ _) (.slice la ln lc)).setCell (p:=⟨w.heap.size+1,2,none⟩) (Nat.le_succ _) (.int .i64 (bg.1:Nat))).setCell (p:=⟨w.heap.size+1,3,none⟩) (Nat.le_succ _) (str bg.2)
  refine bodyPost_ret (v:=.agg #[.pointer (some ⟨ya,0,none⟩),.slice la ln lc,.int .i64 (bg.1:Nat),str bg.2]) (by simp [results,Tryz.results64,go_sem,s0,s1,s2,s3]) rfl ?_
  exact ⟨_,rfl,fY,Q.out.1⟩
 ·have q0:=jP hM (c:=116) (n:=116) rfl (by rw [aW];decide)
  have q1:=vD hM (c:=102) (n:=102) rfl aW
  clear aW
  go_enter Tryz.func64,Tryz.ntmps64
  go_upto_region 1 with (fail)
  rw [HW.out.1]
  go_upto_region 10 with (fail)
  obtain ⟨W2,dQ⟩:=zzN (W.setCell ⟨w.heap.size,0,none⟩ (.pointer (some ⟨na,0,none⟩)))
  have x0:W2.heap[w.heap.size]? = some (.cells #[.pointer (some ⟨na,0,none⟩),.slice la ln lc,.int .i64 (bg.1:Nat),str bg.2] 101 (0,0)):=by rw [<- dQ,kH HW.out.2.2.2.1];rfl
  have x1:W2.heap[w.heap.size+1]? = some (.cells #[.pointer none,.slice none 0 0,.int .i64 0,str []] 101 (0,0)):=by rw [<- dQ,cF _ _ _ _ (by show w.heap.size+1≠w.heap.size;omega)];exact HW.out.2.2.2.2
  have cS:Below w.heap.size w W2:=by rw [<- dQ];exact HW.out.2.1.setCell (p:=⟨w.heap.size,0,none⟩) (cC _) _
  rw [dQ]
  obtain ⟨y0,y1,y2,y3⟩:=kN x0
  obtain ⟨z0,z1,z2,z3⟩:=kN x1
  have g0:=zi x1 0;have g1:=zi x1 1;have g2:=zi x1 2;have g3:=zi x1 3
  have H2:=cH (cB cS x1)
  clear cS x0 x1 dQ e0 f0 cY cN
  go_wp2_with fail
  have hV:=uu H2.out.2 (.pointer (some ⟨na,0,none⟩)) (.slice la ln lc) (.int .i64 (bg.1:Nat)) (str bg.2)
  obtain ⟨s0,s1,s2,s3⟩:=kN hV
  have fY:=(((H2.out.1.setCell (p:=⟨w.heap.size+1,0,none⟩) (Nat.le_succ _) (.pointer (some ⟨na,0,none⟩))).setCell (p:=⟨w.heap.size+1,1,none⟩) (Nat.le_succ _) (.slice la ln lc)).setCell (p:=⟨w.heap.size+1,2,none⟩) (Nat.le_succ _) (.int .i64 (bg.1:Nat))).setCell (p:=⟨w.heap.size+1,3,none⟩) (Nat.le_succ _) (str bg.2)
  refine bodyPost_ret (v:=.agg #[.pointer (some ⟨na,0,none⟩),.slice la ln lc,.int .i64 (bg.1:Nat),str bg.2]) (by simp [results,Tryz.results64,go_sem,s0,s1,s2,s3]) rfl ?_
  exact ⟨_,rfl,fY,Q.out.2⟩
inductive Tr where
 | am (a:Bs)
 | ls (ps:List Tr)
def trT:Ty->Tr
 | .mk ts=>trTs ts
where trTs:List Ty->Tr
 | []=>.am [98]
 | t::ts=>.ls [.am [62],trT t,trTs ts]


def BoxT (g:Nat) (s:Bs) (k:Value) (w:World):Prop:=w.cell? ⟨g,0,none⟩=some (str s)/\w.cell? ⟨g,1,none⟩=some k
theorem BoxT.below {g:Nat} {s:Bs} {k:Value} {w w':World} (h:BoxT g s k w) (hb:Below w.heap.size w w'):BoxT g s k w':=by
 obtain ⟨h1,h2⟩:=h
 have:=cD w _ h1
 exact ⟨by rw [hb.cell (by exact this)];exact h1,by rw [hb.cell (by exact this)];exact h2⟩

theorem q_int (c:UInt8):((c.toNat:Int) == 113)=(c == 113):=by
 rw [Bool.eq_iff_iff,beq_iff_eq,beq_iff_eq]
 constructor
 ·intro h
  have:c.toNat=(113:UInt8).toNat:=by rw [show ((113:UInt8).toNat)=113 from rfl];omega
  exact UInt8.toNat_inj.1 this
 ·intro h;subst h;rfl
theorem odd_int (n:Nat):((n:Int) % 2 == 1)=decide (n % 2=1):=by
 rw [Bool.eq_iff_iff,beq_iff_eq,decide_eq_true_iff];omega
theorem ext_tail' (c:UInt8) (p:Bs):(⟨(c::p).toArray⟩:ByteArray).extract 1 (c::p).length=⟨p.toArray⟩:=by rw [jr,List.take_length];rfl
set_option maxRecDepth 20000 in
theorem jm (c:UInt8) (p:Bs) (w:World):Calls Tryz.prog 80 #[str (c::p)] w fun en w'=>en=.returned (.bool (isQ (c::p)))/\w'=w:=by
 obtain ⟨M,hM⟩:=zzM (c::p)
 have aW:0<M.length:=by rw [hM];simp
 have hM0I:(0:Int)<(M.length:Int):=by omega
 have B0:((((⟨M.toArray⟩:ByteArray)[0]'(qV aW)).toNat:Int))=(c.toNat:Int):=by rw [vE aW];subst hM;rfl
 have E:=cH (show isQ (c::p)=((c.toNat:Int) == 113) by rw [qR,q_int])
 rw [<- hM] at E ⊢
 clear hM
 go_enter Tryz.func80,Tryz.ntmps80
 go_wp2_with fail
 go_ret
 exact ⟨by rw [E.out];rfl,rfl⟩
set_option maxRecDepth 20000 in
theorem uQ (c:UInt8) (p:Bs) (hl:p.length<=16777216) (w:World):Calls Tryz.prog 77 #[str (c::p)] w fun en w'=>en=.returned (.bool (qZ (c::p)))/\w'=w:=by
 have C:=cH (jm c p w)
 obtain ⟨bq,Aa⟩:=zzN (isQ (c::p))
 have E:=cH (show qZ (c::p)=(decide (((c::p).length:Nat) % 2=1) == bq) by rw [<- Aa];rfl)
 rw [Aa] at C
 obtain ⟨M,hM⟩:=zzM (c::p)
 have hMl:M.length<=16777217:=by rw [hM];simp;omega
 rw [<- hM] at E C ⊢
 clear hM Aa
 go_enter Tryz.func77,Tryz.ntmps77
 go_wp2_with fail
 (with_reducible refine C.out.mono ?_)
 rintro en w1 ⟨rfl,e⟩
 subst e
 go_wp2_with fail
 go_ret
 refine ⟨?_,rfl⟩
 rw [E.out,<- odd_int]
 rfl
set_option maxRecDepth 20000 in
theorem enabler_any (c:UInt8) (p:Bs) (hl:p.length<=16777216) (w:World):Calls Tryz.prog 78 #[str (c::p)] w fun en w'=>en=.returned (.string ⟨(uI (c::p)).toArray⟩)/\w'=w:=by
 by_cases h0:c::p=[113]
 ·rw [h0,show uI [113]=[] from rfl]
  go_enter Tryz.func78,Tryz.ntmps78
  go_wp2_with fail
  go_ret
  exact ⟨rfl,rfl⟩
 ·have q1:((c::p:Bs) == [113])=false:=by rw [beq_eq_false_iff_ne];exact h0
  have C:=cH (jm c p w)
  by_cases hc:c=113
  ·subst hc
   rw [qR,show ((113:UInt8) == 113)=true from rfl] at C
   cases p with
   | nil=>exact absurd rfl h0
   | cons d q =>
     have e:uI (113::d::q)=(113::d::q).take (q.length+1):=by
      unfold uI
      rw [if_neg h0,qR,show ((113:UInt8) == 113)=true from rfl,if_pos rfl,List.dropLast_eq_take];simp
     rw [e]
     obtain ⟨M,hM⟩:=zzM (113::d::q)
     obtain ⟨m1,aL⟩:=zzM (q.length+1)
     rw [<- hM] at q1 C ⊢
     rw [<- aL]
     have hMl:M.length=m1+1:=by rw [hM,aL];simp
     rw [List.length_cons] at hl
     have ex:(⟨M.toArray⟩:ByteArray).extract 0 m1=⟨(M.take m1).toArray⟩:=by rw [jr];rfl
     have hw:IntKind.i64.wrap ((M.length:Int)-1)=(m1:Int):=by
      rw [hMl,show ((m1+1:Nat):Int)-1=(m1:Int) from by omega]
      exact qt _ (by omega)
     have eX:(m1:Int)<=(M.length:Int):=by omega
     obtain ⟨R,hR⟩:=zzM (M.take m1)
     rw [<- hR] at ex ⊢
     clear hR e h0 hM aL hMl
     go_enter Tryz.func78,Tryz.ntmps78
     go_wp2_with fail
     (with_reducible refine C.out.mono ?_)
     rintro en w1 ⟨rfl,e⟩
     subst e
     go_wp2_with fail
     go_ret
     exact ⟨rfl,rfl⟩
  ·rw [qR,show (c == 113)=false from by simp [hc]] at C
   have e:uI (c::p)=113::p:=by
    unfold uI
    rw [if_neg h0,qR,show (c == 113)=false from by simp [hc],if_neg (by simp),List.tail_cons]
   rw [e]
   have ex:(⟨(c::p).toArray⟩:ByteArray).extract 1 (p.length+1)=⟨p.toArray⟩:=ext_tail' c p
   have a1:=fun w0=>kG (P:=Tryz.prog) [113] p (by simp;omega) w0
   rw [List.singleton_append] at a1
   have h1p:(1:Int)<=(p.length:Int)+1:=by omega
   obtain ⟨R,hR⟩:=zzM (113::p)
   rw [<- hR] at a1 ⊢
   clear hR e h0
   go_enter Tryz.func78,Tryz.ntmps78
   go_wp2_with fail
   (with_reducible refine C.out.mono ?_)
   rintro en w1 ⟨rfl,e⟩
   subst e
   go_wp2_with fail
   go_ret
   exact ⟨rfl,rfl⟩
set_option maxRecDepth 20000 in
theorem hasMove_any (F:Nat->Prop) (t:Ty) (kv:Value) (m:Bs) (w:World) (hk:Rep F w (qe t) kv) (ht:zU t<=15) (hl:Lim m.length) :
 Calls Tryz.prog 76 #[kv,str m] w fun en w'=>en=.returned (.bool (yG t m))/\w'=w:=by
 obtain ⟨kb,ks,rfl,_⟩:=zO hk
 cases m with
 | nil =>
   go_enter Tryz.func76,Tryz.ntmps76
   go_wp2_with fail
   go_ret
   exact ⟨rfl,rfl⟩
 | cons c p =>
   have fM:=hl.le
   rw [List.length_cons] at fM
   have C1:=cH (Tryz.strings_IndexByte ⟨#[113,116,102]⟩ (c.toNat:Int) w)
   have hcc:(c.toNat:Int).toNat.toUInt8=c:=by simp
   rw [hcc] at C1
   obtain ⟨ix,hix⟩:=zzN (Lib.indexByte (#[113,116,102]:Array UInt8).toList c)
   rw [hix] at C1
   have lR:decide (0<=ix)=(c == 113 || c == 116 || c == 102):=by
    have h:=Lib.contains_iff_indexByte [113,116,102] c
    have hix':Lib.indexByte [113,116,102] c=ix:=hix
    rw [hix'] at h
    rw [<- h]
    simp only [List.contains,List.elem]
    cases c == 113 <;> cases c == 116 <;> cases c == 102 <;> rfl
   have C2:=cH (bA F t p (.pointer (some ⟨kb,0,none⟩)) w hk ht (show _<=_ by omega))
   have E:Hid (yG t (c::p)=(decide (0<=ix) && (atT t p).isSome)):=by rw [lR];exact cH rfl
   obtain ⟨M,hM⟩:=zzM (c::p)
   have aW:0<M.length:=by rw [hM];simp
   have hM0I:(0:Int)<(M.length:Int):=by omega
   have hM1I:(1:Int)<=(M.length:Int):=by omega
   have B0:((((⟨M.toArray⟩:ByteArray)[0]'(qV aW)).toNat:Int))=(c.toNat:Int):=by rw [vE aW];subst hM;rfl
   have q0:((M:Bs) == [])=false:=by rw [hM];rfl
   have q0':((M:Bs) != [])=true:=by rw [hM];rfl
   have ex:(⟨M.toArray⟩:ByteArray).extract 1 M.length=⟨p.toArray⟩:=by rw [hM];exact ext_tail' c p
   rw [<- hM] at E ⊢
   clear hM hcc hix hl hk lR
   by_cases sm:0<=ix
   ·go_enter Tryz.func76,Tryz.ntmps76
    go_wp2_with fail
    refine C1.out.mono ?_
    rintro en w1 ⟨rfl,e⟩
    subst e
    go_wp2_with fail
    refine C2.out.mono ?_
    rintro en w2 ⟨v,rfl,e,hn,hy⟩
    subst e
    cases hat:atT t p with
    | none =>
      obtain rfl:=hn hat
      have E2:=cH (show yG t M=false by rw [E.out,hat];simp)
      clear hn hy hat E
      go_wp2_with fail
      go_ret
      exact ⟨by rw [E2.out];rfl,rfl⟩
    | some a =>
      obtain ⟨ka,_,rfl,_⟩:=zO (hy a hat)
      have E2:=cH (show yG t M=true by rw [E.out,hat];simp [sm])
      clear hn hy hat E
      go_wp2_with fail
      go_ret
      exact ⟨by rw [E2.out];rfl,rfl⟩
   ·have E2:=cH (show yG t M=false by rw [E.out];simp [sm])
    clear E
    go_enter Tryz.func76,Tryz.ntmps76
    go_wp2_with fail
    refine C1.out.mono ?_
    rintro en w1 ⟨rfl,e⟩
    subst e
    go_wp2_with fail
    go_ret
    exact ⟨by rw [E2.out];rfl,rfl⟩

theorem ext_tail (c:UInt8) (p:Bs):(⟨(c::p).toArray⟩:ByteArray).extract 1 (c::p).length=⟨p.toArray⟩:=by rw [jr,List.take_length];rfl
def BehQ (b':Bd) (lv:List zx) (bg:zx) (F:Nat->Prop) (w:World) (en:Ending) (w':World):Prop :=
 ∃ a la lc,en=.returned (.agg #[.pointer (some ⟨a,0,none⟩),.slice la lv.length lc,.int .i64 (bg.1:Nat),str bg.2])/\Below w.heap.size w w'/\Rep F w (kr b') (.pointer (some ⟨a,0,none⟩))/\jI (w.heap.size<=·) w' lv (.slice la lv.length lc)
set_option maxRecDepth 100000 in
theorem behind_q (F:Nat->Prop) (t a:Ty) (l j:Nat) (ss:List Bd) (s y n:Bd) (bv kv lsl:Value) (lv:List zx) (bg:zx) (p:Bs) (idx:Nat) (w:World) (hg:qL w) (hb:Rep F w (kr (.ask l ss y n)) bv) (hk:Rep F w (qe t) kv) (eJ:jI F w lv lsl) (ht:zU t<=15)
 (hs:ss[j]? = some s) (hj:j<10) (hp:0<p.length) (dU:p.length<=1000) (mx:p[p.length-1]=jC j) (hat:atT t p=some a) (nT:lv.length<=100000) (hssl:ss.length<=100000) :
 Calls Tryz.prog 64 #[.agg #[bv,lsl,.int .i64 (bg.1:Nat),str bg.2],kv,str (113::p),.int .i64 (idx:Nat)] w (BehQ s (lv++zh a.args.length idx p) (idx,p) F w):=by
 obtain ⟨kb,ks,rfl,_,sg,hkr⟩:=zO hk
 obtain ⟨la,lc,rfl,_⟩:=eJ.open
 obtain ⟨b,sl,yv,nv,rfl,_,sn,AE,hy,hn⟩:=xJ hb
 obtain ⟨sa,sc,rfl,d9,cA,dj⟩:=zC AE
 have hjl:=(List.getElem?_eq_some_iff.1 hs).1
 obtain ⟨sb,so,su,sd,rfl,_,sq,hsd,rA,hsu⟩:=dj j hjl
 rw [be,hs] at hsd
 obtain rfl:=Option.some.inj hsd
 obtain ⟨ab,rfl⟩:=kC hsu
 obtain ⟨W,hW,cO,hz,b0,b1⟩:=gI w (.cells #[.pointer (some ⟨b,0,none⟩),.slice la lv.length lc,.int .i64 (bg.1:Nat),str bg.2] 101) (.cells #[.pointer none,.slice none 0 0,.int .i64 0,str []] 101)
 have a15:=jk _ _ _ hat
 have aarg:=jZ a
 have KEY:Hid (∀ x,Below W.heap.size W x->x.cell? ⟨w.heap.size,0,none⟩=some (.pointer (some ⟨b,0,none⟩))/\x.cell? ⟨b,2,none⟩=some (.slice (some ⟨sb,so,none⟩) ss.length sc)/\x.cell? ⟨sb,so+j,none⟩=some (.pointer (some ⟨ab,0,none⟩))):=cH (fun x hx=>by
  obtain ⟨k0,_,_,_⟩:=kN b0
  have k2:W.cell? ⟨b,2,none⟩=some (.slice (some ⟨sb,so,none⟩) ss.length sc):=(cO.cell (by exact zZ sn)).trans (by simp [World.cell?,sn])
  have k3:W.cell? ⟨sb,so+j,none⟩=some (.pointer (some ⟨ab,0,none⟩)):=(cO.cell sq).trans rA
  exact ⟨(hx.cell (cD _ _ k0)).trans k0,(hx.cell (cD _ _ k2)).trans k2,(hx.cell (cD _ _ k3)).trans k3⟩)
 have f0:=zi b0 0
 have ex:(⟨(113::p).toArray⟩:ByteArray).extract 1 (p.length+1)=⟨p.toArray⟩:=ext_tail 113 p
 obtain ⟨m1,aL⟩:=zzM (p.length-1)
 have hpm:IntKind.i64.wrap ((p.length:Int)-1)=(m1:Int):=by rw [show (p.length:Int)-1=(m1:Int) from by omega];exact qt _ (by omega)
 have hpi:m1<p.length:=by omega
 have nA:p[m1]=jC j:=by subst aL;exact mx
 have B:((((⟨p.toArray⟩:ByteArray)[m1]'(qV hpi)).toNat:Int))=48+(j:Int):=by rw [vE hpi,nA,xC hj];omega
 have hj8:IntKind.u8.wrap (48+(j:Int)-48)=(j:Int):=by simp [IntKind.wrap,IntKind.bits,IntKind.signed];omega
 have hjI:(j:Int)<(ss.length:Int):=by omega
 have Ck:(m1:Int)<(p.length:Int):=by omega
 have HW:=cH (cB hW (cB cO (cB hz (cB b0 b1))))
 have HA:=cH (cB hg (cB hk (cB eJ (cB hat (cB hsu (cB ht (cB a15 aarg)))))))
 have HL:=cH (cB dU nT)
 clear hW cO hz b0 b1 sn AE hy hn hb dj cA d9 rA sq hsu hg hk eJ sg hkr hat hs mx ht a15 aarg aL nA dU nT
 go_enter Tryz.func64,Tryz.ntmps64
 go_upto_region 1 with (fail)
 rw [HW.out.1]
 go_upto_region 3 with (fail)
 refine wp_region_noPanic ?_
 refine zm (fun w'=>Below W.heap.size W w') (fun i=>i == 14) (by kernel_rfl) ?_
 have cI:(fun w'=>Below W.heap.size W w') W.drew:=Below.drew (cE _ _)
 refine tk [0,1,2,3,4,5,6,7,8,9,10,11,12,13] cI ?_
 (intro d hd;simp [tkD] at hd;subst hd;simp only [tks,pQ,pZ,pS])
 iterate 14 (refine ⟨?_,?_,?_⟩;rotate_left;· (intro oi ho;simp at ho;subst ho;refine Or.inl ⟨by rfl,fun w' cv=>?_⟩;obtain ⟨e0,e1,e2⟩:=KEY.out w' cv;go_simp;try with_reducible rfl))
 (refine on 14 ?_;intro o ho K' hK;simp at ho;subst ho)
 obtain ⟨e0,_,_⟩:=KEY.out W (cE _ _)
 go_simp
 (refine hK.out _ _ (fun h=>by simp at h) ?_;clear hK K';try simp only [pQ,pN,pZ,pS])
 refine zt (by kernel_rfl) (NoPanic.normal ?_) _
 obtain ⟨W2,dQ⟩:=zzN ((W.setCell ⟨w.heap.size,0,none⟩ (.pointer (some ⟨ab,0,none⟩))).drew)
 have x0:W2.heap[w.heap.size]? = some (.cells #[.pointer (some ⟨ab,0,none⟩),.slice la lv.length lc,.int .i64 (bg.1:Nat),str bg.2] 101 (0,0)):=by
  rw [<- dQ];show (W.setCell ⟨w.heap.size,0,none⟩ (.pointer (some ⟨ab,0,none⟩))).heap[w.heap.size]? = _
  rw [kH HW.out.2.2.2.1];rfl
 have x1:W2.heap[w.heap.size+1]? = some (.cells #[.pointer none,.slice none 0 0,.int .i64 0,str []] 101 (0,0)):=by
  rw [<- dQ];show (W.setCell ⟨w.heap.size,0,none⟩ (.pointer (some ⟨ab,0,none⟩))).heap[w.heap.size+1]? = _
  rw [cF _ _ _ _ (by show w.heap.size+1≠w.heap.size;omega)];exact HW.out.2.2.2.2
 have np:Below w.heap.size w W2:=by rw [<- dQ];exact (HW.out.2.1.setCell (p:=⟨w.heap.size,0,none⟩) (cC _) _).drew
 have rS:W2.heap.size=w.heap.size+2:=by rw [<- dQ];show (W.setCell ⟨w.heap.size,0,none⟩ _).heap.size=_;simp [World.setCell,HW.out.2.2.1]
 rw [dQ]
 have K2:Hid (∀ x,Below W2.heap.size W2 x->x.cell? ⟨w.heap.size,1,none⟩=some (.slice la lv.length lc)):=cH (fun x hx=>by
  obtain ⟨_,k1,_,_⟩:=kN x0
  exact (hx.cell (cD _ _ k1)).trans k1)
 have CA:Hid (∀ wz,Below W2.heap.size W2 wz->Calls Tryz.prog 84 #[.pointer (some ⟨kb,0,none⟩),str p] wz fun en w'=>∃ Az A_ A9,en=.returned (.pointer (some ⟨Az,0,none⟩))/\w'=wz/\wz.cell? ⟨Az,0,none⟩=some (.slice A_ a.args.length A9)):=cH (fun wz hz=>by
  have sh:=HA.out.2.1.below (zzT np hz) (fun _ h=>h)
  have dU:=HL.out.1
  refine (bA F t p _ wz sh HA.out.2.2.2.2.2.1 (show _<=_ by omega)).mono ?_
  rintro en w' ⟨v,rfl,rfl,_,hy⟩
  obtain ⟨Az,ks2,rfl,_,fV,de⟩:=zO (hy a HA.out.2.2.2.1)
  obtain ⟨A_,A9,rfl,_⟩:=zC de
  exact ⟨Az,A_,A9,rfl,rfl,by simp [World.cell?,fV]⟩)
 have CP:=cH (fun wz (hz:Below W2.heap.size W2 wz)=>yX a.args.length idx p wz (HA.out.1.below (zzT np hz)) (by have:=HA.out.2.2.2.2.2;omega) (by have:=HL.out.1;omega))
 have CC:=cH (fun x pa pc (hx:Below W2.heap.size W2 x) (ho:Own x 99 2 (.slice pa a.args.length pc) a.args.length (xr idx p a.args.length)) =>
  concatP_any x.heap.size lv.length a.args.length (.slice la lv.length lc) (.slice pa a.args.length pc) (lvC lv) (lvC (zh a.args.length idx p)) (x.alloc (.cells #[.slice la lv.length lc,.slice pa a.args.length pc] 97)) (by simp) (by simp)
   ((HA.out.2.2.1.below (zzT np hx) (fun _ h=>h)).src.alloc _) ((zM.ofOwn (by rw [plcs_eq] at ho;exact ho) (lvC_one _)).alloc _) (show _<=_ by have:=HL.out.2;omega) (show _<=_ by have:=HA.out.2.2.2.2.2;omega) (show _<=_ by have:=HL.out.2;have:=HA.out.2.2.2.2.2;omega))
 have H2:=cH (cB x0 (cB x1 (cB np rS)))
 clear dQ x0 x1 np rS cI KEY f0 ex hpm B hj8 hjI Ck
 go_upto_region 4 with (fail)
 refine wp_region_noPanic ?_
 refine zm (fun w'=>Below W2.heap.size W2 w') (fun i=>i == 15) (by kernel_rfl) ?_
 have cI:(fun w'=>Below W2.heap.size W2 w') W2.drew:=Below.drew (cE _ _)
 refine tk [0,1,2,3,9,10] cI ?_
 (intro d hd;simp [tkD] at hd;subst hd;simp only [tks,pQ,pZ,pS])
 iterate 6 (refine ⟨?_,?_,?_⟩;rotate_left;· (intro oi ho;simp at ho;subst ho;refine Or.inl ⟨by rfl,fun w' cv=>?_⟩;have e1:=K2.out w' cv;go_simp;try with_reducible rfl))
 (refine on 4 ?_;intro o ho K' hK;simp at ho;subst ho;go_simp)
 go_at_call 84
 (with_reducible refine (CA.out _ cI).mono ?_)
 rintro en x4 ⟨Az,A_,A9,rfl,ex4,hc4⟩
 subst ex4
 have De:Hid (∀ x,Below W2.heap.size W2 x->x.cell? ⟨Az,0,none⟩=some (.slice A_ a.args.length A9)):=cH (fun x hx=>(hx.cell (cD W2 _ hc4)).trans hc4)
 (refine hK.out _ _ (fun _=>cI) ?_;clear hK K';try simp only [pQ,pN,pZ,pS])
 have hS4:=cI
 refine tk [5,6,7,8] hS4 ?_
 (intro d hd;simp [tkD] at hd;subst hd;simp only [tks,pQ,pZ,pS])
 iterate 4 (refine ⟨?_,?_,?_⟩;rotate_left;· (intro oi ho;simp at ho;subst ho;refine Or.inl ⟨by rfl,fun w' cv=>?_⟩;have e1:=De.out w' cv;go_simp;try with_reducible rfl))
 (refine on 11 ?_;intro o ho K' hK;simp at ho;subst ho;go_simp)
 go_at_call 49
 (with_reducible refine (CP.out _ cI).mono ?_)
 rintro en A8 ⟨pa,pc,rfl,B5,aV,hf11⟩
 have rF:Below W2.heap.size W2 A8:=Below.trans cI (aV.mono (Below.size cI))
 (refine hK.out _ _ (fun _=>rF) ?_;clear hK K';try simp only [pQ,pN,pZ,pS])
 (refine on 12 ?_;intro o ho K' hK;simp at ho;subst ho;go_simp)
 (refine hK.out _ _ (fun _=>rF.alloc rF.size _) ?_;clear hK K';try simp only [pQ,pN,pZ,pS])
 (refine on 13 ?_;intro o ho K' hK;simp at ho;subst ho)
 have ij:Below W2.heap.size W2 (A8.alloc (.cells #[.slice la lv.length lc,.slice pa a.args.length pc] 97)):=rF.alloc rF.size _
 go_simp
 go_at_call 83
 (with_reducible refine (CC.out A8 pa pc rF B5).mono ?_)
 rintro en x13 ⟨ca,cc,rfl,B4,Du,C7⟩
 have sS:Below W2.heap.size W2 x13:=zzT ij Du
 (refine hK.out _ _ (fun _=>sS) ?_;clear hK K';try simp only [pQ,pN,pZ,pS])
 have DF:=sS
 refine tk [14] DF ?_
 (intro d hd;simp [tkD] at hd;subst hd;simp only [tks,pQ,pZ,pS])
 (refine ⟨?_,?_,?_⟩;rotate_left;· (intro oi ho;simp at ho;subst ho;refine Or.inl ⟨by rfl,fun w' cv=>?_⟩;go_simp;try with_reducible rfl))
 (refine on 15 ?_;intro o ho K' hK;simp at ho;subst ho)
 have xx0:=(sS.block _ (zZ H2.out.1)).trans H2.out.1
 obtain ⟨_,e1,_,_⟩:=kN xx0
 have f1:=zi xx0 1
 go_simp
 (refine hK.out _ _ (fun h=>by simp at h) ?_;clear hK K';try simp only [pQ,pN,pZ,pS])
 refine zt (by kernel_rfl) (NoPanic.normal ?_) _
 obtain ⟨W3,s5⟩:=zzN (x13.setCell ⟨w.heap.size,1,none⟩ (.slice ca (lv.length+a.args.length) cc))
 have y0:W3.heap[w.heap.size]? = some (.cells #[.pointer (some ⟨ab,0,none⟩),.slice ca (lv.length+a.args.length) cc,.int .i64 (bg.1:Nat),str bg.2] 101 (0,0)):=by rw [<- s5,kH xx0];rfl
 have xx1:=(sS.block _ (zZ H2.out.2.1)).trans H2.out.2.1
 have y1:W3.heap[w.heap.size+1]? = some (.cells #[.pointer none,.slice none 0 0,.int .i64 0,str []] 101 (0,0)):=by rw [<- s5,cF _ _ _ _ (by show w.heap.size+1≠w.heap.size;omega)];exact xx1
 have Dw:Below w.heap.size w W3:=by rw [<- s5];exact (zzT H2.out.2.2.1 sS).setCell (p:=⟨w.heap.size,1,none⟩) (cC _) _
 have lF:∀ g,(Value.slice ca (lv.length+a.args.length) cc).ownBlock=some g->w.heap.size+2<=g:=fun g hg=>by
  have h1:=C7 g hg
  have h2:=ij.size
  have h3:=H2.out.2.2.2
  omega
 have cw:Own W3 99 2 (.slice ca (lv.length+a.args.length) cc) (lv.length+a.args.length) (lvC (lv++zh a.args.length idx p)):=by
  rw [bM,<- s5]
  exact B4.keep fun g o hg ho=>by
   have:=lF g hg
   rw [cF _ _ _ _ (by show g≠w.heap.size;omega)];exact ho
 rw [s5]
 obtain ⟨k0,k1,k2,k3⟩:=kN y0
 have g2:=zi y0 2;have g3:=zi y0 3
 have H3:=cH (cB y0 (cB y1 (cB Dw (cB lF cw))))
 clear s5 y0 y1 xx1 xx0 Dw lF cw rF ij sS aV Du B5 B4 hf11 C7 hc4 De cI e1 f1 DF CA CP CC K2
 go_upto_region 10 with (fail)
 obtain ⟨W4,iz⟩:=zzN ((W3.setCell ⟨w.heap.size,2,none⟩ (.int .i64 (idx:Nat))).setCell ⟨w.heap.size,3,none⟩ (str p))
 have y0:W4.heap[w.heap.size]? = some (.cells #[.pointer (some ⟨ab,0,none⟩),.slice ca (lv.length+a.args.length) cc,.int .i64 (idx:Nat),str p] 101 (0,0)):=by rw [<- iz,kH (kH H3.out.1)];rfl
 have oth:∀ g,g≠w.heap.size->W4.heap[g]? = W3.heap[g]?:=fun g hg=>by rw [<- iz,cF _ _ _ _ (by show g≠w.heap.size;exact hg),cF _ _ _ _ (by show g≠w.heap.size;exact hg)]
 have y1:W4.heap[w.heap.size+1]? = some (.cells #[.pointer none,.slice none 0 0,.int .i64 0,str []] 101 (0,0)):=by rw [oth _ (by omega)];exact H3.out.2.1
 have Dv:Below w.heap.size w W4:=by rw [<- iz];exact (H3.out.2.2.1.setCell (p:=⟨w.heap.size,2,none⟩) (cC _) _).setCell (p:=⟨w.heap.size,3,none⟩) (cC _) _
 have cw:Own W4 99 2 (.slice ca (lv.length+a.args.length) cc) (lv.length+a.args.length) (lvC (lv++zh a.args.length idx p)):=H3.out.2.2.2.2.keep fun g o hg ho=>by
  have:=H3.out.2.2.2.1 g hg
  rw [oth g (by omega)];exact ho
 rw [iz]
 clear k0 k1 k2 k3 g2 g3
 obtain ⟨k0,k1,k2,k3⟩:=kN y0
 obtain ⟨z0,z1,z2,z3⟩:=kN y1
 have g0:=zi y1 0;have g1:=zi y1 1;have g2:=zi y1 2;have g3:=zi y1 3
 have H4:=cH (cB y1 (cB Dv cw))
 clear iz y0 y1 oth Dv cw
 go_wp2_with fail
 have hV:=uu H4.out.1 (.pointer (some ⟨ab,0,none⟩)) (.slice ca (lv.length+a.args.length) cc) (.int .i64 (idx:Nat)) (str p)
 obtain ⟨s0,s1,s2,s3⟩:=kN hV
 have fY:=(((H4.out.2.1.setCell (p:=⟨w.heap.size+1,0,none⟩) (Nat.le_succ _) (.pointer (some ⟨ab,0,none⟩))).setCell (p:=⟨w.heap.size+1,1,none⟩) (Nat.le_succ _) (.slice ca (lv.length+a.args.length) cc)).setCell (p:=⟨w.heap.size+1,2,none⟩) (Nat.le_succ _) (.int .i64 (idx:Nat))).setCell (p:=⟨w.heap.size+1,3,none⟩) (Nat.le_succ _) (str p)
 refine bodyPost_ret (v:=.agg #[.pointer (some ⟨ab,0,none⟩),.slice ca (lv.length+a.args.length) cc,.int .i64 (idx:Nat),str p]) (by simp [results,Tryz.results64,go_sem,s0,s1,s2,s3]) rfl ?_
 have cA:(lv++zh a.args.length idx p).length=lv.length+a.args.length:=by rw [List.length_append,kP]
 refine ⟨ab,ca,cc,by rw [cA],fY,HA.out.2.2.2.2.1,?_⟩
 rw [cA]
 refine Own.lv ?_ cA.symm (fun g hg=>by have:=H3.out.2.2.2.1 g hg;omega)
 exact H4.out.2.2.keep fun g o hg ho=>by
  have:=H3.out.2.2.2.1 g hg
  rw [cF _ _ _ _ (by show g≠w.heap.size+1;omega),cF _ _ _ _ (by show g≠w.heap.size+1;omega),cF _ _ _ _ (by show g≠w.heap.size+1;omega),cF _ _ _ _ (by show g≠w.heap.size+1;omega)];exact ho
def vR (F:Nat->Prop) (w:World) (v:Pl) (x:Value):Prop:=Rep F w (.sl 9 1 v.length (v.map fun m=>DV.val (str m.1))) x
def vM (F:Nat->Prop) (w:World) (v:Pl) (x:Value):Prop:=Rep F w (.sl 3 1 v.length (v.map fun m=>DV.val (.int .i64 m.2))) x
theorem jG {F:Nat->Prop} {w:World}:∀ (us vs:List Value),zH F w (us.map DV.val) vs↔vs=us
 | [],vs=>by simp [zF]
 | u::us,vs=>by
   rw [List.map_cons,zV]
   constructor
   ·rintro ⟨x,xs,rfl,h1,h2⟩
    rw [zj] at h1
    rw [(jG us xs).1 h2,h1]
   ·rintro rfl
    exact ⟨u,us,rfl,zj.2 rfl,(jG us us).2 rfl⟩
theorem vR.src {F:Nat->Prop} {w:World} {v:Pl} {x:Value} (h:vR F w v x):zM 1 x v.length (qg v) w:=by
 have h':Rep F w (.sl 9 1 v.length ((qg v).map DV.val)) x:=by unfold vR at h;rw [show (qg v).map DV.val=v.map fun m=>DV.val (str m.1) from by simp [qg,Function.comp_def]];exact h
 obtain ⟨xs,hx,hs⟩:=zM.ofRep h' (fun us hu u hm=>by
  rw [(jG _ _).1 hu] at hm
  obtain ⟨m,_,rfl⟩:=List.mem_map.1 hm
  simp [str,Value.oneCell'])
 rw [(jG _ _).1 hx] at hs;exact hs
theorem vM.src {F:Nat->Prop} {w:World} {v:Pl} {x:Value} (h:vM F w v x):zM 1 x v.length (qD v) w:=by
 have h':Rep F w (.sl 3 1 v.length ((qD v).map DV.val)) x:=by unfold vM at h;rw [show (qD v).map DV.val=v.map fun m=>DV.val (.int .i64 m.2) from by simp [qD,Function.comp_def]];exact h
 obtain ⟨xs,hx,hs⟩:=zM.ofRep h' (fun us hu u hm=>by
  rw [(jG _ _).1 hu] at hm
  obtain ⟨m,_,rfl⟩:=List.mem_map.1 hm
  simp [Value.oneCell'])
 rw [(jG _ _).1 hx] at hs;exact hs
theorem zo.mv {F:Nat->Prop} {w:World} {v:Pl} {mv pt:Value} (h:zo w v mv pt) (hF:∀ g,mv.ownBlock=some g\/pt.ownBlock=some g->F g):vR F w v mv/\vM F w v pt:=by
 obtain ⟨a1,c1,rfl⟩:=h.1.slice
 obtain ⟨a2,c2,rfl⟩:=h.2.slice
 refine ⟨h.1.rep (fun g hg=>hF g (.inl hg)) ?_,h.2.rep (fun g hg=>hF g (.inr hg)) ?_⟩
 ·rw [show (v.map fun m=>DV.val (str m.1))=(qg v).map DV.val from by simp [qg,Function.comp_def]];exact (jG _ _).2 rfl
 ·rw [show (v.map fun m=>DV.val (.int .i64 m.2))=(qD v).map DV.val from by simp [qD,Function.comp_def]];exact (jG _ _).2 rfl
def Fv (va:Nat) (vw:Value) (i:Nat):Prop:=i≠va/\vw.ownBlock≠some i
def Mv (va:Nat) (vw:Value) (i:Nat):Prop:=i=va\/vw.ownBlock=some i
theorem Fv.keep {va:Nat} {vw vw':Value} {w w':World} (hb:But (Mv va vw) w w') (hf:∀ g,vw'.ownBlock=some g->vw.ownBlock=some g\/w.heap.size<=g) {d:DV} {x:Value} (h:Rep (Fv va vw) w d x):Rep (Fv va vw') w' d x :=
 (Rep.keep fun b o hF ho=>⟨⟨hF.1,fun e=>by
  rcases hf b e with h | h
  ·exact hF.2 h
  ·have:=zZ ho;omega⟩,by rw [hb.block b (zZ ho) (fun e=>e.elim hF.1 hF.2)];exact ho⟩).1 _ _ h
def numD (ns:List Nat):DV:=.sl 3 1 ns.length (ns.map fun n=>DV.val (.int .i64 (n:Nat)))
theorem vR.cells {F:Nat->Prop} {w:World} {v:Pl} {x:Value} (h:vR F w v x):∃ a c,x=.slice a v.length c/\∀ (i:Nat) (m:Bs×Int),v[i]? = some m->∃ b o,a=some ⟨b,o,none⟩/\F b/\b<w.heap.size/\w.cell? ⟨b,o+i,none⟩=some (str m.1):=by
 obtain ⟨a,c,e,_,_,dj⟩:=zC h
 refine ⟨a,c,e,fun i m hi=>?_⟩
 obtain ⟨b,o,u,d,ea,hF,cL,hd,hc,hr⟩:=dj i (List.getElem?_eq_some_iff.1 hi).1
 rw [List.getElem?_map,hi] at hd
 obtain rfl:=Option.some.inj hd
 rw [zj] at hr
 subst hr
 exact ⟨b,o,ea,hF,cL,hc⟩
def AtD (b:Bd) (begun args:List Nat) (opens:Nat):List DV:=kT b++[numD begun,numD args,.val (.int .i64 (opens:Nat))]
def SpAt (F:Nat->Prop) (w:World) (b:Bd) (lv:List zx) (bg:zx) (v:Pl) (vs:List Value):Prop :=
 ∃ begun args opens,x_ lv bg v begun args opens/\zH F w (AtD b begun args opens) vs
theorem okAt_eq {t:Ty} {v:Pl} {k:Nat} {m:Bs} {z:Int} (h:v[k]? = some (m,z)):ji t v k=(yG t m && (qZ m == decide (k % 2=0)) && (if k=0 then m == [113] && decide (z = -1) else decide (0<=z) && decide (z<(k:Int)) && !(m == [113]) && ((v[z.toNat]?).map (·.1) == some (uI m)))):=by
 unfold ji;rw [h]
theorem even_int (k:Nat):((k:Int) % 2 == 0)=decide (k % 2=0):=by
 rw [Bool.eq_iff_iff,beq_iff_eq,decide_eq_true_iff];omega
theorem vM.cells {F:Nat->Prop} {w:World} {v:Pl} {x:Value} (h:vM F w v x):∃ a c,x=.slice a v.length c/\∀ (i:Nat) (m:Bs×Int),v[i]? = some m->∃ b o,a=some ⟨b,o,none⟩/\F b/\b<w.heap.size/\w.cell? ⟨b,o+i,none⟩=some (.int .i64 m.2):=by
 obtain ⟨a,c,e,_,_,dj⟩:=zC h
 refine ⟨a,c,e,fun i m hi=>?_⟩
 obtain ⟨b,o,u,d,ea,hF,cL,hd,hc,hr⟩:=dj i (List.getElem?_eq_some_iff.1 hi).1
 rw [List.getElem?_map,hi] at hd
 obtain rfl:=Option.some.inj hd
 rw [zj] at hr
 subst hr
 exact ⟨b,o,ea,hF,cL,hc⟩
set_option maxRecDepth 100000 in
theorem hasPlay_v (F:Nat->Prop) (t:Ty) (kv mv pt:Value) (v:Pl) (w:World) (hk:Rep F w (qe t) kv) (ht:zU t<=15) (hm:vR F w v mv) (hp:vM F w v pt) (mT:v.length<=60) (hl:∀ x∈v,Lim x.1.length) :
 Calls Tryz.prog 59 #[kv,.agg #[mv,pt]] w fun en w'=>en=.returned (.bool (qd t v v.length))/\Below w.heap.size w w':=by
 obtain ⟨kb,ks,rfl,_⟩:=zO hk
 obtain ⟨ma,mc,rfl,mW⟩:=hm.cells
 obtain ⟨pa,pc,rfl,mB⟩:=hp.cells
 obtain ⟨W,hW,cO,hz,b0⟩:=q_ w (.cells #[.slice ma v.length mc,.slice pa v.length pc] 28)
 obtain ⟨c0,c1,_,_⟩:=kp b0
 have cA:¬ (60:Int)<(v.length:Int):=by omega
 have hne:((v.length:Int) != (v.length:Int))=false:=by simp
 have fJ:=hk.below cO (fun _ h=>h)
 have HH:=cH (cB mW (cB mB (cB cO (cB fJ hl))))
 have HW:=cH hW
 clear hk hm hp mW mB hz b0 fJ cO hW hl
 go_enter Tryz.func59,Tryz.ntmps59
 go_upto_region 1 with (fail)
 rw [HW.out]
 go_wp2_with fail
 go_loopw [24] (fun i wr=>∃ (wz:World) (k:Nat),wz=wr/\k<=v.length/\i=.int .i64 k/\qd t v k=true/\Below W.heap.size W wz) (fun i _=>v.length-(intOf i).toNat)
 case atStart=>exact ⟨_,0,rfl,Nat.zero_le _,rfl,rfl,cE _ _⟩
 case round =>
  obtain ⟨wr,k,rfl,hk,rfl,dC,hB⟩:=hrel
  have d0:=(hB.cell (cD _ _ c0)).trans c0
  have d1:=(hB.cell (cD _ _ c1)).trans c1
  clear c0 c1
  have HB:=cH (cB hB (zzT HH.out.2.2.1 hB))
  clear hB
  by_cases cL:k<v.length
  ·have d8:(k:Int)<(v.length:Int):=by omega
   obtain ⟨⟨m,z⟩,dw⟩:∃ x,v[k]? = some x:=⟨_,List.getElem?_eq_getElem cL⟩
   obtain ⟨mb,mo,rfl,_,mu,fj⟩:=HH.out.1 k _ dw
   obtain ⟨pb,po,rfl,_,m_,mH⟩:=HH.out.2.1 k _ dw
   have m0:=(HB.out.2.cell (p:=⟨mb,mo+k,none⟩) mu).trans fj
   have p0:=(HB.out.2.cell (p:=⟨pb,po+k,none⟩) m_).trans mH
   have co:=okAt_eq (t:=t) dw
   have sw:Lim m.length:=HH.out.2.2.2.2 _ (List.mem_of_getElem? dw)
   have CM:=cH (hasMove_any F t (.pointer (some ⟨kb,0,none⟩)) m wr (HH.out.2.2.2.1.below HB.out.1 (fun _ h=>h)) ht sw)
   have HA:=cH (cB dC (cB dw co))
   have FALSE:Hid (ji t v k=false->qd t v v.length=false):=cH (fun h=>gW h cL)
   clear dC mu m_ fj mH co
   cases iP:yG t m with
   | false =>
     have E:=cH (FALSE.out (by rw [HA.out.2.2,iP];rfl))
     rw [iP] at CM
     clear FALSE dw sw
     go_wp2_with fail
     (with_reducible refine CM.out.mono ?_)
     rintro en w1 ⟨rfl,e⟩
     subst w1
     go_wp2_with fail
     go_ret
     exact ⟨by rw [E.out];rfl,HB.out.2⟩
   | true =>
     rw [iP] at CM
     obtain ⟨c,p,hcp⟩:∃ c p,m=c::p:=by
      cases m with
      | nil=>simp [yG] at iP
      | cons c p=>exact ⟨c,p,rfl⟩
     have dU:p.length<=16777216:=by have:=sw.le;rw [hcp,List.length_cons] at this;omega
     have CB:=cH (uQ c p dU wr)
     have CE:=cH (fun x=>enabler_any c p dU x)
     rw [<- hcp] at CB CE
     obtain ⟨bo,n8⟩:=zzN (qZ m)
     obtain ⟨An,om⟩:=zzN (uI m)
     rw [n8] at CB
     rw [om] at CE
     have HO:Hid (ji t v k=((bo == decide (k % 2=0)) && (if k=0 then m == [113] && decide (z = -1) else decide (0<=z) && decide (z<(k:Int)) && !(m == [113]) && ((v[z.toNat]?).map (·.1) == some An)))):=by
      rw [HA.out.2.2,iP,n8,om];exact cH (by rw [Bool.true_and])
     clear n8 om iP sw dU hcp dw
     by_cases cT:bo=((k:Int) % 2 == 0)
     ·subst cT
      have cS:(((k:Int) % 2 == 0) == decide (k % 2=0))=true:=by rw [even_int];simp
      replace HO:Hid (ji t v k=(if k=0 then m == [113] && decide (z = -1) else decide (0<=z) && decide (z<(k:Int)) && !(m == [113]) && ((v[z.toNat]?).map (·.1) == some An))):=by rw [HO.out,cS];exact cH (by rw [Bool.true_and])
      clear cS
      by_cases eK:z < -1
      ·have E:=cH (FALSE.out (by rw [HO.out];split;(· rw [Bool.and_eq_false_iff];exact .inr (by simp;omega));(· simp only [Bool.and_eq_false_iff];exact .inl (.inl (.inl (by simp;omega))))))
       clear FALSE HO
       go_wp2_with fail
       (with_reducible refine CM.out.mono ?_)
       rintro en w1 ⟨rfl,e⟩
       subst w1
       go_wp2_with fail
       (with_reducible refine CB.out.mono ?_)
       rintro en w2 ⟨rfl,e⟩
       subst w2
       go_wp2_with fail
       go_ret
       exact ⟨by rw [E.out];rfl,HB.out.2⟩
      by_cases rS:(k:Int)<=z
      ·have E:=cH (FALSE.out (by rw [HO.out];split;(· rw [Bool.and_eq_false_iff];exact .inr (by simp;omega));(· simp only [Bool.and_eq_false_iff];exact .inl (.inl (.inr (by simp;omega))))))
       clear FALSE HO
       go_wp2_with fail
       (with_reducible refine CM.out.mono ?_)
       rintro en w1 ⟨rfl,e⟩
       subst w1
       go_wp2_with fail
       (with_reducible refine CB.out.mono ?_)
       rintro en w2 ⟨rfl,e⟩
       subst w2
       go_wp2_with fail
       go_ret
       exact ⟨by rw [E.out];rfl,HB.out.2⟩
      by_cases rq:k=0
      ·have hk0b:((k:Int) == 0)=true:=by rw [rq];rfl
       have hz:z = -1:=by omega
       have Bj:(z == -1)=true:=by rw [hz];rfl
       have hkp:¬ (0:Int)<(k:Int):=by omega
       have iC:(0<k)=False:=by simp [rq]
       replace HO:Hid (ji t v k=(m == [113] && decide (z = -1))):=by rw [HO.out,if_pos rq];exact cH rfl
       have hd:decide (z = -1)=true:=by simp [hz]
       cases sx:((m:Bs) == [113]) with
       | false =>
         have Cj:((m:Bs) != [113])=true:=by rw [bne,sx];rfl
         have E:=cH (FALSE.out (by rw [HO.out,sx];rfl))
         clear FALSE HO hz rq hd
         go_wp2_with fail
         (with_reducible refine CM.out.mono ?_)
         rintro en w1 ⟨rfl,e⟩
         subst w1
         go_wp2_with fail
         (with_reducible refine CB.out.mono ?_)
         rintro en w2 ⟨rfl,e⟩
         subst w2
         go_upto_region 9 with (fail)
         refine wp_region_noPanic ?_
         refine zm (fun w'=>Below wr.heap.size wr w') (fun _=>false) (by kernel_rfl) ?_
         have cI:(fun w'=>Below wr.heap.size wr w') wr.drew:=Below.drew (cE _ _)
         refine tk [0,1,2,3,4,5,6,7,8,9,10,11,12,13,14,15,16,17,18,19,20,21,22,23] cI ?_
         (intro d hd;simp [tkD] at hd;subst hd;simp only [tks,pQ,pZ,pS])
         iterate 24 (refine ⟨?_,?_,?_⟩;rotate_left;· (intro oi ho;simp at ho;subst ho;first | (refine Or.inr ⟨by rfl,?_⟩;with_reducible rfl) | (refine Or.inl ⟨by rfl,fun w' cv=>?_⟩;go_simp;try with_reducible rfl)))
         refine zt (by kernel_rfl) (NoPanic.normal ?_) _
         go_wp2_with fail
         go_ret
         exact ⟨by rw [E.out];rfl,kZ HB.out.2 _⟩
       | true =>
         have Cj:((m:Bs) != [113])=false:=by rw [bne,sx];rfl
         have E:=cH (show qd t v (k+1)=true by rw [qd,HA.out.1,HO.out,sx,hd];rfl)
         clear FALSE HO hz rq hd
         go_wp2_with fail
         (with_reducible refine CM.out.mono ?_)
         rintro en w1 ⟨rfl,e⟩
         subst w1
         go_wp2_with fail
         (with_reducible refine CB.out.mono ?_)
         rintro en w2 ⟨rfl,e⟩
         subst w2
         go_upto_region 9 with (fail)
         refine wp_region_noPanic ?_
         refine zm (fun w'=>Below wr.heap.size wr w') (fun _=>false) (by kernel_rfl) ?_
         have cI:(fun w'=>Below wr.heap.size wr w') wr.drew:=Below.drew (cE _ _)
         refine tk [0,1,2,3,4,5,6,7,8,9,10,11,12,13,14,15,16,17,18,19,20,21,22,23] cI ?_
         (intro d hd;simp [tkD] at hd;subst hd;simp only [tks,pQ,pZ,pS])
         iterate 24 (refine ⟨?_,?_,?_⟩;rotate_left;· (intro oi ho;simp at ho;subst ho;first | (refine Or.inr ⟨by rfl,?_⟩;with_reducible rfl) | (refine Or.inl ⟨by rfl,fun w' cv=>?_⟩;go_simp;try with_reducible rfl)))
         refine zt (by kernel_rfl) (NoPanic.normal ?_) _
         go_wp2_with fail
         go_roundw
         case rel=>exact ⟨_,k+1,rfl,by omega,by go_num,E.out,HB.out.1.drew⟩
         case measure=>simp [intOf];omega
      ·have hk0b:((k:Int) == 0)=false:=by rw [beq_eq_false_iff_ne];omega
       have hkp:(0:Int)<(k:Int):=by omega
       have iC:(0<k)=True:=by simp;omega
       replace HO:Hid (ji t v k=(decide (0<=z) && decide (z<(k:Int)) && !(m == [113]) && ((v[z.toNat]?).map (·.1) == some An))):=by rw [HO.out,if_neg rq];exact cH rfl
       by_cases aN:z = -1
       ·have Bj:(z == -1)=true:=by rw [aN];rfl
        have E:=cH (FALSE.out (by rw [HO.out];simp only [Bool.and_eq_false_iff];exact .inl (.inl (.inl (by simp;omega)))))
        clear FALSE HO aN rq
        go_wp2_with fail
        (with_reducible refine CM.out.mono ?_)
        rintro en w1 ⟨rfl,e⟩
        subst w1
        go_wp2_with fail
        (with_reducible refine CB.out.mono ?_)
        rintro en w2 ⟨rfl,e⟩
        subst w2
        go_wp2_with fail
        go_ret
        exact ⟨by rw [E.out];rfl,HB.out.2⟩
       have Bj:(z == -1)=false:=by rw [beq_eq_false_iff_ne];exact aN
       obtain ⟨zn,hzn⟩:∃ zn:Nat,z=(zn:Int):=⟨z.toNat,by omega⟩
       subst hzn
       obtain ⟨⟨my,zy⟩,hvy⟩:∃ x,v[zn]? = some x:=⟨_,List.getElem?_eq_getElem (by omega)⟩
       have hznl:(zn:Int)<(v.length:Int):=by omega
       have hdd:(decide ((0:Int)<=(zn:Int)) && decide ((zn:Int)<(k:Int)))=true:=by simp;omega
       replace HO:Hid (ji t v k=(!(m == [113]) && (my == An))):=by rw [HO.out,hdd,Int.toNat_natCast,hvy];exact cH (by rw [Bool.true_and];rfl)
       obtain ⟨yb,yo,ey,_,hyb,hyk⟩:=HH.out.1 zn _ hvy
       simp only [Option.some.injEq,Addr.mk.injEq] at ey
       obtain ⟨rfl,rfl,_⟩:=ey
       have y0:=(HB.out.2.cell (p:=⟨mb,mo+zn,none⟩) hyb).trans hyk
       clear hyb hyk hvy hdd aN
       cases sx:((m:Bs) == [113]) with
       | true =>
         have E:=cH (FALSE.out (by rw [HO.out,sx];rfl))
         clear FALSE HO rq
         go_wp2_with fail
         (with_reducible refine CM.out.mono ?_)
         rintro en w1 ⟨rfl,e⟩
         subst w1
         go_wp2_with fail
         (with_reducible refine CB.out.mono ?_)
         rintro en w2 ⟨rfl,e⟩
         subst w2
         go_upto_region 9 with (fail)
         refine wp_region_noPanic ?_
         refine zm (fun w'=>Below wr.heap.size wr w') (fun _=>false) (by kernel_rfl) ?_
         have cI:(fun w'=>Below wr.heap.size wr w') wr.drew:=Below.drew (cE _ _)
         refine tk [0,1,2,3,4,5,6,7,8,9,10,11,12,13,14,15,16,17,18,19,20,21,22,23] cI ?_
         (intro d hd;simp [tkD] at hd;subst hd;simp only [tks,pQ,pZ,pS])
         iterate 24 (refine ⟨?_,?_,?_⟩;rotate_left;· (intro oi ho;simp at ho;subst ho;first | (refine Or.inr ⟨by rfl,?_⟩;with_reducible rfl) | (refine Or.inl ⟨by rfl,fun w' cv=>?_⟩;go_simp;try with_reducible rfl)))
         refine zt (by kernel_rfl) (NoPanic.normal ?_) _
         go_wp2_with fail
         go_ret
         exact ⟨by rw [E.out];rfl,kZ HB.out.2 _⟩
       | false =>
         have KEY:Hid (∀ x,Below wr.heap.size wr x->x.cell? ⟨w.heap.size,0,none⟩=some (.slice (some ⟨mb,mo,none⟩) v.length mc)):=cH (fun x hx=>(hx.cell (cD _ _ d0)).trans d0)
         have KEYY:Hid (∀ x,Below wr.heap.size wr x->x.cell? ⟨mb,mo+zn,none⟩=some (str my)):=cH (fun x hx=>(hx.cell (cD _ _ y0)).trans y0)
         have Cj:((m:Bs) != [113])=true:=by rw [bne,sx];rfl
         cases hme:(my == An) with
         | false =>
           have hme2:((my:Bs) != An)=true:=by rw [bne,hme];rfl
           have E:=cH (FALSE.out (by rw [HO.out,sx,hme];rfl))
           clear FALSE HO rq
           go_wp2_with fail
           (with_reducible refine CM.out.mono ?_)
           rintro en w1 ⟨rfl,e⟩
           subst w1
           go_wp2_with fail
           (with_reducible refine CB.out.mono ?_)
           rintro en w2 ⟨rfl,e⟩
           subst w2
           go_upto_region 9 with (fail)
           refine wp_region_noPanic ?_
           refine zm (fun w'=>Below wr.heap.size wr w') (fun _=>false) (by kernel_rfl) ?_
           have cI:(fun w'=>Below wr.heap.size wr w') wr.drew:=Below.drew (cE _ _)
           refine tk [0,1,2,3,4,5,6,7,8,9,10,11,12,13,14,15,16] cI ?_
           (intro d hd;simp [tkD] at hd;subst hd;simp only [tks,pQ,pZ,pS])
           iterate 17 (refine ⟨?_,?_,?_⟩;rotate_left;· (intro oi ho;simp at ho;subst ho;first | (refine Or.inr ⟨by rfl,?_⟩;with_reducible rfl) | (refine Or.inl ⟨by rfl,fun w' cv=>?_⟩;have e0:=KEY.out w' cv;go_simp;try with_reducible rfl)))
           refine tk [17,18] cI ?_
           (intro d hd;simp [tkD] at hd;subst hd;simp only [tks,pQ,pZ,pS])
           iterate 2 (refine ⟨?_,?_,?_⟩;rotate_left;· (intro oi ho;simp at ho;subst ho;refine Or.inl ⟨by rfl,fun w' cv=>?_⟩;have e0:=KEYY.out w' cv;go_simp;try with_reducible rfl))
           (refine on 19 ?_;intro o ho K' hK;simp at ho;subst ho;go_simp)
           go_at_call 78
           (with_reducible refine (CE.out _).mono ?_)
           rintro en x19 ⟨rfl,e⟩
           subst x19
           (refine hK.out _ _ (fun _=>cI) ?_;clear hK K';try simp only [pQ,pN,pZ,pS])
           refine tk [20,21,22,23] cI ?_
           (intro d hd;simp [tkD] at hd;subst hd;simp only [tks,pQ,pZ,pS])
           iterate 4 (refine ⟨?_,?_,?_⟩;rotate_left;· (intro oi ho;simp at ho;subst ho;refine Or.inl ⟨by rfl,fun w' cv=>?_⟩;go_simp;try with_reducible rfl))
           refine zt (by kernel_rfl) (NoPanic.normal ?_) _
           go_wp2_with fail
           go_ret
           exact ⟨by rw [E.out];rfl,kZ HB.out.2 _⟩
         | true =>
           have hme2:((my:Bs) != An)=false:=by rw [bne,hme];rfl
           have E:=cH (show qd t v (k+1)=true by rw [qd,HA.out.1,HO.out,sx,hme];rfl)
           clear FALSE HO rq
           go_wp2_with fail
           (with_reducible refine CM.out.mono ?_)
           rintro en w1 ⟨rfl,e⟩
           subst w1
           go_wp2_with fail
           (with_reducible refine CB.out.mono ?_)
           rintro en w2 ⟨rfl,e⟩
           subst w2
           go_upto_region 9 with (fail)
           refine wp_region_noPanic ?_
           refine zm (fun w'=>Below wr.heap.size wr w') (fun _=>false) (by kernel_rfl) ?_
           have cI:(fun w'=>Below wr.heap.size wr w') wr.drew:=Below.drew (cE _ _)
           refine tk [0,1,2,3,4,5,6,7,8,9,10,11,12,13,14,15,16] cI ?_
           (intro d hd;simp [tkD] at hd;subst hd;simp only [tks,pQ,pZ,pS])
           iterate 17 (refine ⟨?_,?_,?_⟩;rotate_left;· (intro oi ho;simp at ho;subst ho;first | (refine Or.inr ⟨by rfl,?_⟩;with_reducible rfl) | (refine Or.inl ⟨by rfl,fun w' cv=>?_⟩;have e0:=KEY.out w' cv;go_simp;try with_reducible rfl)))
           refine tk [17,18] cI ?_
           (intro d hd;simp [tkD] at hd;subst hd;simp only [tks,pQ,pZ,pS])
           iterate 2 (refine ⟨?_,?_,?_⟩;rotate_left;· (intro oi ho;simp at ho;subst ho;refine Or.inl ⟨by rfl,fun w' cv=>?_⟩;have e0:=KEYY.out w' cv;go_simp;try with_reducible rfl))
           (refine on 19 ?_;intro o ho K' hK;simp at ho;subst ho;go_simp)
           go_at_call 78
           (with_reducible refine (CE.out _).mono ?_)
           rintro en x19 ⟨rfl,e⟩
           subst x19
           (refine hK.out _ _ (fun _=>cI) ?_;clear hK K';try simp only [pQ,pN,pZ,pS])
           refine tk [20,21,22,23] cI ?_
           (intro d hd;simp [tkD] at hd;subst hd;simp only [tks,pQ,pZ,pS])
           iterate 4 (refine ⟨?_,?_,?_⟩;rotate_left;· (intro oi ho;simp at ho;subst ho;refine Or.inl ⟨by rfl,fun w' cv=>?_⟩;go_simp;try with_reducible rfl))
           refine zt (by kernel_rfl) (NoPanic.normal ?_) _
           go_wp2_with fail
           go_roundw
           case rel=>exact ⟨_,k+1,rfl,by omega,by go_num,E.out,HB.out.1.drew⟩
           case measure=>simp [intOf];omega
     ·have E:=cH (FALSE.out (by rw [HO.out];rw [even_int] at cT;rw [Bool.and_eq_false_iff];exact .inl (by rw [beq_eq_false_iff_ne];exact cT)))
      clear FALSE HO
      go_wp2_with fail
      (with_reducible refine CM.out.mono ?_)
      rintro en w1 ⟨rfl,e⟩
      subst w1
      go_wp2_with fail
      (with_reducible refine CB.out.mono ?_)
      rintro en w2 ⟨rfl,e⟩
      subst w2
      go_wp2_with fail
      go_ret
      exact ⟨by rw [E.out];rfl,HB.out.2⟩
  ·obtain rfl:k=v.length:=by omega
   go_wp2_with fail
   go_ret
   exact ⟨by rw [dC];rfl,HB.out.2⟩

def uD (F:Nat->Prop) (w:World) (ms:List Bs) (x:Value):Prop:=Rep F w (.sl 9 1 ms.length (ms.map fun m=>DV.val (str m))) x
def uC (F:Nat->Prop) (w:World) (ps:List Int) (x:Value):Prop:=Rep F w (.sl 3 1 ps.length (ps.map fun z=>DV.val (.int .i64 z))) x
def jh (t:Ty) (ms:List Bs) (ps:List Int):Bool:=decide (ms.length<=60) && (decide (ps.length=ms.length) && qd t (ms.zip ps) (ms.zip ps).length)
theorem uD.slice {F:Nat->Prop} {w:World} {ms:List Bs} {x:Value} (h:uD F w ms x):∃ a c,x=.slice a ms.length c:=by
 obtain ⟨a,c,e,_⟩:=zC h;exact ⟨a,c,e⟩
theorem uC.slice {F:Nat->Prop} {w:World} {ps:List Int} {x:Value} (h:uC F w ps x):∃ a c,x=.slice a ps.length c:=by
 obtain ⟨a,c,e,_⟩:=zC h;exact ⟨a,c,e⟩
theorem zip_fst {ms:List Bs} {ps:List Int} (h:ps.length=ms.length):(ms.zip ps).map (·.1)=ms:=by
 rw [List.map_fst_zip (by omega)]
theorem zip_snd {ms:List Bs} {ps:List Int} (h:ps.length=ms.length):(ms.zip ps).map (·.2)=ps:=by
 rw [List.map_snd_zip (by omega)]
theorem uD.zip {F:Nat->Prop} {w:World} {ms:List Bs} {ps:List Int} {x:Value} (h:uD F w ms x) (he:ps.length=ms.length):vR F w (ms.zip ps) x:=by
 have h1:(ms.zip ps).length=ms.length:=by rw [List.length_zip];omega
 unfold vR
 rw [h1,show (ms.zip ps).map (fun m=>DV.val (str m.1))=ms.map (fun m=>DV.val (str m)) from by
  conv=>rhs;rw [<- zip_fst he]
  rw [List.map_map];rfl]
 exact h
theorem uC.zip {F:Nat->Prop} {w:World} {ms:List Bs} {ps:List Int} {x:Value} (h:uC F w ps x) (he:ps.length=ms.length):vM F w (ms.zip ps) x:=by
 have h1:(ms.zip ps).length=ps.length:=by rw [List.length_zip];omega
 unfold vM
 rw [h1,show (ms.zip ps).map (fun m=>DV.val (.int .i64 m.2))=ps.map (fun z=>DV.val (.int .i64 z)) from by
  conv=>rhs;rw [<- zip_snd he]
  rw [List.map_map];rfl]
 exact h
set_option maxRecDepth 100000 in
theorem hasPlay_any (F:Nat->Prop) (t:Ty) (kv mv pt:Value) (ms:List Bs) (ps:List Int) (w:World) (hk:Rep F w (qe t) kv) (ht:zU t<=15) (hm:uD F w ms mv) (hp:uC F w ps pt) (hl:∀ x∈ms,Lim x.length) :
 Calls Tryz.prog 59 #[kv,.agg #[mv,pt]] w fun en w'=>en=.returned (.bool (jh t ms ps))/\Below w.heap.size w w':=by
 by_cases mT:ms.length<=60
 ·by_cases he:ps.length=ms.length
  ·refine (hasPlay_v F t kv mv pt (ms.zip ps) w hk ht (hm.zip he) (hp.zip he) (by rw [List.length_zip];omega) (fun x hx=>hl _ (List.of_mem_zip hx).1)).mono ?_
   rintro en w' ⟨rfl,hb⟩
   refine ⟨?_,hb⟩
   unfold jh
   rw [decide_eq_true mT,decide_eq_true he];rfl
  ·have E:=cH (show jh t ms ps=false by unfold jh;rw [decide_eq_false he,Bool.false_and,Bool.and_false])
   obtain ⟨kb,ks,rfl,_⟩:=zO hk
   obtain ⟨ma,mc,rfl⟩:=hm.slice
   obtain ⟨pa,pc,rfl⟩:=hp.slice
   obtain ⟨W,hW,cO,hz,b0⟩:=q_ w (.cells #[.slice ma ms.length mc,.slice pa ps.length pc] 28)
   obtain ⟨c0,c1,_,_⟩:=kp b0
   have cA:¬ (60:Int)<(ms.length:Int):=by omega
   have hne:((ps.length:Int) != (ms.length:Int))=true:=by simp;omega
   have HW:=cH hW
   have HB:=cH cO
   clear hk hm hp hz b0 cO hW hl mT he
   go_enter Tryz.func59,Tryz.ntmps59
   go_upto_region 1 with (fail)
   rw [HW.out]
   go_wp2_with fail
   go_ret
   exact ⟨by rw [E.out];rfl,HB.out⟩
 ·have E:=cH (show jh t ms ps=false by unfold jh;rw [decide_eq_false mT,Bool.false_and])
  obtain ⟨kb,ks,rfl,_⟩:=zO hk
  obtain ⟨ma,mc,rfl⟩:=hm.slice
  obtain ⟨pa,pc,rfl⟩:=hp.slice
  obtain ⟨W,hW,cO,hz,b0⟩:=q_ w (.cells #[.slice ma ms.length mc,.slice pa ps.length pc] 28)
  obtain ⟨c0,c1,_,_⟩:=kp b0
  have cA:(60:Int)<(ms.length:Int):=by omega
  have HW:=cH hW
  have HB:=cH cO
  clear hk hm hp hz b0 cO hW hl mT
  go_enter Tryz.func59,Tryz.ntmps59
  go_upto_region 1 with (fail)
  rw [HW.out]
  go_wp2_with fail
  go_ret
  exact ⟨by rw [E.out];rfl,HB.out⟩
theorem uD.below {F F':Nat->Prop} {w w':World} {ms:List Bs} {x:Value} (h:uD F w ms x) (hb:Below w.heap.size w w') (hF:∀ b,F b->F' b):uD F' w' ms x:=Rep.below hb hF h
theorem uC.below {F F':Nat->Prop} {w w':World} {ps:List Int} {x:Value} (h:uC F w ps x) (hb:Below w.heap.size w w') (hF:∀ b,F b->F' b):uC F' w' ps x:=Rep.below hb hF h
def jF (s:Bs) (ms:List Bs) (ps:List Int):Bool:=(zQ s).2 && jh (zQ s).1 ms ps
theorem playOk_kind {s:Bs} {t:Ty} (h:qv s=some t) (ms:List Bs) (ps:List Int):jF s ms ps=jh t ms ps/\zU t<=15:=by
 rw [yw] at h
 unfold jF
 cases h2:(zQ s).2 with
 | false=>rw [h2] at h;simp at h
 | true =>
   rw [h2] at h
   obtain rfl:=Option.some.inj h
   exact ⟨by rw [Bool.true_and],(vt h2).2⟩
theorem playOk_none {s:Bs} (h:qv s=none) (ms:List Bs) (ps:List Int):jF s ms ps=false:=by
 rw [yw] at h
 unfold jF
 cases h2:(zQ s).2 with
 | false=>rfl
 | true=>rw [h2] at h;simp at h
set_option maxRecDepth 100000 in
theorem wL (F:Nat->Prop) (s:Bs) (mv pt:Value) (ms:List Bs) (ps:List Int) (w:World) (hs:Lim s.length) (hm:uD F w ms mv) (hp:uC F w ps pt) (hl:∀ x∈ms,Lim x.length) :
 Calls Tryz.prog 38 #[str s,.agg #[mv,pt]] w fun en w'=>en=.returned (.bool (jF s ms ps))/\Below w.heap.size w w':=by
 obtain ⟨ma,mc,rfl⟩:=hm.slice
 obtain ⟨pa,pc,rfl⟩:=hp.slice
 obtain ⟨W,hW,cO,hz,b0⟩:=q_ w (.cells #[.slice ma ms.length mc,.slice pa ps.length pc] 28)
 have C:=cH (yK s W hs)
 have HR:=cH (cB (hm.below cO (F':=fun _=>True) fun _ _=>trivial) (cB (hp.below cO (F':=fun _=>True) fun _ _=>trivial) (cB hl cO)))
 have HW:=cH (cB hW b0)
 clear hs hm hp hl hW hz b0 cO
 go_enter Tryz.func38,Tryz.ntmps38
 go_upto_region 1 with (fail)
 rw [HW.out.1]
 go_wp2_with fail
 (with_reducible refine C.out.mono ?_)
 rintro en w1 ⟨kv,rfl,cT,dY,dp⟩
 clear C
 obtain ⟨c0,c1,_,_⟩:=kp HW.out.2
 have c0':=(cT.cell (cD _ _ c0)).trans c0
 have c1':=(cT.cell (cD _ _ c1)).trans c1
 clear c0 c1
 have da:=cH (cB cT (zzT HR.out.2.2.2 cT))
 cases hq:qv s with
 | none =>
   obtain rfl:=dY hq
   have E:=cH (playOk_none hq ms ps)
   clear dY dp hq cT
   go_wp2_with fail
   go_ret
   exact ⟨by rw [E.out];rfl,da.out.2⟩
 | some t =>
   have rk:=dp t hq
   obtain ⟨ka,ks,rfl,_⟩:=zO rk
   obtain ⟨E,cj⟩:=playOk_kind hq ms ps
   have E:=cH E
   have C2:=cH (hasPlay_any (fun _=>True) t (.pointer (some ⟨ka,0,none⟩)) _ _ ms ps w1 ((Rep.keep fun b o _ ho=>⟨trivial,ho⟩).1 _ _ rk) cj (HR.out.1.below da.out.1 fun _ h=>h) (HR.out.2.1.below da.out.1 fun _ h=>h) HR.out.2.2.1)
   clear dY dp hq cT rk cj
   go_wp2_with fail
   (with_reducible refine C2.out.mono ?_)
   rintro en w2 ⟨rfl,cS⟩
   have dS:=cH (zzT da.out.2 cS)
   clear cS
   go_wp2_with fail
   go_ret
   exact ⟨by rw [E.out];rfl,dS.out⟩
def jx (ns:List Nat):List Value:=ns.map fun n=>Value.int .i64 (n:Nat)
theorem Own.numD {F:Nat->Prop} {w:World} {ns:List Nat} {a:Option Addr} {n c:Nat} (h:Own w 3 1 (.slice a n c) n (jx ns)) (hn:n=ns.length) (hF:∀ g,(Value.slice a n c).ownBlock=some g->F g):Rep F w (numD ns) (.slice a n c):=by
 subst hn
 refine h.rep hF ?_
 rw [show (ns.map fun n=>DV.val (.int .i64 (n:Nat)))=(jx ns).map DV.val from by simp [jx,Function.comp_def]]
 exact (jG _ _).2 rfl
def NatAt (w:World) (ns:List Nat) (x:Value):Prop:=∃ b o c,x=.slice (some ⟨b,o,none⟩) ns.length c/\b<w.heap.size/\∀ (i n:Nat),ns[i]? = some n->w.cell? ⟨b,o+i,none⟩=some (.int .i64 (n:Nat))
theorem NatAt.below {w w':World} {ns:List Nat} {x:Value} (h:NatAt w ns x) (hb:Below w.heap.size w w'):NatAt w' ns x:=by
 obtain ⟨b,o,c,e,hl,hc⟩:=h
 exact ⟨b,o,c,e,cM hl hb.size,fun i n hi=>(hb.cell (p:=⟨b,o+i,none⟩) hl).trans (hc i n hi)⟩
theorem Own.cells1 {w:World} {ns:List Nat} {v:Value} (h:Own w 3 1 v ns.length (jx ns)) (hp:0<ns.length):∃ b c,v=.slice (some ⟨b,0,none⟩) ns.length c/\b<w.heap.size/\∀ (i n:Nat),ns[i]? = some n->w.cell? ⟨b,i,none⟩=some (.int .i64 (n:Nat))/\w.frozen? ⟨b,i,none⟩=false:=by
 rcases h.2 with ⟨_,h0⟩ | ⟨g,cap,cur,e,_,hg,nZ,_,hcs,ht⟩
 ·omega
 ·refine ⟨g,cap,e,zZ hg,fun i n hi=>?_⟩
  have AN:=(List.getElem?_eq_some_iff.1 hi).1
  have h2:(jx ns)[i]? = some (.int .i64 (n:Nat)):=by unfold jx;rw [List.getElem?_map,hi];rfl
  rw [<- ht,List.getElem?_take,if_pos (by omega),Array.getElem?_toList] at h2
  exact ⟨by simp only [World.cell?,hg];simpa using h2,by simp [World.frozen?,hg]⟩
theorem gY {B b:Nat} (hb:B<=b) {a:World}:∀ (vs:List Value) (o:Nat) (w:World),Below B a w->Below B a (w.setCells b o vs)
 | [],_,_,h=>h
 | v::r,o,_,h=>gY hb r (o+1) _ (h.setCell (p:=⟨b,o,none⟩) hb v)
theorem reversed_at {w w':World} {ns:List Nat} {b c:Nat} {B:Nat} (hB:B<=b) (hl:b<w.heap.size) (hc:∀ (i n:Nat),ns[i]? = some n->w.cell? ⟨b,i,none⟩=some (.int .i64 (n:Nat))/\w.frozen? ⟨b,i,none⟩=false) {q:Nat}
 (e:w'=(w.drewN q).setCells b 0 ((ns.map fun n=>((n:Nat):Int)).reverse.map (Value.int .i64))):NatAt w' ns.reverse (.slice (some ⟨b,0,none⟩) ns.length c)/\Below B w w':=by
 have e2:(ns.map fun n=>((n:Nat):Int)).reverse.map (Value.int .i64)=jx ns.reverse:=by unfold jx;rw [<- List.map_reverse,List.map_map];rfl
 rw [e2] at e
 have cA:(jx ns.reverse).length=ns.length:=by unfold jx;simp
 have hb:Below B w w':=by
  rw [e]
  exact gY hB _ _ _ (kZ (cE _ _) q)
 refine ⟨⟨b,0,c,by rw [List.length_reverse],cM hl hb.size,fun i n hi=>?_⟩,hb⟩
 have AN:=(List.getElem?_eq_some_iff.1 hi).1
 rw [List.length_reverse] at AN
 have h3:=World.cell?_setCells_in b (jx ns.reverse) 0 (w.drewN q) (fun j hj=>by
  rw [cA] at hj
  have:=(hc j (ns[j]) (List.getElem?_eq_getElem hj)).1
  rw [Nat.zero_add]
  rw [show (w.drewN q).cell? ⟨b,j,none⟩=w.cell? ⟨b,j,none⟩ from (kZ (cE w.heap.size w) q).cell hl,this];rfl) i (by omega)
 rw [e,h3]
 congr 1
 have h2:(jx ns.reverse)[i]? = some (.int .i64 (n:Nat)):=by unfold jx;rw [List.getElem?_map,hi];rfl
 exact (List.getElem?_eq_some_iff.1 h2).2
theorem yk (x:Int) (h1 : -2000<=x) (h2:x<=1000000):IntKind.i64.wrap x=x:=by
 simp [IntKind.wrap,IntKind.bits,IntKind.signed];omega
theorem intsV_append (a b:List Nat):jx (a++b)=jx a++jx b:=by simp [jx]
theorem good_pos {t:Ty} {v:Pl} {i:Nat} {c:UInt8} {p:Bs} {z:Int} (h:OkMv t v i c p z) : -1<=z/\z<(i:Int):=by
 rcases Nat.eq_zero_or_pos i with h0 | h0
 ·have:=(h.zero h0).2.2;omega
 ·have:=h.pos h0;omega
set_option maxRecDepth 100000 in
theorem view_any (F:Nat->Prop) (t:Ty) (v:Pl) (opp:Bool) (n:Nat) (mv pt:Value) (w:World) (hm:vR F w v mv) (hp:vM F w v pt) (hv:zL t v=true) (hn0:0<n) (hn:n<=v.length) (hl:∀ x∈v,x.1.length<=16777216) :
 Calls Tryz.prog 62 #[.agg #[mv,pt],.int .i64 (n:Nat),.bool opp] w fun en w'=>∃ x,en=.returned x/\Below w.heap.size w w'/\NatAt w' (kB v opp n) x:=by
 have mT:=jV hv
 obtain ⟨ma,mc,rfl,mW⟩:=hm.cells
 obtain ⟨pa,pc,rfl,mB⟩:=hp.cells
 obtain ⟨W,hW,cO,hz,b0⟩:=q_ w (.cells #[.slice ma v.length mc,.slice pa v.length pc] 28)
 obtain ⟨c0,c1,_,_⟩:=kp b0
 have hwn:IntKind.i64.wrap ((n:Int)-1)=(n:Int)-1:=wrap_small _ (by omega) (by omega)
 have HH:=cH (cB mW (cB mB (cB cO (cB hv hl))))
 have HW:=cH hW
 clear hm hp mW mB hz b0 cO hW hl hv
 go_enter Tryz.func62,Tryz.ntmps62
 go_upto_region 1 with (fail)
 rw [HW.out]
 go_wp2_with fail
 go_loopw [7,8] (fun o i wr=>∃ (r f:Nat) (ds:List Nat) (a:Option Addr) (c:Nat),i=.int .i64 ((r:Int)-1)/\r<=f/\ds.length+f=n/\ds++jR v opp f r=jR v opp n n/\o=.slice a ds.length c/\Own wr 3 1 (.slice a ds.length c) ds.length (jx ds)/\Below W.heap.size W wr/\(∀ g,(Value.slice a ds.length c).ownBlock=some g->W.heap.size<=g)) (fun _ i _=>(intOf i+1).toNat)
 case atStart=>exact ⟨n,n,[],none,0,rfl,cC _,by simp,rfl,rfl,World.ownsRow_nil _ _ _ _,cE _ _,fun g h=>by simp [Value.ownBlock] at h⟩
 case round =>
  obtain ⟨r,f,ds,a,c,rfl,BH,hdf,hvd,rfl,ho,hB,hf⟩:=hrel
  have HO:=cH ho;have HF:=cH hf;have HB:=cH hB;have HV:=cH hvd
  clear ho hf hB hvd
  cases r with
  | zero =>
    have e0:(((0:Nat):Int)-1) = -1:=rfl
    rw [e0]
    have iS:ds=jR v opp n n:=by
     have h:=HV.out
     rw [jo,List.append_nil] at h;exact h
    have hlp:0<ds.length:=by
     rw [iS]
     obtain ⟨n',rfl⟩:∃ n',n=n'+1:=⟨n-1,by omega⟩
     rw [kk,List.length_cons];omega
    obtain ⟨g,c',ev,tx,AO⟩:=Own.cells1 HO.out hlp
    simp only [Value.slice.injEq,true_and] at ev
    obtain ⟨rfl,rfl⟩:=ev
    have C:=cH (Tryz.slices_Reverse_int_cells g 0 ds.length c (ds.map fun n=>((n:Nat):Int)) wr (by simp) (by omega) (fun j hj=>by
     rw [List.length_map] at hj
     rw [Nat.zero_add,(AO j ds[j] (List.getElem?_eq_getElem hj)).1,List.getD_eq_getElem?_getD,List.getElem?_map,List.getElem?_eq_getElem hj];rfl) (fun j hj=>by
     rw [Nat.zero_add];exact (AO j ds[j] (List.getElem?_eq_getElem hj)).2))
    have HG:=cH (cB tx AO)
    have HD:=cH iS
    clear tx AO hlp iS
    go_wp2_with fail
    (with_reducible refine C.out.mono ?_)
    rintro en w1 ⟨rfl,q,e⟩
    obtain ⟨hN,hb⟩:=reversed_at (B:=W.heap.size) (c:=c) (HF.out g rfl) HG.out.1 HG.out.2 (e.trans (by rw [List.take_of_length_le (by simp)]))
    have HN:=cH (cB hN (HB.out.trans hb))
    clear e hN hb C
    go_wp2_with fail
    go_ret
    refine ⟨_,rfl,zzT HH.out.2.2.1 HN.out.2,?_⟩
    unfold kB
    rw [<- HD.out]
    exact HN.out.1
  | succ k =>
    have ek:(((k+1:Nat):Int)-1)=(k:Int):=by omega
    rw [ek]
    have iB:k<v.length:=by omega
    have hkvI:(k:Int)<(v.length:Int):=by omega
    obtain ⟨x,p,z,dw,co⟩:=kg HH.out.2.2.2.1 iB
    have dU:=HH.out.2.2.2.2 _ (List.mem_of_getElem? dw)
    rw [List.length_cons] at dU
    obtain ⟨mb,mo,rfl,_,mu,fj⟩:=HH.out.1 k _ dw
    obtain ⟨pb,po,rfl,_,m_,mH⟩:=HH.out.2.1 k _ dw
    have hz:=good_pos co
    have hwk:IntKind.i64.wrap ((k:Int)-1)=(k:Int)-1:=yk _ (by omega) (by omega)
    obtain ⟨f',rfl⟩:∃ f',f=f'+1:=⟨f-1,by omega⟩
    have KEY:Hid (∀ y,Below W.heap.size W y->y.cell? ⟨w.heap.size,0,none⟩=some (.slice (some ⟨mb,mo,none⟩) v.length mc)/\y.cell? ⟨w.heap.size,1,none⟩=some (.slice (some ⟨pb,po,none⟩) v.length pc)/\y.cell? ⟨mb,mo+k,none⟩=some (str (x::p))/\y.cell? ⟨pb,po+k,none⟩=some (.int .i64 z)):=cH (fun y hy=>by
     have fC:=zzT HH.out.2.2.1 hy
     exact ⟨(hy.cell (cD _ _ c0)).trans c0,(hy.cell (cD _ _ c1)).trans c1,(fC.cell (p:=⟨mb,mo+k,none⟩) mu).trans fj,(fC.cell (p:=⟨pb,po+k,none⟩) m_).trans mH⟩)
    have CB:=uQ x p (show p.length<=16777216 by omega)
    have Ab:qh v opp (k+1-1)=qh v opp k:=rfl
    have HN:Hid (ds++[k]++jR v opp f' (if qZ (x::p)=opp then k else (z+1).toNat)=jR v opp n n):=cH (by
     have h:=HV.out
     rw [kk] at h
     unfold qh at h
     rw [dw] at h
     rw [List.append_assoc];exact h)
    obtain ⟨bo,n8⟩:=zzN (qZ (x::p))
    rw [n8] at CB HN
    have CB:=cH CB
    clear c0 c1 dw co dU mu fj m_ mH n8 Ab
    go_wp2_with (at_builtin;refine zG rfl _ _ 26 rfl 3 (.int .i64 0) 1 8 Tryz.underlying26 Tryz.infoInt2 rfl (by decide) (.slice a ds.length c) ds.length (jx ds) rfl ?c1 _ 1 [.int .i64 (k:Nat)] rfl ?c2 ?c3 ?c4 ?_)
    case c1=>exact HO.out.alloc _
    case c2=>exact zM.litk #[.int .i64 (k:Nat)] rfl (by simp [Value.oneCell']) _ (by rfl)
    case c3=>unfold maxLen;omega
    case c4=>omega
    intro a7 c7 w8 ho8 Dr hg8
    have hzr:=HB.out.size
    have rc:Below W.heap.size W w8:=(HB.out.alloc hzr _).trans (Dr.toBelow (by rw [zK];omega) fun i hi e=>by have:=HF.out i e;omega)
    have hF8:∀ g,(Value.slice a7 (ds.length+1) c7).ownBlock=some g->W.heap.size<=g:=fun g hg=>by
     rcases hg8 g hg with e | e
     ·exact HF.out g e
     ·omega
    have B2:Own w8 3 1 (.slice a7 (ds++[k]).length c7) (ds++[k]).length (jx (ds++[k])):=by rw [intsV_append,List.length_append];exact ho8
    obtain ⟨d0,d1,m0,p0⟩:=KEY.out w8 rc
    have H8:=cH (cB B2 (cB rc (by rw [show ds.length+1=(ds++[k]).length from by simp] at hF8;exact hF8)))
    have el:ds.length+1=(ds++[k]).length:=by simp
    rw [el]
    generalize iS:ds++[k]=ds' at *
    have AV:ds'.length=ds.length+1:=el.symm
    clear ho8 Dr hg8 rc hF8 B2 KEY hzr el iS HO HF HV
    go_wp2_with fail
    (with_reducible refine (CB.out _).mono ?_)
    rintro en w9 ⟨rfl,e⟩
    subst w9
    by_cases n8:bo=opp
    ·rw [if_pos n8] at HN
     have cT:(bo == opp)=true:=by simp [n8]
     clear n8 CB d1 p0
     go_wp2_with fail
     go_roundw
     case rel=>exact ⟨k,f',ds',a7,c7,rfl,by omega,by omega,HN.out,by rw [AV],H8.out.1,H8.out.2.1,H8.out.2.2⟩
     case measure=>simp [intOf]
    ·rw [if_neg n8] at HN
     have cT:(bo == opp)=false:=by simp [n8]
     clear n8 CB d0 m0
     go_wp2_with fail
     go_roundw
     case rel=>exact ⟨(z+1).toNat,f',ds',a7,c7,by congr 1;omega,by omega,by omega,HN.out,by rw [AV],H8.out.1,H8.out.2.1,H8.out.2.2⟩
     case measure=>simp [intOf];omega

end Go.Proofs.YtdhaafoiokkbnaaGreatDoor

/- Walks of functions that the statement reaches, and plain words. No conditions. -/
import Derived.RegionTactic
import Derived.Deep.DeepCutAuto
import Derived.Maps.Own
import Derived.Shelf.Strings.Builder1
import Derived.Laws.EntriesVeiled
import Derived.Test.YtepgfdhkkjfmhacGreatDoorQ4
set_option linter.unusedVariables false
set_option linter.unusedSimpArgs false
set_option maxHeartbeats 8000000
namespace Go.Proofs.YtepgfdhkkjfmhacGreatDoor
open Go.RowKit
section
variable {P:Program} {ops:Array Oper} {Q:Exit->Act->World->Prop} {md:Region.Mode} {S:World->Prop} {T:Nat->Bool}
def qD (P:Program) (md:Region.Mode) (ops:Array Oper) (Q:Exit->Act->World->Prop) (S:World->Prop) (T:Nat->Bool):Nat->Array Bool->Act->World->Prop
 | 0,listed,a,w=>Region.ready md ops listed=[]/\Q .normal a w
 | fuel+1,listed,a,w =>
   (Region.ready md ops listed=[]->Q .normal a w) /\
   ∀ i∈Region.ready md ops listed,wpOp P ops Q i (fun a' w'=>(T i=false->S w')/\qD P md ops Q S T fuel (listed.setIfInBounds i true) a' w') a w
theorem pI:∀ (fuel:Nat) (listed:Array Bool) (a:Act) (w:World),qD P md ops Q S T fuel listed a w->wpAny P md ops Q fuel listed a w
 | 0,_,_,_,h=>h
 | fuel+1,_,_,_,h=>⟨h.1,fun i hi=>wpOp_mono (fun a' w' h'=>pI fuel _ a' w' h'.2) (h.2 i hi)⟩
theorem jp {md:Region.Mode} {ops:Array Oper} {L:Array Bool} {i j:Nat} (h:j∈Region.ready md ops L) (hne:j≠i):j∈Region.ready md ops (L.setIfInBounds i true):=by
 unfold Region.ready at *
 rw [List.mem_filter] at *
 refine ⟨h.1,?_⟩
 have h2:=h.2
 rw [Bool.and_eq_true] at *
 refine ⟨?_,?_⟩
 ·have e:(L.setIfInBounds i true).getD j true=L.getD j true:=by
   simp only [Array.getD_eq_getD_getElem?]
   rw [Array.getElem?_setIfInBounds_ne (fun e=>hne e.symm)]
  rw [e];exact h2.1
 ·have h3:=h2.2
  cases ho:ops[j]? with
  | none=>rw [ho] at h3;simp at h3
  | some o =>
    rw [ho] at h3
    simp only [Option.map_some,Option.getD_some] at h3 ⊢
    rw [Array.all_eq_true'] at *
    intro e he
    have h4:=h3 e he
    rw [Bool.or_eq_true] at *
    rcases h4 with h4 | h4
    ·exact .inl h4
    ·refine .inr ?_
     by_cases hk:e.on=i
     ·rw [hk]
      simp only [Array.getD_eq_getD_getElem?] at h4 ⊢
      rw [hk] at h4
      rcases Nat.lt_or_ge i L.size with h' | h'
      ·simp [h']
      ·rw [Array.getElem?_eq_none h'] at h4;simp at h4
     ·simp only [Array.getD_eq_getD_getElem?] at h4 ⊢
      rw [Array.getElem?_setIfInBounds_ne (fun e=>hk e.symm)];exact h4
theorem qi {md:Region.Mode} {ops:Array Oper} {L:Array Bool} {j:Nat} (h:j∈Region.ready md ops L) :
 L.getD j true=false/\∃ o,ops[j]? = some o/\∀ e∈o.after,Region.binds md e=true->L.getD e.on false=true:=by
 unfold Region.ready at h
 rw [List.mem_filter] at h
 have h2:=h.2
 rw [Bool.and_eq_true] at h2
 refine ⟨by simpa using h2.1,?_⟩
 cases ho:ops[j]? with
 | none=>have:=h2.2;rw [ho] at this;simp at this
 | some o =>
   refine ⟨o,rfl,fun e he hb=>?_⟩
   have h3:=h2.2
   rw [ho] at h3
   simp only [Option.map_some,Option.getD_some] at h3
   rw [Array.all_eq_true'] at h3
   have h4:=h3 e he
   rw [Bool.or_eq_true] at h4
   rcases h4 with h4 | h4
   ·rw [hb] at h4;simp at h4
   ·exact h4
theorem wpAnyS_first {i:Nat} {oi:Oper} {v:Value} (hi:ops[i]? = some oi) (rY:∀ (j:Nat) (o:Oper) cs b,ops[j]? = some o->o.op≠.select cs b)
 (hQ:∀ c a w,Q (.panic c) (a.put oi.dst v) w->Q (.panic c) a w)
 (hT:∀ j oj,ops[j]? = some oj->T j=true->∃ e∈oj.after,Region.binds md e=true/\e.on=i) (hTi:T i=false) :
 ∀ (fuel:Nat) (listed:Array Bool) (a:Act) (w:World),
   (∀ j oj,ops[j]? = some oj->j≠i->listed.getD j true=false->(∀ e∈oj.after,Region.binds md e=true->e.on≠i)->oi.apart ops oj=true) ->
   i∈Region.ready md ops listed->YieldsIf P ops S oi v a->S w ->
   qD P md ops Q S T fuel (listed.setIfInBounds i true) (a.put oi.dst v) w->qD P md ops Q S T (fuel+1) listed a w:=by
 intro fuel
 induction fuel with
 | zero =>
   intro listed a w _ hr hy hS H
   refine ⟨fun h=>(by rw [h] at hr;cases hr),fun j hj=>?_⟩
   by_cases fB:j=i
   ·subst fB;exact hy.wpOp hi hS ⟨fun _=>hS,H⟩
   ·have:=jp hj fB
    rw [H.1] at this
    cases this
 | succ fuel ih =>
   intro listed a w cr hr hy hS H
   refine ⟨fun h=>(by rw [h] at hr;cases hr),fun j hj=>?_⟩
   by_cases fB:j=i
   ·subst fB;exact hy.wpOp hi hS ⟨fun _=>hS,H⟩
   ·have h1:=H.2 j (jp hj fB)
    obtain ⟨sV,oj,s_,ex⟩:=qi hj
    have rz:∀ e∈oj.after,Region.binds md e=true->e.on≠i:=fun e he hb n_=>by
     have h1:=ex e he hb
     have h0:=(qi hr).1
     rw [n_] at h1
     simp only [Array.getD_eq_getD_getElem?] at h0 h1
     rcases Nat.lt_or_ge i listed.size with h' | h'
     ·simp [h'] at h0 h1;rw [h0] at h1;cases h1
     ·simp [Array.getElem?_eq_none h'] at h1
    have hTj:T j=false:=by
     cases hT':T j with
     | false=>rfl
     | true =>
       obtain ⟨e,he,hb,n_⟩:=hT j oj s_ hT'
       exact absurd n_ (rz e he hb)
    have h2:=wpOp_putIf s_ (cr j oj s_ fB sV rz) (fun cs b=>rY i oi cs b hi) (fun cs b=>rY j oj cs b s_) hQ hy h1
    have mw:∀ k ok,ops[k]? = some ok->k≠i->(listed.setIfInBounds j true).getD k true=false ->
     (∀ e∈ok.after,Region.binds md e=true->e.on≠i)->oi.apart ops ok=true:=fun k ok hk oT it de=>by
     refine cr k ok hk oT ?_ de
     by_cases Bv:j=k
     ·subst Bv;exact sV
     ·simp only [Array.getD_eq_getD_getElem?] at it ⊢
      rw [Array.getElem?_setIfInBounds_ne Bv] at it;exact it
    refine wpOp_mono (fun a' w' h3=>⟨h3.2.1,ih (listed.setIfInBounds j true) a' w' mw (jp hr (Ne.symm fB)) h3.1 (h3.2.1 hTj) ?_⟩) h2
    rw [Array.setIfInBounds_comm _ _ fB]
    exact h3.2.2
def waitT (md:Region.Mode) (ops:Array Oper) (T:Nat->Bool) (i:Nat):Bool :=
 !T i && (List.range ops.size).all fun j=>!T j || ((ops[j]?).map fun o=>o.after.any fun e=>Region.binds md e && e.on == i).getD true
theorem waitT_spec {i:Nat} (h:waitT md ops T i=true):T i=false/\∀ j oj,ops[j]? = some oj->T j=true->∃ e∈oj.after,Region.binds md e=true/\e.on=i:=by
 unfold waitT at h
 rw [Bool.and_eq_true] at h
 refine ⟨by simpa using h.1,fun j oj hj hT=>?_⟩
 have h2:=h.2
 rw [List.all_eq_true] at h2
 have h3:=h2 j (List.mem_range.2 (Array.getElem?_eq_some_iff.1 hj).1)
 rw [hT,hj] at h3
 simp only [Bool.not_true,Bool.false_or,Option.map_some,Option.getD_some] at h3
 rw [Array.any_eq_true'] at h3
 obtain ⟨e,he,h4⟩:=h3
 rw [Bool.and_eq_true,beq_iff_eq] at h4
 exact ⟨e,he,h4⟩
theorem wpAnyS_take (i:Nat) {v:Value} {fuel:Nat} {listed:Array Bool} {a:Act} {w:World}
 (hs:Region.noSelect ops=true) (hf:Region.free md ops listed i=true) (hr:(Region.ready md ops listed).contains i=true) (ht:waitT md ops T i=true)
 (hQ:∀ d c a w,Q (.panic c) (a.put d v) w->Q (.panic c) a w) (hS:S w)
 (hy:∀ oi,ops[i]? = some oi->YieldsIf P ops S oi v a)
 (h:∀ d,(ops[i]?).bind (·.dst)=d->qD P md ops Q S T fuel (listed.setIfInBounds i true) (a.put d v) w):qD P md ops Q S T (fuel+1) listed a w:=by
 have hm:i∈Region.ready md ops listed:=by simpa using hr
 obtain ⟨_,oi,hi,_⟩:=qi hm
 obtain ⟨h1,h2⟩:=waitT_spec ht
 exact wpAnyS_first hi (Region.noSelect_spec hs) (fun c a w=>hQ _ c a w) h2 h1 fuel listed a w (Region.free_spec hi hf) hm (hy oi hi) hS (h _ (by rw [hi];rfl))
def tks (P:Program) (ops:Array Oper) (S:World->Prop):List Nat->List (Option Tmp)->Act->(Act->Prop)->Prop
 | i::l,d::ds,a,K=>∃ v,(∀ oi,ops[i]? = some oi->YieldsIf P ops S oi v a)/\tks P ops S l ds (a.put d v) K
 | [],_,a,K=>K a
 | _::_,[],_,_=>False
def tkOk (md:Region.Mode) (ops:Array Oper) (T:Nat->Bool):List Nat->Array Bool->Bool
 | [],_=>true
 | i::l,L=>Region.free md ops L i && ((Region.ready md ops L).contains i && (waitT md ops T i && tkOk md ops T l (L.setIfInBounds i true)))
def tkL:List Nat->Array Bool->Array Bool
 | [],L=>L
 | i::l,L=>tkL l (L.setIfInBounds i true)
def tkN:List Nat->Nat->Nat
 | [],n=>n
 | _::l,n=>tkN l n+1
def tkD (ops:Array Oper):List Nat->List (Option Tmp)
 | []=>[]
 | i::l=>(ops[i]?).bind (·.dst)::tkD ops l
theorem tk (is:List Nat) {fuel:Nat} {listed:Array Bool} {a:Act} {w:World} (hS:S w) (h:∀ ds,tkD ops is=ds->tks P ops S is ds a (fun a'=>qD P md ops Q S T fuel (tkL is listed) a' w))
 (cW:(Region.noSelect ops && tkOk md ops T is listed)=true:=by kernel_rfl) (hQ:∀ v d c a w,Q (.panic c) (a.put d v) w->Q (.panic c) a w:=by exact fun _ _ _ _ _ h=>h):qD P md ops Q S T (tkN is fuel) listed a w:=by
 have h':=h _ rfl
 clear h
 rw [Bool.and_eq_true] at cW
 obtain ⟨hs,cW⟩:=cW
 induction is generalizing listed a with
 | nil=>exact h'
 | cons i l ih =>
   rw [tkOk,Bool.and_eq_true,Bool.and_eq_true,Bool.and_eq_true] at cW
   rw [tkD,tks] at h'
   obtain ⟨v,hy,hk⟩:=h'
   exact wpAnyS_take i hs cW.1 cW.2.1 cW.2.2.1 (fun d c a w=>hQ v d c a w) hS hy (fun d hd=>by
    rw [hd] at hk
    exact ih hk cW.2.2.2)
theorem pQ (l:List Value) (df:List Deferred) (k:Nat) (v:Value):Act.put ⟨l.toArray,df⟩ (some k) v=⟨(l.set k v).toArray,df⟩:=by simp [Act.put]
theorem pN (a:Act) (v:Value):Act.put a none v=a:=rfl
theorem pZ (x y:Value) (l:List Value):(x::l).set 0 y=y::l:=rfl
theorem pS (x y:Value) (l:List Value) (n:Nat):(x::l).set (n+1) y=x::l.set n y:=rfl
theorem qV (i:Nat) {fuel:Nat} {listed:Array Bool} {a:Act} {w:World} (hr:Region.ready md ops listed=[i])
 (h:∀ o,ops[i]? = some o->∀ K':Act->World->Prop,Shut (∀ a w,(T i=false->S w)->qD P md ops Q S T fuel (listed.setIfInBounds i true) a w->K' a w) ->
  if Region.wanted o (yielded ops a.tmps)=true then Oper.wp P o a w K' Q else K' (a.put o.dst undef) w):qD P md ops Q S T (fuel+1) listed a w:=by
 refine ⟨fun h0=>by rw [hr] at h0;simp at h0,fun j hj=>?_⟩
 rw [hr] at hj
 simp only [List.mem_singleton] at hj
 subst hj
 obtain ⟨_,o,ho,_⟩:=qi (md:=md) (ops:=ops) (L:=listed) (j:=j) (by rw [hr];simp)
 exact wpOp_step ho (fun K' hK=>h o ho K' (fun a w hS hW=>hK a w ⟨hS,hW⟩))
theorem on (i:Nat) {fuel:Nat} {listed:Array Bool} {a:Act} {w:World}
 (h:∀ o,ops[i]? = some o->∀ K':Act->World->Prop,Shut (∀ a w,(T i=false->S w)->qD P md ops Q S T fuel (listed.setIfInBounds i true) a w->K' a w) ->
  if Region.wanted o (yielded ops a.tmps)=true then Oper.wp P o a w K' Q else K' (a.put o.dst undef) w) (hr:Region.ready md ops listed=[i]:=by kernel_rfl):qD P md ops Q S T (fuel+1) listed a w :=
 qV i hr h
theorem uA (i j:Nat) {fuel:Nat} {listed:Array Bool} {a:Act} {w:World} (hr:Region.ready md ops listed=[i,j])
 (h:∀ o,ops[i]? = some o->∀ K':Act->World->Prop,Shut (∀ a w,(T i=false->S w)->qD P md ops Q S T fuel (listed.setIfInBounds i true) a w->K' a w) ->
  if Region.wanted o (yielded ops a.tmps)=true then Oper.wp P o a w K' Q else K' (a.put o.dst undef) w)
 (h2:∀ o,ops[j]? = some o->∀ K':Act->World->Prop,Shut (∀ a w,(T j=false->S w)->qD P md ops Q S T fuel (listed.setIfInBounds j true) a w->K' a w) ->
  if Region.wanted o (yielded ops a.tmps)=true then Oper.wp P o a w K' Q else K' (a.put o.dst undef) w):qD P md ops Q S T (fuel+1) listed a w:=by
 refine ⟨fun h0=>by rw [hr] at h0;simp at h0,fun k hk=>?_⟩
 obtain ⟨_,o,ho,_⟩:=qi hk
 rw [hr] at hk
 simp only [List.mem_cons,List.not_mem_nil,or_false] at hk
 rcases hk with rfl | rfl
 ·exact wpOp_step ho (fun K' hK=>h o ho K' (fun a w hS hW=>hK a w ⟨hS,hW⟩))
 ·exact wpOp_step ho (fun K' hK=>h2 o ho K' (fun a w hS hW=>hK a w ⟨hS,hW⟩))
theorem kQ {listed:Array Bool} {a:Act} {w:World} (hr:Region.ready md ops listed=[]) (h:Q .normal a w) :
 ∀ fuel,qD P md ops Q S T fuel listed a w
 | 0=>⟨hr,h⟩
 | _+1=>⟨fun _=>h,by rw [hr];simp⟩
theorem kx {id:Nat} {a:Act} {w:World} (S:World->Prop) (T:Nat->Bool) (hm:P.follows .mixedOrders=true)
 (h:qD P .any ops Q S T ops.size (Array.replicate ops.size false) a w.drew):(Code.region id ops true).wp P Q a w :=
 wp_region_any hm (pI _ _ _ _ h)
end
theorem xM {m:Nat->Prop} {w6 w7:World} {o:Obj} {ob f:Nat} {u:Value} (hb:But m (w6.alloc o) w7) (hm:¬ m ob) (h:w6.cell? ⟨ob,f,none⟩=some u):w7.cell? ⟨ob,f,none⟩=some u:=by
 have bY:=hU w6 ⟨ob,f,none⟩ h
 rw [hb.cell (p:=⟨ob,f,none⟩) (by rw [zK];exact Nat.lt_succ_of_lt bY) hm]
 exact zJ h
theorem xF {m:Nat->Prop} {w6 w7:World} {o:Obj} {ob f:Nat} (hb:But m (w6.alloc o) w7) (hm:¬ m ob) (bY:ob<w6.heap.size) (h:w6.frozen? ⟨ob,f,none⟩=false):w7.frozen? ⟨ob,f,none⟩=false:=by
 rw [World.frozen?_of_block (w:=w6) (by rw [hb.block _ (by rw [zK];omega) hm,Below.heap_alloc _ _ _ bY])]
 exact h
theorem own_thru {wr w5 w6:World} {e:TypeId} {sz n:Nat} {v:Value} {xs:List Value} {rd:Nat} (h:Own wr e sz v n xs) (hg:∀ g,v.ownBlock=some g->g≠rd) (bC:But (· = rd) wr w5) (bP:But (· = rd) w5 w6):Own w6 e sz v n xs :=
 h.keep fun g o hgo ho=>by
  have bY:=zZ ho
  rw [bP.block g (hM bY bC.size) (hg g hgo),bC.block g bY (hg g hgo)];exact ho
theorem jH {rd:Nat} {w w':World} (hb:But (· = rd) w w') {b o:Nat} {u:Value} (hne:b≠rd) (h:w.cell? ⟨b,o,none⟩=some u):w'.cell? ⟨b,o,none⟩=some u :=
 (hb.cell (p:=⟨b,o,none⟩) (hU w ⟨b,o,none⟩ h) hne).trans h
theorem uD {rd:Nat} {w w':World} (hb:But (· = rd) w w') {b o:Nat} (hne:b≠rd) (bY:b<w.heap.size) (h:w.frozen? ⟨b,o,none⟩=false):w'.frozen? ⟨b,o,none⟩=false:=by
 rw [World.frozen?_of_block (w:=w) (hb.block b bY hne)];exact h
theorem zS.thru {w w':World} {size g n c m:Nat} {news:List Value} {q:Nat->Prop} (h:zS size (.slice (some ⟨g,0,none⟩) n c) m news w) (hb:But q w w') (hq:¬ q g):zS size (.slice (some ⟨g,0,none⟩) n c) m news w':=by
 obtain ⟨h1,h2,⟨a,c',e,h3⟩ | ⟨e,_⟩⟩:=h
 ·simp only [Value.slice.injEq,Option.some.injEq] at e
  obtain ⟨rfl,rfl,rfl⟩:=e
  refine ⟨h1,h2,.inl ⟨_,_,rfl,fun j u hu=>?_⟩⟩
  have h4:=h3 j u hu
  have bD:(Addr.add ⟨g,0,none⟩ j).block=g:=by unfold Addr.add;split <;> rfl
  exact (hb.cell (hU w _ h4) (by rw [bD];exact hq)).trans h4
 ·simp at e
theorem vx (w:World) (o o':Obj):((w.alloc o).alloc o').heap.size=w.heap.size+1+1:=by rw [zK,zK]
def ge (size:Nat) (v:Value) (n:Nat) (xs:List Value) (w:World):Prop :=
 xs.length=n*size/\((∃ b,v=.slice (some b) n n/\∀ (j:Nat) u,xs[j]? = some u->w.cell? (b.add j)=some u)\/(v=.slice none 0 0/\n=0))
theorem ge.ofRep {F:Nat->Prop} {w:World} {e:TypeId} {sz n:Nat} {cs:List DV} {a:Option Addr} {c:Nat} (h:Rep F w (.sl e sz n cs) (.slice a n c)) (dh:∀ us,zH F w cs us->∀ u∈us,u.oneCell'=true) :
 ∃ xs,zH F w cs xs/\ge sz (.slice a n n) n xs w:=by
 obtain ⟨xs,h1,h2,_,h4⟩:=zS.ofRep h dh
 refine ⟨xs,h1,h2,?_⟩
 rcases h4 with ⟨b,c',e1,h5⟩ | ⟨e1,rfl⟩
 ·injection e1 with e2 e3 e4
  subst e2
  exact .inl ⟨b,rfl,h5⟩
 ·injection e1 with e2 e3 e4
  subst e2
  exact .inr ⟨rfl,rfl⟩
theorem ge.drew {w:World} {size n:Nat} {v:Value} {xs:List Value} (h:ge size v n xs w):ge size v n xs w.drew:=h
theorem cut_code {P:Program} {c:Code} {Q:Exit->Act->World->Prop} {a:Act} {w:World} {X:Type} (f:Act->X->Act) (F:X->World->Prop)
 (h1:c.wp P (fun e a' w'=>e=.normal/\∃ x,a'=f a x/\F x w') a w) (h2:∀ x w',F x w'->Q .normal (f a x) w'):c.wp P Q a w :=
 Code.wp_mono (fun e a' w' ⟨he,x,hx,hF⟩=>by subst he;subst hx;exact h2 x w' hF) h1
structure BoxRes (F0:Nat->Prop) (W:World) (g:Nat) (o:Obj) (d:List DV) (v:List Value) (Z:World):Prop where
 below:Below W.heap.size W Z
 new:W.heap.size<=g
 blk:Z.heap[g]? = some o
 rep:zH (fun i=>(F0 i\/W.heap.size<=i)/\i≠g) Z d v
theorem BoxRes.first {F0:Nat->Prop} {W V0 V1 Z:World} {o:Obj} {d:List DV} {v:List Value} (hF0:∀ i,F0 i->i<W.heap.size) (h0:Below W.heap.size W V0) (hz0:V0.heap.size=W.heap.size+1) (hb:Below V0.heap.size V0 V1) (hr:zH (fun i=>F0 i\/V0.heap.size<=i) V1 d v)
 (tY:But (fun i=>i=W.heap.size) V1 Z) (bD:Z.heap[W.heap.size]? = some o):BoxRes F0 W W.heap.size o d v Z:=by
 have hz:=hb.size
 have bQ:Below W.heap.size W V1:=h0.trans (hb.mono (by omega))
 refine ⟨bQ.trans (tY.toBelow (by omega) fun i hi e=>by omega),g_ _,bD,?_⟩
 refine (Rep.keep fun i x hi hx=>?_).2 _ _ hr
 have hne:i≠W.heap.size:=by rcases hi with h | h;have:=hF0 i h;omega;omega
 exact ⟨⟨hi.elim .inl (fun h=>.inr (by omega)),hne⟩,by rw [tY.block i (zZ hx) hne];exact hx⟩
theorem BoxRes.last {F0:Nat->Prop} {W V1 Z:World} {z o:Obj} {d:List DV} {v:List Value} (hb:Below W.heap.size W V1) (hr:zH (fun i=>F0 i\/W.heap.size<=i) V1 d v)
 (tY:But (fun i=>i=V1.heap.size) (V1.alloc z) Z) (bD:Z.heap[V1.heap.size]? = some o):BoxRes F0 W V1.heap.size o d v Z:=by
 have hz:=hb.size
 refine ⟨(hb.alloc hz z).trans (tY.toBelow (by rw [zK];omega) fun i hi e=>by omega),hz,bD,?_⟩
 refine (Rep.keep fun i x hi hx=>?_).2 _ _ hr
 have hl:=zZ hx
 have hne:i≠V1.heap.size:=by omega
 exact ⟨⟨hi,hne⟩,by rw [tY.block i (by rw [zK];omega) hne,Below.heap_alloc _ _ _ hl];exact hx⟩

def jO (d:Nat):Nat->Bs->Option (List Tm×Bs)
 | 0,l=>some ([],l)
 | n+1,l=>(cut [32] l).bind fun l1=>(vO d l1).bind fun t=>(jO d n t.2).map fun y=>(t.1::y.1,y.2)
theorem rdParTm_succ (d n:Nat) (l:Bs):jO d (n+1) l=(cut [32] l).bind fun l1=>(vO d l1).bind fun t=>(jO d n t.2).map fun y=>(t.1::y.1,y.2):=rfl
theorem rdParTm_step {d n:Nat} {l0 l l1 r:Bs} {m:Nat} {ts:List Tm} {t:Tm} (h:jO d m l0=(jO d (n+1) l).map fun y=>(ts++y.1,y.2)) (h1:cut [32] l=some l1) (h2:vO d l1=some (t,r)) :
 jO d m l0=(jO d n r).map fun y=>((ts++[t])++y.1,y.2):=by
 rw [h,rdParTm_succ,h1]
 simp only [Option.bind_some]
 rw [h2]
 simp only [Option.bind_some,Option.map_map]
 congr 1
 funext y
 simp
theorem rdTm_le:∀ {d:Nat} {l:Bs} {t:Tm} {r:Bs},vO d l=some (t,r)->r.length<l.length:=by
 intro d l t r h
 obtain ⟨e,ho,_⟩:=rdTm_canon d l t r h
 rw [e,List.length_append]
 have:0<(qP t).length:=by
  cases t with
  | nm x =>
    have:qP (.nm x)=x:=by unfold qP;rw [yd,qF]
    rw [this]
    have:=(name_sep ho).1
    exact List.length_pos_iff.2 this
  | wd x =>
    have:qP (.wd x)=x:=by unfold qP;rw [yd,qF]
    rw [this]
    have:=(leaf_sep ho).1
    exact List.length_pos_iff.2 this
  | lam x k t=>rw [pw];simp
  | app m n=>rw [ph];simp
  | ite l m n=>rw [pg];simp
 omega
def yN:Tm->DV
 | .nm x=>.ptr 238 [.val (str []),.val (str x),.val (.pointer none),.sl 183 1 0 []]
 | .wd w=>.ptr 238 [.val (str w),.val (str []),.val (.pointer none),.sl 183 1 0 []]
 | .lam x k t=>.ptr 238 [.val (str lamW),.val (str x),qj k,.sl 183 1 1 [yN t]]
 | .app m n=>.ptr 238 [.val (str appW),.val (str []),.val (.pointer none),.sl 183 1 2 [yN m,yN n]]
 | .ite l m n=>.ptr 238 [.val (str ifW),.val (str []),.val (.pointer none),.sl 183 1 3 [yN l,yN m,yN n]]
def TPost (sc:Nat) (c:List Value) (e:TypeId) (w:World) (o:Option (Tm×Bs)) (en:Ending) (w':World):Prop :=
 ∃ v r',en=.returned v/\But (· = sc) w w'/\kS sc c e r' w'/\(o=none->v=.pointer none)/\(∀ t rest,o=some (t,rest)->r'=rest/\Rep (w.heap.size<=·) w' (yN t) v)
theorem TPost.no {sc:Nat} {c:List Value} {e:TypeId} {w:World} {r:Bs} {w':World} {o:Option (Tm×Bs)} (ho:o=none) (hb:But (· = sc) w w') (hs:kS sc c e r w'):TPost sc c e w o (.returned (.pointer none)) w' :=
 ⟨_,r,rfl,hb,hs,fun _=>rfl,fun _ _ h=>by rw [ho] at h;simp at h⟩
theorem TPost.yes {sc:Nat} {c:List Value} {e:TypeId} {w:World} {r:Bs} {w':World} {o:Option (Tm×Bs)} {t:Tm} {v:Value} (ho:o=some (t,r)) (hb:But (· = sc) w w') (hs:kS sc c e r w')
 (hv:Rep (w.heap.size<=·) w' (yN t) v):TPost sc c e w o (.returned v) w' :=
 ⟨_,r,rfl,hb,hs,fun h=>by rw [ho] at h;simp at h,fun _ _ h=>by rw [ho] at h;simp at h;obtain ⟨rfl,rfl⟩:=h;exact ⟨rfl,hv⟩⟩
theorem zh {H:Type} {P:Program} (w:World) {ops:Array Oper} {rest:List Oper} {o:Oper} {a:Act} {Q:Exit->Act->World->Prop}
 (hg:o.guard=none) (m x v:Operand) (t:TypeId) (hop:o.op=Op.insert t m x v)
 (k e:TypeId) (K:Maps.Keyed P k) (ht:P.underlying t=some (.map k e)) (R:Value->Option (DataW H×List MemPlace)) (b n:Nat) (D:DataW H)
 (hm:a.eval m=.map (some b)) (bA:w.ownsMap P k R b n D) (hn:n<maxLen) (key val:Value) (kl:Lit) (hx:a.eval x=key) (hv:a.eval v=val) (lD:keyOf P k key=some kl)
 (d:DataW H) (ps:List MemPlace) (tN:R val=some (d,ps))
 (hK:∀ w',w'.ownsMap P k R b (n+1) (D.put kl d)->w.grownBy w' (some b)->wpList P ops Q rest (a.put o.dst undef) w') :
 wpList P ops Q (o::rest) a w:=by
 refine wpList_plain hg fun K' hK'=>?_
 obtain ⟨w',i7,r1,r2⟩:=bA.update K ht hn lD tN
 unfold Oper.wp
 simp [execOp,hop,hm,hx,hv,i7,Result.andThen]
 exact hK' _ _ (hK w' r1 r2)
theorem Tryz.lawS:Maps.Keyed Tryz.prog 9:=Maps.string_keyed Tryz.underlying9
theorem pC {s:Bs} (h:Lim s.length):keyOf Tryz.prog 9 (str s)=some (.string s):=by
 have:=WideMaps.keyOf_string_mk (P:=Tryz.prog) Tryz.underlying9 (s:=⟨s.toArray⟩) (by rw [jI];have:=h.le;unfold maxLen;omega)
 simpa using this
def uN (ob:Nat) (wd nm:Bs) (kv slv:Value) (w:World):Prop:=w.heap[ob]? = some (.cells #[str wd,str nm,kv,slv] 238 (0,0))
theorem uN.cells {ob:Nat} {wd nm:Bs} {kv slv:Value} {w:World} (h:uN ob wd nm kv slv w):w.cell? ⟨ob,0,none⟩=some (str wd)/\w.cell? ⟨ob,1,none⟩=some (str nm)/\w.cell? ⟨ob,2,none⟩=some kv/\w.cell? ⟨ob,3,none⟩=some slv/\ob<w.heap.size/\(∀ o,w.frozen? ⟨ob,o,none⟩=false):=by
 have hl:=zZ h
 unfold uN at h
 exact ⟨by simp [World.cell?,h],by simp [World.cell?,h],by simp [World.cell?,h],by simp [World.cell?,h],hl,fun o=>by simp [World.frozen?,h]⟩
theorem uN.put1 {ob:Nat} {wd nm u:Bs} {kv slv:Value} {w:World} (h:uN ob wd nm kv slv w):uN ob wd u kv slv (w.setCell ⟨ob,1,none⟩ (str u)):=by
 unfold uN;rw [zI h];rfl
theorem uN.put2 {ob:Nat} {wd nm:Bs} {kv slv u:Value} {w:World} (h:uN ob wd nm kv slv w):uN ob wd nm u slv (w.setCell ⟨ob,2,none⟩ u):=by
 unfold uN;rw [zI h];rfl
theorem uN.put3 {ob:Nat} {wd nm:Bs} {kv slv u:Value} {w:World} (h:uN ob wd nm kv slv w):uN ob wd nm kv u (w.setCell ⟨ob,3,none⟩ u):=by
 unfold uN;rw [zI h];rfl
def TermRel (sc:Nat) (c:List Value) (e:TypeId) (ob d m:Nat) (wd nm:Bs) (kv:Value) (r0:Bs) (wz:World) (k:Nat) (wr:World):Prop :=
 ∃ ts lk slv vs,ts.length=k/\(jO d m r0=(jO d (m-k) lk).map fun y=>(ts++y.1,y.2))/\lk.length<=r0.length/\But (fun i=>i=sc\/i=ob) wz wr/\kS sc c e lk wr/\uN ob wd nm kv slv wr /\
   Own wr 183 1 slv k vs/\(∀ g,slv.ownBlock=some g->wz.heap.size<=g)/\zH (fun b=>wz.heap.size<=b/\slv.ownBlock≠some b) wr (ts.map yN) vs
theorem TermRel.next {sc:Nat} {c:List Value} {e:TypeId} {ob d m:Nat} {wd nm:Bs} {kv:Value} {r0:Bs} {wz:World} {k:Nat} {wr w2 w3:World} {ts:List Tm} {lk:Bs} {slv:Value} {vs:List Value} {t:Tm} {l1 rest:Bs} {vt:Value} {o:Obj} {a':Option Addr} {c':Nat}
 (bY:k<m) (d7:ts.length=k) (hp:jO d m r0=(jO d (m-k) lk).map fun y=>(ts++y.1,y.2)) (cI:lk.length<=r0.length) (hb:But (fun i=>i=sc\/i=ob) wz wr) (lV:uN ob wd nm kv slv wr)
 (bA:Own wr 183 1 slv k vs) (hZ:∀ g,slv.ownBlock=some g->wz.heap.size<=g) (hr:zH (fun b=>wz.heap.size<=b/\slv.ownBlock≠some b) wr (ts.map yN) vs)
 (hc:cut [32] lk=some l1) (ht:vO d l1=some (t,rest)) (bZ:But (· = sc) wr w2) (dO:kS sc c e rest w2) (hv:Rep (wr.heap.size<=·) w2 (yN t) vt)
 (dq:Own w3 183 1 (.slice a' (k+1) c') (k+1) (vs++[vt])) (bU:But (fun b=>slv.ownBlock=some b) (w2.alloc o) w3) (hg:∀ g,(Value.slice a' (k+1) c').ownBlock=some g->slv.ownBlock=some g\/g=(w2.alloc o).heap.size)
 (rX:sc<ob) (tz:ob<wz.heap.size):TermRel sc c e ob d m wd nm kv r0 wz (k+1) (w3.setCell ⟨ob,3,none⟩ (.slice a' (k+1) c')):=by
 have z0:=hb.size;have z2:=bZ.size;have z3:=bU.size
 rw [zK] at hg z3
 have keep:∀ i x,w2.heap[i]? = some x->slv.ownBlock≠some i->i≠ob->(w3.setCell ⟨ob,3,none⟩ (.slice a' (k+1) c')).heap[i]? = some x:=by
  intro i x hi hne ho
  rw [hH _ _ _ _ (by simpa using ho),bU.block i (by rw [zK];have:=zZ hi;omega) hne]
  exact zV hi
 have cz:∀ g,slv.ownBlock=some g->g<wr.heap.size:=fun g h=>bA.lt h
 have A9:uN ob wd nm kv slv w2:=(bZ.block ob (zZ lV) (by omega)).trans lV
 have hnt3:uN ob wd nm kv slv w3:=by
  unfold uN;rw [bU.block ob (by rw [zK];have:=zZ A9;omega) (fun e=>by have:=hZ ob e;omega)]
  exact zV A9
 refine ⟨ts++[t],rest,_,vs++[vt],by simp [d7],?_,?_,?_,?_,hnt3.put3,?_,?_,?_⟩
 ·rw [show m-k=(m-(k+1))+1 from by omega] at hp
  exact rdParTm_step hp hc ht
 ·have k1:=congrArg List.length (qI hc)
  have k2:=rdTm_le ht
  simp only [List.length_append,List.length_cons,List.length_nil] at k1
  omega
 ·refine ((hb.trans (bZ.weak fun i _ e=>.inl e)).trans' ((But.refl (fun b=>slv.ownBlock=some b) w2).alloc o |>.trans bU) fun i hi e=>?_).setCell (p:=⟨ob,3,none⟩) (.inl (.inr rfl)) _
  have:=hZ i e;omega
 ·exact keep sc _ dO (fun e=>by have:=hZ sc e;omega) (by omega)
 ·refine dq.keep fun g x dH eM=>?_
  rw [hH _ _ _ _ (by
   rcases hg g dH with h | h
   ·have:=hZ g h;simp;omega
   ·simp;omega)]
  exact eM
 ·intro g h
  rcases hg g h with h | h
  ·exact hZ g h
  ·omega
 ·rw [List.map_append]
  refine zH.append ?_ (zH.one ?_)
  ·refine (Rep.keep fun i x hi eM=>⟨⟨hi.1,fun e=>?_⟩,?_⟩).2 _ _ hr
   ·have hi1:=hi.1
    exact keep i x (by rw [bZ.block i (zZ eM) (by omega)];exact eM) hi.2 (by omega)
   ·rcases hg i e with h | h
    ·exact hi.2 h
    ·have:=zZ eM;omega
  ·refine (Rep.keep fun i x hi eM=>⟨⟨by have:=hi;omega,fun e=>?_⟩,?_⟩).1 _ _ hv
   ·exact keep i x eM (fun e=>by have:=cz i e;have:=hi;omega) (by have:=hi;omega)
   ·rcases hg i e with h | h
    ·have:=cz i h;have:=hi;omega
    ·have:=zZ eM;omega

section
variable {P:Program} {ops:Array Oper} {Q:Exit->Act->World->Prop} {md:Region.Mode} {S:World->Prop} {T:Nat->Bool}
theorem wpAnyS_firstN {i:Nat} {oi:Oper} {v:Value} {D:List Nat} (hi:ops[i]? = some oi) (rY:∀ (j:Nat) (o:Oper) cs b,ops[j]? = some o->o.op≠.select cs b)
 (hQ:∀ c a w,Q (.panic c) (a.put oi.dst v) w->Q (.panic c) a w)
 (hT:∀ j oj,ops[j]? = some oj->T j=true->j∈D) (hD:∀ j∈D,∀ oj,ops[j]? = some oj->∃ e∈oj.after,Region.binds md e=true/\(e.on=i\/e.on∈D)) (hTi:T i=false) :
 ∀ (fuel:Nat) (listed:Array Bool) (a:Act) (w:World),(∀ j∈D,listed.getD j false=false) ->
   (∀ j oj,ops[j]? = some oj->j≠i->listed.getD j true=false->(∀ e∈oj.after,Region.binds md e=true->e.on≠i)->oi.apart ops oj=true) ->
   i∈Region.ready md ops listed->YieldsIf P ops S oi v a->S w ->
   qD P md ops Q S T fuel (listed.setIfInBounds i true) (a.put oi.dst v) w->qD P md ops Q S T (fuel+1) listed a w:=by
 intro fuel
 induction fuel with
 | zero =>
   intro listed a w _ _ hr hy hS H
   refine ⟨fun h=>(by rw [h] at hr;cases hr),fun j hj=>?_⟩
   by_cases fB:j=i
   ·subst fB;exact hy.wpOp hi hS ⟨fun _=>hS,H⟩
   ·have:=jp hj fB
    rw [H.1] at this
    cases this
 | succ fuel ih =>
   intro listed a w hDl cr hr hy hS H
   refine ⟨fun h=>(by rw [h] at hr;cases hr),fun j hj=>?_⟩
   by_cases fB:j=i
   ·subst fB;exact hy.wpOp hi hS ⟨fun _=>hS,H⟩
   ·have h1:=H.2 j (jp hj fB)
    obtain ⟨sV,oj,s_,ex⟩:=qi hj
    have rz:∀ e∈oj.after,Region.binds md e=true->e.on≠i:=fun e he hb n_=>by
     have h1:=ex e he hb
     have h0:=(qi hr).1
     rw [n_] at h1
     simp only [Array.getD_eq_getD_getElem?] at h0 h1
     rcases Nat.lt_or_ge i listed.size with h' | h'
     ·simp [h'] at h0 h1;rw [h0] at h1;cases h1
     ·simp [Array.getElem?_eq_none h'] at h1
    have hDj:j ∉ D:=fun hd=>by
     obtain ⟨e,he,hb,n_⟩:=hD j hd oj s_
     rcases n_ with n_ | n_
     ·exact rz e he hb n_
     ·have h1:=ex e he hb
      rw [hDl _ n_] at h1;cases h1
    have hTj:T j=false:=by
     cases hT':T j with
     | false=>rfl
     | true=>exact absurd (hT j oj s_ hT') hDj
    have h2:=wpOp_putIf s_ (cr j oj s_ fB sV rz) (fun cs b=>rY i oi cs b hi) (fun cs b=>rY j oj cs b s_) hQ hy h1
    have hDl':∀ k∈D,(listed.setIfInBounds j true).getD k false=false:=fun k hk=>by
     have tm:j≠k:=fun e=>hDj (e ▸ hk)
     have:=hDl k hk
     simp only [Array.getD_eq_getD_getElem?] at this ⊢
     rw [Array.getElem?_setIfInBounds_ne tm];exact this
    have mw:∀ k ok,ops[k]? = some ok->k≠i->(listed.setIfInBounds j true).getD k true=false ->
     (∀ e∈ok.after,Region.binds md e=true->e.on≠i)->oi.apart ops ok=true:=fun k ok hk oT it de=>by
     refine cr k ok hk oT ?_ de
     by_cases Bv:j=k
     ·subst Bv;exact sV
     ·simp only [Array.getD_eq_getD_getElem?] at it ⊢
      rw [Array.getElem?_setIfInBounds_ne Bv] at it;exact it
    refine wpOp_mono (fun a' w' h3=>⟨h3.2.1,ih (listed.setIfInBounds j true) a' w' hDl' mw (jp hr (Ne.symm fB)) h3.1 (h3.2.1 hTj) ?_⟩) h2
    rw [Array.setIfInBounds_comm _ _ fB]
    exact h3.2.2
def waitD (md:Region.Mode) (ops:Array Oper) (T:Nat->Bool) (D:List Nat) (listed:Array Bool) (i:Nat):Bool :=
 !T i && ((List.range ops.size).all (fun j=>!T j || D.contains j) && D.all fun j=>!listed.getD j false && ((ops[j]?).map fun o=>o.after.any fun e=>Region.binds md e && (e.on == i || D.contains e.on)).getD true)
theorem kP (i:Nat) (D:List Nat) {v:Value} {fuel:Nat} {listed:Array Bool} {a:Act} {w:World}
 (hs:Region.noSelect ops=true) (hf:Region.free md ops listed i=true) (hr:(Region.ready md ops listed).contains i=true) (ht:waitD md ops T D listed i=true)
 (hQ:∀ d c a w,Q (.panic c) (a.put d v) w->Q (.panic c) a w) (hS:S w)
 (hy:∀ oi,ops[i]? = some oi->YieldsIf P ops S oi v a)
 (h:∀ d,(ops[i]?).bind (·.dst)=d->qD P md ops Q S T fuel (listed.setIfInBounds i true) (a.put d v) w):qD P md ops Q S T (fuel+1) listed a w:=by
 have hm:i∈Region.ready md ops listed:=by simpa using hr
 obtain ⟨_,oi,hi,_⟩:=qi hm
 unfold waitD at ht
 rw [Bool.and_eq_true,Bool.and_eq_true] at ht
 obtain ⟨h1,h2,h3⟩:=ht
 rw [List.all_eq_true] at h2 h3
 refine wpAnyS_firstN (D:=D) hi (Region.noSelect_spec hs) (fun c a w=>hQ _ c a w) (fun j oj hj hT=>?_) (fun j hj oj ho=>?_) (by simpa using h1) fuel listed a w (fun j hj=>?_) (Region.free_spec hi hf) hm (hy oi hi) hS (h _ (by rw [hi];rfl))
 ·have:=h2 j (List.mem_range.2 (Array.getElem?_eq_some_iff.1 hj).1)
  rw [hT] at this;simpa using this
 ·have:=h3 j hj
  rw [Bool.and_eq_true,ho] at this
  have:=this.2
  simp only [Option.map_some,Option.getD_some] at this
  rw [Array.any_eq_true'] at this
  obtain ⟨e,he,h4⟩:=this
  rw [Bool.and_eq_true,Bool.or_eq_true,beq_iff_eq,List.contains_iff_mem] at h4
  exact ⟨e,he,h4⟩
 ·have:=h3 j hj
  rw [Bool.and_eq_true] at this
  simpa using this.1
end
def kT (w:World) (g:Nat) (k t:Bs):Prop:=w.heap[g]? = some (.cells #[str k,str t] 63 (0,0))
theorem kT.cells {w:World} {g:Nat} {k t:Bs} (h:kT w g k t):w.cell? ⟨g,0,none⟩=some (str k)/\w.cell? ⟨g,1,none⟩=some (str t)/\w.frozen? ⟨g,0,none⟩=false/\w.frozen? ⟨g,1,none⟩=false/\g<w.heap.size :=
 ⟨by simp [World.cell?,show w.heap[g]? = _ from h],by simp [World.cell?,show w.heap[g]? = _ from h],by simp [World.frozen?,show w.heap[g]? = _ from h],by simp [World.frozen?,show w.heap[g]? = _ from h],zZ h⟩
theorem kT.below {w w':World} {g:Nat} {k t:Bs} (h:kT w g k t) (hb:Below w.heap.size w w'):kT w' g k t:=(hb.block g (zZ h)).trans h
theorem kT.set {w:World} {g:Nat} {k t:Bs} (h:kT w g k t) (k' t':Bs):kT ((w.setCell ⟨g,0,none⟩ (str k')).setCell ⟨g,1,none⟩ (str t')) g k' t':=by
 unfold kT
 rw [zI (zI h)];rfl
def xi (g:Nat) (ans:Bs) (k t:Bs) (w:World) (en:Ending) (w':World):Prop:=en=.returned (.tuple #[str ans,.bool true])/\But (· = g) w w'/\kT w' g k t
theorem yS (g:Nat) (k t k' t':Bs) (w:World) (h:kT w g k t) :
 Calls Tryz.prog 98 #[.pointer (some ⟨g,0,none⟩),str k',str t',.bool true] w (xi g [111,107] k' t' w):=by
 obtain ⟨c0,c1,f0,f1,hl⟩:=h.cells
 have H:=gl h
 clear h
 go_enter Tryz.func98,Tryz.ntmps98
 go_wp2_with fail
 go_ret2
 exact ⟨rfl,((But.refl (· = g) w).setCell (p:=⟨g,0,none⟩) (.inl rfl) _).setCell (p:=⟨g,1,none⟩) (.inl rfl) _,H.out.set k' t'⟩
theorem xT (s:Bs) (hs:Lim s.length) (w:World) (hv:(zW s).2=true):Calls Tryz.prog 99 #[str s] w fun en w'=>en=.returned (.bool true)/\Below w.heap.size w w':=by
 have C:=gl (vX s w hs)
 have hq:qn s=some (zW s).1:=by rw [wj,hv];rfl
 clear hs hv
 go_enter Tryz.func99,Tryz.ntmps99
 go_wp2_with fail
 (with_reducible refine C.out.mono ?_)
 rintro en w1 ⟨kv,rfl,bQ,b8,cQ⟩
 have rk:=cQ _ hq
 obtain ⟨ka,ks,rfl,_⟩:=z8 rk
 have HB:=gl bQ
 clear hq b8 cQ rk C bQ
 go_wp2_with fail
 go_ret
 exact ⟨rfl,HB.out⟩
theorem take_deed (g:Nat) (k t s:Bs) (w:World) (h:kT w g k t) (hs:Lim s.length) (hv:(zW s).2=true) :
 Calls Tryz.prog 74 #[.pointer (some ⟨g,0,none⟩),str s] w (xi g [111,107] s [117] w):=by
 have C:=gl (xT s hs w hv)
 have H:=gl h
 clear h
 go_enter Tryz.func74,Tryz.ntmps74
 go_wp2_with fail
 (with_reducible refine C.out.mono ?_)
 rintro en w1 ⟨rfl,bQ⟩
 have C2:=gl (yS g k t s [117] w1 (H.out.below bQ))
 have HB:=gl bQ
 clear bQ
 go_wp2_with fail
 (with_reducible refine C2.out.mono ?_)
 rintro en w2 ⟨rfl,bZ,h2⟩
 have H2:=gl (go ((But.ofBelow HB.out).trans bZ) h2)
 clear bZ h2
 go_wp2_with fail
 go_ret2
 exact ⟨rfl,H2.out.1,H2.out.2⟩
theorem set_deed (g:Nat) (k t x:Bs) (w:World) (h:kT w g k t) (hg:jE w) (hk:Lim k.length) (hx:Lim x.length) (hv:(zC k x).isSome=true) :
 Calls Tryz.prog 75 #[.pointer (some ⟨g,0,none⟩),str x] w (xi g [111,107] k x w):=by
 have C:=gl (fun (y:World) (hy:Below w.heap.size w y)=>implValid_any k x hk hx y (hg.below hy))
 rw [hv] at C
 obtain ⟨c0,c1,f0,f1,hl⟩:=h.cells
 have KEY:=gl (fun (y:World) (hy:Below w.heap.size w y)=>(show y.cell? ⟨g,0,none⟩=some (str k) from (h.below hy).cells.1))
 have H:=gl h
 clear h
 go_enter Tryz.func75,Tryz.ntmps75
 go_upto_region 1 with (fail)
 refine wp_region_noPanic ?_
 refine kx (fun w'=>Below w.heap.size w w'\/(But (· = g) w w'/\kT w' g k x)) (fun _=>false) (by kernel_rfl) ?_
 have bL:(fun w'=>Below w.heap.size w w'\/(But (· = g) w w'/\kT w' g k x)) w.drew:=Or.inl (Below.drew (hG _ _))
 refine kP 0 [12,13,14,15,16] (v:=?_) (by kernel_rfl) (by kernel_rfl) (by kernel_rfl) (by kernel_rfl) (fun _ _ _ _ h=>h) bL ?_ ?_
 rotate_left
 ·(intro oi ho;simp at ho;subst ho;refine Or.inl ⟨by rfl,fun w' cL=>?_⟩;go_simp;try with_reducible rfl)
 (intro d hd;simp at hd;subst hd;simp only [Act.put,List.setIfInBounds_toArray,List.set_cons_zero,List.set_cons_succ])
 refine kP 1 [2,3,4,12,13,14,15,16] (v:=?_) (by kernel_rfl) (by kernel_rfl) (by kernel_rfl) (by kernel_rfl) (fun _ _ _ _ h=>h) bL ?_ ?_
 rotate_left
 ·(intro oi ho;simp at ho;subst ho;refine Or.inl ⟨by rfl,fun w' cL=>?_⟩;go_simp;try with_reducible rfl)
 (intro d hd;simp at hd;subst hd;simp only [Act.put,List.setIfInBounds_toArray,List.set_cons_zero,List.set_cons_succ])
 refine kP 2 [3,4,12,13,14,15,16] (v:=?_) (by kernel_rfl) (by kernel_rfl) (by kernel_rfl) (by kernel_rfl) (fun _ _ _ _ h=>h) bL ?_ ?_
 rotate_left
 ·(intro oi ho;simp at ho;subst ho;refine Or.inl ⟨by rfl,fun w' cL=>?_⟩;go_simp;try with_reducible rfl)
 (intro d hd;simp at hd;subst hd;simp only [Act.put,List.setIfInBounds_toArray,List.set_cons_zero,List.set_cons_succ])
 refine kP 3 [4,12,13,14,15,16] (v:=?_) (by kernel_rfl) (by kernel_rfl) (by kernel_rfl) (by kernel_rfl) (fun _ _ _ _ h=>h) bL ?_ ?_
 rotate_left
 ·(intro oi ho;simp at ho;subst ho;refine Or.inl ⟨by rfl,fun w' cL=>?_⟩;go_simp;try with_reducible rfl)
 (intro d hd;simp at hd;subst hd;simp only [Act.put,List.setIfInBounds_toArray,List.set_cons_zero,List.set_cons_succ])
 refine kP 4 [12,13,14,15,16] (v:=?_) (by kernel_rfl) (by kernel_rfl) (by kernel_rfl) (by kernel_rfl) (fun _ _ _ _ h=>h) bL ?_ ?_
 rotate_left
 ·(intro oi ho;simp at ho;subst ho;refine Or.inl ⟨by rfl,fun w' cL=>?_⟩;have e0:w'.cell? ⟨g,0,none⟩=some (str k):=cL.elim (KEY.out w') (fun h=>h.2.cells.1);go_simp;try with_reducible rfl)
 (intro d hd;simp at hd;subst hd;simp only [Act.put,List.setIfInBounds_toArray,List.set_cons_zero,List.set_cons_succ])
 refine kP 5 [12,13,14,15,16] (v:=?_) (by kernel_rfl) (by kernel_rfl) (by kernel_rfl) (by kernel_rfl) (fun _ _ _ _ h=>h) bL ?_ ?_
 rotate_left
 ·(intro oi ho;simp at ho;subst ho;refine Or.inl ⟨by rfl,fun w' cL=>?_⟩;go_simp;try with_reducible rfl)
 (intro d hd;simp at hd;subst hd;simp only [Act.put,List.setIfInBounds_toArray,List.set_cons_zero,List.set_cons_succ])
 refine kP 6 [7,8,9,11,12,13,14,15,16] (v:=?_) (by kernel_rfl) (by kernel_rfl) (by kernel_rfl) (by kernel_rfl) (fun _ _ _ _ h=>h) bL ?_ ?_
 rotate_left
 ·(intro oi ho;simp at ho;subst ho;refine Or.inl ⟨by rfl,fun w' cL=>?_⟩;go_simp;try with_reducible rfl)
 (intro d hd;simp at hd;subst hd;simp only [Act.put,List.setIfInBounds_toArray,List.set_cons_zero,List.set_cons_succ])
 refine kP 7 [8,9,11,12,13,14,15,16] (v:=?_) (by kernel_rfl) (by kernel_rfl) (by kernel_rfl) (by kernel_rfl) (fun _ _ _ _ h=>h) bL ?_ ?_
 rotate_left
 ·(intro oi ho;simp at ho;subst ho;refine Or.inl ⟨by rfl,fun w' cL=>?_⟩;go_simp;try with_reducible rfl)
 (intro d hd;simp at hd;subst hd;simp only [Act.put,List.setIfInBounds_toArray,List.set_cons_zero,List.set_cons_succ])
 refine kP 8 [9,11,12,13,14,15,16] (v:=?_) (by kernel_rfl) (by kernel_rfl) (by kernel_rfl) (by kernel_rfl) (fun _ _ _ _ h=>h) bL ?_ ?_
 rotate_left
 ·(intro oi ho;simp at ho;subst ho;refine Or.inl ⟨by rfl,fun w' cL=>?_⟩;go_simp;try with_reducible rfl)
 (intro d hd;simp at hd;subst hd;simp only [Act.put,List.setIfInBounds_toArray,List.set_cons_zero,List.set_cons_succ])
 refine kP 9 [11,12,13,14,15,16] (v:=?_) (by kernel_rfl) (by kernel_rfl) (by kernel_rfl) (by kernel_rfl) (fun _ _ _ _ h=>h) bL ?_ ?_
 rotate_left
 ·(intro oi ho;simp at ho;subst ho;refine Or.inl ⟨by rfl,fun w' cL=>?_⟩;have e0:w'.cell? ⟨g,0,none⟩=some (str k):=cL.elim (KEY.out w') (fun h=>h.2.cells.1);go_simp;try with_reducible rfl)
 (intro d hd;simp at hd;subst hd;simp only [Act.put,List.setIfInBounds_toArray,List.set_cons_zero,List.set_cons_succ])
 refine kP 10 [11,12,13,14,15,16] (v:=?_) (by kernel_rfl) (by kernel_rfl) (by kernel_rfl) (by kernel_rfl) (fun _ _ _ _ h=>h) bL ?_ ?_
 rotate_left
 ·(intro oi ho;simp at ho;subst ho;refine Or.inl ⟨by rfl,fun w' cL=>?_⟩;go_simp;try with_reducible rfl)
 (intro d hd;simp at hd;subst hd;simp only [Act.put,List.setIfInBounds_toArray,List.set_cons_zero,List.set_cons_succ])
 (refine on 11 ?_;intro o ho K' hK;simp at ho;subst ho;go_simp)
 have hd:Below w.heap.size w w.drew:=Below.drew (hG _ _)
 go_at_call 100
 (with_reducible refine (C.out _ hd).mono ?_)
 rintro en w1 ⟨rfl,bQ⟩
 have ed:Below w.heap.size w w1:=Below.trans hd (bQ.mono (Below.size hd))
 clear bQ
 (refine hK.out _ _ (fun _=>(Or.inl ed:(fun w'=>Below w.heap.size w w'\/(But (· = g) w w'/\kT w' g k x)) w1)) ?_;clear hK K';try simp only [pQ,pN,pZ,pS])
 have hS11:=(Or.inl ed:(fun w'=>Below w.heap.size w w'\/(But (· = g) w w'/\kT w' g k x)) w1)
 (refine on 12 ?_;intro o ho K' hK;simp at ho;subst ho;go_simp)
 go_at_call 98
 (with_reducible refine (yS g k t k x w1 (H.out.below ed)).mono ?_)
 rintro en w2 ⟨rfl,bZ,h2⟩
 have aD:=(But.ofBelow (m:=(· = g)) ed).trans bZ
 (refine hK.out _ _ (fun _=>(Or.inr ⟨aD,h2⟩:(fun w'=>Below w.heap.size w w'\/(But (· = g) w w'/\kT w' g k x)) w2)) ?_;clear hK K';try simp only [pQ,pN,pZ,pS])
 have Cc:=(Or.inr ⟨aD,h2⟩:(fun w'=>Below w.heap.size w w'\/(But (· = g) w w'/\kT w' g k x)) w2)
 refine kP 13 [15,16] (v:=?_) (by kernel_rfl) (by kernel_rfl) (by kernel_rfl) (by kernel_rfl) (fun _ _ _ _ h=>h) Cc ?_ ?_
 rotate_left
 ·(intro oi ho;simp at ho;subst ho;refine Or.inl ⟨by rfl,fun w' cL=>?_⟩;go_simp;try with_reducible rfl)
 (intro d hd;simp at hd;subst hd;simp only [Act.put,List.setIfInBounds_toArray,List.set_cons_zero,List.set_cons_succ])
 refine kP 14 [15,16] (v:=?_) (by kernel_rfl) (by kernel_rfl) (by kernel_rfl) (by kernel_rfl) (fun _ _ _ _ h=>h) Cc ?_ ?_
 rotate_left
 ·(intro oi ho;simp at ho;subst ho;refine Or.inl ⟨by rfl,fun w' cL=>?_⟩;go_simp;try with_reducible rfl)
 (intro d hd;simp at hd;subst hd;simp only [Act.put,List.setIfInBounds_toArray,List.set_cons_zero,List.set_cons_succ])
 (refine on 15 ?_;intro o ho K' hK;simp at ho;subst ho;go_simp)
 (refine hK.out _ _ (fun _=>(Or.inr ⟨aD,h2⟩:(fun w'=>Below w.heap.size w w'\/(But (· = g) w w'/\kT w' g k x)) w2)) ?_;clear hK K';try simp only [pQ,pN,pZ,pS])
 (refine on 16 ?_;intro o ho K' hK;simp at ho;subst ho;go_simp)
 (refine hK.out _ _ (fun _=>(Or.inr ⟨aD,h2⟩:(fun w'=>Below w.heap.size w w'\/(But (· = g) w w'/\kT w' g k x)) w2)) ?_;clear hK K';try simp only [pQ,pN,pZ,pS])
 refine kQ (by kernel_rfl) (NoPanic.normal ?_) _
 have H2:=gl (go aD h2)
 clear bZ h2 ed aD bL
 go_wp2_with fail
 go_ret2
 exact ⟨rfl,H2.out.1,H2.out.2⟩
def cmd0:Value:=.agg #[.bool true,.func (.func 74) #[] #[]]
def cmd1:Value:=.agg #[.bool true,.func (.func 75) #[] #[]]
def cmd2:Value:=.agg #[.bool true,.func (.func 76) #[] #[]]
def cmd3:Value:=.agg #[.bool true,.func (.func 77) #[] #[]]
def cmd4:Value:=.agg #[.bool true,.func (.func 78) #[] #[]]
def cmd5:Value:=.agg #[.bool false,.func (.func 79) #[] #[]]
def cmd6:Value:=.agg #[.bool false,.func (.func 80) #[] #[]]
def cmd7:Value:=.agg #[.bool false,.func (.func 81) #[] #[]]
def cmd8:Value:=.agg #[.bool false,.func (.func 82) #[] #[]]
def cmd9:Value:=.agg #[.bool false,.func (.func 83) #[] #[]]
def cmd10:Value:=.agg #[.bool true,.func (.func 84) #[] #[]]
def cmd11:Value:=.agg #[.bool true,.func (.func 85) #[] #[]]
def xJ:List Value:=[cmd0,cmd1,cmd2,cmd3,cmd4,cmd5,cmd6,cmd7,cmd8,cmd9,cmd10,cmd11]
open Classical in
noncomputable def cmdR (v:Value):Option (DataW Unit×List MemPlace):=(xJ.findIdx? fun c=>decide (c=v)).map fun i=>(.lit (.int .i64 (i:Nat)),[])
theorem jF {c:Value} (h:c∈xJ):∃ n:Nat,cmdR c=some (.lit (.int .i64 (n:Nat)),[])/\∀ v ps,cmdR v=some (.lit (.int .i64 (n:Nat)),ps)->v=c:=by
 classical
 unfold cmdR
 cases hf:xJ.findIdx? (fun d=>decide (d=c)) with
 | none =>
   rw [List.findIdx?_eq_none_iff] at hf
   have:=hf c h
   simp at this
 | some i =>
   refine ⟨i,rfl,fun v ps hv=>?_⟩
   rw [List.findIdx?_eq_some_iff_getElem] at hf
   obtain ⟨hi,h1,_⟩:=hf
   rw [Option.map_eq_some_iff] at hv
   obtain ⟨j,hj,e⟩:=hv
   simp only [Prod.mk.injEq,DataW.lit.injEq,Lit.int.injEq,true_and] at e
   obtain rfl:j=i:=by omega
   rw [List.findIdx?_eq_some_iff_getElem] at hj
   obtain ⟨hj1,h2,_⟩:=hj
   simp only [decide_eq_true_eq] at h1 h2
   rw [<- h2,h1]
theorem jS {H:Type} {P:Program} {k t e:TypeId} {R:Value->Option (DataW H×List MemPlace)} {w:World} {b n:Nat} {D:DataW H} (h:w.ownsMap P k R b n D) (K:Maps.Keyed P k) (ht:P.underlying t=some (.map k e)) {z:Value} (hz:(zeroValue e).run P w=.ok z w)
 {key:Value} {kl:Lit} (lD:keyOf P k key=some kl) {d:DataW H} (bJ:∀ zd,D.atKey kl zd=d):∃ v ps,(Instr.lookup t (.map (some b)) key true).run P w=.ok (.tuple #[v,.bool true]) w/\R v=some (d,ps):=by
 obtain ⟨es,clock,hb,F,_,rfl⟩:=h
 rcases Maps.fit_look true K ht hz hb F lD with ⟨_,_,h3⟩ | ⟨e0,y,_,_,i7,hRv,h4,_⟩
 ·have h1:=h3 (.lit (.bool true))
  have h2:=h3 (.lit (.bool false))
  rw [bJ] at h1 h2
  rw [h1] at h2
  simp at h2
 ·have h1:=h4 (.lit (.bool true))
  rw [bJ] at h1
  refine ⟨e0.val,y.2,i7,?_⟩
  rw [hRv,h1]
theorem kV {a b:Bs} (h:a≠b):Lit.string a≠Lit.string b:=by simpa using h
def vm (w:World) (b:Nat) (x:Bs) (c:Value):Prop:=(Instr.lookup 112 (.map (some b)) (str x) true).run Tryz.prog w=.ok (.tuple #[c,.bool true]) w
theorem pA (w:World):(zeroValue 110).run Tryz.prog w=.ok (.agg #[.bool false,.nilFunc]) w:=by kernel_rfl
set_option maxRecDepth 100000 in
theorem vH (w:World):Calls Tryz.prog 50 #[] w fun en w'=>∃ b,en=.returned (.map (some b))/\Below w.heap.size w w'/\vm w' b [116,121,112,101] cmd0/\vm w' b [115,101,116] cmd1/\vm w' b [109,101,97,110] cmd2/\vm w' b [97,112,112,108,121] cmd4/\vm w' b [115,104,111,119] cmd6/\vm w' b [107,105,110,100] cmd7/\vm w' b [116,101,114,109] cmd8:=by
 obtain ⟨n0,r0,u0⟩:=jF (c:=cmd0) (by simp [xJ])
 obtain ⟨n1,r1,u1⟩:=jF (c:=cmd1) (by simp [xJ])
 obtain ⟨n2,r2,u2⟩:=jF (c:=cmd2) (by simp [xJ])
 obtain ⟨n3,r3,u3⟩:=jF (c:=cmd3) (by simp [xJ])
 obtain ⟨n4,r4,u4⟩:=jF (c:=cmd4) (by simp [xJ])
 obtain ⟨n5,r5,u5⟩:=jF (c:=cmd5) (by simp [xJ])
 obtain ⟨n6,r6,u6⟩:=jF (c:=cmd6) (by simp [xJ])
 obtain ⟨n7,r7,u7⟩:=jF (c:=cmd7) (by simp [xJ])
 obtain ⟨n8,r8,u8⟩:=jF (c:=cmd8) (by simp [xJ])
 obtain ⟨n9,r9,u9⟩:=jF (c:=cmd9) (by simp [xJ])
 obtain ⟨n10,r10,u10⟩:=jF (c:=cmd10) (by simp [xJ])
 obtain ⟨n11,r11,u11⟩:=jF (c:=cmd11) (by simp [xJ])
 have HN0:=gl (go r0 u0)
 have HN1:=gl (go r1 u1)
 have HN2:=gl (go r2 u2)
 have Cx:=gl (go r3 u3)
 have Aa:=gl (go r4 u4)
 have HN5:=gl (go r5 u5)
 have HN6:=gl (go r6 u6)
 have HN7:=gl (go r7 u7)
 have HN8:=gl (go r8 u8)
 have HN9:=gl (go r9 u9)
 have HN10:=gl (go r10 u10)
 have HN11:=gl (go r11 u11)
 clear r0 u0 r1 u1 r2 u2 r3 u3 r4 u4 r5 u5 r6 u6 r7 u7 r8 u8 r9 u9 r10 u10 r11 u11
 have K0:=gl (pC (s:=[116,121,112,101]) (by unfold Lim;decide))
 have K1:=gl (pC (s:=[115,101,116]) (by unfold Lim;decide))
 have K2:=gl (pC (s:=[109,101,97,110]) (by unfold Lim;decide))
 have K3:=gl (pC (s:=[99,111,112,121]) (by unfold Lim;decide))
 have K4:=gl (pC (s:=[97,112,112,108,121]) (by unfold Lim;decide))
 have K5:=gl (pC (s:=[114,117,110]) (by unfold Lim;decide))
 have K6:=gl (pC (s:=[115,104,111,119]) (by unfold Lim;decide))
 have K7:=gl (pC (s:=[107,105,110,100]) (by unfold Lim;decide))
 have K8:=gl (pC (s:=[116,101,114,109]) (by unfold Lim;decide))
 have K9:=gl (pC (s:=[118,105,101,119,115]) (by unfold Lim;decide))
 have K10:=gl (pC (s:=[112,108,97,121,115]) (by unfold Lim;decide))
 have K11:=gl (pC (s:=[99,111,117,110,116]) (by unfold Lim;decide))
 have made:(w.alloc (.map #[] 0)).ownsMap Tryz.prog 9 cmdR w.heap.size 0 (.map []):=World.ownsMap_made _ _ _ _
 have MADE:=gl made
 clear made
 have hmm:=@run_makeMap Tryz.prog
 go_enter Tryz.func50,Tryz.ntmps50
 go_wp2_with (refine zh (H:=Unit) _ rfl _ _ _ 112 rfl 9 110 Tryz.lawS Tryz.underlying112 cmdR w.heap.size 0 _ rfl MADE.out (by unfold maxLen;omega) _ cmd0 _ rfl rfl K0.out _ [] HN0.out.1 ?_)
 intro w1 h1 g1
 have hh1:=gl h1;have gg1:=gl g1;clear h1 g1
 go_wp2_with (refine zh (H:=Unit) _ rfl _ _ _ 112 rfl 9 110 Tryz.lawS Tryz.underlying112 cmdR w.heap.size 1 _ rfl hh1.out (by unfold maxLen;omega) _ cmd1 _ rfl rfl K1.out _ [] HN1.out.1 ?_)
 intro w2 h2 g2
 have hh2:=gl h2;have gg2:=gl g2;clear h2 g2
 go_wp2_with (refine zh (H:=Unit) _ rfl _ _ _ 112 rfl 9 110 Tryz.lawS Tryz.underlying112 cmdR w.heap.size 2 _ rfl hh2.out (by unfold maxLen;omega) _ cmd2 _ rfl rfl K2.out _ [] HN2.out.1 ?_)
 intro w3 h3 g3
 have hh3:=gl h3;have gg3:=gl g3;clear h3 g3
 go_wp2_with (refine zh (H:=Unit) _ rfl _ _ _ 112 rfl 9 110 Tryz.lawS Tryz.underlying112 cmdR w.heap.size 3 _ rfl hh3.out (by unfold maxLen;omega) _ cmd3 _ rfl rfl K3.out _ [] Cx.out.1 ?_)
 intro w4 h4 g4
 have hh4:=gl h4;have gg4:=gl g4;clear h4 g4
 go_wp2_with (refine zh (H:=Unit) _ rfl _ _ _ 112 rfl 9 110 Tryz.lawS Tryz.underlying112 cmdR w.heap.size 4 _ rfl hh4.out (by unfold maxLen;omega) _ cmd4 _ rfl rfl K4.out _ [] Aa.out.1 ?_)
 intro w5 h5 g5
 have hh5:=gl h5;have gg5:=gl g5;clear h5 g5
 go_wp2_with (refine zh (H:=Unit) _ rfl _ _ _ 112 rfl 9 110 Tryz.lawS Tryz.underlying112 cmdR w.heap.size 5 _ rfl hh5.out (by unfold maxLen;omega) _ cmd5 _ rfl rfl K5.out _ [] HN5.out.1 ?_)
 intro w6 h6 g6
 have hh6:=gl h6;have gg6:=gl g6;clear h6 g6
 go_wp2_with (refine zh (H:=Unit) _ rfl _ _ _ 112 rfl 9 110 Tryz.lawS Tryz.underlying112 cmdR w.heap.size 6 _ rfl hh6.out (by unfold maxLen;omega) _ cmd6 _ rfl rfl K6.out _ [] HN6.out.1 ?_)
 intro w7 h7 g7
 have hh7:=gl h7;have gg7:=gl g7;clear h7 g7
 go_wp2_with (refine zh (H:=Unit) _ rfl _ _ _ 112 rfl 9 110 Tryz.lawS Tryz.underlying112 cmdR w.heap.size 7 _ rfl hh7.out (by unfold maxLen;omega) _ cmd7 _ rfl rfl K7.out _ [] HN7.out.1 ?_)
 intro w8 h8 g8
 have hh8:=gl h8;have gg8:=gl g8;clear h8 g8
 go_wp2_with (refine zh (H:=Unit) _ rfl _ _ _ 112 rfl 9 110 Tryz.lawS Tryz.underlying112 cmdR w.heap.size 8 _ rfl hh8.out (by unfold maxLen;omega) _ cmd8 _ rfl rfl K8.out _ [] HN8.out.1 ?_)
 intro w9 h9 g9
 have hh9:=gl h9;have gg9:=gl g9;clear h9 g9
 go_wp2_with (refine zh (H:=Unit) _ rfl _ _ _ 112 rfl 9 110 Tryz.lawS Tryz.underlying112 cmdR w.heap.size 9 _ rfl hh9.out (by unfold maxLen;omega) _ cmd9 _ rfl rfl K9.out _ [] HN9.out.1 ?_)
 intro iv iO g10
 have hh10:=gl iO;have gg10:=gl g10;clear iO g10
 go_wp2_with (refine zh (H:=Unit) _ rfl _ _ _ 112 rfl 9 110 Tryz.lawS Tryz.underlying112 cmdR w.heap.size 10 _ rfl hh10.out (by unfold maxLen;omega) _ cmd10 _ rfl rfl K10.out _ [] HN10.out.1 ?_)
 intro dT h11 g11
 have hh11:=gl h11;have gg11:=gl g11;clear h11 g11
 go_wp2_with (refine zh (H:=Unit) _ rfl _ _ _ 112 rfl 9 110 Tryz.lawS Tryz.underlying112 cmdR w.heap.size 11 _ rfl hh11.out (by unfold maxLen;omega) _ cmd11 _ rfl rfl K11.out _ [] HN11.out.1 ?_)
 intro aL h12 g12
 have mx:=gl h12;have gg12:=gl g12;clear h12 g12
 have i0:Maps.IsMap (DataW.map []:DataW Unit):=Maps.isMap_empty
 have tY:But (fun i=>i=w.heap.size) (w.alloc (.map #[] 0)) aL:=((((((((((((But.ofGrown gg1.out).weak (m':=fun i=>i=w.heap.size) (fun i _ h=>by simpa using h)).trans ((But.ofGrown gg2.out).weak (m':=fun i=>i=w.heap.size) (fun i _ h=>by simpa using h))).trans ((But.ofGrown gg3.out).weak (m':=fun i=>i=w.heap.size) (fun i _ h=>by simpa using h))).trans ((But.ofGrown gg4.out).weak (m':=fun i=>i=w.heap.size) (fun i _ h=>by simpa using h))).trans ((But.ofGrown gg5.out).weak (m':=fun i=>i=w.heap.size) (fun i _ h=>by simpa using h))).trans ((But.ofGrown gg6.out).weak (m':=fun i=>i=w.heap.size) (fun i _ h=>by simpa using h))).trans ((But.ofGrown gg7.out).weak (m':=fun i=>i=w.heap.size) (fun i _ h=>by simpa using h))).trans ((But.ofGrown gg8.out).weak (m':=fun i=>i=w.heap.size) (fun i _ h=>by simpa using h))).trans ((But.ofGrown gg9.out).weak (m':=fun i=>i=w.heap.size) (fun i _ h=>by simpa using h))).trans ((But.ofGrown gg10.out).weak (m':=fun i=>i=w.heap.size) (fun i _ h=>by simpa using h))).trans ((But.ofGrown gg11.out).weak (m':=fun i=>i=w.heap.size) (fun i _ h=>by simpa using h))).trans ((But.ofGrown gg12.out).weak (m':=fun i=>i=w.heap.size) (fun i _ h=>by simpa using h))
 have HB:=gl (((hG w.heap.size w).alloc (g_ _) _).trans (tY.toBelow (by rw [zK];omega) fun i hi e=>by omega))
 obtain ⟨v0,p0,iQ,aB⟩:=jS mx.out Tryz.lawS Tryz.underlying112 (pA _) K0.out (d:=.lit (.int .i64 (n0:Nat))) (fun zd=>by rw [Maps.atKey_put_other (kV (by decide)),Maps.atKey_put_other (kV (by decide)),Maps.atKey_put_other (kV (by decide)),Maps.atKey_put_other (kV (by decide)),Maps.atKey_put_other (kV (by decide)),Maps.atKey_put_other (kV (by decide)),Maps.atKey_put_other (kV (by decide)),Maps.atKey_put_other (kV (by decide)),Maps.atKey_put_other (kV (by decide)),Maps.atKey_put_other (kV (by decide)),Maps.atKey_put_other (kV (by decide)),Maps.atKey_put_same i0 (by simp [WideAt.IsKeyLit])])
 obtain rfl:v0=cmd0:=HN0.out.2 _ _ aB
 have T0:Hid (vm aL w.heap.size [116,121,112,101] cmd0):=iQ
 clear iQ aB
 obtain ⟨v1,p1,iK,tG⟩:=jS mx.out Tryz.lawS Tryz.underlying112 (pA _) K1.out (d:=.lit (.int .i64 (n1:Nat))) (fun zd=>by rw [Maps.atKey_put_other (kV (by decide)),Maps.atKey_put_other (kV (by decide)),Maps.atKey_put_other (kV (by decide)),Maps.atKey_put_other (kV (by decide)),Maps.atKey_put_other (kV (by decide)),Maps.atKey_put_other (kV (by decide)),Maps.atKey_put_other (kV (by decide)),Maps.atKey_put_other (kV (by decide)),Maps.atKey_put_other (kV (by decide)),Maps.atKey_put_other (kV (by decide)),Maps.atKey_put_same (i0.put _ _) (by simp [WideAt.IsKeyLit])])
 obtain rfl:v1=cmd1:=HN1.out.2 _ _ tG
 have T1:Hid (vm aL w.heap.size [115,101,116] cmd1):=iK
 clear iK tG
 obtain ⟨v2,p2,iZ,tP⟩:=jS mx.out Tryz.lawS Tryz.underlying112 (pA _) K2.out (d:=.lit (.int .i64 (n2:Nat))) (fun zd=>by rw [Maps.atKey_put_other (kV (by decide)),Maps.atKey_put_other (kV (by decide)),Maps.atKey_put_other (kV (by decide)),Maps.atKey_put_other (kV (by decide)),Maps.atKey_put_other (kV (by decide)),Maps.atKey_put_other (kV (by decide)),Maps.atKey_put_other (kV (by decide)),Maps.atKey_put_other (kV (by decide)),Maps.atKey_put_other (kV (by decide)),Maps.atKey_put_same ((i0.put _ _).put _ _) (by simp [WideAt.IsKeyLit])])
 obtain rfl:v2=cmd2:=HN2.out.2 _ _ tP
 have T2:Hid (vm aL w.heap.size [109,101,97,110] cmd2):=iZ
 clear iZ tP
 obtain ⟨v4,p4,a_,hR4⟩:=jS mx.out Tryz.lawS Tryz.underlying112 (pA _) K4.out (d:=.lit (.int .i64 (n4:Nat))) (fun zd=>by rw [Maps.atKey_put_other (kV (by decide)),Maps.atKey_put_other (kV (by decide)),Maps.atKey_put_other (kV (by decide)),Maps.atKey_put_other (kV (by decide)),Maps.atKey_put_other (kV (by decide)),Maps.atKey_put_other (kV (by decide)),Maps.atKey_put_other (kV (by decide)),Maps.atKey_put_same ((((i0.put _ _).put _ _).put _ _).put _ _) (by simp [WideAt.IsKeyLit])])
 obtain rfl:v4=cmd4:=Aa.out.2 _ _ hR4
 have T4:Hid (vm aL w.heap.size [97,112,112,108,121] cmd4):=a_
 clear a_ hR4
 obtain ⟨v6,p6,ao,hR6⟩:=jS mx.out Tryz.lawS Tryz.underlying112 (pA _) K6.out (d:=.lit (.int .i64 (n6:Nat))) (fun zd=>by rw [Maps.atKey_put_other (kV (by decide)),Maps.atKey_put_other (kV (by decide)),Maps.atKey_put_other (kV (by decide)),Maps.atKey_put_other (kV (by decide)),Maps.atKey_put_other (kV (by decide)),Maps.atKey_put_same ((((((i0.put _ _).put _ _).put _ _).put _ _).put _ _).put _ _) (by simp [WideAt.IsKeyLit])])
 obtain rfl:v6=cmd6:=HN6.out.2 _ _ hR6
 have T6:Hid (vm aL w.heap.size [115,104,111,119] cmd6):=ao
 clear ao hR6
 obtain ⟨v7,p7,al,hR7⟩:=jS mx.out Tryz.lawS Tryz.underlying112 (pA _) K7.out (d:=.lit (.int .i64 (n7:Nat))) (fun zd=>by rw [Maps.atKey_put_other (kV (by decide)),Maps.atKey_put_other (kV (by decide)),Maps.atKey_put_other (kV (by decide)),Maps.atKey_put_other (kV (by decide)),Maps.atKey_put_same (((((((i0.put _ _).put _ _).put _ _).put _ _).put _ _).put _ _).put _ _) (by simp [WideAt.IsKeyLit])])
 obtain rfl:v7=cmd7:=HN7.out.2 _ _ hR7
 have T7:Hid (vm aL w.heap.size [107,105,110,100] cmd7):=al
 clear al hR7
 obtain ⟨v8,p8,ai,hR8⟩:=jS mx.out Tryz.lawS Tryz.underlying112 (pA _) K8.out (d:=.lit (.int .i64 (n8:Nat))) (fun zd=>by rw [Maps.atKey_put_other (kV (by decide)),Maps.atKey_put_other (kV (by decide)),Maps.atKey_put_other (kV (by decide)),Maps.atKey_put_same ((((((((i0.put _ _).put _ _).put _ _).put _ _).put _ _).put _ _).put _ _).put _ _) (by simp [WideAt.IsKeyLit])])
 obtain rfl:v8=cmd8:=HN8.out.2 _ _ hR8
 have T8:Hid (vm aL w.heap.size [116,101,114,109] cmd8):=ai
 clear ai hR8
 clear tY i0
 go_wp2_with fail
 go_ret
 exact ⟨w.heap.size,rfl,HB.out,T0.out,T1.out,T2.out,T4.out,T6.out,T7.out,T8.out⟩
def uS (w:World):Prop:=∃ m:Int,w.cell? ⟨1,0,none⟩=some (.int .i64 m)
theorem uS.below {w w':World} (h:uS w) (hb:Below w.heap.size w w'):uS w':=by
 obtain ⟨m,hm⟩:=h
 exact ⟨m,(hb.cell (hU _ _ hm)).trans hm⟩
theorem xg {l a b:Bs} {f:Bool} (hl:l.length<=1000000) (hc:Lib.cut l [32]=(a,b,f)) (w:World) (hm:uS w) :
 Calls Tryz.prog 49 #[str l,str [32]] w fun en w'=>en=.returned (.tuple #[str a,str b,.bool f])/\Below w.heap.size w w':=by
 obtain ⟨m,hm⟩:=hm
 refine (Tryz.strings_Cut ⟨l.toArray⟩ ⟨#[32]⟩ m w (by rw [jI];omega) hm).mono ?_
 rintro en w' ⟨rfl,n,rfl⟩
 refine ⟨?_,pJ (hG _ _) n⟩
 show _=Ending.returned (.tuple #[str (a,b,f).1,str (a,b,f).2.1,.bool (a,b,f).2.2])
 rw [<- hc]
theorem pT {w:World} {b:Nat} {x y:Value} {T:TypeId} (h:w.heap[b]? = some (.cells #[x,y] T (0,0))):w.cell? ⟨b,0,none⟩=some x/\w.cell? ⟨b,1,none⟩=some y/\w.frozen? ⟨b,0,none⟩=false/\w.frozen? ⟨b,1,none⟩=false :=
 ⟨by simp [World.cell?,h],by simp [World.cell?,h],by simp [World.frozen?,h],by simp [World.frozen?,h]⟩
theorem gu (w:World) (A:Obj):∃ W,w.alloc A=W/\Below w.heap.size w W/\W.heap.size=w.heap.size+1/\W.heap[w.heap.size]? = some A :=
 ⟨_,rfl,(hG _ _).alloc (g_ _) _,by rw [zK],zR _ _⟩
def LineQ (g:Nat) (ans:Bs) (k t:Bs) (w:World) (en:Ending) (w':World):Prop:=en=.returned (str ans)/\But (· = g) w w'/\kT w' g k t
set_option maxRecDepth 100000 in
theorem line_type (g:Nat) (k t ans k' t':Bs) (l rest:Bs) (w:World) (h:kT w g k t) (hm:uS w) (hl:l.length<=1000000) (hc:Lib.cut l [32]=([116,121,112,101],rest,true))
 (C:∀ y,Below w.heap.size w y->Calls Tryz.prog 74 #[.pointer (some ⟨g,0,none⟩),str rest] y (xi g ans k' t' y)) :
 Calls Tryz.prog 26 #[.pointer (some ⟨g,0,none⟩),str l] w (LineQ g ans k' t' w):=by
 have CU:=gl (xg hl hc w hm)
 have CC:=gl C
 have H:=gl h
 clear C hc hm h hl
 go_enter Tryz.func26,Tryz.ntmps26
 go_wp2_with fail
 (with_reducible refine CU.out.mono ?_)
 rintro en w1 ⟨rfl,bQ⟩
 have cD:=gl bQ
 clear bQ CU
 go_wp2_with fail
 refine (vH w1).mono ?_
 rintro en w2 ⟨bm,rfl,bZ,Ttype,_,_,_,_,_,_⟩
 have cw:=gl (zzT cD.out bZ)
 have Ttype:(Instr.lookup 112 (.map (some bm)) (str [116,121,112,101]) true).run Tryz.prog w2=.ok (.tuple #[cmd0,.bool true]) w2:=Ttype
 unfold cmd0 at Ttype
 clear bZ
 obtain ⟨W,hW,bE,hz,x0⟩:=gu w2 (.cells #[.bool true,.func (.func 74) #[] #[]] 110)
 have fJ:=gl (zzT cw.out bE)
 have HW:=gl hW
 obtain ⟨c0,c1,_,_⟩:=pT x0
 have C2:=gl (CC.out W fJ.out)
 clear hW bE hz x0 CC
 go_upto_region 3 with (fail)
 rw [HW.out]
 clear Ttype
 go_wp2_with fail
 (with_reducible refine C2.out.mono ?_)
 rintro en w3 ⟨rfl,bU,h3⟩
 have HF:=gl (go ((But.ofBelow fJ.out).trans bU) h3)
 clear bU h3 C2 c0 c1
 go_wp2_with fail
 go_ret
 exact ⟨rfl,HF.out.1,HF.out.2⟩
set_option maxRecDepth 100000 in
theorem line_set (g:Nat) (k t ans k' t':Bs) (l rest:Bs) (w:World) (h:kT w g k t) (hm:uS w) (hl:l.length<=1000000) (hc:Lib.cut l [32]=([115,101,116],rest,true))
 (C:∀ y,Below w.heap.size w y->Calls Tryz.prog 75 #[.pointer (some ⟨g,0,none⟩),str rest] y (xi g ans k' t' y)) :
 Calls Tryz.prog 26 #[.pointer (some ⟨g,0,none⟩),str l] w (LineQ g ans k' t' w):=by
 have CU:=gl (xg hl hc w hm)
 have CC:=gl C
 have H:=gl h
 clear C hc hm h hl
 go_enter Tryz.func26,Tryz.ntmps26
 go_wp2_with fail
 (with_reducible refine CU.out.mono ?_)
 rintro en w1 ⟨rfl,bQ⟩
 have cD:=gl bQ
 clear bQ CU
 go_wp2_with fail
 refine (vH w1).mono ?_
 rintro en w2 ⟨bm,rfl,bZ,_,Tset,_,_,_,_,_⟩
 have cw:=gl (zzT cD.out bZ)
 have Tset:(Instr.lookup 112 (.map (some bm)) (str [115,101,116]) true).run Tryz.prog w2=.ok (.tuple #[cmd1,.bool true]) w2:=Tset
 unfold cmd1 at Tset
 clear bZ
 obtain ⟨W,hW,bE,hz,x0⟩:=gu w2 (.cells #[.bool true,.func (.func 75) #[] #[]] 110)
 have fJ:=gl (zzT cw.out bE)
 have HW:=gl hW
 obtain ⟨c0,c1,_,_⟩:=pT x0
 have C2:=gl (CC.out W fJ.out)
 clear hW bE hz x0 CC
 go_upto_region 3 with (fail)
 rw [HW.out]
 clear Tset
 go_wp2_with fail
 (with_reducible refine C2.out.mono ?_)
 rintro en w3 ⟨rfl,bU,h3⟩
 have HF:=gl (go ((But.ofBelow fJ.out).trans bU) h3)
 clear bU h3 C2 c0 c1
 go_wp2_with fail
 go_ret
 exact ⟨rfl,HF.out.1,HF.out.2⟩
def Tryz.layW_ren:Go.Shelf.Ren:=⟨fun | 166=>25 | 240=>48 | 276=>72 | n=>n,fun | 0=>0 | 3=>3 | 4=>4 | 5=>5 | 9=>9 | 20=>20 | 37=>22 | 70=>65 | 72=>67 | 75=>69 | 80=>60 | 164=>137 | n=>n,fun | n=>n⟩
theorem Tryz.layW:Go.Proofs.Lays.n166 Tryz.prog Tryz.layW_ren:={
 mixed:=by kernel_rfl
 f166:=Tryz.func25.trans (congrArg some (by kernel_rfl))
 f240:=Tryz.func48.trans (congrArg some (by kernel_rfl))
 f276:=Tryz.func72.trans (congrArg some (by kernel_rfl))
 t0:=Tryz.underlying0
 a0:=Tryz.isAgg0
 z0:=Tryz.sizeOf0
 v0:=Tryz.zeroValue0
 t3:=Tryz.underlying3
 a3:=Tryz.isAgg3
 z3:=Tryz.sizeOf3
 v3:=Tryz.zeroValue3
 t4:=Tryz.underlying4
 a4:=Tryz.isAgg4
 z4:=Tryz.sizeOf4
 v4:=Tryz.zeroValue4
 t9:=Tryz.underlying9
 a9:=Tryz.isAgg9
 z9:=Tryz.sizeOf9
 v9:=Tryz.zeroValue9
 t20:=Tryz.underlying20
 a20:=Tryz.isAgg20
 z20:=Tryz.sizeOf20
 v20:=Tryz.zeroValue20
 t37:=Tryz.underlying22
 a37:=Tryz.isAgg22
 z37:=Tryz.sizeOf22
 v37:=Tryz.zeroValue22
 t70:=Tryz.underlying65
 a70:=Tryz.isAgg65
 z70:=Tryz.sizeOf65
 v70:=Tryz.zeroValue65
 t72:=Tryz.underlying67
 a72:=Tryz.isAgg67
 z72:=Tryz.sizeOf67
 v72:=Tryz.zeroValue67
 t75:=Tryz.underlying69
 a75:=Tryz.isAgg69
 z75:=Tryz.sizeOf69
 v75:=Tryz.zeroValue69
 t164:=Tryz.underlying137
 a164:=Tryz.isAgg137
 z164:=Tryz.sizeOf137
 v164:=Tryz.zeroValue137 }
theorem Tryz.layX:Builder.Extra Tryz.prog Tryz.layW_ren:={
 sizeBuilder:=by kernel_rfl
 liesBuilder:=by kernel_rfl
 t5:=Tryz.underlying5
 a5:=Tryz.isAgg5
 z5:=Tryz.sizeOf5
 v5:=Tryz.zeroValue5
 infoByte:=by kernel_rfl
 cellsByte:=by kernel_rfl
 sizeByte:=by kernel_rfl
 neB5:=by decide }
theorem itoa_decN (i:Nat):Lib.itoa (i:Int)=dec i:=by
 rw [dec_dd,Lib.itoa,if_neg (by omega)];rfl
theorem gY (ans:Nat->Bs):∀ n:Nat,(∀ j,j<n->(ans j).length<=1000000)->(kU ans n).length<=n*1000001
 | 0,_=>by simp [kU]
 | n+1,h=>by
   have h1:=gY ans n (fun j hj=>h j (by omega))
   have h2:=h n (by omega)
   rw [kU]
   simp only [List.length_append,List.length_cons,List.length_nil]
   rw [Nat.succ_mul];omega
theorem byteCells_app (a b:Bs):Lib.byteCells (a++b)=Lib.byteCells a++Lib.byteCells b:=by simp [Lib.byteCells]
theorem splitS_any {ls:List Bs} (hl:∀ l∈ls,(10:UInt8) ∉ l) (hn:(qW ls).length<=1000000) (w:World) (hm:uS w) :
 Calls Tryz.prog 24 #[str (qW ls),str [10]] w fun en w'=>en=.returned (.slice (some ⟨w.heap.size,0,none⟩) (ls.length+1) (ls.length+1))/\w'=w.alloc (.cells ((ls++[[]]).map str).toArray 9):=by
 obtain ⟨m,hm⟩:=hm
 refine (Tryz.strings_Split ⟨(qW ls).toArray⟩ ⟨#[10]⟩ m w (by rw [jI];omega) hm (by decide)).mono ?_
 rintro en w' ⟨rfl,rfl⟩
 rw [split_lines hl,pK hl]
 refine ⟨rfl,?_⟩
 rw [List.map_map];rfl
abbrev Bld (B b:Nat) (l:Bs) (w:World):Prop:=Lib.IsBuilder 67 5 B b (Lib.byteCells l) w
theorem gy {T e:TypeId} {B b:Nat} {p:Value} {bs:List Value} {w w':World} (h:Lib.BuilderAt T e B b p bs w) (hk:∀ i x,B<=i->w.heap[i]? = some x->w'.heap[i]? = some x):Lib.BuilderAt T e B b p bs w':=by
 obtain ⟨hB,v,hb,bA,hne⟩:=h
 refine ⟨hB,v,hk _ _ hB hb,?_,hne⟩
 rcases bA.2 with h0 | ⟨g,cap,cur,e1,oz,hg,hr⟩
 ·exact ⟨bA.1,.inl h0⟩
 ·exact ⟨bA.1,.inr ⟨g,cap,cur,e1,oz,hk _ _ oz hg,hr⟩⟩
theorem Bld.keep {B b:Nat} {l:Bs} {w w':World} (h:Bld B b l w) (hk:∀ i x,B<=i->w.heap[i]? = some x->w'.heap[i]? = some x):Bld B b l w':=h.imp (fun h=>gy h hk) (fun h=>gy h hk)
theorem bld_write (B b:Nat) (l s:Bs) (w:World) (h:Bld B b l w) (hn:l.length+s.length<=140737488355328) (hB:B<=w.heap.size) :
 Calls Tryz.prog 25 #[.pointer (some ⟨b,0,none⟩),str s] w fun en w'=>en=.returned (.tuple #[.int .i64 (s.length:Nat),.nilIface])/\Bld B b (l++s) w'/\Below B w w':=by
 refine (Any.Builder_WriteString Tryz.layW Tryz.layX B b (Lib.byteCells l) ⟨s.toArray⟩ w h (by rw [Lib.byteCells_length,jI];exact hn) hB).mono ?_
 rintro en w' ⟨rfl,h1,h2⟩
 refine ⟨by rw [jI],.inr ?_,h2⟩
 rw [byteCells_app]
 exact h1
theorem read_any (B b:Nat) (l:Bs) (w:World) (h:Bld B b l w) (hB:B<=w.heap.size) :
 Calls Tryz.prog 29 #[.pointer (some ⟨b,0,none⟩)] w fun en w'=>en=.returned (str l)/\Below B w w':=Tryz.Builder_String_any B b l w h hB
theorem wrap_lowN (x:Int) (h1 : -2000<=x) (h2:x<=1000000):IntKind.i64.wrap x=x:=by
 simp [IntKind.wrap,IntKind.bits,IntKind.signed];omega
structure ExI (W:World) (g blk b:Nat) (ls:List Bs) (st:Nat->Bs×Bs) (ans:Nat->Bs) (i:Nat) (wr:World):Prop where
 size:W.heap.size<=wr.heap.size
 keep:∀ j x,j≠g->j<b->W.heap[j]? = some x->wr.heap[j]? = some x
 os:wr.os=W.os/\wr.tape=W.tape/\wr.output=W.output
 desk:kT wr g (st i).1 (st i).2
 bld:Bld b b (kU ans i) wr
set_option maxRecDepth 100000 in
theorem execute_any (ls:List Bs) (st:Nat->Bs×Bs) (ans:Nat->Bs) (sz:Nat) (w:World) (hg:jE w) (hm:uS w) (hl:∀ l∈ls,(10:UInt8) ∉ l) (hn:(qW ls).length<=900) (h0:st 0=([98],[117])) (ha:∀ i,i<ls.length->(ans i).length<=1000000) (hsz:sz<=1000)
 (HL:∀ i l,ls[i]? = some l->∀ g y,Below w.heap.size w y->w.heap.size<=g->kT y g (st i).1 (st i).2->Calls Tryz.prog 26 #[.pointer (some ⟨g,0,none⟩),str l] y (LineQ g (ans i) (st (i+1)).1 (st (i+1)).2 y))
 (HS:∀ y,Below w.heap.size w y->Calls Tryz.prog 28 #[str (st ls.length).1,str (st ls.length).2] y fun en w'=>en=.returned (.int .i64 (sz:Nat))/\Below y.heap.size y w') :
 Calls Tryz.prog 9 #[str (qW ls)] w fun en w'=>en=.returned (str (kU ans ls.length++([110,111,100,101,115,32]++dec sz++[10])))/\Below w.heap.size w w':=by
 have hnI:¬ (900:Int)<((qW ls).length:Int):=by omega
 have hll:=wW ls
 obtain ⟨X,hX,dR,hzX,xd⟩:=gu w (.cells #[str [98],str [117]] 63)
 have CS:=gl (splitS_any hl (by omega) X (hm.below dR))
 obtain ⟨Y,hY,ox,hzY,xr⟩:=gu X (.cells ((ls++[[]]).map str).toArray 9)
 obtain ⟨W,hW,bE,dL,xb⟩:=gu Y (.cells #[.pointer none,.slice none 0 0] 67)
 have lx:=zzT ox bE
 have im:Below w.heap.size w W:=zzT dR lx
 have xd2:=(lx.block _ (zZ xd)).trans xd
 have xr2:=(bE.block _ (zZ xr)).trans xr
 rw [hzX] at xr2 hzY
 rw [hzY] at xb dL
 have tX:Bld (w.heap.size+1+1) (w.heap.size+1+1) [] W:=.inl ⟨g_ _,.slice none 0 0,xb,World.ownsRow_nil _ _ _ _,by simp [Value.ownBlock]⟩
 have cO:ExI W w.heap.size (w.heap.size+1) (w.heap.size+1+1) ls st ans 0 W:=⟨g_ _,fun _ _ _ _ h=>h,⟨rfl,rfl,rfl⟩,by rw [h0];exact xd2,tX⟩
 have HX:=gl hX
 have HY:=gl hY
 have HW:=gl (go hW (go im xr2))
 have HLL:=gl HL
 have HSS:=gl HS
 have HG:=gl hg
 have HA:=gl ha
 have KY:Hid (∀ i y,ExI W w.heap.size (w.heap.size+1) (w.heap.size+1+1) ls st ans i y->Below w.heap.size w y/\∀ k l,ls[k]? = some l->y.cell? ⟨w.heap.size+1,k,none⟩=some (str l)):=gl (fun i y h=>by
  refine ⟨⟨h.os.1.trans im.os,h.os.2.1.trans im.tape,h.os.2.2.trans im.output,h_ im.size h.size,fun j hj=>?_⟩,fun k l hk=>?_⟩
  ·have hx:w.heap[j]? = some w.heap[j]:=Array.getElem?_eq_getElem hj
   rw [hx]
   exact h.keep j _ (by omega) (by omega) ((im.block j hj).trans hx)
  ·have hr:=h.keep (w.heap.size+1) _ (by omega) (by omega) xr2
   simp only [World.cell?,hr]
   have lE:=(List.getElem?_eq_some_iff.1 hk).1
   rw [List.map_append]
   simp [List.getElem?_append_left,hk,lE]
   exact (List.getElem?_eq_some_iff.1 hk).2)
 clear hX hY hW dR ox bE lx im xd xd2 xr xr2 xb tX HL HS hg hm ha h0 hl
 obtain ⟨n,fb⟩:=zzN (ls.length)
 rw [fb] at CS HSS HA hll ⊢
 obtain ⟨sc,rX⟩:=zzN (qW ls)
 rw [rX] at CS hnI hll ⊢
 have HN:=gl fb
 clear rX fb hn
 go_enter Tryz.func9,Tryz.ntmps9
 go_upto_region 4 with (fail)
 rw [HX.out]
 go_wp2_with fail
 (with_reducible refine CS.out.mono ?_)
 rintro en y1 ⟨rfl,e1⟩
 subst e1
 rw [HY.out]
 go_upto_region 6 with (fail)
 rw [HW.out.1]
 have aj:IntKind.i64.wrap (((n+1:Nat):Int)-1)=(n:Int):=by rw [wrap_lowN _ (by omega) (by omega)];omega
 have hw1':IntKind.i64.wrap ((n:Int)+1-1)=(n:Int):=by rw [wrap_lowN _ (by omega) (by omega)];omega
 have hn0:(0:Int)<=(n:Int):=by omega
 have b8:(n:Int)<=(n:Int)+1:=by omega
 go_wp2_with fail
 clear aj hw1' hn0 b8 CS
 go_loopw [21] (fun x wr=>∃ (i:Nat) (wz:World),wz=wr/\i<=n/\x=.int .i64 i/\ExI W w.heap.size (w.heap.size+1) (w.heap.size+1+1) ls st ans i wz) (fun x _=>n-(intOf x).toNat)
 case atStart=>exact ⟨0,_,rfl,Nat.zero_le _,rfl,cO⟩
 case round =>
  clear cO
  obtain ⟨i,wr,rfl,hi,rfl,hI⟩:=hrel
  obtain ⟨f7,br⟩:=KY.out i wr hI
  have HI:=gl hI
  have fJ:=gl f7
  clear hI f7
  have hgY:w.heap.size<(w.heap.size+1+1):=by omega
  by_cases bY:i<n
  ·have hltI:(i:Int)<(n:Int):=by omega
   obtain ⟨l,hl⟩:∃ l,ls[i]? = some l:=⟨ls[i]'(by rw [HN.out];exact bY),List.getElem?_eq_getElem _⟩
   have c0:=br i l hl
   have CL:=gl (HLL.out i l hl w.heap.size wr fJ.out (g_ _) HI.out.desk)
   have e_:=HA.out i bY
   have rJ:=fun w0=>zo (P:=Tryz.prog) (ans i) [10] (by simp;omega) w0
   obtain ⟨A,hA⟩:=zzN (ans i++[10])
   rw [hA] at rJ
   have HAA:=gl hA
   have hAl:A.length<=1000001:=by rw [<- hA];simp;omega
   clear br hl hA
   go_wp2_with fail
   (with_reducible refine CL.out.mono ?_)
   rintro en w1 ⟨rfl,bQ,fx⟩
   have lE:∀ j x,j≠w.heap.size->wr.heap[j]? = some x->w1.heap[j]? = some x:=fun j x hj hx=>(bQ.block j (zZ hx) hj).trans hx
   have BZ:Bld (w.heap.size+1+1) (w.heap.size+1+1) (kU ans i) w1:=HI.out.bld.keep fun j x hj hx=>lE j x (by omega) hx
   have cN:=bQ.size
   have hso:=HI.out.size
   have oC:=dL
   have CW:=gl (bld_write (w.heap.size+1+1) (w.heap.size+1+1) (kU ans i) A w1 BZ (by have:=gY ans i (fun j hj=>HA.out j (by omega));omega) (by omega))
   have H1:=gl (go bQ (go fx lE))
   clear bQ fx lE BZ CL e_ c0
   go_wp2_with fail
   (with_reducible refine CW.out.mono ?_)
   rintro en w2 ⟨rfl,sF,bZ⟩
   have H2:Hid (ExI W w.heap.size (w.heap.size+1) (w.heap.size+1+1) ls st ans (i+1) w2):=gl (by
    refine ⟨by have:=bZ.size;omega,fun j x hj hjb hx=>(bZ.block j hjb).trans (H1.out.2.2 j x hj (HI.out.keep j x hj hjb hx)),⟨bZ.os.trans (H1.out.1.os.trans HI.out.os.1),bZ.tape.trans (H1.out.1.tape.trans HI.out.os.2.1),bZ.output.trans (H1.out.1.output.trans HI.out.os.2.2)⟩,(bZ.block _ hgY).trans H1.out.2.1,?_⟩
    rw [kU,HAA.out];exact sF)
   clear sF bZ CW rJ
   go_wp2_with fail
   go_roundw
   case rel=>exact ⟨i+1,_,rfl,by omega,by go_num,H2.out⟩
   case measure=>simp [intOf];omega
  ·obtain rfl:i=n:=by omega
   have fb:¬ ((i:Int)<(i:Int)):=by omega
   obtain ⟨d0,d1,_,_,hgl⟩:=HI.out.desk.cells
   have CS:=gl (HSS.out wr fJ.out)
   have CSZ:=gl (fun (y:World) (hy:Below wr.heap.size wr y)=>HSS.out y (zzT fJ.out hy))
   have CIT:=gl (fun (y:World) (hy:Below wr.heap.size wr y)=>gC (sz:Int) y (HG.out.below (zzT fJ.out hy)) (by omega) (by omega))
   rw [itoa_decN] at CIT
   obtain ⟨O1,aC⟩:∃ O:Bs,[110,111,100,101,115,32]++dec sz=O:=⟨_,rfl⟩
   obtain ⟨O2,iS⟩:∃ O:Bs,O1++[10]=O:=⟨_,rfl⟩
   have ov:(dec sz).length<=4:=qM 3 sz (by omega)
   have s1:=fun w0=>zo (P:=Tryz.prog) [110,111,100,101,115,32] (dec sz) (by simp;omega) w0
   rw [aC] at s1
   have Bn:O1.length<=10:=by rw [<- aC];simp;omega
   have s2:=fun w0=>zo (P:=Tryz.prog) O1 [10] (by simp;omega) w0
   rw [iS] at s2
   have Bm:O2.length<=11:=by rw [<- iS];simp;omega
   have HO:=gl (show O2=[110,111,100,101,115,32]++dec sz++[10] by rw [<- iS,<- aC])
   have eJ:=gY ans i (fun j hj=>HA.out j hj)
   have CW:=gl (fun (y:World) (hy:Below wr.heap.size wr y)=>bld_write (w.heap.size+1+1) (w.heap.size+1+1) (kU ans i) O2 y (HI.out.bld.keep fun j x _ hx=>(hy.block j (zZ hx)).trans hx) (by omega) (by have h1:=hy.size;have h2:=HI.out.size;omega))
   have KEY:=gl (fun (y:World) (hy:Below wr.heap.size wr y)=>(show y.cell? ⟨w.heap.size,0,none⟩=some (str (st i).1)/\y.cell? ⟨w.heap.size,1,none⟩=some (str (st i).2) from ⟨(HI.out.desk.below hy).cells.1,(HI.out.desk.below hy).cells.2.1⟩))
   obtain ⟨D,hD⟩:=zzN (dec sz)
   rw [hD] at s1 CIT
   clear aC iS Bn Bm ov eJ hD CS br d0 d1 hgl
   go_upto_region 11 with (fail)
   refine wp_region_noPanic ?_
   refine kx (fun w'=>w'.cell? ⟨w.heap.size,0,none⟩=some (str (st i).1)/\w'.cell? ⟨w.heap.size,1,none⟩=some (str (st i).2)) (fun _=>false) (by kernel_rfl) ?_
   have bL:(fun w'=>w'.cell? ⟨w.heap.size,0,none⟩=some (str (st i).1)/\w'.cell? ⟨w.heap.size,1,none⟩=some (str (st i).2)) wr.drew:=KEY.out _ (Below.drew (hG _ _))
   refine tk [0,1,2,3,4,5,6,7] bL ?_
   (intro d hd;simp [tkD] at hd;subst hd;simp only [tks,pQ,pZ,pS])
   iterate 8 (refine ⟨?_,?_,?_⟩;rotate_left;· (intro oi ho;simp at ho;subst ho;refine Or.inl ⟨by rfl,fun w' cL=>?_⟩;obtain ⟨e0,e1⟩:=cL;go_simp;try with_reducible rfl))
   (refine on 8 ?_;intro o ho K' hK;simp at ho;subst ho;go_simp)
   have hd:Below wr.heap.size wr wr.drew:=Below.drew (hG _ _)
   go_at_call 28
   (with_reducible refine (CSZ.out _ hd).mono ?_)
   rintro en x8 ⟨rfl,cF⟩
   have o8:Below wr.heap.size wr x8:=Below.trans hd (cF.mono (Below.size hd))
   clear cF
   (refine hK.out _ _ (fun _=>KEY.out _ o8) ?_;clear hK K';try simp only [pQ,pN,pZ,pS])
   have hS8:=KEY.out _ o8
   (refine on 9 ?_;intro o ho K' hK;simp at ho;subst ho;go_simp)
   go_at_call 27
   (with_reducible refine (CIT.out _ o8).mono ?_)
   rintro en x9 ⟨rfl,cB⟩
   have iL:Below wr.heap.size wr x9:=Below.trans o8 (cB.mono (Below.size o8))
   clear cB
   (refine hK.out _ _ (fun _=>KEY.out _ iL) ?_;clear hK K';try simp only [pQ,pN,pZ,pS])
   have hS9:=KEY.out _ iL
   refine tk [10,11] hS9 ?_
   (intro d hd;simp [tkD] at hd;subst hd;simp only [tks,pQ,pZ,pS])
   iterate 2 (refine ⟨?_,?_,?_⟩;rotate_left;· (intro oi ho;simp at ho;subst ho;refine Or.inl ⟨by rfl,fun w' cL=>?_⟩;go_simp;try with_reducible rfl))
   (refine on 12 ?_;intro o ho K' hK;simp at ho;subst ho;go_simp)
   go_at_call 25
   (with_reducible refine (CW.out _ iL).mono ?_)
   rintro en x12 ⟨rfl,sM,cA⟩
   (refine hK.out _ _ (fun _=>⟨(cA.cell (show w.heap.size<w.heap.size+1+1 by omega)).trans (KEY.out _ iL).1,(cA.cell (show w.heap.size<w.heap.size+1+1 by omega)).trans (KEY.out _ iL).2⟩) ?_;clear hK K';try simp only [pQ,pN,pZ,pS])
   refine kQ (by kernel_rfl) (NoPanic.normal ?_) _
   have HW12:=gl (go sM cA)
   have AA:(w.heap.size+1+1)<=x12.heap.size:=by have h1:=iL.size;have h2:=HI.out.size;have h3:=cA.size;omega
   have CRD:=gl (read_any (w.heap.size+1+1) (w.heap.size+1+1) (kU ans i++O2) x12 sM AA)
   have HB9:=gl iL
   clear sM cA iL o8 bL s1 s2 AA
   go_wp2_with fail
   (with_reducible refine CRD.out.mono ?_)
   rintro en x13 ⟨rfl,B4⟩
   have HF:Hid (Below w.heap.size w x13):=gl (by
    have h1:Below w.heap.size w x9:=zzT fJ.out HB9.out
    exact (h1.trans (HW12.out.2.mono (by omega))).trans (B4.mono (by omega)))
   clear B4 CRD
   go_wp2_with fail
   go_ret
   refine ⟨?_,HF.out⟩
   rw [HO.out]
   rfl
mutual
def eta:Ty->Nat->Nat->Bd
 | .mk ts,v,n=>.ask v (etas ts n (n+ts.length)) (.leaf 116) (.leaf 102)
def etas:List Ty->Nat->Nat->List Bd
 | [],_,_=>[]
 | t::ts,v,n=>eta t v n::etas ts (v+1) n
end
theorem w_:∀ (ts:List Ty) (v n:Nat),(etas ts v n).length=ts.length
 | [],_,_=>by simp [etas]
 | t::ts,v,n=>by rw [etas,List.length_cons,w_ ts,List.length_cons]
theorem etas_at:∀ (ts:List Ty) (v n k:Nat) (t:Ty),ts[k]? = some t->(etas ts v n)[k]? = some (eta t (v+k) n)
 | [],v,n,k,t,h=>by simp at h
 | a::ts,v,n,k,t,h=>by
   rw [etas]
   cases k with
   | zero=>simp at h;subst h;simp
   | succ k=>simp only [List.getElem?_cons_succ] at *;rw [etas_at ts (v+1) n k t h,show v+1+k=v+(k+1) from by omega]
def cost:Bd->Nat
 | .leaf c=>if c=117 then 1 else 2
 | .ask _ ss y n=>4+costs ss+cost y+cost n
where costs:List Bd->Nat
 | []=>0
 | s::ss=>1+cost s+costs ss
theorem ev_bd {d l v n:Nat} {ss:List Bd} {y no b':Bd} {t:Ty} {env e:List Mn} {st:List Gf} (h:env[v]? = some (.bd t b' e)) :
 ev (d+1) (l+1) (.ask v ss y no) env n st=ev d l b' (e++kL env t.args ss) n (⟨y,no,env⟩::st):=by rw [ev.eq_def];simp only [h]
theorem ev_op {d l v n o:Nat} {ss:List Bd} {y no:Bd} {t:Ty} {env:List Mn} {st:List Gf} (h:env[v]? = some (.op o t)) :
 ev (d+1) (l+1) (.ask v ss y no) env n st=(zt (ev d) env n l t.args ss).bind fun x=>(ev d x.2 y env n st).bind fun z=>(ev d z.2 no env n st).bind fun u=>some (.ask o x.1 z.1 u.1,u.2):=by rw [ev.eq_def];simp only [h];rfl
theorem ev_u {d l n:Nat} {env:List Mn} {st:List Gf}:ev (d+1) (l+1) (.leaf 117) env n st=some (.leaf 117,l):=by rw [ev.eq_def];simp
theorem ev_end {d l n:Nat} {c:UInt8} {env:List Mn}:ev (d+1) (l+1) (.leaf c) env n []=some (.leaf c,l):=by rw [ev.eq_def];simp
theorem ev_back {d l n:Nat} {c:UInt8} (h:c≠117) {env:List Mn} {f:Gf} {st:List Gf}:ev (d+1) (l+1) (.leaf c) env n (f::st)=ev d l (if c=116 then f.yes else f.no) f.env n st:=by rw [ev.eq_def];simp only [if_neg h]
theorem owns_at {env:List Mn}:∀ (ts:List Ty) (ss:List Bd) (k:Nat) (t:Ty) (s:Bd),ts[k]? = some t->ss[k]? = some s->(kL env ts ss)[k]? = some (.bd t s env)
 | [],ss,k,t,s,h,_=>by simp at h
 | t'::ts,[],k,t,s,_,h=>by simp at h
 | t'::ts,s'::ss,k,t,s,h1,h2=>by
   rw [kL]
   cases k with
   | zero=>simp at h1 h2;subst h1;subst h2;rfl
   | succ k=>simp only [List.getElem?_cons_succ] at *;exact owns_at ts ss k t s h1 h2
theorem wv {env:List Mn}:∀ (ts:List Ty) (ss:List Bd),ts.length=ss.length->(kL env ts ss).length=ts.length
 | [],[],_=>by rw [kL]
               ·rfl
               ·intros;contradiction
 | [],s::ss,h=>by simp at h
 | t::ts,[],h=>by simp at h
 | t::ts,s::ss,h=>by rw [kL];simp [wv ts ss (by simpa using h)]
theorem opens_at:∀ (ts:List Ty) (n k:Nat) (t:Ty),ts[k]? = some t->(zq n ts)[k]? = some (.op (n+k) t)
 | [],n,k,t,h=>by simp at h
 | a::ts,n,k,t,h=>by
   rw [zq]
   cases k with
   | zero=>simp at h;subst h;rfl
   | succ k=>simp only [List.getElem?_cons_succ] at *;rw [opens_at ts (n+1) k t h,show n+1+k=n+(k+1) from by omega]
theorem kJ:∀ (ts:List Ty) (n:Nat),(zq n ts).length=ts.length
 | [],n=>by rw [zq];rfl
 | t::ts,n=>by rw [zq];simp [kJ ts]
structure Copies (env:List Mn) (hand:List Ty):Prop where
 len:env.length=hand.length
 each:∀ i t,hand[i]? = some t->∃ (v:Nat) (e:List Mn),env[i]? = some (Mn.bd t (eta t v e.length) e)/\e[v]? = some (Mn.op i t)
theorem Copies.more {env:List Mn} {hand:List Ty} (h:Copies env hand) (e2:List Mn) (ts:List Ty) :
 Copies (env++kL (e2++zq hand.length ts) ts (etas ts e2.length (e2.length+ts.length))) (hand++ts):=by
 have hl:=h.len
 refine ⟨?_,fun i t hi=>?_⟩
 ·rw [List.length_append,List.length_append,wv _ _ (w_ _ _ _).symm,hl]
 ·rcases Nat.lt_or_ge i hand.length with bY | lM
  ·rw [List.getElem?_append_left bY] at hi
   obtain ⟨v,e,h1,h2⟩:=h.each i t hi
   exact ⟨v,e,by rw [List.getElem?_append_left (by omega)];exact h1,h2⟩
  ·rw [List.getElem?_append_right lM] at hi
   have h1:=etas_at ts e2.length (e2.length+ts.length) _ t hi
   have h2:=owns_at (env:=e2++zq hand.length ts) ts _ _ t _ hi h1
   have h3:=opens_at ts hand.length _ t hi
   refine ⟨e2.length+(i-hand.length),e2++zq hand.length ts,?_,?_⟩
   ·rw [List.getElem?_append_right (by omega),hl,h2,List.length_append,kJ]
   ·rw [List.getElem?_append_right (by omega),Nat.add_sub_cancel_left,h3,show hand.length+(i-hand.length)=i from by omega]
end Go.Proofs.YtepgfdhkkjfmhacGreatDoor

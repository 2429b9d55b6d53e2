/- Walks of functions that the statement reaches, and plain words. No conditions. -/
import Derived.Laws.Entries
import Derived.Test.YtfedjhgaeikjmaaGreatDoorQ4
set_option linter.unusedVariables false
set_option linter.unusedSimpArgs false
set_option maxHeartbeats 8000000
namespace Go.Proofs.YtfedjhgaeikjmaaGreatDoor
open Go.RowKit
section
variable {P:Program} {ops:Array Oper} {Q:Exit->Act->World->Prop} {md:Region.Mode} {S:World->Prop} {T:Nat->Bool}
def jU (P:Program) (md:Region.Mode) (ops:Array Oper) (Q:Exit->Act->World->Prop) (S:World->Prop) (T:Nat->Bool):Nat->Array Bool->Act->World->Prop
 | 0,listed,a,w=>Region.ready md ops listed=[]/\Q .normal a w
 | fuel+1,listed,a,w =>
   (Region.ready md ops listed=[]->Q .normal a w) /\
   ∀ i∈Region.ready md ops listed,wpOp P ops Q i (fun a' w'=>(T i=false->S w')/\jU P md ops Q S T fuel (listed.setIfInBounds i true) a' w') a w
theorem wR:∀ (fuel:Nat) (listed:Array Bool) (a:Act) (w:World),jU P md ops Q S T fuel listed a w->wpAny P md ops Q fuel listed a w
 | 0,_,_,_,h=>h
 | fuel+1,_,_,_,h=>⟨h.1,fun i hi=>wpOp_mono (fun a' w' h'=>wR fuel _ a' w' h'.2) (h.2 i hi)⟩
theorem yH {md:Region.Mode} {ops:Array Oper} {L:Array Bool} {i j:Nat} (h:j∈Region.ready md ops L) (gN:j≠i):j∈Region.ready md ops (L.setIfInBounds i true):=by
 unfold Region.ready at *
 rw [List.mem_filter] at *
 refine ⟨h.1,?_⟩
 have h2:=h.2
 rw [Bool.and_eq_true] at *
 refine ⟨?_,?_⟩
 ·have e:(L.setIfInBounds i true).getD j true=L.getD j true:=by
   simp only [Array.getD_eq_getD_getElem?]
   rw [Array.getElem?_setIfInBounds_ne (fun e=>gN e.symm)]
  rw [e];exact h2.1
 ·have h3:=h2.2
  cases ho:ops[j]? with
  | none=>rw [ho] at h3;simp at h3
  | some o =>
    rw [ho] at h3
    simp only [Option.map_some,Option.getD_some] at h3 ⊢
    rw [Array.all_eq_true'] at *
    intro e he
    have h4:=h3 e he
    rw [Bool.or_eq_true] at *
    rcases h4 with h4 | h4
    ·exact .inl h4
    ·refine .inr ?_
     by_cases hk:e.on=i
     ·rw [hk]
      simp only [Array.getD_eq_getD_getElem?] at h4 ⊢
      rw [hk] at h4
      rcases Nat.lt_or_ge i L.size with h' | h'
      ·simp [h']
      ·rw [Array.getElem?_eq_none h'] at h4;simp at h4
     ·simp only [Array.getD_eq_getD_getElem?] at h4 ⊢
      rw [Array.getElem?_setIfInBounds_ne (fun e=>hk e.symm)];exact h4
theorem vf {md:Region.Mode} {ops:Array Oper} {L:Array Bool} {j:Nat} (h:j∈Region.ready md ops L) :
 L.getD j true=false/\∃ o,ops[j]? = some o/\∀ e∈o.after,Region.binds md e=true->L.getD e.on false=true:=by
 unfold Region.ready at h
 rw [List.mem_filter] at h
 have h2:=h.2
 rw [Bool.and_eq_true] at h2
 refine ⟨by simpa using h2.1,?_⟩
 cases ho:ops[j]? with
 | none=>have:=h2.2;rw [ho] at this;simp at this
 | some o =>
   refine ⟨o,rfl,fun e he hb=>?_⟩
   have h3:=h2.2
   rw [ho] at h3
   simp only [Option.map_some,Option.getD_some] at h3
   rw [Array.all_eq_true'] at h3
   have h4:=h3 e he
   rw [Bool.or_eq_true] at h4
   rcases h4 with h4 | h4
   ·rw [hb] at h4;simp at h4
   ·exact h4
theorem wpAnyS_first {i:Nat} {oi:Oper} {v:Value} (hi:ops[i]? = some oi) (aF:∀ (j:Nat) (o:Oper) cs b,ops[j]? = some o->o.op≠.select cs b)
 (hQ:∀ c a w,Q (.panic c) (a.put oi.dst v) w->Q (.panic c) a w)
 (hT:∀ j oj,ops[j]? = some oj->T j=true->∃ e∈oj.after,Region.binds md e=true/\e.on=i) (hTi:T i=false) :
 ∀ (fuel:Nat) (listed:Array Bool) (a:Act) (w:World),
   (∀ j oj,ops[j]? = some oj->j≠i->listed.getD j true=false->(∀ e∈oj.after,Region.binds md e=true->e.on≠i)->oi.apart ops oj=true) ->
   i∈Region.ready md ops listed->YieldsIf P ops S oi v a->S w ->
   jU P md ops Q S T fuel (listed.setIfInBounds i true) (a.put oi.dst v) w->jU P md ops Q S T (fuel+1) listed a w:=by
 intro fuel
 induction fuel with
 | zero =>
   intro listed a w _ hr hy hS H
   refine ⟨fun h=>(by rw [h] at hr;cases hr),fun j hj=>?_⟩
   by_cases mB:j=i
   ·subst mB;exact hy.wpOp hi hS ⟨fun _=>hS,H⟩
   ·have:=yH hj mB
    rw [H.1] at this
    cases this
 | succ fuel ih =>
   intro listed a w cH hr hy hS H
   refine ⟨fun h=>(by rw [h] at hr;cases hr),fun j hj=>?_⟩
   by_cases mB:j=i
   ·subst mB;exact hy.wpOp hi hS ⟨fun _=>hS,H⟩
   ·have h1:=H.2 j (yH hj mB)
    obtain ⟨iR,oj,hoj,hH⟩:=vf hj
    have a_:∀ e∈oj.after,Region.binds md e=true->e.on≠i:=fun e he hb heq=>by
     have h1:=hH e he hb
     have h0:=(vf hr).1
     rw [heq] at h1
     simp only [Array.getD_eq_getD_getElem?] at h0 h1
     rcases Nat.lt_or_ge i listed.size with h' | h'
     ·simp [h'] at h0 h1;rw [h0] at h1;cases h1
     ·simp [Array.getElem?_eq_none h'] at h1
    have hTj:T j=false:=by
     cases hT':T j with
     | false=>rfl
     | true =>
       obtain ⟨e,he,hb,heq⟩:=hT j oj hoj hT'
       exact absurd heq (a_ e he hb)
    have h2:=wpOp_putIf hoj (cH j oj hoj mB iR a_) (fun cs b=>aF i oi cs b hi) (fun cs b=>aF j oj cs b hoj) hQ hy h1
    have sJ:∀ k ok,ops[k]? = some ok->k≠i->(listed.setIfInBounds j true).getD k true=false ->
     (∀ e∈ok.after,Region.binds md e=true->e.on≠i)->oi.apart ops ok=true:=fun k ok hk hki tW cj=>by
     refine cH k ok hk hki ?_ cj
     by_cases hjk:j=k
     ·subst hjk;exact iR
     ·simp only [Array.getD_eq_getD_getElem?] at tW ⊢
      rw [Array.getElem?_setIfInBounds_ne hjk] at tW;exact tW
    refine wpOp_mono (fun a' w' h3=>⟨h3.2.1,ih (listed.setIfInBounds j true) a' w' sJ (yH hr (Ne.symm mB)) h3.1 (h3.2.1 hTj) ?_⟩) h2
    rw [Array.setIfInBounds_comm _ _ mB]
    exact h3.2.2
def waitT (md:Region.Mode) (ops:Array Oper) (T:Nat->Bool) (i:Nat):Bool :=
 !T i && (List.range ops.size).all fun j=>!T j || ((ops[j]?).map fun o=>o.after.any fun e=>Region.binds md e && e.on == i).getD true
theorem waitT_spec {i:Nat} (h:waitT md ops T i=true):T i=false/\∀ j oj,ops[j]? = some oj->T j=true->∃ e∈oj.after,Region.binds md e=true/\e.on=i:=by
 unfold waitT at h
 rw [Bool.and_eq_true] at h
 refine ⟨by simpa using h.1,fun j oj hj hT=>?_⟩
 have h2:=h.2
 rw [List.all_eq_true] at h2
 have h3:=h2 j (List.mem_range.2 (Array.getElem?_eq_some_iff.1 hj).1)
 rw [hT,hj] at h3
 simp only [Bool.not_true,Bool.false_or,Option.map_some,Option.getD_some] at h3
 rw [Array.any_eq_true'] at h3
 obtain ⟨e,he,h4⟩:=h3
 rw [Bool.and_eq_true,beq_iff_eq] at h4
 exact ⟨e,he,h4⟩
theorem wpAnyS_take (i:Nat) {v:Value} {fuel:Nat} {listed:Array Bool} {a:Act} {w:World}
 (hs:Region.noSelect ops=true) (hf:Region.free md ops listed i=true) (hr:(Region.ready md ops listed).contains i=true) (ht:waitT md ops T i=true)
 (hQ:∀ d c a w,Q (.panic c) (a.put d v) w->Q (.panic c) a w) (hS:S w)
 (hy:∀ oi,ops[i]? = some oi->YieldsIf P ops S oi v a)
 (h:∀ d,(ops[i]?).bind (·.dst)=d->jU P md ops Q S T fuel (listed.setIfInBounds i true) (a.put d v) w):jU P md ops Q S T (fuel+1) listed a w:=by
 have hm:i∈Region.ready md ops listed:=by simpa using hr
 obtain ⟨_,oi,hi,_⟩:=vf hm
 obtain ⟨h1,h2⟩:=waitT_spec ht
 exact wpAnyS_first hi (Region.noSelect_spec hs) (fun c a w=>hQ _ c a w) h2 h1 fuel listed a w (Region.free_spec hi hf) hm (hy oi hi) hS (h _ (by rw [hi];rfl))
def tks (P:Program) (ops:Array Oper) (S:World->Prop):List Nat->List (Option Tmp)->Act->(Act->Prop)->Prop
 | i::l,d::ds,a,K=>∃ v,(∀ oi,ops[i]? = some oi->YieldsIf P ops S oi v a)/\tks P ops S l ds (a.put d v) K
 | [],_,a,K=>K a
 | _::_,[],_,_=>False
def tkOk (md:Region.Mode) (ops:Array Oper) (T:Nat->Bool):List Nat->Array Bool->Bool
 | [],_=>true
 | i::l,L=>Region.free md ops L i && ((Region.ready md ops L).contains i && (waitT md ops T i && tkOk md ops T l (L.setIfInBounds i true)))
def tkL:List Nat->Array Bool->Array Bool
 | [],L=>L
 | i::l,L=>tkL l (L.setIfInBounds i true)
def tkN:List Nat->Nat->Nat
 | [],n=>n
 | _::l,n=>tkN l n+1
def tkD (ops:Array Oper):List Nat->List (Option Tmp)
 | []=>[]
 | i::l=>(ops[i]?).bind (·.dst)::tkD ops l
theorem tk (is:List Nat) {fuel:Nat} {listed:Array Bool} {a:Act} {w:World} (hS:S w) (h:∀ ds,tkD ops is=ds->tks P ops S is ds a (fun a'=>jU P md ops Q S T fuel (tkL is listed) a' w))
 (gy:(Region.noSelect ops && tkOk md ops T is listed)=true:=by kernel_rfl) (hQ:∀ v d c a w,Q (.panic c) (a.put d v) w->Q (.panic c) a w:=by exact fun _ _ _ _ _ h=>h):jU P md ops Q S T (tkN is fuel) listed a w:=by
 have h':=h _ rfl
 clear h
 rw [Bool.and_eq_true] at gy
 obtain ⟨hs,gy⟩:=gy
 induction is generalizing listed a with
 | nil=>exact h'
 | cons i l ih =>
   rw [tkOk,Bool.and_eq_true,Bool.and_eq_true,Bool.and_eq_true] at gy
   rw [tkD,tks] at h'
   obtain ⟨v,hy,hk⟩:=h'
   exact wpAnyS_take i hs gy.1 gy.2.1 gy.2.2.1 (fun d c a w=>hQ v d c a w) hS hy (fun d hd=>by
    rw [hd] at hk
    exact ih hk gy.2.2.2)
theorem pQ (l:List Value) (df:List Deferred) (k:Nat) (v:Value):Act.put ⟨l.toArray,df⟩ (some k) v=⟨(l.set k v).toArray,df⟩:=by simp [Act.put]
theorem pN (a:Act) (v:Value):Act.put a none v=a:=rfl
theorem pZ (x y:Value) (l:List Value):(x::l).set 0 y=y::l:=rfl
theorem pS (x y:Value) (l:List Value) (n:Nat):(x::l).set (n+1) y=x::l.set n y:=rfl
theorem wpAnyS_one (i:Nat) {fuel:Nat} {listed:Array Bool} {a:Act} {w:World} (hr:Region.ready md ops listed=[i])
 (h:∀ o,ops[i]? = some o->∀ K':Act->World->Prop,Shut (∀ a w,(T i=false->S w)->jU P md ops Q S T fuel (listed.setIfInBounds i true) a w->K' a w) ->
  if Region.wanted o (yielded ops a.tmps)=true then Oper.wp P o a w K' Q else K' (a.put o.dst undef) w):jU P md ops Q S T (fuel+1) listed a w:=by
 refine ⟨fun h0=>by rw [hr] at h0;simp at h0,fun j hj=>?_⟩
 rw [hr] at hj
 simp only [List.mem_singleton] at hj
 subst hj
 obtain ⟨_,o,ho,_⟩:=vf (md:=md) (ops:=ops) (L:=listed) (j:=j) (by rw [hr];simp)
 exact wpOp_step ho (fun K' hK=>h o ho K' (fun a w hS hW=>hK a w ⟨hS,hW⟩))
theorem on (i:Nat) {fuel:Nat} {listed:Array Bool} {a:Act} {w:World}
 (h:∀ o,ops[i]? = some o->∀ K':Act->World->Prop,Shut (∀ a w,(T i=false->S w)->jU P md ops Q S T fuel (listed.setIfInBounds i true) a w->K' a w) ->
  if Region.wanted o (yielded ops a.tmps)=true then Oper.wp P o a w K' Q else K' (a.put o.dst undef) w) (hr:Region.ready md ops listed=[i]:=by kernel_rfl):jU P md ops Q S T (fuel+1) listed a w :=
 wpAnyS_one i hr h
theorem zo {listed:Array Bool} {a:Act} {w:World} (hr:Region.ready md ops listed=[]) (h:Q .normal a w) :
 ∀ fuel,jU P md ops Q S T fuel listed a w
 | 0=>⟨hr,h⟩
 | _+1=>⟨fun _=>h,by rw [hr];simp⟩
theorem zl {id:Nat} {a:Act} {w:World} (S:World->Prop) (T:Nat->Bool) (hm:P.follows .mixedOrders=true)
 (h:jU P .any ops Q S T ops.size (Array.replicate ops.size false) a w.drew):(Code.region id ops true).wp P Q a w :=
 wp_region_any hm (wR _ _ _ _ h)
end
theorem yd {m:Nat->Prop} {w6 w7:World} {o:Obj} {ob f:Nat} {u:Value} (hb:But m (w6.alloc o) w7) (hm:¬ m ob) (h:w6.cell? ⟨ob,f,none⟩=some u):w7.cell? ⟨ob,f,none⟩=some u:=by
 have gH:=gJ w6 ⟨ob,f,none⟩ h
 rw [hb.cell (p:=⟨ob,f,none⟩) (by rw [zK];exact Nat.lt_succ_of_lt gH) hm]
 exact zV h
theorem yh {m:Nat->Prop} {w6 w7:World} {o:Obj} {ob f:Nat} (hb:But m (w6.alloc o) w7) (hm:¬ m ob) (gH:ob<w6.heap.size) (h:w6.frozen? ⟨ob,f,none⟩=false):w7.frozen? ⟨ob,f,none⟩=false:=by
 rw [World.frozen?_of_block (w:=w6) (by rw [hb.block _ (by rw [zK];omega) hm,Below.heap_alloc _ _ _ gH])]
 exact h
theorem own_thru {wr w5 w6:World} {e:TypeId} {sz n:Nat} {v:Value} {xs:List Value} {rd:Nat} (h:Own wr e sz v n xs) (hg:∀ g,v.ownBlock=some g->g≠rd) (gR:But (· = rd) wr w5) (gB:But (· = rd) w5 w6):Own w6 e sz v n xs :=
 h.keep fun g o hgo ho=>by
  have gH:=zZ ho
  rw [gB.block g (gY gH gR.size) (hg g hgo),gR.block g gH (hg g hgo)];exact ho
theorem kZ {rd:Nat} {w w':World} (hb:But (· = rd) w w') {b o:Nat} {u:Value} (gN:b≠rd) (h:w.cell? ⟨b,o,none⟩=some u):w'.cell? ⟨b,o,none⟩=some u :=
 (hb.cell (p:=⟨b,o,none⟩) (gJ w ⟨b,o,none⟩ h) gN).trans h
theorem vy {rd:Nat} {w w':World} (hb:But (· = rd) w w') {b o:Nat} (gN:b≠rd) (gH:b<w.heap.size) (h:w.frozen? ⟨b,o,none⟩=false):w'.frozen? ⟨b,o,none⟩=false:=by
 rw [World.frozen?_of_block (w:=w) (hb.block b gH gN)];exact h
def p9 (size:Nat) (v:Value) (n:Nat) (xs:List Value) (w:World):Prop :=
 xs.length=n*size/\((∃ b,v=.slice (some b) n n/\∀ (j:Nat) u,xs[j]? = some u->w.cell? (b.add j)=some u)\/(v=.slice none 0 0/\n=0))
theorem p9.ofRep {F:Nat->Prop} {w:World} {e:TypeId} {sz n:Nat} {cs:List DV} {a:Option Addr} {c:Nat} (h:Rep F w (.sl e sz n cs) (.slice a n c)) (ep:∀ us,zD F w cs us->∀ u∈us,u.oneCell'=true) :
 ∃ xs,zD F w cs xs/\p9 sz (.slice a n n) n xs w:=by
 obtain ⟨xs,h1,h2,_,h4⟩:=zN.ofRep h ep
 refine ⟨xs,h1,h2,?_⟩
 rcases h4 with ⟨b,c',e1,h5⟩ | ⟨e1,rfl⟩
 ·injection e1 with e2 e3 e4
  subst e2
  exact .inl ⟨b,rfl,h5⟩
 ·injection e1 with e2 e3 e4
  subst e2
  exact .inr ⟨rfl,rfl⟩
theorem p9.drew {w:World} {size n:Nat} {v:Value} {xs:List Value} (h:p9 size v n xs w):p9 size v n xs w.drew:=h
theorem zh {w:World} {b o:Nat} {c:Array Value} {e:TypeId} {u:Value} (h:w.heap[b]? = some (.cells c e (0,0))):(w.setCell ⟨b,o,none⟩ u).heap[b]? = some (.cells (c.setIfInBounds o u) e (0,0)):=by
 have gH:=zZ h
 have h':w.heap[b]=.cells c e (0,0):=by simpa [Array.getElem?_eq_getElem gH] using h
 show (w.heap.modify b _)[b]? = _
 rw [Array.getElem?_eq_getElem (by simpa using gH),Array.getElem_modify_self,h']
 simp
structure BoxRes (F0:Nat->Prop) (W:World) (g:Nat) (o:Obj) (d:List DV) (v:List Value) (Z:World):Prop where
 below:Below W.heap.size W Z
 new:W.heap.size<=g
 blk:Z.heap[g]? = some o
 rep:zD (fun i=>(F0 i\/W.heap.size<=i)/\i≠g) Z d v
theorem BoxRes.first {F0:Nat->Prop} {W V0 V1 Z:World} {o:Obj} {d:List DV} {v:List Value} (hF0:∀ i,F0 i->i<W.heap.size) (h0:Below W.heap.size W V0) (rz:V0.heap.size=W.heap.size+1) (hb:Below V0.heap.size V0 V1) (hr:zD (fun i=>F0 i\/V0.heap.size<=i) V1 d v)
 (rQ:But (fun i=>i=W.heap.size) V1 Z) (dL:Z.heap[W.heap.size]? = some o):BoxRes F0 W W.heap.size o d v Z:=by
 have hz:=hb.size
 have gW:Below W.heap.size W V1:=h0.trans (hb.mono (by omega))
 refine ⟨gW.trans (rQ.toBelow (by omega) fun i hi e=>by omega),gQ _,dL,?_⟩
 refine (Rep.keep fun i x hi hx=>?_).2 _ _ hr
 have gN:i≠W.heap.size:=by rcases hi with h | h;have:=hF0 i h;omega;omega
 exact ⟨⟨hi.elim .inl (fun h=>.inr (by omega)),gN⟩,by rw [rQ.block i (zZ hx) gN];exact hx⟩
theorem BoxRes.last {F0:Nat->Prop} {W V1 Z:World} {z o:Obj} {d:List DV} {v:List Value} (hb:Below W.heap.size W V1) (hr:zD (fun i=>F0 i\/W.heap.size<=i) V1 d v)
 (rQ:But (fun i=>i=V1.heap.size) (V1.alloc z) Z) (dL:Z.heap[V1.heap.size]? = some o):BoxRes F0 W V1.heap.size o d v Z:=by
 have hz:=hb.size
 refine ⟨(hb.alloc hz z).trans (rQ.toBelow (by rw [zK];omega) fun i hi e=>by omega),hz,dL,?_⟩
 refine (Rep.keep fun i x hi hx=>?_).2 _ _ hr
 have hl:=zZ hx
 have gN:i≠V1.heap.size:=by omega
 exact ⟨⟨hi,gN⟩,by rw [rQ.block i (by rw [zK];omega) gN,Below.heap_alloc _ _ _ hl];exact hx⟩
def CopyP (l:Pl) (w:World) (en:Ending) (w':World):Prop :=
 ∃ mv pt,en=.returned (.agg #[mv,pt])/\kG w' l mv pt/\Below w.heap.size w w'/\∀ g,mv.ownBlock=some g\/pt.ownBlock=some g->w.heap.size<=g
theorem zT {w:World} {b:Nat} {x y:Value} {T:TypeId} (h:w.heap[b]? = some (.cells #[x,y] T (0,0))):w.cell? ⟨b,0,none⟩=some x/\w.cell? ⟨b,1,none⟩=some y/\w.frozen? ⟨b,0,none⟩=false/\w.frozen? ⟨b,1,none⟩=false :=
 ⟨by simp [World.cell?,h],by simp [World.cell?,h],by simp [World.frozen?,h],by simp [World.frozen?,h]⟩
theorem set_two {w:World} {b:Nat} {x y:Value} {T:TypeId} (h:w.heap[b]? = some (.cells #[x,y] T (0,0))) (u v:Value):((w.setCell ⟨b,0,none⟩ u).setCell ⟨b,1,none⟩ v).heap[b]? = some (.cells #[u,v] T (0,0)):=by
 rw [zh (zh h)];rfl
set_option maxRecDepth 100000 in
theorem clone_any (l:Pl) (mv pt:Value) (w:World) (h1:zN 1 mv l.length (ju l) w) (h2:zN 1 pt l.length (jv l) w) (hl:l.length<=100000) :
 Calls Tryz.prog 35 #[.agg #[mv,pt]] w (CopyP l w):=by
 obtain ⟨a1,c1,rfl⟩:=h1.slice
 obtain ⟨a2,c2,rfl⟩:=h2.slice
 obtain ⟨W,hW⟩:=zzN ((w.alloc (.cells #[.slice a1 l.length c1,.slice a2 l.length c2] 33)).alloc (.cells #[.slice none 0 0,.slice none 0 0] 33))
 have gG:Below w.heap.size w W:=by rw [<- hW];exact ((gV _ _).alloc (gQ _) _).alloc (by simp) _
 have hz:W.heap.size=w.heap.size+2:=by rw [<- hW];simp
 have b0:W.heap[w.heap.size]? = some (.cells #[.slice a1 l.length c1,.slice a2 l.length c2] 33 (0,0)):=by rw [<- hW];exact zG (kJ _ _)
 have b1:W.heap[w.heap.size+1]? = some (.cells #[.slice none 0 0,.slice none 0 0] 33 (0,0)):=by
  rw [<- hW]
  have:=kJ (w.alloc (.cells #[.slice a1 l.length c1,.slice a2 l.length c2] 33)) (.cells #[.slice none 0 0,.slice none 0 0] 33)
  rwa [zK] at this
 have g1:zN 1 (.slice a1 l.length c1) l.length (ju l) W:=h1.below gG
 have g2:zN 1 (.slice a2 l.length c2) l.length (jv l) W:=h2.below gG
 have HW:=gZ hW
 have HB:=gZ (gK gG (gK hz (gK b0 b1)))
 have KEY:Hid (∀ x,Below W.heap.size W x->x.cell? ⟨w.heap.size,0,none⟩=some (.slice a1 l.length c1)/\x.cell? ⟨w.heap.size,1,none⟩=some (.slice a2 l.length c2)):=gZ (fun x hx=>by
  have h:=(hx.block _ (zZ HB.out.2.2.1)).trans HB.out.2.2.1
  exact ⟨(zT h).1,(zT h).2.1⟩)
 clear hW h1 h2 gG hz b0 b1
 go_enter Tryz.func35,Tryz.ntmps35
 go_wp2_with fail
 rw [HW.out]
 refine wp_region_noPanic ?_
 refine zl (fun w'=>Below W.heap.size W w') (fun i=>i == 7) (by kernel_rfl) ?_
 have gT:(fun w'=>Below W.heap.size W w') W.drew:=Below.drew (gV _ _)
 refine tk [0,1,3,4] gT ?_
 (intro d hd;simp [tkD] at hd;subst hd;simp only [tks,pQ,pZ,pS])
 iterate 4 (refine ⟨?_,?_,?_⟩;rotate_left;· (intro oi ho;simp at ho;subst ho;refine Or.inl ⟨by rfl,fun w' gI=>?_⟩;obtain ⟨e0,e1⟩:=KEY.out w' gI;go_simp;try with_reducible rfl))
 (refine on 2 ?_;intro o ho K' hK;simp at ho;subst ho)
 refine kK (by rfl) _ _ _ (by rfl) 9 (str []) 1 16 Tryz.underlying30 Tryz.infoStr rfl (by decide) (.slice none 0 0) 0 [] (by rfl) (World.ownsRow_nil _ _ _ _) _ l.length (ju l) (by rfl) (g1.drew) (by unfold maxLen;omega) (by omega) ?_
 intro ax cx wx hox nQ hgx
 simp only [Nat.zero_add,List.nil_append] at hox hgx ⊢
 have lT:Below W.heap.size W wx:=Below.trans gT (nQ.toBelow (Below.size gT) fun i hi e=>by simp [Value.ownBlock] at e)
 have hfx:∀ g,(Value.slice ax l.length cx).ownBlock=some g->W.heap.size<=g:=fun g hg=>by rcases hgx g hg with h | h;simp [Value.ownBlock] at h;exact Nat.le_of_eq h.symm
 (refine hK.out _ _ (fun _=>lT) ?_;clear hK K';try simp only [pQ,pN,pZ,pS])
 (refine on 5 ?_;intro o ho K' hK;simp at ho;subst ho)
 refine kK (by rfl) _ _ _ (by rfl) 3 (.int .i64 0) 1 8 Tryz.underlying31 Tryz.infoInt rfl (by decide) (.slice none 0 0) 0 [] (by rfl) (World.ownsRow_nil _ _ _ _) _ l.length (jv l) (by rfl) (g2.below lT) (by unfold maxLen;omega) (by omega) ?_
 intro ay cy wy hoy b8 hgy
 simp only [Nat.zero_add,List.nil_append] at hoy hgy ⊢
 have lS:Below wx.heap.size wx wy:=b8.toBelow (gQ _) fun i hi e=>by simp [Value.ownBlock] at e
 have hBy:Below W.heap.size W wy:=zzT lT lS
 have sK:∀ g,(Value.slice ay l.length cy).ownBlock=some g->W.heap.size<=g:=fun g hg=>by rcases hgy g hg with h | h;simp [Value.ownBlock] at h;exact gX lT.size (Nat.le_of_eq h.symm)
 (refine hK.out _ _ (fun _=>hBy) ?_;clear hK K';try simp only [pQ,pN,pZ,pS])
 (refine on 6 ?_;intro o ho K' hK;simp at ho;subst ho;go_simp)
 (refine hK.out _ _ (fun _=>hBy) ?_;clear hK K';try simp only [pQ,pN,pZ,pS])
 (refine on 7 ?_;intro o ho K' hK;simp at ho;subst ho)
 have b1:=(hBy.block _ (zZ HB.out.2.2.2)).trans HB.out.2.2.2
 obtain ⟨z0,z1,z2,z3⟩:=zT b1
 go_simp
 (refine hK.out _ _ (fun h=>by simp at h) ?_;clear hK K';try simp only [pQ,pN,pZ,pS])
 refine zo (by kernel_rfl) (NoPanic.normal ?_) _
 go_wp2_with fail
 have hV:=set_two b1 (.slice ax l.length cx) (.slice ay l.length cy)
 obtain ⟨s0,s1,_,_⟩:=zT hV
 have hz:=HB.out.2.1
 have bz:=((zzT HB.out.1 hBy).setCell (p:=⟨w.heap.size+1,0,none⟩) (Nat.le_succ _) (.slice ax l.length cx)).setCell (p:=⟨w.heap.size+1,1,none⟩) (Nat.le_succ _) (.slice ay l.length cy)
 refine bodyPost_ret (v:=.agg #[.slice ax l.length cx,.slice ay l.length cy]) (by simp [results,Tryz.results35,go_sem,s0,s1]) rfl ?_
 refine ⟨_,_,rfl,⟨?_,?_⟩,bz,fun g hg=>?_⟩
 ·exact (hox.keep fun g o _ ho=>by rw [lS.block g (zZ ho)];exact ho).keep fun g o hg ho=>by
   have:=hfx g hg
   rw [gU _ _ _ _ (by show g≠w.heap.size+1;omega),gU _ _ _ _ (by show g≠w.heap.size+1;omega)];exact ho
 ·exact hoy.keep fun g o hg ho=>by
   have:=sK g hg
   rw [gU _ _ _ _ (by show g≠w.heap.size+1;omega),gU _ _ _ _ (by show g≠w.heap.size+1;omega)];exact ho
 ·rcases hg with hg | hg
  ·have:=hfx g hg;omega
  ·have:=sK g hg;omega
theorem uV (w:World) (A B:Obj):∃ W,(w.alloc A).alloc B=W/\Below w.heap.size w W/\W.heap.size=w.heap.size+2/\W.heap[w.heap.size]? = some A/\W.heap[w.heap.size+1]? = some B:=by
 refine ⟨_,rfl,((gV _ _).alloc (gQ _) _).alloc (by rw [zK];omega) _,by rw [zK,zK],zG (kJ _ _),?_⟩
 have h:=kJ (w.alloc A) B
 rwa [zK] at h
theorem qC (w:World) (A:Obj):∃ W,w.alloc A=W/\Below w.heap.size w W/\W.heap.size=w.heap.size+1/\W.heap[w.heap.size]? = some A :=
 ⟨_,rfl,(gV _ _).alloc (gQ _) _,by rw [zK],kJ _ _⟩
set_option maxRecDepth 100000 in
theorem with_any (l:Pl) (mv pt:Value) (s:Bs) (p:Int) (w:World) (h1:zN 1 mv l.length (ju l) w) (h2:zN 1 pt l.length (jv l) w) (hl:l.length<=1000) :
 Calls Tryz.prog 68 #[.agg #[mv,pt],str s,.int .i64 p] w (CopyP (l++[(s,p)]) w):=by
 obtain ⟨a1,c1,rfl⟩:=h1.slice
 obtain ⟨a2,c2,rfl⟩:=h2.slice
 obtain ⟨W,hW,gG,hz,b0,b1⟩:=uV w (.cells #[.slice a1 l.length c1,.slice a2 l.length c2] 33) (.cells #[.slice none 0 0,.slice none 0 0] 33)
 obtain ⟨e0,e1,_,_⟩:=zT b0
 have C:=gZ (clone_any l _ _ W (h1.below gG) (h2.below gG) (by omega))
 have HB:=gZ (gK gG (gK hz b1))
 have HW:=gZ hW
 clear hW h1 h2 gG hz b0 b1
 go_enter Tryz.func68,Tryz.ntmps68
 go_upto_region 1 with (fail)
 rw [HW.out]
 go_wp2_with fail
 (with_reducible refine C.out.mono ?_)
 rintro en w1 ⟨mv1,pt1,rfl,fO,gW,sW⟩
 obtain ⟨a3,c3,e3⟩:=fO.1.slice
 obtain ⟨a4,c4,e4⟩:=fO.2.slice
 subst e3;subst e4
 obtain ⟨W1,rX,i6,bw,bx⟩:=qC w1 (.cells #[.slice a3 l.length c3,.slice a4 l.length c4] 33)
 obtain ⟨x0,x1,xf0,xf1⟩:=zT bx
 have dU:=fO.1.keep (w':=W1) fun g o _ ho=>by rw [<- rX];exact zG ho
 have tG:=fO.2.keep (w':=W1) fun g o _ ho=>by rw [<- rX];exact zG ho
 have iM:∀ g,(Value.slice a3 l.length c3).ownBlock=some g->g<w1.heap.size:=fun g hg=>fO.1.lt hg
 have iF:∀ g,(Value.slice a4 l.length c4).ownBlock=some g->g<w1.heap.size:=fun g hg=>fO.2.lt hg
 have tW:∀ g,(Value.slice a3 l.length c3).ownBlock=some g->(Value.slice a4 l.length c4).ownBlock≠some g:=fun g hg=>fO.1.unlike fO.2 str_int hg
 have H1:=gZ (gK gW (gK sW (gK i6 (gK bw (gK bx (gK dU tG))))))
 have HL:=gZ (gK iM (gK iF tW))
 have HW1:=gZ rX
 clear rX i6 bw bx dU tG iM iF tW fO gW sW C e0 e1
 go_upto_region 2 with (fail)
 rw [HW1.out]
 go_wp2_with (at_builtin;refine zB rfl _ _ 30 rfl 9 (str []) 1 16 Tryz.underlying30 Tryz.infoStr rfl (by decide) (.slice a3 l.length c3) l.length (ju l) rfl ?c1 _ 1 [str s] rfl ?c2 ?c3 ?c4 ?_)
 case c1=>exact H1.out.2.2.2.2.2.1.alloc _
 case c2=>exact zN.lit rfl
 case c3=>unfold maxLen;omega
 case c4=>omega
 intro a5 c5 w2 ar gP eX
 have HO2:=gZ (gK ar (gK gP eX))
 have mA:=H1.out.2.2.2.1
 have nI:=HB.out.2.1
 have mI:=H1.out.1.size
 have mS:∀ g,g<W1.heap.size->(Value.slice a3 l.length c3).ownBlock≠some g->w2.heap[g]? = W1.heap[g]?:=fun g hg hn=>by
  rw [gP.block g (by rw [zK];omega) hn,Below.heap_alloc _ _ _ hg]
 have mL:W1.heap.size+1<=w2.heap.size:=by have:=gP.size;rwa [zK] at this
 have bx2:w2.heap[w1.heap.size]? = some (.cells #[.slice a3 l.length c3,.slice a4 l.length c4] 33 (0,0)):=by
  rw [mS _ (by omega) (fun e=>by have:=HL.out.1 _ e;omega)];exact H1.out.2.2.2.2.1
 have br2:w2.heap[w.heap.size+1]? = some (.cells #[.slice none 0 0,.slice none 0 0] 33 (0,0)):=by
  rw [mS _ (by omega) (fun e=>by have:=H1.out.2.1 _ (.inl e);omega),H1.out.2.2.1.block _ (by omega),H1.out.1.block _ (by omega)];exact HB.out.2.2
 have tG:Own w2 3 1 (.slice a4 l.length c4) l.length (jv l):=H1.out.2.2.2.2.2.2.keep fun g o hg ho=>by
  rw [mS g (zZ ho) (fun e=>HL.out.2.2 g e hg)];exact ho
 have i3:Below w.heap.size w w2:=by
  have h1:Below w.heap.size w W1:=(zzT HB.out.1 H1.out.1).trans (H1.out.2.2.1.mono (by omega))
  exact (h1.alloc (by omega) _).trans (gP.toBelow (by rw [zK];omega) fun i hi e=>by have:=H1.out.2.1 _ (.inl e);omega)
 have di:∀ g,(Value.slice a5 (l.length+1) c5).ownBlock=some g->w.heap.size+2<=g/\g≠w1.heap.size:=fun g hg=>by
  rcases eX g hg with h | h
  ·have h1:=H1.out.2.1 _ (.inl h);have h2:=HL.out.1 _ h;omega
  ·omega
 obtain ⟨y0,y1,yf0,yf1⟩:=zT bx2
 obtain ⟨W3,cR⟩:=zzN (w2.setCell ⟨w1.heap.size,0,none⟩ (.slice a5 (l.length+1) c5))
 have bx3:W3.heap[w1.heap.size]? = some (.cells #[.slice a5 (l.length+1) c5,.slice a4 l.length c4] 33 (0,0)):=by rw [<- cR,zh bx2];rfl
 have mN:∀ g,g≠w1.heap.size->W3.heap[g]? = w2.heap[g]?:=fun g hg=>by rw [<- cR];exact gU _ _ _ _ (by show g≠w1.heap.size;exact hg)
 have cb:W3.heap.size=w2.heap.size:=by rw [<- cR];simp [World.setCell]
 have br3:W3.heap[w.heap.size+1]? = some (.cells #[.slice none 0 0,.slice none 0 0] 33 (0,0)):=by rw [mN _ (by omega)];exact br2
 have fU:Own W3 3 1 (.slice a4 l.length c4) l.length (jv l):=tG.keep fun g o hg ho=>by rw [mN g (by have:=HL.out.2.1 g hg;omega)];exact ho
 have hm3:Own W3 9 1 (.slice a5 (l.length+1) c5) (l.length+1) (ju l++[str s]):=HO2.out.1.keep fun g o hg ho=>by rw [mN g (di g hg).2];exact ho
 have i1:Below w.heap.size w W3:=by rw [<- cR];exact i3.setCell (p:=⟨w1.heap.size,0,none⟩) (by show w.heap.size<=w1.heap.size;omega) _
 have iz:∀ g,(Value.slice a4 l.length c4).ownBlock=some g->w.heap.size+2<=g/\g<w1.heap.size:=fun g hg=>by
  have h1:=H1.out.2.1 _ (.inr hg);have h2:=HL.out.2.1 _ hg;omega
 have aB:∀ g,(Value.slice a5 (l.length+1) c5).ownBlock=some g->(Value.slice a4 l.length c4).ownBlock≠some g:=fun g hg=>hm3.unlike fU str_int hg
 obtain ⟨x0,x1,xf0,xf1⟩:=zT bx3
 have H3:=gZ (gK cR (gK bx3 (gK br3 (gK fU (gK hm3 (gK i1 (gK iz (gK di (gK aB (gK cb mL))))))))))
 have HZ:=gZ (gK mA (gK nI mI))
 clear cR bx3 br3 fU hm3 i1 iz di aB cb mL mA nI mI mS bx2 br2 tG i3 mN HO2 gP eX ar y1 yf1
 go_upto_region 3 with (fail)
 rw [H3.out.1]
 clear y0 yf0
 go_wp2_with (at_builtin;refine zB rfl _ _ 31 rfl 3 (.int .i64 0) 1 8 Tryz.underlying31 Tryz.infoInt rfl (by decide) (.slice a4 l.length c4) l.length (jv l) rfl ?c1 _ 1 [.int .i64 p] rfl ?c2 ?c3 ?c4 ?_)
 case c1=>exact H3.out.2.2.2.1.alloc _
 case c2=>exact zN.lit rfl
 case c3=>unfold maxLen;omega
 case c4=>omega
 intro a6 c6 w4 ho4 gS iI
 have mA:=HZ.out.1
 have nI:=HZ.out.2.1
 have mI:=HZ.out.2.2
 have cb:=H3.out.2.2.2.2.2.2.2.2.2.1
 have mL:=H3.out.2.2.2.2.2.2.2.2.2.2
 have mR:∀ g,g<W3.heap.size->(Value.slice a4 l.length c4).ownBlock≠some g->w4.heap[g]? = W3.heap[g]?:=fun g hg hn=>by
  rw [gS.block g (by rw [zK];omega) hn,Below.heap_alloc _ _ _ hg]
 have bx4:w4.heap[w1.heap.size]? = some (.cells #[.slice a5 (l.length+1) c5,.slice a4 l.length c4] 33 (0,0)):=by
  rw [mR _ (by omega) (fun e=>by have:=H3.out.2.2.2.2.2.2.1 _ e;omega)];exact H3.out.2.1
 have br4:w4.heap[w.heap.size+1]? = some (.cells #[.slice none 0 0,.slice none 0 0] 33 (0,0)):=by
  rw [mR _ (by omega) (fun e=>by have:=H3.out.2.2.2.2.2.2.1 _ e;omega)];exact H3.out.2.2.1
 have hm4:Own w4 9 1 (.slice a5 (l.length+1) c5) (l.length+1) (ju l++[str s]):=H3.out.2.2.2.2.1.keep fun g o hg ho=>by
  rw [mR g (zZ ho) (fun e=>H3.out.2.2.2.2.2.2.2.2.1 g hg e)];exact ho
 have io:Below w.heap.size w w4:=(H3.out.2.2.2.2.2.1.alloc H3.out.2.2.2.2.2.1.size _).trans (gS.toBelow (by rw [zK];have:=H3.out.2.2.2.2.2.1.size;omega) fun i hi e=>by have:=H3.out.2.2.2.2.2.2.1 _ e;omega)
 have sV:∀ g,(Value.slice a6 (l.length+1) c6).ownBlock=some g->w.heap.size+2<=g/\g≠w1.heap.size:=fun g hg=>by
  rcases iI g hg with h | h
  ·have h1:=H3.out.2.2.2.2.2.2.1 _ h;omega
  ·omega
 have di:=H3.out.2.2.2.2.2.2.2.1
 obtain ⟨y0,y1,yf0,yf1⟩:=zT bx4
 obtain ⟨W5,f_⟩:=zzN (w4.setCell ⟨w1.heap.size,1,none⟩ (.slice a6 (l.length+1) c6))
 have bx5:W5.heap[w1.heap.size]? = some (.cells #[.slice a5 (l.length+1) c5,.slice a6 (l.length+1) c6] 33 (0,0)):=by rw [<- f_,zh bx4];rfl
 have mM:∀ g,g≠w1.heap.size->W5.heap[g]? = w4.heap[g]?:=fun g hg=>by rw [<- f_];exact gU _ _ _ _ (by show g≠w1.heap.size;exact hg)
 have br5:W5.heap[w.heap.size+1]? = some (.cells #[.slice none 0 0,.slice none 0 0] 33 (0,0)):=by rw [mM _ (by omega)];exact br4
 have hm5:Own W5 9 1 (.slice a5 (l.length+1) c5) (l.length+1) (ju l++[str s]):=hm4.keep fun g o hg ho=>by rw [mM g (di g hg).2];exact ho
 have dm:Own W5 3 1 (.slice a6 (l.length+1) c6) (l.length+1) (jv l++[.int .i64 p]):=ho4.keep fun g o hg ho=>by rw [mM g (sV g hg).2];exact ho
 have il:Below w.heap.size w W5:=by rw [<- f_];exact io.setCell (p:=⟨w1.heap.size,1,none⟩) (by show w.heap.size<=w1.heap.size;omega) _
 have H5:=gZ (gK f_ (gK hm5 (gK dm (gK il (gK di (gK sV br5))))))
 obtain ⟨z0,z1,zf0,zf1⟩:=zT bx5
 obtain ⟨q0,q1,qf0,qf1⟩:=zT br5
 clear f_ bx5 br5 hm5 dm il di sV mM io hm4 br4 bx4 mR mL cb mI nI mA iI gS ho4 x0 x1 xf0 xf1 y0 yf0
 have gN:w.heap.size+1≠w1.heap.size:=by have:=HZ.out.2;omega
 go_upto_region 4 with (fail)
 rw [H5.out.1]
 clear y1 yf1
 go_wp2_with fail
 have hV:=set_two H5.out.2.2.2.2.2.2 (.slice a5 (l.length+1) c5) (.slice a6 (l.length+1) c6)
 obtain ⟨s0,s1,_,_⟩:=zT hV
 have bz:=(H5.out.2.2.2.1.setCell (p:=⟨w.heap.size+1,0,none⟩) (Nat.le_succ _) (.slice a5 (l.length+1) c5)).setCell (p:=⟨w.heap.size+1,1,none⟩) (Nat.le_succ _) (.slice a6 (l.length+1) c6)
 refine bodyPost_ret (v:=.agg #[.slice a5 (l.length+1) c5,.slice a6 (l.length+1) c6]) (by simp [results,Tryz.results68,go_sem,s0,s1]) rfl ?_
 have gC:(l++[(s,p)]).length=l.length+1:=by simp
 refine ⟨_,_,rfl,⟨?_,?_⟩,bz,fun g hg=>?_⟩
 ·rw [gC,logM_snoc]
  exact H5.out.2.1.keep fun g o hg ho=>by
   have:=(H5.out.2.2.2.2.1 g hg).1
   rw [gU _ _ _ _ (by show g≠w.heap.size+1;omega),gU _ _ _ _ (by show g≠w.heap.size+1;omega)];exact ho
 ·rw [gC,logP_snoc]
  exact H5.out.2.2.1.keep fun g o hg ho=>by
   have:=(H5.out.2.2.2.2.2.1 g hg).1
   rw [gU _ _ _ _ (by show g≠w.heap.size+1;omega),gU _ _ _ _ (by show g≠w.heap.size+1;omega)];exact ho
 ·rcases hg with hg | hg
  ·have:=H5.out.2.2.2.2.1 g hg;omega
  ·have:=H5.out.2.2.2.2.2.1 g hg;omega
def lvD (lv:List zO):List DV:=lv.flatMap fun p=>[DV.val (.int .i64 (p.1:Nat)),DV.val (str p.2)]
def lvC (lv:List zO):List Value:=lv.flatMap fun p=>[.int .i64 (p.1:Nat),str p.2]
theorem pH (a b:List zO):lvC (a++b)=lvC a++lvC b:=by simp [lvC]
theorem lvD_at:∀ (lv:List zO) (i:Nat) (p:zO),lv[i]? = some p->(lvD lv)[i*2]? = some (.val (.int .i64 (p.1:Nat)))/\(lvD lv)[i*2+1]? = some (.val (str p.2))
 | [],i,p,h=>by simp at h
 | q::lv,0,p,h=>by obtain rfl:q=p:=by simpa using h
                   exact ⟨rfl,rfl⟩
 | q::lv,i+1,p,h=>by
   rw [List.getElem?_cons_succ] at h
   have:=lvD_at lv i p h
   rw [show lvD (q::lv)=[DV.val (.int .i64 (q.1:Nat)),DV.val (str q.2)]++lvD lv from rfl,show (i+1)*2=2+i*2 from by omega]
   rw [List.getElem?_append_right (by simp),List.getElem?_append_right (by simp;omega)]
   simpa [Nat.add_sub_cancel_left,show 2+i*2+1-2=i*2+1 from by omega] using this
def qi (F:Nat->Prop) (w:World) (lv:List zO) (v:Value):Prop:=Rep F w (.sl 115 2 lv.length (lvD lv)) v
theorem qi.open {F:Nat->Prop} {w:World} {lv:List zO} {v:Value} (h:qi F w lv v):∃ a c,v=.slice a lv.length c /\
 ∀ (i:Nat) (p:zO),lv[i]? = some p->∃ b o,a=some ⟨b,o,none⟩/\F b/\b<w.heap.size/\w.cell? ⟨b,o+i*2,none⟩=some (.int .i64 (p.1:Nat))/\w.cell? ⟨b,o+i*2+1,none⟩=some (str p.2):=by
 unfold qi at h
 rw [qB] at h
 obtain ⟨hl,a,cap,hv,hn,hz,h⟩:=h
 refine ⟨a,cap,hv,fun i p hp=>?_⟩
 have hi:=(List.getElem?_eq_some_iff.1 hp).1
 obtain ⟨d1,d2⟩:=lvD_at lv i p hp
 rcases h with h | ⟨b,o,c,fr,ha,hb,hc,hr⟩
 ·omega
 ·obtain ⟨u1,k1,r1⟩:=hr.at d1
  obtain ⟨u2,k2,r2⟩:=hr.at d2
  rw [zf] at r1 r2
  subst r1;subst r2
  rw [List.getElem?_take,if_pos (by omega),List.getElem?_drop] at k1 k2
  exact ⟨b,o,ha,hb,zZ hc,by simp [World.cell?,hc];simpa using k1,by simp [World.cell?,hc,Nat.add_assoc];simpa using k2⟩
theorem zc {w:World} {b:Nat} {x y z u:Value} {T:TypeId} (h:w.heap[b]? = some (.cells #[x,y,z,u] T (0,0))):w.cell? ⟨b,0,none⟩=some x/\w.cell? ⟨b,1,none⟩=some y/\w.cell? ⟨b,2,none⟩=some z/\w.cell? ⟨b,3,none⟩=some u :=
 ⟨by simp [World.cell?,h],by simp [World.cell?,h],by simp [World.cell?,h],by simp [World.cell?,h]⟩
def TellP (m:Bs) (i:Nat) (w:World) (en:Ending) (w':World):Prop:=en=.returned (.tuple #[str m,.int .i64 (i:Nat)])/\Below w.heap.size w w'
set_option maxRecDepth 100000 in
theorem tells_leaf (F:Nat->Prop) (c:UInt8) (bv lsl:Value) (bg:zO) (w:World) (hb:Rep F w (ke (.leaf c)) bv) (ga:¬ c=117) (hl:bg.2.length<=1000) :
 Calls Tryz.prog 67 #[.agg #[bv,lsl,.int .i64 (bg.1:Nat),str bg.2]] w (TellP (c::bg.2) bg.1 w):=by
 have C:=gZ (fun wz (h:Below w.heap.size w wz)=>vY F wz c bv (hb.below h (fun _ h=>h)))
 obtain ⟨b,sl,rfl,_,hc,_⟩:=um hb
 obtain ⟨W,hW,gG,hz,bx⟩:=qC w (.cells #[.pointer (some ⟨b,0,none⟩),lsl,.int .i64 (bg.1:Nat),str bg.2] 117)
 have CW:=gZ (C.out W gG)
 obtain ⟨e0,e1,e2,e3⟩:=zc bx
 have c1:W.cell? ⟨b,0,none⟩=some (.string ⟨#[c]⟩):=(gG.cell (by exact zZ hc)).trans (by simp [World.cell?,hc])
 have q1:(([c]:Bs) == [117])=false:=by rw [beq_eq_false_iff_ne];simpa using ga
 have a1:=fun w0=>k8 (P:=Tryz.prog) [c] bg.2 (by simp;omega) w0
 rw [List.singleton_append] at a1
 generalize hM:c::bg.2=M at *
 have HW:=gZ (gK hW gG)
 clear hW gG hz bx hc hb C ga hM e1
 go_enter Tryz.func67,Tryz.ntmps67
 go_upto_region 1 with (fail)
 rw [HW.out.1]
 go_wp2_with fail
 (with_reducible refine CW.out.mono ?_)
 rintro en w1 ⟨rfl,ew⟩
 subst ew
 go_wp2_with fail
 go_quiet (fail)
 go_wp2_with fail
 go_ret2
 exact ⟨rfl,kU HW.out.2 _⟩
set_option maxRecDepth 100000 in
theorem tells_ask (F:Nat->Prop) (l:Nat) (ss:List Bd) (y n:Bd) (bv lsl:Value) (lv:List zO) (bg pl:zO) (w:World) (hb:Rep F w (ke (.ask l ss y n)) bv) (gj:qi F w lv lsl) (gO:lv[l]? = some pl) (hl:pl.2.length<=1000) (cp:lv.length<=100000) :
 Calls Tryz.prog 67 #[.agg #[bv,lsl,.int .i64 (bg.1:Nat),str bg.2]] w (TellP (113::pl.2) pl.1 w):=by
 have C:=gZ (fun wz (h:Below w.heap.size w wz)=>yF F wz l ss y n bv (hb.below h (fun _ h=>h)))
 obtain ⟨b,sl,yv,nv,rfl,_,hc,_⟩:=vp hb
 obtain ⟨la,lc,rfl,hat⟩:=gj.open
 obtain ⟨lb,lo,rfl,_,iE,t0,t1⟩:=hat l pl gO
 have gH:=(List.getElem?_eq_some_iff.1 gO).1
 have bH:(l:Int)<(lv.length:Int):=by omega
 obtain ⟨W,hW,gG,hz,bx⟩:=qC w (.cells #[.pointer (some ⟨b,0,none⟩),.slice (some ⟨lb,lo,none⟩) lv.length lc,.int .i64 (bg.1:Nat),str bg.2] 117)
 have CW:=gZ (C.out W gG)
 have c1:W.cell? ⟨b,1,none⟩=some (.int .i64 (l:Nat)):=(gG.cell (by exact zZ hc)).trans (by simp [World.cell?,hc])
 have t0W:=(gG.cell (p:=⟨lb,lo+l*2,none⟩) iE).trans t0
 have t1W:=(gG.cell (p:=⟨lb,lo+l*2+1,none⟩) iE).trans t1
 have iD:lb<W.heap.size:=by omega
 have hbb:b<W.heap.size:=by have:=zZ hc;omega
 have KEY:Hid (∀ x,Below W.heap.size W x->x.cell? ⟨w.heap.size,0,none⟩=some (.pointer (some ⟨b,0,none⟩))/\x.cell? ⟨w.heap.size,1,none⟩=some (.slice (some ⟨lb,lo,none⟩) lv.length lc)/\x.cell? ⟨b,1,none⟩=some (.int .i64 (l:Nat))/\x.cell? ⟨lb,lo+l*2,none⟩=some (.int .i64 (pl.1:Nat))/\x.cell? ⟨lb,lo+l*2+1,none⟩=some (str pl.2)):=gZ (fun x hx=>by
  obtain ⟨k0,k1,_,_⟩:=zc bx
  exact ⟨(hx.cell (gJ _ _ k0)).trans k0,(hx.cell (gJ _ _ k1)).trans k1,(hx.cell hbb).trans c1,(hx.cell iD).trans t0W,(hx.cell iD).trans t1W⟩)
 obtain ⟨e0,_,_,_⟩:=zc bx
 have a1:=fun w0=>k8 (P:=Tryz.prog) [113] pl.2 (by simp;omega) w0
 rw [List.singleton_append] at a1
 generalize hM:113::pl.2=M at *
 have HW:=gZ (gK hW gG)
 clear hW gG hz bx hc hb C hM hat gO gj t0 t1 t0W t1W c1 iE
 go_enter Tryz.func67,Tryz.ntmps67
 go_upto_region 1 with (fail)
 rw [HW.out.1]
 go_wp2_with fail
 (with_reducible refine CW.out.mono ?_)
 rintro en w1 ⟨rfl,ew⟩
 subst ew
 go_wp2_with fail
 refine wp_region_noPanic ?_
 refine zl (fun w'=>Below w1.heap.size w1 w') (fun i=>i == 10) (by kernel_rfl) ?_
 have gT:(fun w'=>Below w1.heap.size w1 w') w1.drew:=Below.drew (gV _ _)
 refine tk [0,1,2,3,4,5,6,7,8] gT ?_
 (intro d hd;simp [tkD] at hd;subst hd;simp only [tks,pQ,pZ,pS])
 iterate 9 (refine ⟨?_,?_,?_⟩;rotate_left;· (intro oi ho;simp at ho;subst ho;refine Or.inl ⟨by rfl,fun w' gI=>?_⟩;obtain ⟨e0,e1,e2,e3,e4⟩:=KEY.out w' gI;go_simp;try with_reducible rfl))
 (refine on 9 ?_;intro o ho K' hK;simp at ho;subst ho;go_simp)
 (refine hK.out _ _ (fun _=>gT.alloc (gQ _) _) ?_;clear hK K';try simp only [pQ,pN,pZ,pS])
 (refine on 10 ?_;intro o ho K' hK;simp at ho;subst ho;go_simp)
 (refine hK.out _ _ (fun h=>by simp at h) ?_;clear hK K';try simp only [pQ,pN,pZ,pS])
 refine zo (by kernel_rfl) (NoPanic.normal ?_) _
 obtain ⟨V,hV,hbV,_,bV⟩:=qC w1 (.cells #[.int .i64 (pl.1:Nat),str pl.2] 115)
 obtain ⟨v0,v1,_,_⟩:=zT bV
 have v0':V.drew.cell? ⟨w1.heap.size,0,none⟩=some (.int .i64 (pl.1:Nat)):=v0
 have v1':V.drew.cell? ⟨w1.heap.size,1,none⟩=some (str pl.2):=v1
 rw [hV]
 have HV:=gZ (zzT HW.out.2 hbV)
 clear hV hbV bV gT v0' v1'
 go_wp2_with fail
 go_quiet (fail)
 go_wp2_with fail
 go_ret2
 exact ⟨rfl,kU HV.out.drew _⟩
theorem growP_any (n:Nat) (w:World) (hn:Lim n) :
 Calls Tryz.prog 145 #[.slice none 0 0,.int .i64 n] w fun en w' =>
  ∃ a c,en=.returned (.slice a 0 c)/\Own w' 115 2 (.slice a 0 c) 0 []/\Below w.heap.size w w'/\(∀ g,(Value.slice a 0 c).ownBlock=some g->w.heap.size<=g):=by
 have hl:=hn.le
 by_cases h0:n=0
 ·subst h0
  go_enter Tryz.func145,Tryz.ntmps145
  go_wp2_with fail
  go_ret
  exact ⟨none,0,rfl,World.ownsRow_nil _ _ _ _,gV _ _,fun g h=>by simp [Value.ownBlock] at h⟩
 ·have h1:0<n:=by omega
  clear h0
  go_enter Tryz.func145,Tryz.ntmps145
  go_wp2_with (at_builtin;refine jc rfl _ _ 113 3 rfl 115 (.agg #[.int .i64 0,str []]) 2 24 Tryz.underlying113 Tryz.underlying3 Tryz.infoPl rfl (by decide) (by decide) rfl n rfl h1 hl ?_)
  intro cap c dT cf fi
  go_wp2_with fail
  go_ret
  exact ⟨_,cap,rfl,⟨by simp,.inr ⟨w.heap.size,cap,c,rfl,Nat.zero_le _,kJ w _,Nat.zero_le _,cf,by simpa using fi,by simp⟩⟩,((gV _ _).alloc (gQ _) _).drew,fun g h=>by simp [Value.ownBlock] at h;omega⟩
def uo (e:TypeId) (w:World) (n1 n2:Nat) (xs1 xs2:List Value) (v i:Value) (wr:World):Prop :=
 ∃ k m xs a c,i=.int .i64 (k:Nat)/\v=.slice a m c/\Own wr e 2 (.slice a m c) m xs/\Below w.heap.size w wr/\(∀ g,(Value.slice a m c).ownBlock=some g->w.heap.size<=g) /\
   ((k=0/\m=0/\xs=[])\/(k=1/\m=n1/\xs=xs1)\/(k=2/\m=n1+n2/\xs=xs1++xs2))
theorem uo.next {e:TypeId} {w:World} {n1 n2:Nat} {xs1 xs2:List Value} {k m m':Nat} {xs:List Value} {a a':Option Addr} {c c':Nat} {wr w':World}
 (ho:Own w' e 2 (.slice a' m' c') m' xs) (hb:Below w.heap.size w wr) (gg:But (fun b=>(Value.slice a m c).ownBlock=some b) wr w')
 (hf:∀ g,(Value.slice a m c).ownBlock=some g->w.heap.size<=g) (hg:∀ g,(Value.slice a' m' c').ownBlock=some g->(Value.slice a m c).ownBlock=some g\/g=wr.heap.size)
 (hk:(k=0/\m'=0/\xs=[])\/(k=1/\m'=n1/\xs=xs1)\/(k=2/\m'=n1+n2/\xs=xs1++xs2)):uo e w n1 n2 xs1 xs2 (.slice a' m' c') (.int .i64 (k:Nat)) w' :=
 ⟨k,m',xs,a',c',rfl,rfl,ho,hb.trans (gg.toBelow hb.size fun i hi h=>by have:=hf i h;omega),fun g h=>by
  rcases hg g h with h | h
  ·exact hf g h
  ·have:=hb.size;omega,hk⟩
theorem concatP_any (b n1 n2:Nat) (s1 s2:Value) (xs1 xs2:List Value) (w:World) (c1:w.cell? ⟨b,0,none⟩=some s1) (c2:w.cell? ⟨b,1,none⟩=some s2)
 (h1:zN 2 s1 n1 xs1 w) (h2:zN 2 s2 n2 xs2 w) (gq:Lim n1) (bR:Lim n2) (hn:Lim (n1+n2)) :
 Calls Tryz.prog 134 #[.slice (some ⟨b,0,none⟩) 2 2] w fun en w' =>
  ∃ a c,en=.returned (.slice a (n1+n2) c)/\Own w' 115 2 (.slice a (n1+n2) c) (n1+n2) (xs1++xs2)/\Below w.heap.size w w'/\(∀ g,(Value.slice a (n1+n2) c).ownBlock=some g->w.heap.size<=g):=by
 obtain ⟨a1,k1,rfl⟩:=h1.slice
 obtain ⟨a2,k2,rfl⟩:=h2.slice
 have hl:=hn.le;have fh:=gq.le;have hl2:=bR.le
 have lb:b<w.heap.size:=gJ w _ c1
 go_enter Tryz.func134,Tryz.ntmps134
 go_wp2_with fail
 go_loop [3,11] (fun n i=>(i=.int .i64 0/\n=.int .i64 0)\/(i=.int .i64 1/\n=.int .i64 n1)\/(i=.int .i64 2/\n=.int .i64 ((n1:Int)+(n2:Int)))) (fun _ i=>2-(intOf i).toNat)
 case atStart=>exact .inl ⟨rfl,rfl⟩
 case round =>
  rcases hrel with ⟨rfl,rfl⟩ | ⟨rfl,rfl⟩ | ⟨rfl,rfl⟩
  ·go_wp2_with fail
   go_round
   case rel=>exact .inr (.inl ⟨rfl,rfl⟩)
   case measure=>simp [intOf]
  ·go_wp2_with fail
   go_round
   case rel=>exact .inr (.inr ⟨rfl,rfl⟩)
   case measure=>simp [intOf]
  ·go_wp2_with fail
   rw [show (n1:Int)+(n2:Int)=((n1+n2:Nat):Int) from by omega]
   refine (growP_any (n1+n2) w hn).mono ?_
   rintro en wg ⟨ag,cg,rfl,ad,cM,iq⟩
   have cB:uo 115 w n1 n2 xs1 xs2 (.slice ag 0 cg) (.int .i64 (0:Nat)) wg:=⟨0,0,[],ag,cg,rfl,rfl,ad,cM,iq,.inl ⟨rfl,rfl,rfl⟩⟩
   clear ad cM iq
   go_wp2_with fail
   go_loopw [6,27] (fun v i wr=>uo 115 w n1 n2 xs1 xs2 v i wr) (fun _ i _=>2-(intOf i).toNat)
   case atStart=>exact cB
   case round =>
    rename_i wr
    obtain ⟨k,m,xs,a,c,rfl,rfl,ho,hb,hf,hk⟩:=hrel
    have d1:wr.cell? ⟨b,0,none⟩=some (.slice a1 n1 k1):=by rw [hb.cell lb];exact c1
    have d2:wr.cell? ⟨b,1,none⟩=some (.slice a2 n2 k2):=by rw [hb.cell lb];exact c2
    have g1:=h1.below hb;have g2:=h2.below hb
    have HF:=gZ hf;clear hf
    rcases hk with ⟨rfl,rfl,rfl⟩ | ⟨rfl,rfl,rfl⟩ | ⟨rfl,rfl,rfl⟩
    ·go_wp2_with (at_builtin;refine zB rfl _ _ 113 rfl 115 (.agg #[.int .i64 0,str []]) 2 24 Tryz.underlying113 Tryz.infoPl rfl (by decide) _ 0 [] rfl ho _ n1 xs1 rfl g1 ?c3 ?c4 ?_)
     case c3=>unfold maxLen;omega
     case c4=>omega
     intro a' c' w' dM gu gf
     have cB:=uo.next (n1:=n1) (n2:=n2) (xs1:=xs1) (xs2:=xs2) (k:=1) dM hb gu HF.out gf (.inr (.inl ⟨rfl,rfl,rfl⟩))
     clear gu gf dM HF
     go_wp2_with fail
     go_roundw
     case rel=>exact cB
     case measure=>simp [intOf]
    ·go_wp2_with (at_builtin;refine zB rfl _ _ 113 rfl 115 (.agg #[.int .i64 0,str []]) 2 24 Tryz.underlying113 Tryz.infoPl rfl (by decide) _ m xs rfl ho _ n2 xs2 rfl g2 ?c3 ?c4 ?_)
     case c3=>unfold maxLen;omega
     case c4=>omega
     intro a' c' w' dM gu gf
     have cB:=uo.next (n1:=m) (n2:=n2) (xs1:=xs) (xs2:=xs2) (k:=2) dM hb gu HF.out gf (.inr (.inr ⟨rfl,rfl,rfl⟩))
     clear gu gf dM HF
     go_wp2_with fail
     go_roundw
     case rel=>exact cB
     case measure=>simp [intOf]
    ·go_wp2_with fail
     go_ret
     exact ⟨a,c,rfl,ho,hb,HF.out⟩
theorem Reps_lv (F:Nat->Prop) (w:World):∀ lv:List zO,zD F w (lvD lv) (lvC lv)
 | []=>zI.2 rfl
 | p::lv=>by
   rw [show lvD (p::lv)=DV.val (.int .i64 (p.1:Nat))::DV.val (str p.2)::lvD lv from rfl,show lvC (p::lv)=.int .i64 (p.1:Nat)::str p.2::lvC lv from rfl]
   exact zU.2 ⟨_,_,rfl,zf.2 rfl,zU.2 ⟨_,_,rfl,zf.2 rfl,Reps_lv F w lv⟩⟩
theorem yA {F:Nat->Prop} {w:World}:∀ (lv:List zO) (us:List Value),zD F w (lvD lv) us->us=lvC lv
 | [],us,h=>zI.1 h
 | p::lv,us,h=>by
   rw [show lvD (p::lv)=DV.val (.int .i64 (p.1:Nat))::DV.val (str p.2)::lvD lv from rfl] at h
   obtain ⟨u,mE,rfl,h1,h2⟩:=zU.1 h
   obtain ⟨u2,ct,rfl,h3,h4⟩:=zU.1 h2
   rw [zf] at h1 h3
   subst h1;subst h3
   rw [yA lv ct h4];rfl
theorem lvC_one:∀ (lv:List zO),∀ u∈lvC lv,u.oneCell'=true
 | [],u,h=>by simp [lvC] at h
 | p::lv,u,h=>by
   rw [show lvC (p::lv)=.int .i64 (p.1:Nat)::str p.2::lvC lv from rfl] at h
   rcases List.mem_cons.1 h with rfl | h
   ·simp [Value.oneCell']
   ·rcases List.mem_cons.1 h with rfl | h
    ·simp [str,Value.oneCell']
    ·exact lvC_one lv u h
theorem qi.src {F:Nat->Prop} {w:World} {lv:List zO} {v:Value} (h:qi F w lv v):zN 2 v lv.length (lvC lv) w:=by
 obtain ⟨xs,hx,hs⟩:=zN.ofRep h (fun us hu u hm=>by rw [yA lv us hu] at hm;exact lvC_one lv u hm)
 rw [yA lv xs hx] at hs;exact hs
theorem plcs_eq (b:Nat) (p:Bs):∀ n:Nat,plcs b p n=lvC (zq n b p)
 | 0=>rfl
 | n+1=>by rw [plcs,plcs_eq b p n,placesOf_succ,pH];rfl
theorem Own.lv {F:Nat->Prop} {w:World} {lv:List zO} {a:Option Addr} {n c:Nat} (h:Own w 115 2 (.slice a n c) n (lvC lv)) (hn:n=lv.length) (hF:∀ g,(Value.slice a n c).ownBlock=some g->F g):qi F w lv (.slice a n c):=by
 subst hn
 exact h.rep hF (Reps_lv F w lv)
theorem qi.but {F F':Nat->Prop} {m:Nat->Prop} {w w':World} {lv:List zO} {v:Value} (h:qi F w lv v) (hb:But m w w') (hF:∀ b,F b->¬ m b/\F' b):qi F' w' lv v:=Rep.but hb hF h
theorem qi.below {F F':Nat->Prop} {w w':World} {lv:List zO} {v:Value} (h:qi F w lv v) (hb:Below w.heap.size w w') (hF:∀ b,F b->F' b):qi F' w' lv v:=Rep.below hb hF h
def StandP (bv:Value) (lv:List zO) (bg:zO) (w:World) (en:Ending) (w':World):Prop :=
 ∃ la lc,en=.returned (.agg #[bv,.slice la lv.length lc,.int .i64 (bg.1:Nat),str bg.2])/\Below w.heap.size w w'/\qi (w.heap.size<=·) w' lv (.slice la lv.length lc)
theorem vO {w:World} {b:Nat} {x y z u:Value} {T:TypeId} (h:w.heap[b]? = some (.cells #[x,y,z,u] T (0,0))) (x' y' z' u':Value):((((w.setCell ⟨b,0,none⟩ x').setCell ⟨b,1,none⟩ y').setCell ⟨b,2,none⟩ z').setCell ⟨b,3,none⟩ u').heap[b]? = some (.cells #[x',y',z',u'] T (0,0)):=by
 rw [zh (zh (zh (zh h)))];rfl
theorem zu {w:World} {b:Nat} {c:Array Value} {T:TypeId} (h:w.heap[b]? = some (.cells c T (0,0))) (o:Nat):w.frozen? ⟨b,o,none⟩=false:=by simp [World.frozen?,h]
set_option maxRecDepth 100000 in
theorem standOf_any (F:Nat->Prop) (t:Ty) (kv bv:Value) (idx:Nat) (w:World) (hg:qE w) (hk:Rep F w (qS t) kv) (ht:zY t<=15) (hbv:∃ a,bv=.pointer a) :
 Calls Tryz.prog 103 #[kv,bv,.int .i64 (idx:Nat)] w (StandP bv (zq t.args.length idx []) (idx,[]) w):=by
 obtain ⟨ba,rfl⟩:=hbv
 obtain ⟨kb,ks,rfl,_,hb,cQ⟩:=zR hk
 obtain ⟨sa,sc,rfl,ei,gC,gt⟩:=zM cQ
 have cm:=qY t
 obtain ⟨W,hW,gG,hz,bx⟩:=qC w (.cells #[.pointer none,.slice none 0 0,.int .i64 0,str []] 117)
 have c0:W.cell? ⟨kb,0,none⟩=some (.slice sa t.args.length sc):=(gG.cell (by exact zZ hb)).trans (by simp [World.cell?,hb])
 have C:=gZ (w_ t.args.length idx [] W (hg.below gG) (by omega) (by simp))
 have HW:=gZ (gK hW (gK gG (gK hz bx)))
 clear hW gG hz bx hk hb cQ gt gC ei hg
 go_enter Tryz.func103,Tryz.ntmps103
 go_upto_region 1 with (fail)
 rw [HW.out.1]
 go_wp2_with fail
 (with_reducible refine C.out.mono ?_)
 rintro en w1 ⟨la,lc,rfl,ho,gW,hf⟩
 rw [plcs_eq] at ho
 have b1:=(gW.block _ (zZ HW.out.2.2.2)).trans HW.out.2.2.2
 obtain ⟨z0,z1,z2,z3⟩:=zc b1
 have f0:=zu b1 0;have f1:=zu b1 1;have f2:=zu b1 2;have f3:=zu b1 3
 have H1:=gZ (gK ho (gK gW (gK hf b1)))
 clear ho gW hf b1 c0 C
 go_wp2_with fail
 have hV:=vO H1.out.2.2.2 (.pointer ba) (.slice la t.args.length lc) (.int .i64 (idx:Nat)) (str [])
 obtain ⟨s0,s1,s2,s3⟩:=zc hV
 have hzz:=HW.out.2.2.1
 have bz:=((((zzT HW.out.2.1 H1.out.2.1).setCell (p:=⟨w.heap.size,0,none⟩) (gQ _) (.pointer ba)).setCell (p:=⟨w.heap.size,1,none⟩) (gQ _) (.slice la t.args.length lc)).setCell (p:=⟨w.heap.size,2,none⟩) (gQ _) (.int .i64 (idx:Nat))).setCell (p:=⟨w.heap.size,3,none⟩) (gQ _) (str [])
 refine bodyPost_ret (v:=.agg #[.pointer ba,.slice la t.args.length lc,.int .i64 (idx:Nat),str []]) (by simp [results,Tryz.results103,go_sem,s0,s1,s2,s3]) rfl ?_
 refine ⟨la,lc,by rw [zx],bz,?_⟩
 rw [zx]
 refine Own.lv ?_ (by rw [zx]) (fun g hg=>by have:=H1.out.2.2.1 g hg;omega)
 exact H1.out.1.keep fun g o hg ho=>by
  have:=H1.out.2.2.1 g hg
  rw [gU _ _ _ _ (by show g≠w.heap.size;omega),gU _ _ _ _ (by show g≠w.heap.size;omega),gU _ _ _ _ (by show g≠w.heap.size;omega),gU _ _ _ _ (by show g≠w.heap.size;omega)];exact ho
def BehT (bv':Bd) (F:Nat->Prop) (lsl:Value) (bg:zO) (w:World) (en:Ending) (w':World):Prop :=
 ∃ a,en=.returned (.agg #[.pointer (some ⟨a,0,none⟩),lsl,.int .i64 (bg.1:Nat),str bg.2])/\Below w.heap.size w w'/\Rep F w (ke bv') (.pointer (some ⟨a,0,none⟩))
set_option maxRecDepth 100000 in
theorem behind_ans (c:UInt8) (hc:c=116\/c=102) (F:Nat->Prop) (l:Nat) (ss:List Bd) (y n:Bd) (bv kv:Value) (la:Option Addr) (ln lc:Nat) (bg:zO) (M:Bs) (idx:Nat) (w:World) (hb:Rep F w (ke (.ask l ss y n)) bv) (hM:0<M.length) (mK:M[0]=c) (me:∃ a,kv=.pointer a) :
 Calls Tryz.prog 104 #[.agg #[bv,.slice la ln lc,.int .i64 (bg.1:Nat),str bg.2],kv,str M,.int .i64 (idx:Nat)] w (BehT (if c=116 then y else n) F (.slice la ln lc) bg w):=by
 obtain ⟨ka,rfl⟩:=me
 obtain ⟨b,sl,yv,nv,rfl,_,bF,hs,hy,hn⟩:=vp hb
 obtain ⟨ya,rfl⟩:=kV hy
 obtain ⟨na,rfl⟩:=kV hn
 obtain ⟨W,hW,gG,hz,b0,b1⟩:=uV w (.cells #[.pointer (some ⟨b,0,none⟩),.slice la ln lc,.int .i64 (bg.1:Nat),str bg.2] 117) (.cells #[.pointer none,.slice none 0 0,.int .i64 0,str []] 117)
 have sN:W.heap[b]? = w.heap[b]?:=gG.block _ (zZ bF)
 have cY:W.cell? ⟨b,3,none⟩=some (.pointer (some ⟨ya,0,none⟩)):=by simp [World.cell?,sN,bF]
 have cN:W.cell? ⟨b,4,none⟩=some (.pointer (some ⟨na,0,none⟩)):=by simp [World.cell?,sN,bF]
 obtain ⟨e0,e1,e2,e3⟩:=zc b0
 have f0:=zu b0 0
 have Q:=gZ (gK hy hn)
 have HW:=gZ (gK hW (gK gG (gK hz (gK b0 b1))))
 clear hW gG hz b0 b1 sN bF hs hy hn hb e1 e2 e3
 rcases hc with rfl | rfl
 ·have q1:=jz hM (c:=116) (n:=116) rfl mK
  clear mK
  go_enter Tryz.func104,Tryz.ntmps104
  go_upto_region 1 with (fail)
  rw [HW.out.1]
  go_upto_region 10 with (fail)
  obtain ⟨W2,dX⟩:=zzN (W.setCell ⟨w.heap.size,0,none⟩ (.pointer (some ⟨ya,0,none⟩)))
  have x0:W2.heap[w.heap.size]? = some (.cells #[.pointer (some ⟨ya,0,none⟩),.slice la ln lc,.int .i64 (bg.1:Nat),str bg.2] 117 (0,0)):=by rw [<- dX,zh HW.out.2.2.2.1];rfl
  have x1:W2.heap[w.heap.size+1]? = some (.cells #[.pointer none,.slice none 0 0,.int .i64 0,str []] 117 (0,0)):=by rw [<- dX,gU _ _ _ _ (by show w.heap.size+1≠w.heap.size;omega)];exact HW.out.2.2.2.2
  have gP:Below w.heap.size w W2:=by rw [<- dX];exact HW.out.2.1.setCell (p:=⟨w.heap.size,0,none⟩) (gQ _) _
  rw [dX]
  obtain ⟨y0,y1,y2,y3⟩:=zc x0
  obtain ⟨z0,z1,z2,z3⟩:=zc x1
  have g0:=zu x1 0;have g1:=zu x1 1;have g2:=zu x1 2;have g3:=zu x1 3
  have H2:=gZ (gK gP x1)
  clear gP x0 x1 dX e0 f0 cY cN
  go_wp2_with fail
  have hV:=vO H2.out.2 (.pointer (some ⟨ya,0,none⟩)) (.slice la ln lc) (.int .i64 (bg.1:Nat)) (str bg.2)
  obtain ⟨s0,s1,s2,s3⟩:=zc hV
  have bz:=(((H2.out.1.setCell (p:=⟨w.heap.size+1,0,none⟩) (Nat.le_succ _) (.pointer (some ⟨ya,0,none⟩))).setCell (p:=⟨w.heap.size+1,1,none⟩) (Nat.le_succ _) (.slice la ln lc)).setCell (p:=⟨w.heap.size+1,2,none⟩) (Nat.le_succ _) (.int .i64 (bg.1:Nat))).setCell (p:=⟨w.heap.size+1,3,none⟩) (Nat.le_succ _) (str bg.2)
  refine bodyPost_ret (v:=.agg #[.pointer (some ⟨ya,0,none⟩),.slice la ln lc,.int .i64 (bg.1:Nat),str bg.2]) (by simp [results,Tryz.results104,go_sem,s0,s1,s2,s3]) rfl ?_
  exact ⟨_,rfl,bz,Q.out.1⟩
 ·have q0:=qu hM (c:=116) (n:=116) rfl (by rw [mK];decide)
  have q1:=jz hM (c:=102) (n:=102) rfl mK
  clear mK
  go_enter Tryz.func104,Tryz.ntmps104
  go_upto_region 1 with (fail)
  rw [HW.out.1]
  go_upto_region 10 with (fail)
  obtain ⟨W2,dX⟩:=zzN (W.setCell ⟨w.heap.size,0,none⟩ (.pointer (some ⟨na,0,none⟩)))
  have x0:W2.heap[w.heap.size]? = some (.cells #[.pointer (some ⟨na,0,none⟩),.slice la ln lc,.int .i64 (bg.1:Nat),str bg.2] 117 (0,0)):=by rw [<- dX,zh HW.out.2.2.2.1];rfl
  have x1:W2.heap[w.heap.size+1]? = some (.cells #[.pointer none,.slice none 0 0,.int .i64 0,str []] 117 (0,0)):=by rw [<- dX,gU _ _ _ _ (by show w.heap.size+1≠w.heap.size;omega)];exact HW.out.2.2.2.2
  have gP:Below w.heap.size w W2:=by rw [<- dX];exact HW.out.2.1.setCell (p:=⟨w.heap.size,0,none⟩) (gQ _) _
  rw [dX]
  obtain ⟨y0,y1,y2,y3⟩:=zc x0
  obtain ⟨z0,z1,z2,z3⟩:=zc x1
  have g0:=zu x1 0;have g1:=zu x1 1;have g2:=zu x1 2;have g3:=zu x1 3
  have H2:=gZ (gK gP x1)
  clear gP x0 x1 dX e0 f0 cY cN
  go_wp2_with fail
  have hV:=vO H2.out.2 (.pointer (some ⟨na,0,none⟩)) (.slice la ln lc) (.int .i64 (bg.1:Nat)) (str bg.2)
  obtain ⟨s0,s1,s2,s3⟩:=zc hV
  have bz:=(((H2.out.1.setCell (p:=⟨w.heap.size+1,0,none⟩) (Nat.le_succ _) (.pointer (some ⟨na,0,none⟩))).setCell (p:=⟨w.heap.size+1,1,none⟩) (Nat.le_succ _) (.slice la ln lc)).setCell (p:=⟨w.heap.size+1,2,none⟩) (Nat.le_succ _) (.int .i64 (bg.1:Nat))).setCell (p:=⟨w.heap.size+1,3,none⟩) (Nat.le_succ _) (str bg.2)
  refine bodyPost_ret (v:=.agg #[.pointer (some ⟨na,0,none⟩),.slice la ln lc,.int .i64 (bg.1:Nat),str bg.2]) (by simp [results,Tryz.results104,go_sem,s0,s1,s2,s3]) rfl ?_
  exact ⟨_,rfl,bz,Q.out.2⟩
inductive Tr where
 | am (a:Bs)
 | ls (ps:List Tr)
def trT:Ty->Tr
 | .mk ts=>trTs ts
where trTs:List Ty->Tr
 | []=>.am [98]
 | t::ts=>.ls [.am [62],trT t,trTs ts]


def BoxT (g:Nat) (s:Bs) (k:Value) (w:World):Prop:=w.cell? ⟨g,0,none⟩=some (str s)/\w.cell? ⟨g,1,none⟩=some k
theorem BoxT.below {g:Nat} {s:Bs} {k:Value} {w w':World} (h:BoxT g s k w) (hb:Below w.heap.size w w'):BoxT g s k w':=by
 obtain ⟨h1,h2⟩:=h
 have:=gJ w _ h1
 exact ⟨by rw [hb.cell (by exact this)];exact h1,by rw [hb.cell (by exact this)];exact h2⟩

theorem q_int (c:UInt8):((c.toNat:Int) == 113)=(c == 113):=by
 rw [Bool.eq_iff_iff,beq_iff_eq,beq_iff_eq]
 constructor
 ·intro h
  have:c.toNat=(113:UInt8).toNat:=by rw [show ((113:UInt8).toNat)=113 from rfl];omega
  exact UInt8.toNat_inj.1 this
 ·intro h;subst h;rfl
theorem odd_int (n:Nat):((n:Int) % 2 == 1)=decide (n % 2=1):=by
 rw [Bool.eq_iff_iff,beq_iff_eq,decide_eq_true_iff];omega
theorem ext_tail' (c:UInt8) (p:Bs):(⟨(c::p).toArray⟩:ByteArray).extract 1 (c::p).length=⟨p.toArray⟩:=by rw [vX,List.take_length];rfl
set_option maxRecDepth 20000 in
theorem jX (c:UInt8) (p:Bs) (w:World):Calls Tryz.prog 114 #[str (c::p)] w fun en w'=>en=.returned (.bool (isQ (c::p)))/\w'=w:=by
 obtain ⟨M,hM⟩:=zzM (c::p)
 have mK:0<M.length:=by rw [hM];simp
 have hM0I:(0:Int)<(M.length:Int):=by omega
 have B0:((((⟨M.toArray⟩:ByteArray)[0]'(km mK)).toNat:Int))=(c.toNat:Int):=by rw [jk mK];subst hM;rfl
 have E:=gZ (show isQ (c::p)=((c.toNat:Int) == 113) by rw [qK,q_int])
 rw [<- hM] at E ⊢
 clear hM
 go_enter Tryz.func114,Tryz.ntmps114
 go_wp2_with fail
 go_ret
 exact ⟨by rw [E.out];rfl,rfl⟩
set_option maxRecDepth 20000 in
theorem j6 (c:UInt8) (p:Bs) (hl:p.length<=16777216) (w:World):Calls Tryz.prog 94 #[str (c::p)] w fun en w'=>en=.returned (.bool (qL (c::p)))/\w'=w:=by
 have C:=gZ (jX c p w)
 obtain ⟨bq,hbq⟩:=zzN (isQ (c::p))
 have E:=gZ (show qL (c::p)=(decide (((c::p).length:Nat) % 2=1) == bq) by rw [<- hbq];rfl)
 rw [hbq] at C
 obtain ⟨M,hM⟩:=zzM (c::p)
 have hMl:M.length<=16777217:=by rw [hM];simp;omega
 rw [<- hM] at E C ⊢
 clear hM hbq
 go_enter Tryz.func94,Tryz.ntmps94
 go_wp2_with fail
 (with_reducible refine C.out.mono ?_)
 rintro en w1 ⟨rfl,e⟩
 subst e
 go_wp2_with fail
 go_ret
 refine ⟨?_,rfl⟩
 rw [E.out,<- odd_int]
 rfl
set_option maxRecDepth 20000 in
theorem enabler_any (c:UInt8) (p:Bs) (hl:p.length<=16777216) (w:World):Calls Tryz.prog 107 #[str (c::p)] w fun en w'=>en=.returned (.string ⟨(j5 (c::p)).toArray⟩)/\w'=w:=by
 by_cases h0:c::p=[113]
 ·rw [h0,show j5 [113]=[] from rfl]
  go_enter Tryz.func107,Tryz.ntmps107
  go_wp2_with fail
  go_ret
  exact ⟨rfl,rfl⟩
 ·have q1:((c::p:Bs) == [113])=false:=by rw [beq_eq_false_iff_ne];exact h0
  have C:=gZ (jX c p w)
  by_cases hc:c=113
  ·subst hc
   rw [qK,show ((113:UInt8) == 113)=true from rfl] at C
   cases p with
   | nil=>exact absurd rfl h0
   | cons d q =>
     have e:j5 (113::d::q)=(113::d::q).take (q.length+1):=by
      unfold j5
      rw [if_neg h0,qK,show ((113:UInt8) == 113)=true from rfl,if_pos rfl,List.dropLast_eq_take];simp
     rw [e]
     obtain ⟨M,hM⟩:=zzM (113::d::q)
     obtain ⟨m1,dU⟩:=zzM (q.length+1)
     rw [<- hM] at q1 C ⊢
     rw [<- dU]
     have hMl:M.length=m1+1:=by rw [hM,dU];simp
     rw [List.length_cons] at hl
     have ex:(⟨M.toArray⟩:ByteArray).extract 0 m1=⟨(M.take m1).toArray⟩:=by rw [vX];rfl
     have hw:IntKind.i64.wrap ((M.length:Int)-1)=(m1:Int):=by
      rw [hMl,show ((m1+1:Nat):Int)-1=(m1:Int) from by omega]
      exact jV _ (by omega)
     have fg:(m1:Int)<=(M.length:Int):=by omega
     obtain ⟨R,hR⟩:=zzM (M.take m1)
     rw [<- hR] at ex ⊢
     clear hR e h0 hM dU hMl
     go_enter Tryz.func107,Tryz.ntmps107
     go_wp2_with fail
     (with_reducible refine C.out.mono ?_)
     rintro en w1 ⟨rfl,e⟩
     subst e
     go_wp2_with fail
     go_ret
     exact ⟨rfl,rfl⟩
  ·rw [qK,show (c == 113)=false from by simp [hc]] at C
   have e:j5 (c::p)=113::p:=by
    unfold j5
    rw [if_neg h0,qK,show (c == 113)=false from by simp [hc],if_neg (by simp),List.tail_cons]
   rw [e]
   have ex:(⟨(c::p).toArray⟩:ByteArray).extract 1 (p.length+1)=⟨p.toArray⟩:=ext_tail' c p
   have a1:=fun w0=>k8 (P:=Tryz.prog) [113] p (by simp;omega) w0
   rw [List.singleton_append] at a1
   have h1p:(1:Int)<=(p.length:Int)+1:=by omega
   obtain ⟨R,hR⟩:=zzM (113::p)
   rw [<- hR] at a1 ⊢
   clear hR e h0
   go_enter Tryz.func107,Tryz.ntmps107
   go_wp2_with fail
   (with_reducible refine C.out.mono ?_)
   rintro en w1 ⟨rfl,e⟩
   subst e
   go_wp2_with fail
   go_ret
   exact ⟨rfl,rfl⟩
set_option maxRecDepth 20000 in
theorem hasMove_any (F:Nat->Prop) (t:Ty) (kv:Value) (m:Bs) (w:World) (hk:Rep F w (qS t) kv) (ht:zY t<=15) (hl:Lim m.length) :
 Calls Tryz.prog 106 #[kv,str m] w fun en w'=>en=.returned (.bool (vN t m))/\w'=w:=by
 obtain ⟨kb,ks,rfl,_⟩:=zR hk
 cases m with
 | nil =>
   go_enter Tryz.func106,Tryz.ntmps106
   go_wp2_with fail
   go_ret
   exact ⟨rfl,rfl⟩
 | cons c p =>
   have bC:=hl.le
   rw [List.length_cons] at bC
   have C1:=gZ (Tryz.strings_IndexByte ⟨#[113,116,102]⟩ (c.toNat:Int) w)
   have hcc:(c.toNat:Int).toNat.toUInt8=c:=by simp
   rw [hcc] at C1
   obtain ⟨ix,hix⟩:=zzN (Lib.indexByte (#[113,116,102]:Array UInt8).toList c)
   rw [hix] at C1
   have ig:decide (0<=ix)=(c == 113 || c == 116 || c == 102):=by
    have h:=Lib.contains_iff_indexByte [113,116,102] c
    have hix':Lib.indexByte [113,116,102] c=ix:=hix
    rw [hix'] at h
    rw [<- h]
    simp only [List.contains,List.elem]
    cases c == 113 <;> cases c == 116 <;> cases c == 102 <;> rfl
   have C2:=gZ (pE F t p (.pointer (some ⟨kb,0,none⟩)) w hk ht (show _<=_ by omega))
   have E:Hid (vN t (c::p)=(decide (0<=ix) && (atT t p).isSome)):=by rw [ig];exact gZ rfl
   obtain ⟨M,hM⟩:=zzM (c::p)
   have mK:0<M.length:=by rw [hM];simp
   have hM0I:(0:Int)<(M.length:Int):=by omega
   have hM1I:(1:Int)<=(M.length:Int):=by omega
   have B0:((((⟨M.toArray⟩:ByteArray)[0]'(km mK)).toNat:Int))=(c.toNat:Int):=by rw [jk mK];subst hM;rfl
   have q0:((M:Bs) == [])=false:=by rw [hM];rfl
   have rO:((M:Bs) != [])=true:=by rw [hM];rfl
   have ex:(⟨M.toArray⟩:ByteArray).extract 1 M.length=⟨p.toArray⟩:=by rw [hM];exact ext_tail' c p
   rw [<- hM] at E ⊢
   clear hM hcc hix hl hk ig
   by_cases bQ:0<=ix
   ·go_enter Tryz.func106,Tryz.ntmps106
    go_wp2_with fail
    refine C1.out.mono ?_
    rintro en w1 ⟨rfl,e⟩
    subst e
    go_wp2_with fail
    refine C2.out.mono ?_
    rintro en w2 ⟨v,rfl,e,hn,hy⟩
    subst e
    cases hat:atT t p with
    | none =>
      obtain rfl:=hn hat
      have E2:=gZ (show vN t M=false by rw [E.out,hat];simp)
      clear hn hy hat E
      go_wp2_with fail
      go_ret
      exact ⟨by rw [E2.out];rfl,rfl⟩
    | some a =>
      obtain ⟨ka,_,rfl,_⟩:=zR (hy a hat)
      have E2:=gZ (show vN t M=true by rw [E.out,hat];simp [bQ])
      clear hn hy hat E
      go_wp2_with fail
      go_ret
      exact ⟨by rw [E2.out];rfl,rfl⟩
   ·have E2:=gZ (show vN t M=false by rw [E.out];simp [bQ])
    clear E
    go_enter Tryz.func106,Tryz.ntmps106
    go_wp2_with fail
    refine C1.out.mono ?_
    rintro en w1 ⟨rfl,e⟩
    subst e
    go_wp2_with fail
    go_ret
    exact ⟨by rw [E2.out];rfl,rfl⟩

theorem ext_tail (c:UInt8) (p:Bs):(⟨(c::p).toArray⟩:ByteArray).extract 1 (c::p).length=⟨p.toArray⟩:=by rw [vX,List.take_length];rfl
def BehQ (b':Bd) (lv:List zO) (bg:zO) (F:Nat->Prop) (w:World) (en:Ending) (w':World):Prop :=
 ∃ a la lc,en=.returned (.agg #[.pointer (some ⟨a,0,none⟩),.slice la lv.length lc,.int .i64 (bg.1:Nat),str bg.2])/\Below w.heap.size w w'/\Rep F w (ke b') (.pointer (some ⟨a,0,none⟩))/\qi (w.heap.size<=·) w' lv (.slice la lv.length lc)
set_option maxRecDepth 100000 in
theorem behind_q (F:Nat->Prop) (t a:Ty) (l j:Nat) (ss:List Bd) (s y n:Bd) (bv kv lsl:Value) (lv:List zO) (bg:zO) (p:Bs) (idx:Nat) (w:World) (hg:qE w) (hb:Rep F w (ke (.ask l ss y n)) bv) (hk:Rep F w (qS t) kv) (gj:qi F w lv lsl) (ht:zY t<=15)
 (hs:ss[j]? = some s) (hj:j<10) (hp:0<p.length) (gO:p.length<=1000) (ch:p[p.length-1]=qw j) (hat:atT t p=some a) (cp:lv.length<=100000) (hssl:ss.length<=100000) :
 Calls Tryz.prog 104 #[.agg #[bv,lsl,.int .i64 (bg.1:Nat),str bg.2],kv,str (113::p),.int .i64 (idx:Nat)] w (BehQ s (lv++zq a.args.length idx p) (idx,p) F w):=by
 obtain ⟨kb,ks,rfl,_,hkb,hkr⟩:=zR hk
 obtain ⟨la,lc,rfl,_⟩:=gj.open
 obtain ⟨b,sl,yv,nv,rfl,_,bF,tP,hy,hn⟩:=vp hb
 obtain ⟨sa,sc,rfl,ei,gC,gt⟩:=zM tP
 have hjl:=(List.getElem?_eq_some_iff.1 hs).1
 obtain ⟨sb,so,su,sd,rfl,_,eL,hsd,mO,hsu⟩:=gt j hjl
 rw [encBs_at,hs] at hsd
 obtain rfl:=Option.some.inj hsd
 obtain ⟨ab,rfl⟩:=kV hsu
 obtain ⟨W,hW,gG,hz,b0,b1⟩:=uV w (.cells #[.pointer (some ⟨b,0,none⟩),.slice la lv.length lc,.int .i64 (bg.1:Nat),str bg.2] 117) (.cells #[.pointer none,.slice none 0 0,.int .i64 0,str []] 117)
 have a15:=qy _ _ _ hat
 have aarg:=qY a
 have KEY:Hid (∀ x,Below W.heap.size W x->x.cell? ⟨w.heap.size,0,none⟩=some (.pointer (some ⟨b,0,none⟩))/\x.cell? ⟨b,2,none⟩=some (.slice (some ⟨sb,so,none⟩) ss.length sc)/\x.cell? ⟨sb,so+j,none⟩=some (.pointer (some ⟨ab,0,none⟩))):=gZ (fun x hx=>by
  obtain ⟨k0,_,_,_⟩:=zc b0
  have k2:W.cell? ⟨b,2,none⟩=some (.slice (some ⟨sb,so,none⟩) ss.length sc):=(gG.cell (by exact zZ bF)).trans (by simp [World.cell?,bF])
  have k3:W.cell? ⟨sb,so+j,none⟩=some (.pointer (some ⟨ab,0,none⟩)):=(gG.cell eL).trans mO
  exact ⟨(hx.cell (gJ _ _ k0)).trans k0,(hx.cell (gJ _ _ k2)).trans k2,(hx.cell (gJ _ _ k3)).trans k3⟩)
 have f0:=zu b0 0
 have ex:(⟨(113::p).toArray⟩:ByteArray).extract 1 (p.length+1)=⟨p.toArray⟩:=ext_tail 113 p
 obtain ⟨m1,dU⟩:=zzM (p.length-1)
 have hpm:IntKind.i64.wrap ((p.length:Int)-1)=(m1:Int):=by rw [show (p.length:Int)-1=(m1:Int) from by omega];exact jV _ (by omega)
 have aO:m1<p.length:=by omega
 have fh:p[m1]=qw j:=by subst dU;exact ch
 have B:((((⟨p.toArray⟩:ByteArray)[m1]'(km aO)).toNat:Int))=48+(j:Int):=by rw [jk aO,fh,ut hj];omega
 have hj8:IntKind.u8.wrap (48+(j:Int)-48)=(j:Int):=by simp [IntKind.wrap,IntKind.bits,IntKind.signed];omega
 have iS:(j:Int)<(ss.length:Int):=by omega
 have hm1I:(m1:Int)<(p.length:Int):=by omega
 have HW:=gZ (gK hW (gK gG (gK hz (gK b0 b1))))
 have HA:=gZ (gK hg (gK hk (gK gj (gK hat (gK hsu (gK ht (gK a15 aarg)))))))
 have HL:=gZ (gK gO cp)
 clear hW gG hz b0 b1 bF tP hy hn hb gt gC ei mO eL hsu hg hk gj hkb hkr hat hs ch ht a15 aarg dU fh gO cp
 go_enter Tryz.func104,Tryz.ntmps104
 go_upto_region 1 with (fail)
 rw [HW.out.1]
 go_upto_region 3 with (fail)
 refine wp_region_noPanic ?_
 refine zl (fun w'=>Below W.heap.size W w') (fun i=>i == 14) (by kernel_rfl) ?_
 have gT:(fun w'=>Below W.heap.size W w') W.drew:=Below.drew (gV _ _)
 refine tk [0,1,2,3,4,5,6,7,8,9,10,11,12,13] gT ?_
 (intro d hd;simp [tkD] at hd;subst hd;simp only [tks,pQ,pZ,pS])
 iterate 14 (refine ⟨?_,?_,?_⟩;rotate_left;· (intro oi ho;simp at ho;subst ho;refine Or.inl ⟨by rfl,fun w' gI=>?_⟩;obtain ⟨e0,e1,e2⟩:=KEY.out w' gI;go_simp;try with_reducible rfl))
 (refine on 14 ?_;intro o ho K' hK;simp at ho;subst ho)
 obtain ⟨e0,_,_⟩:=KEY.out W (gV _ _)
 go_simp
 (refine hK.out _ _ (fun h=>by simp at h) ?_;clear hK K';try simp only [pQ,pN,pZ,pS])
 refine zo (by kernel_rfl) (NoPanic.normal ?_) _
 obtain ⟨W2,dX⟩:=zzN ((W.setCell ⟨w.heap.size,0,none⟩ (.pointer (some ⟨ab,0,none⟩))).drew)
 have x0:W2.heap[w.heap.size]? = some (.cells #[.pointer (some ⟨ab,0,none⟩),.slice la lv.length lc,.int .i64 (bg.1:Nat),str bg.2] 117 (0,0)):=by
  rw [<- dX];show (W.setCell ⟨w.heap.size,0,none⟩ (.pointer (some ⟨ab,0,none⟩))).heap[w.heap.size]? = _
  rw [zh HW.out.2.2.2.1];rfl
 have x1:W2.heap[w.heap.size+1]? = some (.cells #[.pointer none,.slice none 0 0,.int .i64 0,str []] 117 (0,0)):=by
  rw [<- dX];show (W.setCell ⟨w.heap.size,0,none⟩ (.pointer (some ⟨ab,0,none⟩))).heap[w.heap.size+1]? = _
  rw [gU _ _ _ _ (by show w.heap.size+1≠w.heap.size;omega)];exact HW.out.2.2.2.2
 have dz:Below w.heap.size w W2:=by rw [<- dX];exact (HW.out.2.1.setCell (p:=⟨w.heap.size,0,none⟩) (gQ _) _).drew
 have fD:W2.heap.size=w.heap.size+2:=by rw [<- dX];show (W.setCell ⟨w.heap.size,0,none⟩ _).heap.size=_;simp [World.setCell,HW.out.2.2.1]
 rw [dX]
 have K2:Hid (∀ x,Below W2.heap.size W2 x->x.cell? ⟨w.heap.size,1,none⟩=some (.slice la lv.length lc)):=gZ (fun x hx=>by
  obtain ⟨_,k1,_,_⟩:=zc x0
  exact (hx.cell (gJ _ _ k1)).trans k1)
 have CA:Hid (∀ wz,Below W2.heap.size W2 wz->Calls Tryz.prog 135 #[.pointer (some ⟨kb,0,none⟩),str p] wz fun en w'=>∃ tK t6 t5,en=.returned (.pointer (some ⟨tK,0,none⟩))/\w'=wz/\wz.cell? ⟨tK,0,none⟩=some (.slice t6 a.args.length t5)):=gZ (fun wz hz=>by
  have dy:=HA.out.2.1.below (zzT dz hz) (fun _ h=>h)
  have gO:=HL.out.1
  refine (pE F t p _ wz dy HA.out.2.2.2.2.2.1 (show _<=_ by omega)).mono ?_
  rintro en w' ⟨v,rfl,rfl,_,hy⟩
  obtain ⟨tK,ks2,rfl,_,cf,gd⟩:=zR (hy a HA.out.2.2.2.1)
  obtain ⟨t6,t5,rfl,_⟩:=zM gd
  exact ⟨tK,t6,t5,rfl,rfl,by simp [World.cell?,cf]⟩)
 have CP:=gZ (fun wz (hz:Below W2.heap.size W2 wz)=>w_ a.args.length idx p wz (HA.out.1.below (zzT dz hz)) (by have:=HA.out.2.2.2.2.2;omega) (by have:=HL.out.1;omega))
 have CC:=gZ (fun x pa pc (hx:Below W2.heap.size W2 x) (ho:Own x 115 2 (.slice pa a.args.length pc) a.args.length (plcs idx p a.args.length)) =>
  concatP_any x.heap.size lv.length a.args.length (.slice la lv.length lc) (.slice pa a.args.length pc) (lvC lv) (lvC (zq a.args.length idx p)) (x.alloc (.cells #[.slice la lv.length lc,.slice pa a.args.length pc] 113)) (by simp) (by simp)
   ((HA.out.2.2.1.below (zzT dz hx) (fun _ h=>h)).src.alloc _) ((zN.ofOwn (by rw [plcs_eq] at ho;exact ho) (lvC_one _)).alloc _) (show _<=_ by have:=HL.out.2;omega) (show _<=_ by have:=HA.out.2.2.2.2.2;omega) (show _<=_ by have:=HL.out.2;have:=HA.out.2.2.2.2.2;omega))
 have H2:=gZ (gK x0 (gK x1 (gK dz fD)))
 clear dX x0 x1 dz fD gT KEY f0 ex hpm B hj8 iS hm1I
 go_upto_region 4 with (fail)
 refine wp_region_noPanic ?_
 refine zl (fun w'=>Below W2.heap.size W2 w') (fun i=>i == 15) (by kernel_rfl) ?_
 have gT:(fun w'=>Below W2.heap.size W2 w') W2.drew:=Below.drew (gV _ _)
 refine tk [0,1,2,3,9,10] gT ?_
 (intro d hd;simp [tkD] at hd;subst hd;simp only [tks,pQ,pZ,pS])
 iterate 6 (refine ⟨?_,?_,?_⟩;rotate_left;· (intro oi ho;simp at ho;subst ho;refine Or.inl ⟨by rfl,fun w' gI=>?_⟩;have e1:=K2.out w' gI;go_simp;try with_reducible rfl))
 (refine on 4 ?_;intro o ho K' hK;simp at ho;subst ho;go_simp)
 go_at_call 135
 (with_reducible refine (CA.out _ gT).mono ?_)
 rintro en x4 ⟨tK,t6,t5,rfl,ex4,hc4⟩
 subst ex4
 have ia:Hid (∀ x,Below W2.heap.size W2 x->x.cell? ⟨tK,0,none⟩=some (.slice t6 a.args.length t5)):=gZ (fun x hx=>(hx.cell (gJ W2 _ hc4)).trans hc4)
 (refine hK.out _ _ (fun _=>gT) ?_;clear hK K';try simp only [pQ,pN,pZ,pS])
 have hS4:=gT
 refine tk [5,6,7,8] hS4 ?_
 (intro d hd;simp [tkD] at hd;subst hd;simp only [tks,pQ,pZ,pS])
 iterate 4 (refine ⟨?_,?_,?_⟩;rotate_left;· (intro oi ho;simp at ho;subst ho;refine Or.inl ⟨by rfl,fun w' gI=>?_⟩;have e1:=ia.out w' gI;go_simp;try with_reducible rfl))
 (refine on 11 ?_;intro o ho K' hK;simp at ho;subst ho;go_simp)
 go_at_call 111
 (with_reducible refine (CP.out _ gT).mono ?_)
 rintro en mW ⟨pa,pc,rfl,ai,f9,hf11⟩
 have d6:Below W2.heap.size W2 mW:=Below.trans gT (f9.mono (Below.size gT))
 (refine hK.out _ _ (fun _=>d6) ?_;clear hK K';try simp only [pQ,pN,pZ,pS])
 (refine on 12 ?_;intro o ho K' hK;simp at ho;subst ho;go_simp)
 (refine hK.out _ _ (fun _=>d6.alloc d6.size _) ?_;clear hK K';try simp only [pQ,pN,pZ,pS])
 (refine on 13 ?_;intro o ho K' hK;simp at ho;subst ho)
 have nP:Below W2.heap.size W2 (mW.alloc (.cells #[.slice la lv.length lc,.slice pa a.args.length pc] 113)):=d6.alloc d6.size _
 go_simp
 go_at_call 134
 (with_reducible refine (CC.out mW pa pc d6 ai).mono ?_)
 rintro en nE ⟨ca,cc,rfl,ae,lK,ij⟩
 have e7:Below W2.heap.size W2 nE:=zzT nP lK
 (refine hK.out _ _ (fun _=>e7) ?_;clear hK K';try simp only [pQ,pN,pZ,pS])
 have lE:=e7
 refine tk [14] lE ?_
 (intro d hd;simp [tkD] at hd;subst hd;simp only [tks,pQ,pZ,pS])
 (refine ⟨?_,?_,?_⟩;rotate_left;· (intro oi ho;simp at ho;subst ho;refine Or.inl ⟨by rfl,fun w' gI=>?_⟩;go_simp;try with_reducible rfl))
 (refine on 15 ?_;intro o ho K' hK;simp at ho;subst ho)
 have xx0:=(e7.block _ (zZ H2.out.1)).trans H2.out.1
 obtain ⟨_,e1,_,_⟩:=zc xx0
 have f1:=zu xx0 1
 go_simp
 (refine hK.out _ _ (fun h=>by simp at h) ?_;clear hK K';try simp only [pQ,pN,pZ,pS])
 refine zo (by kernel_rfl) (NoPanic.normal ?_) _
 obtain ⟨W3,cR⟩:=zzN (nE.setCell ⟨w.heap.size,1,none⟩ (.slice ca (lv.length+a.args.length) cc))
 have y0:W3.heap[w.heap.size]? = some (.cells #[.pointer (some ⟨ab,0,none⟩),.slice ca (lv.length+a.args.length) cc,.int .i64 (bg.1:Nat),str bg.2] 117 (0,0)):=by rw [<- cR,zh xx0];rfl
 have xx1:=(e7.block _ (zZ H2.out.2.1)).trans H2.out.2.1
 have y1:W3.heap[w.heap.size+1]? = some (.cells #[.pointer none,.slice none 0 0,.int .i64 0,str []] 117 (0,0)):=by rw [<- cR,gU _ _ _ _ (by show w.heap.size+1≠w.heap.size;omega)];exact xx1
 have lJ:Below w.heap.size w W3:=by rw [<- cR];exact (zzT H2.out.2.2.1 e7).setCell (p:=⟨w.heap.size,1,none⟩) (gQ _) _
 have hfr:∀ g,(Value.slice ca (lv.length+a.args.length) cc).ownBlock=some g->w.heap.size+2<=g:=fun g hg=>by
  have h1:=ij g hg
  have h2:=nP.size
  have h3:=H2.out.2.2.2
  omega
 have gM:Own W3 115 2 (.slice ca (lv.length+a.args.length) cc) (lv.length+a.args.length) (lvC (lv++zq a.args.length idx p)):=by
  rw [pH,<- cR]
  exact ae.keep fun g o hg ho=>by
   have:=hfr g hg
   rw [gU _ _ _ _ (by show g≠w.heap.size;omega)];exact ho
 rw [cR]
 obtain ⟨k0,k1,k2,k3⟩:=zc y0
 have g2:=zu y0 2;have g3:=zu y0 3
 have H3:=gZ (gK y0 (gK y1 (gK lJ (gK hfr gM))))
 clear cR y0 y1 xx1 xx0 lJ hfr gM d6 nP e7 f9 lK ai ae hf11 ij hc4 ia gT e1 f1 lE CA CP CC K2
 go_upto_region 10 with (fail)
 obtain ⟨W4,lD⟩:=zzN ((W3.setCell ⟨w.heap.size,2,none⟩ (.int .i64 (idx:Nat))).setCell ⟨w.heap.size,3,none⟩ (str p))
 have y0:W4.heap[w.heap.size]? = some (.cells #[.pointer (some ⟨ab,0,none⟩),.slice ca (lv.length+a.args.length) cc,.int .i64 (idx:Nat),str p] 117 (0,0)):=by rw [<- lD,zh (zh H3.out.1)];rfl
 have oth:∀ g,g≠w.heap.size->W4.heap[g]? = W3.heap[g]?:=fun g hg=>by rw [<- lD,gU _ _ _ _ (by show g≠w.heap.size;exact hg),gU _ _ _ _ (by show g≠w.heap.size;exact hg)]
 have y1:W4.heap[w.heap.size+1]? = some (.cells #[.pointer none,.slice none 0 0,.int .i64 0,str []] 117 (0,0)):=by rw [oth _ (by omega)];exact H3.out.2.1
 have lQ:Below w.heap.size w W4:=by rw [<- lD];exact (H3.out.2.2.1.setCell (p:=⟨w.heap.size,2,none⟩) (gQ _) _).setCell (p:=⟨w.heap.size,3,none⟩) (gQ _) _
 have gM:Own W4 115 2 (.slice ca (lv.length+a.args.length) cc) (lv.length+a.args.length) (lvC (lv++zq a.args.length idx p)):=H3.out.2.2.2.2.keep fun g o hg ho=>by
  have:=H3.out.2.2.2.1 g hg
  rw [oth g (by omega)];exact ho
 rw [lD]
 clear k0 k1 k2 k3 g2 g3
 obtain ⟨k0,k1,k2,k3⟩:=zc y0
 obtain ⟨z0,z1,z2,z3⟩:=zc y1
 have g0:=zu y1 0;have g1:=zu y1 1;have g2:=zu y1 2;have g3:=zu y1 3
 have H4:=gZ (gK y1 (gK lQ gM))
 clear lD y0 y1 oth lQ gM
 go_wp2_with fail
 have hV:=vO H4.out.1 (.pointer (some ⟨ab,0,none⟩)) (.slice ca (lv.length+a.args.length) cc) (.int .i64 (idx:Nat)) (str p)
 obtain ⟨s0,s1,s2,s3⟩:=zc hV
 have bz:=(((H4.out.2.1.setCell (p:=⟨w.heap.size+1,0,none⟩) (Nat.le_succ _) (.pointer (some ⟨ab,0,none⟩))).setCell (p:=⟨w.heap.size+1,1,none⟩) (Nat.le_succ _) (.slice ca (lv.length+a.args.length) cc)).setCell (p:=⟨w.heap.size+1,2,none⟩) (Nat.le_succ _) (.int .i64 (idx:Nat))).setCell (p:=⟨w.heap.size+1,3,none⟩) (Nat.le_succ _) (str p)
 refine bodyPost_ret (v:=.agg #[.pointer (some ⟨ab,0,none⟩),.slice ca (lv.length+a.args.length) cc,.int .i64 (idx:Nat),str p]) (by simp [results,Tryz.results104,go_sem,s0,s1,s2,s3]) rfl ?_
 have gC:(lv++zq a.args.length idx p).length=lv.length+a.args.length:=by rw [List.length_append,zx]
 refine ⟨ab,ca,cc,by rw [gC],bz,HA.out.2.2.2.2.1,?_⟩
 rw [gC]
 refine Own.lv ?_ gC.symm (fun g hg=>by have:=H3.out.2.2.2.1 g hg;omega)
 exact H4.out.2.2.keep fun g o hg ho=>by
  have:=H3.out.2.2.2.1 g hg
  rw [gU _ _ _ _ (by show g≠w.heap.size+1;omega),gU _ _ _ _ (by show g≠w.heap.size+1;omega),gU _ _ _ _ (by show g≠w.heap.size+1;omega),gU _ _ _ _ (by show g≠w.heap.size+1;omega)];exact ho
def jJ (F:Nat->Prop) (w:World) (v:Pl) (x:Value):Prop:=Rep F w (.sl 9 1 v.length (v.map fun m=>DV.val (str m.1))) x
def jQ (F:Nat->Prop) (w:World) (v:Pl) (x:Value):Prop:=Rep F w (.sl 3 1 v.length (v.map fun m=>DV.val (.int .i64 m.2))) x
theorem qP {F:Nat->Prop} {w:World}:∀ (us vs:List Value),zD F w (us.map DV.val) vs↔vs=us
 | [],vs=>by simp [zI]
 | u::us,vs=>by
   rw [List.map_cons,zU]
   constructor
   ·rintro ⟨x,xs,rfl,h1,h2⟩
    rw [zf] at h1
    rw [(qP us xs).1 h2,h1]
   ·rintro rfl
    exact ⟨u,us,rfl,zf.2 rfl,(qP us us).2 rfl⟩
theorem jJ.src {F:Nat->Prop} {w:World} {v:Pl} {x:Value} (h:jJ F w v x):zN 1 x v.length (ju v) w:=by
 have h':Rep F w (.sl 9 1 v.length ((ju v).map DV.val)) x:=by unfold jJ at h;rw [show (ju v).map DV.val=v.map fun m=>DV.val (str m.1) from by simp [ju,Function.comp_def]];exact h
 obtain ⟨xs,hx,hs⟩:=zN.ofRep h' (fun us hu u hm=>by
  rw [(qP _ _).1 hu] at hm
  obtain ⟨m,_,rfl⟩:=List.mem_map.1 hm
  simp [str,Value.oneCell'])
 rw [(qP _ _).1 hx] at hs;exact hs
theorem jQ.src {F:Nat->Prop} {w:World} {v:Pl} {x:Value} (h:jQ F w v x):zN 1 x v.length (jv v) w:=by
 have h':Rep F w (.sl 3 1 v.length ((jv v).map DV.val)) x:=by unfold jQ at h;rw [show (jv v).map DV.val=v.map fun m=>DV.val (.int .i64 m.2) from by simp [jv,Function.comp_def]];exact h
 obtain ⟨xs,hx,hs⟩:=zN.ofRep h' (fun us hu u hm=>by
  rw [(qP _ _).1 hu] at hm
  obtain ⟨m,_,rfl⟩:=List.mem_map.1 hm
  simp [Value.oneCell'])
 rw [(qP _ _).1 hx] at hs;exact hs
theorem kG.mv {F:Nat->Prop} {w:World} {v:Pl} {mv pt:Value} (h:kG w v mv pt) (hF:∀ g,mv.ownBlock=some g\/pt.ownBlock=some g->F g):jJ F w v mv/\jQ F w v pt:=by
 obtain ⟨a1,c1,rfl⟩:=h.1.slice
 obtain ⟨a2,c2,rfl⟩:=h.2.slice
 refine ⟨h.1.rep (fun g hg=>hF g (.inl hg)) ?_,h.2.rep (fun g hg=>hF g (.inr hg)) ?_⟩
 ·rw [show (v.map fun m=>DV.val (str m.1))=(ju v).map DV.val from by simp [ju,Function.comp_def]];exact (qP _ _).2 rfl
 ·rw [show (v.map fun m=>DV.val (.int .i64 m.2))=(jv v).map DV.val from by simp [jv,Function.comp_def]];exact (qP _ _).2 rfl
def Fv (va:Nat) (vw:Value) (i:Nat):Prop:=i≠va/\vw.ownBlock≠some i
def Mv (va:Nat) (vw:Value) (i:Nat):Prop:=i=va\/vw.ownBlock=some i
theorem Fv.keep {va:Nat} {vw vw':Value} {w w':World} (hb:But (Mv va vw) w w') (hf:∀ g,vw'.ownBlock=some g->vw.ownBlock=some g\/w.heap.size<=g) {d:DV} {x:Value} (h:Rep (Fv va vw) w d x):Rep (Fv va vw') w' d x :=
 (Rep.keep fun b o hF ho=>⟨⟨hF.1,fun e=>by
  rcases hf b e with h | h
  ·exact hF.2 h
  ·have:=zZ ho;omega⟩,by rw [hb.block b (zZ ho) (fun e=>e.elim hF.1 hF.2)];exact ho⟩).1 _ _ h
def numD (ns:List Nat):DV:=.sl 3 1 ns.length (ns.map fun n=>DV.val (.int .i64 (n:Nat)))
theorem jJ.cells {F:Nat->Prop} {w:World} {v:Pl} {x:Value} (h:jJ F w v x):∃ a c,x=.slice a v.length c/\∀ (i:Nat) (m:Bs×Int),v[i]? = some m->∃ b o,a=some ⟨b,o,none⟩/\F b/\b<w.heap.size/\w.cell? ⟨b,o+i,none⟩=some (str m.1):=by
 obtain ⟨a,c,e,_,_,gt⟩:=zM h
 refine ⟨a,c,e,fun i m hi=>?_⟩
 obtain ⟨b,o,u,d,ea,hF,gH,hd,hc,hr⟩:=gt i (List.getElem?_eq_some_iff.1 hi).1
 rw [List.getElem?_map,hi] at hd
 obtain rfl:=Option.some.inj hd
 rw [zf] at hr
 subst hr
 exact ⟨b,o,ea,hF,gH,hc⟩
def AtD (b:Bd) (begun args:List Nat) (opens:Nat):List DV:=kF b++[numD begun,numD args,.val (.int .i64 (opens:Nat))]
def SpAt (F:Nat->Prop) (w:World) (b:Bd) (lv:List zO) (bg:zO) (v:Pl) (vs:List Value):Prop :=
 ∃ begun args opens,yT lv bg v begun args opens/\zD F w (AtD b begun args opens) vs
theorem okAt_eq {t:Ty} {v:Pl} {k:Nat} {m:Bs} {z:Int} (h:v[k]? = some (m,z)):j2 t v k=(vN t m && (qL m == decide (k % 2=0)) && (if k=0 then m == [113] && decide (z = -1) else decide (0<=z) && decide (z<(k:Int)) && !(m == [113]) && ((v[z.toNat]?).map (·.1) == some (j5 m)))):=by
 unfold j2;rw [h]
theorem even_int (k:Nat):((k:Int) % 2 == 0)=decide (k % 2=0):=by
 rw [Bool.eq_iff_iff,beq_iff_eq,decide_eq_true_iff];omega
theorem jQ.cells {F:Nat->Prop} {w:World} {v:Pl} {x:Value} (h:jQ F w v x):∃ a c,x=.slice a v.length c/\∀ (i:Nat) (m:Bs×Int),v[i]? = some m->∃ b o,a=some ⟨b,o,none⟩/\F b/\b<w.heap.size/\w.cell? ⟨b,o+i,none⟩=some (.int .i64 m.2):=by
 obtain ⟨a,c,e,_,_,gt⟩:=zM h
 refine ⟨a,c,e,fun i m hi=>?_⟩
 obtain ⟨b,o,u,d,ea,hF,gH,hd,hc,hr⟩:=gt i (List.getElem?_eq_some_iff.1 hi).1
 rw [List.getElem?_map,hi] at hd
 obtain rfl:=Option.some.inj hd
 rw [zf] at hr
 subst hr
 exact ⟨b,o,ea,hF,gH,hc⟩
set_option maxRecDepth 100000 in
theorem hasPlay_v (F:Nat->Prop) (t:Ty) (kv mv pt:Value) (v:Pl) (w:World) (hk:Rep F w (qS t) kv) (ht:zY t<=15) (hm:jJ F w v mv) (hp:jQ F w v pt) (du:v.length<=60) (hl:∀ x∈v,Lim x.1.length) :
 Calls Tryz.prog 70 #[kv,.agg #[mv,pt]] w fun en w'=>en=.returned (.bool (qX t v v.length))/\Below w.heap.size w w':=by
 obtain ⟨kb,ks,rfl,_⟩:=zR hk
 obtain ⟨ma,mc,rfl,cF⟩:=hm.cells
 obtain ⟨pa,pc,rfl,br⟩:=hp.cells
 obtain ⟨W,hW,gG,hz,b0⟩:=qC w (.cells #[.slice ma v.length mc,.slice pa v.length pc] 33)
 obtain ⟨c0,c1,_,_⟩:=zT b0
 have gC:¬ (60:Int)<(v.length:Int):=by omega
 have gN:((v.length:Int) != (v.length:Int))=false:=by simp
 have bW:=hk.below gG (fun _ h=>h)
 have HH:=gZ (gK cF (gK br (gK gG (gK bW hl))))
 have HW:=gZ hW
 clear hk hm hp cF br hz b0 bW gG hW hl
 go_enter Tryz.func70,Tryz.ntmps70
 go_upto_region 1 with (fail)
 rw [HW.out]
 go_wp2_with fail
 go_loopw [24] (fun i wr=>∃ (wz:World) (k:Nat),wz=wr/\k<=v.length/\i=.int .i64 k/\qX t v k=true/\Below W.heap.size W wz) (fun i _=>v.length-(intOf i).toNat)
 case atStart=>exact ⟨_,0,rfl,Nat.zero_le _,rfl,rfl,gV _ _⟩
 case round =>
  obtain ⟨wr,k,rfl,hk,rfl,hH,hB⟩:=hrel
  have d0:=(hB.cell (gJ _ _ c0)).trans c0
  have d1:=(hB.cell (gJ _ _ c1)).trans c1
  clear c0 c1
  have HB:=gZ (gK hB (zzT HH.out.2.2.1 hB))
  clear hB
  by_cases gH:k<v.length
  ·have bA:(k:Int)<(v.length:Int):=by omega
   obtain ⟨⟨m,z⟩,gh⟩:∃ x,v[k]? = some x:=⟨_,List.getElem?_eq_getElem gH⟩
   obtain ⟨mb,mo,rfl,_,cw,cU⟩:=HH.out.1 k _ gh
   obtain ⟨pb,po,rfl,_,cS,cV⟩:=HH.out.2.1 k _ gh
   have m0:=(HB.out.2.cell (p:=⟨mb,mo+k,none⟩) cw).trans cU
   have p0:=(HB.out.2.cell (p:=⟨pb,po+k,none⟩) cS).trans cV
   have gy:=okAt_eq (t:=t) gh
   have hlm:Lim m.length:=HH.out.2.2.2.2 _ (List.mem_of_getElem? gh)
   have CM:=gZ (hasMove_any F t (.pointer (some ⟨kb,0,none⟩)) m wr (HH.out.2.2.2.1.below HB.out.1 (fun _ h=>h)) ht hlm)
   have HA:=gZ (gK hH (gK gh gy))
   have FALSE:Hid (j2 t v k=false->qX t v v.length=false):=gZ (fun h=>wJ h gH)
   clear hH cw cS cU cV gy
   cases mr:vN t m with
   | false =>
     have E:=gZ (FALSE.out (by rw [HA.out.2.2,mr];rfl))
     rw [mr] at CM
     clear FALSE gh hlm
     go_wp2_with fail
     (with_reducible refine CM.out.mono ?_)
     rintro en w1 ⟨rfl,e⟩
     subst w1
     go_wp2_with fail
     go_ret
     exact ⟨by rw [E.out];rfl,HB.out.2⟩
   | true =>
     rw [mr] at CM
     obtain ⟨c,p,rZ⟩:∃ c p,m=c::p:=by
      cases m with
      | nil=>simp [vN] at mr
      | cons c p=>exact ⟨c,p,rfl⟩
     have gO:p.length<=16777216:=by have:=hlm.le;rw [rZ,List.length_cons] at this;omega
     have CB:=gZ (j6 c p gO wr)
     have CE:=gZ (fun x=>enabler_any c p gO x)
     rw [<- rZ] at CB CE
     obtain ⟨bo,dx⟩:=zzN (qL m)
     obtain ⟨sj,sG⟩:=zzN (j5 m)
     rw [dx] at CB
     rw [sG] at CE
     have HO:Hid (j2 t v k=((bo == decide (k % 2=0)) && (if k=0 then m == [113] && decide (z = -1) else decide (0<=z) && decide (z<(k:Int)) && !(m == [113]) && ((v[z.toNat]?).map (·.1) == some sj)))):=by
      rw [HA.out.2.2,mr,dx,sG];exact gZ (by rw [Bool.true_and])
     clear dx sG mr hlm gO rZ gh
     by_cases gW:bo=((k:Int) % 2 == 0)
     ·subst gW
      have gP:(((k:Int) % 2 == 0) == decide (k % 2=0))=true:=by rw [even_int];simp
      replace HO:Hid (j2 t v k=(if k=0 then m == [113] && decide (z = -1) else decide (0<=z) && decide (z<(k:Int)) && !(m == [113]) && ((v[z.toNat]?).map (·.1) == some sj))):=by rw [HO.out,gP];exact gZ (by rw [Bool.true_and])
      clear gP
      by_cases bw:z < -1
      ·have E:=gZ (FALSE.out (by rw [HO.out];split;(· rw [Bool.and_eq_false_iff];exact .inr (by simp;omega));(· simp only [Bool.and_eq_false_iff];exact .inl (.inl (.inl (by simp;omega))))))
       clear FALSE HO
       go_wp2_with fail
       (with_reducible refine CM.out.mono ?_)
       rintro en w1 ⟨rfl,e⟩
       subst w1
       go_wp2_with fail
       (with_reducible refine CB.out.mono ?_)
       rintro en w2 ⟨rfl,e⟩
       subst w2
       go_wp2_with fail
       go_ret
       exact ⟨by rw [E.out];rfl,HB.out.2⟩
      by_cases fD:(k:Int)<=z
      ·have E:=gZ (FALSE.out (by rw [HO.out];split;(· rw [Bool.and_eq_false_iff];exact .inr (by simp;omega));(· simp only [Bool.and_eq_false_iff];exact .inl (.inl (.inr (by simp;omega))))))
       clear FALSE HO
       go_wp2_with fail
       (with_reducible refine CM.out.mono ?_)
       rintro en w1 ⟨rfl,e⟩
       subst w1
       go_wp2_with fail
       (with_reducible refine CB.out.mono ?_)
       rintro en w2 ⟨rfl,e⟩
       subst w2
       go_wp2_with fail
       go_ret
       exact ⟨by rw [E.out];rfl,HB.out.2⟩
      by_cases eY:k=0
      ·have hk0b:((k:Int) == 0)=true:=by rw [eY];rfl
       have hz:z = -1:=by omega
       have hzb:(z == -1)=true:=by rw [hz];rfl
       have hkp:¬ (0:Int)<(k:Int):=by omega
       have bL:(0<k)=False:=by simp [eY]
       replace HO:Hid (j2 t v k=(m == [113] && decide (z = -1))):=by rw [HO.out,if_pos eY];exact gZ rfl
       have hd:decide (z = -1)=true:=by simp [hz]
       cases mt:((m:Bs) == [113]) with
       | false =>
         have iW:((m:Bs) != [113])=true:=by rw [bne,mt];rfl
         have E:=gZ (FALSE.out (by rw [HO.out,mt];rfl))
         clear FALSE HO hz eY hd
         go_wp2_with fail
         (with_reducible refine CM.out.mono ?_)
         rintro en w1 ⟨rfl,e⟩
         subst w1
         go_wp2_with fail
         (with_reducible refine CB.out.mono ?_)
         rintro en w2 ⟨rfl,e⟩
         subst w2
         go_upto_region 9 with (fail)
         refine wp_region_noPanic ?_
         refine zl (fun w'=>Below wr.heap.size wr w') (fun _=>false) (by kernel_rfl) ?_
         have gT:(fun w'=>Below wr.heap.size wr w') wr.drew:=Below.drew (gV _ _)
         refine tk [0,1,2,3,4,5,6,7,8,9,10,11,12,13,14,15,16,17,18,19,20,21,22,23] gT ?_
         (intro d hd;simp [tkD] at hd;subst hd;simp only [tks,pQ,pZ,pS])
         iterate 24 (refine ⟨?_,?_,?_⟩;rotate_left;· (intro oi ho;simp at ho;subst ho;first | (refine Or.inr ⟨by rfl,?_⟩;with_reducible rfl) | (refine Or.inl ⟨by rfl,fun w' gI=>?_⟩;go_simp;try with_reducible rfl)))
         refine zo (by kernel_rfl) (NoPanic.normal ?_) _
         go_wp2_with fail
         go_ret
         exact ⟨by rw [E.out];rfl,kU HB.out.2 _⟩
       | true =>
         have iW:((m:Bs) != [113])=false:=by rw [bne,mt];rfl
         have E:=gZ (show qX t v (k+1)=true by rw [qX,HA.out.1,HO.out,mt,hd];rfl)
         clear FALSE HO hz eY hd
         go_wp2_with fail
         (with_reducible refine CM.out.mono ?_)
         rintro en w1 ⟨rfl,e⟩
         subst w1
         go_wp2_with fail
         (with_reducible refine CB.out.mono ?_)
         rintro en w2 ⟨rfl,e⟩
         subst w2
         go_upto_region 9 with (fail)
         refine wp_region_noPanic ?_
         refine zl (fun w'=>Below wr.heap.size wr w') (fun _=>false) (by kernel_rfl) ?_
         have gT:(fun w'=>Below wr.heap.size wr w') wr.drew:=Below.drew (gV _ _)
         refine tk [0,1,2,3,4,5,6,7,8,9,10,11,12,13,14,15,16,17,18,19,20,21,22,23] gT ?_
         (intro d hd;simp [tkD] at hd;subst hd;simp only [tks,pQ,pZ,pS])
         iterate 24 (refine ⟨?_,?_,?_⟩;rotate_left;· (intro oi ho;simp at ho;subst ho;first | (refine Or.inr ⟨by rfl,?_⟩;with_reducible rfl) | (refine Or.inl ⟨by rfl,fun w' gI=>?_⟩;go_simp;try with_reducible rfl)))
         refine zo (by kernel_rfl) (NoPanic.normal ?_) _
         go_wp2_with fail
         go_roundw
         case rel=>exact ⟨_,k+1,rfl,by omega,by go_num,E.out,HB.out.1.drew⟩
         case measure=>simp [intOf];omega
      ·have hk0b:((k:Int) == 0)=false:=by rw [beq_eq_false_iff_ne];omega
       have hkp:(0:Int)<(k:Int):=by omega
       have bL:(0<k)=True:=by simp;omega
       replace HO:Hid (j2 t v k=(decide (0<=z) && decide (z<(k:Int)) && !(m == [113]) && ((v[z.toNat]?).map (·.1) == some sj))):=by rw [HO.out,if_neg eY];exact gZ rfl
       by_cases cb:z = -1
       ·have hzb:(z == -1)=true:=by rw [cb];rfl
        have E:=gZ (FALSE.out (by rw [HO.out];simp only [Bool.and_eq_false_iff];exact .inl (.inl (.inl (by simp;omega)))))
        clear FALSE HO cb eY
        go_wp2_with fail
        (with_reducible refine CM.out.mono ?_)
        rintro en w1 ⟨rfl,e⟩
        subst w1
        go_wp2_with fail
        (with_reducible refine CB.out.mono ?_)
        rintro en w2 ⟨rfl,e⟩
        subst w2
        go_wp2_with fail
        go_ret
        exact ⟨by rw [E.out];rfl,HB.out.2⟩
       have hzb:(z == -1)=false:=by rw [beq_eq_false_iff_ne];exact cb
       obtain ⟨zn,hzn⟩:∃ zn:Nat,z=(zn:Int):=⟨z.toNat,by omega⟩
       subst hzn
       obtain ⟨⟨my,zy⟩,hvy⟩:∃ x,v[zn]? = some x:=⟨_,List.getElem?_eq_getElem (by omega)⟩
       have hznl:(zn:Int)<(v.length:Int):=by omega
       have hdd:(decide ((0:Int)<=(zn:Int)) && decide ((zn:Int)<(k:Int)))=true:=by simp;omega
       replace HO:Hid (j2 t v k=(!(m == [113]) && (my == sj))):=by rw [HO.out,hdd,Int.toNat_natCast,hvy];exact gZ (by rw [Bool.true_and];rfl)
       obtain ⟨yb,yo,ey,_,hyb,hyk⟩:=HH.out.1 zn _ hvy
       simp only [Option.some.injEq,Addr.mk.injEq] at ey
       obtain ⟨rfl,rfl,_⟩:=ey
       have y0:=(HB.out.2.cell (p:=⟨mb,mo+zn,none⟩) hyb).trans hyk
       clear hyb hyk hvy hdd cb
       cases mt:((m:Bs) == [113]) with
       | true =>
         have E:=gZ (FALSE.out (by rw [HO.out,mt];rfl))
         clear FALSE HO eY
         go_wp2_with fail
         (with_reducible refine CM.out.mono ?_)
         rintro en w1 ⟨rfl,e⟩
         subst w1
         go_wp2_with fail
         (with_reducible refine CB.out.mono ?_)
         rintro en w2 ⟨rfl,e⟩
         subst w2
         go_upto_region 9 with (fail)
         refine wp_region_noPanic ?_
         refine zl (fun w'=>Below wr.heap.size wr w') (fun _=>false) (by kernel_rfl) ?_
         have gT:(fun w'=>Below wr.heap.size wr w') wr.drew:=Below.drew (gV _ _)
         refine tk [0,1,2,3,4,5,6,7,8,9,10,11,12,13,14,15,16,17,18,19,20,21,22,23] gT ?_
         (intro d hd;simp [tkD] at hd;subst hd;simp only [tks,pQ,pZ,pS])
         iterate 24 (refine ⟨?_,?_,?_⟩;rotate_left;· (intro oi ho;simp at ho;subst ho;first | (refine Or.inr ⟨by rfl,?_⟩;with_reducible rfl) | (refine Or.inl ⟨by rfl,fun w' gI=>?_⟩;go_simp;try with_reducible rfl)))
         refine zo (by kernel_rfl) (NoPanic.normal ?_) _
         go_wp2_with fail
         go_ret
         exact ⟨by rw [E.out];rfl,kU HB.out.2 _⟩
       | false =>
         have KEY:Hid (∀ x,Below wr.heap.size wr x->x.cell? ⟨w.heap.size,0,none⟩=some (.slice (some ⟨mb,mo,none⟩) v.length mc)):=gZ (fun x hx=>(hx.cell (gJ _ _ d0)).trans d0)
         have KEYY:Hid (∀ x,Below wr.heap.size wr x->x.cell? ⟨mb,mo+zn,none⟩=some (str my)):=gZ (fun x hx=>(hx.cell (gJ _ _ y0)).trans y0)
         have iW:((m:Bs) != [113])=true:=by rw [bne,mt];rfl
         cases hme:(my == sj) with
         | false =>
           have hme2:((my:Bs) != sj)=true:=by rw [bne,hme];rfl
           have E:=gZ (FALSE.out (by rw [HO.out,mt,hme];rfl))
           clear FALSE HO eY
           go_wp2_with fail
           (with_reducible refine CM.out.mono ?_)
           rintro en w1 ⟨rfl,e⟩
           subst w1
           go_wp2_with fail
           (with_reducible refine CB.out.mono ?_)
           rintro en w2 ⟨rfl,e⟩
           subst w2
           go_upto_region 9 with (fail)
           refine wp_region_noPanic ?_
           refine zl (fun w'=>Below wr.heap.size wr w') (fun _=>false) (by kernel_rfl) ?_
           have gT:(fun w'=>Below wr.heap.size wr w') wr.drew:=Below.drew (gV _ _)
           refine tk [0,1,2,3,4,5,6,7,8,9,10,11,12,13,14,15,16] gT ?_
           (intro d hd;simp [tkD] at hd;subst hd;simp only [tks,pQ,pZ,pS])
           iterate 17 (refine ⟨?_,?_,?_⟩;rotate_left;· (intro oi ho;simp at ho;subst ho;first | (refine Or.inr ⟨by rfl,?_⟩;with_reducible rfl) | (refine Or.inl ⟨by rfl,fun w' gI=>?_⟩;have e0:=KEY.out w' gI;go_simp;try with_reducible rfl)))
           refine tk [17,18] gT ?_
           (intro d hd;simp [tkD] at hd;subst hd;simp only [tks,pQ,pZ,pS])
           iterate 2 (refine ⟨?_,?_,?_⟩;rotate_left;· (intro oi ho;simp at ho;subst ho;refine Or.inl ⟨by rfl,fun w' gI=>?_⟩;have e0:=KEYY.out w' gI;go_simp;try with_reducible rfl))
           (refine on 19 ?_;intro o ho K' hK;simp at ho;subst ho;go_simp)
           go_at_call 107
           (with_reducible refine (CE.out _).mono ?_)
           rintro en sn ⟨rfl,e⟩
           subst sn
           (refine hK.out _ _ (fun _=>gT) ?_;clear hK K';try simp only [pQ,pN,pZ,pS])
           refine tk [20,21,22,23] gT ?_
           (intro d hd;simp [tkD] at hd;subst hd;simp only [tks,pQ,pZ,pS])
           iterate 4 (refine ⟨?_,?_,?_⟩;rotate_left;· (intro oi ho;simp at ho;subst ho;refine Or.inl ⟨by rfl,fun w' gI=>?_⟩;go_simp;try with_reducible rfl))
           refine zo (by kernel_rfl) (NoPanic.normal ?_) _
           go_wp2_with fail
           go_ret
           exact ⟨by rw [E.out];rfl,kU HB.out.2 _⟩
         | true =>
           have hme2:((my:Bs) != sj)=false:=by rw [bne,hme];rfl
           have E:=gZ (show qX t v (k+1)=true by rw [qX,HA.out.1,HO.out,mt,hme];rfl)
           clear FALSE HO eY
           go_wp2_with fail
           (with_reducible refine CM.out.mono ?_)
           rintro en w1 ⟨rfl,e⟩
           subst w1
           go_wp2_with fail
           (with_reducible refine CB.out.mono ?_)
           rintro en w2 ⟨rfl,e⟩
           subst w2
           go_upto_region 9 with (fail)
           refine wp_region_noPanic ?_
           refine zl (fun w'=>Below wr.heap.size wr w') (fun _=>false) (by kernel_rfl) ?_
           have gT:(fun w'=>Below wr.heap.size wr w') wr.drew:=Below.drew (gV _ _)
           refine tk [0,1,2,3,4,5,6,7,8,9,10,11,12,13,14,15,16] gT ?_
           (intro d hd;simp [tkD] at hd;subst hd;simp only [tks,pQ,pZ,pS])
           iterate 17 (refine ⟨?_,?_,?_⟩;rotate_left;· (intro oi ho;simp at ho;subst ho;first | (refine Or.inr ⟨by rfl,?_⟩;with_reducible rfl) | (refine Or.inl ⟨by rfl,fun w' gI=>?_⟩;have e0:=KEY.out w' gI;go_simp;try with_reducible rfl)))
           refine tk [17,18] gT ?_
           (intro d hd;simp [tkD] at hd;subst hd;simp only [tks,pQ,pZ,pS])
           iterate 2 (refine ⟨?_,?_,?_⟩;rotate_left;· (intro oi ho;simp at ho;subst ho;refine Or.inl ⟨by rfl,fun w' gI=>?_⟩;have e0:=KEYY.out w' gI;go_simp;try with_reducible rfl))
           (refine on 19 ?_;intro o ho K' hK;simp at ho;subst ho;go_simp)
           go_at_call 107
           (with_reducible refine (CE.out _).mono ?_)
           rintro en sn ⟨rfl,e⟩
           subst sn
           (refine hK.out _ _ (fun _=>gT) ?_;clear hK K';try simp only [pQ,pN,pZ,pS])
           refine tk [20,21,22,23] gT ?_
           (intro d hd;simp [tkD] at hd;subst hd;simp only [tks,pQ,pZ,pS])
           iterate 4 (refine ⟨?_,?_,?_⟩;rotate_left;· (intro oi ho;simp at ho;subst ho;refine Or.inl ⟨by rfl,fun w' gI=>?_⟩;go_simp;try with_reducible rfl))
           refine zo (by kernel_rfl) (NoPanic.normal ?_) _
           go_wp2_with fail
           go_roundw
           case rel=>exact ⟨_,k+1,rfl,by omega,by go_num,E.out,HB.out.1.drew⟩
           case measure=>simp [intOf];omega
     ·have E:=gZ (FALSE.out (by rw [HO.out];rw [even_int] at gW;rw [Bool.and_eq_false_iff];exact .inl (by rw [beq_eq_false_iff_ne];exact gW)))
      clear FALSE HO
      go_wp2_with fail
      (with_reducible refine CM.out.mono ?_)
      rintro en w1 ⟨rfl,e⟩
      subst w1
      go_wp2_with fail
      (with_reducible refine CB.out.mono ?_)
      rintro en w2 ⟨rfl,e⟩
      subst w2
      go_wp2_with fail
      go_ret
      exact ⟨by rw [E.out];rfl,HB.out.2⟩
  ·obtain rfl:k=v.length:=by omega
   go_wp2_with fail
   go_ret
   exact ⟨by rw [hH];rfl,HB.out.2⟩

def vH (F:Nat->Prop) (w:World) (ms:List Bs) (x:Value):Prop:=Rep F w (.sl 9 1 ms.length (ms.map fun m=>DV.val (str m))) x
def vG (F:Nat->Prop) (w:World) (ps:List Int) (x:Value):Prop:=Rep F w (.sl 3 1 ps.length (ps.map fun z=>DV.val (.int .i64 z))) x
def jE (t:Ty) (ms:List Bs) (ps:List Int):Bool:=decide (ms.length<=60) && (decide (ps.length=ms.length) && qX t (ms.zip ps) (ms.zip ps).length)
theorem vH.slice {F:Nat->Prop} {w:World} {ms:List Bs} {x:Value} (h:vH F w ms x):∃ a c,x=.slice a ms.length c:=by
 obtain ⟨a,c,e,_⟩:=zM h;exact ⟨a,c,e⟩
theorem vG.slice {F:Nat->Prop} {w:World} {ps:List Int} {x:Value} (h:vG F w ps x):∃ a c,x=.slice a ps.length c:=by
 obtain ⟨a,c,e,_⟩:=zM h;exact ⟨a,c,e⟩
theorem zip_fst {ms:List Bs} {ps:List Int} (h:ps.length=ms.length):(ms.zip ps).map (·.1)=ms:=by
 rw [List.map_fst_zip (by omega)]
theorem zip_snd {ms:List Bs} {ps:List Int} (h:ps.length=ms.length):(ms.zip ps).map (·.2)=ps:=by
 rw [List.map_snd_zip (by omega)]
theorem vH.zip {F:Nat->Prop} {w:World} {ms:List Bs} {ps:List Int} {x:Value} (h:vH F w ms x) (he:ps.length=ms.length):jJ F w (ms.zip ps) x:=by
 have h1:(ms.zip ps).length=ms.length:=by rw [List.length_zip];omega
 unfold jJ
 rw [h1,show (ms.zip ps).map (fun m=>DV.val (str m.1))=ms.map (fun m=>DV.val (str m)) from by
  conv=>rhs;rw [<- zip_fst he]
  rw [List.map_map];rfl]
 exact h
theorem vG.zip {F:Nat->Prop} {w:World} {ms:List Bs} {ps:List Int} {x:Value} (h:vG F w ps x) (he:ps.length=ms.length):jQ F w (ms.zip ps) x:=by
 have h1:(ms.zip ps).length=ps.length:=by rw [List.length_zip];omega
 unfold jQ
 rw [h1,show (ms.zip ps).map (fun m=>DV.val (.int .i64 m.2))=ps.map (fun z=>DV.val (.int .i64 z)) from by
  conv=>rhs;rw [<- zip_snd he]
  rw [List.map_map];rfl]
 exact h
set_option maxRecDepth 100000 in
theorem hasPlay_any (F:Nat->Prop) (t:Ty) (kv mv pt:Value) (ms:List Bs) (ps:List Int) (w:World) (hk:Rep F w (qS t) kv) (ht:zY t<=15) (hm:vH F w ms mv) (hp:vG F w ps pt) (hl:∀ x∈ms,Lim x.length) :
 Calls Tryz.prog 70 #[kv,.agg #[mv,pt]] w fun en w'=>en=.returned (.bool (jE t ms ps))/\Below w.heap.size w w':=by
 by_cases du:ms.length<=60
 ·by_cases he:ps.length=ms.length
  ·refine (hasPlay_v F t kv mv pt (ms.zip ps) w hk ht (hm.zip he) (hp.zip he) (by rw [List.length_zip];omega) (fun x hx=>hl _ (List.of_mem_zip hx).1)).mono ?_
   rintro en w' ⟨rfl,hb⟩
   refine ⟨?_,hb⟩
   unfold jE
   rw [decide_eq_true du,decide_eq_true he];rfl
  ·have E:=gZ (show jE t ms ps=false by unfold jE;rw [decide_eq_false he,Bool.false_and,Bool.and_false])
   obtain ⟨kb,ks,rfl,_⟩:=zR hk
   obtain ⟨ma,mc,rfl⟩:=hm.slice
   obtain ⟨pa,pc,rfl⟩:=hp.slice
   obtain ⟨W,hW,gG,hz,b0⟩:=qC w (.cells #[.slice ma ms.length mc,.slice pa ps.length pc] 33)
   obtain ⟨c0,c1,_,_⟩:=zT b0
   have gC:¬ (60:Int)<(ms.length:Int):=by omega
   have gN:((ps.length:Int) != (ms.length:Int))=true:=by simp;omega
   have HW:=gZ hW
   have HB:=gZ gG
   clear hk hm hp hz b0 gG hW hl du he
   go_enter Tryz.func70,Tryz.ntmps70
   go_upto_region 1 with (fail)
   rw [HW.out]
   go_wp2_with fail
   go_ret
   exact ⟨by rw [E.out];rfl,HB.out⟩
 ·have E:=gZ (show jE t ms ps=false by unfold jE;rw [decide_eq_false du,Bool.false_and])
  obtain ⟨kb,ks,rfl,_⟩:=zR hk
  obtain ⟨ma,mc,rfl⟩:=hm.slice
  obtain ⟨pa,pc,rfl⟩:=hp.slice
  obtain ⟨W,hW,gG,hz,b0⟩:=qC w (.cells #[.slice ma ms.length mc,.slice pa ps.length pc] 33)
  obtain ⟨c0,c1,_,_⟩:=zT b0
  have gC:(60:Int)<(ms.length:Int):=by omega
  have HW:=gZ hW
  have HB:=gZ gG
  clear hk hm hp hz b0 gG hW hl du
  go_enter Tryz.func70,Tryz.ntmps70
  go_upto_region 1 with (fail)
  rw [HW.out]
  go_wp2_with fail
  go_ret
  exact ⟨by rw [E.out];rfl,HB.out⟩
theorem vH.below {F F':Nat->Prop} {w w':World} {ms:List Bs} {x:Value} (h:vH F w ms x) (hb:Below w.heap.size w w') (hF:∀ b,F b->F' b):vH F' w' ms x:=Rep.below hb hF h
theorem vG.below {F F':Nat->Prop} {w w':World} {ps:List Int} {x:Value} (h:vG F w ps x) (hb:Below w.heap.size w w') (hF:∀ b,F b->F' b):vG F' w' ps x:=Rep.below hb hF h
def qo (s:Bs) (ms:List Bs) (ps:List Int):Bool:=(zQ s).2 && jE (zQ s).1 ms ps
theorem playOk_kind {s:Bs} {t:Ty} (h:qh s=some t) (ms:List Bs) (ps:List Int):qo s ms ps=jE t ms ps/\zY t<=15:=by
 rw [uS] at h
 unfold qo
 cases h2:(zQ s).2 with
 | false=>rw [h2] at h;simp at h
 | true =>
   rw [h2] at h
   obtain rfl:=Option.some.inj h
   exact ⟨by rw [Bool.true_and],(uT h2).2⟩
theorem playOk_none {s:Bs} (h:qh s=none) (ms:List Bs) (ps:List Int):qo s ms ps=false:=by
 rw [uS] at h
 unfold qo
 cases h2:(zQ s).2 with
 | false=>rfl
 | true=>rw [h2] at h;simp at h
set_option maxRecDepth 100000 in
theorem y7 (F:Nat->Prop) (s:Bs) (mv pt:Value) (ms:List Bs) (ps:List Int) (w:World) (hs:Lim s.length) (hm:vH F w ms mv) (hp:vG F w ps pt) (hl:∀ x∈ms,Lim x.length) :
 Calls Tryz.prog 43 #[str s,.agg #[mv,pt]] w fun en w'=>en=.returned (.bool (qo s ms ps))/\Below w.heap.size w w':=by
 obtain ⟨ma,mc,rfl⟩:=hm.slice
 obtain ⟨pa,pc,rfl⟩:=hp.slice
 obtain ⟨W,hW,gG,hz,b0⟩:=qC w (.cells #[.slice ma ms.length mc,.slice pa ps.length pc] 33)
 have C:=gZ (yy s W hs)
 have HR:=gZ (gK (hm.below gG (F':=fun _=>True) fun _ _=>trivial) (gK (hp.below gG (F':=fun _=>True) fun _ _=>trivial) (gK hl gG)))
 have HW:=gZ (gK hW b0)
 clear hs hm hp hl hW hz b0 gG
 go_enter Tryz.func43,Tryz.ntmps43
 go_upto_region 1 with (fail)
 rw [HW.out.1]
 go_wp2_with fail
 (with_reducible refine C.out.mono ?_)
 rintro en w1 ⟨kv,rfl,gW,gq,gx⟩
 clear C
 obtain ⟨c0,c1,_,_⟩:=zT HW.out.2
 have c0':=(gW.cell (gJ _ _ c0)).trans c0
 have c1':=(gW.cell (gJ _ _ c1)).trans c1
 clear c0 c1
 have bY:=gZ (gK gW (zzT HR.out.2.2.2 gW))
 cases hq:qh s with
 | none =>
   obtain rfl:=gq hq
   have E:=gZ (playOk_none hq ms ps)
   clear gq gx hq gW
   go_wp2_with fail
   go_ret
   exact ⟨by rw [E.out];rfl,bY.out.2⟩
 | some t =>
   have rk:=gx t hq
   obtain ⟨ka,ks,rfl,_⟩:=zR rk
   obtain ⟨E,gA⟩:=playOk_kind hq ms ps
   have E:=gZ E
   have C2:=gZ (hasPlay_any (fun _=>True) t (.pointer (some ⟨ka,0,none⟩)) _ _ ms ps w1 ((Rep.keep fun b o _ ho=>⟨trivial,ho⟩).1 _ _ rk) gA (HR.out.1.below bY.out.1 fun _ h=>h) (HR.out.2.1.below bY.out.1 fun _ h=>h) HR.out.2.2.1)
   clear gq gx hq gW rk gA
   go_wp2_with fail
   (with_reducible refine C2.out.mono ?_)
   rintro en w2 ⟨rfl,gP⟩
   have h_:=gZ (zzT bY.out.2 gP)
   clear gP
   go_wp2_with fail
   go_ret
   exact ⟨by rw [E.out];rfl,h_.out⟩
def ku (ns:List Nat):List Value:=ns.map fun n=>Value.int .i64 (n:Nat)
theorem Own.numD {F:Nat->Prop} {w:World} {ns:List Nat} {a:Option Addr} {n c:Nat} (h:Own w 3 1 (.slice a n c) n (ku ns)) (hn:n=ns.length) (hF:∀ g,(Value.slice a n c).ownBlock=some g->F g):Rep F w (numD ns) (.slice a n c):=by
 subst hn
 refine h.rep hF ?_
 rw [show (ns.map fun n=>DV.val (.int .i64 (n:Nat)))=(ku ns).map DV.val from by simp [ku,Function.comp_def]]
 exact (qP _ _).2 rfl
theorem cells7_set5 {w:World} {b:Nat} {x0 x1 x2 x3 x4 x5 x6:Value} {T:TypeId} (h:w.heap[b]? = some (.cells #[x0,x1,x2,x3,x4,x5,x6] T (0,0))) (u:Value):(w.setCell ⟨b,5,none⟩ u).heap[b]? = some (.cells #[x0,x1,x2,x3,x4,u,x6] T (0,0)):=by rw [zh h];rfl
structure BegI (g:Nat) (s:Bs) (v:Int) (a2:Option Addr) (n2 c2:Nat) (a3:Option Addr) (n3 c3:Nat) (nb na:Nat) (xs ys:List Nat) (idx:Nat) (k:Nat) (a5:Option Addr) (c5:Nat) (a6:Option Addr) (c6:Nat) (w wr:World):Prop where
 below:Below w.heap.size w wr
 box:wr.heap[g]? = some (.cells #[str s,.int .i64 v,.slice a2 n2 c2,.slice a3 n3 c3,.slice a5 (nb+k) c5,.slice a6 (na+k) c6,.int .i64 (idx:Nat)] 145 (0,0))
 o5:Own wr 3 1 (.slice a5 (nb+k) c5) (nb+k) (ku xs++List.replicate k (.int .i64 (idx:Nat)))
 o6:Own wr 3 1 (.slice a6 (na+k) c6) (na+k) (ku ys++ku (List.range k))
 gw:w.heap.size<=g
 f5:∀ i,(Value.slice a5 (nb+k) c5).ownBlock=some i->w.heap.size<=i/\i≠g
 f6:∀ i,(Value.slice a6 (na+k) c6).ownBlock=some i->w.heap.size<=i/\i≠g
 ap:∀ i,(Value.slice a5 (nb+k) c5).ownBlock=some i->(Value.slice a6 (na+k) c6).ownBlock≠some i
theorem BegI.next {g:Nat} {s:Bs} {v:Int} {a2:Option Addr} {n2 c2:Nat} {a3:Option Addr} {n3 c3:Nat} {nb na:Nat} {xs ys:List Nat} {idx k:Nat} {a7:Option Addr} {c7:Nat} {a6:Option Addr} {c6:Nat} {w wr:World} (c_:Below w.heap.size w wr) (hgw:w.heap.size<=g)
 (eo:wr.heap[g]? = some (.cells #[str s,.int .i64 v,.slice a2 n2 c2,.slice a3 n3 c3,.slice a7 (nb+k+1) c7,.slice a6 (na+k) c6,.int .i64 (idx:Nat)] 145 (0,0)))
 (o5:Own wr 3 1 (.slice a7 (nb+k+1) c7) (nb+k+1) (ku xs++List.replicate (k+1) (.int .i64 (idx:Nat)))) (o6:Own wr 3 1 (.slice a6 (na+k) c6) (na+k) (ku ys++ku (List.range k)))
 (f5:∀ i,(Value.slice a7 (nb+k+1) c7).ownBlock=some i->w.heap.size<=i/\i≠g) (f6:∀ i,(Value.slice a6 (na+k) c6).ownBlock=some i->w.heap.size<=i/\i≠g) (ap:∀ i,(Value.slice a7 (nb+k+1) c7).ownBlock=some i->(Value.slice a6 (na+k) c6).ownBlock≠some i)
 {a8:Option Addr} {c8:Nat} {w8:World} {o:Obj} (ho:Own w8 3 1 (.slice a8 (na+k+1) c8) (na+k+1) (ku ys++ku (List.range k)++[.int .i64 (k:Nat)])) (hb:But (fun b=>(Value.slice a6 (na+k) c6).ownBlock=some b) (wr.alloc o) w8)
 (hg:∀ i,(Value.slice a8 (na+k+1) c8).ownBlock=some i->(Value.slice a6 (na+k) c6).ownBlock=some i\/i=wr.heap.size+1) :
 BegI g s v a2 n2 c2 a3 n3 c3 nb na xs ys idx (k+1) a7 c7 a8 c8 w (w8.setCell ⟨g,5,none⟩ (.slice a8 (na+k+1) c8)):=by
 have hz:=c_.size
 have iA:=zZ eo
 have iG:∀ i,(Value.slice a7 (nb+k+1) c7).ownBlock=some i->i<wr.heap.size:=fun i hi=>o5.lt hi
 have hf8:∀ i,(Value.slice a8 (na+k+1) c8).ownBlock=some i->w.heap.size<=i/\i≠g:=fun i hi=>by
  rcases hg i hi with e | e
  ·exact f6 i e
  ·omega
 have i4:w8.heap[g]? = some (.cells #[str s,.int .i64 v,.slice a2 n2 c2,.slice a3 n3 c3,.slice a7 (nb+k+1) c7,.slice a6 (na+k) c6,.int .i64 (idx:Nat)] 145 (0,0)) :=
  (hb.block g (by rw [zK];omega) (fun e=>(f6 g e).2 rfl)).trans (zG eo)
 refine ⟨?_,cells7_set5 i4 _,?_,?_,hgw,f5,hf8,fun i hi e8=>?_⟩
 ·exact ((c_.alloc hz o).trans (hb.toBelow (by rw [zK];omega) fun i hi e=>by have:=(f6 i e).1;omega)).setCell (p:=⟨g,5,none⟩) hgw _
 ·exact o5.keep fun i x hi hx=>by
   rw [gU _ _ _ _ (by show i≠g;exact (f5 i hi).2),hb.block i (by rw [zK];have:=iG i hi;omega) (fun e=>ap i hi e)];exact zG hx
 ·have e:ku ys++ku (List.range (k+1))=ku ys++ku (List.range k)++[.int .i64 (k:Nat)]:=by simp [ku,List.range_succ]
  rw [e]
  exact ho.keep fun i x hi hx=>by rw [gU _ _ _ _ (by show i≠g;exact (hf8 i hi).2)];exact hx
 ·rcases hg i e8 with e | e
  ·exact ap i hi e
  ·have:=iG i hi;omega
end Go.Proofs.YtfedjhgaeikjmaaGreatDoor

/- Walks. -/
import Derived.RegionTactic
import Derived.Deep.DeepCutAuto
import Derived.Maps.Own
import Derived.Test.YtdhaafoiokkbnabGreatDoorQ5
set_option linter.unusedVariables false
set_option linter.unusedSimpArgs false
set_option maxHeartbeats 8000000
set_option maxRecDepth 100000
open Array renaming all_eq_true'->RA,getD_eq_getD_getElem?->OZ,getElem?_eq_getElem->O0,getElem?_eq_none->Si,getElem?_setIfInBounds_ne->Qt
open Bool renaming and_eq_true->OP,eq_false_iff->SO,or_eq_true->PX
open Go.Builtin renaming append_->P5,firstCells->Sk,lenOf->SK,zeroCells->Qg
open Go.Maps renaming Keyed->Uu,atKey_put_other->Rj,atKey_put_same->Rx
open Go.Oper renaming wp->QC
open Go.Proofs.Tryz renaming func45->Ua,func46->Ub,func55->T_,func75->Ri,ntmps45->TC,ntmps46->TD,ntmps55->Tz,ntmps75->Q0,prog->No,underlying100->Ql,underlying140->QH,underlying3->QV,underlying9->SW,underlying94->SP
open Go.Region renaming Mode->QK,binds->Po,free->Tg,noSelect->SN,ready->Pe,wanted->PS
open Go.WideAt renaming IsKeyLit->RR
open Go.World renaming cell?->Li,frozen?_of_block->PB,ownsRow_nil->Pq
open List renaming all_eq_true->QY,append_assoc->Pi,eq_nil_of_length_eq_zero->OQ,getElem?_map->Pt,getElem_cons_succ->Sn,getElem_cons_zero->Sm,length->PY,length_append->Ov,length_cons->OD,length_nil->Pd,length_pos_iff->P4,length_take->Pw,map_append->QF,map_cons->OU,map_nil->Pz,map_toArray->QX,mem_append->O_,mem_cons->OX,mem_filter->Ra,mem_of_getElem?->OI,mem_of_mem_take->Sx,nil_append->OW,take_add_one->Pc,take_append_drop->Pj,take_length->OT,take_zero->QS
open Nat renaming add_mul->Q8,lt_or_ge->PT,sub_self->Ro,zero_add->PW,zero_le->OS
open Option renaming bind_some->Lx,getD_some->Ps,map_eq_some_iff->OA,map_some->Py
open UInt8 renaming le_iff_toNat_le->PM
namespace Go.Proofs.YtdhaafoiokkbnabGreatDoor
open Go.RowKit
section
variable {P:Program} {ops:Array Oper} {Q:Exit->Act->World->Prop} {md:QK} {S:World->Prop} {T:Nat->Bool}
def v7 (P:Program) (md:QK) (ops:Array Oper) (Q:Exit->Act->World->Prop) (S:World->Prop) (T:Nat->Bool):Nat->Array Bool->Act->World->Prop
 | 0,listed,a,w=>Pe md ops listed=[]/\Q .normal a w
 | fuel+1,listed,a,w =>
   (Pe md ops listed=[]->Q .normal a w) /\
   ∀ i∈Pe md ops listed,wpOp P ops Q i (fun a' w'=>(T i=false->S w')/\v7 P md ops Q S T fuel (listed.setIfInBounds i true) a' w') a w
theorem mU:∀ (fuel:Nat) (listed:Array Bool) (a:Act) (w:World),v7 P md ops Q S T fuel listed a w->wpAny P md ops Q fuel listed a w
 | 0,_,_,_,h=>h
 | fuel+1,_,_,_,h=>⟨h.1,fun i hi=>wpOp_mono (fun a' w' h'=>mU fuel _ a' w' h'.2) (h.2 i hi)⟩
theorem cM {md:QK} {ops:Array Oper} {L:Array Bool} {i j:Nat} (h:j∈Pe md ops L) (hne:j≠i):j∈Pe md ops (L.setIfInBounds i true):=by
 unfold Pe at *;rw [Ra] at *;refine ⟨h.1,?_⟩;have h2:=h.2;rw [OP] at *;refine ⟨?_,?_⟩
 ·have e:(L.setIfInBounds i true).getD j true=L.getD j true:=by
   simp only [OZ];rw [Qt (fun e=>hne e.symm)]
  rw [e];exact h2.1
 ·have h3:=h2.2;cases ho:ops[j]? with
  | none=>rw [ho] at h3;simp at h3
  | some o =>
    rw [ho] at h3;simp only [Py,Ps] at h3 ⊢;rw [RA] at *;intro e he;have h4:=h3 e he;rw [PX] at *;rcases h4 with h4 | h4
    ·exact .inl h4
    ·refine .inr ?_;by_cases hk:e.on=i
     ·rw [hk];simp only [OZ] at h4 ⊢;rw [hk] at h4;rcases PT i L.size with h' | h'
      ·simp [h']
      ·rw [Si h'] at h4;simp at h4
     ·simp only [OZ] at h4 ⊢;rw [Qt (fun e=>hk e.symm)];exact h4
theorem xi {md:QK} {ops:Array Oper} {L:Array Bool} {j:Nat} (h:j∈Pe md ops L) :
 L.getD j true=false/\∃ o,ops[j]? = some o/\∀ e∈o.after,Po md e=true->L.getD e.on false=true:=by
 unfold Pe at h;rw [Ra] at h;have h2:=h.2;rw [OP] at h2;refine ⟨by simpa using h2.1,?_⟩;cases ho:ops[j]? with
 | none=>have:=h2.2;rw [ho] at this;simp at this
 | some o =>
   refine ⟨o,rfl,fun e he hb=>?_⟩;have h3:=h2.2;rw [ho] at h3;simp only [Py,Ps] at h3;rw [RA] at h3;have h4:=h3 e he;rw [PX] at h4;rcases h4 with h4 | h4
   ·rw [hb] at h4;simp at h4
   ·exact h4
theorem wpAnyS_first {i:Nat} {oi:Oper} {v:Value} (hi:ops[i]? = some oi) (LK:∀ (j:Nat) (o:Oper) cs b,ops[j]? = some o->o.op≠.select cs b)
 (hQ:∀ c a w,Q (.panic c) (a.put oi.dst v) w->Q (.panic c) a w)
 (hT:∀ j oj,ops[j]? = some oj->T j=true->∃ e∈oj.after,Po md e=true/\e.on=i) (hTi:T i=false) :
 ∀ (fuel:Nat) (listed:Array Bool) (a:Act) (w:World),
   (∀ j oj,ops[j]? = some oj->j≠i->listed.getD j true=false->(∀ e∈oj.after,Po md e=true->e.on≠i)->oi.apart ops oj=true) ->
   i∈Pe md ops listed->YieldsIf P ops S oi v a->S w ->
   v7 P md ops Q S T fuel (listed.setIfInBounds i true) (a.put oi.dst v) w->v7 P md ops Q S T (fuel+1) listed a w:=by
 intro fuel
 induction fuel with
 | zero =>
   intro listed a w _ hr hy hS H;refine ⟨fun h=>(by rw [h] at hr;cases hr),fun j hj=>?_⟩;by_cases F5:j=i
   ·subst F5;exact hy.wpOp hi hS ⟨fun _=>hS,H⟩
   ·have:=cM hj F5;rw [H.1] at this;cases this
 | succ fuel ih =>
   intro listed a w oO hr hy hS H;refine ⟨fun h=>(by rw [h] at hr;cases hr),fun j hj=>?_⟩;by_cases F5:j=i
   ·subst F5;exact hy.wpOp hi hS ⟨fun _=>hS,H⟩
   ·have h1:=H.2 j (cM hj F5);obtain ⟨MD,oj,hoj,t6⟩:=xi hj;have Mf:∀ e∈oj.after,Po md e=true->e.on≠i:=fun e he hb Bj=>by
     have h1:=t6 e he hb;have h0:=(xi hr).1;rw [Bj] at h1;simp only [OZ] at h0 h1;rcases PT i listed.size with h' | h'
     ·simp [h'] at h0 h1;rw [h0] at h1;cases h1
     ·simp [Si h'] at h1
    have hTj:T j=false:=by
     cases hT':T j with
     | false=>rfl
     | true =>
       obtain ⟨e,he,hb,Bj⟩:=hT j oj hoj hT';exact absurd Bj (Mf e he hb)
    have h2:=wpOp_putIf hoj (oO j oj hoj F5 MD Mf) (fun cs b=>LK i oi cs b hi) (fun cs b=>LK j oj cs b hoj) hQ hy h1
    have JA:∀ k ok,ops[k]? = some ok->k≠i->(listed.setIfInBounds j true).getD k true=false ->
     (∀ e∈ok.after,Po md e=true->e.on≠i)->oi.apart ops ok=true:=fun k ok hk hki hun a_=>by
     refine oO k ok hk hki ?_ a_;by_cases hjk:j=k
     ·subst hjk;exact MD
     ·simp only [OZ] at hun ⊢;rw [Qt hjk] at hun;exact hun
    refine wpOp_mono (fun a' w' h3=>⟨h3.2.1,ih (listed.setIfInBounds j true) a' w' JA (cM hr (Ne.symm F5)) h3.1 (h3.2.1 hTj) ?_⟩) h2;rw [Array.setIfInBounds_comm _ _ F5];exact h3.2.2
def waitT (md:QK) (ops:Array Oper) (T:Nat->Bool) (i:Nat):Bool :=
 !T i && (List.range ops.size).all fun j=>!T j || ((ops[j]?).map fun o=>o.after.any fun e=>Po md e && e.on == i).getD true
theorem waitT_spec {i:Nat} (h:waitT md ops T i=true):T i=false/\∀ j oj,ops[j]? = some oj->T j=true->∃ e∈oj.after,Po md e=true/\e.on=i:=by
 unfold waitT at h;rw [OP] at h;refine ⟨by simpa using h.1,fun j oj hj hT=>?_⟩;have h2:=h.2;rw [QY] at h2;have h3:=h2 j (List.mem_range.2 (Array.getElem?_eq_some_iff.1 hj).1);rw [hT,hj] at h3;simp only [Bool.not_true,Bool.false_or,Py,Ps] at h3;rw [Array.any_eq_true'] at h3;obtain ⟨e,he,h4⟩:=h3;rw [OP,beq_iff_eq] at h4;exact ⟨e,he,h4⟩
theorem wpAnyS_take (i:Nat) {v:Value} {fuel:Nat} {listed:Array Bool} {a:Act} {w:World}
 (hs:SN ops=true) (hf:Tg md ops listed i=true) (hr:(Pe md ops listed).contains i=true) (ht:waitT md ops T i=true)
 (hQ:∀ d c a w,Q (.panic c) (a.put d v) w->Q (.panic c) a w) (hS:S w)
 (hy:∀ oi,ops[i]? = some oi->YieldsIf P ops S oi v a)
 (h:∀ d,(ops[i]?).bind (·.dst)=d->v7 P md ops Q S T fuel (listed.setIfInBounds i true) (a.put d v) w):v7 P md ops Q S T (fuel+1) listed a w:=by
 have hm:i∈Pe md ops listed:=by simpa using hr
 obtain ⟨_,oi,hi,_⟩:=xi hm;obtain ⟨h1,h2⟩:=waitT_spec ht;exact wpAnyS_first hi (Region.noSelect_spec hs) (fun c a w=>hQ _ c a w) h2 h1 fuel listed a w (Region.free_spec hi hf) hm (hy oi hi) hS (h _ (by rw [hi];rfl))
def tks (P:Program) (ops:Array Oper) (S:World->Prop):List Nat->List (Option Tmp)->Act->(Act->Prop)->Prop
 | i::l,d::ds,a,K=>∃ v,(∀ oi,ops[i]? = some oi->YieldsIf P ops S oi v a)/\tks P ops S l ds (a.put d v) K
 | [],_,a,K=>K a
 | _::_,[],_,_=>False
def tkOk (md:QK) (ops:Array Oper) (T:Nat->Bool):List Nat->Array Bool->Bool
 | [],_=>true
 | i::l,L=>Tg md ops L i && ((Pe md ops L).contains i && (waitT md ops T i && tkOk md ops T l (L.setIfInBounds i true)))
def tkL:List Nat->Array Bool->Array Bool
 | [],L=>L
 | i::l,L=>tkL l (L.setIfInBounds i true)
def tkN:List Nat->Nat->Nat
 | [],n=>n
 | _::l,n=>tkN l n+1
def tkD (ops:Array Oper):List Nat->List (Option Tmp)
 | []=>[]
 | i::l=>(ops[i]?).bind (·.dst)::tkD ops l
theorem tk (is:List Nat) {fuel:Nat} {listed:Array Bool} {a:Act} {w:World} (hS:S w) (h:∀ ds,tkD ops is=ds->tks P ops S is ds a (fun a'=>v7 P md ops Q S T fuel (tkL is listed) a' w))
 (rj:(SN ops && tkOk md ops T is listed)=true:=by kernel_rfl) (hQ:∀ v d c a w,Q (.panic c) (a.put d v) w->Q (.panic c) a w:=by exact fun _ _ _ _ _ h=>h):v7 P md ops Q S T (tkN is fuel) listed a w:=by
 have h':=h _ rfl;clear h;rw [OP] at rj;obtain ⟨hs,rj⟩:=rj
 induction is generalizing listed a with
 | nil=>exact h'
 | cons i l ih =>
   rw [tkOk,OP,OP,OP] at rj;rw [tkD,tks] at h';obtain ⟨v,hy,hk⟩:=h';exact wpAnyS_take i hs rj.1 rj.2.1 rj.2.2.1 (fun d c a w=>hQ v d c a w) hS hy (fun d hd=>by
    rw [hd] at hk;exact ih hk rj.2.2.2)
theorem pQ (l:List Value) (df:List Deferred) (k:Nat) (v:Value):Act.put ⟨l.toArray,df⟩ (some k) v=⟨(l.set k v).toArray,df⟩:=by simp [Act.put]
theorem pN (a:Act) (v:Value):Act.put a none v=a:=rfl
theorem pZ (x y:Value) (l:List Value):(x::l).set 0 y=y::l:=rfl
theorem pS (x y:Value) (l:List Value) (n:Nat):(x::l).set (n+1) y=x::l.set n y:=rfl
theorem jG (i:Nat) {fuel:Nat} {listed:Array Bool} {a:Act} {w:World} (hr:Pe md ops listed=[i])
 (h:∀ o,ops[i]? = some o->∀ K':Act->World->Prop,Shut (∀ a w,(T i=false->S w)->v7 P md ops Q S T fuel (listed.setIfInBounds i true) a w->K' a w) ->
  if PS o (yielded ops a.tmps)=true then QC P o a w K' Q else K' (a.put o.dst undef) w):v7 P md ops Q S T (fuel+1) listed a w:=by
 refine ⟨fun h0=>by rw [hr] at h0;simp at h0,fun j hj=>?_⟩;rw [hr] at hj;simp only [List.mem_singleton] at hj;subst hj;obtain ⟨_,o,ho,_⟩:=xi (md:=md) (ops:=ops) (L:=listed) (j:=j) (by rw [hr];simp);exact wpOp_step ho (fun K' hK=>h o ho K' (fun a w hS hW=>hK a w ⟨hS,hW⟩))
theorem on (i:Nat) {fuel:Nat} {listed:Array Bool} {a:Act} {w:World}
 (h:∀ o,ops[i]? = some o->∀ K':Act->World->Prop,Shut (∀ a w,(T i=false->S w)->v7 P md ops Q S T fuel (listed.setIfInBounds i true) a w->K' a w) ->
  if PS o (yielded ops a.tmps)=true then QC P o a w K' Q else K' (a.put o.dst undef) w) (hr:Pe md ops listed=[i]:=by kernel_rfl):v7 P md ops Q S T (fuel+1) listed a w :=
 jG i hr h
theorem qX (i j:Nat) {fuel:Nat} {listed:Array Bool} {a:Act} {w:World} (hr:Pe md ops listed=[i,j])
 (h:∀ o,ops[i]? = some o->∀ K':Act->World->Prop,Shut (∀ a w,(T i=false->S w)->v7 P md ops Q S T fuel (listed.setIfInBounds i true) a w->K' a w) ->
  if PS o (yielded ops a.tmps)=true then QC P o a w K' Q else K' (a.put o.dst undef) w)
 (h2:∀ o,ops[j]? = some o->∀ K':Act->World->Prop,Shut (∀ a w,(T j=false->S w)->v7 P md ops Q S T fuel (listed.setIfInBounds j true) a w->K' a w) ->
  if PS o (yielded ops a.tmps)=true then QC P o a w K' Q else K' (a.put o.dst undef) w):v7 P md ops Q S T (fuel+1) listed a w:=by
 refine ⟨fun h0=>by rw [hr] at h0;simp at h0,fun k hk=>?_⟩;obtain ⟨_,o,ho,_⟩:=xi hk;rw [hr] at hk;simp only [OX,List.not_mem_nil,or_false] at hk;rcases hk with rfl | rfl
 ·exact wpOp_step ho (fun K' hK=>h o ho K' (fun a w hS hW=>hK a w ⟨hS,hW⟩))
 ·exact wpOp_step ho (fun K' hK=>h2 o ho K' (fun a w hS hW=>hK a w ⟨hS,hW⟩))
theorem zX {listed:Array Bool} {a:Act} {w:World} (hr:Pe md ops listed=[]) (h:Q .normal a w) :
 ∀ fuel,v7 P md ops Q S T fuel listed a w
 | 0=>⟨hr,h⟩
 | _+1=>⟨fun _=>h,by rw [hr];simp⟩
theorem zB {id:Nat} {a:Act} {w:World} (S:World->Prop) (T:Nat->Bool) (hm:P.follows .mixedOrders=true)
 (h:v7 P .any ops Q S T ops.size (Array.replicate ops.size false) a w.drew):(Code.region id ops true).wp P Q a w :=
 wp_region_any hm (mU _ _ _ _ h)
end
theorem out_cell {m:Nat->Prop} {w6 w7:World} {o:Obj} {ob f:Nat} {u:Value} (hb:But m (w6.alloc o) w7) (hm:¬ m ob) (h:w6.cell? ⟨ob,f,none⟩=some u):w7.cell? ⟨ob,f,none⟩=some u:=by
 have rH:=n_ w6 ⟨ob,f,none⟩ h;rw [hb.cell (p:=⟨ob,f,none⟩) (by rw [zK];exact Nat.lt_succ_of_lt rH) hm];exact zV h
theorem out_free {m:Nat->Prop} {w6 w7:World} {o:Obj} {ob f:Nat} (hb:But m (w6.alloc o) w7) (hm:¬ m ob) (rH:ob<w6.heap.size) (h:w6.frozen? ⟨ob,f,none⟩=false):w7.frozen? ⟨ob,f,none⟩=false:=by
 rw [PB (w:=w6) (by rw [hb.block _ (by rw [zK];omega) hm,Below.heap_alloc _ _ _ rH])];exact h
theorem but_cell {rd:Nat} {w w':World} (hb:But (· = rd) w w') {b o:Nat} {u:Value} (hne:b≠rd) (h:w.cell? ⟨b,o,none⟩=some u):w'.cell? ⟨b,o,none⟩=some u :=
 (hb.cell (p:=⟨b,o,none⟩) (n_ w ⟨b,o,none⟩ h) hne).trans h
theorem but_free {rd:Nat} {w w':World} (hb:But (· = rd) w w') {b o:Nat} (hne:b≠rd) (rH:b<w.heap.size) (h:w.frozen? ⟨b,o,none⟩=false):w'.frozen? ⟨b,o,none⟩=false:=by
 rw [PB (w:=w) (hb.block b rH hne)];exact h
theorem zu.thru {w w':World} {size g n c m:Nat} {news:List Value} {q:Nat->Prop} (h:zu size (.slice (some ⟨g,0,none⟩) n c) m news w) (hb:But q w w') (hq:¬ q g):zu size (.slice (some ⟨g,0,none⟩) n c) m news w':=by
 obtain ⟨h1,h2,⟨a,c',e,h3⟩ | ⟨e,_⟩⟩:=h
 ·simp only [Value.slice.injEq,Option.some.injEq] at e;obtain ⟨rfl,rfl,rfl⟩:=e;refine ⟨h1,h2,.inl ⟨_,_,rfl,fun j u hu=>?_⟩⟩;have h4:=h3 j u hu;have rV:(Addr.add ⟨g,0,none⟩ j).block=g:=by unfold Addr.add;split <;> rfl
  exact (hb.cell (n_ w _ h4) (by rw [rV];exact hq)).trans h4
 ·simp at e
theorem wJ (w:World) (o o':Obj):((w.alloc o).alloc o').heap.size=w.heap.size+1+1:=by rw [zK,zK]
def uB (size:Nat) (v:Value) (n:Nat) (xs:List Value) (w:World):Prop :=
 xs.length=n*size/\((∃ b,v=.slice (some b) n n/\∀ (j:Nat) u,xs[j]? = some u->w.cell? (b.add j)=some u)\/(v=.slice none 0 0/\n=0))
theorem fb {P:Program} {w:World} (t ty e:TypeId) (i:TypeInfo) (z:Value) (size bytes:Nat) (ht:P.underlying t=some (.slice e)) (hi:P.info? e=some i) (hz:i.zero=some z)
 (aR:i.size=size) (tC:i.bytes=bytes) (By:z.cells.size=size)
 (v:Value) (n:Nat) (xs:List Value) (r9:uB size v n xs w)
 (x:Value) (m:Nat) (news:List Value) (hs:zu size x m news w) (hm:0<m) (BU:n+m<=maxLen) (tA:(n+m)*bytes<=140737488355328) :
 ∃ c' w',(P5 #[t,t] ty #[v,x]).run P w=.ok (.slice (some ⟨w.heap.size,0,none⟩) (n+m) c') w'/\Own w' e size (.slice (some ⟨w.heap.size,0,none⟩) (n+m) c') (n+m) (xs++news)/\Below w.heap.size w w':=by
 obtain ⟨hl,h1,⟨a,c,rfl,sg⟩ | ⟨rfl,rfl⟩⟩:=hs
 ·subst aR;subst tC;have I9:n+m<=9223372036854775807:=by simp only [maxLen] at BU;omega
  have hlen:(xs++news).length=(n+m)*i.size:=by rw [Ov,r9.1,hl,Q8]
  have grown:∀ (old:Nat),
   Own (w.drew.alloc (.cells (xs.toArray++news.toArray++Qg z.cells (grownCap w (n+m) old e-(n+m))) e)) e i.size
    (.slice (some ⟨w.heap.size,0,none⟩) (n+m) (grownCap w (n+m) old e)) (n+m) (xs++news) /\
   Below w.heap.size w (w.drew.alloc (.cells (xs.toArray++news.toArray++Qg z.cells (grownCap w (n+m) old e-(n+m))) e)):=by
   intro old;have lR:=grownCap_ge w (n+m) old e;have M8:grownCap w (n+m) old e<=maxLen:=grownCap_le_maxLen w (n+m) old e BU;refine ⟨⟨hlen,.inr ⟨w.heap.size,_,_,rfl,OS _,Go.heap_alloc_new w.drew _,lR,M8,?_,?_⟩⟩,((rZ _ w).drew).alloc (n9 _) _⟩
   ·simp only [Array.size_append,List.size_toArray,size_zeroCells,By,r9.1,hl,<- Q8]
    congr 1
    omega
   ·simp only [Array.toList_append,Pi];rw [<- Pi,<- hlen];exact List.take_left
  rcases r9.2 with ⟨b,rfl,holds⟩ | ⟨rfl,rfl⟩
  ·have hr:=run_append_grow (P:=P) w t ty e i z ht hi hz b n n xs r9.1 holds a m c news hl sg (by omega) (by omega) (growslice_fits (by omega) tA);exact ⟨_,_,hr,grown n⟩
  ·have hx:xs=[]:=OQ (by simpa using r9.1);subst hx;have hr:=run_append_nil (P:=P) w t ty e i z ht hi hz a m c news hl sg (by omega) (by omega) (by have hb:=tA;simp only [PW] at hb;omega);have GD:=grown 0;simp only [PW,OW,Array.empty_append] at GD ⊢;exact ⟨_,_,hr,GD⟩
 ·omega
theorem ft {P:Program} {w:World} (t ty e:TypeId) (i:TypeInfo) (size:Nat) (ht:P.underlying t=some (.slice e)) (hi:P.info? e=some i) (a:Option Addr) (n c:Nat) (hn:n<=c) (hc:c<=maxLen)
 (x:Value) (hs:zu size x 0 [] w) :
 (P5 #[t,t] ty #[.slice a n c,x]).run P w=.ok (.slice a n c) w:=by
 obtain ⟨hl,h1,⟨b,c',rfl,_⟩ | ⟨rfl,_⟩⟩:=hs
 ·cases a <;> simp [P5,run_underlying ht,sizeOf,typeInfo,hi,SK,Sk,hn,storeCells,loadCells,loadCellsFrom]
 ·cases a <;> simp [P5,run_underlying ht,sizeOf,typeInfo,hi,SK,Sk,hn,storeCells,loadCells,loadCellsFrom]
theorem yO {P:Program} {w:World} {ops:Array Oper} {o:Oper} {a:Act} {K:Act->World->Prop} {Q:Exit->Act->World->Prop} {E:Prop} (GE:o.guard=none) (s x:Operand) (t:TypeId)
 (ho:o.op=.call { callee:=.builtin .append,args:=#[s,x],argTypes:=#[t,t] })
 (e:TypeId) (z:Value) (size bytes:Nat) (ht:P.underlying t=some (.slice e)) (hi:(P.info? e).map (fun i=>(i.zero,i.size,i.bytes))=some (some z,size,bytes))
 (By:z.cells.size=size)
 (v:Value) (n:Nat) (xs:List Value) (hs:a.eval s=v) (r9:uB size v n xs w)
 (y:Value) (m:Nat) (news:List Value) (hx:a.eval x=y) (sE:zu size y m news w) (hm:0<m)
 (BU:n+m<=maxLen) (tA:(n+m)*bytes<=140737488355328)
 (h:∀ c' w',Own w' e size (.slice (some ⟨w.heap.size,0,none⟩) (n+m) c') (n+m) (xs++news)->Below w.heap.size w w' ->
  K (a.put o.dst (.slice (some ⟨w.heap.size,0,none⟩) (n+m) c')) w'):if PS o (yielded ops a.tmps)=true then QC P o a w K Q else E:=by
 rw [if_pos (by simp [PS,GE])];obtain ⟨i,hi,hz,aR,tC⟩:=info_parts hi;obtain ⟨c',w',hr,h2,h3⟩:=fb (P:=P) (w:=w) t o.type e i z size bytes ht hi hz aR tC By v n xs r9 y m news sE hm BU tA;unfold QC execOp;simp only [ho,resolve,invoke,builtin,Sem.run_bind,Sem.run_pure,Result.andThen_ok,QX,OU,Pz,hs,hx,hr];exact h c' w' h2 h3
theorem eW {P:Program} {w:World} {ops:Array Oper} {o:Oper} {a:Act} {K:Act->World->Prop} {Q:Exit->Act->World->Prop} {E:Prop} (GE:o.guard=none) (s x:Operand) (t:TypeId)
 (ho:o.op=.call { callee:=.builtin .append,args:=#[s,x],argTypes:=#[t,t] })
 (e:TypeId) (z:Value) (size bytes:Nat) (ht:P.underlying t=some (.slice e)) (hi:(P.info? e).map (fun i=>(i.zero,i.size,i.bytes))=some (some z,size,bytes))
 (b:Option Addr) (n c:Nat) (hn:n<=c) (hc:c<=maxLen) (hs:a.eval s=.slice b n c)
 (y:Value) (hx:a.eval x=y) (sE:zu size y 0 [] w)
 (h:K (a.put o.dst (.slice b n c)) w):if PS o (yielded ops a.tmps)=true then QC P o a w K Q else E:=by
 rw [if_pos (by simp [PS,GE])];obtain ⟨i,hi,hz,aR,tC⟩:=info_parts hi;have hr:=ft (P:=P) (w:=w) t o.type e i size ht hi b n c hn hc y sE;unfold QC execOp;simp only [ho,resolve,invoke,builtin,Sem.run_bind,Sem.run_pure,Result.andThen_ok,QX,OU,Pz,hs,hx,hr];exact h
theorem uB.ofRep {F:Nat->Prop} {w:World} {e:TypeId} {sz n:Nat} {cs:List DV} {a:Option Addr} {c:Nat} (h:Rep F w (.sl e sz n cs) (.slice a n c)) (D2:∀ us,zW F w cs us->∀ u∈us,u.oneCell'=true) :
 ∃ xs,zW F w cs xs/\uB sz (.slice a n n) n xs w:=by
 obtain ⟨xs,h1,h2,_,h4⟩:=zu.ofRep h D2;refine ⟨xs,h1,h2,?_⟩;rcases h4 with ⟨b,c',e1,h5⟩ | ⟨e1,rfl⟩
 ·injection e1 with e2 e3 e4;subst e2;exact .inl ⟨b,rfl,h5⟩
 ·injection e1 with e2 e3 e4;subst e2;exact .inr ⟨rfl,rfl⟩
theorem uB.drew {w:World} {size n:Nat} {v:Value} {xs:List Value} (h:uB size v n xs w):uB size v n xs w.drew:=h
theorem Rep.cutSl {F:Nat->Prop} {w:World} {e:TypeId} {sz n:Nat} {cs:List DV} {a:Option Addr} {c:Nat} (h:Rep F w (.sl e sz n cs) (.slice a n c)):Rep F w (.sl e sz n cs) (.slice a n n):=by
 rw [zh] at h ⊢;obtain ⟨hl,a',cap,e1,hn,hz,h⟩:=h;injection e1 with e2 e3 e4;subst e2;subst e4;exact ⟨hl,a,n,rfl,n9 _,fun ha=>by have:=hz ha;omega,h⟩
theorem jb {P:Program} {c:Code} {Q:Exit->Act->World->Prop} {a:Act} {w:World} {X:Type} (f:Act->X->Act) (F:X->World->Prop)
 (h1:c.wp P (fun e a' w'=>e=.normal/\∃ x,a'=f a x/\F x w') a w) (h2:∀ x w',F x w'->Q .normal (f a x) w'):c.wp P Q a w :=
 Code.wp_mono (fun e a' w' ⟨he,x,hx,hF⟩=>by subst he;subst hx;exact h2 x w' hF) h1
theorem zy {w:World} {b o:Nat} {c:Array Value} {e:TypeId} {u:Value} (h:w.heap[b]? = some (.cells c e (0,0))):(w.setCell ⟨b,o,none⟩ u).heap[b]? = some (.cells (c.setIfInBounds o u) e (0,0)):=by
 have rH:=zZ h;have h':w.heap[b]=.cells c e (0,0):=by simpa [O0 rH] using h
 show (w.heap.modify b _)[b]? = _;rw [O0 (by simpa using rH),Array.getElem_modify_self,h'];simp
structure kJ (F0:Nat->Prop) (W:World) (g:Nat) (o:Obj) (d:List DV) (v:List Value) (Z:World):Prop where
 below:Below W.heap.size W Z
 new:W.heap.size<=g
 blk:Z.heap[g]? = some o
 rep:zW (fun i=>(F0 i\/W.heap.size<=i)/\i≠g) Z d v
theorem kJ.first {F0:Nat->Prop} {W V0 V1 Z:World} {o:Obj} {d:List DV} {v:List Value} (hF0:∀ i,F0 i->i<W.heap.size) (h0:Below W.heap.size W V0) (Ce:V0.heap.size=W.heap.size+1) (hb:Below V0.heap.size V0 V1) (hr:zW (fun i=>F0 i\/V0.heap.size<=i) V1 d v)
 (iH:But (fun i=>i=W.heap.size) V1 Z) (rV:Z.heap[W.heap.size]? = some o):kJ F0 W W.heap.size o d v Z:=by
 have hz:=hb.size;have rW:Below W.heap.size W V1:=h0.trans (hb.mono (by omega));refine ⟨rW.trans (iH.toBelow (by omega) fun i hi e=>by omega),n9 _,rV,?_⟩;refine (Rep.keep fun i x hi hx=>?_).2 _ _ hr;have hne:i≠W.heap.size:=by rcases hi with h | h;have:=hF0 i h;omega;omega
 exact ⟨⟨hi.elim .inl (fun h=>.inr (by omega)),hne⟩,by rw [iH.block i (zZ hx) hne];exact hx⟩
theorem kJ.last {F0:Nat->Prop} {W V1 Z:World} {z o:Obj} {d:List DV} {v:List Value} (hb:Below W.heap.size W V1) (hr:zW (fun i=>F0 i\/W.heap.size<=i) V1 d v)
 (iH:But (fun i=>i=V1.heap.size) (V1.alloc z) Z) (rV:Z.heap[V1.heap.size]? = some o):kJ F0 W V1.heap.size o d v Z:=by
 have hz:=hb.size;refine ⟨(hb.alloc hz z).trans (iH.toBelow (by rw [zK];omega) fun i hi e=>by omega),hz,rV,?_⟩;refine (Rep.keep fun i x hi hx=>?_).2 _ _ hr;have hl:=zZ hx;have hne:i≠V1.heap.size:=by omega
 exact ⟨⟨hi,hne⟩,by rw [iH.block i (by rw [zK];omega) hne,Below.heap_alloc _ _ _ hl];exact hx⟩
theorem kJ.fresh {F0:Nat->Prop} {W V1:World} {cs:Array Value} {T:TypeId} {d:List DV} {v:List Value} (hb:Below W.heap.size W V1) (hr:zW (fun i=>F0 i\/W.heap.size<=i) V1 d v):kJ F0 W V1.heap.size (.cells cs T (0,0)) d v (V1.alloc (.cells cs T)):=by
 refine ⟨hb.alloc hb.size _,hb.size,zG _ _,?_⟩;refine (Rep.keep fun i x hi hx=>?_).2 _ _ hr;have hl:=zZ hx;exact ⟨⟨hi,by omega⟩,zY hx⟩
theorem kJ.cell0 {F0:Nat->Prop} {W:World} {g:Nat} {u:Value} {T:TypeId} {d:List DV} {v:List Value} {Z:World} (h:kJ F0 W g (.cells #[u] T (0,0)) d v Z):Z.cell? ⟨g,0,none⟩=some u:=by
 simp only [Li,h.blk];rfl
theorem but1 (w:World) (g:Nat) (u:Value):But (fun i=>i=g) w (w.setCell ⟨g,0,none⟩ u):=(But.refl (fun i=>i=g) w).setCell (p:=⟨g,0,none⟩) (.inl rfl) u
theorem qG {w:World} {g:Nat} {u:Value} {T:TypeId} (h:w.heap[g]? = some (.cells #[u] T (0,0))) (v:Value) :
 ∃ W,W=w.setCell ⟨g,0,none⟩ v/\W.cell? ⟨g,0,none⟩=some v/\(∀ B w0,Below B w0 w->B<=g->Below B w0 W)/\(∀ i x,i≠g->w.heap[i]? = some x->W.heap[i]? = some x):=by
 have hc:(w.setCell ⟨g,0,none⟩ v).heap[g]? = some (.cells #[v] T (0,0)):=by rw [zy h];rfl
 refine ⟨_,rfl,by simp only [Li,hc];rfl,fun B w0 hb hB=>hb.setCell (p:=⟨g,0,none⟩) hB _,fun i x hi hx=>?_⟩;rw [rK _ _ _ _ (by simpa using hi)];exact hx
theorem but4 (w:World) (g:Nat) (u0 u1 u2 u3:Value):But (fun i=>i=g) w ((((w.setCell ⟨g,0,none⟩ u0).setCell ⟨g,1,none⟩ u1).setCell ⟨g,2,none⟩ u2).setCell ⟨g,3,none⟩ u3) :=
 ((((But.refl (fun i=>i=g) w).setCell (p:=⟨g,0,none⟩) (.inl rfl) _).setCell (p:=⟨g,1,none⟩) (.inl rfl) _).setCell (p:=⟨g,2,none⟩) (.inl rfl) _).setCell (p:=⟨g,3,none⟩) (.inl rfl) _
theorem decNat17 (n:Nat):dec n=Lib.decDigits n:=by
 induction n using Nat.strongRecOn with
 | _ n ih =>
   by_cases h:n<10
   ·rw [vQ h,Lib.decDigits,dif_pos h];rfl
   ·rw [vc h,Lib.decDigits,dif_neg h,ih (n / 10) (Nat.div_lt_self (by omega) (by omega))];rfl
theorem itoaNat17 (i:Nat):Lib.itoa (i:Int)=dec i:=by
 rw [decNat17,Lib.itoa,if_neg (by omega)];rfl
theorem cP (v:Nat) (hv:v<100000) (w:World) (hg:yF w) :
 Calls No 54 #[.int .i64 (v:Nat)] w fun en w'=>en=.returned (str (jD v))/\Below w.heap.size w w':=by
 have C1:Calls No 28 #[.int .i64 (v:Nat)] w fun en w'=>en=.returned (str (dec v))/\Below w.heap.size w w':=by
  have:=nJ (v:Nat) w hg (by omega) (by omega);rwa [itoaNat17] at this
 have C1:=n7 C1;have hl:=uY 4 v (rQ hv (by decide));obtain ⟨O,hO⟩:∃ O:Bs,O=[120]++dec v:=⟨_,rfl⟩;have s1:=fun w0=>kI (P:=No) [120] (dec v) (by simp;omega) w0;rw [<- hO] at s1;have HO:=n7 (show jD v=O by rw [hO];rfl);clear hO hl;generalize dec v=D at *;go_enter Tryz.func54,Tryz.ntmps54;go_wp2_with fail
 (with_reducible refine C1.out.mono ?_)
 rintro en w1 ⟨rfl,rW⟩;go_wp2_with fail
 go_ret;exact ⟨by rw [HO.out];rfl,rW⟩
theorem fitBs_atW {hand ts:List Ty} {ss:List Bd} (h:qU (kD hand ts) ss) {j:Nat} {a:Ty} {s:Bd} (ha:ts[j]? = some a) (hs:ss[j]? = some s):qj (hand++a.args) s:=by
 obtain ⟨g,h1,h2⟩:=w_ _ _ h j s hs;unfold kD at h1;rw [Pt,ha] at h1;simp at h1;subst h1;exact h2
structure TmPre (F:Nat->Prop) (b:Bd) (H:List Ty) (bv lv:Value) (w:World):Prop where
 glob:yF w
 rb:Rep F w (k_ b) bv
 rl:Rep F w (.sl 32 1 H.length (qH H)) lv
 fit:qj H b
 wf:wfB b
 small:∀ t∈H,zJ t<=15
 room:H.length+15*zU b<=10000
def BodyTm (N:Nat):Prop:=∀ (F:Nat->Prop) (b:Bd) (H:List Ty) (bv lv:Value) (w:World),zU b<=N->TmPre F b H bv lv w ->
 Calls No 55 #[bv,lv] w fun en w'=>en=.returned (str (zO (tmB H b)))/\Below w.heap.size w w'
def KindTm (N:Nat):Prop:=∀ (F:Nat->Prop) (t:Ty) (b:Bd) (H:List Ty) (kv bv lv:Value) (w:World),zU b<=N->yF w->Rep F w (jA t) kv->Rep F w (k_ b) bv->Rep F w (.sl 32 1 H.length (qH H)) lv ->
 qj (H++t.args) b->wfB b->(∀ t∈H,zJ t<=15)->zJ t<=15->H.length+15*(1+zU b)<=10000 ->
 Calls No 21 #[kv,bv,lv] w fun en w'=>en=.returned (str (zO (tmL H t b)))/\Below w.heap.size w w'
theorem oneK {F:Nat->Prop} {w:World}:∀ (ts:List Ty) (us:List Value),zW F w (qH ts) us->∀ u∈us,u.oneCell'=true
 | [],us,h,u,hu=>by rw [qH,zC] at h;subst h;simp at hu
 | t::ts,us,h,u,hu=>by
   rw [qH,zQ] at h;obtain ⟨v,vs,rfl,h1,h2⟩:=h;obtain ⟨b,_,rfl,_⟩:=zc h1;rcases OX.1 hu with rfl | hu
   ·simp [Value.oneCell']
   ·exact oneK ts vs h2 u hu
theorem fitBs_take {H ts:List Ty} {ss:List Bd} (h:qU (kD H ts) ss) (k:Nat):qU (kD H (ts.take k)) (ss.take k):=by
 have hl:=kh _ _ h;rw [kL] at hl;have e:kD H ts=kD H (ts.take k)++kD H (ts.drop k):=by unfold kD;rw [<- QF,Pj]
 rw [e] at h;have h2:=(wW _ _ _ h).1;rw [kL,Pw] at h2;have e2:ss.take (min k ts.length)=ss.take k:=by rw [hl,List.take_eq_take_iff];omega
 rw [e2] at h2;exact h2
theorem fj (N:Nat) (ih:BodyTm N):KindTm N:=by
 intro F t b H kv bv lv w hsz hg hk hb hl hf hw hH ic sK;have IH:=n7 ih;clear ih;obtain ⟨kb,ks,rfl,hFk,DG,BG⟩:=zc hk;have c1:w.cell? ⟨kb,0,none⟩=some ks:=by simp [Li,DG]
 have aQ:=zZ DG;obtain ⟨ka,kc,rfl,Ag,Mv,rX⟩:=zP BG;obtain ⟨la,lc,rfl,hln,Ms,_⟩:=zP hl;have AA:=n8 (qw ic) (jH ic);have hn:H.length<=9990:=by have:=ze b;omega
 obtain ⟨bb,ebv⟩:=zd hb;subst ebv;have HP:=n7 (n8 hg (n8 hk (n8 hb (n8 hl (n8 hf (n8 hw (n8 hH (n8 BG rX))))))));have HA:=n7 AA;have hlen15:t.args.length<=15:=Nat.le_succ_of_le HA.out.2;clear hg hk hb hl hf hw hH BG rX DG AA Mv Ms;go_enter Tryz.func21,Tryz.ntmps21;go_wp2_with fail
 go_loopw [7,8,17] (fun hd tl i wr=>∃ k:Nat,k<=t.args.length/\i=.int .i64 k/\hd=str (j9 H.length (t.args.take k))/\tl=str (uh k)/\Below w.heap.size w wr) (fun _ _ i _=>t.args.length-(intOf i).toNat)
 case atStart=>exact ⟨0,OS _,rfl,rfl,rfl,rZ _ _⟩
 case round =>
  rename_i wr;obtain ⟨k,hk,rfl,rfl,rfl,aP⟩:=hrel;have HB:=n7 aP;clear aP;by_cases rH:k<t.args.length
  ·have sS:(k:Int)<(t.args.length:Int):=by omega
   obtain ⟨b',o',u,d,e,_,sJ,hd,hc,tq⟩:=HP.out.2.2.2.2.2.2.2.2 k rH;subst e;rw [uv,OA] at hd;obtain ⟨a,ha,rfl⟩:=hd;obtain ⟨ub,_,rfl,_⟩:=zc tq;have q0:=(HB.out.cell (p:=⟨b',o'+k,none⟩) sJ).trans hc;have AC:=HA.out.1 a (OI ha);have C1:=cP (H.length+k) (by omega) wr (HP.out.1.below HB.out);rw [Int.natCast_add] at C1;have C2:∀ w2,Below w.heap.size w w2->Calls No 19 #[.pointer (some ⟨ub,0,none⟩)] w2 fun en w'=>en=.returned (str (zL a))/\Below w2.heap.size w2 w':=fun w2 h=>bJ 15 a AC (by omega) _ w2 _ (Rep.below (F':=F) h (fun _ h=>h) tq);have lenH:=yd (t.args.take k) H.length (fun x hx=>HA.out.1 x (Sx hx)) (by rw [Pw];omega);have lenX:=jE 15 a AC;have lenN:=we (v:=H.length+k) (by omega);have lenC:=uW k;have rA:j9 H.length (t.args.take (k+1))=j9 H.length (t.args.take k)++([40,108,97,109,32]++jD (H.length+k)++[32]++zL a++[32]):=by
    have e:t.args.take (k+1)=t.args.take k++[a]:=by rw [Pc,ha];rfl
    rw [e,fv,Pw,Nat.min_eq_left (by omega)]
   have CU:=di k;rw [Pw] at lenH;obtain ⟨NM,hNM⟩:=zzM (jD (H.length+k));obtain ⟨X,hX⟩:=zzM (zL a);obtain ⟨R,hR⟩:=zzM (j9 H.length (t.args.take k));obtain ⟨C,hC⟩:=zzM (uh k);rw [<- hNM] at C1 lenN rA;rw [<- hX] at C2 lenX rA;rw [<- hR] at lenH rA ⊢;rw [<- hC] at lenC CU ⊢;obtain ⟨O1,h1⟩:=zzM ([40,108,97,109,32]++NM);obtain ⟨O2,h2⟩:=zzM (O1++[32]);obtain ⟨O3,h3⟩:=zzM (O2++X);obtain ⟨O4,h4⟩:=zzM (O3++[32]);obtain ⟨O5,h5⟩:=zzM (R++O4);obtain ⟨D1,g1⟩:=zzM (C++[41]);have m1:O1.length=NM.length+5:=by rw [h1];simp
   have m2:O2.length=O1.length+1:=by rw [h2];simp
   have m3:O3.length=O2.length+X.length:=by rw [h3];simp
   have m4:O4.length=O3.length+1:=by rw [h4];simp
   have a1:=fun w0=>kI (P:=No) [40,108,97,109,32] NM (by simp;omega) w0;have a2:=fun w0=>kI (P:=No) O1 [32] (by simp;omega) w0;have a3:=fun w0=>kI (P:=No) O2 X (by omega) w0;have a4:=fun w0=>kI (P:=No) O3 [32] (by simp;omega) w0;have a5:=fun w0=>kI (P:=No) R O4 (by omega) w0;have a6:=fun w0=>kI (P:=No) C [41] (by simp;omega) w0;rw [<- h1] at a1;rw [<- h2] at a2;rw [<- h3] at a3;rw [<- h4] at a4;rw [<- h5] at a5;rw [<- g1] at a6;have HS:=n7 (n8 (show j9 H.length (t.args.take (k+1))=O5 by rw [rA,h5,h4,h3,h2,h1]) (show uh (k+1)=D1 by rw [CU,g1]));have B_:=n7 C1;have Kc:=n7 C2;have aA:IntKind.i64.wrap ((H.length:Int)+(k:Int))=(H.length:Int)+(k:Int):=IntWalk.i64_in _ (by omega);clear rA CU h1 h2 h3 h4 h5 g1 m1 m2 m3 m4 lenX lenN lenC lenH hNM hX hR hC C1 C2 tq ha hc;go_wp2_with fail
   (with_reducible refine B_.out.mono ?_);rintro en w4 ⟨rfl,rq⟩
   have lS:=n7 (zzT HB.out rq);clear rq;clear aA;go_wp2_with fail
   (with_reducible refine (Kc.out w4 lS.out).mono ?_);rintro en w5 ⟨rfl,rx⟩
   have i8:=n7 (zzT lS.out rx);clear rx;go_wp2_with fail
   go_roundw
   case rel=>exact ⟨k+1,by omega,by go_num,by rw [HS.out.1],by rw [HS.out.2],i8.out⟩
   case measure=>simp [intOf];omega
  ·obtain rfl:k=t.args.length:=by omega
   rw [OT];have HLR:Rep (fun _=>True) wr (.sl 32 1 H.length (qH H)) (.slice la H.length lc):=Rep.below HB.out (fun _ _=>trivial) HP.out.2.2.2.1;have HKR:Rep (fun _=>True) wr (.sl 32 1 t.args.length (qH t.args)) (.slice ka t.args.length kc):=Rep.below HB.out (fun _ _=>trivial) HP.out.2.2.2.2.2.2.2.1;have hbR:Rep (fun _=>True) wr (k_ b) (.pointer (some ⟨bb,0,none⟩)):=Rep.below HB.out (fun _ _=>trivial) HP.out.2.2.1;have q1:wr.cell? ⟨kb,0,none⟩=some (.slice ka t.args.length kc):=(HB.out.cell (p:=⟨kb,0,none⟩) aQ).trans c1;obtain ⟨xs,Ao,sB⟩:=uB.ofRep HLR (oneK H);obtain ⟨news,sg,sE⟩:=zu.ofRep HKR (oneK t.args);have lenH:=yd t.args H.length HA.out.1 (by omega);have EQ:=ze b;have lenB:=wZ b (H++t.args) HP.out.2.2.2.2.1 (fun x hx=>by
    rcases O_.1 hx with hx | hx
    ·exact HP.out.2.2.2.2.2.2.1 x hx
    ·exact HA.out.1 x hx) (by rw [Ov];omega)
   have lenC:=uW t.args.length;have oB:zO (tmL H t b)=j9 H.length t.args++zO (tmB (H++t.args) b)++uh t.args.length:=by unfold tmL;exact wo _ _ _
   have CB:∀ (wz:World) (v:Value),Below w.heap.size w wz->Rep (fun _=>True) wz (.sl 32 1 (H++t.args).length (qH (H++t.args))) v->Calls No 55 #[.pointer (some ⟨bb,0,none⟩),v] wz fun en w'=>en=.returned (str (zO (tmB (H++t.args) b)))/\Below wz.heap.size wz w':=fun wz v h hr =>
    IH.out _ b (H++t.args) _ v wz hsz ⟨HP.out.1.below h,Rep.below (F':=fun _=>True) h (fun _ _=>trivial) HP.out.2.2.1,hr,HP.out.2.2.2.2.1,HP.out.2.2.2.2.2.1,(fun x hx=>by
     rcases O_.1 hx with hx | hx
     ·exact HP.out.2.2.2.2.2.2.1 x hx
     ·exact HA.out.1 x hx),by rw [Ov];omega⟩
   obtain ⟨R,hR⟩:=zzM (j9 H.length t.args);obtain ⟨B,hB⟩:=zzM (zO (tmB (H++t.args) b));obtain ⟨C,hC⟩:=zzM (uh t.args.length);rw [<- hR,<- hB,<- hC] at oB;rw [<- hR] at lenH ⊢;rw [<- hB] at lenB CB;rw [<- hC] at lenC ⊢;obtain ⟨O1,h1⟩:=zzM (R++B);obtain ⟨O2,h2⟩:=zzM (O1++C);have m1:O1.length=R.length+B.length:=by rw [h1];simp
   have a1:=fun w0=>kI (P:=No) R B (by omega) w0;have a2:=fun w0=>kI (P:=No) O1 C (by omega) w0;rw [<- h1] at a1;rw [<- h2] at a2;have HT:=n7 (show zO (tmL H t b)=O2 by rw [oB,h2,h1]);have HCB:=n7 CB;have HX:=n7 (n8 Ao (n8 sB (n8 sg sE)));have SX:Hid (∀ w',Below wr.heap.size wr w'->w'.cell? ⟨kb,0,none⟩=some (.slice ka t.args.length kc)):=by
    show ∀ w',_->_;intro w' rS;exact (rS.cell (p:=⟨kb,0,none⟩) (n_ wr _ q1)).trans q1
   clear CB oB h1 h2 m1 lenH lenB lenC hR hB hC Ao sB sg sE EQ HKR hbR;by_cases h0:t.args.length=0
   focus
    have aj:t.args=[]:=OQ h0;have Hn:zu 1 (.slice ka 0 kc) 0 [] wr.drew:=by
     have h:=HX.out.2.2.2;have lp:news=[]:=OQ (by have:=h.1;rw [h0] at this;simpa using this);rw [lp,h0] at h;exact h.drew
    have hmxH:H.length<=maxLen:=by unfold maxLen;omega
    have hrH:Rep (fun _=>True) wr.drew (.sl 32 1 (H++t.args).length (qH (H++t.args))) (.slice la H.length H.length):=by
     rw [aj,List.append_nil];exact (Rep.cutSl HLR).drew
    have HH:=n7 (n8 Hn (n8 hrH HB.out.drew));rw [h0] at q1 SX ⊢;clear aj hrH h0 HLR;go_upto_region 8 with (fail)
    refine wp_region_noPanic ?_;refine zB (fun w'=>Below wr.heap.size wr w') (fun _=>false) (by kernel_rfl) ?_;have rU:(fun w'=>Below wr.heap.size wr w') wr.drew:=Below.drew (rZ _ _);refine tk [0,1,2,3,4,5,6,7,8,9] rU ?_;(intro d hd;simp [tkD] at hd;subst hd;simp only [tks,pQ,pZ,pS]);iterate 10 (refine ⟨?_,?_,?_⟩;rotate_left;· (intro oi ho;simp at ho;subst ho;refine Or.inl ⟨by rfl,fun w' rB=>?_⟩;have e0:=SX.out w' rB;go_simp;try with_reducible rfl))
    (refine on 10 ?_;intro o ho K' hK;simp at ho;subst ho);refine eW (by rfl) _ _ _ (by rfl) 32 (.pointer none) 1 8 Ql Tryz.infoK la H.length H.length (n9 _) hmxH (by rfl) _ (by rfl) Hn ?_
    (refine hK.out _ _ (fun _=>rU) ?_;clear hK K';try simp only [pQ,pN,pZ,pS]);(refine on 11 ?_;intro o ho K' hK;simp at ho;subst ho;go_simp);(refine hK.out _ _ (fun _=>rU) ?_;clear hK K';try simp only [pQ,pN,pZ,pS]);refine zX (by kernel_rfl) (NoPanic.normal ?_) _
    go_wp2_with fail
    (with_reducible refine (HCB.out wr.drew (.slice la H.length H.length) HH.out.2.2 HH.out.2.1).mono ?_);rintro en w8 ⟨rfl,sP⟩
    have Iu:=n7 (HH.out.2.2.trans (sP.mono (HH.out.2.2).size));clear sP
   rotate_left
   focus
    have sf:0<t.args.length:=by omega
    have i2:H.length+t.args.length<=maxLen:=by unfold maxLen;omega
    have tC:(H.length+t.args.length)*8<=140737488355328:=by omega
    clear h0 HLR;go_upto_region 8 with (fail)
    refine wp_region_noPanic ?_;refine zB (fun w'=>Below wr.heap.size wr w') (fun _=>false) (by kernel_rfl) ?_;have rU:(fun w'=>Below wr.heap.size wr w') wr.drew:=Below.drew (rZ _ _);refine tk [0,1,2,3,4,5,6,7,8,9] rU ?_;(intro d hd;simp [tkD] at hd;subst hd;simp only [tks,pQ,pZ,pS]);iterate 10 (refine ⟨?_,?_,?_⟩;rotate_left;· (intro oi ho;simp at ho;subst ho;refine Or.inl ⟨by rfl,fun w' rB=>?_⟩;have e0:=SX.out w' rB;go_simp;try with_reducible rfl))
    (refine on 10 ?_;intro o ho K' hK;simp at ho;subst ho);refine yO (by rfl) _ _ _ (by rfl) 32 (.pointer none) 1 8 Ql Tryz.infoK rfl (.slice la H.length H.length) H.length xs (by rfl) HX.out.2.1.drew _ t.args.length news (by rfl) HX.out.2.2.2.drew sf i2 tC ?_
    intro c7 w7 r_ rP;(refine hK.out _ _ (fun _=>rU.trans rP) ?_;clear hK K';try simp only [pQ,pN,pZ,pS]);(refine on 11 ?_;intro o ho K' hK;simp at ho;subst ho;go_simp);(refine hK.out _ _ (fun _=>rU.trans rP) ?_;clear hK K';try simp only [pQ,pN,pZ,pS]);refine zX (by kernel_rfl) (NoPanic.normal ?_) _;have tI:Below w.heap.size w w7:=HB.out.trans ((rU.trans rP).mono HB.out.size);have iq:Rep (fun _=>True) w7 (.sl 32 1 (H++t.args).length (qH (H++t.args))) (.slice (some ⟨wr.heap.size,0,none⟩) (H.length+t.args.length) c7):=by
     rw [Ov,pT];exact r_.rep (fun _ _=>trivial) (((Rep.keep fun i x _ hx=>⟨trivial,by rw [(rU.trans rP).block i (zZ hx)];exact hx⟩).2 _ _ HX.out.1).append ((Rep.keep fun i x _ hx=>⟨trivial,by rw [(rU.trans rP).block i (zZ hx)];exact hx⟩).2 _ _ HX.out.2.2.1))
    have HH:=n7 (n8 tI iq);clear r_ rP tI iq;go_wp2_with fail
    (with_reducible refine (HCB.out w7 _ HH.out.1 HH.out.2).mono ?_);rintro en w8 ⟨rfl,sP⟩
    have Iu:=n7 (HH.out.1.trans (sP.mono (HH.out.1).size));clear sP
   all_goals
    go_wp2_with fail
    go_ret;exact ⟨by rw [HT.out];rfl,Iu.out⟩
theorem bodyTm_step (N:Nat) (hB:BodyTm N) (hK:KindTm N):BodyTm (N+1):=by
 intro F b H bv lv w hsz hp;have IB:=n7 hB;have IK:=n7 hK;clear hB hK;cases b with
 | leaf c =>
   obtain ⟨a0,sl,rfl,_,rV,_⟩:=xp hp.rb;have r0:w.cell? ⟨a0,0,none⟩=some (str [c]):=by simp [Li,rV]
   have CL:=n7 (yK F w c _ hp.rb);obtain ⟨la,lc,rfl,_,_,_⟩:=zP hp.rl;clear rV hp;go_enter T_,Tz;go_wp2_with fail
   (with_reducible refine CL.out.mono ?_);rintro en w3 ⟨rfl,rfl⟩
   go_wp2_with fail
   go_ret;exact ⟨by rw [tmB,wd_text];rfl,rZ _ _⟩
 | ask v ss y no =>
   obtain ⟨a0,sl,yv,nv,rfl,_,rV,Ar,hy,a_⟩:=uu hp.rb;obtain ⟨la,lc,rfl,_,_,Ns⟩:=zP hp.rl;obtain ⟨sa,sc,rfl,_,_,Fw⟩:=zP Ar;obtain ⟨yb,rfl⟩:=zd hy;obtain ⟨nb,rfl⟩:=zd a_;have r1:w.cell? ⟨a0,1,none⟩=some (.int .i64 (v:Nat)):=by simp [Li,rV]
   have r2:w.cell? ⟨a0,2,none⟩=some (.slice sa ss.length sc):=by simp [Li,rV]
   have r3:w.cell? ⟨a0,3,none⟩=some (.pointer (some ⟨yb,0,none⟩)):=by simp [Li,rV]
   have r4:w.cell? ⟨a0,4,none⟩=some (.pointer (some ⟨nb,0,none⟩)):=by simp [Li,rV]
   have B8:=zZ rV;have CL:=n7 (yh F w v ss y no _ hp.rb);have tR:=hp.fit;have Ac:=hp.wf;have sK:=hp.room;rw [qj] at tR;rw [wfB] at Ac;rw [zU] at sK hsz;obtain ⟨t,ht,f1,f2,f3⟩:=tR;have B3:=(List.getElem?_eq_some_iff.1 ht).1;have rR:=hp.small t (OI ht);have hlen:=kh _ _ f1;rw [kL] at hlen;obtain ⟨hb,ho,hu,hd,e,_,sJ,Fj,hc,sT⟩:=Ns v B3;subst e;rw [uv,ht] at Fj;simp only [Py,Option.some.injEq] at Fj;subst Fj;obtain ⟨kb,ks,rfl,_,DG,BG⟩:=zc sT;have aQ:=zZ DG;have k1:w.cell? ⟨kb,0,none⟩=some ks:=by simp [Li,DG]
   obtain ⟨ka,kc,rfl,_,_,tP⟩:=zP BG;have CN:=n7 (cP v (by omega) w hp.glob);have hvlt:(v:Int)<(H.length:Int):=by omega
   have Ar:=ze y;have hsn:=ze no;have HP:=n7 hp;have Oa:=n7 (n8 hy a_);have HS:=n7 Fw;have HK:=n7 tP;have HQ:=n7 (n8 ht (n8 f1 (n8 f2 (n8 f3 (n8 Ac (n8 rR (n8 hlen (n8 hc (n8 aQ k1)))))))));have AA:=jH rR;have Hu:=hlen;clear hp Ns Fw tP Ac ht f1 f2 f3 rR DG BG sT hy a_ rV hc;go_enter T_,Tz;go_wp2_with fail
   (with_reducible refine CL.out.mono ?_);rintro en w1 ⟨rfl,e⟩
   subst w1;go_wp2_with fail
   (with_reducible refine CN.out.mono ?_);rintro en w2 ⟨rfl,rY⟩
   have z2:=rY.size;have r2':=(rY.cell (p:=⟨a0,2,none⟩) B8).trans r2;have rh:=n7 rY;clear rY CL CN;go_wp2_with fail
   go_loopw [5,25] (fun ax i wr=>∃ k:Nat,k<=ss.length/\i=.int .i64 k/\ax=str (zO (qi H (.nm (jD v)) (t.args.take k) (ss.take k)))/\Below w.heap.size w wr) (fun _ i _=>ss.length-(intOf i).toNat)
   case atStart=>exact ⟨0,OS _,rfl,by rw [QS,QS,xr,fl],rh.out⟩
   case round =>
    rename_i wr;obtain ⟨k,hk,rfl,rfl,aP⟩:=hrel;have HB:=n7 aP;clear aP r2';by_cases rH:k<ss.length
    ·have sS:(k:Int)<(ss.length:Int):=by omega
     have hltk:(k:Int)<(t.args.length:Int):=by omega
     have Mo:k<t.args.length:=by omega
     obtain ⟨sb,so,su,sd,e,_,I8,oK,BA,Ci⟩:=HS.out k rH;subst e;rw [xE,OA] at oK;obtain ⟨s,hs,rfl⟩:=oK;obtain ⟨sp,rfl⟩:=zd Ci;obtain ⟨ab,ao,au,ad,e,_,Ie,KH,hac,JO⟩:=HK.out k Mo;subst e;rw [uv,OA] at KH;obtain ⟨a,ha,rfl⟩:=KH;obtain ⟨ap,_,rfl,_⟩:=zc JO;have q1:=(HB.out.cell (p:=⟨a0,1,none⟩) B8).trans r1;have q2:=(HB.out.cell (p:=⟨sb,so+k,none⟩) I8).trans BA;have q3:=(HB.out.cell (p:=⟨hb,ho+v,none⟩) sJ).trans HQ.out.2.2.2.2.2.2.2.1;have q4:=(HB.out.cell (p:=⟨kb,0,none⟩) HQ.out.2.2.2.2.2.2.2.2.1).trans HQ.out.2.2.2.2.2.2.2.2.2;have q5:=(HB.out.cell (p:=⟨ab,ao+k,none⟩) Ie).trans hac;have hf:=fitBs_atW HQ.out.2.1 ha hs;have Gm:=vz (OI hs);have AC:=qw HQ.out.2.2.2.2.2.1 a (OI ha);have C1:=IK.out F a s H (.pointer (some ⟨ap,0,none⟩)) (.pointer (some ⟨sp,0,none⟩)) (.slice (some ⟨hb,ho,none⟩) H.length lc) wr (by omega) (HP.out.glob.below HB.out) (Rep.below HB.out (fun _ h=>h) JO) (Rep.below HB.out (fun _ h=>h) Ci) (Rep.below HB.out (fun _ h=>h) HP.out.rl) hf (fi _ HQ.out.2.2.2.2.1.1 k s hs) HP.out.small AC (by omega);have lenA:=pP (ss.take k) H (t.args.take k) (.nm (jD v)) (fitBs_take HQ.out.2.1 k) HP.out.small (fun x hx=>qw HQ.out.2.2.2.2.2.1 x (Sx hx)) (by have:=jR ss k;omega);have hst:=jR ss k;have lenN:=we (v:=v) (by omega);rw [fl] at lenA;have lenT:(zO (tmL H a s)).length<=1900*zU s+900:=by
      have h1:=wZ s (H++a.args) hf (fun x hx=>by
       rcases O_.1 hx with hx | hx
       ·exact HP.out.small x hx
       ·exact qw AC x hx) (by have:=jH AC;rw [Ov];omega)
      have h3:=yd a.args H.length (qw AC) (by have:=jH AC;omega);have h4:=jH AC;unfold tmL;rw [wo,Ov,Ov,uW];omega
     have rA:zO (qi H (.nm (jD v)) (t.args.take (k+1)) (ss.take (k+1)))=[40,97,112,112,32]++zO (qi H (.nm (jD v)) (t.args.take k) (ss.take k))++[32]++zO (tmL H a s)++[41]:=by
      have e1:t.args.take (k+1)=t.args.take k++[a]:=by rw [Pc,ha];rfl
      have e2:ss.take (k+1)=ss.take k++[s]:=by rw [Pc,hs];rfl
      rw [e1,e2,gQ _ _ _ _ _ _ (by rw [Pw,Pw];omega),apps_text]
     obtain ⟨A,hA⟩:=zzM (zO (qi H (.nm (jD v)) (t.args.take k) (ss.take k)));obtain ⟨T,hT⟩:=zzM (zO (tmL H a s));rw [<- hA] at lenA rA ⊢;rw [<- hT] at lenT rA C1;obtain ⟨O1,h1⟩:=zzM ([40,97,112,112,32]++A);obtain ⟨O2,h2⟩:=zzM (O1++[32]);obtain ⟨O3,h3⟩:=zzM (O2++T);obtain ⟨O4,h4⟩:=zzM (O3++[41]);have m1:O1.length=A.length+5:=by rw [h1];simp
     have m2:O2.length=O1.length+1:=by rw [h2];simp
     have m3:O3.length=O2.length+T.length:=by rw [h3];simp
     have a1:=fun w0=>kI (P:=No) [40,97,112,112,32] A (by simp;omega) w0;have a2:=fun w0=>kI (P:=No) O1 [32] (by simp;omega) w0;have a3:=fun w0=>kI (P:=No) O2 T (by omega) w0;have a4:=fun w0=>kI (P:=No) O3 [41] (by simp;omega) w0;rw [<- h1] at a1;rw [<- h2] at a2;rw [<- h3] at a3;rw [<- h4] at a4;have Di:=n7 (show zO (qi H (.nm (jD v)) (t.args.take (k+1)) (ss.take (k+1)))=O4 by rw [rA,h4,h3,h2,h1]);have B_:=n7 C1;clear C1 rA h1 h2 h3 h4 m1 m2 m3 lenA lenT lenN hA hT Ci JO hs ha BA hac hf Gm AC hst;go_wp2_with fail
     (with_reducible refine B_.out.mono ?_);rintro en w4 ⟨rfl,rq⟩
     have lS:=n7 (zzT HB.out rq);clear rq;go_wp2_with fail
     go_roundw
     case rel=>exact ⟨k+1,by omega,by go_num,by rw [Di.out],lS.out⟩
     case measure=>simp [intOf];omega
    ·obtain rfl:k=ss.length:=by omega
     have q3:=(HB.out.cell (p:=⟨a0,3,none⟩) B8).trans r3;have q4:=(HB.out.cell (p:=⟨a0,4,none⟩) B8).trans r4
     have CY:∀ wz,Below w.heap.size w wz->Calls No 55 #[.pointer (some ⟨yb,0,none⟩),.slice (some ⟨hb,ho,none⟩) H.length lc] wz fun en w'=>en=.returned (str (zO (tmB H y)))/\Below wz.heap.size wz w':=fun wz h =>
      IB.out F y H _ _ wz (by omega) ⟨HP.out.glob.below h,Rep.below h (fun _ h=>h) Oa.out.1,Rep.below h (fun _ h=>h) HP.out.rl,HQ.out.2.2.1,HQ.out.2.2.2.2.1.2.1,HP.out.small,by omega⟩
     have CN2:∀ wz,Below w.heap.size w wz->Calls No 55 #[.pointer (some ⟨nb,0,none⟩),.slice (some ⟨hb,ho,none⟩) H.length lc] wz fun en w'=>en=.returned (str (zO (tmB H no)))/\Below wz.heap.size wz w':=fun wz h =>
      IB.out F no H _ _ wz (by omega) ⟨HP.out.glob.below h,Rep.below h (fun _ h=>h) Oa.out.2,Rep.below h (fun _ h=>h) HP.out.rl,HQ.out.2.2.2.1,HQ.out.2.2.2.2.1.2.2,HP.out.small,by omega⟩
     have lenA:=pP ss H t.args (.nm (jD v)) HQ.out.2.1 HP.out.small (qw HQ.out.2.2.2.2.2.1) (by omega);have lenY:=wZ y H HQ.out.2.2.1 HP.out.small (by omega);have lenZ:=wZ no H HQ.out.2.2.2.1 HP.out.small (by omega);have lenN:=we (v:=v) (by omega);rw [fl] at lenA;have oB:zO (tmB H (.ask v ss y no))=[40,105,102,32]++zO (qi H (.nm (jD v)) t.args ss)++[32]++zO (tmB H y)++[32]++zO (tmB H no)++[41]:=by
      have e:(H[v]?.map Ty.args).getD []=t.args:=by rw [HQ.out.1];rfl
      rw [tmB,ite_text,e]
     have Aq:t.args.take ss.length=t.args:=List.take_of_length_le (by omega);rw [Aq,OT];obtain ⟨A,hA⟩:=zzM (zO (qi H (.nm (jD v)) t.args ss));obtain ⟨Y,hY⟩:=zzM (zO (tmB H y));obtain ⟨Z,hZ⟩:=zzM (zO (tmB H no));rw [<- hA,<- hY,<- hZ] at oB;rw [<- hA] at lenA ⊢;rw [<- hY] at lenY CY;rw [<- hZ] at lenZ CN2;obtain ⟨O1,h1⟩:=zzM ([40,105,102,32]++A);obtain ⟨O2,h2⟩:=zzM (O1++[32]);obtain ⟨O3,h3⟩:=zzM (O2++Y);obtain ⟨O4,h4⟩:=zzM (O3++[32]);obtain ⟨O5,h5⟩:=zzM (O4++Z);obtain ⟨O6,h6⟩:=zzM (O5++[41]);have m1:O1.length=A.length+4:=by rw [h1];simp
     have m2:O2.length=O1.length+1:=by rw [h2];simp
     have m3:O3.length=O2.length+Y.length:=by rw [h3];simp
     have m4:O4.length=O3.length+1:=by rw [h4];simp
     have m5:O5.length=O4.length+Z.length:=by rw [h5];simp
     have a1:=fun w0=>kI (P:=No) [40,105,102,32] A (by simp;omega) w0;have a2:=fun w0=>kI (P:=No) O1 [32] (by simp;omega) w0;have a3:=fun w0=>kI (P:=No) O2 Y (by omega) w0;have a4:=fun w0=>kI (P:=No) O3 [32] (by simp;omega) w0;have a5:=fun w0=>kI (P:=No) O4 Z (by omega) w0;have a6:=fun w0=>kI (P:=No) O5 [41] (by simp;omega) w0;rw [<- h1] at a1;rw [<- h2] at a2;rw [<- h3] at a3;rw [<- h4] at a4;rw [<- h5] at a5;rw [<- h6] at a6;have HT:=n7 (show zO (tmB H (.ask v ss y no))=O6 by rw [oB,h6,h5,h4,h3,h2,h1]);have HCY:=n7 (CY wr.drew HB.out.drew);have HCN:=n7 CN2;have SX:Hid (∀ w',Below wr.heap.size wr w'->w'.cell? ⟨a0,3,none⟩=some (.pointer (some ⟨yb,0,none⟩))/\w'.cell? ⟨a0,4,none⟩=some (.pointer (some ⟨nb,0,none⟩))):=by
      show ∀ w',_->_;intro w' rS;exact ⟨(rS.cell (n_ wr _ q3)).trans q3,(rS.cell (n_ wr _ q4)).trans q4⟩
     clear CY CN2 oB Aq h1 h2 h3 h4 h5 h6 m1 m2 m3 m4 m5 lenA lenY lenZ lenN hA hY hZ r1 r2 r3 r4;go_upto_region 9 with (fail)
     refine wp_region_noPanic ?_;refine zB (fun w'=>Below wr.heap.size wr w') (fun _=>false) (by kernel_rfl) ?_;have rU:(fun w'=>Below wr.heap.size wr w') wr.drew:=Below.drew (rZ _ _);refine tk [0,1,2,3,4,5,6,7,11,12,13,14,15] rU ?_;(intro d hd;simp [tkD] at hd;subst hd;simp only [tks,pQ,pZ,pS]);iterate 13 (refine ⟨?_,?_,?_⟩;rotate_left;· (intro oi ho;simp at ho;subst ho;refine Or.inl ⟨by rfl,fun w' rB=>?_⟩;obtain ⟨e0,e1⟩:=SX.out w' rB;go_simp;try with_reducible rfl))
     (refine on 8 ?_;intro o ho K' hK;simp at ho;subst ho;go_simp);go_at_call 55
     (with_reducible refine HCY.out.mono ?_);rintro Dh w6 ⟨rfl,rC⟩
     have sX:Hid (Below wr.heap.size wr w6):=rU.trans rC;have CN6:=n7 (HCN.out w6 (zzT HB.out sX.out));clear rC;(refine hK.out _ _ (fun _=>sX.out) ?_;clear hK K';try simp only [pQ,pN,pZ,pS]);have hS8:=sX.out;refine tk [9,10] hS8 ?_;(intro d hd;simp [tkD] at hd;subst hd;simp only [tks,pQ,pZ,pS]);iterate 2 (refine ⟨?_,?_,?_⟩;rotate_left;· (intro oi ho;simp at ho;subst ho;refine Or.inl ⟨by rfl,fun w' rB=>?_⟩;go_simp;try with_reducible rfl))
     (refine on 16 ?_;intro o ho K' hK;simp at ho;subst ho;go_simp);go_at_call 55
     (with_reducible refine CN6.out.mono ?_);rintro en7 w7 ⟨rfl,rP⟩
     have Ak:Hid (Below wr.heap.size wr w7):=zzT sX.out rP;clear rP;(refine hK.out _ _ (fun _=>Ak.out) ?_;clear hK K';try simp only [pQ,pN,pZ,pS]);have JV:=Ak.out;refine tk [17,18] JV ?_;(intro d hd;simp [tkD] at hd;subst hd;simp only [tks,pQ,pZ,pS]);iterate 2 (refine ⟨?_,?_,?_⟩;rotate_left;· (intro oi ho;simp at ho;subst ho;refine Or.inl ⟨by rfl,fun w' rB=>?_⟩;go_simp;try with_reducible rfl))
     (refine on 19 ?_;intro o ho K' hK;simp at ho;subst ho;go_simp);(refine hK.out _ _ (fun _=>Ak.out) ?_;clear hK K';try simp only [pQ,pN,pZ,pS]);refine zX (by kernel_rfl) (NoPanic.normal ?_) _
     go_wp2_with fail
     go_ret;exact ⟨by rw [HT.out];rfl,zzT HB.out Ak.out⟩
theorem tm_any (N:Nat):BodyTm N:=by
 induction N with
 | zero=>exact fun F b H bv lv w h=>by have:=ze b;omega
 | succ N ih=>exact bodyTm_step N ih (fj N ih)
theorem kindTm_any (N:Nat):KindTm N:=fj N (tm_any N)
theorem name_no1 {s:Bs} (h:3<s.length):qL s=false:=by
 cases s with
 | nil=>simp at h
 | cons c r=>simp only [OD] at h;simp only [qL];rw [decide_eq_false (by omega)];rfl
theorem dE {s:Bs} (h:0<s.length) (hc:s[0].toNat<120\/122<s[0].toNat):qL s=false:=by
 cases s with
 | nil=>simp at h
 | cons c r =>
   simp only [Sm] at hc;rw [SO];intro hn;simp only [qL,OP,decide_eq_true_eq,PM] at hn;have h1:=hn.1.2.1;have h2:=hn.1.2.2;have e1:(120:UInt8).toNat=120:=rfl;have e2:(122:UInt8).toNat=122:=rfl;omega
theorem dD {s:Bs} {k:Nat} (h1:1<=k) (h:k<s.length) (hc:s[k].toNat<48\/57<s[k].toNat):qL s=false:=by
 cases s with
 | nil=>simp at h
 | cons c r =>
   obtain ⟨k,rfl⟩:∃ j,k=j+1:=⟨k-1,by omega⟩;simp only [Sn] at hc;rw [SO];intro hn;simp only [qL,OP,QY] at hn;have h2:=hn.2 _ (List.getElem_mem (by simpa using h));simp only [dig,OP,decide_eq_true_eq,PM] at h2;have e1:(48:UInt8).toNat=48:=rfl;have e2:(57:UInt8).toNat=57:=rfl;omega
theorem name_yes {s:Bs} (h:0<s.length) (h3:s.length<=3) (hc:120<=s[0].toNat/\s[0].toNat<=122) (hd:∀ k,1<=k->∀ (hk:k<s.length),48<=s[k].toNat/\s[k].toNat<=57):qL s=true:=by
 cases s with
 | nil=>simp at h
 | cons c r =>
   simp only [Sm] at hc;simp only [OD] at h3;have e1:(120:UInt8).toNat=120:=rfl;have e2:(122:UInt8).toNat=122:=rfl;have e3:(48:UInt8).toNat=48:=rfl;have e4:(57:UInt8).toNat=57:=rfl;simp only [qL,OP,decide_eq_true_eq,PM,QY];refine ⟨⟨by omega,by omega,by omega⟩,fun x hx=>?_⟩;obtain ⟨i,hi,rfl⟩:=List.getElem_of_mem hx;have:=hd (i+1) (by omega) (by simpa using hi);simp only [Sn] at this;simp only [dig,OP,decide_eq_true_eq,PM];omega
def qv (d:Nat):Nat->Bs->Option (List Tm×Bs)
 | 0,l=>some ([],l)
 | n+1,l=>(cut [32] l).bind fun l1=>(jY d l1).bind fun t=>(qv d n t.2).map fun y=>(t.1::y.1,y.2)
theorem xv (d:Nat) (l:Bs):qv d 0 l=some ([],l):=rfl
theorem pC (d n:Nat) (l:Bs):qv d (n+1) l=(cut [32] l).bind fun l1=>(jY d l1).bind fun t=>(qv d n t.2).map fun y=>(t.1::y.1,y.2):=rfl
def mt (w:Bs):Nat:=if w=jo then 1 else if w=vo then 2 else if w=ifW then 3 else 0
def cS (w x:Bs) (k:Ty):List Tm->Tm
 | [t]=>.lam x k t
 | [m,n]=>.app m n
 | [l,m,n]=>.ite l m n
 | _=>.wd w
theorem rdTm_lam {d:Nat} {l l3 l4 l6:Bs} {k:Ty} (hw:zN l=jo) (h1:cut [32] (zD l)=some l3) (hn:qL (zN l3)=true) (h2:cut [32] (zD l3)=some l4) (hk:rdK 60 l4=some (k,l6)) :
 jY (d+1) (40::l)=(qv d 1 l6).bind fun y=>(cut [41] y.2).map fun r=>(cS jo (zN l3) k y.1,r):=by
 rw [vK,if_pos hw,h1];simp only [Lx];rw [if_pos hn,h2];simp only [Lx];rw [hk];simp only [Lx,qv];cases cut [32] l6 with
 | none=>rfl
 | some l7 =>
   simp only [Lx];cases jY d l7 with
   | none=>rfl
   | some t=>rfl
theorem rdTm_app {d:Nat} {l:Bs} (x:Bs) (k:Ty) (hw:zN l=vo):jY (d+1) (40::l)=(qv d 2 (zD l)).bind fun y=>(cut [41] y.2).map fun r=>(cS vo x k y.1,r):=by
 rw [vK,if_neg (by rw [hw];decide),if_pos hw];simp only [qv];cases cut [32] (zD l) with
 | none=>rfl
 | some l3 =>
   simp only [Lx];cases jY d l3 with
   | none=>rfl
   | some t =>
     simp only [Lx];cases cut [32] t.2 with
     | none=>rfl
     | some l4 =>
       simp only [Lx];cases jY d l4 with
       | none=>rfl
       | some t=>rfl
theorem rdTm_ite {d:Nat} {l:Bs} (x:Bs) (k:Ty) (hw:zN l=ifW):jY (d+1) (40::l)=(qv d 3 (zD l)).bind fun y=>(cut [41] y.2).map fun r=>(cS ifW x k y.1,r):=by
 rw [vK,if_neg (by rw [hw];decide),if_neg (by rw [hw];decide),if_pos hw];simp only [qv];cases cut [32] (zD l) with
 | none=>rfl
 | some l3 =>
   simp only [Lx];cases jY d l3 with
   | none=>rfl
   | some t =>
     simp only [Lx];cases cut [32] t.2 with
     | none=>rfl
     | some l4 =>
       simp only [Lx];cases jY d l4 with
       | none=>rfl
       | some t2 =>
         simp only [Lx];cases cut [32] t2.2 with
         | none=>rfl
         | some l5 =>
           simp only [Lx];cases jY d l5 with
           | none=>rfl
           | some t=>rfl
theorem rdTm_lamNo1 {d:Nat} {l:Bs} (hw:zN l=jo) (h1:cut [32] (zD l)=none):jY (d+1) (40::l)=none:=by
 rw [vK,if_pos hw,h1];rfl
theorem rdTm_lamNo2 {d:Nat} {l l3:Bs} (hw:zN l=jo) (h1:cut [32] (zD l)=some l3) (hn:qL (zN l3)=false):jY (d+1) (40::l)=none:=by
 rw [vK,if_pos hw,h1];simp only [Lx];rw [if_neg (by rw [hn];decide)]
theorem rdTm_lamNo3 {d:Nat} {l l3:Bs} (hw:zN l=jo) (h1:cut [32] (zD l)=some l3) (h2:cut [32] (zD l3)=none):jY (d+1) (40::l)=none:=by
 rw [vK,if_pos hw,h1];simp only [Lx];rw [h2];split <;> rfl
theorem rdTm_lamNo4 {d:Nat} {l l3 l4:Bs} (hw:zN l=jo) (h1:cut [32] (zD l)=some l3) (h2:cut [32] (zD l3)=some l4) (hk:rdK 60 l4=none):jY (d+1) (40::l)=none:=by
 rw [vK,if_pos hw,h1];simp only [Lx];rw [h2];simp only [Lx];rw [hk];split <;> rfl
theorem rdTm_none {d:Nat} {l:Bs} (hw:mt (zN l)=0):jY d (40::l)=none:=by
 cases d with
 | zero=>exact rdTm_zero
 | succ d =>
   unfold mt at hw;rw [vK];split
   ·rename_i h;rw [if_pos h] at hw;simp at hw
   ·rename_i h;rw [if_neg h] at hw;split
    ·rename_i h2;rw [if_pos h2] at hw;simp at hw
    ·rename_i h2;rw [if_neg h2] at hw;split
     ·rename_i h3;rw [if_pos h3] at hw;simp at hw
     ·rfl
theorem rdParTm_step {d n:Nat} {l0 l l1 r:Bs} {m:Nat} {ts:List Tm} {t:Tm} (h:qv d m l0=(qv d (n+1) l).map fun y=>(ts++y.1,y.2)) (h1:cut [32] l=some l1) (h2:jY d l1=some (t,r)) :
 qv d m l0=(qv d n r).map fun y=>((ts++[t])++y.1,y.2):=by
 rw [h,pC,h1];simp only [Lx];rw [h2];simp only [Lx,Option.map_map]
 congr 1
 funext y;simp
theorem fT {d n:Nat} {l0 l:Bs} {m:Nat} {ts:List Tm} (h:qv d m l0=(qv d (n+1) l).map fun y=>(ts++y.1,y.2)) (h1:cut [32] l=none):qv d m l0=none:=by
 rw [h,pC,h1];rfl
theorem fS {d n:Nat} {l0 l l1:Bs} {m:Nat} {ts:List Tm} (h:qv d m l0=(qv d (n+1) l).map fun y=>(ts++y.1,y.2)) (h1:cut [32] l=some l1) (h2:jY d l1=none):qv d m l0=none:=by
 rw [h,pC,h1];simp only [Lx];rw [h2];rfl
theorem rdTm_le:∀ {d:Nat} {l:Bs} {t:Tm} {r:Bs},jY d l=some (t,r)->r.length<l.length:=by
 intro d l t r h;obtain ⟨e,ho,_⟩:=cN d l t r h;rw [e,Ov];have:0<(zO t).length:=by
  cases t with
  | nm x =>
    have:zO (.nm x)=x:=by unfold zO;rw [kK,zx]
    rw [this];have:=(xB ho).1;exact P4.2 this
  | wd x =>
    have:zO (.wd x)=x:=by unfold zO;rw [kK,zx]
    rw [this];have:=(wl ho).1;exact P4.2 this
  | lam x k t=>rw [yT];simp
  | app m n=>rw [yL];simp
  | ite l m n=>rw [yA];simp
 omega
theorem nU (s:Bs) (w:World) (hl:Lim s.length) :
 Calls No 75 #[str s] w fun en w'=>en=.returned (.bool (qL s))/\w'=w:=by
 have i5:=hl.le;by_cases h0:s.length=0
 ·obtain rfl:s=[]:=OQ h0;clear h0;go_enter Ri,Q0;go_wp2_with fail
  go_ret;exact ⟨rfl,rfl⟩
 have hne:(s == [])=false:=by rw [beq_eq_false_iff_ne];rintro rfl;exact h0 rfl
 have A2:s.isEmpty=false:=by rw [List.isEmpty_eq_false_iff];rintro rfl;exact h0 rfl
 have sf:0<s.length:=by omega
 clear h0;by_cases h3:3<s.length
 ·have HN:=n7 (name_no1 h3);go_enter Ri,Q0;go_wp2_with fail
  go_ret;exact ⟨by rw [HN.out];rfl,rfl⟩
 have B:=xM sf;by_cases hA:s[0].toNat<120
 ·have HN:=n7 (dE sf (.inl hA));have b1:((((⟨s.toArray⟩:ByteArray)[0]'(k8 sf)).toNat:Int))<120:=by rw [B];omega
  clear B hA;go_enter Ri,Q0;go_wp2_with fail
  go_ret;exact ⟨by rw [HN.out];rfl,rfl⟩
 by_cases hB:122<s[0].toNat
 ·have HN:=n7 (dE sf (.inr hB));have b1:(122:Int)<((((⟨s.toArray⟩:ByteArray)[0]'(k8 sf)).toNat:Int)):=by rw [B];omega
  have b2:¬ ((((⟨s.toArray⟩:ByteArray)[0]'(k8 sf)).toNat:Int))<120:=by omega
  clear B hA hB;go_enter Ri,Q0;go_wp2_with fail
  go_ret;exact ⟨by rw [HN.out];rfl,rfl⟩
 have b1:¬ (122:Int)<((((⟨s.toArray⟩:ByteArray)[0]'(k8 sf)).toNat:Int)):=by rw [B];omega
 have b2:¬ ((((⟨s.toArray⟩:ByteArray)[0]'(k8 sf)).toNat:Int))<120:=by rw [B];omega
 have HA:=n7 (n8 hA hB);clear B hA hB;go_enter Ri,Q0;go_wp2_with fail
 clear b1 b2
 go_loop [3] (fun i=>∃ k:Nat,1<=k/\k<=s.length/\i=.int .i64 k/\∀ j,1<=j->j<k->∀ (hj:j<s.length),48<=s[j].toNat/\s[j].toNat<=57) (fun i=>s.length-(intOf i).toNat)
 case atStart=>exact ⟨1,n9 _,sf,rfl,fun j h1 h2=>by omega⟩
 case round =>
  obtain ⟨k,Et,hk,rfl,t6⟩:=hrel;have HR:=n7 t6;clear t6;by_cases rH:k<s.length
  ·have B:=xM rH;by_cases hA:s[k].toNat<48
   ·have HN:=n7 (dD Et rH (.inl hA));have b1:((((⟨s.toArray⟩:ByteArray)[k]'(k8 rH)).toNat:Int))<48:=by rw [B];omega
    clear B hA;go_wp2_with fail
    go_ret;exact ⟨by rw [HN.out];rfl,rfl⟩
   by_cases hB:57<s[k].toNat
   ·have HN:=n7 (dD Et rH (.inr hB));have b1:(57:Int)<((((⟨s.toArray⟩:ByteArray)[k]'(k8 rH)).toNat:Int)):=by rw [B];omega
    have b2:¬ ((((⟨s.toArray⟩:ByteArray)[k]'(k8 rH)).toNat:Int))<48:=by omega
    clear B hA hB;go_wp2_with fail
    go_ret;exact ⟨by rw [HN.out];rfl,rfl⟩
   have b1:¬ (57:Int)<((((⟨s.toArray⟩:ByteArray)[k]'(k8 rH)).toNat:Int)):=by rw [B];omega
   have b2:¬ ((((⟨s.toArray⟩:ByteArray)[k]'(k8 rH)).toNat:Int))<48:=by rw [B];omega
   have HB:=n7 (n8 hA hB);clear B hA hB;go_wp2_with fail
   go_round
   case rel=>exact ⟨k+1,by omega,by omega,by go_num,fun j h1 h2 hj=>by
    by_cases e:j=k
    ·subst e;have:=HB.out;omega
    ·exact HR.out j h1 (by omega) hj⟩
   case measure=>simp [intOf];omega
  ·go_wp2_with fail
   go_ret;have HA':=HA.out;exact ⟨by rw [name_yes sf (by omega) (by omega) (fun j h1 hj=>HR.out j h1 (by omega) hj)];rfl,rfl⟩
def jO:Tm->DV
 | .nm x=>.ptr 96 [.val (str []),.val (str x),.val (.pointer none),.sl 54 1 0 []]
 | .wd w=>.ptr 96 [.val (str w),.val (str []),.val (.pointer none),.sl 54 1 0 []]
 | .lam x k t=>.ptr 96 [.val (str jo),.val (str x),jA k,.sl 54 1 1 [jO t]]
 | .app m n=>.ptr 96 [.val (str vo),.val (str []),.val (.pointer none),.sl 54 1 2 [jO m,jO n]]
 | .ite l m n=>.ptr 96 [.val (str ifW),.val (str []),.val (.pointer none),.sl 54 1 3 [jO l,jO m,jO n]]
theorem qF {F:Nat->Prop} {w:World} {t:Tm} {v:Value} (h:Rep F w (jO t) v):∃ a,v=.pointer (some ⟨a,0,none⟩):=by
 cases t <;> (rw [jO,jw] at h;obtain ⟨a,c,h,_⟩:=h;exact ⟨a,h⟩)
def vy (sc:Nat) (c:List Value) (e:TypeId) (w:World) (o:Option (Tm×Bs)) (en:Ending) (w':World):Prop :=
 ∃ v r',en=.returned v/\But (· = sc) w w'/\qA sc c e r' w'/\(o=none->v=.pointer none)/\(∀ t rest,o=some (t,rest)->r'=rest/\Rep (w.heap.size<=·) w' (jO t) v)
theorem vy.no {sc:Nat} {c:List Value} {e:TypeId} {w:World} {r:Bs} {w':World} {o:Option (Tm×Bs)} (ho:o=none) (hb:But (· = sc) w w') (hs:qA sc c e r w'):vy sc c e w o (.returned (.pointer none)) w' :=
 ⟨_,r,rfl,hb,hs,fun _=>rfl,fun _ _ h=>by rw [ho] at h;simp at h⟩
theorem vy.yes {sc:Nat} {c:List Value} {e:TypeId} {w:World} {r:Bs} {w':World} {o:Option (Tm×Bs)} {t:Tm} {v:Value} (ho:o=some (t,r)) (hb:But (· = sc) w w') (hs:qA sc c e r w')
 (hv:Rep (w.heap.size<=·) w' (jO t) v):vy sc c e w o (.returned v) w' :=
 ⟨_,r,rfl,hb,hs,fun h=>by rw [ho] at h;simp at h,fun _ _ h=>by rw [ho] at h;simp at h;obtain ⟨rfl,rfl⟩:=h;exact ⟨rfl,hv⟩⟩
def d7 (sc:Nat) (c:List Value) (e:TypeId) (d:Nat):Prop:=∀ (r:Bs) (w:World),qA sc c e r w->Lim r.length ->
    Calls No 45 #[.pointer (some ⟨sc,0,none⟩),.int .i64 d] w (vy sc c e w (jY d r))
theorem yV {H:Type} {P:Program} (w:World) {ops:Array Oper} {rest:List Oper} {o:Oper} {a:Act} {Q:Exit->Act->World->Prop}
 (hg:o.guard=none) (m x v:Operand) (t:TypeId) (hop:o.op=Op.insert t m x v)
 (k e:TypeId) (K:Uu P k) (ht:P.underlying t=some (.map k e)) (R:Value->Option (DataW H×List MemPlace)) (b n:Nat) (D:DataW H)
 (hm:a.eval m=.map (some b)) (r9:w.ownsMap P k R b n D) (hn:n<maxLen) (key val:Value) (kl:Lit) (hx:a.eval x=key) (hv:a.eval v=val) (hkey:keyOf P k key=some kl)
 (d:DataW H) (ps:List MemPlace) (Gk:R val=some (d,ps))
 (hK:∀ w',w'.ownsMap P k R b (n+1) (D.put kl d)->w.grownBy w' (some b)->wpList P ops Q rest (a.put o.dst undef) w') :
 wpList P ops Q (o::rest) a w:=by
 refine wpList_plain hg fun K' hK'=>?_;obtain ⟨w',ET,r1,r2⟩:=r9.update K ht hn hkey Gk;unfold QC;simp [execOp,hop,hm,hx,hv,ET,Result.andThen];exact hK' _ _ (hK w' r1 r2)
theorem many_at (s:Bs) {H:Type}:((((DataW.map []:DataW H).put (.string jo) (.lit (.int .i64 1))).put (.string vo) (.lit (.int .i64 2))).put (.string ifW) (.lit (.int .i64 3))).atKey (.string s) (.lit (.int .i64 0))=.lit (.int .i64 (mt s:Nat)):=by
 have i0:Maps.IsMap (DataW.map []:DataW H):=Maps.isMap_empty;unfold mt;by_cases h3:s=ifW
 ·subst h3;rw [Rx ((i0.put _ _).put _ _) (by simp [RR]),if_neg (by decide),if_neg (by decide),if_pos rfl];rfl
 rw [Rj (by simpa using h3)];by_cases h2:s=vo
 ·subst h2;rw [Rx (i0.put _ _) (by simp [RR]),if_neg (by decide),if_pos rfl];rfl
 rw [Rj (by simpa using h2)];by_cases h1:s=jo
 ·subst h1;rw [Rx i0 (by simp [RR]),if_pos rfl];rfl
 rw [Rj (by simpa using h1),if_neg h1,if_neg h2,if_neg h3];rfl
theorem Tryz.lawS:Uu No 9:=Maps.string_keyed SW
theorem Tryz.zeroI (w:World):(zeroValue 3).run No w=.ok (.int .i64 0) w:=by kernel_rfl
theorem keyS {s:Bs} (h:Lim s.length):keyOf No 9 (str s)=some (.string s):=by
 have:=WideMaps.keyOf_string_mk (P:=No) SW (s:=⟨s.toArray⟩) (by rw [gG];have:=h.le;unfold maxLen;omega);simpa using this
def uI (ob:Nat) (wd nm:Bs) (kv slv:Value) (w:World):Prop:=w.heap[ob]? = some (.cells #[str wd,str nm,kv,slv] 96 (0,0))
theorem uI.cells {ob:Nat} {wd nm:Bs} {kv slv:Value} {w:World} (h:uI ob wd nm kv slv w):w.cell? ⟨ob,0,none⟩=some (str wd)/\w.cell? ⟨ob,1,none⟩=some (str nm)/\w.cell? ⟨ob,2,none⟩=some kv/\w.cell? ⟨ob,3,none⟩=some slv/\ob<w.heap.size/\(∀ o,w.frozen? ⟨ob,o,none⟩=false):=by
 have hl:=zZ h;unfold uI at h;exact ⟨by simp [Li,h],by simp [Li,h],by simp [Li,h],by simp [Li,h],hl,fun o=>by simp [World.frozen?,h]⟩
theorem uI.put1 {ob:Nat} {wd nm u:Bs} {kv slv:Value} {w:World} (h:uI ob wd nm kv slv w):uI ob wd u kv slv (w.setCell ⟨ob,1,none⟩ (str u)):=by
 unfold uI;rw [zg h];rfl
theorem uI.put2 {ob:Nat} {wd nm:Bs} {kv slv u:Value} {w:World} (h:uI ob wd nm kv slv w):uI ob wd nm u slv (w.setCell ⟨ob,2,none⟩ u):=by
 unfold uI;rw [zg h];rfl
theorem uI.put3 {ob:Nat} {wd nm:Bs} {kv slv u:Value} {w:World} (h:uI ob wd nm kv slv w):uI ob wd nm kv u (w.setCell ⟨ob,3,none⟩ u):=by
 unfold uI;rw [zg h];rfl
theorem term_word (sc:Nat) (c:List Value) (e:TypeId) (d:Nat) (hd:d<=1000) (r:Bs) (w:World) (hs:qA sc c e r w) (hr:Lim r.length) (h1:g9 [40] r) :
 Calls No 45 #[.pointer (some ⟨sc,0,none⟩),.int .i64 d] w (vy sc c e w (jY d r)):=by
 have hm:jY d r=if qL (zN r) then some (.nm (zN r),zD r) else if jP (zN r) then some (.wd (zN r),zD r) else none:=by rw [jY.eq_def];simp only [h1.out]
 have HM:=n7 hm;clear hm;have oH:Lim (zN r).length:=hr.mono (by have:=y7 r;omega);go_enter Ua,TC;go_wp2_with fail
 refine (ve hs h1).mono ?_;rintro en w1 ⟨rfl,rW,tJ⟩;go_wp2_with fail
 refine (wN _ _ _ _ _ tJ hr).mono ?_;rintro en w2 ⟨rfl,rY,iQ⟩;have hb:=rW.trans rY;clear rW rY tJ hs h1;obtain ⟨wd,Gj⟩:=zzM (zN r);rw [<- Gj] at HM oH ⊢;clear Gj;go_wp2_with fail
 (with_reducible refine (nU wd w2 oH).mono ?_)
 rintro en w3 ⟨rfl,e3⟩;subst w3;cases hn:qL wd with
 | true =>
   have HN:=n7 hn;clear hn;go_wp2_with fail
   go_ret;refine vy.yes (t:=.nm wd) (r:=zD r) (by rw [HM.out,if_pos HN.out]) (hb.alloc _) (iQ.alloc _) ?_;rw [jO,jw];exact ⟨_,_,rfl,hb.size,zG _ _,zQ.2 ⟨_,_,rfl,zH.2 rfl,zQ.2 ⟨_,_,rfl,zH.2 rfl,zQ.2 ⟨_,_,rfl,zH.2 rfl,zQ.2 ⟨_,_,rfl,zh.2 ⟨rfl,none,0,rfl,n9 _,fun _=>rfl,.inl rfl⟩,zC.2 rfl⟩⟩⟩⟩⟩
 | false =>
   have HN:=n7 hn;clear hn;have leaf:∀ x:UInt8,wd=[x]->jP [x]=true->∀ W,W=w2.alloc (.cells #[str [x],str [],.pointer none,.slice none 0 0] 96)->vy sc c e w (jY d r) (.returned (.pointer (some ⟨w2.heap.size,0,none⟩))) W:=by
    intro x hx F4 W hW;subst hW;refine vy.yes (t:=.wd wd) (r:=zD r) (by rw [HM.out,if_neg (by rw [HN.out];decide),if_pos (by rw [hx];exact F4)]) (hb.alloc _) (iQ.alloc _) ?_;rw [jO,jw,hx];exact ⟨_,_,rfl,hb.size,zG _ _,zQ.2 ⟨_,_,rfl,zH.2 rfl,zQ.2 ⟨_,_,rfl,zH.2 rfl,zQ.2 ⟨_,_,rfl,zH.2 rfl,zQ.2 ⟨_,_,rfl,zh.2 ⟨rfl,none,0,rfl,n9 _,fun _=>rfl,.inl rfl⟩,zC.2 rfl⟩⟩⟩⟩⟩
   have LEAF:=n7 leaf;clear leaf;by_cases c1:wd=[116]
   ·have HC:=n7 c1;rw [c1];clear c1 oH;go_wp2_with fail
    go_ret;exact LEAF.out _ HC.out (by decide) _ rfl
   by_cases c2:wd=[102]
   ·have HC:=n7 c2;rw [c2];clear c1 c2 oH;go_wp2_with fail
    go_ret;exact LEAF.out _ HC.out (by decide) _ rfl
   by_cases c3:wd=[117]
   ·have HC:=n7 c3;rw [c3];clear c1 c2 c3 oH;go_wp2_with fail
    go_ret;exact LEAF.out _ HC.out (by decide) _ rfl
   have n1:(wd == [116])=false:=by rw [beq_eq_false_iff_ne];exact c1
   have n2:(wd == [102])=false:=by rw [beq_eq_false_iff_ne];exact c2
   have n3:(wd == [117])=false:=by rw [beq_eq_false_iff_ne];exact c3
   have HL:=n7 (show jP wd=false by simp [jP,n1,n2,n3]);clear c1 c2 c3 oH LEAF;go_wp2_with fail
   go_ret;exact vy.no (by rw [HM.out,if_neg (by rw [HN.out];decide),if_neg (by rw [HL.out];decide)]) hb iQ
def wB (sc:Nat) (c:List Value) (e:TypeId) (ob d m:Nat) (wd nm:Bs) (kv:Value) (r0:Bs) (wz:World) (k:Nat) (wr:World):Prop :=
 ∃ ts lk slv vs,ts.length=k/\(qv d m r0=(qv d (m-k) lk).map fun y=>(ts++y.1,y.2))/\lk.length<=r0.length/\But (fun i=>i=sc\/i=ob) wz wr/\qA sc c e lk wr/\uI ob wd nm kv slv wr /\
   Own wr 54 1 slv k vs/\(∀ g,slv.ownBlock=some g->wz.heap.size<=g)/\zW (fun b=>wz.heap.size<=b/\slv.ownBlock≠some b) wr (ts.map jO) vs
theorem Tryz.infoTm:(No.info? 54).map (fun i=>(i.zero,i.size,i.bytes))=some (some (.pointer none),1,8):=by kernel_rfl
theorem wB.next {sc:Nat} {c:List Value} {e:TypeId} {ob d m:Nat} {wd nm:Bs} {kv:Value} {r0:Bs} {wz:World} {k:Nat} {wr w2 w3:World} {ts:List Tm} {lk:Bs} {slv:Value} {vs:List Value} {t:Tm} {l1 rest:Bs} {vt:Value} {o:Obj} {a':Option Addr} {c':Nat}
 (rH:k<m) (hts:ts.length=k) (hp:qv d m r0=(qv d (m-k) lk).map fun y=>(ts++y.1,y.2)) (sw:lk.length<=r0.length) (hb:But (fun i=>i=sc\/i=ob) wz wr) (Ae:uI ob wd nm kv slv wr)
 (r9:Own wr 54 1 slv k vs) (hZ:∀ g,slv.ownBlock=some g->wz.heap.size<=g) (hr:zW (fun b=>wz.heap.size<=b/\slv.ownBlock≠some b) wr (ts.map jO) vs)
 (hc:cut [32] lk=some l1) (ht:jY d l1=some (t,rest)) (rY:But (· = sc) wr w2) (iQ:qA sc c e rest w2) (hv:Rep (wr.heap.size<=·) w2 (jO t) vt)
 (aK:Own w3 54 1 (.slice a' (k+1) c') (k+1) (vs++[vt])) (rE:But (fun b=>slv.ownBlock=some b) (w2.alloc o) w3) (hg:∀ g,(Value.slice a' (k+1) c').ownBlock=some g->slv.ownBlock=some g\/g=(w2.alloc o).heap.size)
 (BA:sc<ob) (E8:ob<wz.heap.size):wB sc c e ob d m wd nm kv r0 wz (k+1) (w3.setCell ⟨ob,3,none⟩ (.slice a' (k+1) c')):=by
 have z0:=hb.size;have z2:=rY.size;have z3:=rE.size;rw [zK] at hg z3;have keep:∀ i x,w2.heap[i]? = some x->slv.ownBlock≠some i->i≠ob->(w3.setCell ⟨ob,3,none⟩ (.slice a' (k+1) c')).heap[i]? = some x:=by
  intro i x hi hne ho;rw [rK _ _ _ _ (by simpa using ho),rE.block i (by rw [zK];have:=zZ hi;omega) hne];exact zY hi
 have sS:∀ g,slv.ownBlock=some g->g<wr.heap.size:=fun g h=>r9.lt h;have Me:uI ob wd nm kv slv w2:=(rY.block ob (zZ Ae) (by omega)).trans Ae;have E_:uI ob wd nm kv slv w3:=by
  unfold uI;rw [rE.block ob (by rw [zK];have:=zZ Me;omega) (fun e=>by have:=hZ ob e;omega)];exact zY Me
 refine ⟨ts++[t],rest,_,vs++[vt],by simp [hts],?_,?_,?_,?_,E_.put3,?_,?_,?_⟩
 ·rw [show m-k=(m-(k+1))+1 from by omega] at hp;exact rdParTm_step hp hc ht
 ·have k1:=congrArg PY (vP hc);have k2:=rdTm_le ht;simp only [Ov,OD,Pd] at k1;omega
 ·refine ((hb.trans (rY.weak fun i _ e=>.inl e)).trans' ((But.refl (fun b=>slv.ownBlock=some b) w2).alloc o |>.trans rE) fun i hi e=>?_).setCell (p:=⟨ob,3,none⟩) (.inl (.inr rfl)) _;have:=hZ i e;omega
 ·exact keep sc _ iQ (fun e=>by have:=hZ sc e;omega) (by omega)
 ·refine aK.keep fun g x tV Ab=>?_
  rw [rK _ _ _ _ (by
   rcases hg g tV with h | h
   ·have:=hZ g h;simp;omega
   ·simp;omega)]
  exact Ab
 ·intro g h;rcases hg g h with h | h
  ·exact hZ g h
  ·omega
 ·rw [QF];refine zW.append ?_ (zW.one ?_)
  ·refine (Rep.keep fun i x hi Ab=>⟨⟨hi.1,fun e=>?_⟩,?_⟩).2 _ _ hr
   ·have hi1:=hi.1;exact keep i x (by rw [rY.block i (zZ Ab) (by omega)];exact Ab) hi.2 (by omega)
   ·rcases hg i e with h | h
    ·exact hi.2 h
    ·have:=zZ Ab;omega
  ·refine (Rep.keep fun i x hi Ab=>⟨⟨by have:=hi;omega,fun e=>?_⟩,?_⟩).1 _ _ hv
   ·exact keep i x Ab (fun e=>by have:=sS i e;have:=hi;omega) (by have:=hi;omega)
   ·rcases hg i e with h | h
    ·have:=sS i h;have:=hi;omega
    ·have:=zZ Ab;omega
theorem enc_mk {F:Nat->Prop} {w:World} {ob n:Nat} {wd nm:Bs} {kv slv:Value} {kd:DV} {ds:List DV} (hF:F ob) (h:uI ob wd nm kv slv w) (hk:Rep F w kd kv) (hs:Rep F w (.sl 54 1 n ds) slv) :
 Rep F w (.ptr 96 [.val (str wd),.val (str nm),kd,.sl 54 1 n ds]) (.pointer (some ⟨ob,0,none⟩)):=by
 rw [jw];exact ⟨_,_,rfl,hF,h,zQ.2 ⟨_,_,rfl,zH.2 rfl,zQ.2 ⟨_,_,rfl,zH.2 rfl,zQ.2 ⟨_,_,rfl,hk,zQ.2 ⟨_,_,rfl,hs,zC.2 rfl⟩⟩⟩⟩⟩
theorem enc_lam (x:Bs) (k:Ty) (ts:List Tm) (h:ts.length=1):jO (cS jo x k ts)=.ptr 96 [.val (str jo),.val (str x),jA k,.sl 54 1 ts.length (ts.map jO)]:=by
 match ts,h with
 | [t],_=>rw [cS,jO];rfl
theorem enc_app (k:Ty) (ts:List Tm) (h:ts.length=2):jO (cS vo [] k ts)=.ptr 96 [.val (str vo),.val (str []),.val (.pointer none),.sl 54 1 ts.length (ts.map jO)]:=by
 match ts,h with
 | [t,u],_=>rw [cS,jO];rfl
theorem enc_ite (k:Ty) (ts:List Tm) (h:ts.length=3):jO (cS ifW [] k ts)=.ptr 96 [.val (str ifW),.val (str []),.val (.pointer none),.sl 54 1 ts.length (ts.map jO)]:=by
 match ts,h with
 | [t,u,v],_=>rw [cS,jO];rfl
theorem term_open (sc:Nat) (c:List Value) (e:TypeId) (d0:Nat) (hd:d0<=1000) (ih:∀ d',d0=d'+1->d7 sc c e d') (r r1:Bs) (w:World) (hs:qA sc c e r w) (hr:Lim r.length) (h1:Cut [40] r r1) :
 Calls No 45 #[.pointer (some ⟨sc,0,none⟩),.int .i64 d0] w (vy sc c e w (jY d0 r)):=by
 have er:r=40::r1:=by have:=vP h1.out;simpa using this
 have HR:=n7 er;clear er;have IH:=n7 ih;clear ih;have tX:=hr.mono h1.le;have oH:Lim (zN r1).length:=tX.mono (by have:=y7 r1;omega);have aA:Lim (zD r1).length:=tX.mono (by have:=y7 r1;omega);have hmm:=@run_makeMap No;go_enter Ua,TC;go_wp2_with fail
 refine (jm hs h1).mono ?_;rintro en w1 ⟨rfl,rW,tJ⟩;go_wp2_with fail
 refine (wN _ _ _ _ _ tJ tX).mono ?_;rintro en w2 ⟨rfl,rY,iQ⟩;have hb:=rW.trans rY;clear rW rY tJ h1;obtain ⟨wd,Gj⟩:=zzM (zN r1);rw [<- Gj] at oH ⊢;have HW:=n7 Gj.symm;clear Gj;have kS:=n7 (keyS oH);have k1:keyOf No 9 (str jo)=some (.string jo):=keyS (s:=jo) (by unfold Lim;decide);have k2:keyOf No 9 (str vo)=some (.string vo):=keyS (s:=vo) (by unfold Lim;decide);have k3:keyOf No 9 (str ifW)=some (.string ifW):=keyS (s:=ifW) (by unfold Lim;decide);have K1:=n7 (n8 k1 (n8 k2 k3));clear k1 k2 k3 oH;have hsz:=hb.size;have made:((w2.alloc (.cells #[str wd,str [],.pointer none,.slice none 0 0] 96)).alloc (.map #[] 0)).ownsMap No 9 (plainElem (H:=Unit) No 3) (w2.heap.size+1) 0 (.map []):=by
  have:=World.ownsMap_made (H:=Unit) (w2.alloc (.cells #[str wd,str [],.pointer none,.slice none 0 0] 96)) No 9 (plainElem (H:=Unit) No 3);rwa [zK] at this
 have MADE:=n7 made;clear made;go_wp2_with (refine yV (H:=Unit) _ rfl _ _ _ 140 rfl 9 3 Tryz.lawS QH (plainElem No 3) (w2.heap.size+1) 0 _ rfl MADE.out (by unfold maxLen;omega) _ _ _ rfl rfl K1.out.1 _ [] (plainElem_int QV (by decide)) ?_)
 intro wa hA gA;go_wp2_with (refine yV (H:=Unit) _ rfl _ _ _ 140 rfl 9 3 Tryz.lawS QH (plainElem No 3) (w2.heap.size+1) 1 _ rfl hA (by unfold maxLen;omega) _ _ _ rfl rfl K1.out.2.1 _ [] (plainElem_int QV (by decide)) ?_)
 intro wb hB gB;go_wp2_with (refine yV (H:=Unit) _ rfl _ _ _ 140 rfl 9 3 Tryz.lawS QH (plainElem No 3) (w2.heap.size+1) 2 _ rfl hB (by unfold maxLen;omega) _ _ _ rfl rfl K1.out.2.2 _ [] (plainElem_int QV (by decide)) ?_)
 intro w3 hC gC
 have rE:But (fun i=>i=w2.heap.size+1) ((w2.alloc (.cells #[str wd,str [],.pointer none,.slice none 0 0] 96)).alloc (.map #[] 0)) w3 :=
  ((But.ofGrown gA).weak (m':=fun i=>i=w2.heap.size+1) (fun i _ h=>by simpa using h)).trans (((But.ofGrown gB).weak (m':=fun i=>i=w2.heap.size+1) (fun i _ h=>by simpa using h)).trans ((But.ofGrown gC).weak (m':=fun i=>i=w2.heap.size+1) (fun i _ h=>by simpa using h)))
 obtain ⟨M,ET,rX,_⟩:=hC.lookup_int Tryz.lawS QH QV (Tryz.zeroI _) kS.out;rw [many_at] at rX;obtain rfl:(mt wd:Int)=M:=by simpa using rX
 have z3:=rE.size;simp only [zK] at z3;have Ni:But (· = sc) w w3:=hb.trans' (m':=fun i=>i=w2.heap.size+1) (((But.refl (fun i=>i=w2.heap.size+1) w2).alloc _ |>.alloc _).trans rE) (fun i hi e=>by omega);have MA:∀ i x,w2.heap[i]? = some x->w3.heap[i]? = some x:=fun i x h=>by
  have hl:=zZ h;rw [rE.block i (by simp;omega) (by omega)];exact zY (zY h)
 have oC:qA sc c e (zD r1) w3:=MA _ _ iQ;have E_:uI w2.heap.size wd [] (.pointer none) (.slice none 0 0) w3:=by
  unfold uI;rw [rE.block w2.heap.size (by simp;omega) (by omega)];exact zY (zG _ _)
 have Gi:w.heap.size<=w2.heap.size:=hsz;have hscw:=yX hs;clear hA hB hC gA gB gC rE rX MADE K1 kS iQ MA;obtain ⟨q0,_,_,_,q4,_⟩:=E_.cells;obtain ⟨M,hM⟩:=zzM (mt wd);rw [<- hM] at ET;have HMW:=n7 hM;clear hM;generalize hO:w2.heap.size=ob at *;clear hO z3;have Dj:=n7 (n8 oC (n8 E_ Ni));clear oC E_ Ni hb;by_cases Ml:M=0
 ·have HX:=n7 (show jY d0 r=none by rw [HR.out];exact rdTm_none (by rw [HW.out,<- HMW.out,Ml]));subst Ml;go_wp2_with fail
  go_ret;exact vy.no HX.out Dj.out.2.2 Dj.out.1
 have m0:((M:Int) == 0)=false:=by rw [beq_eq_false_iff_ne];omega
 by_cases A7:d0=0
 ·have HX:=n7 (show jY d0 r=none by rw [HR.out,A7];exact rdTm_zero);subst A7;go_wp2_with fail
  go_ret;exact vy.no HX.out Dj.out.2.2 Dj.out.1
 obtain ⟨d,rfl⟩:∃ d',d0=d'+1:=⟨d0-1,by omega⟩;have ecast:((d+1:Nat):Int)=(d:Int)+1:=by omega
 rw [ecast];clear ecast;have d00:((d:Int)+1 == 0)=false:=by rw [beq_eq_false_iff_ne];omega
 have IH':=n7 (IH.out d rfl);clear IH A7;by_cases iN:wd=jo
 ·have hq:(wd == [108,97,109])=true:=by rw [beq_iff_eq];exact iN
  have HL:=n7 iN;clear iN;go_wp2_with fail
  rcases kM [32] (zD r1) with h4 | ⟨l3,h4⟩
  ·refine (ve Dj.out.1 h4).mono ?_;rintro en w4 ⟨rfl,rq,aW⟩;go_wp2_with fail
   go_ret;exact vy.no (by rw [HR.out];exact rdTm_lamNo1 (by rw [HW.out,HL.out]) h4.out) (Dj.out.2.2.trans rq) aW
  refine (jm Dj.out.1 h4).mono ?_;rintro en w4 ⟨rfl,rq,aW⟩;have Js:=aA.mono h4.le;clear q0 q4 ET;go_wp2_with fail
  refine (wN _ _ _ _ _ aW Js).mono ?_;rintro en w5 ⟨rfl,rx,As⟩;have hbb:=rq.trans rx;have oT:uI ob wd [] (.pointer none) (.slice none 0 0) w5:=(hbb.block ob (zZ Dj.out.2.1) (by omega)).trans Dj.out.2.1;have BN:=Dj.out.2.2.trans hbb;obtain ⟨nm,F3⟩:=zzM (zN l3);have Mr:Lim (zN l3).length:=Js.mono (by have:=y7 l3;omega);have hl3r:Lim (zD l3).length:=Js.mono (by have:=y7 l3;omega);rw [<- F3] at Mr ⊢;have HNM:=n7 F3.symm;clear F3;obtain ⟨_,q1,_,_,q4,q5⟩:=oT.cells;have q6:=q5 1;have BF:=oT.put1 (u:=nm);have Nl:=BN.setCell (p:=⟨ob,1,none⟩) (.inr (by simpa using Gi)) (str nm);have Gr:qA sc c e (zD l3) (w5.setCell ⟨ob,1,none⟩ (str nm)):=by unfold qA;rw [rK _ _ _ _ (by simp;omega)];exact As
  have Ew:=n7 (n8 Gr (n8 BF Nl));clear q5 aW As rq rx hbb BN oT Gr BF Nl;go_wp2_with fail
  obtain ⟨w6,hw6⟩:=zzM (w5.setCell ⟨ob,1,none⟩ (str nm));rw [<- hw6] at Ew ⊢;clear hw6 q1 q4 q6;(with_reducible refine (nU nm w6 Mr).mono ?_);rintro en w7 ⟨rfl,e7⟩;subst w7;cases hn:qL nm with
  | false =>
    have HN:=n7 hn;clear hn;go_wp2_with fail
    go_ret;exact vy.no (by rw [HR.out];exact rdTm_lamNo2 (by rw [HW.out,HL.out]) h4.out (by rw [HNM.out,HN.out])) Ew.out.2.2 Ew.out.1
  | true =>
    have HN:=n7 hn;clear hn;go_wp2_with fail
    rcases kM [32] (zD l3) with h5 | ⟨l4,h5⟩
    ·refine (ve Ew.out.1 h5).mono ?_;rintro en w7 ⟨rfl,rP,Eo⟩;go_wp2_with fail
     go_ret;exact vy.no (by rw [HR.out];exact rdTm_lamNo3 (by rw [HW.out,HL.out]) h4.out h5.out) (Ew.out.2.2.trans rP) Eo
    refine (jm Ew.out.1 h5).mono ?_;rintro en w7 ⟨rfl,rP,Eo⟩;have oL:=hl3r.mono h5.le;go_wp2_with fail
    refine (kind_any _ _ _ 60 (by omega) l4 w7 Eo oL).mono ?_;rintro en w8 ⟨kv,r8,rfl,sP,Gq,hn8,hy8⟩;have GO:=rP.trans sP;have Gx:uI ob wd nm (.pointer none) (.slice none 0 0) w8:=(GO.block ob (zZ Ew.out.2.1) (by omega)).trans Ew.out.2.1;have A9:=Ew.out.2.2.trans GO;have z7:=Ew.out.2.2.size;have z78:=rP.size;have hl7:ob<w7.heap.size:=by have:=zZ Ew.out.2.1;omega
    obtain ⟨_,_,q2,_,q4,q5⟩:=Gx.cells;have q6:=q5 2;have Gw:=Gx.put2 (u:=kv);have GQ:=A9.setCell (p:=⟨ob,2,none⟩) (.inr (by simpa using Gi)) kv;have Kr:qA sc c e r8 (w8.setCell ⟨ob,2,none⟩ kv):=by unfold qA;rw [rK _ _ _ _ (by simp;omega)];exact Gq
    rcases hk:rdK 60 l4 with _ | ⟨kk,l6⟩
    ·obtain rfl:=hn8 hk;have HK:=n7 hk;clear hk hn8 hy8;have G0:=n7 (n8 Kr (n8 Gw GQ));clear Kr Gw GQ A9 Gx GO sP Gq rP Eo q5;go_wp2_with fail
     go_ret;exact vy.no (by rw [HR.out];exact rdTm_lamNo4 (by rw [HW.out,HL.out]) h4.out (by exact h5.out) HK.out) G0.out.2.2 G0.out.1
    obtain ⟨rfl,AH⟩:=hy8 _ _ hk;have G3:Rep (fun b=>w.heap.size<=b/\b≠ob/\b≠sc) (w8.setCell ⟨ob,2,none⟩ kv) (jA kk) kv:=(Rep.keep fun b o h ho=>⟨by have:=h;omega,by rw [rK _ _ _ _ (by have:=h;simp;omega)];exact ho⟩).1 _ _ AH;obtain ⟨kb,rfl⟩:∃ ba,kv=.pointer (some ⟨ba,0,none⟩):=by obtain ⟨ba,_,h,_⟩:=zc AH;exact ⟨ba,h⟩
    have hM1:M=1:=by rw [HMW.out,HL.out];decide
    have FZ:=oL.mono (rdK_le _ hk).1;have HM:jY (d+1) r=(qv d M r8).bind fun y=>(cut [41] y.2).map fun r'=>(cS wd nm kk y.1,r'):=by rw [HR.out,rdTm_lam (by rw [HW.out,HL.out]) h4.out (by rw [HNM.out];exact HN.out) h5.out hk,hM1,HL.out,HNM.out]
    have HE:∀ ts:List Tm,ts.length=M->jO (cS wd nm kk ts)=.ptr 96 [.val (str wd),.val (str nm),jA kk,.sl 54 1 ts.length (ts.map jO)]:=fun ts h=>by rw [HL.out];exact enc_lam nm kk ts (by rw [h,hM1])
    have G0:=n7 (n8 Kr (n8 Gw (n8 GQ (n8 G3 (n8 HE HM)))));clear Kr Gw GQ A9 Gx GO sP Gq rP Eo q5 AH hk hn8 hy8 HE HM G3;have HM1:=n7 hM1;clear hM1;have M20:M<=3:=by have:=HM1.out;omega
    go_wp2_with fail
    obtain ⟨wz,DU⟩:=zzM (w8.setCell ⟨ob,2,none⟩ (.pointer (some ⟨kb,0,none⟩)));rw [<- DU] at G0 ⊢;clear DU q2 q4 q6;obtain ⟨hsz,im,B6,G3,HE,HM⟩:=G0.out;obtain ⟨r0,E5⟩:=zzM (r8);rw [<- E5] at FZ hsz HM;clear E5 G0 Ew Dj;obtain ⟨kv,Ky⟩:=zzM (Value.pointer (some ⟨kb,0,none⟩));rw [<- Ky] at im G3;clear Ky;clear hmm;have ER:sc<ob:=by omega
    have Jk:ob<wz.heap.size:=zZ im;have aT:wB sc c e ob d M wd nm kv r0 wz 0 wz:=⟨[],r0,.slice none 0 0,[],rfl,by simp,n9 _,But.refl _ _,hsz,im,Pq _ _ _ _,fun g h=>by simp [Value.ownBlock] at h,zC.2 rfl⟩;have HZ:=n7 (n8 B6 (n8 G3 (n8 HE HM)));clear B6 hsz im G3 HE HM
    go_loopw [84] (fun i wr=>∃ k:Nat,k<=M/\i=.int .i64 k/\wB sc c e ob d M wd nm kv r0 wz k wr) (fun i _=>M-(intOf i).toNat)
    case atStart=>exact ⟨0,OS _,rfl,aT⟩
    case round =>
     clear aT;rename_i wr;obtain ⟨k,hk,rfl,ts,lk,slv,vs,hts,hp,sw,hb,Ck,Ae,r9,hZ,aS⟩:=hrel;have GA:=FZ.mono sw;have sJ:But (· = sc) w wr:=HZ.out.1.trans' hb (fun i hi e=>by rcases e with e | e;exact e;omega);have HP:=n7 (n8 hp (n8 hb (n8 r9 (n8 hZ (n8 aS (n8 hts sw))))));clear hp hb r9 hZ aS hts sw;have G4:=n7 sJ;clear sJ;by_cases rH:k<M
     ·have hltI:(k:Int)<(M:Int):=by omega
      have Cw:M-k=(M-k-1)+1:=by omega
      have Ok:=n7 Cw;clear Cw;go_wp2_with fail
      rcases kM [32] lk with h4 | ⟨l4,h4⟩
      ·refine (ve Ck h4).mono ?_;rintro en w4 ⟨rfl,rq,aW⟩;go_wp2_with fail
       go_ret;refine vy.no ?_ (G4.out.trans rq) aW;have hp:=HP.out.1;rw [Ok.out] at hp;rw [HZ.out.2.2.2,fT hp h4.out];rfl
      refine (jm Ck h4).mono ?_;rintro en w4 ⟨rfl,rq,aW⟩;have h4l:=h4.le;go_wp2_with fail
      refine (IH'.out l4 w4 aW (GA.mono h4l)).mono ?_;rintro en w5 ⟨vt,r5,rfl,rx,As,A3,AV⟩;have tm:=rq.trans rx;have z4:=rq.size;rcases ht:jY d l4 with _ | ⟨t,r5'⟩
      ·obtain rfl:=A3 ht;have HT:=n7 ht;clear ht A3 AV;go_wp2_with fail
       go_ret;refine vy.no ?_ (G4.out.trans tm) As;have hp:=HP.out.1;rw [Ok.out] at hp;rw [HZ.out.2.2.2,fS hp h4.out HT.out];rfl
      obtain ⟨rfl,Du⟩:=AV _ _ ht;have HT:=n7 ht;clear ht A3 AV;obtain ⟨at5,rfl⟩:=qF Du;have oT:uI ob wd nm kv slv w5:=(tm.block ob (zZ Ae) (by omega)).trans Ae;obtain ⟨_,_,_,q3,q4,q5⟩:=oT.cells;have q6:=q5 3;have oR:Own w5 54 1 slv k vs:=HP.out.2.2.1.keep fun g o tV ho=>by rw [tm.block g (zZ ho) (by have:=HP.out.2.2.2.1 g tV;omega)];exact ho
      have GY:=n7 (n8 oR (n8 Du (n8 tm As)));clear q5 oR Du tm rq rx aW As Ck;go_wp2_with (at_builtin;refine zM rfl _ _ 94 rfl 54 (.pointer none) 1 8 SP Tryz.infoTm rfl (by decide) slv k vs rfl ?c1 _ 1 [.pointer (some ⟨at5,0,none⟩)] rfl ?c2 ?c3 ?c4 ?_)
      case c1=>exact GY.out.1.keep fun g o tV ho=>zY ho
      case c2=>exact zu.lit rfl
      case c3=>unfold maxLen;omega
      case c4=>omega
      intro a' c' w6 aK rC tV;have BF:uI ob wd nm kv slv w6:=by
       unfold uI;rw [rC.block ob (by simp;omega) (fun e=>by have:=HP.out.2.2.2.1 ob e;omega)];exact zY oT
      have sG:=wB.next rH HP.out.2.2.2.2.2.1 HP.out.1 HP.out.2.2.2.2.2.2 HP.out.2.1 Ae HP.out.2.2.1 HP.out.2.2.2.1 HP.out.2.2.2.2.1 h4.out HT.out GY.out.2.2.1 GY.out.2.2.2 ((Rep.keep fun b o h ho=>⟨by have:=h;omega,ho⟩).1 _ _ GY.out.2.1) aK rC (fun g h=>(tV g h).imp_right fun e=>e.trans (by simp)) ER Jk;obtain ⟨_,_,_,p3,p4,p5⟩:=BF.cells;have p6:=p5 3;clear tV p5 rC aK oT BF Ae q3 q4 q6;go_wp2_with fail
      go_roundw
      case rel=>exact ⟨k+1,by omega,by go_num,sG⟩
      case measure=>simp [intOf];omega
     ·obtain rfl:k=M:=by omega
      go_wp2_with fail
      rcases kM [41] lk with h4 | ⟨l4,h4⟩
      ·refine (ve Ck h4).mono ?_;rintro en w4 ⟨rfl,rq,aW⟩;go_wp2_with fail
       go_ret;refine vy.no ?_ (G4.out.trans rq) aW;have hp:=HP.out.1;rw [Ro,xv] at hp;rw [HZ.out.2.2.2,hp];simp [h4.out]
      refine (jm Ck h4).mono ?_;rintro en w4 ⟨rfl,rq,aW⟩;go_wp2_with fail
      go_ret;have hp:=HP.out.1;rw [Ro,xv] at hp;have JE:But (fun i=>i=sc\/i=ob) wz w4:=HP.out.2.1.trans (rq.weak fun i _ e=>.inl e);have Ce:=HZ.out.1.size;have I8:=yX hs;refine vy.yes (t:=cS wd nm kk ts) (r:=l4) ?_ (G4.out.trans rq) aW ?_
      ·rw [HZ.out.2.2.2,hp];simp [h4.out]
      ·rw [HZ.out.2.2.1 ts HP.out.2.2.2.2.2.1];have Jm:uI ob wd nm kv slv w4:=(rq.block ob (zZ Ae) (by omega)).trans Ae;refine enc_mk Gi Jm (Rep.but JE (fun b hb=>⟨by rintro (e | e) <;> omega,hb.1⟩) HZ.out.2.1) ?_;rw [HP.out.2.2.2.2.2.1];have hz:=HP.out.2.2.2.1;refine (HP.out.2.2.1.keep (w':=w4) fun g o tV ho=>?_).rep (fun g hg=>?_) ?_
       ·rw [rq.block g (zZ ho) (by have:=hz g tV;omega)];exact ho
       ·have:=hz g hg;show w.heap.size<=g;omega
       ·exact zW.but rq (fun b hb=>⟨by have:=hb.1;omega,by have:=hb.1;show w.heap.size<=b;omega⟩) HP.out.2.2.2.2.1
 ·have hq:(wd == [108,97,109])=false:=by rw [beq_eq_false_iff_ne];exact iN
  have B6:=Dj.out.2.2;have hsz:=Dj.out.1;have im:=Dj.out.2.1;obtain ⟨nm,F3⟩:∃ x:Bs,x=[]:=⟨_,rfl⟩;rw [<- F3] at im
  have hHM:∀ kk:Ty,(M=2\/M=3)/\(jY (d+1) r=(qv d M (zD r1)).bind fun y=>(cut [41] y.2).map fun r'=>(cS wd nm kk y.1,r')) /\
   (∀ ts:List Tm,ts.length=M->jO (cS wd nm kk ts)=.ptr 96 [.val (str wd),.val (str nm),.val (.pointer none),.sl 54 1 ts.length (ts.map jO)]):=by
   intro kk;have hM:=HMW.out;unfold mt at hM;rw [if_neg iN] at hM;by_cases h2:wd=vo
   ·rw [if_pos h2] at hM;refine ⟨.inl hM,?_,fun ts h=>?_⟩
    ·rw [HR.out,rdTm_app nm kk (by rw [HW.out,h2]),hM,h2]
    ·rw [h2,F3];exact enc_app kk ts (by rw [h,hM])
   rw [if_neg h2] at hM;by_cases h3:wd=ifW
   ·rw [if_pos h3] at hM;refine ⟨.inr hM,?_,fun ts h=>?_⟩
    ·rw [HR.out,rdTm_ite nm kk (by rw [HW.out,h3]),hM,h3]
    ·rw [h3,F3];exact enc_ite kk ts (by rw [h,hM])
   rw [if_neg h3] at hM;exact absurd hM Ml
  obtain ⟨kk,Bh⟩:∃ k:Ty,k=.mk []:=⟨_,rfl⟩;obtain ⟨hM23,HM,HE⟩:=hHM kk;have G0:=n7 (n8 hsz (n8 im (n8 B6 (n8 HE HM))));have M20:M<=3:=by omega
  clear hHM hsz im B6 HE HM hM23 Bh iN F3;go_wp2_with fail
  clear ET q0 q4;obtain ⟨hsz,im,B6,HE,HM⟩:=G0.out;obtain ⟨wz,DU⟩:=zzM (w3);rw [<- DU] at hsz im B6 ⊢;clear DU G0 Dj;obtain ⟨r0,E5⟩:=zzM (zD r1);rw [<- E5] at aA hsz HM;have FZ:=aA;clear E5 aA;obtain ⟨kv,Ky⟩:=zzM (Value.pointer none);have G3:Rep (fun b=>w.heap.size<=b/\b≠ob/\b≠sc) wz (.val (.pointer none)) kv:=zH.2 Ky;rw [<- Ky] at im;clear Ky;clear hmm;have ER:sc<ob:=by omega
  have Jk:ob<wz.heap.size:=zZ im;have aT:wB sc c e ob d M wd nm kv r0 wz 0 wz:=⟨[],r0,.slice none 0 0,[],rfl,by simp,n9 _,But.refl _ _,hsz,im,Pq _ _ _ _,fun g h=>by simp [Value.ownBlock] at h,zC.2 rfl⟩;have HZ:=n7 (n8 B6 (n8 G3 (n8 HE HM)));clear B6 hsz im G3 HE HM
  go_loopw [84] (fun i wr=>∃ k:Nat,k<=M/\i=.int .i64 k/\wB sc c e ob d M wd nm kv r0 wz k wr) (fun i _=>M-(intOf i).toNat)
  case atStart=>exact ⟨0,OS _,rfl,aT⟩
  case round =>
   clear aT;rename_i wr;obtain ⟨k,hk,rfl,ts,lk,slv,vs,hts,hp,sw,hb,Ck,Ae,r9,hZ,aS⟩:=hrel;have GA:=FZ.mono sw;have sJ:But (· = sc) w wr:=HZ.out.1.trans' hb (fun i hi e=>by rcases e with e | e;exact e;omega);have HP:=n7 (n8 hp (n8 hb (n8 r9 (n8 hZ (n8 aS (n8 hts sw))))));clear hp hb r9 hZ aS hts sw;have G4:=n7 sJ;clear sJ;by_cases rH:k<M
   ·have hltI:(k:Int)<(M:Int):=by omega
    have Cw:M-k=(M-k-1)+1:=by omega
    have Ok:=n7 Cw;clear Cw;go_wp2_with fail
    rcases kM [32] lk with h4 | ⟨l4,h4⟩
    ·refine (ve Ck h4).mono ?_;rintro en w4 ⟨rfl,rq,aW⟩;go_wp2_with fail
     go_ret;refine vy.no ?_ (G4.out.trans rq) aW;have hp:=HP.out.1;rw [Ok.out] at hp;rw [HZ.out.2.2.2,fT hp h4.out];rfl
    refine (jm Ck h4).mono ?_;rintro en w4 ⟨rfl,rq,aW⟩;have h4l:=h4.le;go_wp2_with fail
    refine (IH'.out l4 w4 aW (GA.mono h4l)).mono ?_;rintro en w5 ⟨vt,r5,rfl,rx,As,A3,AV⟩;have tm:=rq.trans rx;have z4:=rq.size;rcases ht:jY d l4 with _ | ⟨t,r5'⟩
    ·obtain rfl:=A3 ht;have HT:=n7 ht;clear ht A3 AV;go_wp2_with fail
     go_ret;refine vy.no ?_ (G4.out.trans tm) As;have hp:=HP.out.1;rw [Ok.out] at hp;rw [HZ.out.2.2.2,fS hp h4.out HT.out];rfl
    obtain ⟨rfl,Du⟩:=AV _ _ ht;have HT:=n7 ht;clear ht A3 AV;obtain ⟨at5,rfl⟩:=qF Du;have oT:uI ob wd nm kv slv w5:=(tm.block ob (zZ Ae) (by omega)).trans Ae;obtain ⟨_,_,_,q3,q4,q5⟩:=oT.cells;have q6:=q5 3;have oR:Own w5 54 1 slv k vs:=HP.out.2.2.1.keep fun g o tV ho=>by rw [tm.block g (zZ ho) (by have:=HP.out.2.2.2.1 g tV;omega)];exact ho
    have GY:=n7 (n8 oR (n8 Du (n8 tm As)));clear q5 oR Du tm rq rx aW As Ck;go_wp2_with (at_builtin;refine zM rfl _ _ 94 rfl 54 (.pointer none) 1 8 SP Tryz.infoTm rfl (by decide) slv k vs rfl ?c1 _ 1 [.pointer (some ⟨at5,0,none⟩)] rfl ?c2 ?c3 ?c4 ?_)
    case c1=>exact GY.out.1.keep fun g o tV ho=>zY ho
    case c2=>exact zu.lit rfl
    case c3=>unfold maxLen;omega
    case c4=>omega
    intro a' c' w6 aK rC tV;have BF:uI ob wd nm kv slv w6:=by
     unfold uI;rw [rC.block ob (by simp;omega) (fun e=>by have:=HP.out.2.2.2.1 ob e;omega)];exact zY oT
    have sG:=wB.next rH HP.out.2.2.2.2.2.1 HP.out.1 HP.out.2.2.2.2.2.2 HP.out.2.1 Ae HP.out.2.2.1 HP.out.2.2.2.1 HP.out.2.2.2.2.1 h4.out HT.out GY.out.2.2.1 GY.out.2.2.2 ((Rep.keep fun b o h ho=>⟨by have:=h;omega,ho⟩).1 _ _ GY.out.2.1) aK rC (fun g h=>(tV g h).imp_right fun e=>e.trans (by simp)) ER Jk;obtain ⟨_,_,_,p3,p4,p5⟩:=BF.cells;have p6:=p5 3;clear tV p5 rC aK oT BF Ae q3 q4 q6;go_wp2_with fail
    go_roundw
    case rel=>exact ⟨k+1,by omega,by go_num,sG⟩
    case measure=>simp [intOf];omega
   ·obtain rfl:k=M:=by omega
    go_wp2_with fail
    rcases kM [41] lk with h4 | ⟨l4,h4⟩
    ·refine (ve Ck h4).mono ?_;rintro en w4 ⟨rfl,rq,aW⟩;go_wp2_with fail
     go_ret;refine vy.no ?_ (G4.out.trans rq) aW;have hp:=HP.out.1;rw [Ro,xv] at hp;rw [HZ.out.2.2.2,hp];simp [h4.out]
    refine (jm Ck h4).mono ?_;rintro en w4 ⟨rfl,rq,aW⟩;go_wp2_with fail
    go_ret;have hp:=HP.out.1;rw [Ro,xv] at hp;have JE:But (fun i=>i=sc\/i=ob) wz w4:=HP.out.2.1.trans (rq.weak fun i _ e=>.inl e);have Ce:=HZ.out.1.size;have I8:=yX hs;refine vy.yes (t:=cS wd nm kk ts) (r:=l4) ?_ (G4.out.trans rq) aW ?_
    ·rw [HZ.out.2.2.2,hp];simp [h4.out]
    ·rw [HZ.out.2.2.1 ts HP.out.2.2.2.2.2.1];have Jm:uI ob wd nm kv slv w4:=(rq.block ob (zZ Ae) (by omega)).trans Ae;refine enc_mk Gi Jm (Rep.but JE (fun b hb=>⟨by rintro (e | e) <;> omega,hb.1⟩) HZ.out.2.1) ?_;rw [HP.out.2.2.2.2.2.1];have hz:=HP.out.2.2.2.1;refine (HP.out.2.2.1.keep (w':=w4) fun g o tV ho=>?_).rep (fun g hg=>?_) ?_
     ·rw [rq.block g (zZ ho) (by have:=hz g tV;omega)];exact ho
     ·have:=hz g hg;show w.heap.size<=g;omega
     ·exact zW.but rq (fun b hb=>⟨by have:=hb.1;omega,by have:=hb.1;show w.heap.size<=b;omega⟩) HP.out.2.2.2.2.1
theorem term_step (sc:Nat) (c:List Value) (e:TypeId) (d:Nat) (hd:d<=1000) (ih:∀ d',d=d'+1->d7 sc c e d'):d7 sc c e d:=by
 intro r w hs hr;rcases kM [40] r with h1 | ⟨r1,h1⟩
 ·exact term_word sc c e d hd r w hs hr h1
 ·exact term_open sc c e d hd ih r r1 w hs hr h1
theorem term_any (sc:Nat) (c:List Value) (e:TypeId):∀ (d:Nat),d<=1000->d7 sc c e d
 | 0,h=>term_step sc c e 0 h (fun d' e=>by omega)
 | d+1,h=>term_step sc c e (d+1) h (fun d' e=>by obtain rfl:d=d':=by omega
                                                 exact term_any _ _ _ d (by omega))
def xd:Tm->Bs
 | .nm _=>[]
 | .wd w=>w
 | .lam _ _ _=>jo
 | .app _ _=>vo
 | .ite _ _ _=>ifW
def xf:Tm->Bs
 | .nm x=>x
 | .lam x _ _=>x
 | _=>[]
def yS:Tm->Option Ty
 | .lam _ k _=>some k
 | _=>none
def kZ:Tm->List Tm
 | .nm _=>[]
 | .wd _=>[]
 | .lam _ _ t=>[t]
 | .app m n=>[m,n]
 | .ite l m n=>[l,m,n]
def yM (ts:List Tm):Nat:=(ts.map zS).sum
def kindN:Option Ty->Nat
 | some k=>1+zJ k
 | none=>0
theorem sizeTm_mk (t:Tm):zS t=1+kindN (yS t)+yM (kZ t):=by
 cases t <;> simp [zS,yS,kZ,kindN,yM] <;> omega
theorem mB {ts:List Tm} {k:Nat} {t:Tm} (h:ts[k]? = some t):yM (ts.take (k+1))=yM (ts.take k)+zS t:=by
 unfold yM;rw [Pc,h];simp
theorem cV (ts:List Tm) (k:Nat):yM (ts.take k)<=yM ts:=by
 unfold yM
 conv=>rhs;rw [<- Pj k ts,QF,List.sum_append]
 omega
theorem sumTm_mem {ts:List Tm} {t:Tm} (h:t∈ts):zS t<=yM ts:=by
 induction ts with
 | nil=>simp at h
 | cons x xs ih =>
   unfold yM at *;simp only [OU,List.sum_cons];rcases OX.1 h with rfl | h
   ·omega
   ·have:=ih h;omega
theorem tmParts_len (t:Tm):(kZ t).length<=3:=by cases t <;> simp [kZ]
theorem js {F:Nat->Prop} {w:World} {t:Tm} {v:Value} (h:Rep F w (jO t) v) :
 ∃ b kv slv,v=.pointer (some ⟨b,0,none⟩)/\F b/\w.heap[b]? = some (.cells #[str (xd t),str (xf t),kv,slv] 96 (0,0))/\(yS t=none->kv=.pointer none)/\(∀ k,yS t=some k->Rep F w (jA k) kv) /\
   Rep F w (.sl 54 1 (kZ t).length ((kZ t).map jO)) slv:=by
 have key:∀ (wd nm:Bs) (kd:DV) (n:Nat) (ds:List DV),Rep F w (.ptr 96 [.val (str wd),.val (str nm),kd,.sl 54 1 n ds]) v ->
  ∃ b kv slv,v=.pointer (some ⟨b,0,none⟩)/\F b/\w.heap[b]? = some (.cells #[str wd,str nm,kv,slv] 96 (0,0))/\Rep F w kd kv/\Rep F w (.sl 54 1 n ds) slv:=by
  intro wd nm kd n ds h;rw [jw] at h;obtain ⟨b,c,rfl,hb,hc,hr⟩:=h;simp only [zQ,zC,zH] at hr;obtain ⟨_,_,e1,rfl,_,_,rfl,rfl,kv,_,rfl,h1,slv,_,rfl,h2,rfl⟩:=hr;have:c=#[str wd,str nm,kv,slv]:=by apply Array.ext';simpa using e1
  subst this;exact ⟨b,kv,slv,rfl,hb,hc,h1,h2⟩
 cases t with
 | nm x =>
   obtain ⟨b,kv,slv,h1,h2,h3,h4,h5⟩:=key _ _ _ _ _ h;exact ⟨b,kv,slv,h1,h2,h3,fun _=>zH.1 h4,fun k e=>by simp [yS] at e,h5⟩
 | wd x =>
   obtain ⟨b,kv,slv,h1,h2,h3,h4,h5⟩:=key _ _ _ _ _ h;exact ⟨b,kv,slv,h1,h2,h3,fun _=>zH.1 h4,fun k e=>by simp [yS] at e,h5⟩
 | lam x k t =>
   obtain ⟨b,kv,slv,h1,h2,h3,h4,h5⟩:=key _ _ _ _ _ h;exact ⟨b,kv,slv,h1,h2,h3,fun e=>by simp [yS] at e,fun k e=>by simp [yS] at e;subst e;exact h4,h5⟩
 | app m n =>
   obtain ⟨b,kv,slv,h1,h2,h3,h4,h5⟩:=key _ _ _ _ _ h;exact ⟨b,kv,slv,h1,h2,h3,fun _=>zH.1 h4,fun k e=>by simp [yS] at e,h5⟩
 | ite l m n =>
   obtain ⟨b,kv,slv,h1,h2,h3,h4,h5⟩:=key _ _ _ _ _ h;exact ⟨b,kv,slv,h1,h2,h3,fun _=>zH.1 h4,fun k e=>by simp [yS] at e,h5⟩
def TmAtoms (F:Nat->Prop) (w:World) (t:Tm):Prop:=∀ v,Rep F w (jO t) v ->
 Calls No 46 #[v] w fun en w'=>en=.returned (.int .i64 (zS t))/\w'=w
theorem tmAtoms_step (F:Nat->Prop) (w:World) (t:Tm) (hl:Lim (zS t)) (ih:∀ t',zS t'<zS t->TmAtoms F w t'):TmAtoms F w t:=by
 intro v hv;obtain ⟨b,kv,slv,rfl,hb,hc,Ag,BG,hs⟩:=js hv;have c1:w.cell? ⟨b,2,none⟩=some kv:=by simp [Li,hc]
 have c2:w.cell? ⟨b,3,none⟩=some slv:=by simp [Li,hc]
 obtain ⟨a,cap,rfl,hn,hlen,rX⟩:=zP hs;have e1:=sizeTm_mk t;have IH:=n7 ih;clear ih hc hv hs;have E1:=n7 e1;clear e1;have i5:=hl.le;have hp3:=tmParts_len t;have HL:=n7 hlen;clear hlen;have AT:=n7 rX;clear rX;have base:Calls No 46 #[.pointer (some ⟨b,0,none⟩)] w fun en w'=>en=.returned (.int .i64 (1+kindN (yS t)+yM (kZ t):Nat))/\w'=w:=by
  have DJ:1+kindN (yS t)+yM (kZ t)<=16777216:=by have:=E1.out;omega
  cases hk:yS t with
  | none =>
    obtain rfl:=Ag hk;rw [hk] at DJ;clear hk Ag BG;simp only [kindN] at DJ ⊢;go_enter Ub,TD;go_wp2_with fail
    go_loop [3,24] (fun n i=>∃ k:Nat,k<=(kZ t).length/\i=.int .i64 k/\n=.int .i64 ((1+yM ((kZ t).take k):Nat):Int)) (fun _ i=>(kZ t).length-(intOf i).toNat)
    case atStart=>exact ⟨0,OS _,rfl,by simp [yM]⟩
    case round =>
     obtain ⟨k,hk,rfl,rfl⟩:=hrel;by_cases rH:k<(kZ t).length
     ·obtain ⟨b',o,u,d,rfl,_,rS,hd,hu,hr⟩:=AT.out k rH;rw [Pt,OA] at hd;obtain ⟨t',aN,rfl⟩:=hd;have hs:=mB aN;have sw:=cV (kZ t) (k+1);have iO:=E1.out;have si:=sumTm_mem (OI aN);have IH':=n7 (IH.out t' (by omega));have HS:=n7 hs;have b1:1+yM ((kZ t).take k)+zS t'<=16777216:=by omega
      clear hs aN iO sw si;obtain ⟨bu,eu⟩:=qF hr;subst eu;go_wp2_with fail
      refine (IH'.out _ hr).mono ?_;rintro en w' ⟨rfl,ew⟩;subst ew;go_wp2_with fail
      go_round
      case rel=>exact ⟨k+1,by omega,by go_num,by rw [HS.out];go_num⟩
      case measure=>simp [intOf];omega
     ·go_wp2_with fail
      go_ret;have:k=(kZ t).length:=by omega
      subst this;exact ⟨xj (by rw [OT]),rfl⟩
  | some kk =>
    have AH:=BG kk hk;rw [hk] at DJ;clear hk Ag BG;simp only [kindN] at DJ ⊢;obtain ⟨kb,ek⟩:∃ ba,kv=.pointer (some ⟨ba,0,none⟩):=by obtain ⟨ba,_,h,_⟩:=zc AH;exact ⟨ba,h⟩
    subst ek;have CK:=n7 (uN F w (zJ kk) kk (n9 _) (show _<=_ by omega) _ AH);clear AH;go_enter Ub,TD;go_wp2_with fail
    refine CK.out.mono ?_;rintro en w' ⟨rfl,ew⟩;subst w';go_wp2_with fail
    go_loop [3,24] (fun n i=>∃ k:Nat,k<=(kZ t).length/\i=.int .i64 k/\n=.int .i64 ((1+(1+zJ kk)+yM ((kZ t).take k):Nat):Int)) (fun _ i=>(kZ t).length-(intOf i).toNat)
    case atStart=>exact ⟨0,OS _,rfl,by simp [yM]⟩
    case round =>
     obtain ⟨k,hk,rfl,rfl⟩:=hrel;by_cases rH:k<(kZ t).length
     ·obtain ⟨b',o,u,d,rfl,_,rS,hd,hu,hr⟩:=AT.out k rH;rw [Pt,OA] at hd;obtain ⟨t',aN,rfl⟩:=hd;have hs:=mB aN;have sw:=cV (kZ t) (k+1);have iO:=E1.out;have si:=sumTm_mem (OI aN);have IH':=n7 (IH.out t' (by omega));have HS:=n7 hs;have b1:1+(1+zJ kk)+yM ((kZ t).take k)+zS t'<=16777216:=by omega
      clear hs aN iO sw si;obtain ⟨bu,eu⟩:=qF hr;subst eu;go_wp2_with fail
      refine (IH'.out _ hr).mono ?_;rintro en w' ⟨rfl,ew⟩;subst ew;go_wp2_with fail
      go_round
      case rel=>exact ⟨k+1,by omega,by go_num,by rw [HS.out];go_num⟩
      case measure=>simp [intOf];omega
     ·go_wp2_with fail
      go_ret;have:k=(kZ t).length:=by omega
      subst this;exact ⟨xj (by rw [OT]),rfl⟩
 rw [E1.out];exact base
theorem tmAtoms_any (F:Nat->Prop) (w:World) (n:Nat):∀ t,zS t<=n->Lim n->TmAtoms F w t:=by
 induction n with
 | zero=>intro t h _;have:=sizeTm_mk t;omega
 | succ n ih=>exact fun t h hn=>tmAtoms_step F w t (hn.mono h) (fun t' h'=>ih t' (by omega) (hn.mono (by omega)))
theorem textT_atoms (k:Ty):zJ k<=(zL k).length:=by
 have h1:=gD (zJ k) k [] (by omega);have h2:=eE _ h1;simpa using h2
theorem ur:∀ t:Tm,xG t->zS t<=(zO t).length
 | .nm x,h=>by
   rw [show zO (.nm x)=x from by unfold zO;rw [kK,zx],zS];exact P4.2 (xB h).1
 | .wd x,h=>by
   rw [show zO (.wd x)=x from by unfold zO;rw [kK,zx],zS];exact P4.2 (wl h).1
 | .lam x k t,h=>by
   have h1:=ur t h.2;have h2:=textT_atoms k;rw [yT,zS];simp;omega
 | .app m n,h=>by
   have h1:=ur m h.1;have h2:=ur n h.2;rw [yL,zS];simp;omega
 | .ite l m n,h=>by
   have h0:=ur l h.1;have h1:=ur m h.2.1;have h2:=ur n h.2.2;rw [yA,zS];simp;omega
def RTPost (w:World) (o:Option Tm) (en:Ending) (w':World):Prop :=
 ∃ v,en=.returned v/\Below w.heap.size w w'/\(o=none->v=.pointer none)/\(∀ t,o=some t->Rep (w.heap.size<=·) w' (jO t) v)
theorem pH (l:Bs) (w:World) (hl:Lim l.length) :
 Calls No 17 #[str l] w (RTPost w (qC l)):=by
 have i5:=hl.le;go_enter Tryz.func17,Tryz.ntmps17;go_wp2_with fail
 have ik:qA w.heap.size [] 90 l (w.alloc (.cells #[str l] 90)):=zG _ _;refine (term_any _ _ _ 60 (by omega) l _ ik hl).mono ?_;rintro en w1 ⟨v,r1,rfl,rW,tJ,sU,sY⟩;have hb:Below w.heap.size w w1:=((rZ w.heap.size w).alloc (n9 _) _).trans (rW.toBelow (by simp) (fun i hi e=>by omega));rcases ha:jY 60 l with _ | ⟨t,r1'⟩
 ·obtain rfl:=sU ha;have Ha:=n7 ha;clear ha sU sY;go_wp2_with fail
  go_ret;exact ⟨_,rfl,hb,fun _=>rfl,fun t h=>by simp [qC,Ha.out] at h⟩
 obtain ⟨rfl,oF⟩:=sY _ _ ha;obtain ⟨ba,rfl⟩:=qF oF;obtain ⟨etx,rj,_⟩:=cN _ _ _ _ ha;have hsz:=ur t rj;have hlen:=congrArg PY etx;rw [Ov] at hlen;have hst:zS t<=l.length:=by omega
 have Ha:=n7 ha;clear ha sU sY etx rj hsz hlen;have aH:=tJ.cell;have hz:w.heap.size<w1.heap.size:=yX tJ;cases r1 with
 | cons x xs =>
   have hne:(!(x::xs).isEmpty)=true:=rfl;go_wp2_with fail
   go_ret;exact ⟨_,rfl,hb,fun _=>rfl,fun t h=>by simp [qC,Ha.out] at h⟩
 | nil =>
   go_wp2_with fail
   refine (tmAtoms_any _ w1 (zS t) t (n9 _) (hl.mono hst) _ oF).mono ?_;rintro en w2 ⟨rfl,e2⟩;subst e2;by_cases i7:zS t<=60
   ·go_wp2_with fail
    go_ret;have HM:qC l=some t:=by simp [qC,Ha.out,i7]
    exact ⟨_,rfl,hb,fun h=>by simp [HM] at h,fun t' h=>by rw [HM] at h;simp at h;subst h;exact (Rep.keep fun b o h ho=>⟨by have:=h;simp at this;omega,ho⟩).1 _ _ oF⟩
   ·go_wp2_with fail
    go_ret;have HM:qC l=none:=by simp [qC,Ha.out,i7]
    exact ⟨_,rfl,hb,fun _=>rfl,fun t' h=>by rw [HM] at h;simp at h⟩
theorem termOf_len {t:Ty} {b:Bd} (h:fB t b):(zO (vm t b)).length<=400000:=by
 have ha:=qw h.atoms;have hc:=jH h.atoms;have hs:=h.size;have h1:=wZ b ([]++t.args) (by rw [OW];exact h.fit) (fun x hx=>by rw [OW] at hx;exact ha x hx) (by simp;omega);have h2:=yd t.args 0 ha (by omega);unfold vm tmL;rw [Pd,wo,Ov,Ov,uW];omega
theorem gu (s text:Bs) (w:World) (hg:yF w) (hs:Lim s.length) (hl:Lim text.length) :
 Calls No 8 #[str s,str text] w fun en w'=>en=.returned (.tuple #[str ((vZ s text).getD []),.bool (vZ s text).isSome])/\Below w.heap.size w w':=by
 have C0:=n7 (dJ s text w hg hs hl);go_enter Tryz.func8,Tryz.ntmps8;go_wp2_with fail
 (with_reducible refine C0.out.mono ?_)
 rintro en w1 ⟨kv,bv,rfl,rW,sU,sY⟩;cases hq:kE s text with
 | none =>
   have hr:fa s text=none:=by rw [rdTS_eq,hq];rfl
   obtain rfl:=sU hr;have HM:=n7 (show vZ s text=none by unfold vZ;rw [hq];rfl);have HB:=n7 rW;clear sU sY hq hr rW;go_wp2_with fail
   go_ret2
   exact ⟨by rw [HM.out];rfl,HB.out⟩
 | some b =>
   have hr:fa s text=some ((zR s).1,b):=by rw [rdTS_eq,hq];rfl
   obtain ⟨rk,rb⟩:=sY _ _ hr;obtain ⟨iG,_⟩:=gY hq;obtain ⟨bb,rfl⟩:=zd rb;have hlen:=termOf_len iG;have HM:=n7 (show vZ s text=if (qC (zO (vm (zR s).1 b))).isSome then some (zO (vm (zR s).1 b)) else none by unfold vZ;rw [hq];rfl)
   have CT:Hid (Calls No 21 #[kv,.pointer (some ⟨bb,0,none⟩),.slice none 0 0] w1 fun en w'=>en=.returned (str (zO (vm (zR s).1 b)))/\Below w1.heap.size w1 w') :=
    kindTm_any (zU b) (w.heap.size<=·) (zR s).1 b [] kv _ _ w1 (n9 _) (hg.below rW) rk rb (zh.2 ⟨rfl,none,0,rfl,n9 _,fun _=>rfl,.inl rfl⟩) iG.fit iG.wf (fun x hx=>by simp at hx) iG.atoms (by have:=iG.size;simp;omega)
   obtain ⟨X,hX⟩:=zzN (zO (vm (zR s).1 b));rw [hX] at HM CT hlen;have CR:=n7 (fun wz=>pH X wz (show _<=_ by omega));have HB:=n7 rW;clear sU sY hq hr rW rk rb iG hX hlen;go_wp2_with fail
   (with_reducible refine CT.out.mono ?_);rintro en w2 ⟨rfl,rY⟩
   have rh:=n7 (zzT HB.out rY);clear rY;go_wp2_with fail
   (with_reducible refine (CR.out _).mono ?_);rintro en w3 ⟨v,rfl,rE,Bg,An⟩
   have aZ:=n7 (zzT rh.out rE);clear rE;cases ht:qC X with
   | none =>
     obtain rfl:=Bg ht;have HT:=n7 ht;clear Bg An ht;go_wp2_with fail
     go_ret2
     exact ⟨by rw [HM.out,HT.out];rfl,aZ.out⟩
   | some t =>
     obtain ⟨tb,rfl⟩:=qF (An t ht);have HT:=n7 ht;clear Bg An ht;go_wp2_with fail
     go_ret2
     exact ⟨by rw [HM.out,HT.out];rfl,aZ.out⟩
end Go.Proofs.YtdhaafoiokkbnabGreatDoor

import Derived.Test.YtapjaflnmklmeaaGreatDoorApp
import Derived.RegionTactic
import Derived.Deep.RegionHeld3
/- Regions that draw their order: loads are taken first though the region's last operation stores into a cell that is loaded. No program is named. -/
namespace Go.Proofs.YtapjaflnmklmeaaGreatDoor
open Go.RowKit
section
variable {P:Program} {ops:Array Oper} {Q:Exit→Act→World→Prop} {md:Region.Mode} {S:World→Prop} {T:Nat→Bool}
def wpAnyS (P:Program) (md:Region.Mode) (ops:Array Oper) (Q:Exit→Act→World→Prop) (S:World→Prop) (T:Nat→Bool):Nat→Array Bool→Act→World→Prop
 | 0,listed,a,w=>Region.ready md ops listed=[]∧Q .normal a w
 | fuel+1,listed,a,w =>
   (Region.ready md ops listed=[]→Q .normal a w) ∧
   ∀ i∈Region.ready md ops listed,wpOp P ops Q i (fun a' w'=>(T i=false→S w')∧wpAnyS P md ops Q S T fuel (listed.setIfInBounds i true) a' w') a w
theorem wpAny_of_S:∀ (fuel:Nat) (listed:Array Bool) (a:Act) (w:World),wpAnyS P md ops Q S T fuel listed a w→wpAny P md ops Q fuel listed a w
 | 0,_,_,_,h=>h
 | fuel+1,_,_,_,h=>⟨h.1,fun i hi=>wpOp_mono (fun a' w' h'=>wpAny_of_S fuel _ a' w' h'.2) (h.2 i hi)⟩
theorem ready_keep {md:Region.Mode} {ops:Array Oper} {L:Array Bool} {i j:Nat} (h:j∈Region.ready md ops L) (hne:j≠i):j∈Region.ready md ops (L.setIfInBounds i true):=by
 unfold Region.ready at *
 rw [List.mem_filter] at *
 refine ⟨h.1,?_⟩
 have h2:=h.2
 rw [Bool.and_eq_true] at *
 refine ⟨?_,?_⟩
 ·have e:(L.setIfInBounds i true).getD j true=L.getD j true:=by
   simp only [Array.getD_eq_getD_getElem?]
   rw [Array.getElem?_setIfInBounds_ne (fun e=>hne e.symm)]
  rw [e];exact h2.1
 ·have h3:=h2.2
  cases ho:ops[j]? with
  | none=>rw [ho] at h3;simp at h3
  | some o =>
    rw [ho] at h3
    simp only [Option.map_some,Option.getD_some] at h3 ⊢
    rw [Array.all_eq_true'] at *
    intro e he
    have h4:=h3 e he
    rw [Bool.or_eq_true] at *
    rcases h4 with h4 | h4
    ·exact .inl h4
    ·refine .inr ?_
     by_cases hk:e.on=i
     ·rw [hk]
      simp only [Array.getD_eq_getD_getElem?] at h4 ⊢
      rw [hk] at h4
      rcases Nat.lt_or_ge i L.size with h' | h'
      ·simp [h']
      ·rw [Array.getElem?_eq_none h'] at h4;simp at h4
     ·simp only [Array.getD_eq_getD_getElem?] at h4 ⊢
      rw [Array.getElem?_setIfInBounds_ne (fun e=>hk e.symm)];exact h4
theorem ready_spec {md:Region.Mode} {ops:Array Oper} {L:Array Bool} {j:Nat} (h:j∈Region.ready md ops L) :
 L.getD j true=false∧∃ o,ops[j]? = some o∧∀ e∈o.after,Region.binds md e=true→L.getD e.on false=true:=by
 unfold Region.ready at h
 rw [List.mem_filter] at h
 have h2:=h.2
 rw [Bool.and_eq_true] at h2
 refine ⟨by simpa using h2.1,?_⟩
 cases ho:ops[j]? with
 | none=>have:=h2.2;rw [ho] at this;simp at this
 | some o =>
   refine ⟨o,rfl,fun e he hb=>?_⟩
   have h3:=h2.2
   rw [ho] at h3
   simp only [Option.map_some,Option.getD_some] at h3
   rw [Array.all_eq_true'] at h3
   have h4:=h3 e he
   rw [Bool.or_eq_true] at h4
   rcases h4 with h4 | h4
   ·rw [hb] at h4;simp at h4
   ·exact h4
theorem wpAnyS_first {i:Nat} {oi:Oper} {v:Value} (hi:ops[i]? = some oi) (hsel:∀ (j:Nat) (o:Oper) cs b,ops[j]? = some o→o.op≠.select cs b)
 (hQ:∀ c a w,Q (.panic c) (a.put oi.dst v) w→Q (.panic c) a w)
 (hT:∀ j oj,ops[j]? = some oj→T j=true→∃ e∈oj.after,Region.binds md e=true∧e.on=i) (hTi:T i=false) :
 ∀ (fuel:Nat) (listed:Array Bool) (a:Act) (w:World),
   (∀ j oj,ops[j]? = some oj→j≠i→listed.getD j true=false→(∀ e∈oj.after,Region.binds md e=true→e.on≠i)→oi.apart ops oj=true) →
   i∈Region.ready md ops listed→YieldsIf P ops S oi v a→S w →
   wpAnyS P md ops Q S T fuel (listed.setIfInBounds i true) (a.put oi.dst v) w→wpAnyS P md ops Q S T (fuel+1) listed a w:=by
 intro fuel
 induction fuel with
 | zero =>
   intro listed a w _ hr hy hS H
   refine ⟨fun h=>(by rw [h] at hr;cases hr),fun j hj=>?_⟩
   by_cases hji:j=i
   ·subst hji;exact hy.wpOp hi hS ⟨fun _=>hS,H⟩
   ·have:=ready_keep hj hji
    rw [H.1] at this
    cases this
 | succ fuel ih =>
   intro listed a w hfree hr hy hS H
   refine ⟨fun h=>(by rw [h] at hr;cases hr),fun j hj=>?_⟩
   by_cases hji:j=i
   ·subst hji;exact hy.wpOp hi hS ⟨fun _=>hS,H⟩
   ·have h1:=H.2 j (ready_keep hj hji)
    obtain ⟨hjun,oj,hoj,hall⟩:=ready_spec hj
    have hnot:∀ e∈oj.after,Region.binds md e=true→e.on≠i:=fun e he hb heq=>by
     have h1:=hall e he hb
     have h0:=(ready_spec hr).1
     rw [heq] at h1
     simp only [Array.getD_eq_getD_getElem?] at h0 h1
     rcases Nat.lt_or_ge i listed.size with h' | h'
     ·simp [h'] at h0 h1;rw [h0] at h1;cases h1
     ·simp [Array.getElem?_eq_none h'] at h1
    have hTj:T j=false:=by
     cases hT':T j with
     | false=>rfl
     | true =>
       obtain ⟨e,he,hb,heq⟩:=hT j oj hoj hT'
       exact absurd heq (hnot e he hb)
    have h2:=wpOp_putIf hoj (hfree j oj hoj hji hjun hnot) (fun cs b=>hsel i oi cs b hi) (fun cs b=>hsel j oj cs b hoj) hQ hy h1
    have hfree':∀ k ok,ops[k]? = some ok→k≠i→(listed.setIfInBounds j true).getD k true=false →
     (∀ e∈ok.after,Region.binds md e=true→e.on≠i)→oi.apart ops ok=true:=fun k ok hk hki hun hno=>by
     refine hfree k ok hk hki ?_ hno
     by_cases hjk:j=k
     ·subst hjk;exact hjun
     ·simp only [Array.getD_eq_getD_getElem?] at hun ⊢
      rw [Array.getElem?_setIfInBounds_ne hjk] at hun;exact hun
    refine wpOp_mono (fun a' w' h3=>⟨h3.2.1,ih (listed.setIfInBounds j true) a' w' hfree' (ready_keep hr (Ne.symm hji)) h3.1 (h3.2.1 hTj) ?_⟩) h2
    rw [Array.setIfInBounds_comm _ _ hji]
    exact h3.2.2
def waitT (md:Region.Mode) (ops:Array Oper) (T:Nat→Bool) (i:Nat):Bool :=
 !T i && (List.range ops.size).all fun j=>!T j || ((ops[j]?).map fun o=>o.after.any fun e=>Region.binds md e && e.on == i).getD true
theorem waitT_spec {i:Nat} (h:waitT md ops T i=true):T i=false∧∀ j oj,ops[j]? = some oj→T j=true→∃ e∈oj.after,Region.binds md e=true∧e.on=i:=by
 unfold waitT at h
 rw [Bool.and_eq_true] at h
 refine ⟨by simpa using h.1,fun j oj hj hT=>?_⟩
 have h2:=h.2
 rw [List.all_eq_true] at h2
 have h3:=h2 j (List.mem_range.2 (Array.getElem?_eq_some_iff.1 hj).1)
 rw [hT,hj] at h3
 simp only [Bool.not_true,Bool.false_or,Option.map_some,Option.getD_some] at h3
 rw [Array.any_eq_true'] at h3
 obtain ⟨e,he,h4⟩:=h3
 rw [Bool.and_eq_true,beq_iff_eq] at h4
 exact ⟨e,he,h4⟩
theorem wpAnyS_take (i:Nat) {v:Value} {fuel:Nat} {listed:Array Bool} {a:Act} {w:World}
 (hs:Region.noSelect ops=true) (hf:Region.free md ops listed i=true) (hr:(Region.ready md ops listed).contains i=true) (ht:waitT md ops T i=true)
 (hQ:∀ d c a w,Q (.panic c) (a.put d v) w→Q (.panic c) a w) (hS:S w)
 (hy:∀ oi,ops[i]? = some oi→YieldsIf P ops S oi v a)
 (h:∀ d,(ops[i]?).bind (·.dst)=d→wpAnyS P md ops Q S T fuel (listed.setIfInBounds i true) (a.put d v) w):wpAnyS P md ops Q S T (fuel+1) listed a w:=by
 have hm:i∈Region.ready md ops listed:=by simpa using hr
 obtain ⟨_,oi,hi,_⟩:=ready_spec hm
 obtain ⟨h1,h2⟩:=waitT_spec ht
 exact wpAnyS_first hi (Region.noSelect_spec hs) (fun c a w=>hQ _ c a w) h2 h1 fuel listed a w (Region.free_spec hi hf) hm (hy oi hi) hS (h _ (by rw [hi];rfl))
def tks (P:Program) (ops:Array Oper) (S:World→Prop):List Nat→List (Option Tmp)→Act→(Act→Prop)→Prop
 | i::l,d::ds,a,K=>∃ v,(∀ oi,ops[i]? = some oi→YieldsIf P ops S oi v a)∧tks P ops S l ds (a.put d v) K
 | [],_,a,K=>K a
 | _::_,[],_,_=>False
def tkOk (md:Region.Mode) (ops:Array Oper) (T:Nat→Bool):List Nat→Array Bool→Bool
 | [],_=>true
 | i::l,L=>Region.free md ops L i && ((Region.ready md ops L).contains i && (waitT md ops T i && tkOk md ops T l (L.setIfInBounds i true)))
def tkL:List Nat→Array Bool→Array Bool
 | [],L=>L
 | i::l,L=>tkL l (L.setIfInBounds i true)
def tkN:List Nat→Nat→Nat
 | [],n=>n
 | _::l,n=>tkN l n+1
def tkD (ops:Array Oper):List Nat→List (Option Tmp)
 | []=>[]
 | i::l=>(ops[i]?).bind (·.dst)::tkD ops l
theorem tk (is:List Nat) {fuel:Nat} {listed:Array Bool} {a:Act} {w:World} (hS:S w) (h:∀ ds,tkD ops is=ds→tks P ops S is ds a (fun a'=>wpAnyS P md ops Q S T fuel (tkL is listed) a' w))
 (hok:(Region.noSelect ops && tkOk md ops T is listed)=true:=by kernel_rfl) (hQ:∀ v d c a w,Q (.panic c) (a.put d v) w→Q (.panic c) a w:=by exact fun _ _ _ _ _ h=>h):wpAnyS P md ops Q S T (tkN is fuel) listed a w:=by
 have h':=h _ rfl
 clear h
 rw [Bool.and_eq_true] at hok
 obtain ⟨hs,hok⟩:=hok
 induction is generalizing listed a with
 | nil=>exact h'
 | cons i l ih =>
   rw [tkOk,Bool.and_eq_true,Bool.and_eq_true,Bool.and_eq_true] at hok
   rw [tkD,tks] at h'
   obtain ⟨v,hy,hk⟩:=h'
   exact wpAnyS_take i hs hok.1 hok.2.1 hok.2.2.1 (fun d c a w=>hQ v d c a w) hS hy (fun d hd=>by
    rw [hd] at hk
    exact ih hk hok.2.2.2)
theorem pQ (l:List Value) (df:List Deferred) (k:Nat) (v:Value):Act.put ⟨l.toArray,df⟩ (some k) v=⟨(l.set k v).toArray,df⟩:=by simp [Act.put]
theorem pN (a:Act) (v:Value):Act.put a none v=a:=rfl
theorem pZ (x y:Value) (l:List Value):(x::l).set 0 y=y::l:=rfl
theorem pS (x y:Value) (l:List Value) (n:Nat):(x::l).set (n+1) y=x::l.set n y:=rfl
theorem wpAnyS_one (i:Nat) {fuel:Nat} {listed:Array Bool} {a:Act} {w:World} (hr:Region.ready md ops listed=[i])
 (h:∀ o,ops[i]? = some o→∀ K':Act→World→Prop,Shut (∀ a w,(T i=false→S w)→wpAnyS P md ops Q S T fuel (listed.setIfInBounds i true) a w→K' a w) →
  if Region.wanted o (yielded ops a.tmps)=true then Oper.wp P o a w K' Q else K' (a.put o.dst undef) w):wpAnyS P md ops Q S T (fuel+1) listed a w:=by
 refine ⟨fun h0=>by rw [hr] at h0;simp at h0,fun j hj=>?_⟩
 rw [hr] at hj
 simp only [List.mem_singleton] at hj
 subst hj
 obtain ⟨_,o,ho,_⟩:=ready_spec (md:=md) (ops:=ops) (L:=listed) (j:=j) (by rw [hr];simp)
 exact wpOp_step ho (fun K' hK=>h o ho K' (fun a w hS hW=>hK a w ⟨hS,hW⟩))
theorem on (i:Nat) {fuel:Nat} {listed:Array Bool} {a:Act} {w:World}
 (h:∀ o,ops[i]? = some o→∀ K':Act→World→Prop,Shut (∀ a w,(T i=false→S w)→wpAnyS P md ops Q S T fuel (listed.setIfInBounds i true) a w→K' a w) →
  if Region.wanted o (yielded ops a.tmps)=true then Oper.wp P o a w K' Q else K' (a.put o.dst undef) w) (hr:Region.ready md ops listed=[i]:=by kernel_rfl):wpAnyS P md ops Q S T (fuel+1) listed a w :=
 wpAnyS_one i hr h
theorem wpAnyS_two (i j:Nat) {fuel:Nat} {listed:Array Bool} {a:Act} {w:World} (hr:Region.ready md ops listed=[i,j])
 (h:∀ o,ops[i]? = some o→∀ K':Act→World→Prop,Shut (∀ a w,(T i=false→S w)→wpAnyS P md ops Q S T fuel (listed.setIfInBounds i true) a w→K' a w) →
  if Region.wanted o (yielded ops a.tmps)=true then Oper.wp P o a w K' Q else K' (a.put o.dst undef) w)
 (h2:∀ o,ops[j]? = some o→∀ K':Act→World→Prop,Shut (∀ a w,(T j=false→S w)→wpAnyS P md ops Q S T fuel (listed.setIfInBounds j true) a w→K' a w) →
  if Region.wanted o (yielded ops a.tmps)=true then Oper.wp P o a w K' Q else K' (a.put o.dst undef) w):wpAnyS P md ops Q S T (fuel+1) listed a w:=by
 refine ⟨fun h0=>by rw [hr] at h0;simp at h0,fun k hk=>?_⟩
 obtain ⟨_,o,ho,_⟩:=ready_spec hk
 rw [hr] at hk
 simp only [List.mem_cons,List.not_mem_nil,or_false] at hk
 rcases hk with rfl | rfl
 ·exact wpOp_step ho (fun K' hK=>h o ho K' (fun a w hS hW=>hK a w ⟨hS,hW⟩))
 ·exact wpOp_step ho (fun K' hK=>h2 o ho K' (fun a w hS hW=>hK a w ⟨hS,hW⟩))
theorem wpAnyS_done {listed:Array Bool} {a:Act} {w:World} (hr:Region.ready md ops listed=[]) (h:Q .normal a w) :
 ∀ fuel,wpAnyS P md ops Q S T fuel listed a w
 | 0=>⟨hr,h⟩
 | _+1=>⟨fun _=>h,by rw [hr];simp⟩
theorem wp_region_S {id:Nat} {a:Act} {w:World} (S:World→Prop) (T:Nat→Bool) (hm:P.follows .mixedOrders=true)
 (h:wpAnyS P .any ops Q S T ops.size (Array.replicate ops.size false) a w.drew):(Code.region id ops true).wp P Q a w :=
 wp_region_any hm (wpAny_of_S _ _ _ _ h)
end
theorem out_cell {m:Nat→Prop} {w6 w7:World} {o:Obj} {ob f:Nat} {u:Value} (hb:But m (w6.alloc o) w7) (hm:¬ m ob) (h:w6.cell? ⟨ob,f,none⟩=some u):w7.cell? ⟨ob,f,none⟩=some u:=by
 have hlt:=World.block_lt_of_cell? w6 ⟨ob,f,none⟩ h
 rw [hb.cell (p:=⟨ob,f,none⟩) (by rw [size_alloc];exact Nat.lt_succ_of_lt hlt) hm]
 exact cell_alloc h
theorem out_free {m:Nat→Prop} {w6 w7:World} {o:Obj} {ob f:Nat} (hb:But m (w6.alloc o) w7) (hm:¬ m ob) (hlt:ob<w6.heap.size) (h:w6.frozen? ⟨ob,f,none⟩=false):w7.frozen? ⟨ob,f,none⟩=false:=by
 rw [World.frozen?_of_block (w:=w6) (by rw [hb.block _ (by rw [size_alloc];omega) hm,Below.heap_alloc _ _ _ hlt])]
 exact h
theorem but_cell {rd:Nat} {w w':World} (hb:But (· = rd) w w') {b o:Nat} {u:Value} (hne:b≠rd) (h:w.cell? ⟨b,o,none⟩=some u):w'.cell? ⟨b,o,none⟩=some u :=
 (hb.cell (p:=⟨b,o,none⟩) (World.block_lt_of_cell? w ⟨b,o,none⟩ h) hne).trans h
theorem but_free {rd:Nat} {w w':World} (hb:But (· = rd) w w') {b o:Nat} (hne:b≠rd) (hlt:b<w.heap.size) (h:w.frozen? ⟨b,o,none⟩=false):w'.frozen? ⟨b,o,none⟩=false:=by
 rw [World.frozen?_of_block (w:=w) (hb.block b hlt hne)];exact h
theorem SrcSl.thru {w w':World} {size g n c m:Nat} {news:List Value} {q:Nat→Prop} (h:SrcSl size (.slice (some ⟨g,0,none⟩) n c) m news w) (hb:But q w w') (hq:¬ q g):SrcSl size (.slice (some ⟨g,0,none⟩) n c) m news w':=by
 obtain ⟨h1,h2,⟨a,c',e,h3⟩ | ⟨e,_⟩⟩:=h
 ·simp only [Value.slice.injEq,Option.some.injEq] at e
  obtain ⟨rfl,rfl,rfl⟩:=e
  refine ⟨h1,h2,.inl ⟨_,_,rfl,fun j u hu=>?_⟩⟩
  have h4:=h3 j u hu
  have hblk:(Addr.add ⟨g,0,none⟩ j).block=g:=by unfold Addr.add;split <;> rfl
  exact (hb.cell (World.block_lt_of_cell? w _ h4) (by rw [hblk];exact hq)).trans h4
 ·simp at e
theorem size_alloc2 (w:World) (o o':Obj):((w.alloc o).alloc o').heap.size=w.heap.size+1+1:=by rw [size_alloc,size_alloc]
end Go.Proofs.YtapjaflnmklmeaaGreatDoor
namespace Go.Proofs.YtapjaflnmklmeaaGreatDoor
open Go.RowKit
def FullSl (size:Nat) (v:Value) (n:Nat) (xs:List Value) (w:World):Prop :=
 xs.length=n*size∧((∃ b,v=.slice (some b) n n∧∀ (j:Nat) u,xs[j]? = some u→w.cell? (b.add j)=some u)∨(v=.slice none 0 0∧n=0))
theorem run_append_full {P:Program} {w:World} (t ty e:TypeId) (i:TypeInfo) (z:Value) (size bytes:Nat) (ht:P.underlying t=some (.slice e)) (hi:P.info? e=some i) (hz:i.zero=some z)
 (hsize:i.size=size) (hby:i.bytes=bytes) (hzs:z.cells.size=size)
 (v:Value) (n:Nat) (xs:List Value) (hown:FullSl size v n xs w)
 (x:Value) (m:Nat) (news:List Value) (hs:SrcSl size x m news w) (hm:0<m) (h63:n+m≤maxLen) (hbytes:(n+m)*bytes≤140737488355328) :
 ∃ c' w',(Builtin.append_ #[t,t] ty #[v,x]).run P w=.ok (.slice (some ⟨w.heap.size,0,none⟩) (n+m) c') w'∧Own w' e size (.slice (some ⟨w.heap.size,0,none⟩) (n+m) c') (n+m) (xs++news)∧Below w.heap.size w w':=by
 obtain ⟨hl,h1,⟨a,c,rfl,hnews⟩ | ⟨rfl,rfl⟩⟩:=hs
 ·subst hsize
  subst hby
  have hsmall:n+m≤9223372036854775807:=by simp only [maxLen] at h63;omega
  have hlen:(xs++news).length=(n+m)*i.size:=by rw [List.length_append,hown.1,hl,Nat.add_mul]
  have grown:∀ (old:Nat),
   Own (w.drew.alloc (.cells (xs.toArray++news.toArray++Builtin.zeroCells z.cells (grownCap w (n+m) old e-(n+m))) e)) e i.size
    (.slice (some ⟨w.heap.size,0,none⟩) (n+m) (grownCap w (n+m) old e)) (n+m) (xs++news) ∧
   Below w.heap.size w (w.drew.alloc (.cells (xs.toArray++news.toArray++Builtin.zeroCells z.cells (grownCap w (n+m) old e-(n+m))) e)):=by
   intro old
   have hge:=grownCap_ge w (n+m) old e
   have hcm:grownCap w (n+m) old e≤maxLen:=grownCap_le_maxLen w (n+m) old e h63
   refine ⟨⟨hlen,.inr ⟨w.heap.size,_,_,rfl,Nat.zero_le _,Go.heap_alloc_new w.drew _,hge,hcm,?_,?_⟩⟩,((Below.refl _ w).drew).alloc (Nat.le_refl _) _⟩
   ·simp only [Array.size_append,List.size_toArray,size_zeroCells,hzs,hown.1,hl,← Nat.add_mul]
    congr 1
    omega
   ·simp only [Array.toList_append,List.append_assoc]
    rw [← List.append_assoc,← hlen]
    exact List.take_left
  rcases hown.2 with ⟨b,rfl,holds⟩ | ⟨rfl,rfl⟩
  ·have hr:=run_append_grow (P:=P) w t ty e i z ht hi hz b n n xs hown.1 holds a m c news hl hnews (by omega) (by omega) (growslice_fits (by omega) hbytes)
   exact ⟨_,_,hr,grown n⟩
  ·have hx:xs=[]:=List.eq_nil_of_length_eq_zero (by simpa using hown.1)
   subst hx
   have hr:=run_append_nil (P:=P) w t ty e i z ht hi hz a m c news hl hnews (by omega) (by omega) (by have hb:=hbytes;simp only [Nat.zero_add] at hb;omega)
   have hgr:=grown 0
   simp only [Nat.zero_add,List.nil_append,Array.empty_append] at hgr ⊢
   exact ⟨_,_,hr,hgr⟩
 ·omega
theorem step_append_full {P:Program} {w:World} {ops:Array Oper} {o:Oper} {a:Act} {K:Act→World→Prop} {Q:Exit→Act→World→Prop} {E:Prop} (hgd:o.guard=none) (s x:Operand) (t:TypeId)
 (ho:o.op=.call { callee:=.builtin .append,args:=#[s,x],argTypes:=#[t,t] })
 (e:TypeId) (z:Value) (size bytes:Nat) (ht:P.underlying t=some (.slice e)) (hi:(P.info? e).map (fun i=>(i.zero,i.size,i.bytes))=some (some z,size,bytes))
 (hzs:z.cells.size=size)
 (v:Value) (n:Nat) (xs:List Value) (hs:a.eval s=v) (hown:FullSl size v n xs w)
 (y:Value) (m:Nat) (news:List Value) (hx:a.eval x=y) (hsrc:SrcSl size y m news w) (hm:0<m)
 (h63:n+m≤maxLen) (hbytes:(n+m)*bytes≤140737488355328)
 (h:∀ c' w',Own w' e size (.slice (some ⟨w.heap.size,0,none⟩) (n+m) c') (n+m) (xs++news)→Below w.heap.size w w' →
  K (a.put o.dst (.slice (some ⟨w.heap.size,0,none⟩) (n+m) c')) w'):if Region.wanted o (yielded ops a.tmps)=true then Oper.wp P o a w K Q else E:=by
 rw [if_pos (by simp [Region.wanted,hgd])]
 obtain ⟨i,hi,hz,hsize,hby⟩:=info_parts hi
 obtain ⟨c',w',hr,h2,h3⟩:=run_append_full (P:=P) (w:=w) t o.type e i z size bytes ht hi hz hsize hby hzs v n xs hown y m news hsrc hm h63 hbytes
 unfold Oper.wp execOp
 simp only [ho,resolve,invoke,builtin,Sem.run_bind,Sem.run_pure,Result.andThen_ok,List.map_toArray,List.map_cons,List.map_nil,hs,hx,hr]
 exact h c' w' h2 h3
theorem FullSl.ofRep {F:Nat→Prop} {w:World} {e:TypeId} {sz n:Nat} {cs:List DV} {a:Option Addr} {c:Nat} (h:Rep F w (.sl e sz n cs) (.slice a n c)) (hone:∀ us,Reps F w cs us→∀ u∈us,u.oneCell'=true) :
 ∃ xs,Reps F w cs xs∧FullSl sz (.slice a n n) n xs w:=by
 obtain ⟨xs,h1,h2,_,h4⟩:=SrcSl.ofRep h hone
 refine ⟨xs,h1,h2,?_⟩
 rcases h4 with ⟨b,c',e1,h5⟩ | ⟨e1,rfl⟩
 ·injection e1 with e2 e3 e4
  subst e2
  exact .inl ⟨b,rfl,h5⟩
 ·injection e1 with e2 e3 e4
  subst e2
  exact .inr ⟨rfl,rfl⟩
theorem FullSl.drew {w:World} {size n:Nat} {v:Value} {xs:List Value} (h:FullSl size v n xs w):FullSl size v n xs w.drew:=h
end Go.Proofs.YtapjaflnmklmeaaGreatDoor
namespace Go.Proofs.YtapjaflnmklmeaaGreatDoor
open Go.RowKit
theorem cut_code {P:Program} {c:Code} {Q:Exit→Act→World→Prop} {a:Act} {w:World} {X:Type} (f:Act→X→Act) (F:X→World→Prop)
 (h1:c.wp P (fun e a' w'=>e=.normal∧∃ x,a'=f a x∧F x w') a w) (h2:∀ x w',F x w'→Q .normal (f a x) w'):c.wp P Q a w :=
 Code.wp_mono (fun e a' w' ⟨he,x,hx,hF⟩=>by subst he;subst hx;exact h2 x w' hF) h1
theorem setCell_at' {w:World} {b o:Nat} {c:Array Value} {e:TypeId} {u:Value} (h:w.heap[b]? = some (.cells c e (0,0))):(w.setCell ⟨b,o,none⟩ u).heap[b]? = some (.cells (c.setIfInBounds o u) e (0,0)):=by
 have hlt:=lt_of_heap h
 have h':w.heap[b]=.cells c e (0,0):=by simpa [Array.getElem?_eq_getElem hlt] using h
 show (w.heap.modify b _)[b]? = _
 rw [Array.getElem?_eq_getElem (by simpa using hlt),Array.getElem_modify_self,h']
 simp
structure BoxRes (F0:Nat→Prop) (W:World) (g:Nat) (o:Obj) (d:List DV) (v:List Value) (Z:World):Prop where
 below:Below W.heap.size W Z
 new:W.heap.size≤g
 blk:Z.heap[g]? = some o
 rep:Reps (fun i=>(F0 i∨W.heap.size≤i)∧i≠g) Z d v
theorem BoxRes.first {F0:Nat→Prop} {W V0 V1 Z:World} {o:Obj} {d:List DV} {v:List Value} (hF0:∀ i,F0 i→i<W.heap.size) (h0:Below W.heap.size W V0) (hz0:V0.heap.size=W.heap.size+1) (hb:Below V0.heap.size V0 V1) (hr:Reps (fun i=>F0 i∨V0.heap.size≤i) V1 d v)
 (hbt:But (fun i=>i=W.heap.size) V1 Z) (hblk:Z.heap[W.heap.size]? = some o):BoxRes F0 W W.heap.size o d v Z:=by
 have hz:=hb.size
 have hb1:Below W.heap.size W V1:=h0.trans (hb.mono (by omega))
 refine ⟨hb1.trans (hbt.toBelow (by omega) fun i hi e=>by omega),Nat.le_refl _,hblk,?_⟩
 refine (Rep.keep fun i x hi hx=>?_).2 _ _ hr
 have hne:i≠W.heap.size:=by rcases hi with h | h;have:=hF0 i h;omega;omega
 exact ⟨⟨hi.elim .inl (fun h=>.inr (by omega)),hne⟩,by rw [hbt.block i (lt_of_heap hx) hne];exact hx⟩
theorem BoxRes.last {F0:Nat→Prop} {W V1 Z:World} {z o:Obj} {d:List DV} {v:List Value} (hb:Below W.heap.size W V1) (hr:Reps (fun i=>F0 i∨W.heap.size≤i) V1 d v)
 (hbt:But (fun i=>i=V1.heap.size) (V1.alloc z) Z) (hblk:Z.heap[V1.heap.size]? = some o):BoxRes F0 W V1.heap.size o d v Z:=by
 have hz:=hb.size
 refine ⟨(hb.alloc hz z).trans (hbt.toBelow (by rw [size_alloc];omega) fun i hi e=>by omega),hz,hblk,?_⟩
 refine (Rep.keep fun i x hi hx=>?_).2 _ _ hr
 have hl:=lt_of_heap hx
 have hne:i≠V1.heap.size:=by omega
 exact ⟨⟨hi,hne⟩,by rw [hbt.block i (by rw [size_alloc];omega) hne,Below.heap_alloc _ _ _ hl];exact hx⟩
theorem BoxRes.fresh {F0:Nat→Prop} {W V1:World} {cs:Array Value} {T:TypeId} {d:List DV} {v:List Value} (hb:Below W.heap.size W V1) (hr:Reps (fun i=>F0 i∨W.heap.size≤i) V1 d v):BoxRes F0 W V1.heap.size (.cells cs T (0,0)) d v (V1.alloc (.cells cs T)):=by
 refine ⟨hb.alloc hb.size _,hb.size,heap_new _ _,?_⟩
 refine (Rep.keep fun i x hi hx=>?_).2 _ _ hr
 have hl:=lt_of_heap hx
 exact ⟨⟨hi,by omega⟩,heap_past hx⟩
theorem BoxRes.cell0 {F0:Nat→Prop} {W:World} {g:Nat} {u:Value} {T:TypeId} {d:List DV} {v:List Value} {Z:World} (h:BoxRes F0 W g (.cells #[u] T (0,0)) d v Z):Z.cell? ⟨g,0,none⟩=some u:=by
 simp only [World.cell?,h.blk];rfl
theorem but1 (w:World) (g:Nat) (u:Value):But (fun i=>i=g) w (w.setCell ⟨g,0,none⟩ u):=(But.refl (fun i=>i=g) w).setCell (p:=⟨g,0,none⟩) (.inl rfl) u
theorem box1_store {w:World} {g:Nat} {u:Value} {T:TypeId} (h:w.heap[g]? = some (.cells #[u] T (0,0))) (v:Value) :
 ∃ W,W=w.setCell ⟨g,0,none⟩ v∧W.cell? ⟨g,0,none⟩=some v∧(∀ B w0,Below B w0 w→B≤g→Below B w0 W)∧(∀ i x,i≠g→w.heap[i]? = some x→W.heap[i]? = some x):=by
 have hc:(w.setCell ⟨g,0,none⟩ v).heap[g]? = some (.cells #[v] T (0,0)):=by rw [setCell_at' h];rfl
 refine ⟨_,rfl,by simp only [World.cell?,hc];rfl,fun B w0 hb hB=>hb.setCell (p:=⟨g,0,none⟩) hB _,fun i x hi hx=>?_⟩
 rw [Below.heap_setCell _ _ _ _ (by simpa using hi)];exact hx
theorem but4 (w:World) (g:Nat) (u0 u1 u2 u3:Value):But (fun i=>i=g) w ((((w.setCell ⟨g,0,none⟩ u0).setCell ⟨g,1,none⟩ u1).setCell ⟨g,2,none⟩ u2).setCell ⟨g,3,none⟩ u3) :=
 ((((But.refl (fun i=>i=g) w).setCell (p:=⟨g,0,none⟩) (.inl rfl) _).setCell (p:=⟨g,1,none⟩) (.inl rfl) _).setCell (p:=⟨g,2,none⟩) (.inl rfl) _).setCell (p:=⟨g,3,none⟩) (.inl rfl) _
end Go.Proofs.YtapjaflnmklmeaaGreatDoor

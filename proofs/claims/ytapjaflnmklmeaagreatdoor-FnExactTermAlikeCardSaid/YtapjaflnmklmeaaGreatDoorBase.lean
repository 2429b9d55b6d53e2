/- General words for all walks of this work: deep values laid in memory, and how they are kept. No program is named. -/
import Derived.WalkKit
import Derived.Lib.Strings
import Derived.Lib.Hide
import Derived.WalkSpells
import Derived.WalkLawsBesides
namespace Go.Proofs.YtapjaflnmklmeaaGreatDoor
open Go.RowKit
inductive DV where
 | val (v:Value)
 | ptr (e:TypeId) (cs:List DV)
 | sl (e:TypeId) (sz n:Nat) (cs:List DV)
 | agg (cs:List DV)
 | any
mutual
def Rep (F:Nat→Prop) (w:World):DV→Value→Prop
 | .val u,v=>v=u
 | .ptr e cs,v=>∃ b c,v=.pointer (some ⟨b,0,none⟩)∧F b∧w.heap[b]? = some (.cells c e (0,0))∧Reps F w cs c.toList
 | .sl e sz n cs,v=>cs.length=n*sz∧∃ a cap,v=.slice a n cap∧n≤cap∧(a=none→cap=0) ∧
  (n=0∨∃ b o c fr,a=some ⟨b,o,none⟩∧F b∧w.heap[b]? = some (.cells c e fr)∧Reps F w cs ((c.toList.drop o).take (n*sz)))
 | .agg cs,v=>∃ vs,v=.agg vs∧Reps F w cs vs.toList
 | .any,v=>∃ i:Int,v=.int .i64 i
def Reps (F:Nat→Prop) (w:World):List DV→List Value→Prop
 | [],vs=>vs=[]
 | d::ds,vs=>∃ v vs',vs=v::vs'∧Rep F w d v∧Reps F w ds vs'
end
theorem Rep_val {F:Nat→Prop} {w:World} {u v:Value}:Rep F w (.val u) v↔v=u:=by simp [Rep]
theorem Rep_ptr {F:Nat→Prop} {w:World} {e:TypeId} {cs:List DV} {v:Value}:Rep F w (.ptr e cs) v↔∃ b c,v=.pointer (some ⟨b,0,none⟩)∧F b∧w.heap[b]? = some (.cells c e (0,0))∧Reps F w cs c.toList:=by
 rw [Rep]
theorem Rep_sl {F:Nat→Prop} {w:World} {e:TypeId} {sz n:Nat} {cs:List DV} {v:Value}:Rep F w (.sl e sz n cs) v↔cs.length=n*sz∧∃ a cap,v=.slice a n cap∧n≤cap∧(a=none→cap=0) ∧
 (n=0∨∃ b o c fr,a=some ⟨b,o,none⟩∧F b∧w.heap[b]? = some (.cells c e fr)∧Reps F w cs ((c.toList.drop o).take (n*sz))):=by
 rw [Rep]
theorem Rep_agg {F:Nat→Prop} {w:World} {cs:List DV} {v:Value}:Rep F w (.agg cs) v↔∃ vs,v=.agg vs∧Reps F w cs vs.toList:=by
 rw [Rep]
theorem Rep_any {F:Nat→Prop} {w:World} {v:Value}:Rep F w .any v↔∃ i:Int,v=.int .i64 i:=by rw [Rep]
theorem Reps_nil {F:Nat→Prop} {w:World} {vs:List Value}:Reps F w [] vs↔vs=[]:=by simp [Reps]
theorem Reps_cons {F:Nat→Prop} {w:World} {d:DV} {ds:List DV} {vs:List Value}:Reps F w (d::ds) vs↔∃ v vs',vs=v::vs'∧Rep F w d v∧Reps F w ds vs':=by
 rw [Reps]
theorem Reps.length {F:Nat→Prop} {w:World} {ds:List DV}:∀ {vs:List Value},Reps F w ds vs→ds.length=vs.length:=by
 induction ds with
 | nil=>intro vs h;rw [Reps_nil] at h;simp [h]
 | cons d ds ih=>intro vs h;rw [Reps_cons] at h;obtain ⟨v,vs',rfl,_,h2⟩:=h;simp [ih h2]
theorem Reps.at {F:Nat→Prop} {w:World} {ds:List DV}:∀ {vs:List Value},Reps F w ds vs→∀ {i:Nat} {d:DV},ds[i]? = some d→∃ v,vs[i]? = some v∧Rep F w d v:=by
 induction ds with
 | nil=>intro vs h i d hd;simp at hd
 | cons d ds ih =>
   intro vs h i d' hd
   rw [Reps_cons] at h;obtain ⟨v,vs',rfl,h1,h2⟩:=h
   cases i with
   | zero=>simp at hd;subst hd;exact ⟨v,by simp,h1⟩
   | succ i=>simp at hd;simpa using ih h2 hd
theorem Reps.append {F:Nat→Prop} {w:World} {ds es:List DV}:∀ {vs us:List Value},Reps F w ds vs→Reps F w es us→Reps F w (ds++es) (vs++us):=by
 induction ds with
 | nil=>intro vs us h k;rw [Reps_nil] at h;subst h;simpa using k
 | cons d ds ih =>
   intro vs us h k
   rw [Reps_cons] at h;obtain ⟨v,vs',rfl,h1,h2⟩:=h
   simp only [List.cons_append];rw [Reps_cons];exact ⟨v,vs'++us,rfl,h1,ih h2 k⟩
theorem Reps.split {F:Nat→Prop} {w:World} {ds es:List DV}:∀ {vs:List Value},Reps F w (ds++es) vs→Reps F w ds (vs.take ds.length)∧Reps F w es (vs.drop ds.length):=by
 induction ds with
 | nil=>intro vs h;simpa [Reps_nil] using h
 | cons d ds ih =>
   intro vs h
   simp only [List.cons_append] at h
   rw [Reps_cons] at h;obtain ⟨v,vs',rfl,h1,h2⟩:=h
   have:=ih h2
   simp only [List.length_cons,List.take_succ_cons,List.drop_succ_cons]
   exact ⟨Reps_cons.2 ⟨v,_,rfl,h1,this.1⟩,this.2⟩
theorem Reps.one {F:Nat→Prop} {w:World} {d:DV} {v:Value} (h:Rep F w d v):Reps F w [d] [v] :=
 Reps_cons.2 ⟨v,[],rfl,h,Reps_nil.2 rfl⟩
theorem Rep.keep {F F':Nat→Prop} {w w':World} (hk:∀ b o,F b→w.heap[b]? = some o→F' b∧w'.heap[b]? = some o) :
 (∀ d v,Rep F w d v→Rep F' w' d v)∧(∀ ds vs,Reps F w ds vs→Reps F' w' ds vs):=by
 have key:∀ d:DV,(∀ v,Rep F w d v→Rep F' w' d v):=by
  intro d
  refine DV.rec (motive_1:=fun d=>∀ v,Rep F w d v→Rep F' w' d v) (motive_2:=fun ds=>∀ vs,Reps F w ds vs→Reps F' w' ds vs) ?_ ?_ ?_ ?_ ?_ ?_ ?_ d
  ·intro u v h;rw [Rep_val] at *;exact h
  ·intro e cs ih v h
   rw [Rep_ptr] at *
   obtain ⟨b,c,hv,hb,hc,hr⟩:=h
   obtain ⟨k1,k2⟩:=hk b _ hb hc
   exact ⟨b,c,hv,k1,k2,ih _ hr⟩
  ·intro e sz n cs ih v h
   rw [Rep_sl] at *
   obtain ⟨hl,a,cap,hv,hn,hz,h⟩:=h
   refine ⟨hl,a,cap,hv,hn,hz,?_⟩
   rcases h with h | ⟨b,o,c,fr,ha,hb,hc,hr⟩
   ·exact .inl h
   ·obtain ⟨k1,k2⟩:=hk b _ hb hc
    exact .inr ⟨b,o,c,fr,ha,k1,k2,ih _ hr⟩
  ·intro cs ih v h
   rw [Rep_agg] at *
   obtain ⟨vs,hv,hr⟩:=h
   exact ⟨vs,hv,ih _ hr⟩
  ·intro v h;rw [Rep_any] at *;exact h
  ·intro vs h;rw [Reps_nil] at *;exact h
  ·intro d ds ihd ihs vs h
   rw [Reps_cons] at *
   obtain ⟨v,vs',hv,h1,h2⟩:=h
   exact ⟨v,vs',hv,ihd _ h1,ihs _ h2⟩
 refine ⟨key,?_⟩
 intro ds
 induction ds with
 | nil=>intro vs h;rw [Reps_nil] at *;exact h
 | cons d ds ih =>
   intro vs h
   rw [Reps_cons] at *
   obtain ⟨v,vs',hv,h1,h2⟩:=h
   exact ⟨v,vs',hv,key _ _ h1,ih _ h2⟩
theorem lt_of_heap {w:World} {b:Nat} {o:Obj} (h:w.heap[b]? = some o):b<w.heap.size:=by
 rcases Nat.lt_or_ge b w.heap.size with h' | h'
 ·exact h'
 ·simp [Array.getElem?_eq_none h'] at h
structure But (m:Nat→Prop) (w w':World):Prop where
 os:w'.os=w.os
 tape:w'.tape=w.tape
 output:w'.output=w.output
 size:w.heap.size≤w'.heap.size
 block:∀ k,k<w.heap.size→¬ m k→w'.heap[k]? = w.heap[k]?
theorem But.refl (m:Nat→Prop) (w:World):But m w w:=⟨rfl,rfl,rfl,Nat.le_refl _,fun _ _ _=>rfl⟩
theorem But.trans {m:Nat→Prop} {a b c:World} (h:But m a b) (k:But m b c):But m a c :=
 ⟨k.os.trans h.os,k.tape.trans h.tape,k.output.trans h.output,Nat.le_trans h.size k.size,fun i hi hn=>(k.block i (Nat.lt_of_lt_of_le hi h.size) hn).trans (h.block i hi hn)⟩
theorem But.trans' {m m':Nat→Prop} {a b c:World} (h:But m a b) (k:But m' b c) (hm:∀ i,i<a.heap.size→m' i→m i):But m a c :=
 ⟨k.os.trans h.os,k.tape.trans h.tape,k.output.trans h.output,Nat.le_trans h.size k.size,fun i hi hn=>(k.block i (Nat.lt_of_lt_of_le hi h.size) (fun e=>hn (hm i hi e))).trans (h.block i hi hn)⟩
theorem But.weak {m m':Nat→Prop} {a b:World} (h:But m a b) (k:∀ i,i<a.heap.size→m i→m' i):But m' a b :=
 ⟨h.os,h.tape,h.output,h.size,fun i hi hn=>h.block i hi (fun hm=>hn (k i hi hm))⟩
theorem But.ofBelow {m:Nat→Prop} {a b:World} (h:Below a.heap.size a b):But m a b:=⟨h.os,h.tape,h.output,h.size,fun i hi _=>h.block i hi⟩
theorem But.toBelow {m:Nat→Prop} {B:Nat} {a b:World} (h:But m a b) (hB:B≤a.heap.size) (hm:∀ i,i<B→¬ m i):Below B a b :=
 ⟨h.os,h.tape,h.output,h.size,fun i hi=>h.block i (by omega) (hm i hi)⟩
theorem But.drew {m:Nat→Prop} {a b:World} (h:But m a b):But m a b.drew:=⟨h.os,h.tape,h.output,h.size,h.block⟩
theorem But.alloc {m:Nat→Prop} {a b:World} (h:But m a b) (o:Obj):But m a (b.alloc o) :=
 h.trans ⟨rfl,rfl,rfl,by simp,fun k hk _=>Below.heap_alloc _ _ _ (by omega)⟩
theorem But.setCell {m:Nat→Prop} {a b:World} (h:But m a b) {p:Addr} (hp:m p.block∨a.heap.size≤p.block) (u:Value):But m a (b.setCell p u) :=
 ⟨h.os,h.tape,h.output,by have:=h.size;simpa [World.setCell] using this,fun k hk hn=>by
  rw [Below.heap_setCell _ _ _ _ (by rcases hp with hp | hp;· (intro e;subst e;exact hn hp)
                                     ·omega)]
  exact h.block k hk hn⟩
theorem But.setS {sc:Nat} {a b:World} (h:But (fun x=>x=sc) a b) (o:Nat) (u:Value):But (fun x=>x=sc) a (b.setCell ⟨sc,o,none⟩ u) :=
 h.setCell (p:=⟨sc,o,none⟩) (.inl rfl) u
theorem But.cell {m:Nat→Prop} {w w':World} (h:But m w w') {p:Addr} (hp:p.block<w.heap.size) (hm:¬ m p.block):w'.cell? p=w.cell? p:=World.cell?_of_block (w:=w) (h.block p.block hp hm)
theorem Rep.but {F F':Nat→Prop} {m:Nat→Prop} {w w':World} (hb:But m w w') (hF:∀ b,F b→¬ m b∧F' b) {d:DV} {v:Value} (h:Rep F w d v):Rep F' w' d v :=
 (Rep.keep fun b o hf ho=>⟨(hF b hf).2,by rw [hb.block b (lt_of_heap ho) (hF b hf).1];exact ho⟩).1 d v h
theorem Reps.but {F F':Nat→Prop} {m:Nat→Prop} {w w':World} (hb:But m w w') (hF:∀ b,F b→¬ m b∧F' b) {d:List DV} {v:List Value} (h:Reps F w d v):Reps F' w' d v :=
 (Rep.keep fun b o hf ho=>⟨(hF b hf).2,by rw [hb.block b (lt_of_heap ho) (hF b hf).1];exact ho⟩).2 d v h
theorem Rep.below {F F':Nat→Prop} {w w':World} (hb:Below w.heap.size w w') (hF:∀ b,F b→F' b) {d:DV} {v:Value} (h:Rep F w d v):Rep F' w' d v :=
 (Rep.keep fun b o hf ho=>⟨hF b hf,by rw [hb.block b (lt_of_heap ho)];exact ho⟩).1 d v h
theorem Reps.below {F F':Nat→Prop} {w w':World} (hb:Below w.heap.size w w') (hF:∀ b,F b→F' b) {d:List DV} {v:List Value} (h:Reps F w d v):Reps F' w' d v :=
 (Rep.keep fun b o hf ho=>⟨hF b hf,by rw [hb.block b (lt_of_heap ho)];exact ho⟩).2 d v h
theorem Rep.drew {F:Nat→Prop} {w:World} {d:DV} {v:Value} (h:Rep F w d v):Rep F w.drew d v:=(Rep.keep (w:=w) (w':=w.drew) fun _ _ hf ho=>⟨hf,ho⟩).1 _ _ h
theorem Reps.drew {F:Nat→Prop} {w:World} {d:List DV} {v:List Value} (h:Reps F w d v):Reps F w.drew d v:=(Rep.keep (w:=w) (w':=w.drew) fun _ _ hf ho=>⟨hf,ho⟩).2 _ _ h
def At1 (F:Nat→Prop) (w:World) (cs:List DV) (a:Option Addr) (k:Nat):Prop :=
 ∃ b o u d,a=some ⟨b,o,none⟩∧F b∧b<w.heap.size∧cs[k]? = some d∧w.cell? ⟨b,o+k,none⟩=some u∧Rep F w d u
def Ats (F:Nat→Prop) (w:World) (n:Nat) (cs:List DV) (a:Option Addr):Prop:=∀ k,k<n→At1 F w cs a k
theorem Rep_sl1_open {F:Nat→Prop} {w:World} {e:TypeId} {n:Nat} {cs:List DV} {v:Value} (h:Rep F w (.sl e 1 n cs) v) :
 ∃ a cap,v=.slice a n cap∧n≤cap∧cs.length=n∧Ats F w n cs a:=by
 rw [Rep_sl] at h
 obtain ⟨hl,a,cap,hv,hn,hz,h⟩:=h
 rw [Nat.mul_one] at hl
 refine ⟨a,cap,hv,hn,hl,fun k hk=>?_⟩
 rcases h with h | ⟨b,o,c,fr,ha,hb,hc,hr⟩
 ·omega
 ·obtain ⟨d,hd⟩:∃ d,cs[k]? = some d:=⟨cs[k],by simp [hl,hk]⟩
  obtain ⟨u,hu,hru⟩:=hr.at hd
  rw [Nat.mul_one,List.getElem?_take,if_pos hk,List.getElem?_drop] at hu
  exact ⟨b,o,u,d,ha,hb,lt_of_heap hc,hd,by simp [World.cell?,hc];simpa using hu,hru⟩
theorem ret_i64 {a b:Int} (h:a=b):Ending.returned (.int .i64 a)=.returned (.int .i64 b):=by rw [h]
theorem ext_str (l:List UInt8) (a b:Nat):(⟨l.toArray⟩:ByteArray).extract a b=⟨((l.take b).drop a).toArray⟩:=by
 have h:=Lib.extract_data (⟨l.toArray⟩:ByteArray) a b
 have h2:((⟨l.toArray⟩:ByteArray).extract a b).data=((l.take b).drop a).toArray:=by
  apply Array.ext';rw [h];simp [List.drop_take]
 cases hx:(⟨l.toArray⟩:ByteArray).extract a b with
 | mk d=>rw [hx] at h2;simp at h2;rw [h2]
theorem size_str (l:List UInt8):(⟨l.toArray⟩:ByteArray).size=l.length:=by show l.toArray.size=_;simp
theorem lt_str {l:List UInt8} {i:Nat} (h:i<l.length):i<(⟨l.toArray⟩:ByteArray).size:=by rw [size_str];exact h
theorem byte_yes {l:List UInt8} {i:Nat} (h:i<l.length) {c:UInt8} {n:Int} (hn:(c.toNat:Int)=n) (hc:l[i]=c):((((⟨l.toArray⟩:ByteArray)[i]'(lt_str h)).toNat:Int) == n)=true:=by
 rw [beq_iff_eq,← hn,← hc];rfl
theorem byte_no {l:List UInt8} {i:Nat} (h:i<l.length) {c:UInt8} {n:Int} (hn:(c.toNat:Int)=n) (hc:¬ l[i]=c):((((⟨l.toArray⟩:ByteArray)[i]'(lt_str h)).toNat:Int) == n)=false:=by
 rw [beq_eq_false_iff_ne,← hn]
 intro e
 apply hc
 have:(((⟨l.toArray⟩:ByteArray)[i]'(lt_str h)).toNat)=c.toNat:=by exact_mod_cast e
 exact UInt8.toNat_inj.1 this
theorem byte_yes2 {l:List UInt8} {i:Nat} (h:i<l.length) {c:UInt8} {n:Int} (hn:(c.toNat:Int)=n) (hc:l[i]=c):((((⟨l.toArray⟩:ByteArray)[i]'(lt_str h)).toNat:Int) != n)=false:=by
 rw [bne,byte_yes h hn hc];rfl
theorem byte_no2 {l:List UInt8} {i:Nat} (h:i<l.length) {c:UInt8} {n:Int} (hn:(c.toNat:Int)=n) (hc:¬ l[i]=c):((((⟨l.toArray⟩:ByteArray)[i]'(lt_str h)).toNat:Int) != n)=true:=by
 rw [bne,byte_no h hn hc];rfl
theorem byte_int {l:List UInt8} {i:Nat} (h:i<l.length):((((⟨l.toArray⟩:ByteArray)[i]'(lt_str h)).toNat:Int))=(l[i].toNat:Int):=rfl
theorem ext_list (l:List UInt8) (a b:Nat):((⟨l.toArray⟩:ByteArray).extract a b).toList=(l.take b).drop a:=by
 rw [ext_str,Lib.toList_data]
theorem cell_put {w:World} {a:Addr} {v:Value} (h:w.cell? a=some v) (u:Value):(w.setCell a u).cell? a=some u:=by
 obtain ⟨b,o,sp⟩:=a
 unfold World.cell? at *
 split at h
 ·rename_i c e fr hh
  have hlt:=lt_of_heap hh
  have h':w.heap[b]=.cells c e fr:=by simpa [Array.getElem?_eq_getElem hlt] using hh
  have:(w.setCell ⟨b,o,sp⟩ u).heap[b]? = some (.cells (if sp.isSome then c else c.setIfInBounds o u) e fr):=by
   show (w.heap.modify b _)[b]? = _
   rw [Array.getElem?_eq_getElem (by simpa using hlt),Array.getElem_modify_self,h']
  simp only [this]
  cases sp with
  | none =>
    simp at h ⊢
    have hl:=(Array.getElem?_eq_some_iff.1 h).1
    simp [hl]
  | some x=>simp at h
 ·simp at h
def Lim (n:Nat):Prop:=n≤16777216
theorem Lim.le {n:Nat} (h:Lim n):n≤16777216:=h
theorem Lim.mono {n m:Nat} (h:Lim n) (k:m≤n):Lim m:=Nat.le_trans k h
end Go.Proofs.YtapjaflnmklmeaaGreatDoor

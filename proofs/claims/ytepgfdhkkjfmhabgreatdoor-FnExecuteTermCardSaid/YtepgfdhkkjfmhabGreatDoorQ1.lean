/- Walks of functions that the statement reaches, and plain words. No conditions. -/
import Derived.WalkKit
import Derived.Lib.Strings
import Derived.Lib.Hide
import Derived.WalkSpells
import Derived.WalkLawsBesides
import Derived.Test.YtepgfdhkkjfmhabGreatDoorRows
import Derived.Test.YtepgfdhkkjfmhabGreatDoorShelf
import Derived.Lib.AtoiAll
import Derived.Lib.ItoaNum
import Derived.Laws.RangeAny
import Derived.Laws.Runes
import Derived.Lib.DecodeN
import Derived.Lib.QuoteLoop
import Derived.Deep.RegionHeld3
import Derived.WalkMore
import Derived.Deep.QuietTactic
import Derived.BigQuiet
import Derived.Lib.RuneCountTail
set_option linter.unusedVariables false
set_option linter.unusedSimpArgs false
set_option maxHeartbeats 2000000
namespace Go.Proofs.YtepgfdhkkjfmhabGreatDoor
open Go.RowKit
theorem zzT {w a b:World} (h:Below w.heap.size w a) (k:Below a.heap.size a b):Below w.heap.size w b:=h.trans (k.mono h.size)
theorem zzN {α:Sort _} (a:α):∃ x,a = x:=⟨a,rfl⟩
theorem zzM {α:Sort _} (a:α):∃ x,x = a:=⟨a,rfl⟩
theorem g_ {p:Prop} (h:p):Hid p:=Lib.hid h
theorem hU {a b:Prop} (x:a) (y:b):a/\b:=⟨x,y⟩
theorem hG (n:Nat):n<=n:=Nat.le_refl n
theorem h_ (w:World) (a:Addr) {u:Value} (h:w.cell? a=some u):a.block<w.heap.size:=World.block_lt_of_cell? w a h
theorem bZ (B:Nat) (w:World):Below B w w:=Below.refl B w
theorem bQ (w:World) (a:Addr) (u:Value) (k:Nat) (h:k≠a.block):(w.setCell a u).heap[k]? = w.heap[k]?:=Below.heap_setCell w a u k h
theorem bJ {n m k:Nat} (a:n<m) (b:m<=k):n<k:=Nat.lt_of_lt_of_le a b
theorem bV {n m k:Nat} (a:n<=m) (b:m<=k):n<=k:=Nat.le_trans a b
inductive DV where
 | val (v:Value)
 | ptr (e:TypeId) (cs:List DV)
 | sl (e:TypeId) (sz n:Nat) (cs:List DV)
 | agg (cs:List DV)
 | any
mutual
def Rep (F:Nat->Prop) (w:World):DV->Value->Prop
 | .val u,v=>v=u
 | .ptr e cs,v=>∃ b c,v=.pointer (some ⟨b,0,none⟩)/\F b/\w.heap[b]? = some (.cells c e (0,0))/\zC F w cs c.toList
 | .sl e sz n cs,v=>cs.length=n*sz/\∃ a cap,v=.slice a n cap/\n<=cap/\(a=none->cap=0) /\
  (n=0\/∃ b o c fr,a=some ⟨b,o,none⟩/\F b/\w.heap[b]? = some (.cells c e fr)/\zC F w cs ((c.toList.drop o).take (n*sz)))
 | .agg cs,v=>∃ vs,v=.agg vs/\zC F w cs vs.toList
 | .any,v=>∃ i:Int,v=.int .i64 i
def zC (F:Nat->Prop) (w:World):List DV->List Value->Prop
 | [],vs=>vs=[]
 | d::ds,vs=>∃ v vs',vs=v::vs'/\Rep F w d v/\zC F w ds vs'
end
theorem zj {F:Nat->Prop} {w:World} {u v:Value}:Rep F w (.val u) v↔v=u:=by simp [Rep]
theorem qm {F:Nat->Prop} {w:World} {e:TypeId} {cs:List DV} {v:Value}:Rep F w (.ptr e cs) v↔∃ b c,v=.pointer (some ⟨b,0,none⟩)/\F b/\w.heap[b]? = some (.cells c e (0,0))/\zC F w cs c.toList:=by
 rw [Rep]
theorem kD {F:Nat->Prop} {w:World} {e:TypeId} {sz n:Nat} {cs:List DV} {v:Value}:Rep F w (.sl e sz n cs) v↔cs.length=n*sz/\∃ a cap,v=.slice a n cap/\n<=cap/\(a=none->cap=0) /\
 (n=0\/∃ b o c fr,a=some ⟨b,o,none⟩/\F b/\w.heap[b]? = some (.cells c e fr)/\zC F w cs ((c.toList.drop o).take (n*sz))):=by
 rw [Rep]
theorem Rep_agg {F:Nat->Prop} {w:World} {cs:List DV} {v:Value}:Rep F w (.agg cs) v↔∃ vs,v=.agg vs/\zC F w cs vs.toList:=by
 rw [Rep]
theorem Rep_any {F:Nat->Prop} {w:World} {v:Value}:Rep F w .any v↔∃ i:Int,v=.int .i64 i:=by rw [Rep]
theorem zM {F:Nat->Prop} {w:World} {vs:List Value}:zC F w [] vs↔vs=[]:=by simp [zC]
theorem zJ {F:Nat->Prop} {w:World} {d:DV} {ds:List DV} {vs:List Value}:zC F w (d::ds) vs↔∃ v vs',vs=v::vs'/\Rep F w d v/\zC F w ds vs':=by
 rw [zC]
theorem zC.length {F:Nat->Prop} {w:World} {ds:List DV}:∀ {vs:List Value},zC F w ds vs->ds.length=vs.length:=by
 induction ds with
 | nil=>intro vs h;rw [zM] at h;simp [h]
 | cons d ds ih=>intro vs h;rw [zJ] at h;obtain ⟨v,vs',rfl,_,h2⟩:=h;simp [ih h2]
theorem zC.at {F:Nat->Prop} {w:World} {ds:List DV}:∀ {vs:List Value},zC F w ds vs->∀ {i:Nat} {d:DV},ds[i]? = some d->∃ v,vs[i]? = some v/\Rep F w d v:=by
 induction ds with
 | nil=>intro vs h i d hd;simp at hd
 | cons d ds ih =>
   intro vs h i d' hd
   rw [zJ] at h;obtain ⟨v,vs',rfl,h1,h2⟩:=h
   cases i with
   | zero=>simp at hd;subst hd;exact ⟨v,by simp,h1⟩
   | succ i=>simp at hd;simpa using ih h2 hd
theorem zC.append {F:Nat->Prop} {w:World} {ds es:List DV}:∀ {vs us:List Value},zC F w ds vs->zC F w es us->zC F w (ds++es) (vs++us):=by
 induction ds with
 | nil=>intro vs us h k;rw [zM] at h;subst h;simpa using k
 | cons d ds ih =>
   intro vs us h k
   rw [zJ] at h;obtain ⟨v,vs',rfl,h1,h2⟩:=h
   simp only [List.cons_append];rw [zJ];exact ⟨v,vs'++us,rfl,h1,ih h2 k⟩
theorem zC.split {F:Nat->Prop} {w:World} {ds es:List DV}:∀ {vs:List Value},zC F w (ds++es) vs->zC F w ds (vs.take ds.length)/\zC F w es (vs.drop ds.length):=by
 induction ds with
 | nil=>intro vs h;simpa [zM] using h
 | cons d ds ih =>
   intro vs h
   simp only [List.cons_append] at h
   rw [zJ] at h;obtain ⟨v,vs',rfl,h1,h2⟩:=h
   have:=ih h2
   simp only [List.length_cons,List.take_succ_cons,List.drop_succ_cons]
   exact ⟨zJ.2 ⟨v,_,rfl,h1,this.1⟩,this.2⟩
theorem zC.one {F:Nat->Prop} {w:World} {d:DV} {v:Value} (h:Rep F w d v):zC F w [d] [v] :=
 zJ.2 ⟨v,[],rfl,h,zM.2 rfl⟩
theorem Rep.keep {F F':Nat->Prop} {w w':World} (hk:∀ b o,F b->w.heap[b]? = some o->F' b/\w'.heap[b]? = some o) :
 (∀ d v,Rep F w d v->Rep F' w' d v)/\(∀ ds vs,zC F w ds vs->zC F' w' ds vs):=by
 have key:∀ d:DV,(∀ v,Rep F w d v->Rep F' w' d v):=by
  intro d
  refine DV.rec (motive_1:=fun d=>∀ v,Rep F w d v->Rep F' w' d v) (motive_2:=fun ds=>∀ vs,zC F w ds vs->zC F' w' ds vs) ?_ ?_ ?_ ?_ ?_ ?_ ?_ d
  ·intro u v h;rw [zj] at *;exact h
  ·intro e cs ih v h
   rw [qm] at *
   obtain ⟨b,c,hv,hb,hc,hr⟩:=h
   obtain ⟨k1,k2⟩:=hk b _ hb hc
   exact ⟨b,c,hv,k1,k2,ih _ hr⟩
  ·intro e sz n cs ih v h
   rw [kD] at *
   obtain ⟨hl,a,cap,hv,hn,hz,h⟩:=h
   refine ⟨hl,a,cap,hv,hn,hz,?_⟩
   rcases h with h | ⟨b,o,c,fr,ha,hb,hc,hr⟩
   ·exact .inl h
   ·obtain ⟨k1,k2⟩:=hk b _ hb hc
    exact .inr ⟨b,o,c,fr,ha,k1,k2,ih _ hr⟩
  ·intro cs ih v h
   rw [Rep_agg] at *
   obtain ⟨vs,hv,hr⟩:=h
   exact ⟨vs,hv,ih _ hr⟩
  ·intro v h;rw [Rep_any] at *;exact h
  ·intro vs h;rw [zM] at *;exact h
  ·intro d ds ihd ihs vs h
   rw [zJ] at *
   obtain ⟨v,vs',hv,h1,h2⟩:=h
   exact ⟨v,vs',hv,ihd _ h1,ihs _ h2⟩
 refine ⟨key,?_⟩
 intro ds
 induction ds with
 | nil=>intro vs h;rw [zM] at *;exact h
 | cons d ds ih =>
   intro vs h
   rw [zJ] at *
   obtain ⟨v,vs',hv,h1,h2⟩:=h
   exact ⟨v,vs',hv,key _ _ h1,ih _ h2⟩
theorem zZ {w:World} {b:Nat} {o:Obj} (h:w.heap[b]? = some o):b<w.heap.size:=by
 rcases Nat.lt_or_ge b w.heap.size with h' | h'
 ·exact h'
 ·simp [Array.getElem?_eq_none h'] at h
structure But (m:Nat->Prop) (w w':World):Prop where
 os:w'.os=w.os
 tape:w'.tape=w.tape
 output:w'.output=w.output
 size:w.heap.size<=w'.heap.size
 block:∀ k,k<w.heap.size->¬ m k->w'.heap[k]? = w.heap[k]?
theorem But.refl (m:Nat->Prop) (w:World):But m w w:=⟨rfl,rfl,rfl,hG _,fun _ _ _=>rfl⟩
theorem But.trans {m:Nat->Prop} {a b c:World} (h:But m a b) (k:But m b c):But m a c :=
 ⟨k.os.trans h.os,k.tape.trans h.tape,k.output.trans h.output,bV h.size k.size,fun i hi hn=>(k.block i (bJ hi h.size) hn).trans (h.block i hi hn)⟩
theorem But.trans' {m m':Nat->Prop} {a b c:World} (h:But m a b) (k:But m' b c) (hm:∀ i,i<a.heap.size->m' i->m i):But m a c :=
 ⟨k.os.trans h.os,k.tape.trans h.tape,k.output.trans h.output,bV h.size k.size,fun i hi hn=>(k.block i (bJ hi h.size) (fun e=>hn (hm i hi e))).trans (h.block i hi hn)⟩
theorem But.weak {m m':Nat->Prop} {a b:World} (h:But m a b) (k:∀ i,i<a.heap.size->m i->m' i):But m' a b :=
 ⟨h.os,h.tape,h.output,h.size,fun i hi hn=>h.block i hi (fun hm=>hn (k i hi hm))⟩
theorem But.ofBelow {m:Nat->Prop} {a b:World} (h:Below a.heap.size a b):But m a b:=⟨h.os,h.tape,h.output,h.size,fun i hi _=>h.block i hi⟩
theorem But.toBelow {m:Nat->Prop} {B:Nat} {a b:World} (h:But m a b) (hB:B<=a.heap.size) (hm:∀ i,i<B->¬ m i):Below B a b :=
 ⟨h.os,h.tape,h.output,h.size,fun i hi=>h.block i (by omega) (hm i hi)⟩
theorem But.drew {m:Nat->Prop} {a b:World} (h:But m a b):But m a b.drew:=⟨h.os,h.tape,h.output,h.size,h.block⟩
theorem But.alloc {m:Nat->Prop} {a b:World} (h:But m a b) (o:Obj):But m a (b.alloc o) :=
 h.trans ⟨rfl,rfl,rfl,by simp,fun k hk _=>Below.heap_alloc _ _ _ (by omega)⟩
theorem But.setCell {m:Nat->Prop} {a b:World} (h:But m a b) {p:Addr} (hp:m p.block\/a.heap.size<=p.block) (u:Value):But m a (b.setCell p u) :=
 ⟨h.os,h.tape,h.output,by have:=h.size;simpa [World.setCell] using this,fun k hk hn=>by
  rw [bQ _ _ _ _ (by rcases hp with hp | hp;· (intro e;subst e;exact hn hp)
                     ·omega)]
  exact h.block k hk hn⟩
theorem But.setS {sc:Nat} {a b:World} (h:But (fun x=>x=sc) a b) (o:Nat) (u:Value):But (fun x=>x=sc) a (b.setCell ⟨sc,o,none⟩ u) :=
 h.setCell (p:=⟨sc,o,none⟩) (.inl rfl) u
theorem But.cell {m:Nat->Prop} {w w':World} (h:But m w w') {p:Addr} (hp:p.block<w.heap.size) (hm:¬ m p.block):w'.cell? p=w.cell? p:=World.cell?_of_block (w:=w) (h.block p.block hp hm)
theorem Rep.but {F F':Nat->Prop} {m:Nat->Prop} {w w':World} (hb:But m w w') (hF:∀ b,F b->¬ m b/\F' b) {d:DV} {v:Value} (h:Rep F w d v):Rep F' w' d v :=
 (Rep.keep fun b o hf ho=>⟨(hF b hf).2,by rw [hb.block b (zZ ho) (hF b hf).1];exact ho⟩).1 d v h
theorem zC.but {F F':Nat->Prop} {m:Nat->Prop} {w w':World} (hb:But m w w') (hF:∀ b,F b->¬ m b/\F' b) {d:List DV} {v:List Value} (h:zC F w d v):zC F' w' d v :=
 (Rep.keep fun b o hf ho=>⟨(hF b hf).2,by rw [hb.block b (zZ ho) (hF b hf).1];exact ho⟩).2 d v h
theorem Rep.below {F F':Nat->Prop} {w w':World} (hb:Below w.heap.size w w') (hF:∀ b,F b->F' b) {d:DV} {v:Value} (h:Rep F w d v):Rep F' w' d v :=
 (Rep.keep fun b o hf ho=>⟨hF b hf,by rw [hb.block b (zZ ho)];exact ho⟩).1 d v h
theorem zC.below {F F':Nat->Prop} {w w':World} (hb:Below w.heap.size w w') (hF:∀ b,F b->F' b) {d:List DV} {v:List Value} (h:zC F w d v):zC F' w' d v :=
 (Rep.keep fun b o hf ho=>⟨hF b hf,by rw [hb.block b (zZ ho)];exact ho⟩).2 d v h
theorem Rep.drew {F:Nat->Prop} {w:World} {d:DV} {v:Value} (h:Rep F w d v):Rep F w.drew d v:=(Rep.keep (w:=w) (w':=w.drew) fun _ _ hf ho=>⟨hf,ho⟩).1 _ _ h
theorem zC.drew {F:Nat->Prop} {w:World} {d:List DV} {v:List Value} (h:zC F w d v):zC F w.drew d v:=(Rep.keep (w:=w) (w':=w.drew) fun _ _ hf ho=>⟨hf,ho⟩).2 _ _ h
def At1 (F:Nat->Prop) (w:World) (cs:List DV) (a:Option Addr) (k:Nat):Prop :=
 ∃ b o u d,a=some ⟨b,o,none⟩/\F b/\b<w.heap.size/\cs[k]? = some d/\w.cell? ⟨b,o+k,none⟩=some u/\Rep F w d u
def Ats (F:Nat->Prop) (w:World) (n:Nat) (cs:List DV) (a:Option Addr):Prop:=∀ k,k<n->At1 F w cs a k
theorem zF {F:Nat->Prop} {w:World} {e:TypeId} {n:Nat} {cs:List DV} {v:Value} (h:Rep F w (.sl e 1 n cs) v) :
 ∃ a cap,v=.slice a n cap/\n<=cap/\cs.length=n/\Ats F w n cs a:=by
 rw [kD] at h
 obtain ⟨hl,a,cap,hv,hn,hz,h⟩:=h
 rw [Nat.mul_one] at hl
 refine ⟨a,cap,hv,hn,hl,fun k hk=>?_⟩
 rcases h with h | ⟨b,o,c,fr,ha,hb,hc,hr⟩
 ·omega
 ·obtain ⟨d,hd⟩:∃ d,cs[k]? = some d:=⟨cs[k],by simp [hl,hk]⟩
  obtain ⟨u,hu,d6⟩:=hr.at hd
  rw [Nat.mul_one,List.getElem?_take,if_pos hk,List.getElem?_drop] at hu
  exact ⟨b,o,u,d,ha,hb,zZ hc,hd,by simp [World.cell?,hc];simpa using hu,d6⟩
theorem j8 {a b:Int} (h:a=b):Ending.returned (.int .i64 a)=.returned (.int .i64 b):=by rw [h]
theorem ret_bool {a b:Bool} (h:a=b):Ending.returned (.bool a)=.returned (.bool b):=by rw [h]
theorem yD (l:List UInt8) (a b:Nat):(⟨l.toArray⟩:ByteArray).extract a b=⟨((l.take b).drop a).toArray⟩:=by
 have h:=Lib.extract_data (⟨l.toArray⟩:ByteArray) a b
 have h2:((⟨l.toArray⟩:ByteArray).extract a b).data=((l.take b).drop a).toArray:=by
  apply Array.ext';rw [h];simp [List.drop_take]
 cases hx:(⟨l.toArray⟩:ByteArray).extract a b with
 | mk d=>rw [hx] at h2;simp at h2;rw [h2]
theorem jv (l:List UInt8):(⟨l.toArray⟩:ByteArray).size=l.length:=by show l.toArray.size=_;simp
theorem zy {l:List UInt8} {i:Nat} (h:i<l.length):i<(⟨l.toArray⟩:ByteArray).size:=by rw [jv];exact h
theorem vy {l:List UInt8} {i:Nat} (h:i<l.length) {c:UInt8} {n:Int} (hn:(c.toNat:Int)=n) (hc:l[i]=c):((((⟨l.toArray⟩:ByteArray)[i]'(zy h)).toNat:Int) == n)=true:=by
 rw [beq_iff_eq,<- hn,<- hc];rfl
theorem jU {l:List UInt8} {i:Nat} (h:i<l.length) {c:UInt8} {n:Int} (hn:(c.toNat:Int)=n) (hc:¬ l[i]=c):((((⟨l.toArray⟩:ByteArray)[i]'(zy h)).toNat:Int) == n)=false:=by
 rw [beq_eq_false_iff_ne,<- hn]
 intro e
 apply hc
 have:(((⟨l.toArray⟩:ByteArray)[i]'(zy h)).toNat)=c.toNat:=by exact_mod_cast e
 exact UInt8.toNat_inj.1 this
theorem qg {l:List UInt8} {i:Nat} (h:i<l.length) {c:UInt8} {n:Int} (hn:(c.toNat:Int)=n) (hc:l[i]=c):((((⟨l.toArray⟩:ByteArray)[i]'(zy h)).toNat:Int) != n)=false:=by
 rw [bne,vy h hn hc];rfl
theorem qv {l:List UInt8} {i:Nat} (h:i<l.length) {c:UInt8} {n:Int} (hn:(c.toNat:Int)=n) (hc:¬ l[i]=c):((((⟨l.toArray⟩:ByteArray)[i]'(zy h)).toNat:Int) != n)=true:=by
 rw [bne,jU h hn hc];rfl
theorem vX {l:List UInt8} {i:Nat} (h:i<l.length):((((⟨l.toArray⟩:ByteArray)[i]'(zy h)).toNat:Int))=(l[i].toNat:Int):=rfl
theorem ext_list (l:List UInt8) (a b:Nat):((⟨l.toArray⟩:ByteArray).extract a b).toList=(l.take b).drop a:=by
 rw [yD,Lib.toList_data]
theorem qj {w:World} {a:Addr} {v:Value} (h:w.cell? a=some v) (u:Value):(w.setCell a u).cell? a=some u:=by
 obtain ⟨b,o,sp⟩:=a
 unfold World.cell? at *
 split at h
 ·rename_i c e fr hh
  have bX:=zZ hh
  have h':w.heap[b]=.cells c e fr:=by simpa [Array.getElem?_eq_getElem bX] using hh
  have:(w.setCell ⟨b,o,sp⟩ u).heap[b]? = some (.cells (if sp.isSome then c else c.setIfInBounds o u) e fr):=by
   show (w.heap.modify b _)[b]? = _
   rw [Array.getElem?_eq_getElem (by simpa using bX),Array.getElem_modify_self,h']
  simp only [this]
  cases sp with
  | none =>
    simp at h ⊢
    have hl:=(Array.getElem?_eq_some_iff.1 h).1
    simp [hl]
  | some x=>simp at h
 ·simp at h
def Lim (n:Nat):Prop:=n<=16777216
theorem Lim.le {n:Nat} (h:Lim n):n<=16777216:=h
theorem Lim.mono {n m:Nat} (h:Lim n) (k:m<=n):Lim m:=bV k h
def zp (size:Nat) (x:Value) (m:Nat) (news:List Value) (w:World):Prop :=
 news.length=m*size/\(∀ u∈news,u.oneCell'=true) /\
 ((∃ a c,x=.slice (some a) m c/\∀ (j:Nat) u,news[j]? = some u->w.cell? (a.add j)=some u)\/(x=.slice none 0 0/\m=0))
def Own (w:World) (e:TypeId) (size:Nat) (v:Value) (n:Nat) (xs:List Value):Prop:=w.ownsRow 0 e size v n xs
theorem um {P:Program} {w:World} (t ty e:TypeId) (i:TypeInfo) (z:Value) (size bytes:Nat) (ht:P.underlying t=some (.slice e)) (hi:P.info? e=some i) (hz:i.zero=some z)
 (cQ:i.size=size) (dW:i.bytes=bytes) (fQ:z.cells.size=size) (bN:0<size)
 (v:Value) (n:Nat) (xs:List Value) (bG:Own w e size v n xs)
 (x:Value) (m:Nat) (news:List Value) (hs:zp size x m news w) (fN:n+m<=maxLen) (bh:(n+m)*bytes<=140737488355328) :
 ∃ v' w',(Builtin.append_ #[t,t] ty #[v,x]).run P w=.ok v' w'/\Own w' e size v' (n+m) (xs++news)/\w.grownBy w' v.ownBlock /\
   (v'.ownBlock=v.ownBlock\/v'.ownBlock=some w.heap.size):=by
 unfold Own at *
 obtain ⟨hl,h1,⟨a,c,rfl,bw⟩ | ⟨rfl,rfl⟩⟩:=hs
 ·subst cQ
  subst dW
  have rR:n+m<=9223372036854775807:=by simp only [maxLen] at fN;omega
  have bP:(xs++news).length=(n+m)*i.size:=by rw [List.length_append,bG.1,hl,Nat.add_mul]
  have grown:∀ (old:Nat),old<n+m->∀ (row:Option Nat),
   (w.drew.alloc (.cells (xs.toArray++news.toArray++Builtin.zeroCells z.cells (grownCap w (n+m) old e-(n+m))) e)).ownsRow 0 e i.size
    (.slice (some ⟨w.heap.size,0,none⟩) (n+m) (grownCap w (n+m) old e)) (n+m) (xs++news) /\
   w.grownBy (w.drew.alloc (.cells (xs.toArray++news.toArray++Builtin.zeroCells z.cells (grownCap w (n+m) old e-(n+m))) e)) row:=by
   intro old ho row
   have r_:=grownCap_ge w (n+m) old e
   have aT:grownCap w (n+m) old e<=maxLen:=grownCap_le_maxLen w (n+m) old e fN
   refine ⟨⟨bP,.inr ⟨w.heap.size,_,_,rfl,Nat.zero_le _,Go.heap_alloc_new w.drew _,r_,aT,?_,?_⟩⟩,⟨rfl,rfl,rfl,by simp,fun k hk _=>Below.heap_alloc w.drew _ k hk⟩⟩
   ·simp only [Array.size_append,List.size_toArray,size_zeroCells,fQ,bG.1,hl,<- Nat.add_mul]
    congr 1
    omega
   ·simp only [Array.toList_append,List.append_assoc]
    rw [<- List.append_assoc,<- bP]
    exact List.take_left
  rcases bG.2 with ⟨rfl,rfl⟩ | ⟨g,cap,cur,rfl,de,hg,hnc,aT,hcs,ee⟩
  ·have hx:xs=[]:=List.eq_nil_of_length_eq_zero (by simpa using bG.1)
   subst hx
   by_cases hm:m=0
   ·subst hm
    have hn:news=[]:=List.eq_nil_of_length_eq_zero (by simpa using hl)
    subst hn
    refine ⟨.slice none 0 0,w,?_,World.ownsRow_nil w 0 e i.size,⟨rfl,rfl,rfl,hG _,fun _ _ _=>rfl⟩,.inl rfl⟩
    simp [Builtin.append_,run_underlying ht,sizeOf,typeInfo,hi,Builtin.lenOf,Builtin.firstCells,loadCells,loadCellsFrom]
   ·have hr:=run_append_nil (P:=P) w t ty e i z ht hi hz a m c news hl bw (by omega) (by omega) (by have hb:=bh;simp only [Nat.zero_add] at hb;omega)
    have mb:=grown 0 (by omega) (Value.ownBlock (.slice none 0 0))
    simp only [Nat.zero_add,List.nil_append,Array.empty_append] at mb ⊢
    exact ⟨_,_,hr,mb.1,mb.2,.inr rfl⟩
  ·by_cases cF:n+m<=cap
   ·have me:n*i.size+news.length<=cur.size:=by rw [hl,hcs,<- Nat.add_mul];exact Nat.mul_le_mul_right _ cF
    have hr:=run_append_room (P:=P) w t ty e i ht hi g n cap cur hg a m c news hl bw h1 cF me
    refine ⟨_,_,hr,⟨bP,.inr ⟨g,cap,_,rfl,de,setRow_heap w g cur _ e _ hg,cF,aT,?_,?_⟩⟩,⟨rfl,rfl,rfl,by simp,fun k _ hk=>setRow_other w g k _ (fun e=>hk (by simp [Value.ownBlock,e]))⟩,.inl rfl⟩
    ·simp only [List.size_toArray,List.length_append,List.length_take,List.length_drop,Array.length_toList]
     omega
    ·rw [ee,<- bP]
     exact List.take_left
   ·have holds:∀ (j:Nat) u,xs[j]? = some u->w.cell? ((⟨g,0,none⟩:Addr).add j)=some u:=World.ownsRow.cells bG (g:=g) rfl
    have hr:=run_append_grow (P:=P) w t ty e i z ht hi hz ⟨g,0,none⟩ n cap xs bG.1 holds a m c news hl bw (by omega) (by omega) (growslice_fits (by omega) bh)
    have mb:=grown cap (by omega) (Value.ownBlock (.slice (some ⟨g,0,none⟩) n cap))
    exact ⟨_,_,hr,mb.1,mb.2,.inr rfl⟩
 ·have hn:news=[]:=List.eq_nil_of_length_eq_zero (by simpa using hl)
  subst hn
  refine ⟨v,w,run_append_owned_none (P:=P) (w:=w) 0 t ty e i size ht hi v n xs bG,by simpa using bG,⟨rfl,rfl,rfl,hG _,fun _ _ _=>rfl⟩,.inl rfl⟩
theorem But.ofGrown {w w':World} {row:Option Nat} (h:w.grownBy w' row):But (fun b=>some b=row) w w' :=
 ⟨h.os,h.tape,h.output,h.size,fun k hk hn=>h.block k hk hn⟩
theorem Own.slice {w:World} {e:TypeId} {size n:Nat} {v:Value} {xs:List Value} (h:Own w e size v n xs):∃ a c,v=.slice a n c:=by
 rcases h.2 with ⟨rfl,rfl⟩ | ⟨g,cap,cur,rfl,_⟩
 ·exact ⟨_,_,rfl⟩
 ·exact ⟨_,_,rfl⟩
theorem zu {P:Program} {w:World} {ops:Array Oper} {rest:List Oper} {o:Oper} {a:Act} {Q:Exit->Act->World->Prop} (ma:o.guard=none) (s x:Operand) (t:TypeId)
 (ho:o.op=.call { callee:=.builtin .append,args:=#[s,x],argTypes:=#[t,t] })
 (e:TypeId) (z:Value) (size bytes:Nat) (ht:P.underlying t=some (.slice e)) (hi:(P.info? e).map (fun i=>(i.zero,i.size,i.bytes))=some (some z,size,bytes))
 (fQ:z.cells.size=size) (bN:0<size)
 (v:Value) (n:Nat) (xs:List Value) (hs:a.eval s=v) (bG:Own w e size v n xs)
 (y:Value) (m:Nat) (news:List Value) (hx:a.eval x=y) (be:zp size y m news w)
 (fN:n+m<=maxLen) (bh:(n+m)*bytes<=140737488355328)
 (h:∀ a' c' w',Own w' e size (.slice a' (n+m) c') (n+m) (xs++news)->But (fun b=>v.ownBlock=some b) w w'->(∀ g,(Value.slice a' (n+m) c').ownBlock=some g->v.ownBlock=some g\/g=w.heap.size) ->
  wpList P ops Q rest (a.put o.dst (.slice a' (n+m) c')) w'):wpList P ops Q (o::rest) a w:=by
 refine wpList_plain ma fun K hK=>?_
 obtain ⟨i,hi,hz,cQ,dW⟩:=info_parts hi
 obtain ⟨v',w',hr,h2,h3,h4⟩:=um (P:=P) (w:=w) t o.type e i z size bytes ht hi hz cQ dW fQ bN v n xs bG y m news be fN bh
 obtain ⟨a',c',rfl⟩:=h2.slice
 unfold Oper.wp execOp
 simp only [ho,resolve,invoke,builtin,Sem.run_bind,Sem.run_pure,Result.andThen_ok,List.map_toArray,List.map_cons,List.map_nil,hs,hx,hr]
 refine hK _ _ (h a' c' w' h2 ((But.ofGrown h3).weak fun i _ hi=>hi.symm) ?_)
 intro g hg
 rcases h4 with h4 | h4
 ·exact .inl (by rw [<- h4];exact hg)
 ·rw [hg] at h4;exact .inr (Option.some.inj h4)
theorem qC {P:Program} {w:World} {ops:Array Oper} {o:Oper} {a:Act} {K:Act->World->Prop} {Q:Exit->Act->World->Prop} {E:Prop} (ma:o.guard=none) (s x:Operand) (t:TypeId)
 (ho:o.op=.call { callee:=.builtin .append,args:=#[s,x],argTypes:=#[t,t] })
 (e:TypeId) (z:Value) (size bytes:Nat) (ht:P.underlying t=some (.slice e)) (hi:(P.info? e).map (fun i=>(i.zero,i.size,i.bytes))=some (some z,size,bytes))
 (fQ:z.cells.size=size) (bN:0<size)
 (v:Value) (n:Nat) (xs:List Value) (hs:a.eval s=v) (bG:Own w e size v n xs)
 (y:Value) (m:Nat) (news:List Value) (hx:a.eval x=y) (be:zp size y m news w)
 (fN:n+m<=maxLen) (bh:(n+m)*bytes<=140737488355328)
 (h:∀ a' c' w',Own w' e size (.slice a' (n+m) c') (n+m) (xs++news)->But (fun b=>v.ownBlock=some b) w w'->(∀ g,(Value.slice a' (n+m) c').ownBlock=some g->v.ownBlock=some g\/g=w.heap.size) ->
  K (a.put o.dst (.slice a' (n+m) c')) w'):if Region.wanted o (yielded ops a.tmps)=true then Oper.wp P o a w K Q else E:=by
 rw [if_pos (by simp [Region.wanted,ma])]
 obtain ⟨i,hi,hz,cQ,dW⟩:=info_parts hi
 obtain ⟨v',w',hr,h2,h3,h4⟩:=um (P:=P) (w:=w) t o.type e i z size bytes ht hi hz cQ dW fQ bN v n xs bG y m news be fN bh
 obtain ⟨a',c',rfl⟩:=h2.slice
 unfold Oper.wp execOp
 simp only [ho,resolve,invoke,builtin,Sem.run_bind,Sem.run_pure,Result.andThen_ok,List.map_toArray,List.map_cons,List.map_nil,hs,hx,hr]
 refine h a' c' w' h2 ((But.ofGrown h3).weak fun i _ hi=>hi.symm) ?_
 intro g hg
 rcases h4 with h4 | h4
 ·exact .inl (by rw [<- h4];exact hg)
 ·rw [hg] at h4;exact .inr (Option.some.inj h4)
theorem zp.keep {w w':World} {size:Nat} {x:Value} {m:Nat} {news:List Value} (h:zp size x m news w) (hk:∀ a v,w.cell? a=some v->w'.cell? a=some v):zp size x m news w':=by
 obtain ⟨h1,h2,⟨a,c,rfl,h3⟩ | h3⟩:=h
 ·exact ⟨h1,h2,.inl ⟨a,c,rfl,fun j u hu=>hk _ _ (h3 j u hu)⟩⟩
 ·exact ⟨h1,h2,.inr h3⟩
theorem zK {w:World} {o:Obj} {a:Addr} {v:Value} (h:w.cell? a=some v):(w.alloc o).cell? a=some v:=by
 rw [World.cell?_alloc_lt w o a (h_ w a h)];exact h
theorem Own.lit {w:World} {e:TypeId} {size:Nat} (cs:Array Value) (n:Nat) (hm:n<=maxLen) (hs:cs.size=n*size):Own (w.alloc (.cells cs e)) e size (.slice (some ⟨w.heap.size,0,none⟩) n n) n cs.toList :=
 World.ownsRow_lit w cs n (Nat.zero_le _) hm hs
theorem zp.lits {w:World} {e:TypeId} (cs:Array Value) (n:Nat) (hn:cs.size=n) (hc:∀ u∈cs.toList,u.oneCell'=true) (g:Nat) (hg:g=w.heap.size):zp 1 (.slice (some ⟨g,0,none⟩) n n) n cs.toList (w.alloc (.cells cs e)):=by
 subst hg
 refine ⟨by simp [hn],hc,.inl ⟨_,_,rfl,fun j u hu=>?_⟩⟩
 unfold Addr.add
 split
 ·subst j;simp;simpa using hu
 ·simp;simpa using hu
theorem Own.litAt {w:World} {e:TypeId} {size:Nat} (cs:Array Value) (n g:Nat) (hg:g=w.heap.size) (hm:n<=maxLen) (hs:cs.size=n*size):Own (w.alloc (.cells cs e)) e size (.slice (some ⟨g,0,none⟩) n n) n cs.toList:=by
 subst hg;exact Own.lit cs n hm hs
theorem Own.keep {w w':World} {e:TypeId} {sz n:Nat} {xs:List Value} {v:Value} (h:Own w e sz v n xs) (hk:∀ g o,v.ownBlock=some g->w.heap[g]? = some o->w'.heap[g]? = some o):Own w' e sz v n xs:=by
 refine ⟨h.1,?_⟩
 rcases h.2 with h | ⟨g,cap,cur,rfl,h0,hg,h⟩
 ·exact .inl h
 ·exact .inr ⟨g,cap,cur,rfl,h0,hk g _ rfl hg,h⟩
theorem zO (w:World) (o:Obj):(w.alloc o).heap[w.heap.size]? = some o:=heap_alloc_new w o
theorem zH {w:World} {o:Obj} {b:Nat} {x:Obj} (h:w.heap[b]? = some x):(w.alloc o).heap[b]? = some x:=by
 rw [Below.heap_alloc _ _ _ (zZ h)];exact h
theorem vz {w:World} {o:Obj} {b:Nat} (h:(w.alloc o).heap.size<=b):w.heap.size+1<=b:=by simpa using h
theorem zQ (w:World) (o:Obj):(w.alloc o).heap.size=w.heap.size+1:=by simp
theorem xR {w W wx:World} {v v':Value} (hb:Below w.heap.size w W) (hf:∀ g,v.ownBlock=some g->w.heap.size<=g) (hx:But (fun b=>v.ownBlock=some b) W wx) (hg:∀ g,v'.ownBlock=some g->v.ownBlock=some g\/g=W.heap.size) :
 Below w.heap.size w wx/\(∀ g,v'.ownBlock=some g->w.heap.size<=g):=by
 refine ⟨hb.trans (hx.toBelow hb.size fun i hi e=>by have:=hf i e;omega),fun g h=>?_⟩
 rcases hg g h with h | h
 ·exact hf g h
 ·have:=hb.size;omega
theorem own_some {g n c:Nat} {B:Nat} (h:B<=g):∀ k,(Value.slice (some ⟨g,0,none⟩) n c).ownBlock=some k->B<=k:=by
 intro k e;simp [Value.ownBlock] at e;omega
theorem Own.drew {w:World} {e:TypeId} {sz n:Nat} {xs:List Value} {v:Value} (h:Own w e sz v n xs):Own w.drew e sz v n xs:=h.keep (w':=w.drew) fun _ _ _ ho=>ho
theorem zp.drew {w:World} {size:Nat} {x:Value} {m:Nat} {news:List Value} (h:zp size x m news w):zp size x m news w.drew:=h.keep (w':=w.drew) fun _ _ h=>h
theorem zp.alloc {w:World} {size:Nat} {x:Value} {m:Nat} {news:List Value} (h:zp size x m news w) (o:Obj):zp size x m news (w.alloc o):=h.keep (w':=w.alloc o) fun _ _ h=>zK h
theorem Own.alloc {w:World} {e:TypeId} {sz n:Nat} {xs:List Value} {v:Value} (h:Own w e sz v n xs) (o:Obj):Own (w.alloc o) e sz v n xs:=h.keep (w':=w.alloc o) fun _ _ _ ho=>zH ho
theorem zp.lit {w:World} {e:TypeId} {v:Value} (hv:v.oneCell'=true):zp 1 (.slice (some ⟨w.heap.size,0,none⟩) 1 1) 1 [v] (w.alloc (.cells #[v] e)) :=
 ⟨by simp,by simpa using hv,.inl ⟨_,_,rfl,fun j u hu=>by
  cases j with
  | zero=>simp at hu;subst hu;simp [Addr.add]
  | succ j=>simp at hu⟩⟩
theorem zp.ofRep {F:Nat->Prop} {w:World} {e:TypeId} {sz n:Nat} {cs:List DV} {v:Value} (h:Rep F w (.sl e sz n cs) v) (fX:∀ us,zC F w cs us->∀ u∈us,u.oneCell'=true) :
 ∃ news,zC F w cs news/\zp sz v n news w:=by
 rw [kD] at h
 obtain ⟨hl,a,cap,rfl,hn,hz,h⟩:=h
 rcases h with rfl | ⟨b,o,c,fr,rfl,hb,hc,hr⟩
 ·have:cs=[]:=List.eq_nil_of_length_eq_zero (by simpa using hl)
  subst this
  refine ⟨[],zM.2 rfl,?_⟩
  cases a with
  | none=>obtain rfl:=hz rfl;exact ⟨by simp,by simp,.inr ⟨rfl,rfl⟩⟩
  | some a=>exact ⟨by simp,by simp,.inl ⟨a,cap,rfl,by simp⟩⟩
 ·refine ⟨_,hr,⟨by rw [<- hr.length,hl],fX _ hr,.inl ⟨_,cap,rfl,fun j u hu=>?_⟩⟩⟩
  have hj:j<n*sz:=by
   have:=(List.getElem?_eq_some_iff.1 hu).1
   simp at this;omega
  rw [List.getElem?_take,if_pos hj,List.getElem?_drop] at hu
  unfold Addr.add
  split
  ·subst j;simp [World.cell?,hc];simpa using hu
  ·simp [World.cell?,hc];simpa using hu
theorem Own.rep {F:Nat->Prop} {w:World} {e:TypeId} {sz n:Nat} {xs:List Value} {cs:List DV} {v:Value} (h:Own w e sz v n xs) (hF:∀ g,v.ownBlock=some g->F g) (hr:zC F w cs xs) :
 Rep F w (.sl e sz n cs) v:=by
 rw [kD]
 refine ⟨by rw [hr.length];exact h.1,?_⟩
 rcases h.2 with ⟨rfl,rfl⟩ | ⟨g,cap,cur,rfl,_,hg,hnc,_,hcs,ht⟩
 ·exact ⟨none,0,rfl,hG _,fun _=>rfl,.inl rfl⟩
 ·exact ⟨_,cap,rfl,hnc,fun h=>by simp at h,.inr ⟨g,0,cur,_,rfl,hF g rfl,hg,by simpa [ht] using hr⟩⟩
theorem Own.lt {w:World} {e:TypeId} {sz n:Nat} {xs:List Value} {v:Value} (h:Own w e sz v n xs) {g:Nat} (hg:v.ownBlock=some g):g<w.heap.size:=(World.ownsRow.lt h g hg).2
theorem wK {P:Program} {w:World} (t ti ty e:TypeId) (z:Value) (size bytes:Nat) (ht:P.underlying t=some (.slice e)) (hti:P.underlying ti=some (.int .i64))
 (aB:(P.info? e).map (fun i=>(i.zero,i.size,i.bytes))=some (some z,size,bytes)) (fQ:z.cells.size=size)
 (n:Nat) (h0:0<n) (hn:n<=16777216) (bN:0<size) (hb:bytes<=1024) :
 ∃ cap c,(Builtin.append_ #[t,ti] ty #[.slice none 0 0,.int .i64 n]).run P w=.ok (.slice (some ⟨w.heap.size,0,none⟩) n cap) (w.drew.alloc (.cells c e))/\n<=cap/\cap<=maxLen/\c.size=cap*size:=by
 obtain ⟨i,hi,hz,cQ,dW⟩:=info_parts aB
 subst cQ;subst dW
 have hw:IntKind.i64.wrap (n:Int)=n:=IntWalk.i64_in _ (by omega)
 have hneg:¬ ((n:Int)<0):=by omega
 have hmul:n*i.bytes<=16777216*1024:=Nat.mul_le_mul hn hb
 have hmk:¬ (281474976710656<(n:Int)*(i.bytes:Int)):=by
  have:(n:Int)*(i.bytes:Int)=((n*i.bytes:Nat):Int):=by simp
  omega
 have hne:n≠0:=by omega
 have fK:¬ (281474976710656<Builtin.nextslicecap n 0*i.bytes):=by rw [nextslicecap_zero h0];omega
 have fN:¬ (9223372036854775807<(n:Int)):=by omega
 have tf:¬ (n=0\/i.size=0):=by omega
 refine ⟨grownCap w n 0 e,Builtin.zeroCells z.cells n++Builtin.zeroCells z.cells (grownCap w n 0 e-n),?_,grownCap_ge w n 0 e,grownCap_le_maxLen w n 0 e (by unfold maxLen;omega),?_⟩
 ·simp [Builtin.append_,run_underlying ht,run_underlying hti,sizeOf,typeInfo,zeroValue,hi,hz,asInt,hw,hneg,hmk,hne,fK,fN,Question.forced,run_firstCells_none,newRow,grownCap,asIntOf]
  intro h;exact absurd h (by have:=Nat.mul_pos h0 bN;omega)
 ·simp only [Array.size_append,size_zeroCells,fQ,<- Nat.add_mul]
  have:=grownCap_ge w n 0 e
  congr 1;omega
theorem yR {P:Program} {w:World} {ops:Array Oper} {rest:List Oper} {o:Oper} {a:Act} {Q:Exit->Act->World->Prop} (ma:o.guard=none) (s x:Operand) (t ti:TypeId)
 (ho:o.op=.call { callee:=.builtin .append,args:=#[s,x],argTypes:=#[t,ti] })
 (e:TypeId) (z:Value) (size bytes:Nat) (ht:P.underlying t=some (.slice e)) (hti:P.underlying ti=some (.int .i64)) (hi:(P.info? e).map (fun i=>(i.zero,i.size,i.bytes))=some (some z,size,bytes))
 (fQ:z.cells.size=size) (bN:0<size) (hb:bytes<=1024)
 (hs:a.eval s=.slice none 0 0) (n:Nat) (hx:a.eval x=.int .i64 n) (h0:0<n) (hn:n<=16777216)
 (h:∀ cap c,n<=cap->cap<=maxLen->c.size=cap*size->wpList P ops Q rest (a.put o.dst (.slice (some ⟨w.heap.size,0,none⟩) n cap)) (w.alloc (.cells c e)).drew):wpList P ops Q (o::rest) a w:=by
 refine wpList_plain ma fun K hK=>?_
 obtain ⟨cap,c,hr,h1,h2,h3⟩:=wK (P:=P) (w:=w) t ti o.type e z size bytes ht hti hi fQ n h0 hn bN hb
 unfold Oper.wp execOp
 simp only [ho,resolve,invoke,builtin,Sem.run_bind,Sem.run_pure,Result.andThen_ok,List.map_toArray,List.map_cons,List.map_nil,hs,hx,hr]
 exact hK _ _ (h cap c h1 h2 h3)
theorem below_ad {w wc:World} {o:Obj} (h:Below (w.alloc o).drew.heap.size (w.alloc o).drew wc):Below w.heap.size w wc:=by
 have h2:Below w.heap.size (w.alloc o).drew wc:=⟨h.os,h.tape,h.output,h.size,fun i hi=>h.block i (by show i<(w.alloc o).heap.size;rw [zQ];omega)⟩
 exact (((bZ w.heap.size w).alloc (hG _) o).drew).trans h2
abbrev Bs:=List UInt8
abbrev str (l:Bs):Value:=.string ⟨l.toArray⟩
inductive Ty where
 | mk (args:List Ty)
def Ty.args:Ty->List Ty | .mk a=>a
def cut (p l:Bs):Option Bs:=if p.isPrefixOf l then some (l.drop p.length) else none
def jW (a b:Ty):Ty:=.mk (a::b.args)
def rdK:Nat->Bs->Option (Ty×Bs)
 | d,l=>match cut [98] l with
   | some r=>some (.mk [],r)
   | none=>match d with
     | 0=>none
     | d+1=>do
       let r1<-cut [40,62,32] l
       let (a,r2)<-rdK d r1
       let r3<-cut [32] r2
       let (b,r4)<-rdK d r3
       let r5<-cut [41] r4
       some (jW a b,r5)
def Cut (p l r:Bs):Prop:=cut p l=some r
def yY (p l:Bs):Prop:=cut p l=none
theorem Cut.out {p l r:Bs} (h:Cut p l r):cut p l=some r:=h
theorem yY.out {p l:Bs} (h:yY p l):cut p l=none:=h
theorem zq (p l:Bs):yY p l\/∃ r,Cut p l r:=by
 cases h:cut p l with
 | none=>exact .inl h
 | some r=>exact .inr ⟨r,h⟩
theorem Cut.le {p l r:Bs} (h:Cut p l r):r.length<=l.length:=by
 unfold Cut cut at h;split at h
 ·simp at h;subst h;simp
 ·simp at h
theorem vE {d:Nat} {l r:Bs} (h:Cut [98] l r):rdK d l=some (.mk [],r):=by
 cases d <;> simp [rdK,h.out]
theorem vV {l:Bs} (h:yY [98] l):rdK 0 l=none:=by simp [rdK,h.out]
theorem qK {d:Nat} {l:Bs} (h:yY [98] l):rdK (d+1) l=(do
        let r1<-cut [40,62,32] l
        let (a,r2)<-rdK d r1
        let r3<-cut [32] r2
        let (b,r4)<-rdK d r3
        let r5<-cut [41] r4
        some (jW a b,r5)):=by rw [rdK,h.out]
theorem rdK_le (d:Nat):∀ {l r:Bs} {t:Ty},rdK d l=some (t,r)->r.length<=l.length/\t.args.length<=l.length:=by
 induction d with
 | zero =>
   intro l r t h
   rcases zq [98] l with hc | ⟨r',hc⟩
   ·rw [vV hc] at h;simp at h
   ·rw [vE hc] at h;simp at h;obtain ⟨rfl,rfl⟩:=h;exact ⟨hc.le,by simp [Ty.args]⟩
 | succ d ih =>
   intro l r t h
   rcases zq [98] l with hc | ⟨r',hc⟩
   ·rw [qK hc] at h
    simp only [Option.bind_eq_bind,Option.bind_eq_some_iff,Prod.exists] at h
    obtain ⟨r1,h1,a,r2,h2,r3,h3,b,r4,h4,r5,h5,h6⟩:=h
    simp at h6;obtain ⟨rfl,rfl⟩:=h6
    have k1:=Cut.le h1;have k2:=ih h2;have k3:=Cut.le h3;have k4:=ih h4;have k5:=Cut.le h5
    have k6:r1.length<l.length:=by
     unfold cut at h1;split at h1
     ·rename_i hp
      have:=List.IsPrefix.length_le (List.isPrefixOf_iff_prefix.1 hp)
      simp at h1 this;subst h1;simp;omega
     ·simp at h1
    exact ⟨by omega,by simp [jW,Ty.args];simp [Ty.args] at k4;omega⟩
   ·rw [vE hc] at h;simp at h;obtain ⟨rfl,rfl⟩:=h;exact ⟨hc.le,by simp [Ty.args]⟩
mutual
def jd:Ty->DV
 | .mk ts=>.ptr 88 [.sl 45 1 ts.length (kI ts)]
def kI:List Ty->List DV
 | []=>[]
 | t::ts=>jd t::kI ts
end
theorem vu (ts:List Ty):∀ k:Nat,(kI ts)[k]? = ts[k]?.map jd:=by
 induction ts with
 | nil=>intro k;simp [kI]
 | cons t ts ih=>intro k;cases k <;> simp [kI,ih]
mutual
def zX:Ty->Nat
 | .mk ts=>1+zR ts
def zR:List Ty->Nat
 | []=>0
 | t::ts=>1+zX t+zR ts
end
theorem yV (a b:List Ty):zR (a++b)=zR a+zR b:=by
 induction a with
 | nil=>simp [zR]
 | cons t ts ih=>simp [zR,ih];omega
theorem uA {ts:List Ty} {k:Nat} {t:Ty} (h:ts[k]? = some t):zR (ts.take (k+1))=zR (ts.take k)+(1+zX t):=by
 rw [List.take_add_one,h,yV];simp [zR]
theorem vB (ts:List Ty) (k:Nat):zR (ts.take k)<=zR ts:=by
 have:=yV (ts.take k) (ts.drop k);rw [List.take_append_drop] at this;omega
theorem kw (t:Ty):zX t=1+zR t.args:=by cases t;simp [zX,Ty.args]
theorem kx (t:Ty):1<=zX t:=by rw [kw];omega
theorem wJ (d:Nat):∀ {l r:Bs} {t:Ty},rdK d l=some (t,r)->zX t+r.length<=l.length:=by
 have hb:∀ {l r:Bs},Cut [98] l r->zX (.mk [])+r.length<=l.length:=by
  intro l r h
  unfold Cut cut at h;split at h
  ·rename_i hp
   have:=List.IsPrefix.length_le (List.isPrefixOf_iff_prefix.1 hp)
   simp at h this;subst h;simp [zX,zR];omega
  ·simp at h
 induction d with
 | zero =>
   intro l r t h
   rcases zq [98] l with hc | ⟨r',hc⟩
   ·rw [vV hc] at h;simp at h
   ·rw [vE hc] at h;simp at h;obtain ⟨rfl,rfl⟩:=h;exact hb hc
 | succ d ih =>
   intro l r t h
   rcases zq [98] l with hc | ⟨r',hc⟩
   ·rw [qK hc] at h
    simp only [Option.bind_eq_bind,Option.bind_eq_some_iff,Prod.exists] at h
    obtain ⟨r1,h1,a,r2,h2,r3,h3,b,r4,h4,r5,h5,h6⟩:=h
    simp at h6;obtain ⟨rfl,rfl⟩:=h6
    have k2:=ih h2;have k3:=Cut.le h3;have k4:=ih h4;have k5:=Cut.le h5
    have k6:r1.length<l.length:=by
     unfold cut at h1;split at h1
     ·rename_i hp
      have:=List.IsPrefix.length_le (List.isPrefixOf_iff_prefix.1 hp)
      simp at h1 this;subst h1;simp;omega
     ·simp at h1
    have:zX (jW a b)=1+zX a+zX b:=by cases b;simp [jW,zX,zR,Ty.args];omega
    omega
   ·rw [vE hc] at h;simp at h;obtain ⟨rfl,rfl⟩:=h;exact hb hc
def rdS:Nat->Bs->Option (Ty×Bs)
 | 0,_=>none
 | n+1,l=>rdK n l
theorem rdS_b {n:Nat} {l r:Bs} (h:Cut [98] l r):rdS (n+1) l=some (.mk [],r):=vE h
theorem rdS_no {n:Nat} {l:Bs} (h:yY [98] l):rdS (n+1) l=(do
        let r1<-cut [40,62,32] l
        let (a,r2)<-rdS n r1
        let r3<-cut [32] r2
        let (b,r4)<-rdS n r3
        let r5<-cut [41] r4
        some (jW a b,r5)):=by
 cases n with
 | zero =>
   show rdK 0 l=_
   rw [vV h]
   cases cut [40,62,32] l <;> simp [rdS]
 | succ n=>exact qK h
theorem cut_drop {p l r:Bs} {i:Nat} (h:cut p (l.drop i)=some r):r=l.drop (i+p.length)/\i+p.length<=l.length+(if p.length=0 then i else 0):=by
 unfold cut at h;split at h
 ·rename_i hp
  have hl:=List.IsPrefix.length_le (List.isPrefixOf_iff_prefix.1 hp)
  simp at h hl;subst h
  refine ⟨rfl,?_⟩
  split <;> omega
 ·simp at h
theorem j_ {c:UInt8} {l:Bs} {i:Nat} (h:i<l.length):cut [c] (l.drop i)=if l[i]=c then some (l.drop (i+1)) else none:=by
 unfold cut
 rw [List.drop_eq_getElem_cons h]
 by_cases hc:l[i]=c
 ·simp [hc,List.isPrefixOf]
 ·have:(c == l[i])=false:=by simpa using fun e=>hc e.symm
  simp [hc,List.isPrefixOf,this]
theorem yF {c:UInt8} {p l:Bs} {i:Nat} (h:l.length<=i):cut (c::p) (l.drop i)=none:=by
 rw [List.drop_eq_nil_of_le h];rfl
theorem vK {l r:Bs} {i:Nat} (h:r <:+ l.drop i):r=l.drop (l.length-r.length):=by
 have h2:r <:+ l:=h.trans (List.drop_suffix i l)
 exact List.suffix_iff_eq_drop.1 h2
theorem rdK_suffix (d:Nat):∀ {l r:Bs} {t:Ty},rdK d l=some (t,r)->r <:+ l:=by
 have fe:∀ {p l r:Bs},cut p l=some r->r <:+ l:=by
  intro p l r h
  unfold cut at h;split at h
  ·simp at h;subst h;exact List.drop_suffix _ _
  ·simp at h
 induction d with
 | zero =>
   intro l r t h
   rcases zq [98] l with hc | ⟨r',hc⟩
   ·rw [vV hc] at h;simp at h
   ·rw [vE hc] at h;simp at h;obtain ⟨rfl,rfl⟩:=h;exact fe hc
 | succ d ih =>
   intro l r t h
   rcases zq [98] l with hc | ⟨r',hc⟩
   ·rw [qK hc] at h
    simp only [Option.bind_eq_bind,Option.bind_eq_some_iff,Prod.exists] at h
    obtain ⟨r1,h1,a,r2,h2,r3,h3,b,r4,h4,r5,h5,h6⟩:=h
    simp at h6;obtain ⟨rfl,rfl⟩:=h6
    exact (((((fe h5).trans (ih h4)).trans (fe h3)).trans (ih h2)).trans (fe h1))
   ·rw [vE hc] at h;simp at h;obtain ⟨rfl,rfl⟩:=h;exact fe hc
theorem po {n:Nat} {l r:Bs} {t:Ty} (h:rdS n l=some (t,r)):r <:+ l:=by
 cases n with
 | zero=>simp [rdS] at h
 | succ n=>exact rdK_suffix n h
theorem rdS_le {n:Nat} {l r:Bs} {t:Ty} (h:rdS n l=some (t,r)):r.length<=l.length/\t.args.length<=l.length:=by
 cases n with
 | zero=>simp [rdS] at h
 | succ n=>exact rdK_le n h
theorem rdS_atoms {n:Nat} {l r:Bs} {t:Ty} (h:rdS n l=some (t,r)):zX t+r.length<=l.length:=by
 cases n with
 | zero=>simp [rdS] at h
 | succ n=>exact wJ n h
def kQ (sc:Nat) (c:List Value) (e:TypeId) (r:Bs) (w:World):Prop:=w.heap[sc]? = some (.cells (str r::c).toArray e (0,0))
theorem kQ.cell {sc:Nat} {c:List Value} {e:TypeId} {r:Bs} {w:World} (h:kQ sc c e r w):w.cell? ⟨sc,0,none⟩=some (str r):=by
 simp [World.cell?,kQ] at *;simp [h]
theorem kQ.free {sc:Nat} {c:List Value} {e:TypeId} {r:Bs} {w:World} (h:kQ sc c e r w) (o:Nat):w.frozen? ⟨sc,o,none⟩=false:=by
 simp [World.frozen?,kQ] at *;simp [h]
theorem kQ.put {sc:Nat} {c:List Value} {e:TypeId} {r r':Bs} {w:World} (h:kQ sc c e r w):kQ sc c e r' (w.setCell ⟨sc,0,none⟩ (str r')):=by
 unfold kQ at *
 have bX:=zZ h
 have h':w.heap[sc]=.cells (str r::c).toArray e (0,0):=by simpa [Array.getElem?_eq_getElem bX] using h
 show (w.heap.modify sc _)[sc]? = _
 rw [Array.getElem?_eq_getElem (by simpa using bX),Array.getElem_modify_self,h']
 simp
theorem wT {p r:Bs}:Lib.hasPrefix r p=(cut p r).isSome/\Lib.trimPrefix r p=(cut p r).getD r:=by
 unfold Lib.hasPrefix Lib.trimPrefix cut Lib.hasPrefix
 cases h:p.isPrefixOf r <;> simp
theorem take_any (sc:Nat) (c:List Value) (e:TypeId) (r p:Bs) (w:World) (h:kQ sc c e r w) :
 Calls Tryz.prog 64 #[.pointer (some ⟨sc,0,none⟩),.string ⟨p.toArray⟩] w fun en w' =>
  en=.returned (.bool (cut p r).isSome)/\But (· = sc) w w'/\kQ sc c e ((cut p r).getD r) w':=by
 have h1:=h.cell
 have h2:=h.free 0
 have h3:=g_ h;clear h
 go_enter Tryz.func64,Tryz.ntmps64
 go_wp2_with (go_at_call 95;refine (Tryz.strings_CutPrefix _ _ _).mono ?_;rintro e w' ⟨rfl,rfl⟩)
 go_ret
 refine ⟨?_,(But.refl (· = sc) _).setCell (p:=⟨sc,0,none⟩) (.inl rfl) _,?_⟩
 ·rw [<- wT.1];rfl
 ·rw [<- wT.2];exact h3.out.put
theorem za {F:Nat->Prop} {w:World} {t:Ty} {v:Value} (h:Rep F w (jd t) v) :
 ∃ b s,v=.pointer (some ⟨b,0,none⟩)/\F b/\w.heap[b]? = some (.cells #[s] 88 (0,0))/\Rep F w (.sl 45 1 t.args.length (kI t.args)) s:=by
 cases t with
 | mk ts =>
   rw [jd,qm] at h
   obtain ⟨b,c,hv,hb,hc,hr⟩:=h
   rw [zJ] at hr
   obtain ⟨s,vs',e1,h1,h2⟩:=hr
   rw [zM] at h2;subst h2
   have:c=#[s]:=by apply Array.ext';simpa using e1
   subst this
   exact ⟨b,s,hv,hb,hc,h1⟩
theorem encK_shut {F:Nat->Prop} {w:World} {t:Ty} {b:Nat} {s:Value} (hb:F b) (hc:w.heap[b]? = some (.cells #[s] 88 (0,0)))
 (h:Rep F w (.sl 45 1 t.args.length (kI t.args)) s):Rep F w (jd t) (.pointer (some ⟨b,0,none⟩)):=by
 cases t with
 | mk ts =>
   rw [jd,qm]
   exact ⟨b,#[s],rfl,hb,hc,zC.one h⟩
theorem Tryz.infoK:(Tryz.prog.info? 45).map (fun i=>(i.zero,i.size,i.bytes))=some (some (.pointer none),1,8):=by kernel_rfl
theorem vr {F:Nat->Prop} {w:World} (ts:List Ty):∀ us,zC F w (kI ts) us->∀ u∈us,u.oneCell'=true:=by
 induction ts with
 | nil=>intro us h;rw [kI,zM] at h;subst h;simp
 | cons t ts ih =>
   intro us h u hu
   rw [kI,zJ] at h
   obtain ⟨v,vs',rfl,h1,h2⟩:=h
   rcases List.mem_cons.1 hu with rfl | hu
   ·obtain ⟨b,s,rfl,_⟩:=za h1;rfl
   ·exact ih _ h2 u hu
theorem arrow_any (F:Nat->Prop) (a b:Ty) (va vb:Value) (w:World) (ha:Rep F w (jd a) va) (hb:Rep F w (jd b) vb) (hl:Lim b.args.length) :
 Calls Tryz.prog 90 #[va,vb] w fun en w' =>
  ∃ v,en=.returned v/\Below w.heap.size w w'/\Rep (fun k=>F k\/w.heap.size<=k) w' (jd (jW a b)) v:=by
 obtain ⟨bb,sb,rfl,hFb,sf,dQ⟩:=za hb
 obtain ⟨ba,eva⟩:∃ ba,va=.pointer (some ⟨ba,0,none⟩):=by obtain ⟨ba,_,h,_⟩:=za ha;exact ⟨ba,h⟩
 subst eva
 obtain ⟨news,bw,be⟩:=zp.ofRep dQ (vr _)
 have c1:w.cell? ⟨bb,0,none⟩=some sb:=by simp [World.cell?,sf]
 have l1:=zZ sf
 have H1:=g_ be;have H2:=g_ bw;have H3:=g_ ha
 clear be bw ha hb dQ sf
 go_enter Tryz.func90,Tryz.ntmps90
 go_wp2_with (at_builtin;refine zu rfl _ _ 86 rfl 45 (.pointer none) 1 8 Tryz.underlying86 Tryz.infoK rfl (by decide) _ 1 [.pointer (some ⟨ba,0,none⟩)] rfl ?c1 _ b.args.length news rfl ?c2 ?c3 ?c4 ?_)
 case c1=>exact Own.lit #[.pointer (some ⟨ba,0,none⟩)] 1 (by decide) rfl
 case c2=>exact H1.out.keep fun _ _ h=>zK h
 case c3=>have:=hl.le;unfold maxLen;omega
 case c4=>have:=hl.le;omega
 intro a' c' w' ho hb hg
 have H4:=g_ ho;have H5:=g_ hb;have H6:=g_ hg;clear ho hb hg
 go_wp2
 go_ret
 have hb:=H5.out
 have b1:Below w.heap.size w w':=((bZ w.heap.size w).alloc (hG _) _).trans (hb.toBelow (by simp) (fun i hi e=>by simp [Value.ownBlock] at e;omega))
 refine ⟨_,rfl,b1.alloc b1.size _,?_⟩
 refine encK_shut (F:=fun k=>F k\/w.heap.size<=k) (.inr b1.size) (zO _ _) ?_
 refine Rep.below (F:=fun k=>F k\/w.heap.size<=k) ((bZ _ _).alloc (hG _) _) (fun _ h=>h) ?_
 rw [show (jW a b).args.length=1+b.args.length from by simp [jW,Ty.args,Nat.add_comm]]
 refine H4.out.rep ?_ ?_
 ·intro g hg
  rcases H6.out g hg with h | h
  ·simp [Value.ownBlock] at h;exact .inr (by omega)
  ·exact .inr (by subst h;simp)
 ·show zC _ _ (jd a::kI b.args) _
  exact zJ.2 ⟨_,_,rfl,Rep.below b1 (fun _ h=>.inl h) H3.out,zC.below b1 (fun _ h=>.inl h) H2.out⟩
theorem qX {sc:Nat} {c:List Value} {e:TypeId} {r p r':Bs} {w:World} (h:kQ sc c e r w) (hc:Cut p r r') :
 Calls Tryz.prog 64 #[.pointer (some ⟨sc,0,none⟩),.string ⟨p.toArray⟩] w fun en w' =>
  en=.returned (.bool true)/\But (· = sc) w w'/\kQ sc c e r' w':=by
 refine (take_any sc c e r p w h).mono ?_
 rw [hc.out];exact fun _ _ h=>h
theorem qd {sc:Nat} {c:List Value} {e:TypeId} {r p:Bs} {w:World} (h:kQ sc c e r w) (hc:yY p r) :
 Calls Tryz.prog 64 #[.pointer (some ⟨sc,0,none⟩),.string ⟨p.toArray⟩] w fun en w' =>
  en=.returned (.bool false)/\But (· = sc) w w'/\kQ sc c e r w':=by
 refine (take_any sc c e r p w h).mono ?_
 rw [hc.out];exact fun _ _ h=>h
def uX (sc:Nat) (c:List Value) (e:TypeId) (w:World) (o:Option (Ty×Bs)) (en:Ending) (w':World):Prop :=
 ∃ v r',en=.returned v/\But (· = sc) w w'/\kQ sc c e r' w'/\(o=none->v=.pointer none)/\(∀ t rest,o=some (t,rest)->r'=rest/\Rep (w.heap.size<=·) w' (jd t) v)
theorem uX.no {sc:Nat} {c:List Value} {e:TypeId} {w:World} {r:Bs} {w':World} {o:Option (Ty×Bs)} (ho:o=none) (hb:But (· = sc) w w') (hs:kQ sc c e r w'):uX sc c e w o (.returned (.pointer none)) w' :=
 ⟨_,r,rfl,hb,hs,fun _=>rfl,fun _ _ h=>by rw [ho] at h;simp at h⟩
theorem uX.yes {sc:Nat} {c:List Value} {e:TypeId} {w:World} {r:Bs} {w':World} {o:Option (Ty×Bs)} {t:Ty} {v:Value} (ho:o=some (t,r)) (hb:But (· = sc) w w') (hs:kQ sc c e r w')
 (hv:Rep (w.heap.size<=·) w' (jd t) v):uX sc c e w o (.returned v) w' :=
 ⟨_,r,rfl,hb,hs,fun h=>by rw [ho] at h;simp at h,fun _ _ h=>by rw [ho] at h;simp at h;obtain ⟨rfl,rfl⟩:=h;exact ⟨rfl,hv⟩⟩
theorem ju {sc:Nat} {c:List Value} {e:TypeId} {r:Bs} {w:World} (h:kQ sc c e r w):sc<w.heap.size:=zZ h
theorem kQ.alloc {sc:Nat} {c:List Value} {e:TypeId} {r:Bs} {w:World} (h:kQ sc c e r w) (o:Obj):kQ sc c e r (w.alloc o):=zH h
def gl (sc:Nat) (c:List Value) (e:TypeId) (d:Nat):Prop:=∀ (r:Bs) (w:World),kQ sc c e r w->Lim r.length ->
    Calls Tryz.prog 59 #[.pointer (some ⟨sc,0,none⟩),.int .i64 d] w (uX sc c e w (rdK d r))
theorem kind_step (sc:Nat) (c:List Value) (e:TypeId) (d:Nat) (hd:d<=1000) (ih:∀ d',d=d'+1->gl sc c e d'):gl sc c e d:=by
 intro r w hs hr
 have IH:=g_ ih;clear ih
 go_enter Tryz.func59,Tryz.ntmps59
 go_wp2_with fail
 rcases zq [98] r with h1 | ⟨r1,h1⟩
 ·refine (qd hs h1).mono ?_
  rintro en w1 ⟨rfl,bU,b8⟩
  by_cases h0:d=0
  ·have H0:=g_ h0;clear h0
   have h0:((d:Int) == 0)=true:=by rw [beq_iff_eq];have:=H0.out;omega
   go_wp2_with fail
   go_ret
   exact uX.no (by have:=H0.out;subst this;exact vV h1) bU b8
  ·obtain ⟨d',hd'⟩:∃ d',d=d'+1:=⟨d-1,by omega⟩
   subst hd'
   clear h0
   have h0:(((d'+1:Nat):Int) == 0)=false:=by rw [beq_eq_false_iff_ne];omega
   have IH':=g_ (IH.out d' rfl);clear IH
   go_wp2_with fail
   rcases zq [40,62,32] r with h2 | ⟨r2,h2⟩
   ·refine (qd b8 h2).mono ?_
    rintro en w2 ⟨rfl,bY,cv⟩
    go_wp2_with fail
    go_ret
    exact uX.no (by rw [qK h1,h2.out];rfl) (bU.trans bY) cv
   refine (qX b8 h2).mono ?_
   rintro en w2 ⟨rfl,bY,cv⟩
   go_wp2_with fail
   have r2l:=h2.le
   refine (IH'.out r2 w2 cv (hr.mono r2l)).mono ?_
   rintro en w3 ⟨va,r3,rfl,bH,cc,rg,fL⟩
   rcases ha:rdK d' r2 with _ | ⟨ta,r3'⟩
   ·obtain rfl:=rg ha
    have Ha:=g_ ha;clear ha rg fL
    go_wp2_with fail
    go_ret
    exact uX.no (by rw [qK h1,h2.out];simp [Ha.out]) ((bU.trans bY).trans bH) cc
   obtain ⟨rfl,mD⟩:=fL _ _ ha
   obtain ⟨ba,rfl⟩:∃ ba,va=.pointer (some ⟨ba,0,none⟩):=by obtain ⟨ba,_,h,_⟩:=za mD;exact ⟨ba,h⟩
   have r3l:=(rdK_le _ ha).1
   have Ha:=g_ ha;clear ha rg fL
   have hb:=(bU.trans bY).trans bH;have hb2z:=(bU.trans bY).size;clear bU bY
   go_wp2_with fail
   rcases zq [32] r3 with h4 | ⟨r4,h4⟩
   ·refine (qd cc h4).mono ?_
    rintro en w4 ⟨rfl,bC,b7⟩
    go_wp2_with fail
    go_ret
    exact uX.no (by rw [qK h1,h2.out];simp [Ha.out,h4.out]) (hb.trans bC) b7
   refine (qX cc h4).mono ?_
   rintro en w4 ⟨rfl,bC,b7⟩
   go_wp2_with fail
   have r4l:=h4.le
   refine (IH'.out r4 w4 b7 (hr.mono (by omega))).mono ?_
   rintro en w5 ⟨vb,r5,rfl,bF,dM,dh,dw⟩
   rcases hbb:rdK d' r4 with _ | ⟨tb,r5'⟩
   ·obtain rfl:=dh hbb
    have Hb:=g_ hbb;clear hbb dh dw
    go_wp2_with fail
    go_ret
    exact uX.no (by rw [qK h1,h2.out];simp [Ha.out,h4.out,Hb.out]) ((hb.trans bC).trans bF) dM
   obtain ⟨rfl,dQ⟩:=dw _ _ hbb
   obtain ⟨bb,rfl⟩:∃ ba,vb=.pointer (some ⟨ba,0,none⟩):=by obtain ⟨ba,_,h,_⟩:=za dQ;exact ⟨ba,h⟩
   have r5l:=rdK_le _ hbb
   have Hb:=g_ hbb;clear hbb dh dw
   go_wp2_with fail
   rcases zq [41] r5 with h6 | ⟨r6,h6⟩
   ·refine (qd dM h6).mono ?_
    rintro en w6 ⟨rfl,bW,dr⟩
    go_wp2_with fail
    go_ret
    exact uX.no (by rw [qK h1,h2.out];simp [Ha.out,h4.out,Hb.out,h6.out]) (((hb.trans bC).trans bF).trans bW) dr
   refine (qX dM h6).mono ?_
   rintro en w6 ⟨rfl,bW,dr⟩
   have fV:=ju hs
   have z1:=hb.size;have z3:=bH.size;have z4:=bC.size;have z5:=bF.size;have z6:=bW.size;have z2:=bH.size
   have w2z:w.heap.size<=w2.heap.size:=by have:=hb2z;omega
   have ra:Rep (w.heap.size<=·) w6 (jd ta) (.pointer (some ⟨ba,0,none⟩)):=Rep.but ((bC.trans bF).trans bW) (fun b h=>⟨by omega,by omega⟩) mD
   have rb:Rep (w.heap.size<=·) w6 (jd tb) (.pointer (some ⟨bb,0,none⟩)):=Rep.but bW (fun b h=>⟨by omega,by omega⟩) dQ
   go_wp2_with fail
   refine (arrow_any _ ta tb _ _ w6 ra rb (hr.mono (by omega))).mono ?_
   rintro en w7 ⟨v,rfl,bB,hv⟩
   obtain ⟨bv,rfl⟩:∃ ba,v=.pointer (some ⟨ba,0,none⟩):=by obtain ⟨ba,_,h,_⟩:=za hv;exact ⟨ba,h⟩
   go_wp2_with fail
   go_ret
   refine uX.yes (t:=jW ta tb) (r:=r6) (by rw [qK h1,h2.out];simp [Ha.out,h4.out,Hb.out,h6.out]) ((((hb.trans bC).trans bF).trans bW).trans (But.ofBelow bB)) ?_ ?_
   ·exact (bB.block sc (by omega)).trans dr
   ·exact (Rep.keep fun b o h ho=>⟨by rcases h with h | h <;> omega,ho⟩).1 _ _ hv
 ·refine (qX hs h1).mono ?_
  rintro en w1 ⟨rfl,bU,b8⟩
  go_wp2_with fail
  go_ret
  refine uX.yes (t:=.mk []) (r:=r1) (vE h1) (bU.alloc _) (b8.alloc _) ?_
  refine encK_shut (F:=(w.heap.size<=·)) bU.size (zO _ _) ?_
  exact (kD.2 ⟨rfl,none,0,rfl,hG _,fun _=>rfl,.inl rfl⟩)
theorem kind_any (sc:Nat) (c:List Value) (e:TypeId) (d:Nat) (hd:d<=1000):gl sc c e d:=by
 induction d with
 | zero=>exact kind_step sc c e 0 hd (fun d' h=>by omega)
 | succ d ih=>exact kind_step sc c e (d+1) hd (fun d' h=>by obtain rfl:d=d':=by omega
                                                            exact ih (by omega))
def wS (F:Nat->Prop) (w:World) (t:Ty):Prop:=∀ v,Rep F w (jd t) v ->
 Calls Tryz.prog 60 #[v] w fun en w'=>en=.returned (.int .i64 (zX t))/\w'=w
theorem atoms_step (F:Nat->Prop) (w:World) (t:Ty) (hl:Lim (zX t)) (ih:∀ t',zX t'<zX t->wS F w t'):wS F w t:=by
 intro v hv
 obtain ⟨b,s,rfl,hb,hc,hs⟩:=za hv
 have c1:w.cell? ⟨b,0,none⟩=some s:=by simp [World.cell?,hc]
 obtain ⟨a,cap,rfl,hn,bP,bL⟩:=zF hs
 have IH:=g_ ih;clear ih hc hv hs
 have e1:=kw t
 have E1:=g_ e1;clear e1
 have ct:=hl.le
 have hlb:t.args.length<=16777216:=by
  have h:∀ ts:List Ty,ts.length<=zR ts:=by intro ts;induction ts with
   | nil=>simp
   | cons t ts ih=>simp [zR];omega
  have:=h t.args;have:=E1.out;omega
 have HL:=g_ bP;clear bP
 have AT:=g_ bL;clear bL
 go_enter Tryz.func60,Tryz.ntmps60
 go_wp2_with fail
 go_loop [3,11] (fun n i=>∃ k:Nat,k<=t.args.length/\i=.int .i64 k/\n=.int .i64 ((1+zR (t.args.take k):Nat):Int)) (fun _ i=>t.args.length-(intOf i).toNat)
 case atStart=>exact ⟨0,Nat.zero_le _,rfl,by simp [zR]⟩
 case round =>
  obtain ⟨k,hk,rfl,rfl⟩:=hrel
  by_cases bX:k<t.args.length
  ·obtain ⟨b',o,u,d,rfl,_,bS,hd,hu,hr⟩:=AT.out k bX
   rw [vu,Option.map_eq_some_iff] at hd
   obtain ⟨t',cO,rfl⟩:=hd
   have hs:=uA cO
   have cN:=vB t.args (k+1)
   have cw:=E1.out
   have IH':=g_ (IH.out t' (by omega))
   have HS:=g_ hs
   have b1:1+zR (t.args.take k)+(1+zX t')<=16777216:=by omega
   have HT:=g_ cO;clear hs cO cw
   obtain ⟨bu,eu⟩:∃ bu,u=.pointer (some ⟨bu,0,none⟩):=by obtain ⟨ba,_,h,_⟩:=za hr;exact ⟨ba,h⟩
   subst eu
   go_wp2_with fail
   refine (IH'.out _ hr).mono ?_
   rintro en w' ⟨rfl,ew⟩
   subst ew
   go_wp2_with fail
   go_round
   case rel=>exact ⟨k+1,by omega,by go_num,by rw [HS.out];go_num⟩
   case measure=>simp [intOf];omega
  ·go_wp2_with fail
   go_ret
   have:k=t.args.length:=by omega
   subst this
   exact ⟨j8 (by rw [E1.out,List.take_length];simp),rfl⟩
theorem atoms_any (F:Nat->Prop) (w:World) (n:Nat):∀ t,zX t<=n->Lim n->wS F w t:=by
 induction n with
 | zero=>intro t h _;have:=kx t;omega
 | succ n ih=>exact fun t h hn=>atoms_step F w t (hn.mono h) (fun t' h'=>ih t' (by omega) (hn.mono (by omega)))
def jx (l:Bs):Option Ty:=match rdK 15 l with
 | some (t,[])=>if zX t<=15 then some t else none
 | _=>none
def RKPost (w:World) (o:Option Ty) (en:Ending) (w':World):Prop :=
 ∃ v,en=.returned v/\Below w.heap.size w w'/\(o=none->v=.pointer none)/\(∀ t,o=some t->Rep (w.heap.size<=·) w' (jd t) v)
theorem xK (l:Bs) (w:World) (hl:Lim l.length) :
 Calls Tryz.prog 37 #[str l] w (RKPost w (jx l)):=by
 have ct:=hl.le
 go_enter Tryz.func37,Tryz.ntmps37
 go_wp2_with fail
 have dO:kQ w.heap.size [] 92 l (w.alloc (.cells #[str l] 92)):=zO _ _
 refine (kind_any _ _ _ 15 (by omega) l _ dO hl).mono ?_
 rintro en w1 ⟨v,r1,rfl,bU,b8,bz,b6⟩
 have hb:Below w.heap.size w w1:=((bZ w.heap.size w).alloc (hG _) _).trans (bU.toBelow (by simp) (fun i hi e=>by omega))
 rcases ha:rdK 15 l with _ | ⟨t,r1'⟩
 ·obtain rfl:=bz ha
  have Ha:=g_ ha;clear ha bz b6
  go_wp2_with fail
  go_ret
  exact ⟨_,rfl,hb,fun _=>rfl,fun t h=>by simp [jx,Ha.out] at h⟩
 obtain ⟨rfl,mD⟩:=b6 _ _ ha
 obtain ⟨ba,rfl⟩:∃ ba,v=.pointer (some ⟨ba,0,none⟩):=by obtain ⟨ba,_,h,_⟩:=za mD;exact ⟨ba,h⟩
 have bL:=wJ _ ha
 have Ha:=g_ ha;clear ha bz b6
 have c_:=b8.cell
 have hz:w.heap.size<w1.heap.size:=ju b8
 cases r1 with
 | cons x xs =>
   have hne:(!(x::xs).isEmpty)=true:=rfl
   go_wp2_with fail
   go_ret
   exact ⟨_,rfl,hb,fun _=>rfl,fun t h=>by simp [jx,Ha.out] at h⟩
 | nil =>
   go_wp2_with fail
   refine (atoms_any _ w1 (zX t) t (hG _) (hl.mono (by omega)) _ mD).mono ?_
   rintro en w2 ⟨rfl,e2⟩
   subst e2
   by_cases dL:zX t<=15
   ·go_wp2_with fail
    go_ret
    have HM:jx l=some t:=by simp [jx,Ha.out,dL]
    exact ⟨_,rfl,hb,fun h=>by simp [HM] at h,fun t' h=>by rw [HM] at h;simp at h;subst h;exact (Rep.keep fun b o h ho=>⟨by have:=h;simp at this;omega,ho⟩).1 _ _ mD⟩
   ·go_wp2_with fail
    go_ret
    have HM:jx l=none:=by simp [jx,Ha.out,dL]
    exact ⟨_,rfl,hb,fun _=>rfl,fun t' h=>by rw [HM] at h;simp at h⟩
theorem growK_any (n:Nat) (w:World) (hn:Lim n) :
 Calls Tryz.prog 122 #[.slice none 0 0,.int .i64 n] w fun en w' =>
  ∃ a c,en=.returned (.slice a 0 c)/\Own w' 45 1 (.slice a 0 c) 0 []/\Below w.heap.size w w'/\(∀ g,(Value.slice a 0 c).ownBlock=some g->w.heap.size<=g):=by
 have hl:=hn.le
 by_cases h0:n=0
 ·subst h0
  go_enter Tryz.func122,Tryz.ntmps122
  go_wp2_with fail
  go_ret
  exact ⟨none,0,rfl,World.ownsRow_nil _ _ _ _,bZ _ _,fun g h=>by simp [Value.ownBlock] at h⟩
 ·have h1:0<n:=by omega
  clear h0
  go_enter Tryz.func122,Tryz.ntmps122
  go_wp2_with (at_builtin;refine yR rfl _ _ 86 3 rfl 45 (.pointer none) 1 8 Tryz.underlying86 Tryz.underlying3 Tryz.infoK rfl (by decide) (by decide) rfl n rfl h1 hl ?_)
  intro cap c c_ da sm
  go_wp2_with fail
  go_ret
  exact ⟨_,cap,rfl,⟨by simp,.inr ⟨w.heap.size,cap,c,rfl,Nat.zero_le _,zO w _,Nat.zero_le _,da,by simpa using sm,by simp⟩⟩,((bZ _ _).alloc (hG _) _).drew,fun g h=>by simp [Value.ownBlock] at h;omega⟩
theorem zp.slice {size:Nat} {x:Value} {m:Nat} {news:List Value} {w:World} (h:zp size x m news w):∃ a c,x=.slice a m c:=by
 obtain ⟨_,_,⟨a,c,rfl,_⟩ | ⟨rfl,rfl⟩⟩:=h
 ·exact ⟨_,_,rfl⟩
 ·exact ⟨_,_,rfl⟩
theorem zp.below {w w':World} {size:Nat} {x:Value} {m:Nat} {news:List Value} (hb:Below w.heap.size w w') (h:zp size x m news w):zp size x m news w' :=
 h.keep fun a v hv=>by rw [hb.cell (h_ w a hv)];exact hv
def wR (e:TypeId) (w:World) (n1 n2:Nat) (xs1 xs2:List Value) (v i:Value) (wr:World):Prop :=
 ∃ k m xs a c,i=.int .i64 (k:Nat)/\v=.slice a m c/\Own wr e 1 (.slice a m c) m xs/\Below w.heap.size w wr/\(∀ g,(Value.slice a m c).ownBlock=some g->w.heap.size<=g) /\
   ((k=0/\m=0/\xs=[])\/(k=1/\m=n1/\xs=xs1)\/(k=2/\m=n1+n2/\xs=xs1++xs2))
theorem wR.next {e:TypeId} {w:World} {n1 n2:Nat} {xs1 xs2:List Value} {k m m':Nat} {xs:List Value} {a a':Option Addr} {c c':Nat} {wr w':World}
 (ho:Own w' e 1 (.slice a' m' c') m' xs) (hb:Below w.heap.size w wr) (cC:But (fun b=>(Value.slice a m c).ownBlock=some b) wr w')
 (hf:∀ g,(Value.slice a m c).ownBlock=some g->w.heap.size<=g) (hg:∀ g,(Value.slice a' m' c').ownBlock=some g->(Value.slice a m c).ownBlock=some g\/g=wr.heap.size)
 (hk:(k=0/\m'=0/\xs=[])\/(k=1/\m'=n1/\xs=xs1)\/(k=2/\m'=n1+n2/\xs=xs1++xs2)):wR e w n1 n2 xs1 xs2 (.slice a' m' c') (.int .i64 (k:Nat)) w' :=
 ⟨k,m',xs,a',c',rfl,rfl,ho,hb.trans (cC.toBelow hb.size fun i hi h=>by have:=hf i h;omega),fun g h=>by
  rcases hg g h with h | h
  ·exact hf g h
  ·have:=hb.size;omega,hk⟩
theorem concatK_any (b n1 n2:Nat) (s1 s2:Value) (xs1 xs2:List Value) (w:World) (c1:w.cell? ⟨b,0,none⟩=some s1) (c2:w.cell? ⟨b,1,none⟩=some s2)
 (h1:zp 1 s1 n1 xs1 w) (h2:zp 1 s2 n2 xs2 w) (bz:Lim n1) (cr:Lim n2) (hn:Lim (n1+n2)) :
 Calls Tryz.prog 93 #[.slice (some ⟨b,0,none⟩) 2 2] w fun en w' =>
  ∃ a c,en=.returned (.slice a (n1+n2) c)/\Own w' 45 1 (.slice a (n1+n2) c) (n1+n2) (xs1++xs2)/\Below w.heap.size w w'/\(∀ g,(Value.slice a (n1+n2) c).ownBlock=some g->w.heap.size<=g):=by
 obtain ⟨a1,k1,rfl⟩:=h1.slice
 obtain ⟨a2,k2,rfl⟩:=h2.slice
 have hl:=hn.le;have aU:=bz.le;have hl2:=cr.le
 have lb:b<w.heap.size:=h_ w _ c1
 go_enter Tryz.func93,Tryz.ntmps93
 go_wp2_with fail
 go_loop [3,11] (fun n i=>(i=.int .i64 0/\n=.int .i64 0)\/(i=.int .i64 1/\n=.int .i64 n1)\/(i=.int .i64 2/\n=.int .i64 ((n1:Int)+(n2:Int)))) (fun _ i=>2-(intOf i).toNat)
 case atStart=>exact .inl ⟨rfl,rfl⟩
 case round =>
  rcases hrel with ⟨rfl,rfl⟩ | ⟨rfl,rfl⟩ | ⟨rfl,rfl⟩
  ·go_wp2_with fail
   go_round
   case rel=>exact .inr (.inl ⟨rfl,rfl⟩)
   case measure=>simp [intOf]
  ·go_wp2_with fail
   go_round
   case rel=>exact .inr (.inr ⟨rfl,rfl⟩)
   case measure=>simp [intOf]
  ·go_wp2_with fail
   rw [show (n1:Int)+(n2:Int)=((n1+n2:Nat):Int) from by omega]
   refine (growK_any (n1+n2) w hn).mono ?_
   rintro en wg ⟨ag,cg,rfl,hog,de,hfg⟩
   have fi:wR 45 w n1 n2 xs1 xs2 (.slice ag 0 cg) (.int .i64 (0:Nat)) wg:=⟨0,0,[],ag,cg,rfl,rfl,hog,de,hfg,.inl ⟨rfl,rfl,rfl⟩⟩
   clear hog de hfg
   go_wp2_with fail
   go_loopw [6,27] (fun v i wr=>wR 45 w n1 n2 xs1 xs2 v i wr) (fun _ i _=>2-(intOf i).toNat)
   case atStart=>exact fi
   case round =>
    rename_i wr
    obtain ⟨k,m,xs,a,c,rfl,rfl,ho,hb,hf,hk⟩:=hrel
    have d1:wr.cell? ⟨b,0,none⟩=some (.slice a1 n1 k1):=by rw [hb.cell lb];exact c1
    have d2:wr.cell? ⟨b,1,none⟩=some (.slice a2 n2 k2):=by rw [hb.cell lb];exact c2
    have g1:=h1.below hb;have g2:=h2.below hb
    have HF:=g_ hf;clear hf
    rcases hk with ⟨rfl,rfl,rfl⟩ | ⟨rfl,rfl,rfl⟩ | ⟨rfl,rfl,rfl⟩
    ·go_wp2_with (at_builtin;refine zu rfl _ _ 86 rfl 45 (.pointer none) 1 8 Tryz.underlying86 Tryz.infoK rfl (by decide) _ 0 [] rfl ho _ n1 xs1 rfl g1 ?c3 ?c4 ?_)
     case c3=>unfold maxLen;omega
     case c4=>omega
     intro a' c' w' eS bS b5
     have fi:=wR.next (n1:=n1) (n2:=n2) (xs1:=xs1) (xs2:=xs2) (k:=1) eS hb bS HF.out b5 (.inr (.inl ⟨rfl,rfl,rfl⟩))
     clear bS b5 eS HF
     go_wp2_with fail
     go_roundw
     case rel=>exact fi
     case measure=>simp [intOf]
    ·go_wp2_with (at_builtin;refine zu rfl _ _ 86 rfl 45 (.pointer none) 1 8 Tryz.underlying86 Tryz.infoK rfl (by decide) _ m xs rfl ho _ n2 xs2 rfl g2 ?c3 ?c4 ?_)
     case c3=>unfold maxLen;omega
     case c4=>omega
     intro a' c' w' eS bS b5
     have fi:=wR.next (n1:=m) (n2:=n2) (xs1:=xs) (xs2:=xs2) (k:=2) eS hb bS HF.out b5 (.inr (.inr ⟨rfl,rfl,rfl⟩))
     clear bS b5 eS HF
     go_wp2_with fail
     go_roundw
     case rel=>exact fi
     case measure=>simp [intOf]
    ·go_wp2_with fail
     go_ret
     exact ⟨a,c,rfl,ho,hb,HF.out⟩
inductive Bd where
 | leaf (c:UInt8)
 | ask (v:Nat) (subs:List Bd) (yes no:Bd)
mutual
def jT:Bd->DV
 | .leaf c=>.ptr 127 [.val (str [c]),.val (.int .i64 (0:Nat)),.sl 46 1 0 [],.val (.pointer none),.val (.pointer none)]
 | .ask v ss y n=>.ptr 127 [.val (str []),.val (.int .i64 v),.sl 46 1 ss.length (jm ss),jT y,jT n]
def jm:List Bd->List DV
 | []=>[]
 | b::bs=>jT b::jm bs
end
def sep (c:UInt8):Bool:=c == 32 || c == 40 || c == 41
def zY (l:Bs):Bs:=l.takeWhile (fun c=>!sep c)
def zV (l:Bs):Bs:=l.dropWhile (fun c=>!sep c)
def lvl (w:Bs) (n:Nat):Option Nat :=
 match Lib.atoiAll w with
 | .ok v=>if Lib.itoa v=w/\0<=v/\v<n then some v.toNat else none
 | _=>none
abbrev Rd:=List Ty->Nat->Bs->Option (Bd×Bs×Nat)
def zx (rd:Rd):List (List Ty)->Nat->Bs->Option (List Bd×Bs×Nat)
 | [],left,l=>some ([],l,left)
 | h::hs,left,l=>do
   let l1<-cut [32] l
   let (b,l2,bD)<-rd h left l1
   let (bs,l3,cE)<-zx rd hs bD l2
   some (b::bs,l3,cE)
def gK (rd:Rd) (levels:List Ty) (v:Nat) (t:Ty) (left:Nat) (l:Bs):Option (Bd×Bs×Nat):=do
 let (ss,l1,cL)<-zx rd (t.args.map fun a=>levels++a.args) left l
 let (yn,l2,bD)<-zx rd [levels,levels] cL l1
 match yn with
 | [y,n]=>do
   let l3<-cut [41] l2
   some (.ask v ss y n,l3,bD)
 | _=>none
def rdB:Nat->Rd
 | d,levels,left,l =>
   match left with
   | 0=>none
   | left+1 =>
     match cut [40] l with
     | none=>if zY l=[116] then some (.leaf 116,zV l,left) else if zY l=[102] then some (.leaf 102,zV l,left) else if zY l=[117] then some (.leaf 117,zV l,left) else none
     | some r=>match lvl (zY r) levels.length with
       | none=>none
       | some v=>match d with
         | 0=>none
         | d+1=>match levels[v]? with
           | none=>none
           | some t=>gK (rdB d) levels v t left (zV r)
def qW (rd:Rd) (levels:List Ty) (left:Nat) (l:Bs):Option (Bd×Bs×Nat):=do
 let l1<-cut [32] l
 rd levels left l1
theorem qy (rd:Rd) (h:List Ty) (hs:List (List Ty)) (left:Nat) (l:Bs):zx rd (h::hs) left l=(do
 let (b,l2,bD)<-qW rd h left l
 let (bs,l3,cE)<-zx rd hs bD l2
 some (b::bs,l3,cE)):=by
 rw [zx,qW]
 cases cut [32] l <;> rfl
theorem rdParts_snoc (rd:Rd) (hs:List (List Ty)) (h:List Ty):∀ (left:Nat) (l:Bs),zx rd (hs++[h]) left l=(do
 let (bs,l2,bD)<-zx rd hs left l
 let (b,l3,cE)<-qW rd h bD l2
 some (bs++[b],l3,cE)):=by
 induction hs with
 | nil =>
   intro left l
   rw [List.nil_append,qy]
   simp only [zx,Option.bind_eq_bind,Option.bind_some]
   cases qW rd h left l <;> simp
 | cons h' hs ih =>
   intro left l
   rw [List.cons_append,qy,qy]
   simp only [Option.bind_eq_bind]
   cases hp:qW rd h' left l with
   | none=>simp
   | some x =>
     obtain ⟨b,l2,bD⟩:=x
     simp only [Option.bind_some,ih,Option.bind_eq_bind]
     cases hq:zx rd hs bD l2 with
     | none=>simp
     | some y =>
       obtain ⟨bs,l3,cE⟩:=y
       simp only [Option.bind_some]
       cases hr:qW rd h cE l3 with
       | none=>simp
       | some z=>simp
def zi (levels ts:List Ty):List (List Ty):=ts.map fun a=>levels++a.args
theorem gI {levels ts:List Ty} {k:Nat} {t:Ty} (h:ts[k]? = some t):zi levels (ts.take (k+1))=zi levels (ts.take k)++[levels++t.args]:=by
 rw [List.take_add_one,h];simp [zi]
theorem rdAsk_eq (rd:Rd) (levels:List Ty) (v:Nat) (t:Ty) (left:Nat) (l:Bs):gK rd levels v t left l=(do
 let (ss,l1,cL)<-zx rd (zi levels t.args) left l
 let (y,l2,bD)<-qW rd levels cL l1
 let (n,l3,cE)<-qW rd levels bD l2
 let l4<-cut [41] l3
 some (.ask v ss y n,l4,cE)):=by
 rw [gK]
 show _=(zx rd (zi levels t.args) left l).bind _
 show (zx rd (zi levels t.args) left l).bind _=_
 cases zx rd (zi levels t.args) left l with
 | none=>rfl
 | some x =>
   obtain ⟨ss,l1,cL⟩:=x
   simp only [Option.bind_some,qy,Option.bind_eq_bind]
   cases qW rd levels cL l1 with
   | none=>rfl
   | some y =>
     obtain ⟨y,l2,bD⟩:=y
     simp only [Option.bind_some]
     cases qW rd levels bD l2 with
     | none=>rfl
     | some z =>
       obtain ⟨n,l3,cE⟩:=z
       simp [zx]
theorem lvl_lt {w:Bs} {n v:Nat} (h:lvl w n=some v):v<n/\Lib.atoiAll w=.ok (v:Int)/\Lib.itoa (v:Int)=w:=by
 unfold lvl at h
 split at h
 ·rename_i u hu
  split at h
  ·rename_i hc
   simp at h;subst h
   have e:((u.toNat:Nat):Int)=u:=by omega
   exact ⟨by omega,by rw [e];exact hu,by rw [e];exact hc.1⟩
  ·simp at h
 ·simp at h
theorem lvl_no {w:Bs} {n:Nat} (h:lvl w n=none):(∀ v,Lib.atoiAll w≠.ok v)\/∃ v,Lib.atoiAll w=.ok v/\(Lib.itoa v≠w\/(Lib.itoa v=w/\v<0)\/(Lib.itoa v=w/\0<=v/\(n:Int)<=v)):=by
 unfold lvl at h
 cases ha:Lib.atoiAll w
 ·rename_i u
  rw [ha] at h;simp at h
  refine .inr ⟨u,rfl,?_⟩
  by_cases h1:Lib.itoa u=w
  ·by_cases h2:0<=u
   ·exact .inr (.inr ⟨h1,h2,h h1 h2⟩)
   ·exact .inr (.inl ⟨h1,by omega⟩)
  ·exact .inl h1
 ·exact .inl fun v h=>by simp at h
 ·exact .inl fun v h=>by simp at h
theorem uQ {rd:Rd} {levels:List Ty} {left:Nat} {l:Bs} (cf:∀ {lv lf m b r f},rd lv lf m=some (b,r,f)->r.length<=m.length/\f<=lf) {b:Bd} {r:Bs} {f:Nat} (h:qW rd levels left l=some (b,r,f)):r.length<=l.length/\f<=left:=by
 unfold qW at h
 simp only [Option.bind_eq_bind,Option.bind_eq_some_iff] at h
 obtain ⟨l1,h1,h2⟩:=h
 have:=Cut.le h1;have:=cf h2
 exact ⟨by omega,this.2⟩
theorem uH {rd:Rd} (cf:∀ {lv lf m b r f},rd lv lf m=some (b,r,f)->r.length<=m.length/\f<=lf) (hs:List (List Ty)):∀ {left:Nat} {l:Bs} {bs:List Bd} {r:Bs} {f:Nat},zx rd hs left l=some (bs,r,f)->r.length<=l.length/\f<=left/\bs.length=hs.length:=by
 induction hs with
 | nil=>intro left l bs r f h;simp [zx] at h;obtain ⟨rfl,rfl,rfl⟩:=h;simp
 | cons h' hs ih =>
   intro left l bs r f h
   rw [qy] at h
   simp only [Option.bind_eq_bind,Option.bind_eq_some_iff,Prod.exists] at h
   obtain ⟨b,l2,f2,h1,bs',l3,f3,h2,h3⟩:=h
   simp at h3;obtain ⟨rfl,rfl,rfl⟩:=h3
   have:=uQ cf h1;have:=ih h2
   exact ⟨by omega,by omega,by simp [this.2.2]⟩
theorem vw (l:Bs):(zV l).length<=l.length:=by
 have:zY l++zV l=l:=List.takeWhile_append_dropWhile
 have:=congrArg List.length this;simp at this;omega
theorem gZ (d:Nat):∀ {lv lf m b r f},rdB d lv lf m=some (b,r,f)->r.length<=m.length/\f<=lf:=by
 induction d with
 | zero =>
   intro lv lf m b r f h
   cases lf with
   | zero=>simp [rdB] at h
   | succ lf =>
     unfold rdB at h
     simp only at h
     have hw:=vw m
     cases hc:cut [40] m with
     | none =>
       rw [hc] at h
       simp only at h
       split at h
       ·simp at h;obtain ⟨_,rfl,rfl⟩:=h;exact ⟨hw,by omega⟩
       ·split at h
        ·simp at h;obtain ⟨_,rfl,rfl⟩:=h;exact ⟨hw,by omega⟩
        ·split at h
         ·simp at h;obtain ⟨_,rfl,rfl⟩:=h;exact ⟨hw,by omega⟩
         ·simp at h
     | some r1 =>
       rw [hc] at h;simp only at h
       split at h <;> simp at h
 | succ d ih =>
   intro lv lf m b r f h
   cases lf with
   | zero=>simp [rdB] at h
   | succ lf =>
     unfold rdB at h
     simp only at h
     have hw:=vw m
     cases hc:cut [40] m with
     | none =>
       rw [hc] at h
       simp only at h
       split at h
       ·simp at h;obtain ⟨_,rfl,rfl⟩:=h;exact ⟨hw,by omega⟩
       ·split at h
        ·simp at h;obtain ⟨_,rfl,rfl⟩:=h;exact ⟨hw,by omega⟩
        ·split at h
         ·simp at h;obtain ⟨_,rfl,rfl⟩:=h;exact ⟨hw,by omega⟩
         ·simp at h
     | some r1 =>
       rw [hc] at h;simp only at h
       have k0:=Cut.le hc;have k1:=vw r1
       split at h
       ·simp at h
       ·split at h
        ·simp at h
        ·rw [rdAsk_eq] at h
         simp only [Option.bind_eq_bind,Option.bind_eq_some_iff,Prod.exists] at h
         obtain ⟨ss,l1,f1,h1,y,l2,f2,h2,n,l3,f3,h3,l4,h4,h5⟩:=h
         simp at h5;obtain ⟨_,rfl,rfl⟩:=h5
         have:=uH ih _ h1;have:=uQ ih h2;have:=uQ ih h3;have:=Cut.le h4
         exact ⟨by omega,by omega⟩
theorem xV (d:Nat) (levels:List Ty) (left:Nat) {l r:Bs} (h:cut [40] l=some r):rdB d levels (left+1) l=(match lvl (zY r) levels.length with
        | none=>none
        | some v=>match d with
          | 0=>none
          | d+1=>match levels[v]? with
            | none=>none
            | some t=>gK (rdB d) levels v t left (zV r)):=by
 cases d <;> (unfold rdB;simp only [h]) <;> rfl
theorem xJ (d:Nat) (levels:List Ty) (left:Nat) {l:Bs} (h:cut [40] l=none):rdB d levels (left+1) l=(if zY l=[116] then some (Bd.leaf 116,zV l,left) else if zY l=[102] then some (.leaf 102,zV l,left) else if zY l=[117] then some (.leaf 117,zV l,left) else none):=by
 unfold rdB;simp only [h]
theorem yS (rd:Rd) (hs gs:List (List Ty)):∀ (left:Nat) (l:Bs),zx rd hs left l=none->zx rd (hs++gs) left l=none:=by
 induction hs with
 | nil=>intro left l h;simp [zx] at h
 | cons h' hs ih =>
   intro left l h
   rw [qy] at h
   rw [List.cons_append,qy]
   simp only [Option.bind_eq_bind] at *
   cases hp:qW rd h' left l with
   | none=>simp
   | some x =>
     obtain ⟨b,l2,bD⟩:=x
     rw [hp] at h
     simp only [Option.bind_some] at *
     cases hq:zx rd hs bD l2 with
     | none=>rw [ih _ _ hq];simp
     | some y=>rw [hq] at h;simp at h
theorem hands_none {rd:Rd} {levels ts:List Ty} {left:Nat} {l:Bs} (k:Nat) (h:zx rd (zi levels (ts.take k)) left l=none):zx rd (zi levels ts) left l=none:=by
 have e:zi levels ts=zi levels (ts.take k)++zi levels (ts.drop k):=by
  unfold zi;rw [<- List.map_append,List.take_append_drop]
 rw [e];exact yS rd _ _ _ _ h
theorem gO {rd:Rd} {levels ts:List Ty} {left:Nat} {l:Bs} {k:Nat} {t:Ty} {bs:List Bd} {lk:Bs} {leftk:Nat} (ht:ts[k]? = some t) (h:zx rd (zi levels (ts.take k)) left l=some (bs,lk,leftk)) :
 zx rd (zi levels (ts.take (k+1))) left l=(qW rd (levels++t.args) leftk lk).map fun x=>(bs++[x.1],x.2.1,x.2.2):=by
 rw [gI ht,rdParts_snoc,h]
 simp only [Option.bind_eq_bind,Option.bind_some]
 cases qW rd (levels++t.args) leftk lk with
 | none=>rfl
 | some x=>rfl
def kj:Bd->List Bd
 | .leaf _=>[]
 | .ask _ ss y n=>ss++[y,n]
mutual
def zD:Bd->Nat
 | .leaf _=>1
 | .ask _ ss y n=>1+(zE ss+(zD y+zD n))
def zE:List Bd->Nat
 | []=>0
 | b::bs=>zD b+zE bs
end
mutual
def vH:Bd->Nat
 | .leaf _=>0
 | .ask _ ss y n=>max (jV ss) (max (1+vH y) (1+vH n))
def jV:List Bd->Nat
 | []=>0
 | b::bs=>max (1+vH b) (jV bs)
end
theorem kf (a b:List Bd):zE (a++b)=zE a+zE b:=by
 induction a with
 | nil=>simp [zE]
 | cons t ts ih=>simp [zE,ih];omega
theorem gq (a b:List Bd):jV (a++b)=max (jV a) (jV b):=by
 induction a with
 | nil=>simp [jV]
 | cons t ts ih=>simp only [List.cons_append,jV,ih];omega
theorem vg (b:Bd):zD b=1+zE (kj b):=by
 cases b with
 | leaf c=>simp [zD,kj,zE]
 | ask v ss y n=>simp [zD,kj,kf,zE]
theorem depthB_parts (b:Bd):vH b=jV (kj b):=by
 cases b with
 | leaf c=>simp [vH,kj,jV]
 | ask v ss y n=>simp only [vH,kj,gq,jV];omega
theorem vp {ts:List Bd} {k:Nat} {t:Bd} (h:ts[k]? = some t):zE (ts.take (k+1))=zE (ts.take k)+zD t:=by
 rw [List.take_add_one,h,kf];simp [zE]
theorem qI (ts:List Bd) (k:Nat):zE (ts.take k)<=zE ts:=by
 have:=kf (ts.take k) (ts.drop k);rw [List.take_append_drop] at this;omega
theorem zf (b:Bd):1<=zD b:=by rw [vg];omega
theorem qz (ts:List Bd):ts.length<=zE ts:=by
 induction ts with
 | nil=>simp
 | cons t ts ih=>simp [zE];have:=zf t;omega
theorem yd {ts:List Bd} {t:Bd} (h:t∈ts):zD t<=zE ts:=by
 induction ts with
 | nil=>simp at h
 | cons x xs ih =>
   rcases List.mem_cons.1 h with rfl | h
   ·simp [zE]
   ·have:=ih h;simp [zE];omega
theorem tw_all {α:Type} (p:α->Bool) (l:List α):∀ c∈l.takeWhile p,p c=true:=by
 induction l with
 | nil=>simp
 | cons x xs ih =>
   intro c hc
   rw [List.takeWhile_cons] at hc
   split at hc
   ·rename_i hx
    rcases List.mem_cons.1 hc with rfl | hc
    ·exact hx
    ·exact ih c hc
   ·simp at hc
theorem tw_end {α:Type} (p:α->Bool) (l:List α):∀ h:(l.takeWhile p).length<l.length,p l[(l.takeWhile p).length]=false:=by
 induction l with
 | nil=>intro h;simp at h
 | cons x xs ih =>
   intro h
   by_cases hx:p x=true
   ·have e:(x::xs).takeWhile p=x::xs.takeWhile p:=by rw [List.takeWhile_cons,if_pos hx]
    have h':(xs.takeWhile p).length<xs.length:=by rw [e] at h;simpa using h
    have:=ih h'
    simp only [e,List.length_cons,List.getElem_cons_succ];exact this
   ·have e:(x::xs).takeWhile p=[]:=by rw [List.takeWhile_cons,if_neg hx]
    simp only [e,List.length_nil,List.getElem_cons_zero];simpa using hx
def dig (c:UInt8):Bool:=48<=c && c<=57
def kZ (m:Bs):Bs:=(m.take 4).takeWhile dig
def qY (ds:Bs):Nat:=ds.foldl (fun n c=>10*n+(c.toNat-48)) 0
def qM (m:Bs):Option (Nat×Nat) :=
 if kZ m=[]\/(1<(kZ m).length/\m.head? = some 48) then none else some (qY (kZ m),(kZ m).length)
theorem yE (m:Bs):(kZ m).length<=4/\(kZ m).length<=m.length:=by
 have h1:(kZ m).length<=(m.take 4).length:=(List.takeWhile_sublist _).length_le
 simp at h1;omega
theorem j9 (m:Bs):kZ m <+: m:=(List.takeWhile_prefix _).trans (List.take_prefix _ _)
theorem j1 (m:Bs):∀ c∈kZ m,dig c=true:=by
 exact tw_all dig _
theorem digsOf_at {m:Bs} {j:Nat} (h:j<(kZ m).length):∃ hm:j<m.length,m[j]=(kZ m)[j]/\dig m[j]=true:=by
 have hp:=j9 m
 have hl:=hp.length_le
 refine ⟨by omega,(hp.getElem h).symm,?_⟩
 rw [<- hp.getElem h]
 exact j1 m _ (List.getElem_mem h)
theorem digsOf_end {m:Bs}:(kZ m).length=4\/m.length<=(kZ m).length\/∃ h:(kZ m).length<m.length,dig m[(kZ m).length]=false:=by
 by_cases h4:(kZ m).length=4
 ·exact .inl h4
 by_cases hl:m.length<=(kZ m).length
 ·exact .inr (.inl hl)
 have cN:=yE m
 refine .inr (.inr ⟨by omega,?_⟩)
 have bX:(kZ m).length<(m.take 4).length:=by simp;omega
 have h2:dig ((m.take 4)[(kZ m).length])=false:=tw_end dig (m.take 4) bX
 rw [List.getElem_take] at h2;exact h2
theorem yu (ds:Bs) (c:UInt8):qY (ds++[c])=10*qY ds+(c.toNat-48):=by
 unfold qY;rw [List.foldl_append];rfl
theorem valOf_take {ds:Bs} {j:Nat} (h:j<ds.length):qY (ds.take (j+1))=10*qY (ds.take j)+(ds[j].toNat-48):=by
 rw [List.take_add_one,List.getElem?_eq_getElem h];exact yu _ _
theorem valOf_lt (ds:Bs) (hd:∀ c∈ds,dig c=true):qY ds<10 ^ ds.length:=by
 have key:∀ (ds:Bs) (a:Nat),(∀ c∈ds,dig c=true)->ds.foldl (fun n c=>10*n+(c.toNat-48)) a<(a+1)*10 ^ ds.length:=by
  intro ds
  induction ds with
  | nil=>intro a _;simp
  | cons c cs ih =>
    intro a h
    have hc:=h c (by simp)
    simp [dig,UInt8.le_iff_toNat_le] at hc
    have:=ih (10*a+(c.toNat-48)) (fun x hx=>h x (by simp [hx]))
    simp only [List.foldl_cons,List.length_cons,Nat.pow_succ]
    refine bJ this ?_
    rw [show (a+1)*(10 ^ cs.length*10)=(10*(a+1))*10 ^ cs.length from by rw [Nat.mul_comm (10 ^ cs.length) 10,<- Nat.mul_assoc,Nat.mul_comm (a+1) 10]]
    exact Nat.mul_le_mul_right _ (by omega)
 simpa [qY] using key ds 0 hd
abbrev RdS:=List Ty->Bs->Option (Bd×Bs)
def kK (rd:RdS) (h:List Ty) (l:Bs):Option (Bd×Bs):=do
 let l1<-cut [32] l
 rd h l1
def zP (rd:RdS):List (List Ty)->Bs->Option (List Bd×Bs)
 | [],l=>some ([],l)
 | h::hs,l=>do
   let (b,l1)<-kK rd h l
   let (bs,l2)<-zP rd hs l1
   some (b::bs,l2)
def k_ (hand:List Ty) (t:Ty):List (List Ty):=zi hand t.args++[hand,hand]
def uv (v n:Nat) (ps:List Bd):Option Bd:=match ps.drop n with
 | [y,no]=>some (.ask v (ps.take n) y no)
 | _=>none
def rdN:Nat->RdS
 | 0,_,_=>none
 | e+1,hand,l=>match l with
   | []=>none
   | c::r=>if c=116\/c=102\/c=117 then some (.leaf c,r) else if c≠40 then none else
     match qM r with
     | none=>none
     | some (v,k)=>match hand[v]? with
       | none=>none
       | some t=>do
         let (ps,l1)<-zP (rdN e) (k_ hand t) (r.drop k)
         let l2<-cut [41] l1
         let b<-uv v t.args.length ps
         some (b,l2)
theorem ph (rd:RdS) (hs:List (List Ty)) (h:List Ty):∀ (l:Bs),zP rd (hs++[h]) l=(do
 let (bs,l1)<-zP rd hs l
 let (b,l2)<-kK rd h l1
 some (bs++[b],l2)):=by
 induction hs with
 | nil =>
   intro l
   simp only [List.nil_append,zP,Option.bind_eq_bind,Option.bind_some]
   done
 | cons h' hs ih =>
   intro l
   simp only [List.cons_append,zP,Option.bind_eq_bind]
   cases hp:kK rd h' l with
   | none=>simp
   | some x =>
     obtain ⟨b,l1⟩:=x
     simp only [Option.bind_some,ih,Option.bind_eq_bind]
     cases hq:zP rd hs l1 with
     | none=>simp
     | some y =>
       obtain ⟨bs,l2⟩:=y
       simp only [Option.bind_some]
       cases hr:kK rd h l2 with
       | none=>simp
       | some z=>simp
theorem uw (rd:RdS) (hs gs:List (List Ty)):∀ (l:Bs),zP rd hs l=none->zP rd (hs++gs) l=none:=by
 induction hs with
 | nil=>intro l h;simp [zP] at h
 | cons h' hs ih =>
   intro l h
   simp only [List.cons_append,zP,Option.bind_eq_bind] at *
   cases hp:kK rd h' l with
   | none=>simp
   | some x =>
     obtain ⟨b,l1⟩:=x
     rw [hp] at h
     simp only [Option.bind_some] at *
     cases hq:zP rd hs l1 with
     | none=>rw [ih _ hq];simp
     | some y=>rw [hq] at h;simp at h
theorem jX {rd:RdS} {hs:List (List Ty)} {l:Bs} (k:Nat) (h:zP rd (hs.take k) l=none):zP rd hs l=none:=by
 have:=uw rd (hs.take k) (hs.drop k) l h
 rwa [List.take_append_drop] at this
theorem vq {rd:RdS} {hs:List (List Ty)} {l:Bs} {k:Nat} {h:List Ty} {ps:List Bd} {lk:Bs} (hk:hs[k]? = some h) (hp:zP rd (hs.take k) l=some (ps,lk)) :
 zP rd (hs.take (k+1)) l=(kK rd h lk).map fun x=>(ps++[x.1],x.2):=by
 rw [List.take_add_one,hk]
 show zP rd (hs.take k++[h]) l=_
 rw [ph,hp]
 simp only [Option.bind_eq_bind,Option.bind_some]
 cases kK rd h lk with
 | none=>rfl
 | some x=>rfl
theorem uK {rd:RdS} (hs:List (List Ty)):∀ {l:Bs} {ps:List Bd} {r:Bs},zP rd hs l=some (ps,r)->ps.length=hs.length:=by
 induction hs with
 | nil=>intro l ps r h;simp [zP] at h;obtain ⟨rfl,rfl⟩:=h;rfl
 | cons h' hs ih =>
   intro l ps r h
   simp only [zP,Option.bind_eq_bind,Option.bind_eq_some_iff,Prod.exists] at h
   obtain ⟨b,l1,h1,bs,l2,h2,h3⟩:=h
   simp at h3;obtain ⟨rfl,rfl⟩:=h3
   simp [ih h2]
theorem allHands_kid {hand:List Ty} {t a:Ty} {k:Nat} (h:t.args[k]? = some a):(k_ hand t)[k]? = some (hand++a.args):=by
 have hl:k<t.args.length:=(List.getElem?_eq_some_iff.1 h).1
 unfold k_
 rw [List.getElem?_append_left (by simpa [zi] using hl)]
 simp [zi,h]
theorem allHands_yes {hand:List Ty} {t:Ty} {k:Nat} (h1:t.args.length<=k) (h2:k<t.args.length+2):(k_ hand t)[k]? = some hand:=by
 unfold k_
 rw [List.getElem?_append_right (by simpa [zi] using h1)]
 simp only [zi,List.length_map]
 rcases (by omega:k-t.args.length=0\/k-t.args.length=1) with h | h <;> simp [h]
theorem vC (hand:List Ty) (t:Ty):(k_ hand t).length=t.args.length+2:=by simp [k_,zi]
theorem pP {rd:RdS} (cf:∀ {h l b r},rd h l=some (b,r)->r <:+ l) {h:List Ty} {l r:Bs} {b:Bd} (hp:kK rd h l=some (b,r)):r <:+ l:=by
 unfold kK at hp
 simp only [Option.bind_eq_bind,Option.bind_eq_some_iff] at hp
 obtain ⟨l1,h1,h2⟩:=hp
 refine (cf h2).trans ?_
 unfold cut at h1;split at h1
 ·simp at h1;subst h1;first | exact List.tail_suffix _ | exact List.drop_suffix _ _
 ·simp at h1
theorem xo {rd:RdS} (cf:∀ {h l b r},rd h l=some (b,r)->r <:+ l) (hs:List (List Ty)):∀ {l r:Bs} {ps:List Bd},zP rd hs l=some (ps,r)->r <:+ l:=by
 induction hs with
 | nil=>intro l r ps h;simp [zP] at h;obtain ⟨rfl,rfl⟩:=h;exact List.suffix_refl _
 | cons h' hs ih =>
   intro l r ps h
   simp only [zP,Option.bind_eq_bind,Option.bind_eq_some_iff,Prod.exists] at h
   obtain ⟨b,l1,h1,bs,l2,h2,h3⟩:=h
   simp at h3;obtain ⟨rfl,rfl⟩:=h3
   exact (ih h2).trans (pP cf h1)
theorem uC (e:Nat):∀ {h:List Ty} {l:Bs} {b:Bd} {r:Bs},rdN e h l=some (b,r)->r <:+ l:=by
 induction e with
 | zero=>intro h l b r hq;simp [rdN] at hq
 | succ e ih =>
   intro h l b r hq
   cases l with
   | nil=>simp [rdN] at hq
   | cons c m =>
     simp only [rdN] at hq
     split at hq
     ·simp at hq;obtain ⟨_,rfl⟩:=hq;exact List.suffix_cons _ _
     ·split at hq
      ·simp at hq
      ·split at hq
       ·simp at hq
       ·split at hq
        ·simp at hq
        ·simp only [Option.bind_eq_bind,Option.bind_eq_some_iff,Prod.exists] at hq
         obtain ⟨ps,l1,h1,l2,h2,b',h3,h4⟩:=hq
         simp at h4;obtain ⟨_,rfl⟩:=h4
         have k1:=xo ih _ h1
         have k2:l2 <:+ l1:=by
          unfold cut at h2;split at h2
          ·simp at h2;subst h2;first | exact List.tail_suffix _ | exact List.drop_suffix _ _
          ·simp at h2
         exact ((k2.trans k1).trans (List.drop_suffix _ _)).trans (List.suffix_cons _ _)
theorem qi {c:UInt8} {l r:Bs} (h:cut [c] l=some r):l=c::r:=by
 unfold cut at h
 split at h
 ·rename_i hp
  cases l with
  | nil=>simp [List.isPrefixOf] at hp
  | cons x xs =>
    simp [List.isPrefixOf] at hp h
    rw [hp,h]
 ·simp at h
theorem gb {v n:Nat} {ps:List Bd} {b:Bd} (h:uv v n ps=some b):zD b=1+zE ps:=by
 unfold uv at h
 split at h
 ·rename_i y no hd
  simp at h;subst h
  have h1:zE ps=zE (ps.take n)+zE (ps.drop n):=by rw [<- kf,List.take_append_drop]
  rw [hd] at h1
  simp [zD,zE] at h1 ⊢;omega
 ·simp at h
theorem specPart_size {rd:RdS} (cf:∀ {h l b r},rd h l=some (b,r)->zD b+r.length<=l.length) {h:List Ty} {l r:Bs} {b:Bd} (hp:kK rd h l=some (b,r)):zD b+r.length<=l.length:=by
 unfold kK at hp
 simp only [Option.bind_eq_bind,Option.bind_eq_some_iff] at hp
 obtain ⟨l1,h1,h2⟩:=hp
 have:=cf h2
 have:=qi h1
 subst this;simp;omega
theorem pd {rd:RdS} (cf:∀ {h l b r},rd h l=some (b,r)->zD b+r.length<=l.length) (hs:List (List Ty)):∀ {l r:Bs} {ps:List Bd},zP rd hs l=some (ps,r)->zE ps+r.length<=l.length:=by
 induction hs with
 | nil=>intro l r ps h;simp [zP] at h;obtain ⟨rfl,rfl⟩:=h;simp [zE]
 | cons h' hs ih =>
   intro l r ps h
   simp only [zP,Option.bind_eq_bind,Option.bind_eq_some_iff,Prod.exists] at h
   obtain ⟨b,l1,h1,bs,l2,h2,h3⟩:=h
   simp at h3;obtain ⟨rfl,rfl⟩:=h3
   have:=ih h2;have:=specPart_size cf h1
   simp [zE];omega
theorem rdN_size (e:Nat):∀ {h:List Ty} {l:Bs} {b:Bd} {r:Bs},rdN e h l=some (b,r)->zD b+r.length<=l.length:=by
 induction e with
 | zero=>intro h l b r hq;simp [rdN] at hq
 | succ e ih =>
   intro h l b r hq
   cases l with
   | nil=>simp [rdN] at hq
   | cons c m =>
     simp only [rdN] at hq
     split at hq
     ·simp at hq;obtain ⟨rfl,rfl⟩:=hq;simp [zD];omega
     ·split at hq
      ·simp at hq
      ·split at hq
       ·simp at hq
       ·split at hq
        ·simp at hq
        ·simp only [Option.bind_eq_bind,Option.bind_eq_some_iff,Prod.exists] at hq
         obtain ⟨ps,l1,h1,l2,h2,b',h3,h4⟩:=hq
         simp at h4;obtain ⟨rfl,rfl⟩:=h4
         have k1:=pd ih _ h1
         have k2:=qi h2
         have k3:=gb h3
         subst k2
         simp at k1 ⊢;omega
theorem decode_hi (s:ByteArray) (pos:Nat) (h:pos<s.size) (ha:128<=(s.get! pos).toNat) :
 128<=(Utf8.decode s pos).1/\1<=(Utf8.decode s pos).2/\pos+(Utf8.decode s pos).2<=s.size/\∀ j,pos<=j->j<pos+(Utf8.decode s pos).2->128<=(s.get! j).toNat:=by
 rw [Lib.decode_at]
 have hn:¬ (s.get! pos).toNat<128:=by omega
 unfold Lib.decodeN
 rw [if_neg hn]
 repeat' split
 all_goals refine ⟨by simp only;omega,by simp only;omega,by simp only;omega,fun j h1 h2=>?_⟩
 all_goals simp only at h2
 all_goals rcases (by omega:j=pos\/j=pos+1\/j=pos+2\/j=pos+3) with rfl | rfl | rfl | rfl <;> omega
set_option maxRecDepth 100000 in
theorem indexRune_bad (w:World):Calls Tryz.prog 124 #[.string ⟨#[32,40,41]⟩,.int .i32 65533] w fun en w'=>en=.returned (.int .i64 (-1))/\Below w.heap.size w w':=by
 go_enter Tryz.func124,Tryz.ntmps124
 go_wp2_with fail
 go_loopg [5,6] 3 (fun g _ _ wx=>∃ i:Nat,i+g=3/\wx=w.iter ⟨#[32,40,41]⟩ i)
 case atStart=>exact ⟨0,rfl,rfl⟩
 case round =>
  obtain ⟨i,hig,rfl⟩:=hrel
  cases gk with
  | zero =>
    obtain rfl:i=3:=by omega
    have sy:=fun ty=>run_next_end (P:=Tryz.prog) w ⟨#[32,40,41]⟩ 3 ty (by decide)
    go_wp2_with fail
    go_ret
    exact ⟨rfl,(bZ _ _).alloc (hG _) _⟩
  | succ g =>
    have hi:i<(⟨#[32,40,41]⟩:ByteArray).size:=by show i<3;omega
    obtain ⟨x,hx⟩:∃ x:UInt8,(⟨#[32,40,41]⟩:ByteArray)[i]'hi=x:=⟨_,rfl⟩
    have tD:x.toNat<128:=by
     rw [<- hx]
     rcases (by omega:i=0\/i=1\/i=2) with rfl | rfl | rfl
     ·exact (by decide:(32:UInt8).toNat<128)
     ·exact (by decide:(40:UInt8).toNat<128)
     ·exact (by decide:(41:UInt8).toNat<128)
    have sy:=fun ty=>run_next_ascii (P:=Tryz.prog) w ⟨#[32,40,41]⟩ i ty hi (by rw [hx];exact tD)
    rw [hx] at sy
    have HX:=g_ hx;clear hx
    have hne:((x.toNat:Int) == 65533)=false:=by rw [beq_eq_false_iff_ne];omega
    go_wp2_with fail
    go_roundg g
    case measure=>omega
    case rel=>exact ⟨i+1,by omega,rfl⟩
theorem idx_hi:∀ (L:Bs) (c:Int),(∀ b∈L,b.toNat<128)->128<=c->c<256->Lib.indexByte L c.toNat.toUInt8 = -1
 | [],_,_,_,_=>rfl
 | b::l,c,h,h1,h2=>by
   have hb:=h b (by simp)
   have e:c.toNat.toUInt8.toNat=c.toNat:=by
    show (UInt8.ofNat c.toNat).toNat=_
    rw [UInt8.toNat_ofNat'];exact Nat.mod_eq_of_lt (by omega)
   have hne:(b == c.toNat.toUInt8)=false:=by
    rw [beq_eq_false_iff_ne];intro e';rw [e'] at hb;omega
   rw [Lib.indexByte,hne,idx_hi l c (fun x hx=>h x (by simp [hx])) h1 h2]
   rfl
theorem uN (t:ByteArray) (c:Int) (h:∀ b∈t.data.toList,b.toNat<128) (hc:Hid (128<=c/\c<256)) (w:World) :
 Calls Tryz.prog 160 #[.string t,.int .u8 c] w fun e w'=>e=.returned (.int .i64 (-1))/\w'=w :=
 (Tryz.strings_IndexByte t c w).mono fun e w' ⟨h1,h2⟩=>⟨by rw [h1,idx_hi _ _ h hc.out.1 hc.out.2],h2⟩
theorem yf {cs:ByteArray} (h:Hid (∀ b∈cs.data.toList,b.toNat<128)) (i j:Nat):∀ b∈(cs.extract i j).data.toList,b.toNat<128:=by
 intro b hb
 refine h.out b ?_
 have e:(cs.extract i j).data.toList=(cs.data.toList.drop i).take (j-i):=by simp
 rw [e] at hb
 exact List.mem_of_mem_drop (List.mem_of_mem_take hb)
theorem qw {B:Nat} {a w:World} (h:Below B a w) (n:Nat):Below B a (w.drewN n):=h.trans ⟨rfl,rfl,rfl,hG _,fun _ _=>rfl⟩
set_option maxRecDepth 100000 in
theorem indexRune_hi (cs:ByteArray) (hcs:∀ b∈cs.data.toList,b.toNat<128) (r:Int) (h128:128<=r) (hne:r≠65533) (hv:Utf8.valid r=true) (w:World):Calls Tryz.prog 124 #[.string cs,.int .i32 r] w fun en w'=>en=.returned (.int .i64 (-1))/\Below w.heap.size w w':=by
 obtain ⟨n1,n2,n3⟩:=encode_facts r hv h128
 have bX:¬ r<128:=by omega
 have hq:(r == 65533)=false:=by rw [beq_eq_false_iff_ne];exact hne
 have sO:Lib.validRune r=true:=by rw [validRune_eq] at hv;exact hv
 clear hv hne
 obtain ⟨rs,he⟩:=zzN (Utf8.encode r)
 rw [he] at n1 n2 n3
 obtain ⟨⟨l⟩⟩:=rs
 change 2<=l.length at n1
 change l.length<=4 at n2
 match l,n1,n2 with
 | [a,b],_,_ =>
   have hb:128<=b.toNat:=n3 (show 2-1<2 by decide)
   have bY:=b.toNat_lt
   have HC:Hid ((128:Int)<=((((⟨⟨[a,b]⟩⟩:ByteArray)[1]'(show 1<2 by decide)).toNat:Int))/\((((⟨⟨[a,b]⟩⟩:ByteArray)[1]'(show 1<2 by decide)).toNat:Int))<256):=by
    show (128:Int)<=(b.toNat:Int)/\(b.toNat:Int)<256
    omega
   clear n3
   by_cases hi:1<cs.size
   rotate_left
   ·have aC:¬ (1:Int)<(cs.size:Int):=by omega
    go_enter Tryz.func124,Tryz.ntmps124
    go_wp2_with (go_at_call 161;refine (Tryz.utf8_ValidRune r _).mono ?_;rintro en w1 ⟨rfl,hw⟩;rw [sO];obtain rfl:=hw)
    go_step3
    go_wp2_with fail
    go_loop [9,10] (fun i f=>i=.int .i64 1/\f=.int .i64 0) (fun _ _=>0)
    case atStart=>exact ⟨rfl,rfl⟩
    case round =>
     obtain ⟨rfl,rfl⟩:=hrel
     go_wp2_with fail
     change bodyPost Tryz.prog Tryz.f124 (fun en w'=>en=.returned (.int .i64 (-1))/\Below w1.heap.size w1 w') Exit.ret _ _
     refine bodyPost_ret (v:=.int .i64 (-1)) (by simp [results,Tryz.results124,go_sem]) rfl ?_
     exact ⟨rfl,by first | exact qw (bZ _ _).drew _ | exact qw (bZ _ _) _ | exact bZ _ _⟩
   have aC:(1:Int)<(cs.size:Int):=by omega
   have hi2:(2:Int)<=(cs.size:Int):=by omega
   have mB:IntKind.i64.wrap (2:Int)=2:=by decide
   have sf:(cs[1]'hi).toNat<128:=hcs _ (Array.getElem_mem_toList (xs:=cs.data) hi)
   have hn:((((cs[1]'hi).toNat:Int)) != ((((⟨⟨[a,b]⟩⟩:ByteArray)[1]'(show 1<2 by decide)).toNat:Int)))=true:=by
    show (((cs[1]'hi).toNat:Int) != (b.toNat:Int))=true
    rw [bne_iff_ne];omega
   have sR:=g_ hcs;clear hcs
   go_enter Tryz.func124,Tryz.ntmps124
   go_wp2_with (go_at_call 161;refine (Tryz.utf8_ValidRune r _).mono ?_;rintro en w1 ⟨rfl,hw⟩;rw [sO];obtain rfl:=hw)
   go_step3
   go_wp2_with fail
   go_loop [9,10] (fun i f=>i=.int .i64 1/\f=.int .i64 0) (fun _ _=>0)
   case atStart=>exact ⟨rfl,rfl⟩
   case round =>
    obtain ⟨rfl,rfl⟩:=hrel
    go_wp2_with fail
    go_step3
    go_wp2_with fail
    go_region
    go_wp2_with fail
    go_quiet (first | (go_at_call 160;exact (uN _ _ (yf sR _ _) HC _).mono fun _ _ ⟨he,hm⟩=>⟨he,_,hm⟩))
    go_wp2_with fail
    change bodyPost Tryz.prog Tryz.f124 (fun en w'=>en=.returned (.int .i64 (-1))/\Below w1.heap.size w1 w') Exit.ret _ _
    refine bodyPost_ret (v:=.int .i64 (-1)) (by simp [results,Tryz.results124,go_sem]) rfl ?_
    exact ⟨rfl,by first | exact qw (bZ _ _).drew _ | exact qw (bZ _ _) _ | exact bZ _ _⟩
 | [a,b,c],_,_ =>
   have hb:128<=c.toNat:=n3 (show 3-1<3 by decide)
   have bY:=c.toNat_lt
   have HC:Hid ((128:Int)<=((((⟨⟨[a,b,c]⟩⟩:ByteArray)[2]'(show 2<3 by decide)).toNat:Int))/\((((⟨⟨[a,b,c]⟩⟩:ByteArray)[2]'(show 2<3 by decide)).toNat:Int))<256):=by
    show (128:Int)<=(c.toNat:Int)/\(c.toNat:Int)<256
    omega
   clear n3
   by_cases hi:2<cs.size
   rotate_left
   ·have aC:¬ (2:Int)<(cs.size:Int):=by omega
    go_enter Tryz.func124,Tryz.ntmps124
    go_wp2_with (go_at_call 161;refine (Tryz.utf8_ValidRune r _).mono ?_;rintro en w1 ⟨rfl,hw⟩;rw [sO];obtain rfl:=hw)
    go_step3
    go_wp2_with fail
    go_loop [9,10] (fun i f=>i=.int .i64 2/\f=.int .i64 0) (fun _ _=>0)
    case atStart=>exact ⟨rfl,rfl⟩
    case round =>
     obtain ⟨rfl,rfl⟩:=hrel
     go_wp2_with fail
     change bodyPost Tryz.prog Tryz.f124 (fun en w'=>en=.returned (.int .i64 (-1))/\Below w1.heap.size w1 w') Exit.ret _ _
     refine bodyPost_ret (v:=.int .i64 (-1)) (by simp [results,Tryz.results124,go_sem]) rfl ?_
     exact ⟨rfl,by first | exact qw (bZ _ _).drew _ | exact qw (bZ _ _) _ | exact bZ _ _⟩
   have aC:(2:Int)<(cs.size:Int):=by omega
   have hi2:(3:Int)<=(cs.size:Int):=by omega
   have mB:IntKind.i64.wrap (3:Int)=3:=by decide
   have sf:(cs[2]'hi).toNat<128:=hcs _ (Array.getElem_mem_toList (xs:=cs.data) hi)
   have hn:((((cs[2]'hi).toNat:Int)) != ((((⟨⟨[a,b,c]⟩⟩:ByteArray)[2]'(show 2<3 by decide)).toNat:Int)))=true:=by
    show (((cs[2]'hi).toNat:Int) != (c.toNat:Int))=true
    rw [bne_iff_ne];omega
   have sR:=g_ hcs;clear hcs
   go_enter Tryz.func124,Tryz.ntmps124
   go_wp2_with (go_at_call 161;refine (Tryz.utf8_ValidRune r _).mono ?_;rintro en w1 ⟨rfl,hw⟩;rw [sO];obtain rfl:=hw)
   go_step3
   go_wp2_with fail
   go_loop [9,10] (fun i f=>i=.int .i64 2/\f=.int .i64 0) (fun _ _=>0)
   case atStart=>exact ⟨rfl,rfl⟩
   case round =>
    obtain ⟨rfl,rfl⟩:=hrel
    go_wp2_with fail
    go_step3
    go_wp2_with fail
    go_region
    go_wp2_with fail
    go_quiet (first | (go_at_call 160;exact (uN _ _ (yf sR _ _) HC _).mono fun _ _ ⟨he,hm⟩=>⟨he,_,hm⟩))
    go_wp2_with fail
    change bodyPost Tryz.prog Tryz.f124 (fun en w'=>en=.returned (.int .i64 (-1))/\Below w1.heap.size w1 w') Exit.ret _ _
    refine bodyPost_ret (v:=.int .i64 (-1)) (by simp [results,Tryz.results124,go_sem]) rfl ?_
    exact ⟨rfl,by first | exact qw (bZ _ _).drew _ | exact qw (bZ _ _) _ | exact bZ _ _⟩
 | [a,b,c,d],_,_ =>
   have hb:128<=d.toNat:=n3 (show 4-1<4 by decide)
   have bY:=d.toNat_lt
   have HC:Hid ((128:Int)<=((((⟨⟨[a,b,c,d]⟩⟩:ByteArray)[3]'(show 3<4 by decide)).toNat:Int))/\((((⟨⟨[a,b,c,d]⟩⟩:ByteArray)[3]'(show 3<4 by decide)).toNat:Int))<256):=by
    show (128:Int)<=(d.toNat:Int)/\(d.toNat:Int)<256
    omega
   clear n3
   by_cases hi:3<cs.size
   rotate_left
   ·have aC:¬ (3:Int)<(cs.size:Int):=by omega
    go_enter Tryz.func124,Tryz.ntmps124
    go_wp2_with (go_at_call 161;refine (Tryz.utf8_ValidRune r _).mono ?_;rintro en w1 ⟨rfl,hw⟩;rw [sO];obtain rfl:=hw)
    go_step3
    go_wp2_with fail
    go_loop [9,10] (fun i f=>i=.int .i64 3/\f=.int .i64 0) (fun _ _=>0)
    case atStart=>exact ⟨rfl,rfl⟩
    case round =>
     obtain ⟨rfl,rfl⟩:=hrel
     go_wp2_with fail
     change bodyPost Tryz.prog Tryz.f124 (fun en w'=>en=.returned (.int .i64 (-1))/\Below w1.heap.size w1 w') Exit.ret _ _
     refine bodyPost_ret (v:=.int .i64 (-1)) (by simp [results,Tryz.results124,go_sem]) rfl ?_
     exact ⟨rfl,by first | exact qw (bZ _ _).drew _ | exact qw (bZ _ _) _ | exact bZ _ _⟩
   have aC:(3:Int)<(cs.size:Int):=by omega
   have hi2:(4:Int)<=(cs.size:Int):=by omega
   have mB:IntKind.i64.wrap (4:Int)=4:=by decide
   have sf:(cs[3]'hi).toNat<128:=hcs _ (Array.getElem_mem_toList (xs:=cs.data) hi)
   have hn:((((cs[3]'hi).toNat:Int)) != ((((⟨⟨[a,b,c,d]⟩⟩:ByteArray)[3]'(show 3<4 by decide)).toNat:Int)))=true:=by
    show (((cs[3]'hi).toNat:Int) != (d.toNat:Int))=true
    rw [bne_iff_ne];omega
   have sR:=g_ hcs;clear hcs
   go_enter Tryz.func124,Tryz.ntmps124
   go_wp2_with (go_at_call 161;refine (Tryz.utf8_ValidRune r _).mono ?_;rintro en w1 ⟨rfl,hw⟩;rw [sO];obtain rfl:=hw)
   go_step3
   go_wp2_with fail
   go_loop [9,10] (fun i f=>i=.int .i64 3/\f=.int .i64 0) (fun _ _=>0)
   case atStart=>exact ⟨rfl,rfl⟩
   case round =>
    obtain ⟨rfl,rfl⟩:=hrel
    go_wp2_with fail
    go_step3
    go_wp2_with fail
    go_region
    go_wp2_with fail
    go_quiet (first | (go_at_call 160;exact (uN _ _ (yf sR _ _) HC _).mono fun _ _ ⟨he,hm⟩=>⟨he,_,hm⟩))
    go_wp2_with fail
    change bodyPost Tryz.prog Tryz.f124 (fun en w'=>en=.returned (.int .i64 (-1))/\Below w1.heap.size w1 w') Exit.ret _ _
    refine bodyPost_ret (v:=.int .i64 (-1)) (by simp [results,Tryz.results124,go_sem]) rfl ?_
    exact ⟨rfl,by first | exact qw (bZ _ _).drew _ | exact qw (bZ _ _) _ | exact bZ _ _⟩
def adv (w:World) (g:Nat) (s:ByteArray) (p:Nat):World:={ w with heap:=w.heap.setIfInBounds g (.stringIter s p) }
theorem run_next_in {P:Program} {wx:World} {g:Nat} {s:ByteArray} {pos:Nat} (h:wx.heap[g]? = some (.stringIter s pos)) (hp:pos<s.size) (ty:TypeId) :
 (Instr.next (.pointer (some ⟨g,0,none⟩)) true ty).run P wx=.ok (.tuple #[.bool true,.int .i64 pos,.int .i32 (Utf8.decode s pos).1]) (adv wx g s (pos+(Utf8.decode s pos).2)):=by
 simp only [Instr.next,getObj,setObj,Sem.run_bind,Sem.run,h,Result.andThen,hp,if_true,adv]
 simp [goInt]
theorem run_next_out {P:Program} {wx:World} {g:Nat} {s:ByteArray} {pos:Nat} (h:wx.heap[g]? = some (.stringIter s pos)) (hp:¬ pos<s.size) (ty:TypeId) :
 (Instr.next (.pointer (some ⟨g,0,none⟩)) true ty).run P wx=.ok (.tuple #[.bool false]) wx:=by
 simp [Instr.next,getObj,Sem.run,h,hp]
theorem adv_at {wx:World} {g:Nat} {s:ByteArray} {p p':Nat} (h:wx.heap[g]? = some (.stringIter s p)):(adv wx g s p').heap[g]? = some (.stringIter s p'):=by
 have hl:=zZ h
 simp [adv,hl]
theorem adv_size (wx:World) (g:Nat) (s:ByteArray) (p:Nat):(adv wx g s p).heap.size=wx.heap.size:=by simp [adv]
theorem adv_below {w wx:World} {s:ByteArray} {p:Nat} {B:Nat} (g:Nat) (h:Below B w wx) (hg:B<=g):Below B w (adv wx g s p) :=
 ⟨h.os,h.tape,h.output,by rw [adv_size];exact h.size,fun k hk=>by
  rw [<- h.block k hk]
  simp only [adv,Array.getElem?_setIfInBounds]
  rw [if_neg (by omega)]⟩
theorem decode_valid (s:ByteArray) (pos:Nat):Utf8.valid ((Utf8.decode s pos).1:Int)=true:=by
 have h:=Lib.rune_valid (s.extract pos s.size)
 rw [Lib.tail_decode s pos 0,Nat.add_zero] at h
 rw [validRune_eq];exact h
theorem get_data (s:ByteArray) {j:Nat} (h:j<s.size):s.data.toList[j]? = some (s.get! j):=by
 have h':j<s.data.size:=h
 simp only [ByteArray.get!,Array.getElem?_toList]
 rw [Array.getElem?_eq_getElem h',getElem!_pos s.data j h']
set_option maxRecDepth 100000 in
theorem gL (s:ByteArray) (h8:s.size<=8) (w:World):Calls Tryz.prog 96 #[.string s,.string ⟨#[32,40,41]⟩] w fun en w'=>en=.returned (.int .i64 (Lib.indexAny s.data.toList [32,40,41]))/\Below w.heap.size w w':=by
 have h8z:decide ((8:Int)<(s.size:Int))=false:=decide_eq_false (by omega)
 go_enter Tryz.func96,Tryz.ntmps96
 go_wp2_with (go_at_call 125;refine (Tryz.strings_shouldUseASCIISet _ _).mono ?_;rintro e w' ⟨rfl,hw⟩;rw [hw,h8z])
 go_loopw [9,10] (fun _ _ wx=>∃ i:Nat,i<=s.size/\wx.heap[w.heap.size]? = some (.stringIter s i)/\Below w.heap.size w wx/\Lib.NoAny s.data.toList [32,40,41] i) (fun _ _ wx=>s.size-wx.iterPos w.heap.size)
 case atStart=>exact ⟨0,Nat.zero_le _,World.iter_heap _ _ _,(bZ _ _).alloc (hG _) _,Lib.NoAny.zero _ _⟩
 case round =>
  obtain ⟨i,hi,fB,hb,cB⟩:=hrel
  have HN:=g_ cB;have HI:=g_ fB;have HB:=g_ hb;clear cB
  by_cases bX:i<s.size
  rotate_left
  ·have sy:=run_next_out (P:=Tryz.prog) fB bX
   obtain rfl:i=s.size:=by omega
   clear fB hb
   go_wp2_with fail
   go_ret
   exact ⟨j8 (by rw [Lib.indexAny_none (by have:=HN.out;simpa using this)]),HB.out⟩
  ·have sy:=run_next_in (P:=Tryz.prog) fB bX
   have sh:=adv_at (p':=i+(Utf8.decode s i).2) fB
   have bU:=adv_below (s:=s) (p:=i+(Utf8.decode s i).2) w.heap.size hb (hG _)
   have bO:wr.iterPos w.heap.size=i:=by unfold World.iterPos;rw [fB]
   have hxd:=get_data s bX
   generalize adv wr w.heap.size s (i+(Utf8.decode s i).2)=W1 at *
   have HG:=g_ sh;have bx:=g_ bU;have HP:=g_ bO
   have hgl:=zZ sh
   clear fB hb sh bU bO
   by_cases hx:(s.get! i).toNat<128
   ·have hd:Utf8.decode s i=((s.get! i).toNat,1):=by rw [Lib.decode_at];unfold Lib.decodeN;rw [if_pos hx]
    rw [hd] at sy HG
    obtain ⟨x,hxe⟩:=zzM (s.get! i)
    rw [<- hxe] at sy hxd hx
    have HX:=g_ hxd;clear hxd hd hxe
    have fE:=Lib.contains_iff_indexByte [32,40,41] x
    have n_:((x.toNat:Int)).toNat.toUInt8=x:=by simp
    cases mN:([32,40,41]:Bs).contains x
    ·rw [mN] at fE
     have dR:¬ ((0:Int)<=Lib.indexByte [32,40,41] x):=of_decide_eq_false fE.symm
     have HIN:=g_ mN
     clear fE mN
     go_wp2_with (go_at_call 124;refine (Tryz.strings_IndexRune_ascii _ _ _ (by omega) (by omega)).mono ?_;rintro e w2 ⟨rfl,hw⟩;rw [hw,n_])
     go_roundw
     case rel=>exact ⟨i+1,by omega,HG.out,bx.out,HN.out.succ HX.out HIN.out⟩
     case measure =>
      have h1:=HP.out
      have h2:W1.iterPos w.heap.size=i+1:=by unfold World.iterPos;rw [HG.out]
      simp only [h1,h2];omega
    ·rw [mN] at fE
     have r_:(0:Int)<=Lib.indexByte [32,40,41] x:=of_decide_eq_true fE.symm
     have HIN:=g_ mN
     clear fE mN
     go_wp2_with (go_at_call 124;refine (Tryz.strings_IndexRune_ascii _ _ _ (by omega) (by omega)).mono ?_;rintro e w2 ⟨rfl,hw⟩;rw [hw,n_])
     go_ret
     exact ⟨j8 (by rw [Lib.indexAny_hit HN.out HX.out HIN.out]),bx.out⟩
   ·obtain ⟨d1,d2,d3,d4⟩:=decode_hi s i bX (by omega)
    have dv:=decode_valid s i
    generalize (Utf8.decode s i).1=r at *
    generalize (Utf8.decode s i).2=k at *
    have tm:Lib.NoAny s.data.toList [32,40,41] (i+k):=by
     intro j b hj hbj
     by_cases dd:j<i
     ·exact HN.out j b dd hbj
     ·have h1:=d4 j (by omega) hj
      rw [get_data s (by omega)] at hbj
      obtain rfl:=Option.some.inj hbj
      have eB:(32:UInt8).toNat=32:=rfl
      have bf:(40:UInt8).toNat=40:=rfl
      have di:(41:UInt8).toNat=41:=rfl
      rw [Bool.eq_false_iff];intro hc
      simp only [List.contains_iff_mem,List.mem_cons,List.not_mem_nil,or_false] at hc
      rcases hc with hc | hc | hc <;> rw [hc] at h1 <;> omega
    have rU:=g_ tm
    have nS:Calls Tryz.prog 124 #[.string ⟨#[32,40,41]⟩,.int .i32 (r:Int)] W1 fun en w'=>en=.returned (.int .i64 (-1))/\Below W1.heap.size W1 w':=by
     by_cases h:(r:Int)=65533
     ·rw [h];exact indexRune_bad W1
     ·exact indexRune_hi ⟨#[32,40,41]⟩ (by decide) _ (by omega) h dv W1
    have HR:=g_ nS
    clear tm nS d4 dv hxd
    go_wp2_with (go_at_call 124;refine HR.out.mono ?_;rintro e w2 ⟨rfl,hw⟩)
    have hk:w2.heap[w.heap.size]? = some (.stringIter s (i+k)):=by rw [hw.block _ hgl];exact HG.out
    have bY:=zzT bx.out hw
    have HK:=g_ hk;clear hk
    go_roundw
    case rel=>exact ⟨i+k,by omega,HK.out,bY,rU.out⟩
    case measure =>
     have h1:=HP.out
     have h2:w2.iterPos w.heap.size=i+k:=by unfold World.iterPos;rw [HK.out]
     simp only [h1,h2];omega
end Go.Proofs.YtepgfdhkkjfmhabGreatDoor

/- Walks of functions that the statement reaches, and plain words. No conditions. -/
import Derived.WalkKit
import Derived.Lib.Strings
import Derived.Lib.Hide
import Derived.WalkSpells
import Derived.WalkLawsBesides
import Derived.Test.YtdhaafoiokkbnaaGreatDoorRows
import Derived.Test.YtdhaafoiokkbnaaGreatDoorShelf
import Derived.Lib.AtoiAll
import Derived.Lib.ItoaNum
import Derived.Laws.RangeAny
import Derived.Laws.Runes
import Derived.Lib.DecodeN
import Derived.Lib.QuoteLoop
import Derived.Deep.RegionHeld3
import Derived.WalkMore
import Derived.Deep.QuietTactic
import Derived.BigQuiet
import Derived.Lib.RuneCountTail
set_option linter.unusedVariables false
set_option linter.unusedSimpArgs false
set_option maxHeartbeats 2000000
namespace Go.Proofs.YtdhaafoiokkbnaaGreatDoor
open Go.RowKit
theorem zzT {w a b:World} (h:Below w.heap.size w a) (k:Below a.heap.size a b):Below w.heap.size w b:=h.trans (k.mono h.size)
theorem zzN {α:Sort _} (a:α):∃ x,a = x:=⟨a,rfl⟩
theorem zzM {α:Sort _} (a:α):∃ x,x = a:=⟨a,rfl⟩
theorem cH {p:Prop} (h:p):Hid p:=Lib.hid h
theorem cB {a b:Prop} (x:a) (y:b):a/\b:=⟨x,y⟩
theorem cC (n:Nat):n<=n:=Nat.le_refl n
theorem cD (w:World) (a:Addr) {u:Value} (h:w.cell? a=some u):a.block<w.heap.size:=World.block_lt_of_cell? w a h
theorem cE (B:Nat) (w:World):Below B w w:=Below.refl B w
theorem cF (w:World) (a:Addr) (u:Value) (k:Nat) (h:k≠a.block):(w.setCell a u).heap[k]? = w.heap[k]?:=Below.heap_setCell w a u k h
theorem cM {n m k:Nat} (a:n<m) (b:m<=k):n<k:=Nat.lt_of_lt_of_le a b
theorem cR {n m k:Nat} (a:n<=m) (b:m<=k):n<=k:=Nat.le_trans a b
inductive DV where
 | val (v:Value)
 | ptr (e:TypeId) (cs:List DV)
 | sl (e:TypeId) (sz n:Nat) (cs:List DV)
 | agg (cs:List DV)
 | any
mutual
def Rep (F:Nat->Prop) (w:World):DV->Value->Prop
 | .val u,v=>v=u
 | .ptr e cs,v=>∃ b c,v=.pointer (some ⟨b,0,none⟩)/\F b/\w.heap[b]? = some (.cells c e (0,0))/\zH F w cs c.toList
 | .sl e sz n cs,v=>cs.length=n*sz/\∃ a cap,v=.slice a n cap/\n<=cap/\(a=none->cap=0) /\
  (n=0\/∃ b o c fr,a=some ⟨b,o,none⟩/\F b/\w.heap[b]? = some (.cells c e fr)/\zH F w cs ((c.toList.drop o).take (n*sz)))
 | .agg cs,v=>∃ vs,v=.agg vs/\zH F w cs vs.toList
 | .any,v=>∃ i:Int,v=.int .i64 i
def zH (F:Nat->Prop) (w:World):List DV->List Value->Prop
 | [],vs=>vs=[]
 | d::ds,vs=>∃ v vs',vs=v::vs'/\Rep F w d v/\zH F w ds vs'
end
theorem zj {F:Nat->Prop} {w:World} {u v:Value}:Rep F w (.val u) v↔v=u:=by simp [Rep]
theorem vp {F:Nat->Prop} {w:World} {e:TypeId} {cs:List DV} {v:Value}:Rep F w (.ptr e cs) v↔∃ b c,v=.pointer (some ⟨b,0,none⟩)/\F b/\w.heap[b]? = some (.cells c e (0,0))/\zH F w cs c.toList:=by
 rw [Rep]
theorem kM {F:Nat->Prop} {w:World} {e:TypeId} {sz n:Nat} {cs:List DV} {v:Value}:Rep F w (.sl e sz n cs) v↔cs.length=n*sz/\∃ a cap,v=.slice a n cap/\n<=cap/\(a=none->cap=0) /\
 (n=0\/∃ b o c fr,a=some ⟨b,o,none⟩/\F b/\w.heap[b]? = some (.cells c e fr)/\zH F w cs ((c.toList.drop o).take (n*sz))):=by
 rw [Rep]
theorem Rep_agg {F:Nat->Prop} {w:World} {cs:List DV} {v:Value}:Rep F w (.agg cs) v↔∃ vs,v=.agg vs/\zH F w cs vs.toList:=by
 rw [Rep]
theorem Rep_any {F:Nat->Prop} {w:World} {v:Value}:Rep F w .any v↔∃ i:Int,v=.int .i64 i:=by rw [Rep]
theorem zF {F:Nat->Prop} {w:World} {vs:List Value}:zH F w [] vs↔vs=[]:=by simp [zH]
theorem zV {F:Nat->Prop} {w:World} {d:DV} {ds:List DV} {vs:List Value}:zH F w (d::ds) vs↔∃ v vs',vs=v::vs'/\Rep F w d v/\zH F w ds vs':=by
 rw [zH]
theorem zH.length {F:Nat->Prop} {w:World} {ds:List DV}:∀ {vs:List Value},zH F w ds vs->ds.length=vs.length:=by
 induction ds with
 | nil=>intro vs h;rw [zF] at h;simp [h]
 | cons d ds ih=>intro vs h;rw [zV] at h;obtain ⟨v,vs',rfl,_,h2⟩:=h;simp [ih h2]
theorem zH.at {F:Nat->Prop} {w:World} {ds:List DV}:∀ {vs:List Value},zH F w ds vs->∀ {i:Nat} {d:DV},ds[i]? = some d->∃ v,vs[i]? = some v/\Rep F w d v:=by
 induction ds with
 | nil=>intro vs h i d hd;simp at hd
 | cons d ds ih =>
   intro vs h i d' hd
   rw [zV] at h;obtain ⟨v,vs',rfl,h1,h2⟩:=h
   cases i with
   | zero=>simp at hd;subst hd;exact ⟨v,by simp,h1⟩
   | succ i=>simp at hd;simpa using ih h2 hd
theorem zH.append {F:Nat->Prop} {w:World} {ds es:List DV}:∀ {vs us:List Value},zH F w ds vs->zH F w es us->zH F w (ds++es) (vs++us):=by
 induction ds with
 | nil=>intro vs us h k;rw [zF] at h;subst h;simpa using k
 | cons d ds ih =>
   intro vs us h k
   rw [zV] at h;obtain ⟨v,vs',rfl,h1,h2⟩:=h
   simp only [List.cons_append];rw [zV];exact ⟨v,vs'++us,rfl,h1,ih h2 k⟩
theorem zH.split {F:Nat->Prop} {w:World} {ds es:List DV}:∀ {vs:List Value},zH F w (ds++es) vs->zH F w ds (vs.take ds.length)/\zH F w es (vs.drop ds.length):=by
 induction ds with
 | nil=>intro vs h;simpa [zF] using h
 | cons d ds ih =>
   intro vs h
   simp only [List.cons_append] at h
   rw [zV] at h;obtain ⟨v,vs',rfl,h1,h2⟩:=h
   have:=ih h2
   simp only [List.length_cons,List.take_succ_cons,List.drop_succ_cons]
   exact ⟨zV.2 ⟨v,_,rfl,h1,this.1⟩,this.2⟩
theorem zH.one {F:Nat->Prop} {w:World} {d:DV} {v:Value} (h:Rep F w d v):zH F w [d] [v] :=
 zV.2 ⟨v,[],rfl,h,zF.2 rfl⟩
theorem Rep.keep {F F':Nat->Prop} {w w':World} (hk:∀ b o,F b->w.heap[b]? = some o->F' b/\w'.heap[b]? = some o) :
 (∀ d v,Rep F w d v->Rep F' w' d v)/\(∀ ds vs,zH F w ds vs->zH F' w' ds vs):=by
 have key:∀ d:DV,(∀ v,Rep F w d v->Rep F' w' d v):=by
  intro d
  refine DV.rec (motive_1:=fun d=>∀ v,Rep F w d v->Rep F' w' d v) (motive_2:=fun ds=>∀ vs,zH F w ds vs->zH F' w' ds vs) ?_ ?_ ?_ ?_ ?_ ?_ ?_ d
  ·intro u v h;rw [zj] at *;exact h
  ·intro e cs ih v h
   rw [vp] at *
   obtain ⟨b,c,hv,hb,hc,hr⟩:=h
   obtain ⟨k1,k2⟩:=hk b _ hb hc
   exact ⟨b,c,hv,k1,k2,ih _ hr⟩
  ·intro e sz n cs ih v h
   rw [kM] at *
   obtain ⟨hl,a,cap,hv,hn,hz,h⟩:=h
   refine ⟨hl,a,cap,hv,hn,hz,?_⟩
   rcases h with h | ⟨b,o,c,fr,ha,hb,hc,hr⟩
   ·exact .inl h
   ·obtain ⟨k1,k2⟩:=hk b _ hb hc
    exact .inr ⟨b,o,c,fr,ha,k1,k2,ih _ hr⟩
  ·intro cs ih v h
   rw [Rep_agg] at *
   obtain ⟨vs,hv,hr⟩:=h
   exact ⟨vs,hv,ih _ hr⟩
  ·intro v h;rw [Rep_any] at *;exact h
  ·intro vs h;rw [zF] at *;exact h
  ·intro d ds ihd ihs vs h
   rw [zV] at *
   obtain ⟨v,vs',hv,h1,h2⟩:=h
   exact ⟨v,vs',hv,ihd _ h1,ihs _ h2⟩
 refine ⟨key,?_⟩
 intro ds
 induction ds with
 | nil=>intro vs h;rw [zF] at *;exact h
 | cons d ds ih =>
   intro vs h
   rw [zV] at *
   obtain ⟨v,vs',hv,h1,h2⟩:=h
   exact ⟨v,vs',hv,key _ _ h1,ih _ h2⟩
theorem zZ {w:World} {b:Nat} {o:Obj} (h:w.heap[b]? = some o):b<w.heap.size:=by
 rcases Nat.lt_or_ge b w.heap.size with h' | h'
 ·exact h'
 ·simp [Array.getElem?_eq_none h'] at h
structure But (m:Nat->Prop) (w w':World):Prop where
 os:w'.os=w.os
 tape:w'.tape=w.tape
 output:w'.output=w.output
 size:w.heap.size<=w'.heap.size
 block:∀ k,k<w.heap.size->¬ m k->w'.heap[k]? = w.heap[k]?
theorem But.refl (m:Nat->Prop) (w:World):But m w w:=⟨rfl,rfl,rfl,cC _,fun _ _ _=>rfl⟩
theorem But.trans {m:Nat->Prop} {a b c:World} (h:But m a b) (k:But m b c):But m a c :=
 ⟨k.os.trans h.os,k.tape.trans h.tape,k.output.trans h.output,cR h.size k.size,fun i hi hn=>(k.block i (cM hi h.size) hn).trans (h.block i hi hn)⟩
theorem But.trans' {m m':Nat->Prop} {a b c:World} (h:But m a b) (k:But m' b c) (hm:∀ i,i<a.heap.size->m' i->m i):But m a c :=
 ⟨k.os.trans h.os,k.tape.trans h.tape,k.output.trans h.output,cR h.size k.size,fun i hi hn=>(k.block i (cM hi h.size) (fun e=>hn (hm i hi e))).trans (h.block i hi hn)⟩
theorem But.weak {m m':Nat->Prop} {a b:World} (h:But m a b) (k:∀ i,i<a.heap.size->m i->m' i):But m' a b :=
 ⟨h.os,h.tape,h.output,h.size,fun i hi hn=>h.block i hi (fun hm=>hn (k i hi hm))⟩
theorem But.ofBelow {m:Nat->Prop} {a b:World} (h:Below a.heap.size a b):But m a b:=⟨h.os,h.tape,h.output,h.size,fun i hi _=>h.block i hi⟩
theorem But.toBelow {m:Nat->Prop} {B:Nat} {a b:World} (h:But m a b) (hB:B<=a.heap.size) (hm:∀ i,i<B->¬ m i):Below B a b :=
 ⟨h.os,h.tape,h.output,h.size,fun i hi=>h.block i (by omega) (hm i hi)⟩
theorem But.drew {m:Nat->Prop} {a b:World} (h:But m a b):But m a b.drew:=⟨h.os,h.tape,h.output,h.size,h.block⟩
theorem But.alloc {m:Nat->Prop} {a b:World} (h:But m a b) (o:Obj):But m a (b.alloc o) :=
 h.trans ⟨rfl,rfl,rfl,by simp,fun k hk _=>Below.heap_alloc _ _ _ (by omega)⟩
theorem But.setCell {m:Nat->Prop} {a b:World} (h:But m a b) {p:Addr} (hp:m p.block\/a.heap.size<=p.block) (u:Value):But m a (b.setCell p u) :=
 ⟨h.os,h.tape,h.output,by have:=h.size;simpa [World.setCell] using this,fun k hk hn=>by
  rw [cF _ _ _ _ (by rcases hp with hp | hp;· (intro e;subst e;exact hn hp)
                     ·omega)]
  exact h.block k hk hn⟩
theorem But.setS {sc:Nat} {a b:World} (h:But (fun x=>x=sc) a b) (o:Nat) (u:Value):But (fun x=>x=sc) a (b.setCell ⟨sc,o,none⟩ u) :=
 h.setCell (p:=⟨sc,o,none⟩) (.inl rfl) u
theorem But.cell {m:Nat->Prop} {w w':World} (h:But m w w') {p:Addr} (hp:p.block<w.heap.size) (hm:¬ m p.block):w'.cell? p=w.cell? p:=World.cell?_of_block (w:=w) (h.block p.block hp hm)
theorem Rep.but {F F':Nat->Prop} {m:Nat->Prop} {w w':World} (hb:But m w w') (hF:∀ b,F b->¬ m b/\F' b) {d:DV} {v:Value} (h:Rep F w d v):Rep F' w' d v :=
 (Rep.keep fun b o hf ho=>⟨(hF b hf).2,by rw [hb.block b (zZ ho) (hF b hf).1];exact ho⟩).1 d v h
theorem zH.but {F F':Nat->Prop} {m:Nat->Prop} {w w':World} (hb:But m w w') (hF:∀ b,F b->¬ m b/\F' b) {d:List DV} {v:List Value} (h:zH F w d v):zH F' w' d v :=
 (Rep.keep fun b o hf ho=>⟨(hF b hf).2,by rw [hb.block b (zZ ho) (hF b hf).1];exact ho⟩).2 d v h
theorem Rep.below {F F':Nat->Prop} {w w':World} (hb:Below w.heap.size w w') (hF:∀ b,F b->F' b) {d:DV} {v:Value} (h:Rep F w d v):Rep F' w' d v :=
 (Rep.keep fun b o hf ho=>⟨hF b hf,by rw [hb.block b (zZ ho)];exact ho⟩).1 d v h
theorem zH.below {F F':Nat->Prop} {w w':World} (hb:Below w.heap.size w w') (hF:∀ b,F b->F' b) {d:List DV} {v:List Value} (h:zH F w d v):zH F' w' d v :=
 (Rep.keep fun b o hf ho=>⟨hF b hf,by rw [hb.block b (zZ ho)];exact ho⟩).2 d v h
theorem Rep.drew {F:Nat->Prop} {w:World} {d:DV} {v:Value} (h:Rep F w d v):Rep F w.drew d v:=(Rep.keep (w:=w) (w':=w.drew) fun _ _ hf ho=>⟨hf,ho⟩).1 _ _ h
theorem zH.drew {F:Nat->Prop} {w:World} {d:List DV} {v:List Value} (h:zH F w d v):zH F w.drew d v:=(Rep.keep (w:=w) (w':=w.drew) fun _ _ hf ho=>⟨hf,ho⟩).2 _ _ h
def At1 (F:Nat->Prop) (w:World) (cs:List DV) (a:Option Addr) (k:Nat):Prop :=
 ∃ b o u d,a=some ⟨b,o,none⟩/\F b/\b<w.heap.size/\cs[k]? = some d/\w.cell? ⟨b,o+k,none⟩=some u/\Rep F w d u
def Ats (F:Nat->Prop) (w:World) (n:Nat) (cs:List DV) (a:Option Addr):Prop:=∀ k,k<n->At1 F w cs a k
theorem zC {F:Nat->Prop} {w:World} {e:TypeId} {n:Nat} {cs:List DV} {v:Value} (h:Rep F w (.sl e 1 n cs) v) :
 ∃ a cap,v=.slice a n cap/\n<=cap/\cs.length=n/\Ats F w n cs a:=by
 rw [kM] at h
 obtain ⟨hl,a,cap,hv,hn,hz,h⟩:=h
 rw [Nat.mul_one] at hl
 refine ⟨a,cap,hv,hn,hl,fun k hk=>?_⟩
 rcases h with h | ⟨b,o,c,fr,ha,hb,hc,hr⟩
 ·omega
 ·obtain ⟨d,hd⟩:∃ d,cs[k]? = some d:=⟨cs[k],by simp [hl,hk]⟩
  obtain ⟨u,hu,fK⟩:=hr.at hd
  rw [Nat.mul_one,List.getElem?_take,if_pos hk,List.getElem?_drop] at hu
  exact ⟨b,o,u,d,ha,hb,zZ hc,hd,by simp [World.cell?,hc];simpa using hu,fK⟩
theorem u_ {a b:Int} (h:a=b):Ending.returned (.int .i64 a)=.returned (.int .i64 b):=by rw [h]
theorem jr (l:List UInt8) (a b:Nat):(⟨l.toArray⟩:ByteArray).extract a b=⟨((l.take b).drop a).toArray⟩:=by
 have h:=Lib.extract_data (⟨l.toArray⟩:ByteArray) a b
 have h2:((⟨l.toArray⟩:ByteArray).extract a b).data=((l.take b).drop a).toArray:=by
  apply Array.ext';rw [h];simp [List.drop_take]
 cases hx:(⟨l.toArray⟩:ByteArray).extract a b with
 | mk d=>rw [hx] at h2;simp at h2;rw [h2]
theorem wP (l:List UInt8):(⟨l.toArray⟩:ByteArray).size=l.length:=by show l.toArray.size=_;simp
theorem qV {l:List UInt8} {i:Nat} (h:i<l.length):i<(⟨l.toArray⟩:ByteArray).size:=by rw [wP];exact h
theorem vD {l:List UInt8} {i:Nat} (h:i<l.length) {c:UInt8} {n:Int} (hn:(c.toNat:Int)=n) (hc:l[i]=c):((((⟨l.toArray⟩:ByteArray)[i]'(qV h)).toNat:Int) == n)=true:=by
 rw [beq_iff_eq,<- hn,<- hc];rfl
theorem jP {l:List UInt8} {i:Nat} (h:i<l.length) {c:UInt8} {n:Int} (hn:(c.toNat:Int)=n) (hc:¬ l[i]=c):((((⟨l.toArray⟩:ByteArray)[i]'(qV h)).toNat:Int) == n)=false:=by
 rw [beq_eq_false_iff_ne,<- hn]
 intro e
 apply hc
 have:(((⟨l.toArray⟩:ByteArray)[i]'(qV h)).toNat)=c.toNat:=by exact_mod_cast e
 exact UInt8.toNat_inj.1 this
theorem um {l:List UInt8} {i:Nat} (h:i<l.length) {c:UInt8} {n:Int} (hn:(c.toNat:Int)=n) (hc:l[i]=c):((((⟨l.toArray⟩:ByteArray)[i]'(qV h)).toNat:Int) != n)=false:=by
 rw [bne,vD h hn hc];rfl
theorem xZ {l:List UInt8} {i:Nat} (h:i<l.length) {c:UInt8} {n:Int} (hn:(c.toNat:Int)=n) (hc:¬ l[i]=c):((((⟨l.toArray⟩:ByteArray)[i]'(qV h)).toNat:Int) != n)=true:=by
 rw [bne,jP h hn hc];rfl
theorem vE {l:List UInt8} {i:Nat} (h:i<l.length):((((⟨l.toArray⟩:ByteArray)[i]'(qV h)).toNat:Int))=(l[i].toNat:Int):=rfl
theorem ext_list (l:List UInt8) (a b:Nat):((⟨l.toArray⟩:ByteArray).extract a b).toList=(l.take b).drop a:=by
 rw [jr,Lib.toList_data]
theorem qS {w:World} {a:Addr} {v:Value} (h:w.cell? a=some v) (u:Value):(w.setCell a u).cell? a=some u:=by
 obtain ⟨b,o,sp⟩:=a
 unfold World.cell? at *
 split at h
 ·rename_i c e fr hh
  have cL:=zZ hh
  have h':w.heap[b]=.cells c e fr:=by simpa [Array.getElem?_eq_getElem cL] using hh
  have:(w.setCell ⟨b,o,sp⟩ u).heap[b]? = some (.cells (if sp.isSome then c else c.setIfInBounds o u) e fr):=by
   show (w.heap.modify b _)[b]? = _
   rw [Array.getElem?_eq_getElem (by simpa using cL),Array.getElem_modify_self,h']
  simp only [this]
  cases sp with
  | none =>
    simp at h ⊢
    have hl:=(Array.getElem?_eq_some_iff.1 h).1
    simp [hl]
  | some x=>simp at h
 ·simp at h
def Lim (n:Nat):Prop:=n<=16777216
theorem Lim.le {n:Nat} (h:Lim n):n<=16777216:=h
theorem Lim.mono {n m:Nat} (h:Lim n) (k:m<=n):Lim m:=cR k h
def zM (size:Nat) (x:Value) (m:Nat) (news:List Value) (w:World):Prop :=
 news.length=m*size/\(∀ u∈news,u.oneCell'=true) /\
 ((∃ a c,x=.slice (some a) m c/\∀ (j:Nat) u,news[j]? = some u->w.cell? (a.add j)=some u)\/(x=.slice none 0 0/\m=0))
def Own (w:World) (e:TypeId) (size:Nat) (v:Value) (n:Nat) (xs:List Value):Prop:=w.ownsRow 0 e size v n xs
theorem yf {P:Program} {w:World} (t ty e:TypeId) (i:TypeInfo) (z:Value) (size bytes:Nat) (ht:P.underlying t=some (.slice e)) (hi:P.info? e=some i) (hz:i.zero=some z)
 (fw:i.size=size) (eW:i.bytes=bytes) (nr:z.cells.size=size) (hsz:0<size)
 (v:Value) (n:Nat) (xs:List Value) (cw:Own w e size v n xs)
 (x:Value) (m:Nat) (news:List Value) (hs:zM size x m news w) (lO:n+m<=maxLen) (eh:(n+m)*bytes<=140737488355328) :
 ∃ v' w',(Builtin.append_ #[t,t] ty #[v,x]).run P w=.ok v' w'/\Own w' e size v' (n+m) (xs++news)/\w.grownBy w' v.ownBlock /\
   (v'.ownBlock=v.ownBlock\/v'.ownBlock=some w.heap.size):=by
 unfold Own at *
 obtain ⟨hl,h1,⟨a,c,rfl,dl⟩ | ⟨rfl,rfl⟩⟩:=hs
 ·subst fw
  subst eW
  have hsmall:n+m<=9223372036854775807:=by simp only [maxLen] at lO;omega
  have cA:(xs++news).length=(n+m)*i.size:=by rw [List.length_append,cw.1,hl,Nat.add_mul]
  have grown:∀ (old:Nat),old<n+m->∀ (row:Option Nat),
   (w.drew.alloc (.cells (xs.toArray++news.toArray++Builtin.zeroCells z.cells (grownCap w (n+m) old e-(n+m))) e)).ownsRow 0 e i.size
    (.slice (some ⟨w.heap.size,0,none⟩) (n+m) (grownCap w (n+m) old e)) (n+m) (xs++news) /\
   w.grownBy (w.drew.alloc (.cells (xs.toArray++news.toArray++Builtin.zeroCells z.cells (grownCap w (n+m) old e-(n+m))) e)) row:=by
   intro old ho row
   have eV:=grownCap_ge w (n+m) old e
   have o0:grownCap w (n+m) old e<=maxLen:=grownCap_le_maxLen w (n+m) old e lO
   refine ⟨⟨cA,.inr ⟨w.heap.size,_,_,rfl,Nat.zero_le _,Go.heap_alloc_new w.drew _,eV,o0,?_,?_⟩⟩,⟨rfl,rfl,rfl,by simp,fun k hk _=>Below.heap_alloc w.drew _ k hk⟩⟩
   ·simp only [Array.size_append,List.size_toArray,size_zeroCells,nr,cw.1,hl,<- Nat.add_mul]
    congr 1
    omega
   ·simp only [Array.toList_append,List.append_assoc]
    rw [<- List.append_assoc,<- cA]
    exact List.take_left
  rcases cw.2 with ⟨rfl,rfl⟩ | ⟨g,cap,cur,rfl,fU,hg,nZ,o0,hcs,rT⟩
  ·have hx:xs=[]:=List.eq_nil_of_length_eq_zero (by simpa using cw.1)
   subst hx
   by_cases hm:m=0
   ·subst hm
    have hn:news=[]:=List.eq_nil_of_length_eq_zero (by simpa using hl)
    subst hn
    refine ⟨.slice none 0 0,w,?_,World.ownsRow_nil w 0 e i.size,⟨rfl,rfl,rfl,cC _,fun _ _ _=>rfl⟩,.inl rfl⟩
    simp [Builtin.append_,run_underlying ht,sizeOf,typeInfo,hi,Builtin.lenOf,Builtin.firstCells,loadCells,loadCellsFrom]
   ·have hr:=run_append_nil (P:=P) w t ty e i z ht hi hz a m c news hl dl (by omega) (by omega) (by have hb:=eh;simp only [Nat.zero_add] at hb;omega)
    have rj:=grown 0 (by omega) (Value.ownBlock (.slice none 0 0))
    simp only [Nat.zero_add,List.nil_append,Array.empty_append] at rj ⊢
    exact ⟨_,_,hr,rj.1,rj.2,.inr rfl⟩
  ·by_cases tP:n+m<=cap
   ·have dP:n*i.size+news.length<=cur.size:=by rw [hl,hcs,<- Nat.add_mul];exact Nat.mul_le_mul_right _ tP
    have hr:=run_append_room (P:=P) w t ty e i ht hi g n cap cur hg a m c news hl dl h1 tP dP
    refine ⟨_,_,hr,⟨cA,.inr ⟨g,cap,_,rfl,fU,setRow_heap w g cur _ e _ hg,tP,o0,?_,?_⟩⟩,⟨rfl,rfl,rfl,by simp,fun k _ hk=>setRow_other w g k _ (fun e=>hk (by simp [Value.ownBlock,e]))⟩,.inl rfl⟩
    ·simp only [List.size_toArray,List.length_append,List.length_take,List.length_drop,Array.length_toList]
     omega
    ·rw [rT,<- cA]
     exact List.take_left
   ·have holds:∀ (j:Nat) u,xs[j]? = some u->w.cell? ((⟨g,0,none⟩:Addr).add j)=some u:=World.ownsRow.cells cw (g:=g) rfl
    have hr:=run_append_grow (P:=P) w t ty e i z ht hi hz ⟨g,0,none⟩ n cap xs cw.1 holds a m c news hl dl (by omega) (by omega) (growslice_fits (by omega) eh)
    have rj:=grown cap (by omega) (Value.ownBlock (.slice (some ⟨g,0,none⟩) n cap))
    exact ⟨_,_,hr,rj.1,rj.2,.inr rfl⟩
 ·have hn:news=[]:=List.eq_nil_of_length_eq_zero (by simpa using hl)
  subst hn
  refine ⟨v,w,run_append_owned_none (P:=P) (w:=w) 0 t ty e i size ht hi v n xs cw,by simpa using cw,⟨rfl,rfl,rfl,cC _,fun _ _ _=>rfl⟩,.inl rfl⟩
theorem But.ofGrown {w w':World} {row:Option Nat} (h:w.grownBy w' row):But (fun b=>some b=row) w w' :=
 ⟨h.os,h.tape,h.output,h.size,fun k hk hn=>h.block k hk hn⟩
theorem Own.slice {w:World} {e:TypeId} {size n:Nat} {v:Value} {xs:List Value} (h:Own w e size v n xs):∃ a c,v=.slice a n c:=by
 rcases h.2 with ⟨rfl,rfl⟩ | ⟨g,cap,cur,rfl,_⟩
 ·exact ⟨_,_,rfl⟩
 ·exact ⟨_,_,rfl⟩
theorem zG {P:Program} {w:World} {ops:Array Oper} {rest:List Oper} {o:Oper} {a:Act} {Q:Exit->Act->World->Prop} (lE:o.guard=none) (s x:Operand) (t:TypeId)
 (ho:o.op=.call { callee:=.builtin .append,args:=#[s,x],argTypes:=#[t,t] })
 (e:TypeId) (z:Value) (size bytes:Nat) (ht:P.underlying t=some (.slice e)) (hi:(P.info? e).map (fun i=>(i.zero,i.size,i.bytes))=some (some z,size,bytes))
 (nr:z.cells.size=size) (hsz:0<size)
 (v:Value) (n:Nat) (xs:List Value) (hs:a.eval s=v) (cw:Own w e size v n xs)
 (y:Value) (m:Nat) (news:List Value) (hx:a.eval x=y) (nV:zM size y m news w)
 (lO:n+m<=maxLen) (eh:(n+m)*bytes<=140737488355328)
 (h:∀ a' c' w',Own w' e size (.slice a' (n+m) c') (n+m) (xs++news)->But (fun b=>v.ownBlock=some b) w w'->(∀ g,(Value.slice a' (n+m) c').ownBlock=some g->v.ownBlock=some g\/g=w.heap.size) ->
  wpList P ops Q rest (a.put o.dst (.slice a' (n+m) c')) w'):wpList P ops Q (o::rest) a w:=by
 refine wpList_plain lE fun K hK=>?_
 obtain ⟨i,hi,hz,fw,eW⟩:=info_parts hi
 obtain ⟨v',w',hr,h2,h3,h4⟩:=yf (P:=P) (w:=w) t o.type e i z size bytes ht hi hz fw eW nr hsz v n xs cw y m news nV lO eh
 obtain ⟨a',c',rfl⟩:=h2.slice
 unfold Oper.wp execOp
 simp only [ho,resolve,invoke,builtin,Sem.run_bind,Sem.run_pure,Result.andThen_ok,List.map_toArray,List.map_cons,List.map_nil,hs,hx,hr]
 refine hK _ _ (h a' c' w' h2 ((But.ofGrown h3).weak fun i _ hi=>hi.symm) ?_)
 intro g hg
 rcases h4 with h4 | h4
 ·exact .inl (by rw [<- h4];exact hg)
 ·rw [hg] at h4;exact .inr (Option.some.inj h4)
theorem zc {P:Program} {w:World} {ops:Array Oper} {o:Oper} {a:Act} {K:Act->World->Prop} {Q:Exit->Act->World->Prop} {E:Prop} (lE:o.guard=none) (s x:Operand) (t:TypeId)
 (ho:o.op=.call { callee:=.builtin .append,args:=#[s,x],argTypes:=#[t,t] })
 (e:TypeId) (z:Value) (size bytes:Nat) (ht:P.underlying t=some (.slice e)) (hi:(P.info? e).map (fun i=>(i.zero,i.size,i.bytes))=some (some z,size,bytes))
 (nr:z.cells.size=size) (hsz:0<size)
 (v:Value) (n:Nat) (xs:List Value) (hs:a.eval s=v) (cw:Own w e size v n xs)
 (y:Value) (m:Nat) (news:List Value) (hx:a.eval x=y) (nV:zM size y m news w)
 (lO:n+m<=maxLen) (eh:(n+m)*bytes<=140737488355328)
 (h:∀ a' c' w',Own w' e size (.slice a' (n+m) c') (n+m) (xs++news)->But (fun b=>v.ownBlock=some b) w w'->(∀ g,(Value.slice a' (n+m) c').ownBlock=some g->v.ownBlock=some g\/g=w.heap.size) ->
  K (a.put o.dst (.slice a' (n+m) c')) w'):if Region.wanted o (yielded ops a.tmps)=true then Oper.wp P o a w K Q else E:=by
 rw [if_pos (by simp [Region.wanted,lE])]
 obtain ⟨i,hi,hz,fw,eW⟩:=info_parts hi
 obtain ⟨v',w',hr,h2,h3,h4⟩:=yf (P:=P) (w:=w) t o.type e i z size bytes ht hi hz fw eW nr hsz v n xs cw y m news nV lO eh
 obtain ⟨a',c',rfl⟩:=h2.slice
 unfold Oper.wp execOp
 simp only [ho,resolve,invoke,builtin,Sem.run_bind,Sem.run_pure,Result.andThen_ok,List.map_toArray,List.map_cons,List.map_nil,hs,hx,hr]
 refine h a' c' w' h2 ((But.ofGrown h3).weak fun i _ hi=>hi.symm) ?_
 intro g hg
 rcases h4 with h4 | h4
 ·exact .inl (by rw [<- h4];exact hg)
 ·rw [hg] at h4;exact .inr (Option.some.inj h4)
theorem zM.keep {w w':World} {size:Nat} {x:Value} {m:Nat} {news:List Value} (h:zM size x m news w) (hk:∀ a v,w.cell? a=some v->w'.cell? a=some v):zM size x m news w':=by
 obtain ⟨h1,h2,⟨a,c,rfl,h3⟩ | h3⟩:=h
 ·exact ⟨h1,h2,.inl ⟨a,c,rfl,fun j u hu=>hk _ _ (h3 j u hu)⟩⟩
 ·exact ⟨h1,h2,.inr h3⟩
theorem zX {w:World} {o:Obj} {a:Addr} {v:Value} (h:w.cell? a=some v):(w.alloc o).cell? a=some v:=by
 rw [World.cell?_alloc_lt w o a (cD w a h)];exact h
theorem Own.lit {w:World} {e:TypeId} {size:Nat} (cs:Array Value) (n:Nat) (hm:n<=maxLen) (hs:cs.size=n*size):Own (w.alloc (.cells cs e)) e size (.slice (some ⟨w.heap.size,0,none⟩) n n) n cs.toList :=
 World.ownsRow_lit w cs n (Nat.zero_le _) hm hs
theorem Own.litAt {w:World} {e:TypeId} {size:Nat} (cs:Array Value) (n g:Nat) (hg:g=w.heap.size) (hm:n<=maxLen) (hs:cs.size=n*size):Own (w.alloc (.cells cs e)) e size (.slice (some ⟨g,0,none⟩) n n) n cs.toList:=by
 subst hg;exact Own.lit cs n hm hs
theorem Own.keep {w w':World} {e:TypeId} {sz n:Nat} {xs:List Value} {v:Value} (h:Own w e sz v n xs) (hk:∀ g o,v.ownBlock=some g->w.heap[g]? = some o->w'.heap[g]? = some o):Own w' e sz v n xs:=by
 refine ⟨h.1,?_⟩
 rcases h.2 with h | ⟨g,cap,cur,rfl,h0,hg,h⟩
 ·exact .inl h
 ·exact .inr ⟨g,cap,cur,rfl,h0,hk g _ rfl hg,h⟩
theorem zT (w:World) (o:Obj):(w.alloc o).heap[w.heap.size]? = some o:=heap_alloc_new w o
theorem zY {w:World} {o:Obj} {b:Nat} {x:Obj} (h:w.heap[b]? = some x):(w.alloc o).heap[b]? = some x:=by
 rw [Below.heap_alloc _ _ _ (zZ h)];exact h
theorem vr {w:World} {o:Obj} {b:Nat} (h:(w.alloc o).heap.size<=b):w.heap.size+1<=b:=by simpa using h
theorem zK (w:World) (o:Obj):(w.alloc o).heap.size=w.heap.size+1:=by simp
theorem yC {w W wx:World} {v v':Value} (hb:Below w.heap.size w W) (hf:∀ g,v.ownBlock=some g->w.heap.size<=g) (hx:But (fun b=>v.ownBlock=some b) W wx) (hg:∀ g,v'.ownBlock=some g->v.ownBlock=some g\/g=W.heap.size) :
 Below w.heap.size w wx/\(∀ g,v'.ownBlock=some g->w.heap.size<=g):=by
 refine ⟨hb.trans (hx.toBelow hb.size fun i hi e=>by have:=hf i e;omega),fun g h=>?_⟩
 rcases hg g h with h | h
 ·exact hf g h
 ·have:=hb.size;omega
theorem own_some {g n c:Nat} {B:Nat} (h:B<=g):∀ k,(Value.slice (some ⟨g,0,none⟩) n c).ownBlock=some k->B<=k:=by
 intro k e;simp [Value.ownBlock] at e;omega
theorem Own.drew {w:World} {e:TypeId} {sz n:Nat} {xs:List Value} {v:Value} (h:Own w e sz v n xs):Own w.drew e sz v n xs:=h.keep (w':=w.drew) fun _ _ _ ho=>ho
theorem zM.drew {w:World} {size:Nat} {x:Value} {m:Nat} {news:List Value} (h:zM size x m news w):zM size x m news w.drew:=h.keep (w':=w.drew) fun _ _ h=>h
theorem zM.alloc {w:World} {size:Nat} {x:Value} {m:Nat} {news:List Value} (h:zM size x m news w) (o:Obj):zM size x m news (w.alloc o):=h.keep (w':=w.alloc o) fun _ _ h=>zX h
theorem Own.alloc {w:World} {e:TypeId} {sz n:Nat} {xs:List Value} {v:Value} (h:Own w e sz v n xs) (o:Obj):Own (w.alloc o) e sz v n xs:=h.keep (w':=w.alloc o) fun _ _ _ ho=>zY ho
theorem zM.belowAll {w w':World} {B:Nat} {size:Nat} {x:Value} {m:Nat} {news:List Value} (h:zM size x m news w) (hb:Below B w w') (hB:w.heap.size<=B):zM size x m news w' :=
 h.keep fun a v hv=>by rw [hb.cell (cM (cD w a hv) hB)];exact hv
theorem zM.lit {w:World} {e:TypeId} {v:Value} (hv:v.oneCell'=true):zM 1 (.slice (some ⟨w.heap.size,0,none⟩) 1 1) 1 [v] (w.alloc (.cells #[v] e)) :=
 ⟨by simp,by simpa using hv,.inl ⟨_,_,rfl,fun j u hu=>by
  cases j with
  | zero=>simp at hu;subst hu;simp [Addr.add]
  | succ j=>simp at hu⟩⟩
theorem zM.ofRep {F:Nat->Prop} {w:World} {e:TypeId} {sz n:Nat} {cs:List DV} {v:Value} (h:Rep F w (.sl e sz n cs) v) (eO:∀ us,zH F w cs us->∀ u∈us,u.oneCell'=true) :
 ∃ news,zH F w cs news/\zM sz v n news w:=by
 rw [kM] at h
 obtain ⟨hl,a,cap,rfl,hn,hz,h⟩:=h
 rcases h with rfl | ⟨b,o,c,fr,rfl,hb,hc,hr⟩
 ·have:cs=[]:=List.eq_nil_of_length_eq_zero (by simpa using hl)
  subst this
  refine ⟨[],zF.2 rfl,?_⟩
  cases a with
  | none=>obtain rfl:=hz rfl;exact ⟨by simp,by simp,.inr ⟨rfl,rfl⟩⟩
  | some a=>exact ⟨by simp,by simp,.inl ⟨a,cap,rfl,by simp⟩⟩
 ·refine ⟨_,hr,⟨by rw [<- hr.length,hl],eO _ hr,.inl ⟨_,cap,rfl,fun j u hu=>?_⟩⟩⟩
  have hj:j<n*sz:=by
   have:=(List.getElem?_eq_some_iff.1 hu).1
   simp at this;omega
  rw [List.getElem?_take,if_pos hj,List.getElem?_drop] at hu
  unfold Addr.add
  split
  ·subst j;simp [World.cell?,hc];simpa using hu
  ·simp [World.cell?,hc];simpa using hu
theorem Own.rep {F:Nat->Prop} {w:World} {e:TypeId} {sz n:Nat} {xs:List Value} {cs:List DV} {v:Value} (h:Own w e sz v n xs) (hF:∀ g,v.ownBlock=some g->F g) (hr:zH F w cs xs) :
 Rep F w (.sl e sz n cs) v:=by
 rw [kM]
 refine ⟨by rw [hr.length];exact h.1,?_⟩
 rcases h.2 with ⟨rfl,rfl⟩ | ⟨g,cap,cur,rfl,_,hg,nZ,_,hcs,ht⟩
 ·exact ⟨none,0,rfl,cC _,fun _=>rfl,.inl rfl⟩
 ·exact ⟨_,cap,rfl,nZ,fun h=>by simp at h,.inr ⟨g,0,cur,_,rfl,hF g rfl,hg,by simpa [ht] using hr⟩⟩
theorem Own.lt {w:World} {e:TypeId} {sz n:Nat} {xs:List Value} {v:Value} (h:Own w e sz v n xs) {g:Nat} (hg:v.ownBlock=some g):g<w.heap.size:=(World.ownsRow.lt h g hg).2
theorem pW {P:Program} {w:World} (t ti ty e:TypeId) (z:Value) (size bytes:Nat) (ht:P.underlying t=some (.slice e)) (hti:P.underlying ti=some (.int .i64))
 (Cv:(P.info? e).map (fun i=>(i.zero,i.size,i.bytes))=some (some z,size,bytes)) (nr:z.cells.size=size)
 (n:Nat) (h0:0<n) (hn:n<=16777216) (hsz:0<size) (hb:bytes<=1024) :
 ∃ cap c,(Builtin.append_ #[t,ti] ty #[.slice none 0 0,.int .i64 n]).run P w=.ok (.slice (some ⟨w.heap.size,0,none⟩) n cap) (w.drew.alloc (.cells c e))/\n<=cap/\cap<=maxLen/\c.size=cap*size:=by
 obtain ⟨i,hi,hz,fw,eW⟩:=info_parts Cv
 subst fw;subst eW
 have hw:IntKind.i64.wrap (n:Int)=n:=IntWalk.i64_in _ (by omega)
 have Cd:¬ ((n:Int)<0):=by omega
 have hmul:n*i.bytes<=16777216*1024:=Nat.mul_le_mul hn hb
 have fj:¬ (281474976710656<(n:Int)*(i.bytes:Int)):=by
  have:(n:Int)*(i.bytes:Int)=((n*i.bytes:Nat):Int):=by simp
  omega
 have hne:n≠0:=by omega
 have rM:¬ (281474976710656<Builtin.nextslicecap n 0*i.bytes):=by rw [nextslicecap_zero h0];omega
 have lO:¬ (9223372036854775807<(n:Int)):=by omega
 have tF:¬ (n=0\/i.size=0):=by omega
 refine ⟨grownCap w n 0 e,Builtin.zeroCells z.cells n++Builtin.zeroCells z.cells (grownCap w n 0 e-n),?_,grownCap_ge w n 0 e,grownCap_le_maxLen w n 0 e (by unfold maxLen;omega),?_⟩
 ·simp [Builtin.append_,run_underlying ht,run_underlying hti,sizeOf,typeInfo,zeroValue,hi,hz,asInt,hw,Cd,fj,hne,rM,lO,Question.forced,run_firstCells_none,newRow,grownCap,asIntOf]
  intro h;exact absurd h (by have:=Nat.mul_pos h0 hsz;omega)
 ·simp only [Array.size_append,size_zeroCells,nr,<- Nat.add_mul]
  have:=grownCap_ge w n 0 e
  congr 1;omega
theorem vO {P:Program} {w:World} {ops:Array Oper} {rest:List Oper} {o:Oper} {a:Act} {Q:Exit->Act->World->Prop} (lE:o.guard=none) (s x:Operand) (t ti:TypeId)
 (ho:o.op=.call { callee:=.builtin .append,args:=#[s,x],argTypes:=#[t,ti] })
 (e:TypeId) (z:Value) (size bytes:Nat) (ht:P.underlying t=some (.slice e)) (hti:P.underlying ti=some (.int .i64)) (hi:(P.info? e).map (fun i=>(i.zero,i.size,i.bytes))=some (some z,size,bytes))
 (nr:z.cells.size=size) (hsz:0<size) (hb:bytes<=1024)
 (hs:a.eval s=.slice none 0 0) (n:Nat) (hx:a.eval x=.int .i64 n) (h0:0<n) (hn:n<=16777216)
 (h:∀ cap c,n<=cap->cap<=maxLen->c.size=cap*size->wpList P ops Q rest (a.put o.dst (.slice (some ⟨w.heap.size,0,none⟩) n cap)) (w.alloc (.cells c e)).drew):wpList P ops Q (o::rest) a w:=by
 refine wpList_plain lE fun K hK=>?_
 obtain ⟨cap,c,hr,h1,h2,h3⟩:=pW (P:=P) (w:=w) t ti o.type e z size bytes ht hti hi nr n h0 hn hsz hb
 unfold Oper.wp execOp
 simp only [ho,resolve,invoke,builtin,Sem.run_bind,Sem.run_pure,Result.andThen_ok,List.map_toArray,List.map_cons,List.map_nil,hs,hx,hr]
 exact hK _ _ (h cap c h1 h2 h3)
theorem b8 {w wc:World} {o:Obj} (h:Below (w.alloc o).drew.heap.size (w.alloc o).drew wc):Below w.heap.size w wc:=by
 have h2:Below w.heap.size (w.alloc o).drew wc:=⟨h.os,h.tape,h.output,h.size,fun i hi=>h.block i (by show i<(w.alloc o).heap.size;rw [zK];omega)⟩
 exact (((cE w.heap.size w).alloc (cC _) o).drew).trans h2
abbrev Bs:=List UInt8
abbrev str (l:Bs):Value:=.string ⟨l.toArray⟩
inductive Ty where
 | mk (args:List Ty)
def Ty.args:Ty->List Ty | .mk a=>a
def cut (p l:Bs):Option Bs:=if p.isPrefixOf l then some (l.drop p.length) else none
def jN (a b:Ty):Ty:=.mk (a::b.args)
def rdK:Nat->Bs->Option (Ty×Bs)
 | d,l=>match cut [98] l with
   | some r=>some (.mk [],r)
   | none=>match d with
     | 0=>none
     | d+1=>do
       let r1<-cut [40,62,32] l
       let (a,r2)<-rdK d r1
       let r3<-cut [32] r2
       let (b,r4)<-rdK d r3
       let r5<-cut [41] r4
       some (jN a b,r5)
def Cut (p l r:Bs):Prop:=cut p l=some r
def xy (p l:Bs):Prop:=cut p l=none
theorem Cut.out {p l r:Bs} (h:Cut p l r):cut p l=some r:=h
theorem xy.out {p l:Bs} (h:xy p l):cut p l=none:=h
theorem z_ (p l:Bs):xy p l\/∃ r,Cut p l r:=by
 cases h:cut p l with
 | none=>exact .inl h
 | some r=>exact .inr ⟨r,h⟩
theorem Cut.le {p l r:Bs} (h:Cut p l r):r.length<=l.length:=by
 unfold Cut cut at h;split at h
 ·simp at h;subst h;simp
 ·simp at h
theorem vz {d:Nat} {l r:Bs} (h:Cut [98] l r):rdK d l=some (.mk [],r):=by
 cases d <;> simp [rdK,h.out]
theorem vX {l:Bs} (h:xy [98] l):rdK 0 l=none:=by simp [rdK,h.out]
theorem ki {d:Nat} {l:Bs} (h:xy [98] l):rdK (d+1) l=(do
        let r1<-cut [40,62,32] l
        let (a,r2)<-rdK d r1
        let r3<-cut [32] r2
        let (b,r4)<-rdK d r3
        let r5<-cut [41] r4
        some (jN a b,r5)):=by rw [rdK,h.out]
theorem rdK_le (d:Nat):∀ {l r:Bs} {t:Ty},rdK d l=some (t,r)->r.length<=l.length/\t.args.length<=l.length:=by
 induction d with
 | zero =>
   intro l r t h
   rcases z_ [98] l with hc | ⟨r',hc⟩
   ·rw [vX hc] at h;simp at h
   ·rw [vz hc] at h;simp at h;obtain ⟨rfl,rfl⟩:=h;exact ⟨hc.le,by simp [Ty.args]⟩
 | succ d ih =>
   intro l r t h
   rcases z_ [98] l with hc | ⟨r',hc⟩
   ·rw [ki hc] at h
    simp only [Option.bind_eq_bind,Option.bind_eq_some_iff,Prod.exists] at h
    obtain ⟨r1,h1,a,r2,h2,r3,h3,b,r4,h4,r5,h5,h6⟩:=h
    simp at h6;obtain ⟨rfl,rfl⟩:=h6
    have k1:=Cut.le h1;have k2:=ih h2;have k3:=Cut.le h3;have k4:=ih h4;have k5:=Cut.le h5
    have k6:r1.length<l.length:=by
     unfold cut at h1;split at h1
     ·rename_i hp
      have:=List.IsPrefix.length_le (List.isPrefixOf_iff_prefix.1 hp)
      simp at h1 this;subst h1;simp;omega
     ·simp at h1
    exact ⟨by omega,by simp [jN,Ty.args];simp [Ty.args] at k4;omega⟩
   ·rw [vz hc] at h;simp at h;obtain ⟨rfl,rfl⟩:=h;exact ⟨hc.le,by simp [Ty.args]⟩
mutual
def qe:Ty->DV
 | .mk ts=>.ptr 54 [.sl 49 1 ts.length (qC ts)]
def qC:List Ty->List DV
 | []=>[]
 | t::ts=>qe t::qC ts
end
theorem uK (ts:List Ty):∀ k:Nat,(qC ts)[k]? = ts[k]?.map qe:=by
 induction ts with
 | nil=>intro k;simp [qC]
 | cons t ts ih=>intro k;cases k <;> simp [qC,ih]
mutual
def zU:Ty->Nat
 | .mk ts=>1+zR ts
def zR:List Ty->Nat
 | []=>0
 | t::ts=>1+zU t+zR ts
end
theorem jb (a b:List Ty):zR (a++b)=zR a+zR b:=by
 induction a with
 | nil=>simp [zR]
 | cons t ts ih=>simp [zR,ih];omega
theorem jt {ts:List Ty} {k:Nat} {t:Ty} (h:ts[k]? = some t):zR (ts.take (k+1))=zR (ts.take k)+(1+zU t):=by
 rw [List.take_add_one,h,jb];simp [zR]
theorem qw (ts:List Ty) (k:Nat):zR (ts.take k)<=zR ts:=by
 have:=jb (ts.take k) (ts.drop k);rw [List.take_append_drop] at this;omega
theorem zg (t:Ty):zU t=1+zR t.args:=by cases t;simp [zU,Ty.args]
theorem kR (t:Ty):1<=zU t:=by rw [zg];omega
theorem rdK_atoms (d:Nat):∀ {l r:Bs} {t:Ty},rdK d l=some (t,r)->zU t+r.length<=l.length:=by
 have hb:∀ {l r:Bs},Cut [98] l r->zU (.mk [])+r.length<=l.length:=by
  intro l r h
  unfold Cut cut at h;split at h
  ·rename_i hp
   have:=List.IsPrefix.length_le (List.isPrefixOf_iff_prefix.1 hp)
   simp at h this;subst h;simp [zU,zR];omega
  ·simp at h
 induction d with
 | zero =>
   intro l r t h
   rcases z_ [98] l with hc | ⟨r',hc⟩
   ·rw [vX hc] at h;simp at h
   ·rw [vz hc] at h;simp at h;obtain ⟨rfl,rfl⟩:=h;exact hb hc
 | succ d ih =>
   intro l r t h
   rcases z_ [98] l with hc | ⟨r',hc⟩
   ·rw [ki hc] at h
    simp only [Option.bind_eq_bind,Option.bind_eq_some_iff,Prod.exists] at h
    obtain ⟨r1,h1,a,r2,h2,r3,h3,b,r4,h4,r5,h5,h6⟩:=h
    simp at h6;obtain ⟨rfl,rfl⟩:=h6
    have k2:=ih h2;have k3:=Cut.le h3;have k4:=ih h4;have k5:=Cut.le h5
    have k6:r1.length<l.length:=by
     unfold cut at h1;split at h1
     ·rename_i hp
      have:=List.IsPrefix.length_le (List.isPrefixOf_iff_prefix.1 hp)
      simp at h1 this;subst h1;simp;omega
     ·simp at h1
    have:zU (jN a b)=1+zU a+zU b:=by cases b;simp [jN,zU,zR,Ty.args];omega
    omega
   ·rw [vz hc] at h;simp at h;obtain ⟨rfl,rfl⟩:=h;exact hb hc
def rdS:Nat->Bs->Option (Ty×Bs)
 | 0,_=>none
 | n+1,l=>rdK n l
theorem rdS_b {n:Nat} {l r:Bs} (h:Cut [98] l r):rdS (n+1) l=some (.mk [],r):=vz h
theorem rdS_no {n:Nat} {l:Bs} (h:xy [98] l):rdS (n+1) l=(do
        let r1<-cut [40,62,32] l
        let (a,r2)<-rdS n r1
        let r3<-cut [32] r2
        let (b,r4)<-rdS n r3
        let r5<-cut [41] r4
        some (jN a b,r5)):=by
 cases n with
 | zero =>
   show rdK 0 l=_
   rw [vX h]
   cases cut [40,62,32] l <;> simp [rdS]
 | succ n=>exact ki h
theorem cut_drop {p l r:Bs} {i:Nat} (h:cut p (l.drop i)=some r):r=l.drop (i+p.length)/\i+p.length<=l.length+(if p.length=0 then i else 0):=by
 unfold cut at h;split at h
 ·rename_i hp
  have hl:=List.IsPrefix.length_le (List.isPrefixOf_iff_prefix.1 hp)
  simp at h hl;subst h
  refine ⟨rfl,?_⟩
  split <;> omega
 ·simp at h
theorem vV {c:UInt8} {l:Bs} {i:Nat} (h:i<l.length):cut [c] (l.drop i)=if l[i]=c then some (l.drop (i+1)) else none:=by
 unfold cut
 rw [List.drop_eq_getElem_cons h]
 by_cases hc:l[i]=c
 ·simp [hc,List.isPrefixOf]
 ·have:(c == l[i])=false:=by simpa using fun e=>hc e.symm
  simp [hc,List.isPrefixOf,this]
theorem xD {c:UInt8} {p l:Bs} {i:Nat} (h:l.length<=i):cut (c::p) (l.drop i)=none:=by
 rw [List.drop_eq_nil_of_le h];rfl
theorem uP {l r:Bs} {i:Nat} (h:r <:+ l.drop i):r=l.drop (l.length-r.length):=by
 have h2:r <:+ l:=h.trans (List.drop_suffix i l)
 exact List.suffix_iff_eq_drop.1 h2
theorem rdK_suffix (d:Nat):∀ {l r:Bs} {t:Ty},rdK d l=some (t,r)->r <:+ l:=by
 have hcut:∀ {p l r:Bs},cut p l=some r->r <:+ l:=by
  intro p l r h
  unfold cut at h;split at h
  ·simp at h;subst h;exact List.drop_suffix _ _
  ·simp at h
 induction d with
 | zero =>
   intro l r t h
   rcases z_ [98] l with hc | ⟨r',hc⟩
   ·rw [vX hc] at h;simp at h
   ·rw [vz hc] at h;simp at h;obtain ⟨rfl,rfl⟩:=h;exact hcut hc
 | succ d ih =>
   intro l r t h
   rcases z_ [98] l with hc | ⟨r',hc⟩
   ·rw [ki hc] at h
    simp only [Option.bind_eq_bind,Option.bind_eq_some_iff,Prod.exists] at h
    obtain ⟨r1,h1,a,r2,h2,r3,h3,b,r4,h4,r5,h5,h6⟩:=h
    simp at h6;obtain ⟨rfl,rfl⟩:=h6
    exact (((((hcut h5).trans (ih h4)).trans (hcut h3)).trans (ih h2)).trans (hcut h1))
   ·rw [vz hc] at h;simp at h;obtain ⟨rfl,rfl⟩:=h;exact hcut hc
theorem h_ {n:Nat} {l r:Bs} {t:Ty} (h:rdS n l=some (t,r)):r <:+ l:=by
 cases n with
 | zero=>simp [rdS] at h
 | succ n=>exact rdK_suffix n h
theorem rdS_le {n:Nat} {l r:Bs} {t:Ty} (h:rdS n l=some (t,r)):r.length<=l.length/\t.args.length<=l.length:=by
 cases n with
 | zero=>simp [rdS] at h
 | succ n=>exact rdK_le n h
theorem rdS_atoms {n:Nat} {l r:Bs} {t:Ty} (h:rdS n l=some (t,r)):zU t+r.length<=l.length:=by
 cases n with
 | zero=>simp [rdS] at h
 | succ n=>exact rdK_atoms n h
def kO (sc:Nat) (c:List Value) (e:TypeId) (r:Bs) (w:World):Prop:=w.heap[sc]? = some (.cells (str r::c).toArray e (0,0))
theorem kO.cell {sc:Nat} {c:List Value} {e:TypeId} {r:Bs} {w:World} (h:kO sc c e r w):w.cell? ⟨sc,0,none⟩=some (str r):=by
 simp [World.cell?,kO] at *;simp [h]
theorem kO.free {sc:Nat} {c:List Value} {e:TypeId} {r:Bs} {w:World} (h:kO sc c e r w) (o:Nat):w.frozen? ⟨sc,o,none⟩=false:=by
 simp [World.frozen?,kO] at *;simp [h]
theorem kO.put {sc:Nat} {c:List Value} {e:TypeId} {r r':Bs} {w:World} (h:kO sc c e r w):kO sc c e r' (w.setCell ⟨sc,0,none⟩ (str r')):=by
 unfold kO at *
 have cL:=zZ h
 have h':w.heap[sc]=.cells (str r::c).toArray e (0,0):=by simpa [Array.getElem?_eq_getElem cL] using h
 show (w.heap.modify sc _)[sc]? = _
 rw [Array.getElem?_eq_getElem (by simpa using cL),Array.getElem_modify_self,h']
 simp
theorem pu {p r:Bs}:Lib.hasPrefix r p=(cut p r).isSome/\Lib.trimPrefix r p=(cut p r).getD r:=by
 unfold Lib.hasPrefix Lib.trimPrefix cut Lib.hasPrefix
 cases h:p.isPrefixOf r <;> simp
theorem take_any (sc:Nat) (c:List Value) (e:TypeId) (r p:Bs) (w:World) (h:kO sc c e r w) :
 Calls Tryz.prog 56 #[.pointer (some ⟨sc,0,none⟩),.string ⟨p.toArray⟩] w fun en w' =>
  en=.returned (.bool (cut p r).isSome)/\But (· = sc) w w'/\kO sc c e ((cut p r).getD r) w':=by
 have h1:=h.cell
 have h2:=h.free 0
 have h3:=cH h;clear h
 go_enter Tryz.func56,Tryz.ntmps56
 go_wp2_with (go_at_call 74;refine (Tryz.strings_CutPrefix _ _ _).mono ?_;rintro e w' ⟨rfl,rfl⟩)
 go_ret
 refine ⟨?_,(But.refl (· = sc) _).setCell (p:=⟨sc,0,none⟩) (.inl rfl) _,?_⟩
 ·rw [<- pu.1];rfl
 ·rw [<- pu.2];exact h3.out.put
theorem zO {F:Nat->Prop} {w:World} {t:Ty} {v:Value} (h:Rep F w (qe t) v) :
 ∃ b s,v=.pointer (some ⟨b,0,none⟩)/\F b/\w.heap[b]? = some (.cells #[s] 54 (0,0))/\Rep F w (.sl 49 1 t.args.length (qC t.args)) s:=by
 cases t with
 | mk ts =>
   rw [qe,vp] at h
   obtain ⟨b,c,hv,hb,hc,hr⟩:=h
   rw [zV] at hr
   obtain ⟨s,vs',e1,h1,h2⟩:=hr
   rw [zF] at h2;subst h2
   have:c=#[s]:=by apply Array.ext';simpa using e1
   subst this
   exact ⟨b,s,hv,hb,hc,h1⟩
theorem encK_shut {F:Nat->Prop} {w:World} {t:Ty} {b:Nat} {s:Value} (hb:F b) (hc:w.heap[b]? = some (.cells #[s] 54 (0,0)))
 (h:Rep F w (.sl 49 1 t.args.length (qC t.args)) s):Rep F w (qe t) (.pointer (some ⟨b,0,none⟩)):=by
 cases t with
 | mk ts =>
   rw [qe,vp]
   exact ⟨b,#[s],rfl,hb,hc,zH.one h⟩
theorem Tryz.infoK:(Tryz.prog.info? 49).map (fun i=>(i.zero,i.size,i.bytes))=some (some (.pointer none),1,8):=by kernel_rfl
theorem uN {F:Nat->Prop} {w:World} (ts:List Ty):∀ us,zH F w (qC ts) us->∀ u∈us,u.oneCell'=true:=by
 induction ts with
 | nil=>intro us h;rw [qC,zF] at h;subst h;simp
 | cons t ts ih =>
   intro us h u hu
   rw [qC,zV] at h
   obtain ⟨v,vs',rfl,h1,h2⟩:=h
   rcases List.mem_cons.1 hu with rfl | hu
   ·obtain ⟨b,s,rfl,_⟩:=zO h1;rfl
   ·exact ih _ h2 u hu
theorem arrow_any (F:Nat->Prop) (a b:Ty) (va vb:Value) (w:World) (ha:Rep F w (qe a) va) (hb:Rep F w (qe b) vb) (hl:Lim b.args.length) :
 Calls Tryz.prog 57 #[va,vb] w fun en w' =>
  ∃ v,en=.returned v/\Below w.heap.size w w'/\Rep (fun k=>F k\/w.heap.size<=k) w' (qe (jN a b)) v:=by
 obtain ⟨bb,sb,rfl,ah,ru,nG⟩:=zO hb
 obtain ⟨ba,eva⟩:∃ ba,va=.pointer (some ⟨ba,0,none⟩):=by obtain ⟨ba,_,h,_⟩:=zO ha;exact ⟨ba,h⟩
 subst eva
 obtain ⟨news,dl,nV⟩:=zM.ofRep nG (uN _)
 have c1:w.cell? ⟨bb,0,none⟩=some sb:=by simp [World.cell?,ru]
 have l1:=zZ ru
 have H1:=cH nV;have H2:=cH dl;have H3:=cH ha
 clear nV dl ha hb nG ru
 go_enter Tryz.func57,Tryz.ntmps57
 go_wp2_with (at_builtin;refine zG rfl _ _ 52 rfl 49 (.pointer none) 1 8 Tryz.underlying52 Tryz.infoK rfl (by decide) _ 1 [.pointer (some ⟨ba,0,none⟩)] rfl ?c1 _ b.args.length news rfl ?c2 ?c3 ?c4 ?_)
 case c1=>exact Own.lit #[.pointer (some ⟨ba,0,none⟩)] 1 (by decide) rfl
 case c2=>exact H1.out.keep fun _ _ h=>zX h
 case c3=>have:=hl.le;unfold maxLen;omega
 case c4=>have:=hl.le;omega
 intro a' c' w' ho hb hg
 have H4:=cH ho;have H5:=cH hb;have H6:=cH hg;clear ho hb hg
 go_wp2
 go_ret
 have hb:=H5.out
 have b1:Below w.heap.size w w':=((cE w.heap.size w).alloc (cC _) _).trans (hb.toBelow (by simp) (fun i hi e=>by simp [Value.ownBlock] at e;omega))
 refine ⟨_,rfl,b1.alloc b1.size _,?_⟩
 refine encK_shut (F:=fun k=>F k\/w.heap.size<=k) (.inr b1.size) (zT _ _) ?_
 refine Rep.below (F:=fun k=>F k\/w.heap.size<=k) ((cE _ _).alloc (cC _) _) (fun _ h=>h) ?_
 rw [show (jN a b).args.length=1+b.args.length from by simp [jN,Ty.args,Nat.add_comm]]
 refine H4.out.rep ?_ ?_
 ·intro g hg
  rcases H6.out g hg with h | h
  ·simp [Value.ownBlock] at h;exact .inr (by omega)
  ·exact .inr (by subst h;simp)
 ·show zH _ _ (qe a::qC b.args) _
  exact zV.2 ⟨_,_,rfl,Rep.below b1 (fun _ h=>.inl h) H3.out,zH.below b1 (fun _ h=>.inl h) H2.out⟩
theorem vU {sc:Nat} {c:List Value} {e:TypeId} {r p r':Bs} {w:World} (h:kO sc c e r w) (hc:Cut p r r') :
 Calls Tryz.prog 56 #[.pointer (some ⟨sc,0,none⟩),.string ⟨p.toArray⟩] w fun en w' =>
  en=.returned (.bool true)/\But (· = sc) w w'/\kO sc c e r' w':=by
 refine (take_any sc c e r p w h).mono ?_
 rw [hc.out];exact fun _ _ h=>h
theorem ui {sc:Nat} {c:List Value} {e:TypeId} {r p:Bs} {w:World} (h:kO sc c e r w) (hc:xy p r) :
 Calls Tryz.prog 56 #[.pointer (some ⟨sc,0,none⟩),.string ⟨p.toArray⟩] w fun en w' =>
  en=.returned (.bool false)/\But (· = sc) w w'/\kO sc c e r w':=by
 refine (take_any sc c e r p w h).mono ?_
 rw [hc.out];exact fun _ _ h=>h
def ue (sc:Nat) (c:List Value) (e:TypeId) (w:World) (o:Option (Ty×Bs)) (en:Ending) (w':World):Prop :=
 ∃ v r',en=.returned v/\But (· = sc) w w'/\kO sc c e r' w'/\(o=none->v=.pointer none)/\(∀ t rest,o=some (t,rest)->r'=rest/\Rep (w.heap.size<=·) w' (qe t) v)
theorem ue.no {sc:Nat} {c:List Value} {e:TypeId} {w:World} {r:Bs} {w':World} {o:Option (Ty×Bs)} (ho:o=none) (hb:But (· = sc) w w') (hs:kO sc c e r w'):ue sc c e w o (.returned (.pointer none)) w' :=
 ⟨_,r,rfl,hb,hs,fun _=>rfl,fun _ _ h=>by rw [ho] at h;simp at h⟩
theorem ue.yes {sc:Nat} {c:List Value} {e:TypeId} {w:World} {r:Bs} {w':World} {o:Option (Ty×Bs)} {t:Ty} {v:Value} (ho:o=some (t,r)) (hb:But (· = sc) w w') (hs:kO sc c e r w')
 (hv:Rep (w.heap.size<=·) w' (qe t) v):ue sc c e w o (.returned v) w' :=
 ⟨_,r,rfl,hb,hs,fun h=>by rw [ho] at h;simp at h,fun _ _ h=>by rw [ho] at h;simp at h;obtain ⟨rfl,rfl⟩:=h;exact ⟨rfl,hv⟩⟩
theorem un {sc:Nat} {c:List Value} {e:TypeId} {r:Bs} {w:World} (h:kO sc c e r w):sc<w.heap.size:=zZ h
theorem kO.alloc {sc:Nat} {c:List Value} {e:TypeId} {r:Bs} {w:World} (h:kO sc c e r w) (o:Obj):kO sc c e r (w.alloc o):=zY h
def cW (sc:Nat) (c:List Value) (e:TypeId) (d:Nat):Prop:=∀ (r:Bs) (w:World),kO sc c e r w->Lim r.length ->
    Calls Tryz.prog 35 #[.pointer (some ⟨sc,0,none⟩),.int .i64 d] w (ue sc c e w (rdK d r))
theorem kind_step (sc:Nat) (c:List Value) (e:TypeId) (d:Nat) (hd:d<=1000) (ih:∀ d',d=d'+1->cW sc c e d'):cW sc c e d:=by
 intro r w hs hr
 have IH:=cH ih;clear ih
 go_enter Tryz.func35,Tryz.ntmps35
 go_wp2_with fail
 rcases z_ [98] r with h1 | ⟨r1,h1⟩
 ·refine (ui hs h1).mono ?_
  rintro en w1 ⟨rfl,cT,d7⟩
  by_cases h0:d=0
  ·have H0:=cH h0;clear h0
   have h0:((d:Int) == 0)=true:=by rw [beq_iff_eq];have:=H0.out;omega
   go_wp2_with fail
   go_ret
   exact ue.no (by have:=H0.out;subst this;exact vX h1) cT d7
  ·obtain ⟨d',hd'⟩:∃ d',d=d'+1:=⟨d-1,by omega⟩
   subst hd'
   clear h0
   have h0:(((d'+1:Nat):Int) == 0)=false:=by rw [beq_eq_false_iff_ne];omega
   have IH':=cH (IH.out d' rfl);clear IH
   go_wp2_with fail
   rcases z_ [40,62,32] r with h2 | ⟨r2,h2⟩
   ·refine (ui d7 h2).mono ?_
    rintro en w2 ⟨rfl,cS,eA⟩
    go_wp2_with fail
    go_ret
    exact ue.no (by rw [ki h1,h2.out];rfl) (cT.trans cS) eA
   refine (vU d7 h2).mono ?_
   rintro en w2 ⟨rfl,cS,eA⟩
   go_wp2_with fail
   have r2l:=h2.le
   refine (IH'.out r2 w2 eA (hr.mono r2l)).mono ?_
   rintro en w3 ⟨va,r3,rfl,cr,mG,fq,ii⟩
   rcases ha:rdK d' r2 with _ | ⟨ta,r3'⟩
   ·obtain rfl:=fq ha
    have Ha:=cH ha;clear ha fq ii
    go_wp2_with fail
    go_ret
    exact ue.no (by rw [ki h1,h2.out];simp [Ha.out]) ((cT.trans cS).trans cr) mG
   obtain ⟨rfl,m9⟩:=ii _ _ ha
   obtain ⟨ba,rfl⟩:∃ ba,va=.pointer (some ⟨ba,0,none⟩):=by obtain ⟨ba,_,h,_⟩:=zO m9;exact ⟨ba,h⟩
   have r3l:=(rdK_le _ ha).1
   have Ha:=cH ha;clear ha fq ii
   have hb:=(cT.trans cS).trans cr;have hb2z:=(cT.trans cS).size;clear cT cS
   go_wp2_with fail
   rcases z_ [32] r3 with h4 | ⟨r4,h4⟩
   ·refine (ui mG h4).mono ?_
    rintro en w4 ⟨rfl,dJ,mh⟩
    go_wp2_with fail
    go_ret
    exact ue.no (by rw [ki h1,h2.out];simp [Ha.out,h4.out]) (hb.trans dJ) mh
   refine (vU mG h4).mono ?_
   rintro en w4 ⟨rfl,dJ,mh⟩
   go_wp2_with fail
   have r4l:=h4.le
   refine (IH'.out r4 w4 mh (hr.mono (by omega))).mono ?_
   rintro en w5 ⟨vb,r5,rfl,dK,aT,tN,tZ⟩
   rcases hbb:rdK d' r4 with _ | ⟨tb,r5'⟩
   ·obtain rfl:=tN hbb
    have Hb:=cH hbb;clear hbb tN tZ
    go_wp2_with fail
    go_ret
    exact ue.no (by rw [ki h1,h2.out];simp [Ha.out,h4.out,Hb.out]) ((hb.trans dJ).trans dK) aT
   obtain ⟨rfl,nG⟩:=tZ _ _ hbb
   obtain ⟨bb,rfl⟩:∃ ba,vb=.pointer (some ⟨ba,0,none⟩):=by obtain ⟨ba,_,h,_⟩:=zO nG;exact ⟨ba,h⟩
   have r5l:=rdK_le _ hbb
   have Hb:=cH hbb;clear hbb tN tZ
   go_wp2_with fail
   rcases z_ [41] r5 with h6 | ⟨r6,h6⟩
   ·refine (ui aT h6).mono ?_
    rintro en w6 ⟨rfl,cd,sJ⟩
    go_wp2_with fail
    go_ret
    exact ue.no (by rw [ki h1,h2.out];simp [Ha.out,h4.out,Hb.out,h6.out]) (((hb.trans dJ).trans dK).trans cd) sJ
   refine (vU aT h6).mono ?_
   rintro en w6 ⟨rfl,cd,sJ⟩
   have rA:=un hs
   have z1:=hb.size;have z3:=cr.size;have z4:=dJ.size;have z5:=dK.size;have z6:=cd.size;have z2:=cr.size
   have w2z:w.heap.size<=w2.heap.size:=by have:=hb2z;omega
   have ra:Rep (w.heap.size<=·) w6 (qe ta) (.pointer (some ⟨ba,0,none⟩)):=Rep.but ((dJ.trans dK).trans cd) (fun b h=>⟨by omega,by omega⟩) m9
   have rb:Rep (w.heap.size<=·) w6 (qe tb) (.pointer (some ⟨bb,0,none⟩)):=Rep.but cd (fun b h=>⟨by omega,by omega⟩) nG
   go_wp2_with fail
   refine (arrow_any _ ta tb _ _ w6 ra rb (hr.mono (by omega))).mono ?_
   rintro en w7 ⟨v,rfl,cq,hv⟩
   obtain ⟨bv,rfl⟩:∃ ba,v=.pointer (some ⟨ba,0,none⟩):=by obtain ⟨ba,_,h,_⟩:=zO hv;exact ⟨ba,h⟩
   go_wp2_with fail
   go_ret
   refine ue.yes (t:=jN ta tb) (r:=r6) (by rw [ki h1,h2.out];simp [Ha.out,h4.out,Hb.out,h6.out]) ((((hb.trans dJ).trans dK).trans cd).trans (But.ofBelow cq)) ?_ ?_
   ·exact (cq.block sc (by omega)).trans sJ
   ·exact (Rep.keep fun b o h ho=>⟨by rcases h with h | h <;> omega,ho⟩).1 _ _ hv
 ·refine (vU hs h1).mono ?_
  rintro en w1 ⟨rfl,cT,d7⟩
  go_wp2_with fail
  go_ret
  refine ue.yes (t:=.mk []) (r:=r1) (vz h1) (cT.alloc _) (d7.alloc _) ?_
  refine encK_shut (F:=(w.heap.size<=·)) cT.size (zT _ _) ?_
  exact (kM.2 ⟨rfl,none,0,rfl,cC _,fun _=>rfl,.inl rfl⟩)
theorem kind_any (sc:Nat) (c:List Value) (e:TypeId) (d:Nat) (hd:d<=1000):cW sc c e d:=by
 induction d with
 | zero=>exact kind_step sc c e 0 hd (fun d' h=>by omega)
 | succ d ih=>exact kind_step sc c e (d+1) hd (fun d' h=>by obtain rfl:d=d':=by omega
                                                            exact ih (by omega))
def pj (F:Nat->Prop) (w:World) (t:Ty):Prop:=∀ v,Rep F w (qe t) v ->
 Calls Tryz.prog 36 #[v] w fun en w'=>en=.returned (.int .i64 (zU t))/\w'=w
theorem atoms_step (F:Nat->Prop) (w:World) (t:Ty) (hl:Lim (zU t)) (ih:∀ t',zU t'<zU t->pj F w t'):pj F w t:=by
 intro v hv
 obtain ⟨b,s,rfl,hb,hc,hs⟩:=zO hv
 have c1:w.cell? ⟨b,0,none⟩=some s:=by simp [World.cell?,hc]
 obtain ⟨a,cap,rfl,hn,cA,hat⟩:=zC hs
 have IH:=cH ih;clear ih hc hv hs
 have e1:=zg t
 have E1:=cH e1;clear e1
 have fM:=hl.le
 have oO:t.args.length<=16777216:=by
  have h:∀ ts:List Ty,ts.length<=zR ts:=by intro ts;induction ts with
   | nil=>simp
   | cons t ts ih=>simp [zR];omega
  have:=h t.args;have:=E1.out;omega
 have HL:=cH cA;clear cA
 have AT:=cH hat;clear hat
 go_enter Tryz.func36,Tryz.ntmps36
 go_wp2_with fail
 go_loop [3,11] (fun n i=>∃ k:Nat,k<=t.args.length/\i=.int .i64 k/\n=.int .i64 ((1+zR (t.args.take k):Nat):Int)) (fun _ i=>t.args.length-(intOf i).toNat)
 case atStart=>exact ⟨0,Nat.zero_le _,rfl,by simp [zR]⟩
 case round =>
  obtain ⟨k,hk,rfl,rfl⟩:=hrel
  by_cases cL:k<t.args.length
  ·obtain ⟨b',o,u,d,rfl,_,dW,hd,hu,hr⟩:=AT.out k cL
   rw [uK,Option.map_eq_some_iff] at hd
   obtain ⟨t',eI,rfl⟩:=hd
   have hs:=jt eI
   have eX:=qw t.args (k+1)
   have ml:=E1.out
   have IH':=cH (IH.out t' (by omega))
   have HS:=cH hs
   have b1:1+zR (t.args.take k)+(1+zU t')<=16777216:=by omega
   have HT:=cH eI;clear hs eI ml
   obtain ⟨bu,eu⟩:∃ bu,u=.pointer (some ⟨bu,0,none⟩):=by obtain ⟨ba,_,h,_⟩:=zO hr;exact ⟨ba,h⟩
   subst eu
   go_wp2_with fail
   refine (IH'.out _ hr).mono ?_
   rintro en w' ⟨rfl,ew⟩
   subst ew
   go_wp2_with fail
   go_round
   case rel=>exact ⟨k+1,by omega,by go_num,by rw [HS.out];go_num⟩
   case measure=>simp [intOf];omega
  ·go_wp2_with fail
   go_ret
   have:k=t.args.length:=by omega
   subst this
   exact ⟨u_ (by rw [E1.out,List.take_length];simp),rfl⟩
theorem atoms_any (F:Nat->Prop) (w:World) (n:Nat):∀ t,zU t<=n->Lim n->pj F w t:=by
 induction n with
 | zero=>intro t h _;have:=kR t;omega
 | succ n ih=>exact fun t h hn=>atoms_step F w t (hn.mono h) (fun t' h'=>ih t' (by omega) (hn.mono (by omega)))
def qv (l:Bs):Option Ty:=match rdK 15 l with
 | some (t,[])=>if zU t<=15 then some t else none
 | _=>none
def RKPost (w:World) (o:Option Ty) (en:Ending) (w':World):Prop :=
 ∃ v,en=.returned v/\Below w.heap.size w w'/\(o=none->v=.pointer none)/\(∀ t,o=some t->Rep (w.heap.size<=·) w' (qe t) v)
theorem yK (l:Bs) (w:World) (hl:Lim l.length) :
 Calls Tryz.prog 17 #[str l] w (RKPost w (qv l)):=by
 have fM:=hl.le
 go_enter Tryz.func17,Tryz.ntmps17
 go_wp2_with fail
 have eC:kO w.heap.size [] 91 l (w.alloc (.cells #[str l] 91)):=zT _ _
 refine (kind_any _ _ _ 15 (by omega) l _ eC hl).mono ?_
 rintro en w1 ⟨v,r1,rfl,cT,d7,dY,dp⟩
 have hb:Below w.heap.size w w1:=((cE w.heap.size w).alloc (cC _) _).trans (cT.toBelow (by simp) (fun i hi e=>by omega))
 rcases ha:rdK 15 l with _ | ⟨t,r1'⟩
 ·obtain rfl:=dY ha
  have Ha:=cH ha;clear ha dY dp
  go_wp2_with fail
  go_ret
  exact ⟨_,rfl,hb,fun _=>rfl,fun t h=>by simp [qv,Ha.out] at h⟩
 obtain ⟨rfl,m9⟩:=dp _ _ ha
 obtain ⟨ba,rfl⟩:∃ ba,v=.pointer (some ⟨ba,0,none⟩):=by obtain ⟨ba,_,h,_⟩:=zO m9;exact ⟨ba,h⟩
 have hat:=rdK_atoms _ ha
 have Ha:=cH ha;clear ha dY dp
 have nO:=d7.cell
 have hz:w.heap.size<w1.heap.size:=un d7
 cases r1 with
 | cons x xs =>
   have hne:(!(x::xs).isEmpty)=true:=rfl
   go_wp2_with fail
   go_ret
   exact ⟨_,rfl,hb,fun _=>rfl,fun t h=>by simp [qv,Ha.out] at h⟩
 | nil =>
   go_wp2_with fail
   refine (atoms_any _ w1 (zU t) t (cC _) (hl.mono (by omega)) _ m9).mono ?_
   rintro en w2 ⟨rfl,e2⟩
   subst e2
   by_cases cj:zU t<=15
   ·go_wp2_with fail
    go_ret
    have HM:qv l=some t:=by simp [qv,Ha.out,cj]
    exact ⟨_,rfl,hb,fun h=>by simp [HM] at h,fun t' h=>by rw [HM] at h;simp at h;subst h;exact (Rep.keep fun b o h ho=>⟨by have:=h;simp at this;omega,ho⟩).1 _ _ m9⟩
   ·go_wp2_with fail
    go_ret
    have HM:qv l=none:=by simp [qv,Ha.out,cj]
    exact ⟨_,rfl,hb,fun _=>rfl,fun t' h=>by rw [HM] at h;simp at h⟩
theorem growK_any (n:Nat) (w:World) (hn:Lim n) :
 Calls Tryz.prog 89 #[.slice none 0 0,.int .i64 n] w fun en w' =>
  ∃ a c,en=.returned (.slice a 0 c)/\Own w' 49 1 (.slice a 0 c) 0 []/\Below w.heap.size w w'/\(∀ g,(Value.slice a 0 c).ownBlock=some g->w.heap.size<=g):=by
 have hl:=hn.le
 by_cases h0:n=0
 ·subst h0
  go_enter Tryz.func89,Tryz.ntmps89
  go_wp2_with fail
  go_ret
  exact ⟨none,0,rfl,World.ownsRow_nil _ _ _ _,cE _ _,fun g h=>by simp [Value.ownBlock] at h⟩
 ·have h1:0<n:=by omega
  clear h0
  go_enter Tryz.func89,Tryz.ntmps89
  go_wp2_with (at_builtin;refine vO rfl _ _ 52 3 rfl 49 (.pointer none) 1 8 Tryz.underlying52 Tryz.underlying3 Tryz.infoK rfl (by decide) (by decide) rfl n rfl h1 hl ?_)
  intro cap c nO fV rx
  go_wp2_with fail
  go_ret
  exact ⟨_,cap,rfl,⟨by simp,.inr ⟨w.heap.size,cap,c,rfl,Nat.zero_le _,zT w _,Nat.zero_le _,fV,by simpa using rx,by simp⟩⟩,((cE _ _).alloc (cC _) _).drew,fun g h=>by simp [Value.ownBlock] at h;omega⟩
theorem zM.slice {size:Nat} {x:Value} {m:Nat} {news:List Value} {w:World} (h:zM size x m news w):∃ a c,x=.slice a m c:=by
 obtain ⟨_,_,⟨a,c,rfl,_⟩ | ⟨rfl,rfl⟩⟩:=h
 ·exact ⟨_,_,rfl⟩
 ·exact ⟨_,_,rfl⟩
theorem zM.below {w w':World} {size:Nat} {x:Value} {m:Nat} {news:List Value} (hb:Below w.heap.size w w') (h:zM size x m news w):zM size x m news w' :=
 h.keep fun a v hv=>by rw [hb.cell (cD w a hv)];exact hv
def pz (e:TypeId) (w:World) (n1 n2:Nat) (xs1 xs2:List Value) (v i:Value) (wr:World):Prop :=
 ∃ k m xs a c,i=.int .i64 (k:Nat)/\v=.slice a m c/\Own wr e 1 (.slice a m c) m xs/\Below w.heap.size w wr/\(∀ g,(Value.slice a m c).ownBlock=some g->w.heap.size<=g) /\
   ((k=0/\m=0/\xs=[])\/(k=1/\m=n1/\xs=xs1)\/(k=2/\m=n1+n2/\xs=xs1++xs2))
theorem pz.next {e:TypeId} {w:World} {n1 n2:Nat} {xs1 xs2:List Value} {k m m':Nat} {xs:List Value} {a a':Option Addr} {c c':Nat} {wr w':World}
 (ho:Own w' e 1 (.slice a' m' c') m' xs) (hb:Below w.heap.size w wr) (dV:But (fun b=>(Value.slice a m c).ownBlock=some b) wr w')
 (hf:∀ g,(Value.slice a m c).ownBlock=some g->w.heap.size<=g) (hg:∀ g,(Value.slice a' m' c').ownBlock=some g->(Value.slice a m c).ownBlock=some g\/g=wr.heap.size)
 (hk:(k=0/\m'=0/\xs=[])\/(k=1/\m'=n1/\xs=xs1)\/(k=2/\m'=n1+n2/\xs=xs1++xs2)):pz e w n1 n2 xs1 xs2 (.slice a' m' c') (.int .i64 (k:Nat)) w' :=
 ⟨k,m',xs,a',c',rfl,rfl,ho,hb.trans (dV.toBelow hb.size fun i hi h=>by have:=hf i h;omega),fun g h=>by
  rcases hg g h with h | h
  ·exact hf g h
  ·have:=hb.size;omega,hk⟩
theorem concatK_any (b n1 n2:Nat) (s1 s2:Value) (xs1 xs2:List Value) (w:World) (c1:w.cell? ⟨b,0,none⟩=some s1) (c2:w.cell? ⟨b,1,none⟩=some s2)
 (h1:zM 1 s1 n1 xs1 w) (h2:zM 1 s2 n2 xs2 w) (dY:Lim n1) (fQ:Lim n2) (hn:Lim (n1+n2)) :
 Calls Tryz.prog 72 #[.slice (some ⟨b,0,none⟩) 2 2] w fun en w' =>
  ∃ a c,en=.returned (.slice a (n1+n2) c)/\Own w' 49 1 (.slice a (n1+n2) c) (n1+n2) (xs1++xs2)/\Below w.heap.size w w'/\(∀ g,(Value.slice a (n1+n2) c).ownBlock=some g->w.heap.size<=g):=by
 obtain ⟨a1,k1,rfl⟩:=h1.slice
 obtain ⟨a2,k2,rfl⟩:=h2.slice
 have hl:=hn.le;have nA:=dY.le;have oz:=fQ.le
 have lb:b<w.heap.size:=cD w _ c1
 go_enter Tryz.func72,Tryz.ntmps72
 go_wp2_with fail
 go_loop [3,11] (fun n i=>(i=.int .i64 0/\n=.int .i64 0)\/(i=.int .i64 1/\n=.int .i64 n1)\/(i=.int .i64 2/\n=.int .i64 ((n1:Int)+(n2:Int)))) (fun _ i=>2-(intOf i).toNat)
 case atStart=>exact .inl ⟨rfl,rfl⟩
 case round =>
  rcases hrel with ⟨rfl,rfl⟩ | ⟨rfl,rfl⟩ | ⟨rfl,rfl⟩
  ·go_wp2_with fail
   go_round
   case rel=>exact .inr (.inl ⟨rfl,rfl⟩)
   case measure=>simp [intOf]
  ·go_wp2_with fail
   go_round
   case rel=>exact .inr (.inr ⟨rfl,rfl⟩)
   case measure=>simp [intOf]
  ·go_wp2_with fail
   rw [show (n1:Int)+(n2:Int)=((n1+n2:Nat):Int) from by omega]
   refine (growK_any (n1+n2) w hn).mono ?_
   rintro en wg ⟨ag,cg,rfl,BY,fU,C0⟩
   have f_:pz 49 w n1 n2 xs1 xs2 (.slice ag 0 cg) (.int .i64 (0:Nat)) wg:=⟨0,0,[],ag,cg,rfl,rfl,BY,fU,C0,.inl ⟨rfl,rfl,rfl⟩⟩
   clear BY fU C0
   go_wp2_with fail
   go_loopw [6,27] (fun v i wr=>pz 49 w n1 n2 xs1 xs2 v i wr) (fun _ i _=>2-(intOf i).toNat)
   case atStart=>exact f_
   case round =>
    rename_i wr
    obtain ⟨k,m,xs,a,c,rfl,rfl,ho,hb,hf,hk⟩:=hrel
    have d1:wr.cell? ⟨b,0,none⟩=some (.slice a1 n1 k1):=by rw [hb.cell lb];exact c1
    have d2:wr.cell? ⟨b,1,none⟩=some (.slice a2 n2 k2):=by rw [hb.cell lb];exact c2
    have g1:=h1.below hb;have g2:=h2.below hb
    have HF:=cH hf;clear hf
    rcases hk with ⟨rfl,rfl,rfl⟩ | ⟨rfl,rfl,rfl⟩ | ⟨rfl,rfl,rfl⟩
    ·go_wp2_with (at_builtin;refine zG rfl _ _ 52 rfl 49 (.pointer none) 1 8 Tryz.underlying52 Tryz.infoK rfl (by decide) _ 0 [] rfl ho _ n1 xs1 rfl g1 ?c3 ?c4 ?_)
     case c3=>unfold maxLen;omega
     case c4=>omega
     intro a' c' w' fk dW dF
     have f_:=pz.next (n1:=n1) (n2:=n2) (xs1:=xs1) (xs2:=xs2) (k:=1) fk hb dW HF.out dF (.inr (.inl ⟨rfl,rfl,rfl⟩))
     clear dW dF fk HF
     go_wp2_with fail
     go_roundw
     case rel=>exact f_
     case measure=>simp [intOf]
    ·go_wp2_with (at_builtin;refine zG rfl _ _ 52 rfl 49 (.pointer none) 1 8 Tryz.underlying52 Tryz.infoK rfl (by decide) _ m xs rfl ho _ n2 xs2 rfl g2 ?c3 ?c4 ?_)
     case c3=>unfold maxLen;omega
     case c4=>omega
     intro a' c' w' fk dW dF
     have f_:=pz.next (n1:=m) (n2:=n2) (xs1:=xs) (xs2:=xs2) (k:=2) fk hb dW HF.out dF (.inr (.inr ⟨rfl,rfl,rfl⟩))
     clear dW dF fk HF
     go_wp2_with fail
     go_roundw
     case rel=>exact f_
     case measure=>simp [intOf]
    ·go_wp2_with fail
     go_ret
     exact ⟨a,c,rfl,ho,hb,HF.out⟩
inductive Bd where
 | leaf (c:UInt8)
 | ask (v:Nat) (subs:List Bd) (yes no:Bd)
mutual
def kr:Bd->DV
 | .leaf c=>.ptr 120 [.val (str [c]),.val (.int .i64 (0:Nat)),.sl 55 1 0 [],.val (.pointer none),.val (.pointer none)]
 | .ask v ss y n=>.ptr 120 [.val (str []),.val (.int .i64 v),.sl 55 1 ss.length (qW ss),kr y,kr n]
def qW:List Bd->List DV
 | []=>[]
 | b::bs=>kr b::qW bs
end
def sep (c:UInt8):Bool:=c == 32 || c == 40 || c == 41
def zS (l:Bs):Bs:=l.takeWhile (fun c=>!sep c)
def zE (l:Bs):Bs:=l.dropWhile (fun c=>!sep c)
def lvl (w:Bs) (n:Nat):Option Nat :=
 match Lib.atoiAll w with
 | .ok v=>if Lib.itoa v=w/\0<=v/\v<n then some v.toNat else none
 | _=>none
abbrev Rd:=List Ty->Nat->Bs->Option (Bd×Bs×Nat)
def ze (rd:Rd):List (List Ty)->Nat->Bs->Option (List Bd×Bs×Nat)
 | [],left,l=>some ([],l,left)
 | h::hs,left,l=>do
   let l1<-cut [32] l
   let (b,l2,ct)<-rd h left l1
   let (bs,l3,eZ)<-ze rd hs ct l2
   some (b::bs,l3,eZ)
def bJ (rd:Rd) (levels:List Ty) (v:Nat) (t:Ty) (left:Nat) (l:Bs):Option (Bd×Bs×Nat):=do
 let (ss,l1,eH)<-ze rd (t.args.map fun a=>levels++a.args) left l
 let (yn,l2,ct)<-ze rd [levels,levels] eH l1
 match yn with
 | [y,n]=>do
   let l3<-cut [41] l2
   some (.ask v ss y n,l3,ct)
 | _=>none
def rdB:Nat->Rd
 | d,levels,left,l =>
   match left with
   | 0=>none
   | left+1 =>
     match cut [40] l with
     | none=>if zS l=[116] then some (.leaf 116,zE l,left) else if zS l=[102] then some (.leaf 102,zE l,left) else if zS l=[117] then some (.leaf 117,zE l,left) else none
     | some r=>match lvl (zS r) levels.length with
       | none=>none
       | some v=>match d with
         | 0=>none
         | d+1=>match levels[v]? with
           | none=>none
           | some t=>bJ (rdB d) levels v t left (zE r)
def qQ (rd:Rd) (levels:List Ty) (left:Nat) (l:Bs):Option (Bd×Bs×Nat):=do
 let l1<-cut [32] l
 rd levels left l1
theorem qj (rd:Rd) (h:List Ty) (hs:List (List Ty)) (left:Nat) (l:Bs):ze rd (h::hs) left l=(do
 let (b,l2,ct)<-qQ rd h left l
 let (bs,l3,eZ)<-ze rd hs ct l2
 some (b::bs,l3,eZ)):=by
 rw [ze,qQ]
 cases cut [32] l <;> rfl
theorem rdParts_snoc (rd:Rd) (hs:List (List Ty)) (h:List Ty):∀ (left:Nat) (l:Bs),ze rd (hs++[h]) left l=(do
 let (bs,l2,ct)<-ze rd hs left l
 let (b,l3,eZ)<-qQ rd h ct l2
 some (bs++[b],l3,eZ)):=by
 induction hs with
 | nil =>
   intro left l
   rw [List.nil_append,qj]
   simp only [ze,Option.bind_eq_bind,Option.bind_some]
   cases qQ rd h left l <;> simp
 | cons h' hs ih =>
   intro left l
   rw [List.cons_append,qj,qj]
   simp only [Option.bind_eq_bind]
   cases hp:qQ rd h' left l with
   | none=>simp
   | some x =>
     obtain ⟨b,l2,ct⟩:=x
     simp only [Option.bind_some,ih,Option.bind_eq_bind]
     cases hq:ze rd hs ct l2 with
     | none=>simp
     | some y =>
       obtain ⟨bs,l3,eZ⟩:=y
       simp only [Option.bind_some]
       cases hr:qQ rd h eZ l3 with
       | none=>simp
       | some z=>simp
def zp (levels ts:List Ty):List (List Ty):=ts.map fun a=>levels++a.args
theorem bz {levels ts:List Ty} {k:Nat} {t:Ty} (h:ts[k]? = some t):zp levels (ts.take (k+1))=zp levels (ts.take k)++[levels++t.args]:=by
 rw [List.take_add_one,h];simp [zp]
theorem rdAsk_eq (rd:Rd) (levels:List Ty) (v:Nat) (t:Ty) (left:Nat) (l:Bs):bJ rd levels v t left l=(do
 let (ss,l1,eH)<-ze rd (zp levels t.args) left l
 let (y,l2,ct)<-qQ rd levels eH l1
 let (n,l3,eZ)<-qQ rd levels ct l2
 let l4<-cut [41] l3
 some (.ask v ss y n,l4,eZ)):=by
 rw [bJ]
 show _=(ze rd (zp levels t.args) left l).bind _
 show (ze rd (zp levels t.args) left l).bind _=_
 cases ze rd (zp levels t.args) left l with
 | none=>rfl
 | some x =>
   obtain ⟨ss,l1,eH⟩:=x
   simp only [Option.bind_some,qj,Option.bind_eq_bind]
   cases qQ rd levels eH l1 with
   | none=>rfl
   | some y =>
     obtain ⟨y,l2,ct⟩:=y
     simp only [Option.bind_some]
     cases qQ rd levels ct l2 with
     | none=>rfl
     | some z =>
       obtain ⟨n,l3,eZ⟩:=z
       simp [ze]
theorem lvl_lt {w:Bs} {n v:Nat} (h:lvl w n=some v):v<n/\Lib.atoiAll w=.ok (v:Int)/\Lib.itoa (v:Int)=w:=by
 unfold lvl at h
 split at h
 ·rename_i u hu
  split at h
  ·rename_i hc
   simp at h;subst h
   have e:((u.toNat:Nat):Int)=u:=by omega
   exact ⟨by omega,by rw [e];exact hu,by rw [e];exact hc.1⟩
  ·simp at h
 ·simp at h
theorem lvl_no {w:Bs} {n:Nat} (h:lvl w n=none):(∀ v,Lib.atoiAll w≠.ok v)\/∃ v,Lib.atoiAll w=.ok v/\(Lib.itoa v≠w\/(Lib.itoa v=w/\v<0)\/(Lib.itoa v=w/\0<=v/\(n:Int)<=v)):=by
 unfold lvl at h
 cases ha:Lib.atoiAll w
 ·rename_i u
  rw [ha] at h;simp at h
  refine .inr ⟨u,rfl,?_⟩
  by_cases h1:Lib.itoa u=w
  ·by_cases h2:0<=u
   ·exact .inr (.inr ⟨h1,h2,h h1 h2⟩)
   ·exact .inr (.inl ⟨h1,by omega⟩)
  ·exact .inl h1
 ·exact .inl fun v h=>by simp at h
 ·exact .inl fun v h=>by simp at h
theorem ux {rd:Rd} {levels:List Ty} {left:Nat} {l:Bs} (dT:∀ {lv lf m b r f},rd lv lf m=some (b,r,f)->r.length<=m.length/\f<=lf) {b:Bd} {r:Bs} {f:Nat} (h:qQ rd levels left l=some (b,r,f)):r.length<=l.length/\f<=left:=by
 unfold qQ at h
 simp only [Option.bind_eq_bind,Option.bind_eq_some_iff] at h
 obtain ⟨l1,h1,h2⟩:=h
 have:=Cut.le h1;have:=dT h2
 exact ⟨by omega,this.2⟩
theorem yV {rd:Rd} (dT:∀ {lv lf m b r f},rd lv lf m=some (b,r,f)->r.length<=m.length/\f<=lf) (hs:List (List Ty)):∀ {left:Nat} {l:Bs} {bs:List Bd} {r:Bs} {f:Nat},ze rd hs left l=some (bs,r,f)->r.length<=l.length/\f<=left/\bs.length=hs.length:=by
 induction hs with
 | nil=>intro left l bs r f h;simp [ze] at h;obtain ⟨rfl,rfl,rfl⟩:=h;simp
 | cons h' hs ih =>
   intro left l bs r f h
   rw [qj] at h
   simp only [Option.bind_eq_bind,Option.bind_eq_some_iff,Prod.exists] at h
   obtain ⟨b,l2,f2,h1,bs',l3,f3,h2,h3⟩:=h
   simp at h3;obtain ⟨rfl,rfl,rfl⟩:=h3
   have:=ux dT h1;have:=ih h2
   exact ⟨by omega,by omega,by simp [this.2.2]⟩
theorem uW (l:Bs):(zE l).length<=l.length:=by
 have:zS l++zE l=l:=List.takeWhile_append_dropWhile
 have:=congrArg List.length this;simp at this;omega
theorem bQ (d:Nat):∀ {lv lf m b r f},rdB d lv lf m=some (b,r,f)->r.length<=m.length/\f<=lf:=by
 induction d with
 | zero =>
   intro lv lf m b r f h
   cases lf with
   | zero=>simp [rdB] at h
   | succ lf =>
     unfold rdB at h
     simp only at h
     have hw:=uW m
     cases hc:cut [40] m with
     | none =>
       rw [hc] at h
       simp only at h
       split at h
       ·simp at h;obtain ⟨_,rfl,rfl⟩:=h;exact ⟨hw,by omega⟩
       ·split at h
        ·simp at h;obtain ⟨_,rfl,rfl⟩:=h;exact ⟨hw,by omega⟩
        ·split at h
         ·simp at h;obtain ⟨_,rfl,rfl⟩:=h;exact ⟨hw,by omega⟩
         ·simp at h
     | some r1 =>
       rw [hc] at h;simp only at h
       split at h <;> simp at h
 | succ d ih =>
   intro lv lf m b r f h
   cases lf with
   | zero=>simp [rdB] at h
   | succ lf =>
     unfold rdB at h
     simp only at h
     have hw:=uW m
     cases hc:cut [40] m with
     | none =>
       rw [hc] at h
       simp only at h
       split at h
       ·simp at h;obtain ⟨_,rfl,rfl⟩:=h;exact ⟨hw,by omega⟩
       ·split at h
        ·simp at h;obtain ⟨_,rfl,rfl⟩:=h;exact ⟨hw,by omega⟩
        ·split at h
         ·simp at h;obtain ⟨_,rfl,rfl⟩:=h;exact ⟨hw,by omega⟩
         ·simp at h
     | some r1 =>
       rw [hc] at h;simp only at h
       have k0:=Cut.le hc;have k1:=uW r1
       split at h
       ·simp at h
       ·split at h
        ·simp at h
        ·rw [rdAsk_eq] at h
         simp only [Option.bind_eq_bind,Option.bind_eq_some_iff,Prod.exists] at h
         obtain ⟨ss,l1,f1,h1,y,l2,f2,h2,n,l3,f3,h3,l4,h4,h5⟩:=h
         simp at h5;obtain ⟨_,rfl,rfl⟩:=h5
         have:=yV ih _ h1;have:=ux ih h2;have:=ux ih h3;have:=Cut.le h4
         exact ⟨by omega,by omega⟩
theorem wC (d:Nat) (levels:List Ty) (left:Nat) {l r:Bs} (h:cut [40] l=some r):rdB d levels (left+1) l=(match lvl (zS r) levels.length with
        | none=>none
        | some v=>match d with
          | 0=>none
          | d+1=>match levels[v]? with
            | none=>none
            | some t=>bJ (rdB d) levels v t left (zE r)):=by
 cases d <;> (unfold rdB;simp only [h]) <;> rfl
theorem wB (d:Nat) (levels:List Ty) (left:Nat) {l:Bs} (h:cut [40] l=none):rdB d levels (left+1) l=(if zS l=[116] then some (Bd.leaf 116,zE l,left) else if zS l=[102] then some (.leaf 102,zE l,left) else if zS l=[117] then some (.leaf 117,zE l,left) else none):=by
 unfold rdB;simp only [h]
theorem xR (rd:Rd) (hs gs:List (List Ty)):∀ (left:Nat) (l:Bs),ze rd hs left l=none->ze rd (hs++gs) left l=none:=by
 induction hs with
 | nil=>intro left l h;simp [ze] at h
 | cons h' hs ih =>
   intro left l h
   rw [qj] at h
   rw [List.cons_append,qj]
   simp only [Option.bind_eq_bind] at *
   cases hp:qQ rd h' left l with
   | none=>simp
   | some x =>
     obtain ⟨b,l2,ct⟩:=x
     rw [hp] at h
     simp only [Option.bind_some] at *
     cases hq:ze rd hs ct l2 with
     | none=>rw [ih _ _ hq];simp
     | some y=>rw [hq] at h;simp at h
theorem hands_none {rd:Rd} {levels ts:List Ty} {left:Nat} {l:Bs} (k:Nat) (h:ze rd (zp levels (ts.take k)) left l=none):ze rd (zp levels ts) left l=none:=by
 have e:zp levels ts=zp levels (ts.take k)++zp levels (ts.drop k):=by
  unfold zp;rw [<- List.map_append,List.take_append_drop]
 rw [e];exact xR rd _ _ _ _ h
theorem bj {rd:Rd} {levels ts:List Ty} {left:Nat} {l:Bs} {k:Nat} {t:Ty} {bs:List Bd} {lk:Bs} {leftk:Nat} (ht:ts[k]? = some t) (h:ze rd (zp levels (ts.take k)) left l=some (bs,lk,leftk)) :
 ze rd (zp levels (ts.take (k+1))) left l=(qQ rd (levels++t.args) leftk lk).map fun x=>(bs++[x.1],x.2.1,x.2.2):=by
 rw [bz ht,rdParts_snoc,h]
 simp only [Option.bind_eq_bind,Option.bind_some]
 cases qQ rd (levels++t.args) leftk lk with
 | none=>rfl
 | some x=>rfl
def uH:Bd->List Bd
 | .leaf _=>[]
 | .ask _ ss y n=>ss++[y,n]
mutual
def zk:Bd->Nat
 | .leaf _=>1
 | .ask _ ss y n=>1+(zN ss+(zk y+zk n))
def zN:List Bd->Nat
 | []=>0
 | b::bs=>zk b+zN bs
end
mutual
def vL:Bd->Nat
 | .leaf _=>0
 | .ask _ ss y n=>max (jX ss) (max (1+vL y) (1+vL n))
def jX:List Bd->Nat
 | []=>0
 | b::bs=>max (1+vL b) (jX bs)
end
theorem kx (a b:List Bd):zN (a++b)=zN a+zN b:=by
 induction a with
 | nil=>simp [zN]
 | cons t ts ih=>simp [zN,ih];omega
theorem bi (a b:List Bd):jX (a++b)=max (jX a) (jX b):=by
 induction a with
 | nil=>simp [jX]
 | cons t ts ih=>simp only [List.cons_append,jX,ih];omega
theorem yd (b:Bd):zk b=1+zN (uH b):=by
 cases b with
 | leaf c=>simp [zk,uH,zN]
 | ask v ss y n=>simp [zk,uH,kx,zN]
theorem depthB_parts (b:Bd):vL b=jX (uH b):=by
 cases b with
 | leaf c=>simp [vL,uH,jX]
 | ask v ss y n=>simp only [vL,uH,bi,jX];omega
theorem yh {ts:List Bd} {k:Nat} {t:Bd} (h:ts[k]? = some t):zN (ts.take (k+1))=zN (ts.take k)+zk t:=by
 rw [List.take_add_one,h,kx];simp [zN]
theorem vi (ts:List Bd) (k:Nat):zN (ts.take k)<=zN ts:=by
 have:=kx (ts.take k) (ts.drop k);rw [List.take_append_drop] at this;omega
theorem jY (b:Bd):1<=zk b:=by rw [yd];omega
theorem j7 (ts:List Bd):ts.length<=zN ts:=by
 induction ts with
 | nil=>simp
 | cons t ts ih=>simp [zN];have:=jY t;omega
theorem tw_all {α:Type} (p:α->Bool) (l:List α):∀ c∈l.takeWhile p,p c=true:=by
 induction l with
 | nil=>simp
 | cons x xs ih =>
   intro c hc
   rw [List.takeWhile_cons] at hc
   split at hc
   ·rename_i hx
    rcases List.mem_cons.1 hc with rfl | hc
    ·exact hx
    ·exact ih c hc
   ·simp at hc
theorem tw_end {α:Type} (p:α->Bool) (l:List α):∀ h:(l.takeWhile p).length<l.length,p l[(l.takeWhile p).length]=false:=by
 induction l with
 | nil=>intro h;simp at h
 | cons x xs ih =>
   intro h
   by_cases hx:p x=true
   ·have e:(x::xs).takeWhile p=x::xs.takeWhile p:=by rw [List.takeWhile_cons,if_pos hx]
    have h':(xs.takeWhile p).length<xs.length:=by rw [e] at h;simpa using h
    have:=ih h'
    simp only [e,List.length_cons,List.getElem_cons_succ];exact this
   ·have e:(x::xs).takeWhile p=[]:=by rw [List.takeWhile_cons,if_neg hx]
    simp only [e,List.length_nil,List.getElem_cons_zero];simpa using hx
def dig (c:UInt8):Bool:=48<=c && c<=57
def kY (m:Bs):Bs:=(m.take 4).takeWhile dig
def qK (ds:Bs):Nat:=ds.foldl (fun n c=>10*n+(c.toNat-48)) 0
def qG (m:Bs):Option (Nat×Nat) :=
 if kY m=[]\/(1<(kY m).length/\m.head? = some 48) then none else some (qK (kY m),(kY m).length)
theorem xB (m:Bs):(kY m).length<=4/\(kY m).length<=m.length:=by
 have h1:(kY m).length<=(m.take 4).length:=(List.takeWhile_sublist _).length_le
 simp at h1;omega
theorem vJ (m:Bs):kY m <+: m:=(List.takeWhile_prefix _).trans (List.take_prefix _ _)
theorem j8 (m:Bs):∀ c∈kY m,dig c=true:=by
 exact tw_all dig _
theorem digsOf_at {m:Bs} {j:Nat} (h:j<(kY m).length):∃ hm:j<m.length,m[j]=(kY m)[j]/\dig m[j]=true:=by
 have hp:=vJ m
 have hl:=hp.length_le
 refine ⟨by omega,(hp.getElem h).symm,?_⟩
 rw [<- hp.getElem h]
 exact j8 m _ (List.getElem_mem h)
theorem digsOf_end {m:Bs}:(kY m).length=4\/m.length<=(kY m).length\/∃ h:(kY m).length<m.length,dig m[(kY m).length]=false:=by
 by_cases h4:(kY m).length=4
 ·exact .inl h4
 by_cases hl:m.length<=(kY m).length
 ·exact .inr (.inl hl)
 have eX:=xB m
 refine .inr (.inr ⟨by omega,?_⟩)
 have cL:(kY m).length<(m.take 4).length:=by simp;omega
 have h2:dig ((m.take 4)[(kY m).length])=false:=tw_end dig (m.take 4) cL
 rw [List.getElem_take] at h2;exact h2
theorem xg (ds:Bs) (c:UInt8):qK (ds++[c])=10*qK ds+(c.toNat-48):=by
 unfold qK;rw [List.foldl_append];rfl
theorem valOf_take {ds:Bs} {j:Nat} (h:j<ds.length):qK (ds.take (j+1))=10*qK (ds.take j)+(ds[j].toNat-48):=by
 rw [List.take_add_one,List.getElem?_eq_getElem h];exact xg _ _
theorem valOf_lt (ds:Bs) (hd:∀ c∈ds,dig c=true):qK ds<10 ^ ds.length:=by
 have key:∀ (ds:Bs) (a:Nat),(∀ c∈ds,dig c=true)->ds.foldl (fun n c=>10*n+(c.toNat-48)) a<(a+1)*10 ^ ds.length:=by
  intro ds
  induction ds with
  | nil=>intro a _;simp
  | cons c cs ih =>
    intro a h
    have hc:=h c (by simp)
    simp [dig,UInt8.le_iff_toNat_le] at hc
    have:=ih (10*a+(c.toNat-48)) (fun x hx=>h x (by simp [hx]))
    simp only [List.foldl_cons,List.length_cons,Nat.pow_succ]
    refine cM this ?_
    rw [show (a+1)*(10 ^ cs.length*10)=(10*(a+1))*10 ^ cs.length from by rw [Nat.mul_comm (10 ^ cs.length) 10,<- Nat.mul_assoc,Nat.mul_comm (a+1) 10]]
    exact Nat.mul_le_mul_right _ (by omega)
 simpa [qK] using key ds 0 hd
abbrev RdS:=List Ty->Bs->Option (Bd×Bs)
def kW (rd:RdS) (h:List Ty) (l:Bs):Option (Bd×Bs):=do
 let l1<-cut [32] l
 rd h l1
def zW (rd:RdS):List (List Ty)->Bs->Option (List Bd×Bs)
 | [],l=>some ([],l)
 | h::hs,l=>do
   let (b,l1)<-kW rd h l
   let (bs,l2)<-zW rd hs l1
   some (b::bs,l2)
def kI (hand:List Ty) (t:Ty):List (List Ty):=zp hand t.args++[hand,hand]
def yL (v n:Nat) (ps:List Bd):Option Bd:=match ps.drop n with
 | [y,no]=>some (.ask v (ps.take n) y no)
 | _=>none
def rdN:Nat->RdS
 | 0,_,_=>none
 | e+1,hand,l=>match l with
   | []=>none
   | c::r=>if c=116\/c=102\/c=117 then some (.leaf c,r) else if c≠40 then none else
     match qG r with
     | none=>none
     | some (v,k)=>match hand[v]? with
       | none=>none
       | some t=>do
         let (ps,l1)<-zW (rdN e) (kI hand t) (r.drop k)
         let l2<-cut [41] l1
         let b<-yL v t.args.length ps
         some (b,l2)
theorem g7 (rd:RdS) (hs:List (List Ty)) (h:List Ty):∀ (l:Bs),zW rd (hs++[h]) l=(do
 let (bs,l1)<-zW rd hs l
 let (b,l2)<-kW rd h l1
 some (bs++[b],l2)):=by
 induction hs with
 | nil =>
   intro l
   simp only [List.nil_append,zW,Option.bind_eq_bind,Option.bind_some]
   done
 | cons h' hs ih =>
   intro l
   simp only [List.cons_append,zW,Option.bind_eq_bind]
   cases hp:kW rd h' l with
   | none=>simp
   | some x =>
     obtain ⟨b,l1⟩:=x
     simp only [Option.bind_some,ih,Option.bind_eq_bind]
     cases hq:zW rd hs l1 with
     | none=>simp
     | some y =>
       obtain ⟨bs,l2⟩:=y
       simp only [Option.bind_some]
       cases hr:kW rd h l2 with
       | none=>simp
       | some z=>simp
theorem yO (rd:RdS) (hs gs:List (List Ty)):∀ (l:Bs),zW rd hs l=none->zW rd (hs++gs) l=none:=by
 induction hs with
 | nil=>intro l h;simp [zW] at h
 | cons h' hs ih =>
   intro l h
   simp only [List.cons_append,zW,Option.bind_eq_bind] at *
   cases hp:kW rd h' l with
   | none=>simp
   | some x =>
     obtain ⟨b,l1⟩:=x
     rw [hp] at h
     simp only [Option.bind_some] at *
     cases hq:zW rd hs l1 with
     | none=>rw [ih _ hq];simp
     | some y=>rw [hq] at h;simp at h
theorem jE {rd:RdS} {hs:List (List Ty)} {l:Bs} (k:Nat) (h:zW rd (hs.take k) l=none):zW rd hs l=none:=by
 have:=yO rd (hs.take k) (hs.drop k) l h
 rwa [List.take_append_drop] at this
theorem ve {rd:RdS} {hs:List (List Ty)} {l:Bs} {k:Nat} {h:List Ty} {ps:List Bd} {lk:Bs} (hk:hs[k]? = some h) (hp:zW rd (hs.take k) l=some (ps,lk)) :
 zW rd (hs.take (k+1)) l=(kW rd h lk).map fun x=>(ps++[x.1],x.2):=by
 rw [List.take_add_one,hk]
 show zW rd (hs.take k++[h]) l=_
 rw [g7,hp]
 simp only [Option.bind_eq_bind,Option.bind_some]
 cases kW rd h lk with
 | none=>rfl
 | some x=>rfl
theorem uv {rd:RdS} (hs:List (List Ty)):∀ {l:Bs} {ps:List Bd} {r:Bs},zW rd hs l=some (ps,r)->ps.length=hs.length:=by
 induction hs with
 | nil=>intro l ps r h;simp [zW] at h;obtain ⟨rfl,rfl⟩:=h;rfl
 | cons h' hs ih =>
   intro l ps r h
   simp only [zW,Option.bind_eq_bind,Option.bind_eq_some_iff,Prod.exists] at h
   obtain ⟨b,l1,h1,bs,l2,h2,h3⟩:=h
   simp at h3;obtain ⟨rfl,rfl⟩:=h3
   simp [ih h2]
theorem allHands_kid {hand:List Ty} {t a:Ty} {k:Nat} (h:t.args[k]? = some a):(kI hand t)[k]? = some (hand++a.args):=by
 have hl:k<t.args.length:=(List.getElem?_eq_some_iff.1 h).1
 unfold kI
 rw [List.getElem?_append_left (by simpa [zp] using hl)]
 simp [zp,h]
theorem allHands_yes {hand:List Ty} {t:Ty} {k:Nat} (h1:t.args.length<=k) (h2:k<t.args.length+2):(kI hand t)[k]? = some hand:=by
 unfold kI
 rw [List.getElem?_append_right (by simpa [zp] using h1)]
 simp only [zp,List.length_map]
 rcases (by omega:k-t.args.length=0\/k-t.args.length=1) with h | h <;> simp [h]
theorem vI (hand:List Ty) (t:Ty):(kI hand t).length=t.args.length+2:=by simp [kI,zp]
theorem gC {rd:RdS} (dT:∀ {h l b r},rd h l=some (b,r)->r <:+ l) {h:List Ty} {l r:Bs} {b:Bd} (hp:kW rd h l=some (b,r)):r <:+ l:=by
 unfold kW at hp
 simp only [Option.bind_eq_bind,Option.bind_eq_some_iff] at hp
 obtain ⟨l1,h1,h2⟩:=hp
 refine (dT h2).trans ?_
 unfold cut at h1;split at h1
 ·simp at h1;subst h1;first | exact List.tail_suffix _ | exact List.drop_suffix _ _
 ·simp at h1
theorem pU {rd:RdS} (dT:∀ {h l b r},rd h l=some (b,r)->r <:+ l) (hs:List (List Ty)):∀ {l r:Bs} {ps:List Bd},zW rd hs l=some (ps,r)->r <:+ l:=by
 induction hs with
 | nil=>intro l r ps h;simp [zW] at h;obtain ⟨rfl,rfl⟩:=h;exact List.suffix_refl _
 | cons h' hs ih =>
   intro l r ps h
   simp only [zW,Option.bind_eq_bind,Option.bind_eq_some_iff,Prod.exists] at h
   obtain ⟨b,l1,h1,bs,l2,h2,h3⟩:=h
   simp at h3;obtain ⟨rfl,rfl⟩:=h3
   exact (ih h2).trans (gC dT h1)
theorem yU (e:Nat):∀ {h:List Ty} {l:Bs} {b:Bd} {r:Bs},rdN e h l=some (b,r)->r <:+ l:=by
 induction e with
 | zero=>intro h l b r hq;simp [rdN] at hq
 | succ e ih =>
   intro h l b r hq
   cases l with
   | nil=>simp [rdN] at hq
   | cons c m =>
     simp only [rdN] at hq
     split at hq
     ·simp at hq;obtain ⟨_,rfl⟩:=hq;exact List.suffix_cons _ _
     ·split at hq
      ·simp at hq
      ·split at hq
       ·simp at hq
       ·split at hq
        ·simp at hq
        ·simp only [Option.bind_eq_bind,Option.bind_eq_some_iff,Prod.exists] at hq
         obtain ⟨ps,l1,h1,l2,h2,b',h3,h4⟩:=hq
         simp at h4;obtain ⟨_,rfl⟩:=h4
         have k1:=pU ih _ h1
         have k2:l2 <:+ l1:=by
          unfold cut at h2;split at h2
          ·simp at h2;subst h2;first | exact List.tail_suffix _ | exact List.drop_suffix _ _
          ·simp at h2
         exact ((k2.trans k1).trans (List.drop_suffix _ _)).trans (List.suffix_cons _ _)
theorem qo {c:UInt8} {l r:Bs} (h:cut [c] l=some r):l=c::r:=by
 unfold cut at h
 split at h
 ·rename_i hp
  cases l with
  | nil=>simp [List.isPrefixOf] at hp
  | cons x xs =>
    simp [List.isPrefixOf] at hp h
    rw [hp,h]
 ·simp at h
theorem cK {v n:Nat} {ps:List Bd} {b:Bd} (h:yL v n ps=some b):zk b=1+zN ps:=by
 unfold yL at h
 split at h
 ·rename_i y no hd
  simp at h;subst h
  have h1:zN ps=zN (ps.take n)+zN (ps.drop n):=by rw [<- kx,List.take_append_drop]
  rw [hd] at h1
  simp [zk,zN] at h1 ⊢;omega
 ·simp at h
theorem specPart_size {rd:RdS} (dT:∀ {h l b r},rd h l=some (b,r)->zk b+r.length<=l.length) {h:List Ty} {l r:Bs} {b:Bd} (hp:kW rd h l=some (b,r)):zk b+r.length<=l.length:=by
 unfold kW at hp
 simp only [Option.bind_eq_bind,Option.bind_eq_some_iff] at hp
 obtain ⟨l1,h1,h2⟩:=hp
 have:=dT h2
 have:=qo h1
 subst this;simp;omega
theorem g8 {rd:RdS} (dT:∀ {h l b r},rd h l=some (b,r)->zk b+r.length<=l.length) (hs:List (List Ty)):∀ {l r:Bs} {ps:List Bd},zW rd hs l=some (ps,r)->zN ps+r.length<=l.length:=by
 induction hs with
 | nil=>intro l r ps h;simp [zW] at h;obtain ⟨rfl,rfl⟩:=h;simp [zN]
 | cons h' hs ih =>
   intro l r ps h
   simp only [zW,Option.bind_eq_bind,Option.bind_eq_some_iff,Prod.exists] at h
   obtain ⟨b,l1,h1,bs,l2,h2,h3⟩:=h
   simp at h3;obtain ⟨rfl,rfl⟩:=h3
   have:=ih h2;have:=specPart_size dT h1
   simp [zN];omega
theorem rdN_size (e:Nat):∀ {h:List Ty} {l:Bs} {b:Bd} {r:Bs},rdN e h l=some (b,r)->zk b+r.length<=l.length:=by
 induction e with
 | zero=>intro h l b r hq;simp [rdN] at hq
 | succ e ih =>
   intro h l b r hq
   cases l with
   | nil=>simp [rdN] at hq
   | cons c m =>
     simp only [rdN] at hq
     split at hq
     ·simp at hq;obtain ⟨rfl,rfl⟩:=hq;simp [zk];omega
     ·split at hq
      ·simp at hq
      ·split at hq
       ·simp at hq
       ·split at hq
        ·simp at hq
        ·simp only [Option.bind_eq_bind,Option.bind_eq_some_iff,Prod.exists] at hq
         obtain ⟨ps,l1,h1,l2,h2,b',h3,h4⟩:=hq
         simp at h4;obtain ⟨rfl,rfl⟩:=h4
         have k1:=g8 ih _ h1
         have k2:=qo h2
         have k3:=cK h3
         subst k2
         simp at k1 ⊢;omega
theorem decode_hi (s:ByteArray) (pos:Nat) (h:pos<s.size) (ha:128<=(s.get! pos).toNat) :
 128<=(Utf8.decode s pos).1/\1<=(Utf8.decode s pos).2/\pos+(Utf8.decode s pos).2<=s.size/\∀ j,pos<=j->j<pos+(Utf8.decode s pos).2->128<=(s.get! j).toNat:=by
 rw [Lib.decode_at]
 have hn:¬ (s.get! pos).toNat<128:=by omega
 unfold Lib.decodeN
 rw [if_neg hn]
 repeat' split
 all_goals refine ⟨by simp only;omega,by simp only;omega,by simp only;omega,fun j h1 h2=>?_⟩
 all_goals simp only at h2
 all_goals rcases (by omega:j=pos\/j=pos+1\/j=pos+2\/j=pos+3) with rfl | rfl | rfl | rfl <;> omega
set_option maxRecDepth 100000 in
theorem indexRune_bad (w:World):Calls Tryz.prog 94 #[.string ⟨#[32,40,41]⟩,.int .i32 65533] w fun en w'=>en=.returned (.int .i64 (-1))/\Below w.heap.size w w':=by
 go_enter Tryz.func94,Tryz.ntmps94
 go_wp2_with fail
 go_loopg [5,6] 3 (fun g _ _ wx=>∃ i:Nat,i+g=3/\wx=w.iter ⟨#[32,40,41]⟩ i)
 case atStart=>exact ⟨0,rfl,rfl⟩
 case round =>
  obtain ⟨i,hig,rfl⟩:=hrel
  cases gk with
  | zero =>
    obtain rfl:i=3:=by omega
    have tE:=fun ty=>run_next_end (P:=Tryz.prog) w ⟨#[32,40,41]⟩ 3 ty (by decide)
    go_wp2_with fail
    go_ret
    exact ⟨rfl,(cE _ _).alloc (cC _) _⟩
  | succ g =>
    have hi:i<(⟨#[32,40,41]⟩:ByteArray).size:=by show i<3;omega
    obtain ⟨x,hx⟩:∃ x:UInt8,(⟨#[32,40,41]⟩:ByteArray)[i]'hi=x:=⟨_,rfl⟩
    have Bo:x.toNat<128:=by
     rw [<- hx]
     rcases (by omega:i=0\/i=1\/i=2) with rfl | rfl | rfl
     ·exact (by decide:(32:UInt8).toNat<128)
     ·exact (by decide:(40:UInt8).toNat<128)
     ·exact (by decide:(41:UInt8).toNat<128)
    have tE:=fun ty=>run_next_ascii (P:=Tryz.prog) w ⟨#[32,40,41]⟩ i ty hi (by rw [hx];exact Bo)
    rw [hx] at tE
    have HX:=cH hx;clear hx
    have hne:((x.toNat:Int) == 65533)=false:=by rw [beq_eq_false_iff_ne];omega
    go_wp2_with fail
    go_roundg g
    case measure=>omega
    case rel=>exact ⟨i+1,by omega,rfl⟩
theorem idx_hi:∀ (L:Bs) (c:Int),(∀ b∈L,b.toNat<128)->128<=c->c<256->Lib.indexByte L c.toNat.toUInt8 = -1
 | [],_,_,_,_=>rfl
 | b::l,c,h,h1,h2=>by
   have hb:=h b (by simp)
   have e:c.toNat.toUInt8.toNat=c.toNat:=by
    show (UInt8.ofNat c.toNat).toNat=_
    rw [UInt8.toNat_ofNat'];exact Nat.mod_eq_of_lt (by omega)
   have hne:(b == c.toNat.toUInt8)=false:=by
    rw [beq_eq_false_iff_ne];intro e';rw [e'] at hb;omega
   rw [Lib.indexByte,hne,idx_hi l c (fun x hx=>h x (by simp [hx])) h1 h2]
   rfl
theorem yH (t:ByteArray) (c:Int) (h:∀ b∈t.data.toList,b.toNat<128) (hc:Hid (128<=c/\c<256)) (w:World) :
 Calls Tryz.prog 91 #[.string t,.int .u8 c] w fun e w'=>e=.returned (.int .i64 (-1))/\w'=w :=
 (Tryz.strings_IndexByte t c w).mono fun e w' ⟨h1,h2⟩=>⟨by rw [h1,idx_hi _ _ h hc.out.1 hc.out.2],h2⟩
theorem xe {cs:ByteArray} (h:Hid (∀ b∈cs.data.toList,b.toNat<128)) (i j:Nat):∀ b∈(cs.extract i j).data.toList,b.toNat<128:=by
 intro b hb
 refine h.out b ?_
 have e:(cs.extract i j).data.toList=(cs.data.toList.drop i).take (j-i):=by simp
 rw [e] at hb
 exact List.mem_of_mem_drop (List.mem_of_mem_take hb)
theorem kZ {B:Nat} {a w:World} (h:Below B a w) (n:Nat):Below B a (w.drewN n):=h.trans ⟨rfl,rfl,rfl,cC _,fun _ _=>rfl⟩
set_option maxRecDepth 100000 in
theorem indexRune_hi (cs:ByteArray) (hcs:∀ b∈cs.data.toList,b.toNat<128) (r:Int) (h128:128<=r) (hne:r≠65533) (hv:Utf8.valid r=true) (w:World):Calls Tryz.prog 94 #[.string cs,.int .i32 r] w fun en w'=>en=.returned (.int .i64 (-1))/\Below w.heap.size w w':=by
 obtain ⟨n1,n2,n3⟩:=encode_facts r hv h128
 have cL:¬ r<128:=by omega
 have hq:(r == 65533)=false:=by rw [beq_eq_false_iff_ne];exact hne
 have AB:Lib.validRune r=true:=by rw [validRune_eq] at hv;exact hv
 clear hv hne
 obtain ⟨rs,he⟩:=zzN (Utf8.encode r)
 rw [he] at n1 n2 n3
 obtain ⟨⟨l⟩⟩:=rs
 change 2<=l.length at n1
 change l.length<=4 at n2
 match l,n1,n2 with
 | [a,b],_,_ =>
   have hb:128<=b.toNat:=n3 (show 2-1<2 by decide)
   have cS:=b.toNat_lt
   have HC:Hid ((128:Int)<=((((⟨⟨[a,b]⟩⟩:ByteArray)[1]'(show 1<2 by decide)).toNat:Int))/\((((⟨⟨[a,b]⟩⟩:ByteArray)[1]'(show 1<2 by decide)).toNat:Int))<256):=by
    show (128:Int)<=(b.toNat:Int)/\(b.toNat:Int)<256
    omega
   clear n3
   by_cases hi:1<cs.size
   rotate_left
   ·have Cx:¬ (1:Int)<(cs.size:Int):=by omega
    go_enter Tryz.func94,Tryz.ntmps94
    go_wp2_with (go_at_call 106;refine (Tryz.utf8_ValidRune r _).mono ?_;rintro en w1 ⟨rfl,hw⟩;rw [AB];obtain rfl:=hw)
    go_step3
    go_wp2_with fail
    go_loop [9,10] (fun i f=>i=.int .i64 1/\f=.int .i64 0) (fun _ _=>0)
    case atStart=>exact ⟨rfl,rfl⟩
    case round =>
     obtain ⟨rfl,rfl⟩:=hrel
     go_wp2_with fail
     change bodyPost Tryz.prog Tryz.f94 (fun en w'=>en=.returned (.int .i64 (-1))/\Below w1.heap.size w1 w') Exit.ret _ _
     refine bodyPost_ret (v:=.int .i64 (-1)) (by simp [results,Tryz.results94,go_sem]) rfl ?_
     exact ⟨rfl,by first | exact kZ (cE _ _).drew _ | exact kZ (cE _ _) _ | exact cE _ _⟩
   have Cx:(1:Int)<(cs.size:Int):=by omega
   have tj:(2:Int)<=(cs.size:Int):=by omega
   have AA:IntKind.i64.wrap (2:Int)=2:=by decide
   have ru:(cs[1]'hi).toNat<128:=hcs _ (Array.getElem_mem_toList (xs:=cs.data) hi)
   have hn:((((cs[1]'hi).toNat:Int)) != ((((⟨⟨[a,b]⟩⟩:ByteArray)[1]'(show 1<2 by decide)).toNat:Int)))=true:=by
    show (((cs[1]'hi).toNat:Int) != (b.toNat:Int))=true
    rw [bne_iff_ne];omega
   have As:=cH hcs;clear hcs
   go_enter Tryz.func94,Tryz.ntmps94
   go_wp2_with (go_at_call 106;refine (Tryz.utf8_ValidRune r _).mono ?_;rintro en w1 ⟨rfl,hw⟩;rw [AB];obtain rfl:=hw)
   go_step3
   go_wp2_with fail
   go_loop [9,10] (fun i f=>i=.int .i64 1/\f=.int .i64 0) (fun _ _=>0)
   case atStart=>exact ⟨rfl,rfl⟩
   case round =>
    obtain ⟨rfl,rfl⟩:=hrel
    go_wp2_with fail
    go_step3
    go_wp2_with fail
    go_region
    go_wp2_with fail
    go_quiet (first | (go_at_call 91;exact (yH _ _ (xe As _ _) HC _).mono fun _ _ ⟨he,hm⟩=>⟨he,_,hm⟩))
    go_wp2_with fail
    change bodyPost Tryz.prog Tryz.f94 (fun en w'=>en=.returned (.int .i64 (-1))/\Below w1.heap.size w1 w') Exit.ret _ _
    refine bodyPost_ret (v:=.int .i64 (-1)) (by simp [results,Tryz.results94,go_sem]) rfl ?_
    exact ⟨rfl,by first | exact kZ (cE _ _).drew _ | exact kZ (cE _ _) _ | exact cE _ _⟩
 | [a,b,c],_,_ =>
   have hb:128<=c.toNat:=n3 (show 3-1<3 by decide)
   have cS:=c.toNat_lt
   have HC:Hid ((128:Int)<=((((⟨⟨[a,b,c]⟩⟩:ByteArray)[2]'(show 2<3 by decide)).toNat:Int))/\((((⟨⟨[a,b,c]⟩⟩:ByteArray)[2]'(show 2<3 by decide)).toNat:Int))<256):=by
    show (128:Int)<=(c.toNat:Int)/\(c.toNat:Int)<256
    omega
   clear n3
   by_cases hi:2<cs.size
   rotate_left
   ·have Cx:¬ (2:Int)<(cs.size:Int):=by omega
    go_enter Tryz.func94,Tryz.ntmps94
    go_wp2_with (go_at_call 106;refine (Tryz.utf8_ValidRune r _).mono ?_;rintro en w1 ⟨rfl,hw⟩;rw [AB];obtain rfl:=hw)
    go_step3
    go_wp2_with fail
    go_loop [9,10] (fun i f=>i=.int .i64 2/\f=.int .i64 0) (fun _ _=>0)
    case atStart=>exact ⟨rfl,rfl⟩
    case round =>
     obtain ⟨rfl,rfl⟩:=hrel
     go_wp2_with fail
     change bodyPost Tryz.prog Tryz.f94 (fun en w'=>en=.returned (.int .i64 (-1))/\Below w1.heap.size w1 w') Exit.ret _ _
     refine bodyPost_ret (v:=.int .i64 (-1)) (by simp [results,Tryz.results94,go_sem]) rfl ?_
     exact ⟨rfl,by first | exact kZ (cE _ _).drew _ | exact kZ (cE _ _) _ | exact cE _ _⟩
   have Cx:(2:Int)<(cs.size:Int):=by omega
   have tj:(3:Int)<=(cs.size:Int):=by omega
   have AA:IntKind.i64.wrap (3:Int)=3:=by decide
   have ru:(cs[2]'hi).toNat<128:=hcs _ (Array.getElem_mem_toList (xs:=cs.data) hi)
   have hn:((((cs[2]'hi).toNat:Int)) != ((((⟨⟨[a,b,c]⟩⟩:ByteArray)[2]'(show 2<3 by decide)).toNat:Int)))=true:=by
    show (((cs[2]'hi).toNat:Int) != (c.toNat:Int))=true
    rw [bne_iff_ne];omega
   have As:=cH hcs;clear hcs
   go_enter Tryz.func94,Tryz.ntmps94
   go_wp2_with (go_at_call 106;refine (Tryz.utf8_ValidRune r _).mono ?_;rintro en w1 ⟨rfl,hw⟩;rw [AB];obtain rfl:=hw)
   go_step3
   go_wp2_with fail
   go_loop [9,10] (fun i f=>i=.int .i64 2/\f=.int .i64 0) (fun _ _=>0)
   case atStart=>exact ⟨rfl,rfl⟩
   case round =>
    obtain ⟨rfl,rfl⟩:=hrel
    go_wp2_with fail
    go_step3
    go_wp2_with fail
    go_region
    go_wp2_with fail
    go_quiet (first | (go_at_call 91;exact (yH _ _ (xe As _ _) HC _).mono fun _ _ ⟨he,hm⟩=>⟨he,_,hm⟩))
    go_wp2_with fail
    change bodyPost Tryz.prog Tryz.f94 (fun en w'=>en=.returned (.int .i64 (-1))/\Below w1.heap.size w1 w') Exit.ret _ _
    refine bodyPost_ret (v:=.int .i64 (-1)) (by simp [results,Tryz.results94,go_sem]) rfl ?_
    exact ⟨rfl,by first | exact kZ (cE _ _).drew _ | exact kZ (cE _ _) _ | exact cE _ _⟩
 | [a,b,c,d],_,_ =>
   have hb:128<=d.toNat:=n3 (show 4-1<4 by decide)
   have cS:=d.toNat_lt
   have HC:Hid ((128:Int)<=((((⟨⟨[a,b,c,d]⟩⟩:ByteArray)[3]'(show 3<4 by decide)).toNat:Int))/\((((⟨⟨[a,b,c,d]⟩⟩:ByteArray)[3]'(show 3<4 by decide)).toNat:Int))<256):=by
    show (128:Int)<=(d.toNat:Int)/\(d.toNat:Int)<256
    omega
   clear n3
   by_cases hi:3<cs.size
   rotate_left
   ·have Cx:¬ (3:Int)<(cs.size:Int):=by omega
    go_enter Tryz.func94,Tryz.ntmps94
    go_wp2_with (go_at_call 106;refine (Tryz.utf8_ValidRune r _).mono ?_;rintro en w1 ⟨rfl,hw⟩;rw [AB];obtain rfl:=hw)
    go_step3
    go_wp2_with fail
    go_loop [9,10] (fun i f=>i=.int .i64 3/\f=.int .i64 0) (fun _ _=>0)
    case atStart=>exact ⟨rfl,rfl⟩
    case round =>
     obtain ⟨rfl,rfl⟩:=hrel
     go_wp2_with fail
     change bodyPost Tryz.prog Tryz.f94 (fun en w'=>en=.returned (.int .i64 (-1))/\Below w1.heap.size w1 w') Exit.ret _ _
     refine bodyPost_ret (v:=.int .i64 (-1)) (by simp [results,Tryz.results94,go_sem]) rfl ?_
     exact ⟨rfl,by first | exact kZ (cE _ _).drew _ | exact kZ (cE _ _) _ | exact cE _ _⟩
   have Cx:(3:Int)<(cs.size:Int):=by omega
   have tj:(4:Int)<=(cs.size:Int):=by omega
   have AA:IntKind.i64.wrap (4:Int)=4:=by decide
   have ru:(cs[3]'hi).toNat<128:=hcs _ (Array.getElem_mem_toList (xs:=cs.data) hi)
   have hn:((((cs[3]'hi).toNat:Int)) != ((((⟨⟨[a,b,c,d]⟩⟩:ByteArray)[3]'(show 3<4 by decide)).toNat:Int)))=true:=by
    show (((cs[3]'hi).toNat:Int) != (d.toNat:Int))=true
    rw [bne_iff_ne];omega
   have As:=cH hcs;clear hcs
   go_enter Tryz.func94,Tryz.ntmps94
   go_wp2_with (go_at_call 106;refine (Tryz.utf8_ValidRune r _).mono ?_;rintro en w1 ⟨rfl,hw⟩;rw [AB];obtain rfl:=hw)
   go_step3
   go_wp2_with fail
   go_loop [9,10] (fun i f=>i=.int .i64 3/\f=.int .i64 0) (fun _ _=>0)
   case atStart=>exact ⟨rfl,rfl⟩
   case round =>
    obtain ⟨rfl,rfl⟩:=hrel
    go_wp2_with fail
    go_step3
    go_wp2_with fail
    go_region
    go_wp2_with fail
    go_quiet (first | (go_at_call 91;exact (yH _ _ (xe As _ _) HC _).mono fun _ _ ⟨he,hm⟩=>⟨he,_,hm⟩))
    go_wp2_with fail
    change bodyPost Tryz.prog Tryz.f94 (fun en w'=>en=.returned (.int .i64 (-1))/\Below w1.heap.size w1 w') Exit.ret _ _
    refine bodyPost_ret (v:=.int .i64 (-1)) (by simp [results,Tryz.results94,go_sem]) rfl ?_
    exact ⟨rfl,by first | exact kZ (cE _ _).drew _ | exact kZ (cE _ _) _ | exact cE _ _⟩
def adv (w:World) (g:Nat) (s:ByteArray) (p:Nat):World:={ w with heap:=w.heap.setIfInBounds g (.stringIter s p) }
theorem run_next_in {P:Program} {wx:World} {g:Nat} {s:ByteArray} {pos:Nat} (h:wx.heap[g]? = some (.stringIter s pos)) (hp:pos<s.size) (ty:TypeId) :
 (Instr.next (.pointer (some ⟨g,0,none⟩)) true ty).run P wx=.ok (.tuple #[.bool true,.int .i64 pos,.int .i32 (Utf8.decode s pos).1]) (adv wx g s (pos+(Utf8.decode s pos).2)):=by
 simp only [Instr.next,getObj,setObj,Sem.run_bind,Sem.run,h,Result.andThen,hp,if_true,adv]
 simp [goInt]
theorem run_next_out {P:Program} {wx:World} {g:Nat} {s:ByteArray} {pos:Nat} (h:wx.heap[g]? = some (.stringIter s pos)) (hp:¬ pos<s.size) (ty:TypeId) :
 (Instr.next (.pointer (some ⟨g,0,none⟩)) true ty).run P wx=.ok (.tuple #[.bool false]) wx:=by
 simp [Instr.next,getObj,Sem.run,h,hp]
theorem adv_at {wx:World} {g:Nat} {s:ByteArray} {p p':Nat} (h:wx.heap[g]? = some (.stringIter s p)):(adv wx g s p').heap[g]? = some (.stringIter s p'):=by
 have hl:=zZ h
 simp [adv,hl]
theorem adv_size (wx:World) (g:Nat) (s:ByteArray) (p:Nat):(adv wx g s p).heap.size=wx.heap.size:=by simp [adv]
theorem adv_below {w wx:World} {s:ByteArray} {p:Nat} {B:Nat} (g:Nat) (h:Below B w wx) (hg:B<=g):Below B w (adv wx g s p) :=
 ⟨h.os,h.tape,h.output,by rw [adv_size];exact h.size,fun k hk=>by
  rw [<- h.block k hk]
  simp only [adv,Array.getElem?_setIfInBounds]
  rw [if_neg (by omega)]⟩
theorem decode_valid (s:ByteArray) (pos:Nat):Utf8.valid ((Utf8.decode s pos).1:Int)=true:=by
 have h:=Lib.rune_valid (s.extract pos s.size)
 rw [Lib.tail_decode s pos 0,Nat.add_zero] at h
 rw [validRune_eq];exact h
theorem get_data (s:ByteArray) {j:Nat} (h:j<s.size):s.data.toList[j]? = some (s.get! j):=by
 have h':j<s.data.size:=h
 simp only [ByteArray.get!,Array.getElem?_toList]
 rw [Array.getElem?_eq_getElem h',getElem!_pos s.data j h']
set_option maxRecDepth 100000 in
theorem bO (s:ByteArray) (h8:s.size<=8) (w:World):Calls Tryz.prog 85 #[.string s,.string ⟨#[32,40,41]⟩] w fun en w'=>en=.returned (.int .i64 (Lib.indexAny s.data.toList [32,40,41]))/\Below w.heap.size w w':=by
 have h8z:decide ((8:Int)<(s.size:Int))=false:=decide_eq_false (by omega)
 go_enter Tryz.func85,Tryz.ntmps85
 go_wp2_with (go_at_call 95;refine (Tryz.strings_shouldUseASCIISet _ _).mono ?_;rintro e w' ⟨rfl,hw⟩;rw [hw,h8z])
 go_loopw [9,10] (fun _ _ wx=>∃ i:Nat,i<=s.size/\wx.heap[w.heap.size]? = some (.stringIter s i)/\Below w.heap.size w wx/\Lib.NoAny s.data.toList [32,40,41] i) (fun _ _ wx=>s.size-wx.iterPos w.heap.size)
 case atStart=>exact ⟨0,Nat.zero_le _,World.iter_heap _ _ _,(cE _ _).alloc (cC _) _,Lib.NoAny.zero _ _⟩
 case round =>
  obtain ⟨i,hi,sP,hb,mj⟩:=hrel
  have HN:=cH mj;have HI:=cH sP;have HB:=cH hb;clear mj
  by_cases cL:i<s.size
  rotate_left
  ·have tE:=run_next_out (P:=Tryz.prog) sP cL
   obtain rfl:i=s.size:=by omega
   clear sP hb
   go_wp2_with fail
   go_ret
   exact ⟨u_ (by rw [Lib.indexAny_none (by have:=HN.out;simpa using this)]),HB.out⟩
  ·have tE:=run_next_in (P:=Tryz.prog) sP cL
   have AQ:=adv_at (p':=i+(Utf8.decode s i).2) sP
   have cT:=adv_below (s:=s) (p:=i+(Utf8.decode s i).2) w.heap.size hb (cC _)
   have nC:wr.iterPos w.heap.size=i:=by unfold World.iterPos;rw [sP]
   have hxd:=get_data s cL
   generalize adv wr w.heap.size s (i+(Utf8.decode s i).2)=W1 at *
   have HG:=cH AQ;have da:=cH cT;have HP:=cH nC
   have tx:=zZ AQ
   clear sP hb AQ cT nC
   by_cases hx:(s.get! i).toNat<128
   ·have hd:Utf8.decode s i=((s.get! i).toNat,1):=by rw [Lib.decode_at];unfold Lib.decodeN;rw [if_pos hx]
    rw [hd] at tE HG
    obtain ⟨x,oQ⟩:=zzM (s.get! i)
    rw [<- oQ] at tE hxd hx
    have HX:=cH hxd;clear hxd hd oQ
    have sC:=Lib.contains_iff_indexByte [32,40,41] x
    have rh:((x.toNat:Int)).toNat.toUInt8=x:=by simp
    cases sm:([32,40,41]:Bs).contains x
    ·rw [sm] at sC
     have Cm:¬ ((0:Int)<=Lib.indexByte [32,40,41] x):=of_decide_eq_false sC.symm
     have HIN:=cH sm
     clear sC sm
     go_wp2_with (go_at_call 94;refine (Tryz.strings_IndexRune_ascii _ _ _ (by omega) (by omega)).mono ?_;rintro e w2 ⟨rfl,hw⟩;rw [hw,rh])
     go_roundw
     case rel=>exact ⟨i+1,by omega,HG.out,da.out,HN.out.succ HX.out HIN.out⟩
     case measure =>
      have h1:=HP.out
      have h2:W1.iterPos w.heap.size=i+1:=by unfold World.iterPos;rw [HG.out]
      simp only [h1,h2];omega
    ·rw [sm] at sC
     have eV:(0:Int)<=Lib.indexByte [32,40,41] x:=of_decide_eq_true sC.symm
     have HIN:=cH sm
     clear sC sm
     go_wp2_with (go_at_call 94;refine (Tryz.strings_IndexRune_ascii _ _ _ (by omega) (by omega)).mono ?_;rintro e w2 ⟨rfl,hw⟩;rw [hw,rh])
     go_ret
     exact ⟨u_ (by rw [Lib.indexAny_hit HN.out HX.out HIN.out]),da.out⟩
   ·obtain ⟨d1,d2,d3,d4⟩:=decode_hi s i cL (by omega)
    have dv:=decode_valid s i
    generalize (Utf8.decode s i).1=r at *
    generalize (Utf8.decode s i).2=k at *
    have B8:Lib.NoAny s.data.toList [32,40,41] (i+k):=by
     intro j b hj hbj
     by_cases aO:j<i
     ·exact HN.out j b aO hbj
     ·have h1:=d4 j (by omega) hj
      rw [get_data s (by omega)] at hbj
      obtain rfl:=Option.some.inj hbj
      have iu:(32:UInt8).toNat=32:=rfl
      have d_:(40:UInt8).toNat=40:=rfl
      have iv:(41:UInt8).toNat=41:=rfl
      rw [Bool.eq_false_iff];intro hc
      simp only [List.contains_iff_mem,List.mem_cons,List.not_mem_nil,or_false] at hc
      rcases hc with hc | hc | hc <;> rw [hc] at h1 <;> omega
    have HN2:=cH B8
    have i9:Calls Tryz.prog 94 #[.string ⟨#[32,40,41]⟩,.int .i32 (r:Int)] W1 fun en w'=>en=.returned (.int .i64 (-1))/\Below W1.heap.size W1 w':=by
     by_cases h:(r:Int)=65533
     ·rw [h];exact indexRune_bad W1
     ·exact indexRune_hi ⟨#[32,40,41]⟩ (by decide) _ (by omega) h dv W1
    have HR:=cH i9
    clear B8 i9 d4 dv hxd
    go_wp2_with (go_at_call 94;refine HR.out.mono ?_;rintro e w2 ⟨rfl,hw⟩)
    have hk:w2.heap[w.heap.size]? = some (.stringIter s (i+k)):=by rw [hw.block _ tx];exact HG.out
    have cS:=zzT da.out hw
    have HK:=cH hk;clear hk
    go_roundw
    case rel=>exact ⟨i+k,by omega,HK.out,cS,HN2.out⟩
    case measure =>
     have h1:=HP.out
     have h2:w2.iterPos w.heap.size=i+k:=by unfold World.iterPos;rw [HK.out]
     simp only [h1,h2];omega
end Go.Proofs.YtdhaafoiokkbnaaGreatDoor

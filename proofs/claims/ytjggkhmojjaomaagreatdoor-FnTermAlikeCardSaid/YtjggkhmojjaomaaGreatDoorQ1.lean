/- Walks of functions that the statement reaches, and plain words. No conditions. -/
import Derived.WalkKit
import Derived.Lib.Strings
import Derived.Lib.Hide
import Derived.WalkSpells
import Derived.WalkLawsBesides
import Derived.Test.YtjggkhmojjaomaaGreatDoorRows
import Derived.Test.YtjggkhmojjaomaaGreatDoorShelf
import Derived.Lib.AtoiAll
import Derived.Lib.ItoaNum
set_option linter.unusedVariables false
set_option linter.unusedSimpArgs false
set_option maxHeartbeats 1000000
namespace Go.Proofs.YtjggkhmojjaomaaGreatDoor
open Go.RowKit
theorem zzT {w a b:World} (h:Below w.heap.size w a) (k:Below a.heap.size a b):Below w.heap.size w b:=h.trans (k.mono h.size)
theorem zzN {α:Sort _} (a:α):∃ x,a = x:=⟨a,rfl⟩
theorem zzM {α:Sort _} (a:α):∃ x,x = a:=⟨a,rfl⟩
theorem ed {p:Prop} (h:p):Hid p:=Lib.hid h
theorem ef {a b:Prop} (x:a) (y:b):a/\b:=⟨x,y⟩
theorem ei (n:Nat):n<=n:=Nat.le_refl n
theorem e9 (w:World) (a:Addr) {u:Value} (h:w.cell? a=some u):a.block<w.heap.size:=World.block_lt_of_cell? w a h
theorem e_ (B:Nat) (w:World):Below B w w:=Below.refl B w
theorem fZ (w:World) (a:Addr) (u:Value) (k:Nat) (h:k≠a.block):(w.setCell a u).heap[k]? = w.heap[k]?:=Below.heap_setCell w a u k h
theorem fK {n m k:Nat} (a:n<m) (b:m<=k):n<k:=Nat.lt_of_lt_of_le a b
theorem fQ {n m k:Nat} (a:n<=m) (b:m<=k):n<=k:=Nat.le_trans a b
inductive DV where
 | val (v:Value)
 | ptr (e:TypeId) (cs:List DV)
 | sl (e:TypeId) (sz n:Nat) (cs:List DV)
 | agg (cs:List DV)
 | any
mutual
def Rep (F:Nat->Prop) (w:World):DV->Value->Prop
 | .val u,v=>v=u
 | .ptr e cs,v=>∃ b c,v=.pointer (some ⟨b,0,none⟩)/\F b/\w.heap[b]? = some (.cells c e (0,0))/\zX F w cs c.toList
 | .sl e sz n cs,v=>cs.length=n*sz/\∃ a cap,v=.slice a n cap/\n<=cap/\(a=none->cap=0) /\
  (n=0\/∃ b o c fr,a=some ⟨b,o,none⟩/\F b/\w.heap[b]? = some (.cells c e fr)/\zX F w cs ((c.toList.drop o).take (n*sz)))
 | .agg cs,v=>∃ vs,v=.agg vs/\zX F w cs vs.toList
 | .any,v=>∃ i:Int,v=.int .i64 i
def zX (F:Nat->Prop) (w:World):List DV->List Value->Prop
 | [],vs=>vs=[]
 | d::ds,vs=>∃ v vs',vs=v::vs'/\Rep F w d v/\zX F w ds vs'
end
theorem zH {F:Nat->Prop} {w:World} {u v:Value}:Rep F w (.val u) v↔v=u:=by simp [Rep]
theorem ju {F:Nat->Prop} {w:World} {e:TypeId} {cs:List DV} {v:Value}:Rep F w (.ptr e cs) v↔∃ b c,v=.pointer (some ⟨b,0,none⟩)/\F b/\w.heap[b]? = some (.cells c e (0,0))/\zX F w cs c.toList:=by
 rw [Rep]
theorem zp {F:Nat->Prop} {w:World} {e:TypeId} {sz n:Nat} {cs:List DV} {v:Value}:Rep F w (.sl e sz n cs) v↔cs.length=n*sz/\∃ a cap,v=.slice a n cap/\n<=cap/\(a=none->cap=0) /\
 (n=0\/∃ b o c fr,a=some ⟨b,o,none⟩/\F b/\w.heap[b]? = some (.cells c e fr)/\zX F w cs ((c.toList.drop o).take (n*sz))):=by
 rw [Rep]
theorem Rep_agg {F:Nat->Prop} {w:World} {cs:List DV} {v:Value}:Rep F w (.agg cs) v↔∃ vs,v=.agg vs/\zX F w cs vs.toList:=by
 rw [Rep]
theorem yQ {F:Nat->Prop} {w:World} {v:Value}:Rep F w .any v↔∃ i:Int,v=.int .i64 i:=by rw [Rep]
theorem zC {F:Nat->Prop} {w:World} {vs:List Value}:zX F w [] vs↔vs=[]:=by simp [zX]
theorem zQ {F:Nat->Prop} {w:World} {d:DV} {ds:List DV} {vs:List Value}:zX F w (d::ds) vs↔∃ v vs',vs=v::vs'/\Rep F w d v/\zX F w ds vs':=by
 rw [zX]
theorem zX.length {F:Nat->Prop} {w:World} {ds:List DV}:∀ {vs:List Value},zX F w ds vs->ds.length=vs.length:=by
 induction ds with
 | nil=>intro vs h;rw [zC] at h;simp [h]
 | cons d ds ih=>intro vs h;rw [zQ] at h;obtain ⟨v,vs',rfl,_,h2⟩:=h;simp [ih h2]
theorem zX.at {F:Nat->Prop} {w:World} {ds:List DV}:∀ {vs:List Value},zX F w ds vs->∀ {i:Nat} {d:DV},ds[i]? = some d->∃ v,vs[i]? = some v/\Rep F w d v:=by
 induction ds with
 | nil=>intro vs h i d hd;simp at hd
 | cons d ds ih =>
   intro vs h i d' hd
   rw [zQ] at h;obtain ⟨v,vs',rfl,h1,h2⟩:=h
   cases i with
   | zero=>simp at hd;subst hd;exact ⟨v,by simp,h1⟩
   | succ i=>simp at hd;simpa using ih h2 hd
theorem zX.append {F:Nat->Prop} {w:World} {ds es:List DV}:∀ {vs us:List Value},zX F w ds vs->zX F w es us->zX F w (ds++es) (vs++us):=by
 induction ds with
 | nil=>intro vs us h k;rw [zC] at h;subst h;simpa using k
 | cons d ds ih =>
   intro vs us h k
   rw [zQ] at h;obtain ⟨v,vs',rfl,h1,h2⟩:=h
   simp only [List.cons_append];rw [zQ];exact ⟨v,vs'++us,rfl,h1,ih h2 k⟩
theorem zX.split {F:Nat->Prop} {w:World} {ds es:List DV}:∀ {vs:List Value},zX F w (ds++es) vs->zX F w ds (vs.take ds.length)/\zX F w es (vs.drop ds.length):=by
 induction ds with
 | nil=>intro vs h;simpa [zC] using h
 | cons d ds ih =>
   intro vs h
   simp only [List.cons_append] at h
   rw [zQ] at h;obtain ⟨v,vs',rfl,h1,h2⟩:=h
   have:=ih h2
   simp only [List.length_cons,List.take_succ_cons,List.drop_succ_cons]
   exact ⟨zQ.2 ⟨v,_,rfl,h1,this.1⟩,this.2⟩
theorem zX.one {F:Nat->Prop} {w:World} {d:DV} {v:Value} (h:Rep F w d v):zX F w [d] [v] :=
 zQ.2 ⟨v,[],rfl,h,zC.2 rfl⟩
theorem Rep.keep {F F':Nat->Prop} {w w':World} (hk:∀ b o,F b->w.heap[b]? = some o->F' b/\w'.heap[b]? = some o) :
 (∀ d v,Rep F w d v->Rep F' w' d v)/\(∀ ds vs,zX F w ds vs->zX F' w' ds vs):=by
 have key:∀ d:DV,(∀ v,Rep F w d v->Rep F' w' d v):=by
  intro d
  refine DV.rec (motive_1:=fun d=>∀ v,Rep F w d v->Rep F' w' d v) (motive_2:=fun ds=>∀ vs,zX F w ds vs->zX F' w' ds vs) ?_ ?_ ?_ ?_ ?_ ?_ ?_ d
  ·intro u v h;rw [zH] at *;exact h
  ·intro e cs ih v h
   rw [ju] at *
   obtain ⟨b,c,hv,hb,hc,hr⟩:=h
   obtain ⟨k1,k2⟩:=hk b _ hb hc
   exact ⟨b,c,hv,k1,k2,ih _ hr⟩
  ·intro e sz n cs ih v h
   rw [zp] at *
   obtain ⟨hl,a,cap,hv,hn,hz,h⟩:=h
   refine ⟨hl,a,cap,hv,hn,hz,?_⟩
   rcases h with h | ⟨b,o,c,fr,ha,hb,hc,hr⟩
   ·exact .inl h
   ·obtain ⟨k1,k2⟩:=hk b _ hb hc
    exact .inr ⟨b,o,c,fr,ha,k1,k2,ih _ hr⟩
  ·intro cs ih v h
   rw [Rep_agg] at *
   obtain ⟨vs,hv,hr⟩:=h
   exact ⟨vs,hv,ih _ hr⟩
  ·intro v h;rw [yQ] at *;exact h
  ·intro vs h;rw [zC] at *;exact h
  ·intro d ds ihd ihs vs h
   rw [zQ] at *
   obtain ⟨v,vs',hv,h1,h2⟩:=h
   exact ⟨v,vs',hv,ihd _ h1,ihs _ h2⟩
 refine ⟨key,?_⟩
 intro ds
 induction ds with
 | nil=>intro vs h;rw [zC] at *;exact h
 | cons d ds ih =>
   intro vs h
   rw [zQ] at *
   obtain ⟨v,vs',hv,h1,h2⟩:=h
   exact ⟨v,vs',hv,key _ _ h1,ih _ h2⟩
theorem zZ {w:World} {b:Nat} {o:Obj} (h:w.heap[b]? = some o):b<w.heap.size:=by
 rcases Nat.lt_or_ge b w.heap.size with h' | h'
 ·exact h'
 ·simp [Array.getElem?_eq_none h'] at h
structure But (m:Nat->Prop) (w w':World):Prop where
 os:w'.os=w.os
 tape:w'.tape=w.tape
 output:w'.output=w.output
 size:w.heap.size<=w'.heap.size
 block:∀ k,k<w.heap.size->¬ m k->w'.heap[k]? = w.heap[k]?
theorem But.refl (m:Nat->Prop) (w:World):But m w w:=⟨rfl,rfl,rfl,ei _,fun _ _ _=>rfl⟩
theorem But.trans {m:Nat->Prop} {a b c:World} (h:But m a b) (k:But m b c):But m a c :=
 ⟨k.os.trans h.os,k.tape.trans h.tape,k.output.trans h.output,fQ h.size k.size,fun i hi hn=>(k.block i (fK hi h.size) hn).trans (h.block i hi hn)⟩
theorem But.trans' {m m':Nat->Prop} {a b c:World} (h:But m a b) (k:But m' b c) (hm:∀ i,i<a.heap.size->m' i->m i):But m a c :=
 ⟨k.os.trans h.os,k.tape.trans h.tape,k.output.trans h.output,fQ h.size k.size,fun i hi hn=>(k.block i (fK hi h.size) (fun e=>hn (hm i hi e))).trans (h.block i hi hn)⟩
theorem But.weak {m m':Nat->Prop} {a b:World} (h:But m a b) (k:∀ i,i<a.heap.size->m i->m' i):But m' a b :=
 ⟨h.os,h.tape,h.output,h.size,fun i hi hn=>h.block i hi (fun hm=>hn (k i hi hm))⟩
theorem But.ofBelow {m:Nat->Prop} {a b:World} (h:Below a.heap.size a b):But m a b:=⟨h.os,h.tape,h.output,h.size,fun i hi _=>h.block i hi⟩
theorem But.toBelow {m:Nat->Prop} {B:Nat} {a b:World} (h:But m a b) (hB:B<=a.heap.size) (hm:∀ i,i<B->¬ m i):Below B a b :=
 ⟨h.os,h.tape,h.output,h.size,fun i hi=>h.block i (by omega) (hm i hi)⟩
theorem But.drew {m:Nat->Prop} {a b:World} (h:But m a b):But m a b.drew:=⟨h.os,h.tape,h.output,h.size,h.block⟩
theorem But.alloc {m:Nat->Prop} {a b:World} (h:But m a b) (o:Obj):But m a (b.alloc o) :=
 h.trans ⟨rfl,rfl,rfl,by simp,fun k hk _=>Below.heap_alloc _ _ _ (by omega)⟩
theorem But.setCell {m:Nat->Prop} {a b:World} (h:But m a b) {p:Addr} (hp:m p.block\/a.heap.size<=p.block) (u:Value):But m a (b.setCell p u) :=
 ⟨h.os,h.tape,h.output,by have:=h.size;simpa [World.setCell] using this,fun k hk hn=>by
  rw [fZ _ _ _ _ (by rcases hp with hp | hp;· (intro e;subst e;exact hn hp)
                     ·omega)]
  exact h.block k hk hn⟩
theorem But.setS {sc:Nat} {a b:World} (h:But (fun x=>x=sc) a b) (o:Nat) (u:Value):But (fun x=>x=sc) a (b.setCell ⟨sc,o,none⟩ u) :=
 h.setCell (p:=⟨sc,o,none⟩) (.inl rfl) u
theorem But.cell {m:Nat->Prop} {w w':World} (h:But m w w') {p:Addr} (hp:p.block<w.heap.size) (hm:¬ m p.block):w'.cell? p=w.cell? p:=World.cell?_of_block (w:=w) (h.block p.block hp hm)
theorem Rep.but {F F':Nat->Prop} {m:Nat->Prop} {w w':World} (hb:But m w w') (hF:∀ b,F b->¬ m b/\F' b) {d:DV} {v:Value} (h:Rep F w d v):Rep F' w' d v :=
 (Rep.keep fun b o hf ho=>⟨(hF b hf).2,by rw [hb.block b (zZ ho) (hF b hf).1];exact ho⟩).1 d v h
theorem zX.but {F F':Nat->Prop} {m:Nat->Prop} {w w':World} (hb:But m w w') (hF:∀ b,F b->¬ m b/\F' b) {d:List DV} {v:List Value} (h:zX F w d v):zX F' w' d v :=
 (Rep.keep fun b o hf ho=>⟨(hF b hf).2,by rw [hb.block b (zZ ho) (hF b hf).1];exact ho⟩).2 d v h
theorem Rep.below {F F':Nat->Prop} {w w':World} (hb:Below w.heap.size w w') (hF:∀ b,F b->F' b) {d:DV} {v:Value} (h:Rep F w d v):Rep F' w' d v :=
 (Rep.keep fun b o hf ho=>⟨hF b hf,by rw [hb.block b (zZ ho)];exact ho⟩).1 d v h
theorem zX.below {F F':Nat->Prop} {w w':World} (hb:Below w.heap.size w w') (hF:∀ b,F b->F' b) {d:List DV} {v:List Value} (h:zX F w d v):zX F' w' d v :=
 (Rep.keep fun b o hf ho=>⟨hF b hf,by rw [hb.block b (zZ ho)];exact ho⟩).2 d v h
theorem Rep.drew {F:Nat->Prop} {w:World} {d:DV} {v:Value} (h:Rep F w d v):Rep F w.drew d v:=(Rep.keep (w:=w) (w':=w.drew) fun _ _ hf ho=>⟨hf,ho⟩).1 _ _ h
theorem zX.drew {F:Nat->Prop} {w:World} {d:List DV} {v:List Value} (h:zX F w d v):zX F w.drew d v:=(Rep.keep (w:=w) (w':=w.drew) fun _ _ hf ho=>⟨hf,ho⟩).2 _ _ h
def At1 (F:Nat->Prop) (w:World) (cs:List DV) (a:Option Addr) (k:Nat):Prop :=
 ∃ b o u d,a=some ⟨b,o,none⟩/\F b/\b<w.heap.size/\cs[k]? = some d/\w.cell? ⟨b,o+k,none⟩=some u/\Rep F w d u
def Ats (F:Nat->Prop) (w:World) (n:Nat) (cs:List DV) (a:Option Addr):Prop:=∀ k,k<n->At1 F w cs a k
theorem zP {F:Nat->Prop} {w:World} {e:TypeId} {n:Nat} {cs:List DV} {v:Value} (h:Rep F w (.sl e 1 n cs) v) :
 ∃ a cap,v=.slice a n cap/\n<=cap/\cs.length=n/\Ats F w n cs a:=by
 rw [zp] at h
 obtain ⟨hl,a,cap,hv,hn,hz,h⟩:=h
 rw [Nat.mul_one] at hl
 refine ⟨a,cap,hv,hn,hl,fun k hk=>?_⟩
 rcases h with h | ⟨b,o,c,fr,ha,hb,hc,hr⟩
 ·omega
 ·obtain ⟨d,hd⟩:∃ d,cs[k]? = some d:=⟨cs[k],by simp [hl,hk]⟩
  obtain ⟨u,hu,nI⟩:=hr.at hd
  rw [Nat.mul_one,List.getElem?_take,if_pos hk,List.getElem?_drop] at hu
  exact ⟨b,o,u,d,ha,hb,zZ hc,hd,by simp [World.cell?,hc];simpa using hu,nI⟩
theorem yq {a b:Int} (h:a=b):Ending.returned (.int .i64 a)=.returned (.int .i64 b):=by rw [h]
theorem pz (l:List UInt8) (a b:Nat):(⟨l.toArray⟩:ByteArray).extract a b=⟨((l.take b).drop a).toArray⟩:=by
 have h:=Lib.extract_data (⟨l.toArray⟩:ByteArray) a b
 have h2:((⟨l.toArray⟩:ByteArray).extract a b).data=((l.take b).drop a).toArray:=by
  apply Array.ext';rw [h];simp [List.drop_take]
 cases hx:(⟨l.toArray⟩:ByteArray).extract a b with
 | mk d=>rw [hx] at h2;simp at h2;rw [h2]
theorem wO (l:List UInt8):(⟨l.toArray⟩:ByteArray).size=l.length:=by show l.toArray.size=_;simp
theorem kO {l:List UInt8} {i:Nat} (h:i<l.length):i<(⟨l.toArray⟩:ByteArray).size:=by rw [wO];exact h
theorem xV {l:List UInt8} {i:Nat} (h:i<l.length) {c:UInt8} {n:Int} (hn:(c.toNat:Int)=n) (hc:l[i]=c):((((⟨l.toArray⟩:ByteArray)[i]'(kO h)).toNat:Int) == n)=true:=by
 rw [beq_iff_eq,<- hn,<- hc];rfl
theorem vh {l:List UInt8} {i:Nat} (h:i<l.length) {c:UInt8} {n:Int} (hn:(c.toNat:Int)=n) (hc:¬ l[i]=c):((((⟨l.toArray⟩:ByteArray)[i]'(kO h)).toNat:Int) == n)=false:=by
 rw [beq_eq_false_iff_ne,<- hn]
 intro e
 apply hc
 have:(((⟨l.toArray⟩:ByteArray)[i]'(kO h)).toNat)=c.toNat:=by exact_mod_cast e
 exact UInt8.toNat_inj.1 this
theorem vE {l:List UInt8} {i:Nat} (h:i<l.length) {c:UInt8} {n:Int} (hn:(c.toNat:Int)=n) (hc:l[i]=c):((((⟨l.toArray⟩:ByteArray)[i]'(kO h)).toNat:Int) != n)=false:=by
 rw [bne,xV h hn hc];rfl
theorem js {l:List UInt8} {i:Nat} (h:i<l.length) {c:UInt8} {n:Int} (hn:(c.toNat:Int)=n) (hc:¬ l[i]=c):((((⟨l.toArray⟩:ByteArray)[i]'(kO h)).toNat:Int) != n)=true:=by
 rw [bne,vh h hn hc];rfl
theorem yS {l:List UInt8} {i:Nat} (h:i<l.length):((((⟨l.toArray⟩:ByteArray)[i]'(kO h)).toNat:Int))=(l[i].toNat:Int):=rfl
theorem ext_list (l:List UInt8) (a b:Nat):((⟨l.toArray⟩:ByteArray).extract a b).toList=(l.take b).drop a:=by
 rw [pz,Lib.toList_data]
theorem jr {w:World} {a:Addr} {v:Value} (h:w.cell? a=some v) (u:Value):(w.setCell a u).cell? a=some u:=by
 obtain ⟨b,o,sp⟩:=a
 unfold World.cell? at *
 split at h
 ·rename_i c e fr hh
  have fG:=zZ hh
  have h':w.heap[b]=.cells c e fr:=by simpa [Array.getElem?_eq_getElem fG] using hh
  have:(w.setCell ⟨b,o,sp⟩ u).heap[b]? = some (.cells (if sp.isSome then c else c.setIfInBounds o u) e fr):=by
   show (w.heap.modify b _)[b]? = _
   rw [Array.getElem?_eq_getElem (by simpa using fG),Array.getElem_modify_self,h']
  simp only [this]
  cases sp with
  | none =>
    simp at h ⊢
    have hl:=(Array.getElem?_eq_some_iff.1 h).1
    simp [hl]
  | some x=>simp at h
 ·simp at h
def Lim (n:Nat):Prop:=n<=16777216
theorem Lim.le {n:Nat} (h:Lim n):n<=16777216:=h
theorem Lim.mono {n m:Nat} (h:Lim n) (k:m<=n):Lim m:=fQ k h
def zO (size:Nat) (x:Value) (m:Nat) (news:List Value) (w:World):Prop :=
 news.length=m*size/\(∀ u∈news,u.oneCell'=true) /\
 ((∃ a c,x=.slice (some a) m c/\∀ (j:Nat) u,news[j]? = some u->w.cell? (a.add j)=some u)\/(x=.slice none 0 0/\m=0))
def Own (w:World) (e:TypeId) (size:Nat) (v:Value) (n:Nat) (xs:List Value):Prop:=w.ownsRow 0 e size v n xs
theorem wk {P:Program} {w:World} (t ty e:TypeId) (i:TypeInfo) (z:Value) (size bytes:Nat) (ht:P.underlying t=some (.slice e)) (hi:P.info? e=some i) (hz:i.zero=some z)
 (sW:i.size=size) (nP:i.bytes=bytes) (Au:z.cells.size=size) (hsz:0<size)
 (v:Value) (n:Nat) (xs:List Value) (fp:Own w e size v n xs)
 (x:Value) (m:Nat) (news:List Value) (hs:zO size x m news w) (oL:n+m<=maxLen) (ml:(n+m)*bytes<=140737488355328) :
 ∃ v' w',(Builtin.append_ #[t,t] ty #[v,x]).run P w=.ok v' w'/\Own w' e size v' (n+m) (xs++news)/\w.grownBy w' v.ownBlock /\
   (v'.ownBlock=v.ownBlock\/v'.ownBlock=some w.heap.size):=by
 unfold Own at *
 obtain ⟨hl,h1,⟨a,c,rfl,me⟩ | ⟨rfl,rfl⟩⟩:=hs
 ·subst sW
  subst nP
  have FE:n+m<=9223372036854775807:=by simp only [maxLen] at oL;omega
  have hlen:(xs++news).length=(n+m)*i.size:=by rw [List.length_append,fp.1,hl,Nat.add_mul]
  have grown:∀ (old:Nat),old<n+m->∀ (row:Option Nat),
   (w.drew.alloc (.cells (xs.toArray++news.toArray++Builtin.zeroCells z.cells (grownCap w (n+m) old e-(n+m))) e)).ownsRow 0 e i.size
    (.slice (some ⟨w.heap.size,0,none⟩) (n+m) (grownCap w (n+m) old e)) (n+m) (xs++news) /\
   w.grownBy (w.drew.alloc (.cells (xs.toArray++news.toArray++Builtin.zeroCells z.cells (grownCap w (n+m) old e-(n+m))) e)) row:=by
   intro old ho row
   have tL:=grownCap_ge w (n+m) old e
   have JM:grownCap w (n+m) old e<=maxLen:=grownCap_le_maxLen w (n+m) old e oL
   refine ⟨⟨hlen,.inr ⟨w.heap.size,_,_,rfl,Nat.zero_le _,Go.heap_alloc_new w.drew _,tL,JM,?_,?_⟩⟩,⟨rfl,rfl,rfl,by simp,fun k hk _=>Below.heap_alloc w.drew _ k hk⟩⟩
   ·simp only [Array.size_append,List.size_toArray,size_zeroCells,Au,fp.1,hl,<- Nat.add_mul]
    congr 1
    omega
   ·simp only [Array.toList_append,List.append_assoc]
    rw [<- List.append_assoc,<- hlen]
    exact List.take_left
  rcases fp.2 with ⟨rfl,rfl⟩ | ⟨g,cap,cur,rfl,Dq,hg,aR,JM,hcs,mI⟩
  ·have hx:xs=[]:=List.eq_nil_of_length_eq_zero (by simpa using fp.1)
   subst hx
   by_cases hm:m=0
   ·subst hm
    have hn:news=[]:=List.eq_nil_of_length_eq_zero (by simpa using hl)
    subst hn
    refine ⟨.slice none 0 0,w,?_,World.ownsRow_nil w 0 e i.size,⟨rfl,rfl,rfl,ei _,fun _ _ _=>rfl⟩,.inl rfl⟩
    simp [Builtin.append_,run_underlying ht,sizeOf,typeInfo,hi,Builtin.lenOf,Builtin.firstCells,loadCells,loadCellsFrom]
   ·have hr:=run_append_nil (P:=P) w t ty e i z ht hi hz a m c news hl me (by omega) (by omega) (by have hb:=ml;simp only [Nat.zero_add] at hb;omega)
    have DP:=grown 0 (by omega) (Value.ownBlock (.slice none 0 0))
    simp only [Nat.zero_add,List.nil_append,Array.empty_append] at DP ⊢
    exact ⟨_,_,hr,DP.1,DP.2,.inr rfl⟩
  ·by_cases fg:n+m<=cap
   ·have nF:n*i.size+news.length<=cur.size:=by rw [hl,hcs,<- Nat.add_mul];exact Nat.mul_le_mul_right _ fg
    have hr:=run_append_room (P:=P) w t ty e i ht hi g n cap cur hg a m c news hl me h1 fg nF
    refine ⟨_,_,hr,⟨hlen,.inr ⟨g,cap,_,rfl,Dq,setRow_heap w g cur _ e _ hg,fg,JM,?_,?_⟩⟩,⟨rfl,rfl,rfl,by simp,fun k _ hk=>setRow_other w g k _ (fun e=>hk (by simp [Value.ownBlock,e]))⟩,.inl rfl⟩
    ·simp only [List.size_toArray,List.length_append,List.length_take,List.length_drop,Array.length_toList]
     omega
    ·rw [mI,<- hlen]
     exact List.take_left
   ·have holds:∀ (j:Nat) u,xs[j]? = some u->w.cell? ((⟨g,0,none⟩:Addr).add j)=some u:=World.ownsRow.cells fp (g:=g) rfl
    have hr:=run_append_grow (P:=P) w t ty e i z ht hi hz ⟨g,0,none⟩ n cap xs fp.1 holds a m c news hl me (by omega) (by omega) (growslice_fits (by omega) ml)
    have DP:=grown cap (by omega) (Value.ownBlock (.slice (some ⟨g,0,none⟩) n cap))
    exact ⟨_,_,hr,DP.1,DP.2,.inr rfl⟩
 ·have hn:news=[]:=List.eq_nil_of_length_eq_zero (by simpa using hl)
  subst hn
  refine ⟨v,w,run_append_owned_none (P:=P) (w:=w) 0 t ty e i size ht hi v n xs fp,by simpa using fp,⟨rfl,rfl,rfl,ei _,fun _ _ _=>rfl⟩,.inl rfl⟩
theorem But.ofGrown {w w':World} {row:Option Nat} (h:w.grownBy w' row):But (fun b=>some b=row) w w' :=
 ⟨h.os,h.tape,h.output,h.size,fun k hk hn=>h.block k hk hn⟩
theorem Own.slice {w:World} {e:TypeId} {size n:Nat} {v:Value} {xs:List Value} (h:Own w e size v n xs):∃ a c,v=.slice a n c:=by
 rcases h.2 with ⟨rfl,rfl⟩ | ⟨g,cap,cur,rfl,_⟩
 ·exact ⟨_,_,rfl⟩
 ·exact ⟨_,_,rfl⟩
theorem zD {P:Program} {w:World} {ops:Array Oper} {rest:List Oper} {o:Oper} {a:Act} {Q:Exit->Act->World->Prop} (Jq:o.guard=none) (s x:Operand) (t:TypeId)
 (ho:o.op=.call { callee:=.builtin .append,args:=#[s,x],argTypes:=#[t,t] })
 (e:TypeId) (z:Value) (size bytes:Nat) (ht:P.underlying t=some (.slice e)) (hi:(P.info? e).map (fun i=>(i.zero,i.size,i.bytes))=some (some z,size,bytes))
 (Au:z.cells.size=size) (hsz:0<size)
 (v:Value) (n:Nat) (xs:List Value) (hs:a.eval s=v) (fp:Own w e size v n xs)
 (y:Value) (m:Nat) (news:List Value) (hx:a.eval x=y) (mC:zO size y m news w)
 (oL:n+m<=maxLen) (ml:(n+m)*bytes<=140737488355328)
 (h:∀ a' c' w',Own w' e size (.slice a' (n+m) c') (n+m) (xs++news)->But (fun b=>v.ownBlock=some b) w w'->(∀ g,(Value.slice a' (n+m) c').ownBlock=some g->v.ownBlock=some g\/g=w.heap.size) ->
  wpList P ops Q rest (a.put o.dst (.slice a' (n+m) c')) w'):wpList P ops Q (o::rest) a w:=by
 refine wpList_plain Jq fun K hK=>?_
 obtain ⟨i,hi,hz,sW,nP⟩:=info_parts hi
 obtain ⟨v',w',hr,h2,h3,h4⟩:=wk (P:=P) (w:=w) t o.type e i z size bytes ht hi hz sW nP Au hsz v n xs fp y m news mC oL ml
 obtain ⟨a',c',rfl⟩:=h2.slice
 unfold Oper.wp execOp
 simp only [ho,resolve,invoke,builtin,Sem.run_bind,Sem.run_pure,Result.andThen_ok,List.map_toArray,List.map_cons,List.map_nil,hs,hx,hr]
 refine hK _ _ (h a' c' w' h2 ((But.ofGrown h3).weak fun i _ hi=>hi.symm) ?_)
 intro g hg
 rcases h4 with h4 | h4
 ·exact .inl (by rw [<- h4];exact hg)
 ·rw [hg] at h4;exact .inr (Option.some.inj h4)
theorem zE {P:Program} {w:World} {ops:Array Oper} {o:Oper} {a:Act} {K:Act->World->Prop} {Q:Exit->Act->World->Prop} {E:Prop} (Jq:o.guard=none) (s x:Operand) (t:TypeId)
 (ho:o.op=.call { callee:=.builtin .append,args:=#[s,x],argTypes:=#[t,t] })
 (e:TypeId) (z:Value) (size bytes:Nat) (ht:P.underlying t=some (.slice e)) (hi:(P.info? e).map (fun i=>(i.zero,i.size,i.bytes))=some (some z,size,bytes))
 (Au:z.cells.size=size) (hsz:0<size)
 (v:Value) (n:Nat) (xs:List Value) (hs:a.eval s=v) (fp:Own w e size v n xs)
 (y:Value) (m:Nat) (news:List Value) (hx:a.eval x=y) (mC:zO size y m news w)
 (oL:n+m<=maxLen) (ml:(n+m)*bytes<=140737488355328)
 (h:∀ a' c' w',Own w' e size (.slice a' (n+m) c') (n+m) (xs++news)->But (fun b=>v.ownBlock=some b) w w'->(∀ g,(Value.slice a' (n+m) c').ownBlock=some g->v.ownBlock=some g\/g=w.heap.size) ->
  K (a.put o.dst (.slice a' (n+m) c')) w'):if Region.wanted o (yielded ops a.tmps)=true then Oper.wp P o a w K Q else E:=by
 rw [if_pos (by simp [Region.wanted,Jq])]
 obtain ⟨i,hi,hz,sW,nP⟩:=info_parts hi
 obtain ⟨v',w',hr,h2,h3,h4⟩:=wk (P:=P) (w:=w) t o.type e i z size bytes ht hi hz sW nP Au hsz v n xs fp y m news mC oL ml
 obtain ⟨a',c',rfl⟩:=h2.slice
 unfold Oper.wp execOp
 simp only [ho,resolve,invoke,builtin,Sem.run_bind,Sem.run_pure,Result.andThen_ok,List.map_toArray,List.map_cons,List.map_nil,hs,hx,hr]
 refine h a' c' w' h2 ((But.ofGrown h3).weak fun i _ hi=>hi.symm) ?_
 intro g hg
 rcases h4 with h4 | h4
 ·exact .inl (by rw [<- h4];exact hg)
 ·rw [hg] at h4;exact .inr (Option.some.inj h4)
theorem zO.keep {w w':World} {size:Nat} {x:Value} {m:Nat} {news:List Value} (h:zO size x m news w) (hk:∀ a v,w.cell? a=some v->w'.cell? a=some v):zO size x m news w':=by
 obtain ⟨h1,h2,⟨a,c,rfl,h3⟩ | h3⟩:=h
 ·exact ⟨h1,h2,.inl ⟨a,c,rfl,fun j u hu=>hk _ _ (h3 j u hu)⟩⟩
 ·exact ⟨h1,h2,.inr h3⟩
theorem zJ {w:World} {o:Obj} {a:Addr} {v:Value} (h:w.cell? a=some v):(w.alloc o).cell? a=some v:=by
 rw [World.cell?_alloc_lt w o a (e9 w a h)];exact h
theorem Own.lit {w:World} {e:TypeId} {size:Nat} (cs:Array Value) (n:Nat) (hm:n<=maxLen) (hs:cs.size=n*size):Own (w.alloc (.cells cs e)) e size (.slice (some ⟨w.heap.size,0,none⟩) n n) n cs.toList :=
 World.ownsRow_lit w cs n (Nat.zero_le _) hm hs
theorem zO.lits {w:World} {e:TypeId} (cs:Array Value) (n:Nat) (hn:cs.size=n) (hc:∀ u∈cs.toList,u.oneCell'=true) (g:Nat) (hg:g=w.heap.size):zO 1 (.slice (some ⟨g,0,none⟩) n n) n cs.toList (w.alloc (.cells cs e)):=by
 subst hg
 refine ⟨by simp [hn],hc,.inl ⟨_,_,rfl,fun j u hu=>?_⟩⟩
 unfold Addr.add
 split
 ·subst j;simp;simpa using hu
 ·simp;simpa using hu
theorem Own.litAt {w:World} {e:TypeId} {size:Nat} (cs:Array Value) (n g:Nat) (hg:g=w.heap.size) (hm:n<=maxLen) (hs:cs.size=n*size):Own (w.alloc (.cells cs e)) e size (.slice (some ⟨g,0,none⟩) n n) n cs.toList:=by
 subst hg;exact Own.lit cs n hm hs
theorem Own.keep {w w':World} {e:TypeId} {sz n:Nat} {xs:List Value} {v:Value} (h:Own w e sz v n xs) (hk:∀ g o,v.ownBlock=some g->w.heap[g]? = some o->w'.heap[g]? = some o):Own w' e sz v n xs:=by
 refine ⟨h.1,?_⟩
 rcases h.2 with h | ⟨g,cap,cur,rfl,h0,hg,h⟩
 ·exact .inl h
 ·exact .inr ⟨g,cap,cur,rfl,h0,hk g _ rfl hg,h⟩
theorem zG (w:World) (o:Obj):(w.alloc o).heap[w.heap.size]? = some o:=heap_alloc_new w o
theorem zY {w:World} {o:Obj} {b:Nat} {x:Obj} (h:w.heap[b]? = some x):(w.alloc o).heap[b]? = some x:=by
 rw [Below.heap_alloc _ _ _ (zZ h)];exact h
theorem y6 {w:World} {o:Obj} {b:Nat} (h:(w.alloc o).heap.size<=b):w.heap.size+1<=b:=by simpa using h
theorem zK (w:World) (o:Obj):(w.alloc o).heap.size=w.heap.size+1:=by simp
theorem vZ {w W wx:World} {v v':Value} (hb:Below w.heap.size w W) (hf:∀ g,v.ownBlock=some g->w.heap.size<=g) (hx:But (fun b=>v.ownBlock=some b) W wx) (hg:∀ g,v'.ownBlock=some g->v.ownBlock=some g\/g=W.heap.size) :
 Below w.heap.size w wx/\(∀ g,v'.ownBlock=some g->w.heap.size<=g):=by
 refine ⟨hb.trans (hx.toBelow hb.size fun i hi e=>by have:=hf i e;omega),fun g h=>?_⟩
 rcases hg g h with h | h
 ·exact hf g h
 ·have:=hb.size;omega
theorem wu {g n c:Nat} {B:Nat} (h:B<=g):∀ k,(Value.slice (some ⟨g,0,none⟩) n c).ownBlock=some k->B<=k:=by
 intro k e;simp [Value.ownBlock] at e;omega
theorem Own.drew {w:World} {e:TypeId} {sz n:Nat} {xs:List Value} {v:Value} (h:Own w e sz v n xs):Own w.drew e sz v n xs:=h.keep (w':=w.drew) fun _ _ _ ho=>ho
theorem zO.drew {w:World} {size:Nat} {x:Value} {m:Nat} {news:List Value} (h:zO size x m news w):zO size x m news w.drew:=h.keep (w':=w.drew) fun _ _ h=>h
theorem zO.alloc {w:World} {size:Nat} {x:Value} {m:Nat} {news:List Value} (h:zO size x m news w) (o:Obj):zO size x m news (w.alloc o):=h.keep (w':=w.alloc o) fun _ _ h=>zJ h
theorem Own.alloc {w:World} {e:TypeId} {sz n:Nat} {xs:List Value} {v:Value} (h:Own w e sz v n xs) (o:Obj):Own (w.alloc o) e sz v n xs:=h.keep (w':=w.alloc o) fun _ _ _ ho=>zY ho
theorem zO.belowAll {w w':World} {B:Nat} {size:Nat} {x:Value} {m:Nat} {news:List Value} (h:zO size x m news w) (hb:Below B w w') (hB:w.heap.size<=B):zO size x m news w' :=
 h.keep fun a v hv=>by rw [hb.cell (fK (e9 w a hv) hB)];exact hv
theorem zO.lit {w:World} {e:TypeId} {v:Value} (hv:v.oneCell'=true):zO 1 (.slice (some ⟨w.heap.size,0,none⟩) 1 1) 1 [v] (w.alloc (.cells #[v] e)) :=
 ⟨by simp,by simpa using hv,.inl ⟨_,_,rfl,fun j u hu=>by
  cases j with
  | zero=>simp at hu;subst hu;simp [Addr.add]
  | succ j=>simp at hu⟩⟩
theorem zO.ofRep {F:Nat->Prop} {w:World} {e:TypeId} {sz n:Nat} {cs:List DV} {v:Value} (h:Rep F w (.sl e sz n cs) v) (AA:∀ us,zX F w cs us->∀ u∈us,u.oneCell'=true) :
 ∃ news,zX F w cs news/\zO sz v n news w:=by
 rw [zp] at h
 obtain ⟨hl,a,cap,rfl,hn,hz,h⟩:=h
 rcases h with rfl | ⟨b,o,c,fr,rfl,hb,hc,hr⟩
 ·have:cs=[]:=List.eq_nil_of_length_eq_zero (by simpa using hl)
  subst this
  refine ⟨[],zC.2 rfl,?_⟩
  cases a with
  | none=>obtain rfl:=hz rfl;exact ⟨by simp,by simp,.inr ⟨rfl,rfl⟩⟩
  | some a=>exact ⟨by simp,by simp,.inl ⟨a,cap,rfl,by simp⟩⟩
 ·refine ⟨_,hr,⟨by rw [<- hr.length,hl],AA _ hr,.inl ⟨_,cap,rfl,fun j u hu=>?_⟩⟩⟩
  have hj:j<n*sz:=by
   have:=(List.getElem?_eq_some_iff.1 hu).1
   simp at this;omega
  rw [List.getElem?_take,if_pos hj,List.getElem?_drop] at hu
  unfold Addr.add
  split
  ·subst j;simp [World.cell?,hc];simpa using hu
  ·simp [World.cell?,hc];simpa using hu
theorem Own.rep {F:Nat->Prop} {w:World} {e:TypeId} {sz n:Nat} {xs:List Value} {cs:List DV} {v:Value} (h:Own w e sz v n xs) (hF:∀ g,v.ownBlock=some g->F g) (hr:zX F w cs xs) :
 Rep F w (.sl e sz n cs) v:=by
 rw [zp]
 refine ⟨by rw [hr.length];exact h.1,?_⟩
 rcases h.2 with ⟨rfl,rfl⟩ | ⟨g,cap,cur,rfl,_,hg,aR,_,hcs,ht⟩
 ·exact ⟨none,0,rfl,ei _,fun _=>rfl,.inl rfl⟩
 ·exact ⟨_,cap,rfl,aR,fun h=>by simp at h,.inr ⟨g,0,cur,_,rfl,hF g rfl,hg,by simpa [ht] using hr⟩⟩
theorem Own.lt {w:World} {e:TypeId} {sz n:Nat} {xs:List Value} {v:Value} (h:Own w e sz v n xs) {g:Nat} (hg:v.ownBlock=some g):g<w.heap.size:=(World.ownsRow.lt h g hg).2
theorem below_ad {w wc:World} {o:Obj} (h:Below (w.alloc o).drew.heap.size (w.alloc o).drew wc):Below w.heap.size w wc:=by
 have h2:Below w.heap.size (w.alloc o).drew wc:=⟨h.os,h.tape,h.output,h.size,fun i hi=>h.block i (by show i<(w.alloc o).heap.size;rw [zK];omega)⟩
 exact (((e_ w.heap.size w).alloc (ei _) o).drew).trans h2
abbrev Bs:=List UInt8
abbrev str (l:Bs):Value:=.string ⟨l.toArray⟩
inductive Ty where
 | mk (args:List Ty)
def Ty.args:Ty->List Ty | .mk a=>a
def cut (p l:Bs):Option Bs:=if p.isPrefixOf l then some (l.drop p.length) else none
def zd (a b:Ty):Ty:=.mk (a::b.args)
def rdK:Nat->Bs->Option (Ty×Bs)
 | d,l=>match cut [98] l with
   | some r=>some (.mk [],r)
   | none=>match d with
     | 0=>none
     | d+1=>do
       let r1<-cut [40,62,32] l
       let (a,r2)<-rdK d r1
       let r3<-cut [32] r2
       let (b,r4)<-rdK d r3
       let r5<-cut [41] r4
       some (zd a b,r5)
def Cut (p l r:Bs):Prop:=cut p l=some r
def pH (p l:Bs):Prop:=cut p l=none
theorem Cut.out {p l r:Bs} (h:Cut p l r):cut p l=some r:=h
theorem pH.out {p l:Bs} (h:pH p l):cut p l=none:=h
theorem qW (p l:Bs):pH p l\/∃ r,Cut p l r:=by
 cases h:cut p l with
 | none=>exact .inl h
 | some r=>exact .inr ⟨r,h⟩
theorem Cut.le {p l r:Bs} (h:Cut p l r):r.length<=l.length:=by
 unfold Cut cut at h;split at h
 ·simp at h;subst h;simp
 ·simp at h
theorem wv {d:Nat} {l r:Bs} (h:Cut [98] l r):rdK d l=some (.mk [],r):=by
 cases d <;> simp [rdK,h.out]
theorem xv {l:Bs} (h:pH [98] l):rdK 0 l=none:=by simp [rdK,h.out]
theorem vU {d:Nat} {l:Bs} (h:pH [98] l):rdK (d+1) l=(do
        let r1<-cut [40,62,32] l
        let (a,r2)<-rdK d r1
        let r3<-cut [32] r2
        let (b,r4)<-rdK d r3
        let r5<-cut [41] r4
        some (zd a b,r5)):=by rw [rdK,h.out]
theorem rdK_le (d:Nat):∀ {l r:Bs} {t:Ty},rdK d l=some (t,r)->r.length<=l.length/\t.args.length<=l.length:=by
 induction d with
 | zero =>
   intro l r t h
   rcases qW [98] l with hc | ⟨r',hc⟩
   ·rw [xv hc] at h;simp at h
   ·rw [wv hc] at h;simp at h;obtain ⟨rfl,rfl⟩:=h;exact ⟨hc.le,by simp [Ty.args]⟩
 | succ d ih =>
   intro l r t h
   rcases qW [98] l with hc | ⟨r',hc⟩
   ·rw [vU hc] at h
    simp only [Option.bind_eq_bind,Option.bind_eq_some_iff,Prod.exists] at h
    obtain ⟨r1,h1,a,r2,h2,r3,h3,b,r4,h4,r5,h5,h6⟩:=h
    simp at h6;obtain ⟨rfl,rfl⟩:=h6
    have k1:=Cut.le h1;have k2:=ih h2;have k3:=Cut.le h3;have k4:=ih h4;have k5:=Cut.le h5
    have k6:r1.length<l.length:=by
     unfold cut at h1;split at h1
     ·rename_i hp
      have:=List.IsPrefix.length_le (List.isPrefixOf_iff_prefix.1 hp)
      simp at h1 this;subst h1;simp;omega
     ·simp at h1
    exact ⟨by omega,by simp [zd,Ty.args];simp [Ty.args] at k4;omega⟩
   ·rw [wv hc] at h;simp at h;obtain ⟨rfl,rfl⟩:=h;exact ⟨hc.le,by simp [Ty.args]⟩
mutual
def jG:Ty->DV
 | .mk ts=>.ptr 102 [.sl 33 1 ts.length (jN ts)]
def jN:List Ty->List DV
 | []=>[]
 | t::ts=>jG t::jN ts
end
theorem pJ (ts:List Ty):∀ k:Nat,(jN ts)[k]? = ts[k]?.map jG:=by
 induction ts with
 | nil=>intro k;simp [jN]
 | cons t ts ih=>intro k;cases k <;> simp [jN,ih]
mutual
def zV:Ty->Nat
 | .mk ts=>1+zt ts
def zt:List Ty->Nat
 | []=>0
 | t::ts=>1+zV t+zt ts
end
theorem ux (a b:List Ty):zt (a++b)=zt a+zt b:=by
 induction a with
 | nil=>simp [zt]
 | cons t ts ih=>simp [zt,ih];omega
theorem yx {ts:List Ty} {k:Nat} {t:Ty} (h:ts[k]? = some t):zt (ts.take (k+1))=zt (ts.take k)+(1+zV t):=by
 rw [List.take_add_one,h,ux];simp [zt]
theorem uU (ts:List Ty) (k:Nat):zt (ts.take k)<=zt ts:=by
 have:=ux (ts.take k) (ts.drop k);rw [List.take_append_drop] at this;omega
theorem qw (t:Ty):zV t=1+zt t.args:=by cases t;simp [zV,Ty.args]
theorem kr (t:Ty):1<=zV t:=by rw [qw];omega
theorem rdK_atoms (d:Nat):∀ {l r:Bs} {t:Ty},rdK d l=some (t,r)->zV t+r.length<=l.length:=by
 have hb:∀ {l r:Bs},Cut [98] l r->zV (.mk [])+r.length<=l.length:=by
  intro l r h
  unfold Cut cut at h;split at h
  ·rename_i hp
   have:=List.IsPrefix.length_le (List.isPrefixOf_iff_prefix.1 hp)
   simp at h this;subst h;simp [zV,zt];omega
  ·simp at h
 induction d with
 | zero =>
   intro l r t h
   rcases qW [98] l with hc | ⟨r',hc⟩
   ·rw [xv hc] at h;simp at h
   ·rw [wv hc] at h;simp at h;obtain ⟨rfl,rfl⟩:=h;exact hb hc
 | succ d ih =>
   intro l r t h
   rcases qW [98] l with hc | ⟨r',hc⟩
   ·rw [vU hc] at h
    simp only [Option.bind_eq_bind,Option.bind_eq_some_iff,Prod.exists] at h
    obtain ⟨r1,h1,a,r2,h2,r3,h3,b,r4,h4,r5,h5,h6⟩:=h
    simp at h6;obtain ⟨rfl,rfl⟩:=h6
    have k2:=ih h2;have k3:=Cut.le h3;have k4:=ih h4;have k5:=Cut.le h5
    have k6:r1.length<l.length:=by
     unfold cut at h1;split at h1
     ·rename_i hp
      have:=List.IsPrefix.length_le (List.isPrefixOf_iff_prefix.1 hp)
      simp at h1 this;subst h1;simp;omega
     ·simp at h1
    have:zV (zd a b)=1+zV a+zV b:=by cases b;simp [zd,zV,zt,Ty.args];omega
    omega
   ·rw [wv hc] at h;simp at h;obtain ⟨rfl,rfl⟩:=h;exact hb hc
def rdS:Nat->Bs->Option (Ty×Bs)
 | 0,_=>none
 | n+1,l=>rdK n l
theorem rdS_b {n:Nat} {l r:Bs} (h:Cut [98] l r):rdS (n+1) l=some (.mk [],r):=wv h
theorem rdS_no {n:Nat} {l:Bs} (h:pH [98] l):rdS (n+1) l=(do
        let r1<-cut [40,62,32] l
        let (a,r2)<-rdS n r1
        let r3<-cut [32] r2
        let (b,r4)<-rdS n r3
        let r5<-cut [41] r4
        some (zd a b,r5)):=by
 cases n with
 | zero =>
   show rdK 0 l=_
   rw [xv h]
   cases cut [40,62,32] l <;> simp [rdS]
 | succ n=>exact vU h
theorem cut_drop {p l r:Bs} {i:Nat} (h:cut p (l.drop i)=some r):r=l.drop (i+p.length)/\i+p.length<=l.length+(if p.length=0 then i else 0):=by
 unfold cut at h;split at h
 ·rename_i hp
  have hl:=List.IsPrefix.length_le (List.isPrefixOf_iff_prefix.1 hp)
  simp at h hl;subst h
  refine ⟨rfl,?_⟩
  split <;> omega
 ·simp at h
theorem yK {c:UInt8} {l:Bs} {i:Nat} (h:i<l.length):cut [c] (l.drop i)=if l[i]=c then some (l.drop (i+1)) else none:=by
 unfold cut
 rw [List.drop_eq_getElem_cons h]
 by_cases hc:l[i]=c
 ·simp [hc,List.isPrefixOf]
 ·have:(c == l[i])=false:=by simpa using fun e=>hc e.symm
  simp [hc,List.isPrefixOf,this]
theorem pw {c:UInt8} {p l:Bs} {i:Nat} (h:l.length<=i):cut (c::p) (l.drop i)=none:=by
 rw [List.drop_eq_nil_of_le h];rfl
theorem yX {l r:Bs} {i:Nat} (h:r <:+ l.drop i):r=l.drop (l.length-r.length):=by
 have h2:r <:+ l:=h.trans (List.drop_suffix i l)
 exact List.suffix_iff_eq_drop.1 h2
theorem rdK_suffix (d:Nat):∀ {l r:Bs} {t:Ty},rdK d l=some (t,r)->r <:+ l:=by
 have B9:∀ {p l r:Bs},cut p l=some r->r <:+ l:=by
  intro p l r h
  unfold cut at h;split at h
  ·simp at h;subst h;exact List.drop_suffix _ _
  ·simp at h
 induction d with
 | zero =>
   intro l r t h
   rcases qW [98] l with hc | ⟨r',hc⟩
   ·rw [xv hc] at h;simp at h
   ·rw [wv hc] at h;simp at h;obtain ⟨rfl,rfl⟩:=h;exact B9 hc
 | succ d ih =>
   intro l r t h
   rcases qW [98] l with hc | ⟨r',hc⟩
   ·rw [vU hc] at h
    simp only [Option.bind_eq_bind,Option.bind_eq_some_iff,Prod.exists] at h
    obtain ⟨r1,h1,a,r2,h2,r3,h3,b,r4,h4,r5,h5,h6⟩:=h
    simp at h6;obtain ⟨rfl,rfl⟩:=h6
    exact (((((B9 h5).trans (ih h4)).trans (B9 h3)).trans (ih h2)).trans (B9 h1))
   ·rw [wv hc] at h;simp at h;obtain ⟨rfl,rfl⟩:=h;exact B9 hc
theorem de {n:Nat} {l r:Bs} {t:Ty} (h:rdS n l=some (t,r)):r <:+ l:=by
 cases n with
 | zero=>simp [rdS] at h
 | succ n=>exact rdK_suffix n h
theorem rdS_le {n:Nat} {l r:Bs} {t:Ty} (h:rdS n l=some (t,r)):r.length<=l.length/\t.args.length<=l.length:=by
 cases n with
 | zero=>simp [rdS] at h
 | succ n=>exact rdK_le n h
theorem rdS_atoms {n:Nat} {l r:Bs} {t:Ty} (h:rdS n l=some (t,r)):zV t+r.length<=l.length:=by
 cases n with
 | zero=>simp [rdS] at h
 | succ n=>exact rdK_atoms n h
def jL (sc:Nat) (c:List Value) (e:TypeId) (r:Bs) (w:World):Prop:=w.heap[sc]? = some (.cells (str r::c).toArray e (0,0))
theorem jL.cell {sc:Nat} {c:List Value} {e:TypeId} {r:Bs} {w:World} (h:jL sc c e r w):w.cell? ⟨sc,0,none⟩=some (str r):=by
 simp [World.cell?,jL] at *;simp [h]
theorem jL.free {sc:Nat} {c:List Value} {e:TypeId} {r:Bs} {w:World} (h:jL sc c e r w) (o:Nat):w.frozen? ⟨sc,o,none⟩=false:=by
 simp [World.frozen?,jL] at *;simp [h]
theorem jL.put {sc:Nat} {c:List Value} {e:TypeId} {r r':Bs} {w:World} (h:jL sc c e r w):jL sc c e r' (w.setCell ⟨sc,0,none⟩ (str r')):=by
 unfold jL at *
 have fG:=zZ h
 have h':w.heap[sc]=.cells (str r::c).toArray e (0,0):=by simpa [Array.getElem?_eq_getElem fG] using h
 show (w.heap.modify sc _)[sc]? = _
 rw [Array.getElem?_eq_getElem (by simpa using fG),Array.getElem_modify_self,h']
 simp
theorem ch {p r:Bs}:Lib.hasPrefix r p=(cut p r).isSome/\Lib.trimPrefix r p=(cut p r).getD r:=by
 unfold Lib.hasPrefix Lib.trimPrefix cut Lib.hasPrefix
 cases h:p.isPrefixOf r <;> simp
theorem take_any (sc:Nat) (c:List Value) (e:TypeId) (r p:Bs) (w:World) (h:jL sc c e r w) :
 Calls Tryz.prog 70 #[.pointer (some ⟨sc,0,none⟩),.string ⟨p.toArray⟩] w fun en w' =>
  en=.returned (.bool (cut p r).isSome)/\But (· = sc) w w'/\jL sc c e ((cut p r).getD r) w':=by
 have h1:=h.cell
 have h2:=h.free 0
 have h3:=ed h;clear h
 go_enter Tryz.func70,Tryz.ntmps70
 go_wp2_with (go_at_call 91;refine (Tryz.strings_CutPrefix _ _ _).mono ?_;rintro e w' ⟨rfl,rfl⟩)
 go_ret
 refine ⟨?_,(But.refl (· = sc) _).setCell (p:=⟨sc,0,none⟩) (.inl rfl) _,?_⟩
 ·rw [<- ch.1];rfl
 ·rw [<- ch.2];exact h3.out.put
theorem kZ {F:Nat->Prop} {w:World} {t:Ty} {v:Value} (h:Rep F w (jG t) v) :
 ∃ b s,v=.pointer (some ⟨b,0,none⟩)/\F b/\w.heap[b]? = some (.cells #[s] 102 (0,0))/\Rep F w (.sl 33 1 t.args.length (jN t.args)) s:=by
 cases t with
 | mk ts =>
   rw [jG,ju] at h
   obtain ⟨b,c,hv,hb,hc,hr⟩:=h
   rw [zQ] at hr
   obtain ⟨s,vs',e1,h1,h2⟩:=hr
   rw [zC] at h2;subst h2
   have:c=#[s]:=by apply Array.ext';simpa using e1
   subst this
   exact ⟨b,s,hv,hb,hc,h1⟩
theorem pu {F:Nat->Prop} {w:World} {t:Ty} {b:Nat} {s:Value} (hb:F b) (hc:w.heap[b]? = some (.cells #[s] 102 (0,0)))
 (h:Rep F w (.sl 33 1 t.args.length (jN t.args)) s):Rep F w (jG t) (.pointer (some ⟨b,0,none⟩)):=by
 cases t with
 | mk ts =>
   rw [jG,ju]
   exact ⟨b,#[s],rfl,hb,hc,zX.one h⟩
theorem Tryz.infoK:(Tryz.prog.info? 33).map (fun i=>(i.zero,i.size,i.bytes))=some (some (.pointer none),1,8):=by kernel_rfl
theorem oneCell_encKs {F:Nat->Prop} {w:World} (ts:List Ty):∀ us,zX F w (jN ts) us->∀ u∈us,u.oneCell'=true:=by
 induction ts with
 | nil=>intro us h;rw [jN,zC] at h;subst h;simp
 | cons t ts ih =>
   intro us h u hu
   rw [jN,zQ] at h
   obtain ⟨v,vs',rfl,h1,h2⟩:=h
   rcases List.mem_cons.1 hu with rfl | hu
   ·obtain ⟨b,s,rfl,_⟩:=kZ h1;rfl
   ·exact ih _ h2 u hu
theorem arrow_any (F:Nat->Prop) (a b:Ty) (va vb:Value) (w:World) (ha:Rep F w (jG a) va) (hb:Rep F w (jG b) vb) (hl:Lim b.args.length) :
 Calls Tryz.prog 51 #[va,vb] w fun en w' =>
  ∃ v,en=.returned v/\Below w.heap.size w w'/\Rep (fun k=>F k\/w.heap.size<=k) w' (jG (zd a b)) v:=by
 obtain ⟨bb,sb,rfl,Kd,G7,mj⟩:=kZ hb
 obtain ⟨ba,eva⟩:∃ ba,va=.pointer (some ⟨ba,0,none⟩):=by obtain ⟨ba,_,h,_⟩:=kZ ha;exact ⟨ba,h⟩
 subst eva
 obtain ⟨news,me,mC⟩:=zO.ofRep mj (oneCell_encKs _)
 have c1:w.cell? ⟨bb,0,none⟩=some sb:=by simp [World.cell?,G7]
 have l1:=zZ G7
 have H1:=ed mC;have H2:=ed me;have H3:=ed ha
 clear mC me ha hb mj G7
 go_enter Tryz.func51,Tryz.ntmps51
 go_wp2_with (at_builtin;refine zD rfl _ _ 100 rfl 33 (.pointer none) 1 8 Tryz.underlying100 Tryz.infoK rfl (by decide) _ 1 [.pointer (some ⟨ba,0,none⟩)] rfl ?c1 _ b.args.length news rfl ?c2 ?c3 ?c4 ?_)
 case c1=>exact Own.lit #[.pointer (some ⟨ba,0,none⟩)] 1 (by decide) rfl
 case c2=>exact H1.out.keep fun _ _ h=>zJ h
 case c3=>have:=hl.le;unfold maxLen;omega
 case c4=>have:=hl.le;omega
 intro a' c' w' ho hb hg
 have H4:=ed ho;have H5:=ed hb;have H6:=ed hg;clear ho hb hg
 go_wp2
 go_ret
 have hb:=H5.out
 have b1:Below w.heap.size w w':=((e_ w.heap.size w).alloc (ei _) _).trans (hb.toBelow (by simp) (fun i hi e=>by simp [Value.ownBlock] at e;omega))
 refine ⟨_,rfl,b1.alloc b1.size _,?_⟩
 refine pu (F:=fun k=>F k\/w.heap.size<=k) (.inr b1.size) (zG _ _) ?_
 refine Rep.below (F:=fun k=>F k\/w.heap.size<=k) ((e_ _ _).alloc (ei _) _) (fun _ h=>h) ?_
 rw [show (zd a b).args.length=1+b.args.length from by simp [zd,Ty.args,Nat.add_comm]]
 refine H4.out.rep ?_ ?_
 ·intro g hg
  rcases H6.out g hg with h | h
  ·simp [Value.ownBlock] at h;exact .inr (by omega)
  ·exact .inr (by subst h;simp)
 ·show zX _ _ (jG a::jN b.args) _
  exact zQ.2 ⟨_,_,rfl,Rep.below b1 (fun _ h=>.inl h) H3.out,zX.below b1 (fun _ h=>.inl h) H2.out⟩
theorem vS {sc:Nat} {c:List Value} {e:TypeId} {r p r':Bs} {w:World} (h:jL sc c e r w) (hc:Cut p r r') :
 Calls Tryz.prog 70 #[.pointer (some ⟨sc,0,none⟩),.string ⟨p.toArray⟩] w fun en w' =>
  en=.returned (.bool true)/\But (· = sc) w w'/\jL sc c e r' w':=by
 refine (take_any sc c e r p w h).mono ?_
 rw [hc.out];exact fun _ _ h=>h
theorem uA {sc:Nat} {c:List Value} {e:TypeId} {r p:Bs} {w:World} (h:jL sc c e r w) (hc:pH p r) :
 Calls Tryz.prog 70 #[.pointer (some ⟨sc,0,none⟩),.string ⟨p.toArray⟩] w fun en w' =>
  en=.returned (.bool false)/\But (· = sc) w w'/\jL sc c e r w':=by
 refine (take_any sc c e r p w h).mono ?_
 rw [hc.out];exact fun _ _ h=>h
def xe (sc:Nat) (c:List Value) (e:TypeId) (w:World) (o:Option (Ty×Bs)) (en:Ending) (w':World):Prop :=
 ∃ v r',en=.returned v/\But (· = sc) w w'/\jL sc c e r' w'/\(o=none->v=.pointer none)/\(∀ t rest,o=some (t,rest)->r'=rest/\Rep (w.heap.size<=·) w' (jG t) v)
theorem xe.no {sc:Nat} {c:List Value} {e:TypeId} {w:World} {r:Bs} {w':World} {o:Option (Ty×Bs)} (ho:o=none) (hb:But (· = sc) w w') (hs:jL sc c e r w'):xe sc c e w o (.returned (.pointer none)) w' :=
 ⟨_,r,rfl,hb,hs,fun _=>rfl,fun _ _ h=>by rw [ho] at h;simp at h⟩
theorem xe.yes {sc:Nat} {c:List Value} {e:TypeId} {w:World} {r:Bs} {w':World} {o:Option (Ty×Bs)} {t:Ty} {v:Value} (ho:o=some (t,r)) (hb:But (· = sc) w w') (hs:jL sc c e r w')
 (hv:Rep (w.heap.size<=·) w' (jG t) v):xe sc c e w o (.returned v) w' :=
 ⟨_,r,rfl,hb,hs,fun h=>by rw [ho] at h;simp at h,fun _ _ h=>by rw [ho] at h;simp at h;obtain ⟨rfl,rfl⟩:=h;exact ⟨rfl,hv⟩⟩
theorem pE {sc:Nat} {c:List Value} {e:TypeId} {r:Bs} {w:World} (h:jL sc c e r w):sc<w.heap.size:=zZ h
theorem jL.alloc {sc:Nat} {c:List Value} {e:TypeId} {r:Bs} {w:World} (h:jL sc c e r w) (o:Obj):jL sc c e r (w.alloc o):=zY h
def eg (sc:Nat) (c:List Value) (e:TypeId) (d:Nat):Prop:=∀ (r:Bs) (w:World),jL sc c e r w->Lim r.length ->
    Calls Tryz.prog 73 #[.pointer (some ⟨sc,0,none⟩),.int .i64 d] w (xe sc c e w (rdK d r))
theorem kind_step (sc:Nat) (c:List Value) (e:TypeId) (d:Nat) (hd:d<=1000) (ih:∀ d',d=d'+1->eg sc c e d'):eg sc c e d:=by
 intro r w hs hr
 have IH:=ed ih;clear ih
 go_enter Tryz.func73,Tryz.ntmps73
 go_wp2_with fail
 rcases qW [98] r with h1 | ⟨r1,h1⟩
 ·refine (uA hs h1).mono ?_
  rintro en w1 ⟨rfl,fP,rV⟩
  by_cases h0:d=0
  ·have H0:=ed h0;clear h0
   have h0:((d:Int) == 0)=true:=by rw [beq_iff_eq];have:=H0.out;omega
   go_wp2_with fail
   go_ret
   exact xe.no (by have:=H0.out;subst this;exact xv h1) fP rV
  ·obtain ⟨d',hd'⟩:∃ d',d=d'+1:=⟨d-1,by omega⟩
   subst hd'
   clear h0
   have h0:(((d'+1:Nat):Int) == 0)=false:=by rw [beq_eq_false_iff_ne];omega
   have IH':=ed (IH.out d' rfl);clear IH
   go_wp2_with fail
   rcases qW [40,62,32] r with h2 | ⟨r2,h2⟩
   ·refine (uA rV h2).mono ?_
    rintro en w2 ⟨rfl,fY,iU⟩
    go_wp2_with fail
    go_ret
    exact xe.no (by rw [vU h1,h2.out];rfl) (fP.trans fY) iU
   refine (vS rV h2).mono ?_
   rintro en w2 ⟨rfl,fY,iU⟩
   go_wp2_with fail
   have r2l:=h2.le
   refine (IH'.out r2 w2 iU (hr.mono r2l)).mono ?_
   rintro en w3 ⟨va,r3,rfl,fE,ln,Ac,i7⟩
   rcases ha:rdK d' r2 with _ | ⟨ta,r3'⟩
   ·obtain rfl:=Ac ha
    have Ha:=ed ha;clear ha Ac i7
    go_wp2_with fail
    go_ret
    exact xe.no (by rw [vU h1,h2.out];simp [Ha.out]) ((fP.trans fY).trans fE) ln
   obtain ⟨rfl,iR⟩:=i7 _ _ ha
   obtain ⟨ba,rfl⟩:∃ ba,va=.pointer (some ⟨ba,0,none⟩):=by obtain ⟨ba,_,h,_⟩:=kZ iR;exact ⟨ba,h⟩
   have r3l:=(rdK_le _ ha).1
   have Ha:=ed ha;clear ha Ac i7
   have hb:=(fP.trans fY).trans fE;have hb2z:=(fP.trans fY).size;clear fP fY
   go_wp2_with fail
   rcases qW [32] r3 with h4 | ⟨r4,h4⟩
   ·refine (uA ln h4).mono ?_
    rintro en w4 ⟨rfl,fx,rX⟩
    go_wp2_with fail
    go_ret
    exact xe.no (by rw [vU h1,h2.out];simp [Ha.out,h4.out]) (hb.trans fx) rX
   refine (vS ln h4).mono ?_
   rintro en w4 ⟨rfl,fx,rX⟩
   go_wp2_with fail
   have r4l:=h4.le
   refine (IH'.out r4 w4 rX (hr.mono (by omega))).mono ?_
   rintro en w5 ⟨vb,r5,rfl,fv,o7,BU,Bx⟩
   rcases hbb:rdK d' r4 with _ | ⟨tb,r5'⟩
   ·obtain rfl:=BU hbb
    have Hb:=ed hbb;clear hbb BU Bx
    go_wp2_with fail
    go_ret
    exact xe.no (by rw [vU h1,h2.out];simp [Ha.out,h4.out,Hb.out]) ((hb.trans fx).trans fv) o7
   obtain ⟨rfl,mj⟩:=Bx _ _ hbb
   obtain ⟨bb,rfl⟩:∃ ba,vb=.pointer (some ⟨ba,0,none⟩):=by obtain ⟨ba,_,h,_⟩:=kZ mj;exact ⟨ba,h⟩
   have r5l:=rdK_le _ hbb
   have Hb:=ed hbb;clear hbb BU Bx
   go_wp2_with fail
   rcases qW [41] r5 with h6 | ⟨r6,h6⟩
   ·refine (uA o7 h6).mono ?_
    rintro en w6 ⟨rfl,fC,GV⟩
    go_wp2_with fail
    go_ret
    exact xe.no (by rw [vU h1,h2.out];simp [Ha.out,h4.out,Hb.out,h6.out]) (((hb.trans fx).trans fv).trans fC) GV
   refine (vS o7 h6).mono ?_
   rintro en w6 ⟨rfl,fC,GV⟩
   have A0:=pE hs
   have z1:=hb.size;have z3:=fE.size;have z4:=fx.size;have z5:=fv.size;have z6:=fC.size;have z2:=fE.size
   have w2z:w.heap.size<=w2.heap.size:=by have:=hb2z;omega
   have ra:Rep (w.heap.size<=·) w6 (jG ta) (.pointer (some ⟨ba,0,none⟩)):=Rep.but ((fx.trans fv).trans fC) (fun b h=>⟨by omega,by omega⟩) iR
   have rb:Rep (w.heap.size<=·) w6 (jG tb) (.pointer (some ⟨bb,0,none⟩)):=Rep.but fC (fun b h=>⟨by omega,by omega⟩) mj
   go_wp2_with fail
   refine (arrow_any _ ta tb _ _ w6 ra rb (hr.mono (by omega))).mono ?_
   rintro en w7 ⟨v,rfl,fW,hv⟩
   obtain ⟨bv,rfl⟩:∃ ba,v=.pointer (some ⟨ba,0,none⟩):=by obtain ⟨ba,_,h,_⟩:=kZ hv;exact ⟨ba,h⟩
   go_wp2_with fail
   go_ret
   refine xe.yes (t:=zd ta tb) (r:=r6) (by rw [vU h1,h2.out];simp [Ha.out,h4.out,Hb.out,h6.out]) ((((hb.trans fx).trans fv).trans fC).trans (But.ofBelow fW)) ?_ ?_
   ·exact (fW.block sc (by omega)).trans GV
   ·exact (Rep.keep fun b o h ho=>⟨by rcases h with h | h <;> omega,ho⟩).1 _ _ hv
 ·refine (vS hs h1).mono ?_
  rintro en w1 ⟨rfl,fP,rV⟩
  go_wp2_with fail
  go_ret
  refine xe.yes (t:=.mk []) (r:=r1) (wv h1) (fP.alloc _) (rV.alloc _) ?_
  refine pu (F:=(w.heap.size<=·)) fP.size (zG _ _) ?_
  exact (zp.2 ⟨rfl,none,0,rfl,ei _,fun _=>rfl,.inl rfl⟩)
theorem kind_any (sc:Nat) (c:List Value) (e:TypeId) (d:Nat) (hd:d<=1000):eg sc c e d:=by
 induction d with
 | zero=>exact kind_step sc c e 0 hd (fun d' h=>by omega)
 | succ d ih=>exact kind_step sc c e (d+1) hd (fun d' h=>by obtain rfl:d=d':=by omega
                                                            exact ih (by omega))
def cp (F:Nat->Prop) (w:World) (t:Ty):Prop:=∀ v,Rep F w (jG t) v ->
 Calls Tryz.prog 50 #[v] w fun en w'=>en=.returned (.int .i64 (zV t))/\w'=w
theorem atoms_step (F:Nat->Prop) (w:World) (t:Ty) (hl:Lim (zV t)) (ih:∀ t',zV t'<zV t->cp F w t'):cp F w t:=by
 intro v hv
 obtain ⟨b,s,rfl,hb,hc,hs⟩:=kZ hv
 have c1:w.cell? ⟨b,0,none⟩=some s:=by simp [World.cell?,hc]
 obtain ⟨a,cap,rfl,hn,hlen,fU⟩:=zP hs
 have IH:=ed ih;clear ih hc hv hs
 have e1:=qw t
 have E1:=ed e1;clear e1
 have tH:=hl.le
 have hlb:t.args.length<=16777216:=by
  have h:∀ ts:List Ty,ts.length<=zt ts:=by intro ts;induction ts with
   | nil=>simp
   | cons t ts ih=>simp [zt];omega
  have:=h t.args;have:=E1.out;omega
 have HL:=ed hlen;clear hlen
 have AT:=ed fU;clear fU
 go_enter Tryz.func50,Tryz.ntmps50
 go_wp2_with fail
 go_loop [3,11] (fun n i=>∃ k:Nat,k<=t.args.length/\i=.int .i64 k/\n=.int .i64 ((1+zt (t.args.take k):Nat):Int)) (fun _ i=>t.args.length-(intOf i).toNat)
 case atStart=>exact ⟨0,Nat.zero_le _,rfl,by simp [zt]⟩
 case round =>
  obtain ⟨k,hk,rfl,rfl⟩:=hrel
  by_cases fG:k<t.args.length
  ·obtain ⟨b',o,u,d,rfl,_,fN,hd,hu,hr⟩:=AT.out k fG
   rw [pJ,Option.map_eq_some_iff] at hd
   obtain ⟨t',nz,rfl⟩:=hd
   have hs:=yx nz
   have mH:=uU t.args (k+1)
   have ri:=E1.out
   have IH':=ed (IH.out t' (by omega))
   have HS:=ed hs
   have b1:1+zt (t.args.take k)+(1+zV t')<=16777216:=by omega
   have HT:=ed nz;clear hs nz ri
   obtain ⟨bu,eu⟩:∃ bu,u=.pointer (some ⟨bu,0,none⟩):=by obtain ⟨ba,_,h,_⟩:=kZ hr;exact ⟨ba,h⟩
   subst eu
   go_wp2_with fail
   refine (IH'.out _ hr).mono ?_
   rintro en w' ⟨rfl,ew⟩
   subst ew
   go_wp2_with fail
   go_round
   case rel=>exact ⟨k+1,by omega,by go_num,by rw [HS.out];go_num⟩
   case measure=>simp [intOf];omega
  ·go_wp2_with fail
   go_ret
   have:k=t.args.length:=by omega
   subst this
   exact ⟨yq (by rw [E1.out,List.take_length];simp),rfl⟩
theorem uR (F:Nat->Prop) (w:World) (n:Nat):∀ t,zV t<=n->Lim n->cp F w t:=by
 induction n with
 | zero=>intro t h _;have:=kr t;omega
 | succ n ih=>exact fun t h hn=>atoms_step F w t (hn.mono h) (fun t' h'=>ih t' (by omega) (hn.mono (by omega)))
theorem zO.slice {size:Nat} {x:Value} {m:Nat} {news:List Value} {w:World} (h:zO size x m news w):∃ a c,x=.slice a m c:=by
 obtain ⟨_,_,⟨a,c,rfl,_⟩ | ⟨rfl,rfl⟩⟩:=h
 ·exact ⟨_,_,rfl⟩
 ·exact ⟨_,_,rfl⟩
theorem zO.below {w w':World} {size:Nat} {x:Value} {m:Nat} {news:List Value} (hb:Below w.heap.size w w') (h:zO size x m news w):zO size x m news w' :=
 h.keep fun a v hv=>by rw [hb.cell (e9 w a hv)];exact hv
def CatRel (e:TypeId) (w:World) (n1 n2:Nat) (io GH:List Value) (v i:Value) (wr:World):Prop :=
 ∃ k m xs a c,i=.int .i64 (k:Nat)/\v=.slice a m c/\Own wr e 1 (.slice a m c) m xs/\Below w.heap.size w wr/\(∀ g,(Value.slice a m c).ownBlock=some g->w.heap.size<=g) /\
   ((k=0/\m=0/\xs=[])\/(k=1/\m=n1/\xs=io)\/(k=2/\m=n1+n2/\xs=io++GH))
theorem CatRel.next {e:TypeId} {w:World} {n1 n2:Nat} {io GH:List Value} {k m m':Nat} {xs:List Value} {a a':Option Addr} {c c':Nat} {wr w':World}
 (ho:Own w' e 1 (.slice a' m' c') m' xs) (hb:Below w.heap.size w wr) (AJ:But (fun b=>(Value.slice a m c).ownBlock=some b) wr w')
 (hf:∀ g,(Value.slice a m c).ownBlock=some g->w.heap.size<=g) (hg:∀ g,(Value.slice a' m' c').ownBlock=some g->(Value.slice a m c).ownBlock=some g\/g=wr.heap.size)
 (hk:(k=0/\m'=0/\xs=[])\/(k=1/\m'=n1/\xs=io)\/(k=2/\m'=n1+n2/\xs=io++GH)):CatRel e w n1 n2 io GH (.slice a' m' c') (.int .i64 (k:Nat)) w' :=
 ⟨k,m',xs,a',c',rfl,rfl,ho,hb.trans (AJ.toBelow hb.size fun i hi h=>by have:=hf i h;omega),fun g h=>by
  rcases hg g h with h | h
  ·exact hf g h
  ·have:=hb.size;omega,hk⟩
inductive Bd where
 | leaf (c:UInt8)
 | ask (v:Nat) (subs:List Bd) (yes no:Bd)
mutual
def qZ:Bd->DV
 | .leaf c=>.ptr 68 [.val (str [c]),.val (.int .i64 (0:Nat)),.sl 34 1 0 [],.val (.pointer none),.val (.pointer none)]
 | .ask v ss y n=>.ptr 68 [.val (str []),.val (.int .i64 v),.sl 34 1 ss.length (q_ ss),qZ y,qZ n]
def q_:List Bd->List DV
 | []=>[]
 | b::bs=>qZ b::q_ bs
end
def sep (c:UInt8):Bool:=c == 32 || c == 40 || c == 41
def zu (l:Bs):Bs:=l.takeWhile (fun c=>!sep c)
def zS (l:Bs):Bs:=l.dropWhile (fun c=>!sep c)
def lvl (w:Bs) (n:Nat):Option Nat :=
 match Lib.atoiAll w with
 | .ok v=>if Lib.itoa v=w/\0<=v/\v<n then some v.toNat else none
 | _=>none
def jg (levels ts:List Ty):List (List Ty):=ts.map fun a=>levels++a.args
def kI:Bd->List Bd
 | .leaf _=>[]
 | .ask _ ss y n=>ss++[y,n]
mutual
def zW:Bd->Nat
 | .leaf _=>1
 | .ask _ ss y n=>1+(zR ss+(zW y+zW n))
def zR:List Bd->Nat
 | []=>0
 | b::bs=>zW b+zR bs
end
mutual
def kR:Bd->Nat
 | .leaf _=>0
 | .ask _ ss y n=>max (kx ss) (max (1+kR y) (1+kR n))
def kx:List Bd->Nat
 | []=>0
 | b::bs=>max (1+kR b) (kx bs)
end
theorem jy (a b:List Bd):zR (a++b)=zR a+zR b:=by
 induction a with
 | nil=>simp [zR]
 | cons t ts ih=>simp [zR,ih];omega
theorem pV (a b:List Bd):kx (a++b)=max (kx a) (kx b):=by
 induction a with
 | nil=>simp [kx]
 | cons t ts ih=>simp only [List.cons_append,kx,ih];omega
theorem uC (b:Bd):zW b=1+zR (kI b):=by
 cases b with
 | leaf c=>simp [zW,kI,zR]
 | ask v ss y n=>simp [zW,kI,jy,zR]
theorem yu (b:Bd):kR b=kx (kI b):=by
 cases b with
 | leaf c=>simp [kR,kI,kx]
 | ask v ss y n=>simp only [kR,kI,pV,kx];omega
theorem yP {ts:List Bd} {k:Nat} {t:Bd} (h:ts[k]? = some t):zR (ts.take (k+1))=zR (ts.take k)+zW t:=by
 rw [List.take_add_one,h,jy];simp [zR]
theorem depthBs_take {ts:List Bd} {k:Nat} {t:Bd} (h:ts[k]? = some t):kx (ts.take (k+1))=max (kx (ts.take k)) (1+kR t):=by
 rw [List.take_add_one,h,pV];simp [kx]
theorem jd (ts:List Bd) (k:Nat):zR (ts.take k)<=zR ts:=by
 have:=jy (ts.take k) (ts.drop k);rw [List.take_append_drop] at this;omega
theorem kW (b:Bd):1<=zW b:=by rw [uC];omega
theorem qB (ts:List Bd):ts.length<=zR ts:=by
 induction ts with
 | nil=>simp
 | cons t ts ih=>simp [zR];have:=kW t;omega
theorem eB {ts:List Bd} (h:∀ t∈ts,kR t<zW t):kx ts<=zR ts:=by
 induction ts with
 | nil=>simp [kx]
 | cons t ts ih =>
   have h1:=h t (by simp)
   have h2:=ih (fun x hx=>h x (by simp [hx]))
   simp only [kx,zR];omega
theorem vL {ts:List Bd} {t:Bd} (h:t∈ts):zW t<=zR ts:=by
 induction ts with
 | nil=>simp at h
 | cons x xs ih =>
   rcases List.mem_cons.1 h with rfl | h
   ·simp [zR]
   ·have:=ih h;simp [zR];omega
theorem px:∀ (n:Nat) (b:Bd),zW b<=n->kR b<zW b:=by
 intro n
 induction n with
 | zero=>intro b h;have:=kW b;omega
 | succ n ih =>
   intro b h
   have h1:=uC b
   rw [yu,h1]
   have:=eB (ts:=kI b) (fun t ht=>ih t (by have:=vL ht;omega))
   omega
theorem tw_all {α:Type} (p:α->Bool) (l:List α):∀ c∈l.takeWhile p,p c=true:=by
 induction l with
 | nil=>simp
 | cons x xs ih =>
   intro c hc
   rw [List.takeWhile_cons] at hc
   split at hc
   ·rename_i hx
    rcases List.mem_cons.1 hc with rfl | hc
    ·exact hx
    ·exact ih c hc
   ·simp at hc
theorem tw_end {α:Type} (p:α->Bool) (l:List α):∀ h:(l.takeWhile p).length<l.length,p l[(l.takeWhile p).length]=false:=by
 induction l with
 | nil=>intro h;simp at h
 | cons x xs ih =>
   intro h
   by_cases hx:p x=true
   ·have e:(x::xs).takeWhile p=x::xs.takeWhile p:=by rw [List.takeWhile_cons,if_pos hx]
    have h':(xs.takeWhile p).length<xs.length:=by rw [e] at h;simpa using h
    have:=ih h'
    simp only [e,List.length_cons,List.getElem_cons_succ];exact this
   ·have e:(x::xs).takeWhile p=[]:=by rw [List.takeWhile_cons,if_neg hx]
    simp only [e,List.length_nil,List.getElem_cons_zero];simpa using hx
def dig (c:UInt8):Bool:=48<=c && c<=57
def jH (m:Bs):Bs:=(m.take 4).takeWhile dig
def up (ds:Bs):Nat:=ds.foldl (fun n c=>10*n+(c.toNat-48)) 0
def j9 (m:Bs):Option (Nat×Nat) :=
 if jH m=[]\/(1<(jH m).length/\m.head? = some 48) then none else some (up (jH m),(jH m).length)
theorem cE (m:Bs):(jH m).length<=4/\(jH m).length<=m.length:=by
 have h1:(jH m).length<=(m.take 4).length:=(List.takeWhile_sublist _).length_le
 simp at h1;omega
theorem digsOf_prefix (m:Bs):jH m <+: m:=(List.takeWhile_prefix _).trans (List.take_prefix _ _)
theorem gS (m:Bs):∀ c∈jH m,dig c=true:=by
 exact tw_all dig _
theorem digsOf_at {m:Bs} {j:Nat} (h:j<(jH m).length):∃ hm:j<m.length,m[j]=(jH m)[j]/\dig m[j]=true:=by
 have hp:=digsOf_prefix m
 have hl:=hp.length_le
 refine ⟨by omega,(hp.getElem h).symm,?_⟩
 rw [<- hp.getElem h]
 exact gS m _ (List.getElem_mem h)
theorem digsOf_end {m:Bs}:(jH m).length=4\/m.length<=(jH m).length\/∃ h:(jH m).length<m.length,dig m[(jH m).length]=false:=by
 by_cases h4:(jH m).length=4
 ·exact .inl h4
 by_cases hl:m.length<=(jH m).length
 ·exact .inr (.inl hl)
 have mH:=cE m
 refine .inr (.inr ⟨by omega,?_⟩)
 have fG:(jH m).length<(m.take 4).length:=by simp;omega
 have h2:dig ((m.take 4)[(jH m).length])=false:=tw_end dig (m.take 4) fG
 rw [List.getElem_take] at h2;exact h2
theorem dS (ds:Bs) (c:UInt8):up (ds++[c])=10*up ds+(c.toNat-48):=by
 unfold up;rw [List.foldl_append];rfl
theorem valOf_take {ds:Bs} {j:Nat} (h:j<ds.length):up (ds.take (j+1))=10*up (ds.take j)+(ds[j].toNat-48):=by
 rw [List.take_add_one,List.getElem?_eq_getElem h];exact dS _ _
theorem valOf_lt (ds:Bs) (hd:∀ c∈ds,dig c=true):up ds<10 ^ ds.length:=by
 have key:∀ (ds:Bs) (a:Nat),(∀ c∈ds,dig c=true)->ds.foldl (fun n c=>10*n+(c.toNat-48)) a<(a+1)*10 ^ ds.length:=by
  intro ds
  induction ds with
  | nil=>intro a _;simp
  | cons c cs ih =>
    intro a h
    have hc:=h c (by simp)
    simp [dig,UInt8.le_iff_toNat_le] at hc
    have:=ih (10*a+(c.toNat-48)) (fun x hx=>h x (by simp [hx]))
    simp only [List.foldl_cons,List.length_cons,Nat.pow_succ]
    refine fK this ?_
    rw [show (a+1)*(10 ^ cs.length*10)=(10*(a+1))*10 ^ cs.length from by rw [Nat.mul_comm (10 ^ cs.length) 10,<- Nat.mul_assoc,Nat.mul_comm (a+1) 10]]
    exact Nat.mul_le_mul_right _ (by omega)
 simpa [up] using key ds 0 hd
abbrev RdS:=List Ty->Bs->Option (Bd×Bs)
def qu (rd:RdS) (h:List Ty) (l:Bs):Option (Bd×Bs):=do
 let l1<-cut [32] l
 rd h l1
def zx (rd:RdS):List (List Ty)->Bs->Option (List Bd×Bs)
 | [],l=>some ([],l)
 | h::hs,l=>do
   let (b,l1)<-qu rd h l
   let (bs,l2)<-zx rd hs l1
   some (b::bs,l2)
def jK (hand:List Ty) (t:Ty):List (List Ty):=jg hand t.args++[hand,hand]
def pW (v n:Nat) (ps:List Bd):Option Bd:=match ps.drop n with
 | [y,no]=>some (.ask v (ps.take n) y no)
 | _=>none
def rdN:Nat->RdS
 | 0,_,_=>none
 | e+1,hand,l=>match l with
   | []=>none
   | c::r=>if c=116\/c=102\/c=117 then some (.leaf c,r) else if c≠40 then none else
     match j9 r with
     | none=>none
     | some (v,k)=>match hand[v]? with
       | none=>none
       | some t=>do
         let (ps,l1)<-zx (rdN e) (jK hand t) (r.drop k)
         let l2<-cut [41] l1
         let b<-pW v t.args.length ps
         some (b,l2)
theorem dw (rd:RdS) (hs:List (List Ty)) (h:List Ty):∀ (l:Bs),zx rd (hs++[h]) l=(do
 let (bs,l1)<-zx rd hs l
 let (b,l2)<-qu rd h l1
 some (bs++[b],l2)):=by
 induction hs with
 | nil =>
   intro l
   simp only [List.nil_append,zx,Option.bind_eq_bind,Option.bind_some]
   done
 | cons h' hs ih =>
   intro l
   simp only [List.cons_append,zx,Option.bind_eq_bind]
   cases hp:qu rd h' l with
   | none=>simp
   | some x =>
     obtain ⟨b,l1⟩:=x
     simp only [Option.bind_some,ih,Option.bind_eq_bind]
     cases hq:zx rd hs l1 with
     | none=>simp
     | some y =>
       obtain ⟨bs,l2⟩:=y
       simp only [Option.bind_some]
       cases hr:qu rd h l2 with
       | none=>simp
       | some z=>simp
theorem wM (rd:RdS) (hs gs:List (List Ty)):∀ (l:Bs),zx rd hs l=none->zx rd (hs++gs) l=none:=by
 induction hs with
 | nil=>intro l h;simp [zx] at h
 | cons h' hs ih =>
   intro l h
   simp only [List.cons_append,zx,Option.bind_eq_bind] at *
   cases hp:qu rd h' l with
   | none=>simp
   | some x =>
     obtain ⟨b,l1⟩:=x
     rw [hp] at h
     simp only [Option.bind_some] at *
     cases hq:zx rd hs l1 with
     | none=>rw [ih _ hq];simp
     | some y=>rw [hq] at h;simp at h
theorem ve {rd:RdS} {hs:List (List Ty)} {l:Bs} (k:Nat) (h:zx rd (hs.take k) l=none):zx rd hs l=none:=by
 have:=wM rd (hs.take k) (hs.drop k) l h
 rwa [List.take_append_drop] at this
theorem y7 {rd:RdS} {hs:List (List Ty)} {l:Bs} {k:Nat} {h:List Ty} {ps:List Bd} {lk:Bs} (hk:hs[k]? = some h) (hp:zx rd (hs.take k) l=some (ps,lk)) :
 zx rd (hs.take (k+1)) l=(qu rd h lk).map fun x=>(ps++[x.1],x.2):=by
 rw [List.take_add_one,hk]
 show zx rd (hs.take k++[h]) l=_
 rw [dw,hp]
 simp only [Option.bind_eq_bind,Option.bind_some]
 cases qu rd h lk with
 | none=>rfl
 | some x=>rfl
theorem be {hand:List Ty} {t a:Ty} {k:Nat} (h:t.args[k]? = some a):(jK hand t)[k]? = some (hand++a.args):=by
 have hl:k<t.args.length:=(List.getElem?_eq_some_iff.1 h).1
 unfold jK
 rw [List.getElem?_append_left (by simpa [jg] using hl)]
 simp [jg,h]
theorem bf {hand:List Ty} {t:Ty} {k:Nat} (h1:t.args.length<=k) (h2:k<t.args.length+2):(jK hand t)[k]? = some hand:=by
 unfold jK
 rw [List.getElem?_append_right (by simpa [jg] using h1)]
 simp only [jg,List.length_map]
 rcases (by omega:k-t.args.length=0\/k-t.args.length=1) with h | h <;> simp [h]
theorem yI (hand:List Ty) (t:Ty):(jK hand t).length=t.args.length+2:=by simp [jK,jg]
theorem dX {rd:RdS} (tm:∀ {h l b r},rd h l=some (b,r)->r <:+ l) {h:List Ty} {l r:Bs} {b:Bd} (hp:qu rd h l=some (b,r)):r <:+ l:=by
 unfold qu at hp
 simp only [Option.bind_eq_bind,Option.bind_eq_some_iff] at hp
 obtain ⟨l1,h1,h2⟩:=hp
 refine (tm h2).trans ?_
 unfold cut at h1;split at h1
 ·simp at h1;subst h1;first | exact List.tail_suffix _ | exact List.drop_suffix _ _
 ·simp at h1
theorem cJ {rd:RdS} (tm:∀ {h l b r},rd h l=some (b,r)->r <:+ l) (hs:List (List Ty)):∀ {l r:Bs} {ps:List Bd},zx rd hs l=some (ps,r)->r <:+ l:=by
 induction hs with
 | nil=>intro l r ps h;simp [zx] at h;obtain ⟨rfl,rfl⟩:=h;exact List.suffix_refl _
 | cons h' hs ih =>
   intro l r ps h
   simp only [zx,Option.bind_eq_bind,Option.bind_eq_some_iff,Prod.exists] at h
   obtain ⟨b,l1,h1,bs,l2,h2,h3⟩:=h
   simp at h3;obtain ⟨rfl,rfl⟩:=h3
   exact (ih h2).trans (dX tm h1)
theorem x6 (e:Nat):∀ {h:List Ty} {l:Bs} {b:Bd} {r:Bs},rdN e h l=some (b,r)->r <:+ l:=by
 induction e with
 | zero=>intro h l b r hq;simp [rdN] at hq
 | succ e ih =>
   intro h l b r hq
   cases l with
   | nil=>simp [rdN] at hq
   | cons c m =>
     simp only [rdN] at hq
     split at hq
     ·simp at hq;obtain ⟨_,rfl⟩:=hq;exact List.suffix_cons _ _
     ·split at hq
      ·simp at hq
      ·split at hq
       ·simp at hq
       ·split at hq
        ·simp at hq
        ·simp only [Option.bind_eq_bind,Option.bind_eq_some_iff,Prod.exists] at hq
         obtain ⟨ps,l1,h1,l2,h2,b',h3,h4⟩:=hq
         simp at h4;obtain ⟨_,rfl⟩:=h4
         have k1:=cJ ih _ h1
         have k2:l2 <:+ l1:=by
          unfold cut at h2;split at h2
          ·simp at h2;subst h2;first | exact List.tail_suffix _ | exact List.drop_suffix _ _
          ·simp at h2
         exact ((k2.trans k1).trans (List.drop_suffix _ _)).trans (List.suffix_cons _ _)
theorem dU {c:UInt8} {l r:Bs} (h:cut [c] l=some r):l=c::r:=by
 unfold cut at h
 split at h
 ·rename_i hp
  cases l with
  | nil=>simp [List.isPrefixOf] at hp
  | cons x xs =>
    simp [List.isPrefixOf] at hp h
    rw [hp,h]
 ·simp at h
theorem askOf_size {v n:Nat} {ps:List Bd} {b:Bd} (h:pW v n ps=some b):zW b=1+zR ps:=by
 unfold pW at h
 split at h
 ·rename_i y no hd
  simp at h;subst h
  have h1:zR ps=zR (ps.take n)+zR (ps.drop n):=by rw [<- jy,List.take_append_drop]
  rw [hd] at h1
  simp [zW,zR] at h1 ⊢;omega
 ·simp at h
theorem specPart_size {rd:RdS} (tm:∀ {h l b r},rd h l=some (b,r)->zW b+r.length<=l.length) {h:List Ty} {l r:Bs} {b:Bd} (hp:qu rd h l=some (b,r)):zW b+r.length<=l.length:=by
 unfold qu at hp
 simp only [Option.bind_eq_bind,Option.bind_eq_some_iff] at hp
 obtain ⟨l1,h1,h2⟩:=hp
 have:=tm h2
 have:=dU h1
 subst this;simp;omega
theorem dp {rd:RdS} (tm:∀ {h l b r},rd h l=some (b,r)->zW b+r.length<=l.length) (hs:List (List Ty)):∀ {l r:Bs} {ps:List Bd},zx rd hs l=some (ps,r)->zR ps+r.length<=l.length:=by
 induction hs with
 | nil=>intro l r ps h;simp [zx] at h;obtain ⟨rfl,rfl⟩:=h;simp [zR]
 | cons h' hs ih =>
   intro l r ps h
   simp only [zx,Option.bind_eq_bind,Option.bind_eq_some_iff,Prod.exists] at h
   obtain ⟨b,l1,h1,bs,l2,h2,h3⟩:=h
   simp at h3;obtain ⟨rfl,rfl⟩:=h3
   have:=ih h2;have:=specPart_size tm h1
   simp [zR];omega
theorem rdN_size (e:Nat):∀ {h:List Ty} {l:Bs} {b:Bd} {r:Bs},rdN e h l=some (b,r)->zW b+r.length<=l.length:=by
 induction e with
 | zero=>intro h l b r hq;simp [rdN] at hq
 | succ e ih =>
   intro h l b r hq
   cases l with
   | nil=>simp [rdN] at hq
   | cons c m =>
     simp only [rdN] at hq
     split at hq
     ·simp at hq;obtain ⟨rfl,rfl⟩:=hq;simp [zW];omega
     ·split at hq
      ·simp at hq
      ·split at hq
       ·simp at hq
       ·split at hq
        ·simp at hq
        ·simp only [Option.bind_eq_bind,Option.bind_eq_some_iff,Prod.exists] at hq
         obtain ⟨ps,l1,h1,l2,h2,b',h3,h4⟩:=hq
         simp at h4;obtain ⟨rfl,rfl⟩:=h4
         have k1:=dp ih _ h1
         have k2:=dU h2
         have k3:=askOf_size h3
         subst k2
         simp at k1 ⊢;omega
end Go.Proofs.YtjggkhmojjaomaaGreatDoor

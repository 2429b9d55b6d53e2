/- Walks. -/
import Derived.WalkKit
import Derived.Lib.Strings
import Derived.Lib.Hide
import Derived.WalkSpells
import Derived.WalkLawsBesides
import Derived.Test.YtpgiohmcggllgaaGreatDoorRows
import Derived.Test.YtpgiohmcggllgaaGreatDoorShelf
import Derived.Lib.AtoiAll
import Derived.Lib.ItoaNum
import Derived.Laws.RangeAny
import Derived.Laws.Runes
import Derived.Lib.DecodeN
import Derived.Lib.QuoteLoop
import Derived.Deep.RegionHeld3
import Derived.WalkMore
import Derived.Deep.QuietTactic
import Derived.BigQuiet
import Derived.Lib.RuneCountTail
set_option linter.unusedVariables false
set_option linter.unusedSimpArgs false
set_option maxHeartbeats 2000000
set_option maxRecDepth 100000
open Array renaming ext'->Sb,getElem?_eq_getElem->Oo,getElem_mem_toList->Qd,getElem_modify_self->Qc,size_append->Sc
open Go.Builtin renaming append_->Qj,firstCells->Us,lenOf->Ur,nextslicecap->Ut,zeroCells->PJ
open Go.Exit renaming ret->Q4
open Go.IntKind renaming i64->Oi
open Go.Lib renaming NoAny->Uf,atoiAll->Pz,decodeN->TU,decode_at->SK,hasPrefix->RM,indexByte->QV,itoa->Pp,trimPrefix->Sz
open Go.Proofs.Tryz renaming f143->QO,func143->PQ,func197->SJ,ntmps143->PH,ntmps197->SA,prog->KD,results143->PI,strings_IndexRune_ascii->Rs,underlying110->P9,utf8_ValidRune->Pt
open Go.Result renaming andThen_ok->QU
open Go.Sem renaming run->Ue,run_bind->Rb,run_pure->RZ
open Go.Utf8 renaming decode->OZ,valid->TV
open Go.Value renaming ownBlock->N7,slice->Nq
open Go.World renaming cell?->GD,frozen?->N4,iterPos->RE,ownsRow_nil->OL
open List renaming append_assoc->OF,cons_append->Oe,drop_suffix->PY,eq_nil_of_length_eq_zero->Ox,getElem?_drop->Pd,getElem?_eq_some_iff->N6,getElem?_take->Pc,isPrefixOf->Pr,isPrefixOf_iff_prefix->OT,length_append->NZ,length_cons->N5,map_cons->Ol,map_nil->OU,map_toArray->Rh,mem_cons->Om,nil_append->OB,size_toArray->Qk,suffix_cons->Sk,tail_suffix->Sj,takeWhile_cons->QP,take_add_one->OG,take_append_drop->OH,take_left->Sq
open List.IsPrefix renaming length_le->Py
open Nat renaming add_mul->Qy,mul_comm->To,mul_le_mul_right->R9,mul_one->TS,zero_add->PD,zero_le->Og
open Option renaming bind_eq_bind->NX,bind_eq_some_iff->No,bind_some->Mm
open Option.some renaming inj->Ob
namespace Go.Proofs.YtpgiohmcggllgaaGreatDoor
open Go.RowKit
theorem yc1 {w:World} {b:Nat} {x0:Value} {T:TypeId} (h:w.heap[b]? = some (.cells #[x0] T (0,0))):w.cell? ⟨b,0,none⟩=some x0/\w.frozen? ⟨b,0,none⟩=false:=⟨by simp [GD,h],by simp [N4,h]⟩
theorem yc4 {w:World} {b:Nat} {x0 x1 x2 x3:Value} {T:TypeId} (h:w.heap[b]? = some (.cells #[x0,x1,x2,x3] T (0,0))):w.cell? ⟨b,0,none⟩=some x0/\w.cell? ⟨b,1,none⟩=some x1/\w.cell? ⟨b,2,none⟩=some x2/\w.cell? ⟨b,3,none⟩=some x3/\w.frozen? ⟨b,0,none⟩=false/\w.frozen? ⟨b,1,none⟩=false/\w.frozen? ⟨b,2,none⟩=false/\w.frozen? ⟨b,3,none⟩=false:=⟨by simp [GD,h],by simp [GD,h],by simp [GD,h],by simp [GD,h],by simp [N4,h],by simp [N4,h],by simp [N4,h],by simp [N4,h]⟩
theorem ya4 {B b:Nat} {v w:World} {x0 x1 x2 x3:Value} (h:Below B v w) (k:B<=b):Below B v ((((w.setCell ⟨b,0,none⟩ x0).setCell ⟨b,1,none⟩ x1).setCell ⟨b,2,none⟩ x2).setCell ⟨b,3,none⟩ x3):=(((h.setCell (p:=⟨b,0,none⟩) k _).setCell (p:=⟨b,1,none⟩) k _).setCell (p:=⟨b,2,none⟩) k _).setCell (p:=⟨b,3,none⟩) k _
theorem zzT {w a b:World} (h:Below w.heap.size w a) (k:Below a.heap.size a b):Below w.heap.size w b:=h.trans (k.mono h.size)
theorem zzN {α:Sort _} (a:α):∃ x,a = x:=⟨a,rfl⟩
theorem zzM {α:Sort _} (a:α):∃ x,x = a:=⟨a,rfl⟩
theorem mj {p:Prop} (h:p):Hid p:=Lib.hid h
theorem mu {a b:Prop} (x:a) (y:b):a/\b:=⟨x,y⟩
theorem my (n:Nat):n<=n:=Nat.le_refl n
theorem mx (w:World) (a:Addr) {u:Value} (h:w.cell? a=some u):a.block<w.heap.size:=World.block_lt_of_cell? w a h
theorem mw (B:Nat) (w:World):Below B w w:=Below.refl B w
theorem mp (w:World) (a:Addr) (u:Value) (k:Nat) (h:k≠a.block):(w.setCell a u).heap[k]? = w.heap[k]?:=Below.heap_setCell w a u k h
theorem mg {n m k:Nat} (a:n<m) (b:m<=k):n<k:=Nat.lt_of_lt_of_le a b
theorem mh {n m k:Nat} (a:n<=m) (b:m<=k):n<=k:=Nat.le_trans a b
inductive DV where
 | val (v:Value)
 | ptr (e:TypeId) (cs:List DV)
 | sl (e:TypeId) (sz n:Nat) (cs:List DV)
 | agg (cs:List DV)
 | any
mutual
def Rep (F:Nat->Prop) (w:World):DV->Value->Prop
 | .val u,v=>v=u
 | .ptr e cs,v=>∃ b c,v=.pointer (some ⟨b,0,none⟩)/\F b/\w.heap[b]? = some (.cells c e (0,0))/\zW F w cs c.toList
 | .sl e sz n cs,v=>cs.length=n*sz/\∃ a cap,v=.slice a n cap/\n<=cap/\(a=none->cap=0) /\
  (n=0\/∃ b o c fr,a=some ⟨b,o,none⟩/\F b/\w.heap[b]? = some (.cells c e fr)/\zW F w cs ((c.toList.drop o).take (n*sz)))
 | .agg cs,v=>∃ vs,v=.agg vs/\zW F w cs vs.toList
 | .any,v=>∃ i:Int,v=.int .i64 i
def zW (F:Nat->Prop) (w:World):List DV->List Value->Prop
 | [],vs=>vs=[]
 | d::ds,vs=>∃ v vs',vs=v::vs'/\Rep F w d v/\zW F w ds vs'
end
theorem zH {F:Nat->Prop} {w:World} {u v:Value}:Rep F w (.val u) v↔v=u:=by simp [Rep]
theorem jv {F:Nat->Prop} {w:World} {e:TypeId} {cs:List DV} {v:Value}:Rep F w (.ptr e cs) v↔∃ b c,v=.pointer (some ⟨b,0,none⟩)/\F b/\w.heap[b]? = some (.cells c e (0,0))/\zW F w cs c.toList:=by
 rw [Rep]
theorem zg {F:Nat->Prop} {w:World} {e:TypeId} {sz n:Nat} {cs:List DV} {v:Value}:Rep F w (.sl e sz n cs) v↔cs.length=n*sz/\∃ a cap,v=.slice a n cap/\n<=cap/\(a=none->cap=0) /\
 (n=0\/∃ b o c fr,a=some ⟨b,o,none⟩/\F b/\w.heap[b]? = some (.cells c e fr)/\zW F w cs ((c.toList.drop o).take (n*sz))):=by
 rw [Rep]
theorem Rep_agg {F:Nat->Prop} {w:World} {cs:List DV} {v:Value}:Rep F w (.agg cs) v↔∃ vs,v=.agg vs/\zW F w cs vs.toList:=by
 rw [Rep]
theorem yg {F:Nat->Prop} {w:World} {v:Value}:Rep F w .any v↔∃ i:Int,v=.int .i64 i:=by rw [Rep]
theorem zC {F:Nat->Prop} {w:World} {vs:List Value}:zW F w [] vs↔vs=[]:=by simp [zW]
theorem zQ {F:Nat->Prop} {w:World} {d:DV} {ds:List DV} {vs:List Value}:zW F w (d::ds) vs↔∃ v vs',vs=v::vs'/\Rep F w d v/\zW F w ds vs':=by
 rw [zW]
theorem zW.length {F:Nat->Prop} {w:World} {ds:List DV}:∀ {vs:List Value},zW F w ds vs->ds.length=vs.length:=by
 induction ds with
 | nil=>intro vs h;rw [zC] at h;simp [h]
 | cons d ds ih=>intro vs h;rw [zQ] at h;obtain ⟨v,vs',rfl,_,h2⟩:=h;simp [ih h2]
theorem zW.at {F:Nat->Prop} {w:World} {ds:List DV}:∀ {vs:List Value},zW F w ds vs->∀ {i:Nat} {d:DV},ds[i]? = some d->∃ v,vs[i]? = some v/\Rep F w d v:=by
 induction ds with
 | nil=>intro vs h i d hd;simp at hd
 | cons d ds ih =>
   intro vs h i d' hd;rw [zQ] at h;obtain ⟨v,vs',rfl,h1,h2⟩:=h;cases i with
   | zero=>simp at hd;subst hd;exact ⟨v,by simp,h1⟩
   | succ i=>simp at hd;simpa using ih h2 hd
theorem zW.append {F:Nat->Prop} {w:World} {ds es:List DV}:∀ {vs us:List Value},zW F w ds vs->zW F w es us->zW F w (ds++es) (vs++us):=by
 induction ds with
 | nil=>intro vs us h k;rw [zC] at h;subst h;simpa using k
 | cons d ds ih =>
   intro vs us h k;rw [zQ] at h;obtain ⟨v,vs',rfl,h1,h2⟩:=h;simp only [Oe];rw [zQ];exact ⟨v,vs'++us,rfl,h1,ih h2 k⟩
theorem zW.split {F:Nat->Prop} {w:World} {ds es:List DV}:∀ {vs:List Value},zW F w (ds++es) vs->zW F w ds (vs.take ds.length)/\zW F w es (vs.drop ds.length):=by
 induction ds with
 | nil=>intro vs h;simpa [zC] using h
 | cons d ds ih =>
   intro vs h;simp only [Oe] at h;rw [zQ] at h;obtain ⟨v,vs',rfl,h1,h2⟩:=h;have:=ih h2;simp only [N5,List.take_succ_cons,List.drop_succ_cons];exact ⟨zQ.2 ⟨v,_,rfl,h1,this.1⟩,this.2⟩
theorem zW.one {F:Nat->Prop} {w:World} {d:DV} {v:Value} (h:Rep F w d v):zW F w [d] [v] :=
 zQ.2 ⟨v,[],rfl,h,zC.2 rfl⟩
theorem Rep.keep {F F':Nat->Prop} {w w':World} (hk:∀ b o,F b->w.heap[b]? = some o->F' b/\w'.heap[b]? = some o) :
 (∀ d v,Rep F w d v->Rep F' w' d v)/\(∀ ds vs,zW F w ds vs->zW F' w' ds vs):=by
 have key:∀ d:DV,(∀ v,Rep F w d v->Rep F' w' d v):=by
  intro d;refine DV.rec (motive_1:=fun d=>∀ v,Rep F w d v->Rep F' w' d v) (motive_2:=fun ds=>∀ vs,zW F w ds vs->zW F' w' ds vs) ?_ ?_ ?_ ?_ ?_ ?_ ?_ d
  ·intro u v h;rw [zH] at *;exact h
  ·intro e cs ih v h;rw [jv] at *;obtain ⟨b,c,hv,hb,hc,hr⟩:=h;obtain ⟨k1,k2⟩:=hk b _ hb hc;exact ⟨b,c,hv,k1,k2,ih _ hr⟩
  ·intro e sz n cs ih v h;rw [zg] at *;obtain ⟨hl,a,cap,hv,hn,hz,h⟩:=h;refine ⟨hl,a,cap,hv,hn,hz,?_⟩;rcases h with h | ⟨b,o,c,fr,ha,hb,hc,hr⟩
   ·exact .inl h
   ·obtain ⟨k1,k2⟩:=hk b _ hb hc;exact .inr ⟨b,o,c,fr,ha,k1,k2,ih _ hr⟩
  ·intro cs ih v h;rw [Rep_agg] at *;obtain ⟨vs,hv,hr⟩:=h;exact ⟨vs,hv,ih _ hr⟩
  ·intro v h;rw [yg] at *;exact h
  ·intro vs h;rw [zC] at *;exact h
  ·intro d ds ihd ihs vs h;rw [zQ] at *;obtain ⟨v,vs',hv,h1,h2⟩:=h;exact ⟨v,vs',hv,ihd _ h1,ihs _ h2⟩
 refine ⟨key,?_⟩;intro ds
 induction ds with
 | nil=>intro vs h;rw [zC] at *;exact h
 | cons d ds ih =>
   intro vs h;rw [zQ] at *;obtain ⟨v,vs',hv,h1,h2⟩:=h;exact ⟨v,vs',hv,key _ _ h1,ih _ h2⟩
theorem zZ {w:World} {b:Nat} {o:Obj} (h:w.heap[b]? = some o):b<w.heap.size:=by
 rcases Nat.lt_or_ge b w.heap.size with h' | h'
 ·exact h'
 ·simp [Array.getElem?_eq_none h'] at h
structure But (m:Nat->Prop) (w w':World):Prop where
 os:w'.os=w.os
 tape:w'.tape=w.tape
 output:w'.output=w.output
 size:w.heap.size<=w'.heap.size
 block:∀ k,k<w.heap.size->¬ m k->w'.heap[k]? = w.heap[k]?
theorem But.refl (m:Nat->Prop) (w:World):But m w w:=⟨rfl,rfl,rfl,my _,fun _ _ _=>rfl⟩
theorem But.trans {m:Nat->Prop} {a b c:World} (h:But m a b) (k:But m b c):But m a c :=
 ⟨k.os.trans h.os,k.tape.trans h.tape,k.output.trans h.output,mh h.size k.size,fun i hi hn=>(k.block i (mg hi h.size) hn).trans (h.block i hi hn)⟩
theorem But.trans' {m m':Nat->Prop} {a b c:World} (h:But m a b) (k:But m' b c) (hm:∀ i,i<a.heap.size->m' i->m i):But m a c :=
 ⟨k.os.trans h.os,k.tape.trans h.tape,k.output.trans h.output,mh h.size k.size,fun i hi hn=>(k.block i (mg hi h.size) (fun e=>hn (hm i hi e))).trans (h.block i hi hn)⟩
theorem But.weak {m m':Nat->Prop} {a b:World} (h:But m a b) (k:∀ i,i<a.heap.size->m i->m' i):But m' a b :=
 ⟨h.os,h.tape,h.output,h.size,fun i hi hn=>h.block i hi (fun hm=>hn (k i hi hm))⟩
theorem But.ofBelow {m:Nat->Prop} {a b:World} (h:Below a.heap.size a b):But m a b:=⟨h.os,h.tape,h.output,h.size,fun i hi _=>h.block i hi⟩
theorem But.toBelow {m:Nat->Prop} {B:Nat} {a b:World} (h:But m a b) (hB:B<=a.heap.size) (hm:∀ i,i<B->¬ m i):Below B a b :=
 ⟨h.os,h.tape,h.output,h.size,fun i hi=>h.block i (by omega) (hm i hi)⟩
theorem But.drew {m:Nat->Prop} {a b:World} (h:But m a b):But m a b.drew:=⟨h.os,h.tape,h.output,h.size,h.block⟩
theorem But.alloc {m:Nat->Prop} {a b:World} (h:But m a b) (o:Obj):But m a (b.alloc o) :=
 h.trans ⟨rfl,rfl,rfl,by simp,fun k hk _=>Below.heap_alloc _ _ _ (by omega)⟩
theorem But.setCell {m:Nat->Prop} {a b:World} (h:But m a b) {p:Addr} (hp:m p.block\/a.heap.size<=p.block) (u:Value):But m a (b.setCell p u) :=
 ⟨h.os,h.tape,h.output,by have:=h.size;simpa [World.setCell] using this,fun k hk hn=>by
  rw [mp _ _ _ _ (by rcases hp with hp | hp;· (intro e;subst e;exact hn hp)
                     ·omega)]
  exact h.block k hk hn⟩
theorem But.setS {sc:Nat} {a b:World} (h:But (fun x=>x=sc) a b) (o:Nat) (u:Value):But (fun x=>x=sc) a (b.setCell ⟨sc,o,none⟩ u) :=
 h.setCell (p:=⟨sc,o,none⟩) (.inl rfl) u
theorem But.cell {m:Nat->Prop} {w w':World} (h:But m w w') {p:Addr} (hp:p.block<w.heap.size) (hm:¬ m p.block):w'.cell? p=w.cell? p:=World.cell?_of_block (w:=w) (h.block p.block hp hm)
theorem Rep.but {F F':Nat->Prop} {m:Nat->Prop} {w w':World} (hb:But m w w') (hF:∀ b,F b->¬ m b/\F' b) {d:DV} {v:Value} (h:Rep F w d v):Rep F' w' d v :=
 (Rep.keep fun b o hf ho=>⟨(hF b hf).2,by rw [hb.block b (zZ ho) (hF b hf).1];exact ho⟩).1 d v h
theorem zW.but {F F':Nat->Prop} {m:Nat->Prop} {w w':World} (hb:But m w w') (hF:∀ b,F b->¬ m b/\F' b) {d:List DV} {v:List Value} (h:zW F w d v):zW F' w' d v :=
 (Rep.keep fun b o hf ho=>⟨(hF b hf).2,by rw [hb.block b (zZ ho) (hF b hf).1];exact ho⟩).2 d v h
theorem Rep.below {F F':Nat->Prop} {w w':World} (hb:Below w.heap.size w w') (hF:∀ b,F b->F' b) {d:DV} {v:Value} (h:Rep F w d v):Rep F' w' d v :=
 (Rep.keep fun b o hf ho=>⟨hF b hf,by rw [hb.block b (zZ ho)];exact ho⟩).1 d v h
theorem zW.below {F F':Nat->Prop} {w w':World} (hb:Below w.heap.size w w') (hF:∀ b,F b->F' b) {d:List DV} {v:List Value} (h:zW F w d v):zW F' w' d v :=
 (Rep.keep fun b o hf ho=>⟨hF b hf,by rw [hb.block b (zZ ho)];exact ho⟩).2 d v h
theorem Rep.drew {F:Nat->Prop} {w:World} {d:DV} {v:Value} (h:Rep F w d v):Rep F w.drew d v:=(Rep.keep (w:=w) (w':=w.drew) fun _ _ hf ho=>⟨hf,ho⟩).1 _ _ h
theorem zW.drew {F:Nat->Prop} {w:World} {d:List DV} {v:List Value} (h:zW F w d v):zW F w.drew d v:=(Rep.keep (w:=w) (w':=w.drew) fun _ _ hf ho=>⟨hf,ho⟩).2 _ _ h
def At1 (F:Nat->Prop) (w:World) (cs:List DV) (a:Option Addr) (k:Nat):Prop :=
 ∃ b o u d,a=some ⟨b,o,none⟩/\F b/\b<w.heap.size/\cs[k]? = some d/\w.cell? ⟨b,o+k,none⟩=some u/\Rep F w d u
def Ats (F:Nat->Prop) (w:World) (n:Nat) (cs:List DV) (a:Option Addr):Prop:=∀ k,k<n->At1 F w cs a k
theorem zP {F:Nat->Prop} {w:World} {e:TypeId} {n:Nat} {cs:List DV} {v:Value} (h:Rep F w (.sl e 1 n cs) v) :
 ∃ a cap,v=.slice a n cap/\n<=cap/\cs.length=n/\Ats F w n cs a:=by
 rw [zg] at h;obtain ⟨hl,a,cap,hv,hn,hz,h⟩:=h;rw [TS] at hl;refine ⟨a,cap,hv,hn,hl,fun k hk=>?_⟩;rcases h with h | ⟨b,o,c,fr,ha,hb,hc,hr⟩
 ·omega
 ·obtain ⟨d,hd⟩:∃ d,cs[k]? = some d:=⟨cs[k],by simp [hl,hk]⟩;obtain ⟨u,hu,tQ⟩:=hr.at hd;rw [TS,Pc,if_pos hk,Pd] at hu;exact ⟨b,o,u,d,ha,hb,zZ hc,hd,by simp [GD,hc];simpa using hu,tQ⟩
theorem un {a b:Int} (h:a=b):Ending.returned (.int .i64 a)=.returned (.int .i64 b):=by rw [h]
theorem g_ (l:List UInt8) (a b:Nat):(⟨l.toArray⟩:ByteArray).extract a b=⟨((l.take b).drop a).toArray⟩:=by
 have h:=Lib.extract_data (⟨l.toArray⟩:ByteArray) a b;have h2:((⟨l.toArray⟩:ByteArray).extract a b).data=((l.take b).drop a).toArray:=by
  apply Sb;rw [h];simp [List.drop_take]
 cases hx:(⟨l.toArray⟩:ByteArray).extract a b with
 | mk d=>rw [hx] at h2;simp at h2;rw [h2]
theorem ui (l:List UInt8):(⟨l.toArray⟩:ByteArray).size=l.length:=by show l.toArray.size=_;simp
theorem kr {l:List UInt8} {i:Nat} (h:i<l.length):i<(⟨l.toArray⟩:ByteArray).size:=by rw [ui];exact h
theorem xy {l:List UInt8} {i:Nat} (h:i<l.length) {c:UInt8} {n:Int} (hn:(c.toNat:Int)=n) (hc:l[i]=c):((((⟨l.toArray⟩:ByteArray)[i]'(kr h)).toNat:Int) == n)=true:=by
 rw [beq_iff_eq,<- hn,<- hc];rfl
theorem uW {l:List UInt8} {i:Nat} (h:i<l.length) {c:UInt8} {n:Int} (hn:(c.toNat:Int)=n) (hc:¬ l[i]=c):((((⟨l.toArray⟩:ByteArray)[i]'(kr h)).toNat:Int) == n)=false:=by
 rw [beq_eq_false_iff_ne,<- hn];intro e;apply hc;have:(((⟨l.toArray⟩:ByteArray)[i]'(kr h)).toNat)=c.toNat:=by exact_mod_cast e
 exact UInt8.toNat_inj.1 this
theorem vf {l:List UInt8} {i:Nat} (h:i<l.length) {c:UInt8} {n:Int} (hn:(c.toNat:Int)=n) (hc:l[i]=c):((((⟨l.toArray⟩:ByteArray)[i]'(kr h)).toNat:Int) != n)=false:=by
 rw [bne,xy h hn hc];rfl
theorem vH {l:List UInt8} {i:Nat} (h:i<l.length) {c:UInt8} {n:Int} (hn:(c.toNat:Int)=n) (hc:¬ l[i]=c):((((⟨l.toArray⟩:ByteArray)[i]'(kr h)).toNat:Int) != n)=true:=by
 rw [bne,uW h hn hc];rfl
theorem xQ {l:List UInt8} {i:Nat} (h:i<l.length):((((⟨l.toArray⟩:ByteArray)[i]'(kr h)).toNat:Int))=(l[i].toNat:Int):=rfl
theorem ext_list (l:List UInt8) (a b:Nat):((⟨l.toArray⟩:ByteArray).extract a b).toList=(l.take b).drop a:=by
 rw [g_,Lib.toList_data]
theorem vG {w:World} {a:Addr} {v:Value} (h:w.cell? a=some v) (u:Value):(w.setCell a u).cell? a=some u:=by
 obtain ⟨b,o,sp⟩:=a;unfold GD at *;split at h
 ·rename_i c e fr hh;have m_:=zZ hh;have h':w.heap[b]=.cells c e fr:=by simpa [Oo m_] using hh
  have:(w.setCell ⟨b,o,sp⟩ u).heap[b]? = some (.cells (if sp.isSome then c else c.setIfInBounds o u) e fr):=by
   show (w.heap.modify b _)[b]? = _;rw [Oo (by simpa using m_),Qc,h']
  simp only [this];cases sp with
  | none =>
    simp at h ⊢;have hl:=(Array.getElem?_eq_some_iff.1 h).1;simp [hl]
  | some x=>simp at h
 ·simp at h
def Lim (n:Nat):Prop:=n<=16777216
theorem Lim.le {n:Nat} (h:Lim n):n<=16777216:=h
theorem Lim.mono {n m:Nat} (h:Lim n) (k:m<=n):Lim m:=mh k h
def zq (size:Nat) (x:Value) (m:Nat) (news:List Value) (w:World):Prop :=
 news.length=m*size/\(∀ u∈news,u.oneCell'=true) /\
 ((∃ a c,x=.slice (some a) m c/\∀ (j:Nat) u,news[j]? = some u->w.cell? (a.add j)=some u)\/(x=.slice none 0 0/\m=0))
def Own (w:World) (e:TypeId) (size:Nat) (v:Value) (n:Nat) (xs:List Value):Prop:=w.ownsRow 0 e size v n xs
theorem pi {P:Program} {w:World} (t ty e:TypeId) (i:TypeInfo) (z:Value) (size bytes:Nat) (ht:P.underlying t=some (.slice e)) (hi:P.info? e=some i) (hz:i.zero=some z)
 (tI:i.size=size) (sT:i.bytes=bytes) (AC:z.cells.size=size) (hsz:0<size)
 (v:Value) (n:Nat) (xs:List Value) (nM:Own w e size v n xs)
 (x:Value) (m:Nat) (news:List Value) (hs:zq size x m news w) (A6:n+m<=maxLen) (sF:(n+m)*bytes<=140737488355328) :
 ∃ v' w',(Qj #[t,t] ty #[v,x]).run P w=.ok v' w'/\Own w' e size v' (n+m) (xs++news)/\w.grownBy w' v.ownBlock /\
   (v'.ownBlock=v.ownBlock\/v'.ownBlock=some w.heap.size):=by
 unfold Own at *;obtain ⟨hl,h1,⟨a,c,rfl,sD⟩ | ⟨rfl,rfl⟩⟩:=hs
 ·subst tI;subst sT;have Iy:n+m<=9223372036854775807:=by simp only [maxLen] at A6;omega
  have hlen:(xs++news).length=(n+m)*i.size:=by rw [NZ,nM.1,hl,Qy]
  have grown:∀ (old:Nat),old<n+m->∀ (row:Option Nat),
   (w.drew.alloc (.cells (xs.toArray++news.toArray++PJ z.cells (grownCap w (n+m) old e-(n+m))) e)).ownsRow 0 e i.size
    (.slice (some ⟨w.heap.size,0,none⟩) (n+m) (grownCap w (n+m) old e)) (n+m) (xs++news) /\
   w.grownBy (w.drew.alloc (.cells (xs.toArray++news.toArray++PJ z.cells (grownCap w (n+m) old e-(n+m))) e)) row:=by
   intro old ho row;have Bg:=grownCap_ge w (n+m) old e;have MD:grownCap w (n+m) old e<=maxLen:=grownCap_le_maxLen w (n+m) old e A6;refine ⟨⟨hlen,.inr ⟨w.heap.size,_,_,rfl,Og _,Go.heap_alloc_new w.drew _,Bg,MD,?_,?_⟩⟩,⟨rfl,rfl,rfl,by simp,fun k hk _=>Below.heap_alloc w.drew _ k hk⟩⟩
   ·simp only [Sc,Qk,size_zeroCells,AC,nM.1,hl,<- Qy]
    congr 1
    omega
   ·simp only [Array.toList_append,OF];rw [<- OF,<- hlen];exact Sq
  rcases nM.2 with ⟨rfl,rfl⟩ | ⟨g,cap,cur,rfl,At,hg,lh,MD,hcs,sQ⟩
  ·have hx:xs=[]:=Ox (by simpa using nM.1);subst hx;by_cases hm:m=0
   ·subst hm;have hn:news=[]:=Ox (by simpa using hl);subst hn;refine ⟨.slice none 0 0,w,?_,OL w 0 e i.size,⟨rfl,rfl,rfl,my _,fun _ _ _=>rfl⟩,.inl rfl⟩;simp [Qj,run_underlying ht,sizeOf,typeInfo,hi,Ur,Us,loadCells,loadCellsFrom]
   ·have hr:=run_append_nil (P:=P) w t ty e i z ht hi hz a m c news hl sD (by omega) (by omega) (by have hb:=sF;simp only [PD] at hb;omega);have F4:=grown 0 (by omega) (N7 (.slice none 0 0));simp only [PD,OB,Array.empty_append] at F4 ⊢;exact ⟨_,_,hr,F4.1,F4.2,.inr rfl⟩
  ·by_cases nz:n+m<=cap
   ·have tV:n*i.size+news.length<=cur.size:=by rw [hl,hcs,<- Qy];exact R9 _ nz
    have hr:=run_append_room (P:=P) w t ty e i ht hi g n cap cur hg a m c news hl sD h1 nz tV;refine ⟨_,_,hr,⟨hlen,.inr ⟨g,cap,_,rfl,At,setRow_heap w g cur _ e _ hg,nz,MD,?_,?_⟩⟩,⟨rfl,rfl,rfl,by simp,fun k _ hk=>setRow_other w g k _ (fun e=>hk (by simp [N7,e]))⟩,.inl rfl⟩
    ·simp only [Qk,NZ,List.length_take,List.length_drop,Array.length_toList];omega
    ·rw [sQ,<- hlen];exact Sq
   ·have holds:∀ (j:Nat) u,xs[j]? = some u->w.cell? ((⟨g,0,none⟩:Addr).add j)=some u:=World.ownsRow.cells nM (g:=g) rfl;have hr:=run_append_grow (P:=P) w t ty e i z ht hi hz ⟨g,0,none⟩ n cap xs nM.1 holds a m c news hl sD (by omega) (by omega) (growslice_fits (by omega) sF);have F4:=grown cap (by omega) (N7 (.slice (some ⟨g,0,none⟩) n cap));exact ⟨_,_,hr,F4.1,F4.2,.inr rfl⟩
 ·have hn:news=[]:=Ox (by simpa using hl);subst hn;refine ⟨v,w,run_append_owned_none (P:=P) (w:=w) 0 t ty e i size ht hi v n xs nM,by simpa using nM,⟨rfl,rfl,rfl,my _,fun _ _ _=>rfl⟩,.inl rfl⟩
theorem But.ofGrown {w w':World} {row:Option Nat} (h:w.grownBy w' row):But (fun b=>some b=row) w w' :=
 ⟨h.os,h.tape,h.output,h.size,fun k hk hn=>h.block k hk hn⟩
theorem Own.slice {w:World} {e:TypeId} {size n:Nat} {v:Value} {xs:List Value} (h:Own w e size v n xs):∃ a c,v=.slice a n c:=by
 rcases h.2 with ⟨rfl,rfl⟩ | ⟨g,cap,cur,rfl,_⟩
 all_goals
  exact ⟨_,_,rfl⟩
theorem zE {P:Program} {w:World} {ops:Array Oper} {rest:List Oper} {o:Oper} {a:Act} {Q:Exit->Act->World->Prop} (I1:o.guard=none) (s x:Operand) (t:TypeId)
 (ho:o.op=.call { callee:=.builtin .append,args:=#[s,x],argTypes:=#[t,t] })
 (e:TypeId) (z:Value) (size bytes:Nat) (ht:P.underlying t=some (.slice e)) (hi:(P.info? e).map (fun i=>(i.zero,i.size,i.bytes))=some (some z,size,bytes))
 (AC:z.cells.size=size) (hsz:0<size)
 (v:Value) (n:Nat) (xs:List Value) (hs:a.eval s=v) (nM:Own w e size v n xs)
 (y:Value) (m:Nat) (news:List Value) (hx:a.eval x=y) (rO:zq size y m news w)
 (A6:n+m<=maxLen) (sF:(n+m)*bytes<=140737488355328)
 (h:∀ a' c' w',Own w' e size (.slice a' (n+m) c') (n+m) (xs++news)->But (fun b=>v.ownBlock=some b) w w'->(∀ g,(Nq a' (n+m) c').ownBlock=some g->v.ownBlock=some g\/g=w.heap.size) ->
  wpList P ops Q rest (a.put o.dst (.slice a' (n+m) c')) w'):wpList P ops Q (o::rest) a w:=by
 refine wpList_plain I1 fun K hK=>?_;obtain ⟨i,hi,hz,tI,sT⟩:=info_parts hi;obtain ⟨v',w',hr,h2,h3,h4⟩:=pi (P:=P) (w:=w) t o.type e i z size bytes ht hi hz tI sT AC hsz v n xs nM y m news rO A6 sF;obtain ⟨a',c',rfl⟩:=h2.slice;unfold Oper.wp execOp;simp only [ho,resolve,invoke,builtin,Rb,RZ,QU,Rh,Ol,OU,hs,hx,hr];refine hK _ _ (h a' c' w' h2 ((But.ofGrown h3).weak fun i _ hi=>hi.symm) ?_);intro g hg;rcases h4 with h4 | h4
 ·exact .inl (by rw [<- h4];exact hg)
 ·rw [hg] at h4;exact .inr (Ob h4)
theorem zS {P:Program} {w:World} {ops:Array Oper} {o:Oper} {a:Act} {K:Act->World->Prop} {Q:Exit->Act->World->Prop} {E:Prop} (I1:o.guard=none) (s x:Operand) (t:TypeId)
 (ho:o.op=.call { callee:=.builtin .append,args:=#[s,x],argTypes:=#[t,t] })
 (e:TypeId) (z:Value) (size bytes:Nat) (ht:P.underlying t=some (.slice e)) (hi:(P.info? e).map (fun i=>(i.zero,i.size,i.bytes))=some (some z,size,bytes))
 (AC:z.cells.size=size) (hsz:0<size)
 (v:Value) (n:Nat) (xs:List Value) (hs:a.eval s=v) (nM:Own w e size v n xs)
 (y:Value) (m:Nat) (news:List Value) (hx:a.eval x=y) (rO:zq size y m news w)
 (A6:n+m<=maxLen) (sF:(n+m)*bytes<=140737488355328)
 (h:∀ a' c' w',Own w' e size (.slice a' (n+m) c') (n+m) (xs++news)->But (fun b=>v.ownBlock=some b) w w'->(∀ g,(Nq a' (n+m) c').ownBlock=some g->v.ownBlock=some g\/g=w.heap.size) ->
  K (a.put o.dst (.slice a' (n+m) c')) w'):if Region.wanted o (yielded ops a.tmps)=true then Oper.wp P o a w K Q else E:=by
 rw [if_pos (by simp [Region.wanted,I1])];obtain ⟨i,hi,hz,tI,sT⟩:=info_parts hi;obtain ⟨v',w',hr,h2,h3,h4⟩:=pi (P:=P) (w:=w) t o.type e i z size bytes ht hi hz tI sT AC hsz v n xs nM y m news rO A6 sF;obtain ⟨a',c',rfl⟩:=h2.slice;unfold Oper.wp execOp;simp only [ho,resolve,invoke,builtin,Rb,RZ,QU,Rh,Ol,OU,hs,hx,hr];refine h a' c' w' h2 ((But.ofGrown h3).weak fun i _ hi=>hi.symm) ?_;intro g hg;rcases h4 with h4 | h4
 ·exact .inl (by rw [<- h4];exact hg)
 ·rw [hg] at h4;exact .inr (Ob h4)
theorem zq.keep {w w':World} {size:Nat} {x:Value} {m:Nat} {news:List Value} (h:zq size x m news w) (hk:∀ a v,w.cell? a=some v->w'.cell? a=some v):zq size x m news w':=by
 obtain ⟨h1,h2,⟨a,c,rfl,h3⟩ | h3⟩:=h
 ·exact ⟨h1,h2,.inl ⟨a,c,rfl,fun j u hu=>hk _ _ (h3 j u hu)⟩⟩
 ·exact ⟨h1,h2,.inr h3⟩
theorem zV {w:World} {o:Obj} {a:Addr} {v:Value} (h:w.cell? a=some v):(w.alloc o).cell? a=some v:=by
 rw [World.cell?_alloc_lt w o a (mx w a h)];exact h
theorem Own.lit {w:World} {e:TypeId} {size:Nat} (cs:Array Value) (n:Nat) (hm:n<=maxLen) (hs:cs.size=n*size):Own (w.alloc (.cells cs e)) e size (.slice (some ⟨w.heap.size,0,none⟩) n n) n cs.toList :=
 World.ownsRow_lit w cs n (Og _) hm hs
theorem zq.lits {w:World} {e:TypeId} (cs:Array Value) (n:Nat) (hn:cs.size=n) (hc:∀ u∈cs.toList,u.oneCell'=true) (g:Nat) (hg:g=w.heap.size):zq 1 (.slice (some ⟨g,0,none⟩) n n) n cs.toList (w.alloc (.cells cs e)):=by
 subst hg;refine ⟨by simp [hn],hc,.inl ⟨_,_,rfl,fun j u hu=>?_⟩⟩;unfold Addr.add;split
 ·subst j;simp;simpa using hu
 ·simp;simpa using hu
theorem Own.litAt {w:World} {e:TypeId} {size:Nat} (cs:Array Value) (n g:Nat) (hg:g=w.heap.size) (hm:n<=maxLen) (hs:cs.size=n*size):Own (w.alloc (.cells cs e)) e size (.slice (some ⟨g,0,none⟩) n n) n cs.toList:=by
 subst hg;exact Own.lit cs n hm hs
theorem Own.keep {w w':World} {e:TypeId} {sz n:Nat} {xs:List Value} {v:Value} (h:Own w e sz v n xs) (hk:∀ g o,v.ownBlock=some g->w.heap[g]? = some o->w'.heap[g]? = some o):Own w' e sz v n xs:=by
 refine ⟨h.1,?_⟩;rcases h.2 with h | ⟨g,cap,cur,rfl,h0,hg,h⟩
 ·exact .inl h
 ·exact .inr ⟨g,cap,cur,rfl,h0,hk g _ rfl hg,h⟩
theorem zG (w:World) (o:Obj):(w.alloc o).heap[w.heap.size]? = some o:=heap_alloc_new w o
theorem zU {w:World} {o:Obj} {b:Nat} {x:Obj} (h:w.heap[b]? = some x):(w.alloc o).heap[b]? = some x:=by
 rw [Below.heap_alloc _ _ _ (zZ h)];exact h
theorem xA {w:World} {o:Obj} {b:Nat} (h:(w.alloc o).heap.size<=b):w.heap.size+1<=b:=by simpa using h
theorem zK (w:World) (o:Obj):(w.alloc o).heap.size=w.heap.size+1:=by simp
theorem vT {w W wx:World} {v v':Value} (hb:Below w.heap.size w W) (hf:∀ g,v.ownBlock=some g->w.heap.size<=g) (hx:But (fun b=>v.ownBlock=some b) W wx) (hg:∀ g,v'.ownBlock=some g->v.ownBlock=some g\/g=W.heap.size) :
 Below w.heap.size w wx/\(∀ g,v'.ownBlock=some g->w.heap.size<=g):=by
 refine ⟨hb.trans (hx.toBelow hb.size fun i hi e=>by have:=hf i e;omega),fun g h=>?_⟩;rcases hg g h with h | h
 ·exact hf g h
 ·have:=hb.size;omega
theorem p_ {g n c:Nat} {B:Nat} (h:B<=g):∀ k,(Nq (some ⟨g,0,none⟩) n c).ownBlock=some k->B<=k:=by
 intro k e;simp [N7] at e;omega
theorem Own.drew {w:World} {e:TypeId} {sz n:Nat} {xs:List Value} {v:Value} (h:Own w e sz v n xs):Own w.drew e sz v n xs:=h.keep (w':=w.drew) fun _ _ _ ho=>ho
theorem zq.drew {w:World} {size:Nat} {x:Value} {m:Nat} {news:List Value} (h:zq size x m news w):zq size x m news w.drew:=h.keep (w':=w.drew) fun _ _ h=>h
theorem zq.alloc {w:World} {size:Nat} {x:Value} {m:Nat} {news:List Value} (h:zq size x m news w) (o:Obj):zq size x m news (w.alloc o):=h.keep (w':=w.alloc o) fun _ _ h=>zV h
theorem Own.alloc {w:World} {e:TypeId} {sz n:Nat} {xs:List Value} {v:Value} (h:Own w e sz v n xs) (o:Obj):Own (w.alloc o) e sz v n xs:=h.keep (w':=w.alloc o) fun _ _ _ ho=>zU ho
theorem zq.belowAll {w w':World} {B:Nat} {size:Nat} {x:Value} {m:Nat} {news:List Value} (h:zq size x m news w) (hb:Below B w w') (hB:w.heap.size<=B):zq size x m news w' :=
 h.keep fun a v hv=>by rw [hb.cell (mg (mx w a hv) hB)];exact hv
theorem zq.lit {w:World} {e:TypeId} {v:Value} (hv:v.oneCell'=true):zq 1 (.slice (some ⟨w.heap.size,0,none⟩) 1 1) 1 [v] (w.alloc (.cells #[v] e)) :=
 ⟨by simp,by simpa using hv,.inl ⟨_,_,rfl,fun j u hu=>by
  cases j with
  | zero=>simp at hu;subst hu;simp [Addr.add]
  | succ j=>simp at hu⟩⟩
theorem zq.ofRep {F:Nat->Prop} {w:World} {e:TypeId} {sz n:Nat} {cs:List DV} {v:Value} (h:Rep F w (.sl e sz n cs) v) (Dl:∀ us,zW F w cs us->∀ u∈us,u.oneCell'=true) :
 ∃ news,zW F w cs news/\zq sz v n news w:=by
 rw [zg] at h;obtain ⟨hl,a,cap,rfl,hn,hz,h⟩:=h;rcases h with rfl | ⟨b,o,c,fr,rfl,hb,hc,hr⟩
 ·have:cs=[]:=Ox (by simpa using hl);subst this;refine ⟨[],zC.2 rfl,?_⟩;cases a with
  | none=>obtain rfl:=hz rfl;exact ⟨by simp,by simp,.inr ⟨rfl,rfl⟩⟩
  | some a=>exact ⟨by simp,by simp,.inl ⟨a,cap,rfl,by simp⟩⟩
 ·refine ⟨_,hr,⟨by rw [<- hr.length,hl],Dl _ hr,.inl ⟨_,cap,rfl,fun j u hu=>?_⟩⟩⟩;have hj:j<n*sz:=by
   have:=(N6.1 hu).1;simp at this;omega
  rw [Pc,if_pos hj,Pd] at hu;unfold Addr.add;split
  ·subst j;simp [GD,hc];simpa using hu
  ·simp [GD,hc];simpa using hu
theorem Own.rep {F:Nat->Prop} {w:World} {e:TypeId} {sz n:Nat} {xs:List Value} {cs:List DV} {v:Value} (h:Own w e sz v n xs) (hF:∀ g,v.ownBlock=some g->F g) (hr:zW F w cs xs) :
 Rep F w (.sl e sz n cs) v:=by
 rw [zg];refine ⟨by rw [hr.length];exact h.1,?_⟩;rcases h.2 with ⟨rfl,rfl⟩ | ⟨g,cap,cur,rfl,_,hg,lh,_,hcs,ht⟩
 ·exact ⟨none,0,rfl,my _,fun _=>rfl,.inl rfl⟩
 ·exact ⟨_,cap,rfl,lh,fun h=>by simp at h,.inr ⟨g,0,cur,_,rfl,hF g rfl,hg,by simpa [ht] using hr⟩⟩
theorem Own.lt {w:World} {e:TypeId} {sz n:Nat} {xs:List Value} {v:Value} (h:Own w e sz v n xs) {g:Nat} (hg:v.ownBlock=some g):g<w.heap.size:=(World.ownsRow.lt h g hg).2
theorem du {P:Program} {w:World} (t ti ty e:TypeId) (z:Value) (size bytes:Nat) (ht:P.underlying t=some (.slice e)) (hti:P.underlying ti=some (.int .i64))
 (Ma:(P.info? e).map (fun i=>(i.zero,i.size,i.bytes))=some (some z,size,bytes)) (AC:z.cells.size=size)
 (n:Nat) (h0:0<n) (hn:n<=16777216) (hsz:0<size) (hb:bytes<=1024) :
 ∃ cap c,(Qj #[t,ti] ty #[.slice none 0 0,.int .i64 n]).run P w=.ok (.slice (some ⟨w.heap.size,0,none⟩) n cap) (w.drew.alloc (.cells c e))/\n<=cap/\cap<=maxLen/\c.size=cap*size:=by
 obtain ⟨i,hi,hz,tI,sT⟩:=info_parts Ma;subst tI;subst sT;have hw:Oi.wrap (n:Int)=n:=IntWalk.i64_in _ (by omega);have hneg:¬ ((n:Int)<0):=by omega
 have hmul:n*i.bytes<=16777216*1024:=Nat.mul_le_mul hn hb;have hmk:¬ (281474976710656<(n:Int)*(i.bytes:Int)):=by
  have:(n:Int)*(i.bytes:Int)=((n*i.bytes:Nat):Int):=by simp
  omega
 have hne:n≠0:=by omega
 have C5:¬ (281474976710656<Ut n 0*i.bytes):=by rw [nextslicecap_zero h0];omega
 have A6:¬ (9223372036854775807<(n:Int)):=by omega
 have JU:¬ (n=0\/i.size=0):=by omega
 refine ⟨grownCap w n 0 e,PJ z.cells n++PJ z.cells (grownCap w n 0 e-n),?_,grownCap_ge w n 0 e,grownCap_le_maxLen w n 0 e (by unfold maxLen;omega),?_⟩
 ·simp [Qj,run_underlying ht,run_underlying hti,sizeOf,typeInfo,zeroValue,hi,hz,asInt,hw,hneg,hmk,hne,C5,A6,Question.forced,run_firstCells_none,newRow,grownCap,asIntOf];intro h;exact absurd h (by have:=Nat.mul_pos h0 hsz;omega)
 ·simp only [Sc,size_zeroCells,AC,<- Qy];have:=grownCap_ge w n 0 e
  congr 1;omega
theorem bX {P:Program} {w:World} {ops:Array Oper} {rest:List Oper} {o:Oper} {a:Act} {Q:Exit->Act->World->Prop} (I1:o.guard=none) (s x:Operand) (t ti:TypeId)
 (ho:o.op=.call { callee:=.builtin .append,args:=#[s,x],argTypes:=#[t,ti] })
 (e:TypeId) (z:Value) (size bytes:Nat) (ht:P.underlying t=some (.slice e)) (hti:P.underlying ti=some (.int .i64)) (hi:(P.info? e).map (fun i=>(i.zero,i.size,i.bytes))=some (some z,size,bytes))
 (AC:z.cells.size=size) (hsz:0<size) (hb:bytes<=1024)
 (hs:a.eval s=.slice none 0 0) (n:Nat) (hx:a.eval x=.int .i64 n) (h0:0<n) (hn:n<=16777216)
 (h:∀ cap c,n<=cap->cap<=maxLen->c.size=cap*size->wpList P ops Q rest (a.put o.dst (.slice (some ⟨w.heap.size,0,none⟩) n cap)) (w.alloc (.cells c e)).drew):wpList P ops Q (o::rest) a w:=by
 refine wpList_plain I1 fun K hK=>?_;obtain ⟨cap,c,hr,h1,h2,h3⟩:=du (P:=P) (w:=w) t ti o.type e z size bytes ht hti hi AC n h0 hn hsz hb;unfold Oper.wp execOp;simp only [ho,resolve,invoke,builtin,Rb,RZ,QU,Rh,Ol,OU,hs,hx,hr];exact hK _ _ (h cap c h1 h2 h3)
theorem below_ad {w wc:World} {o:Obj} (h:Below (w.alloc o).drew.heap.size (w.alloc o).drew wc):Below w.heap.size w wc:=by
 have h2:Below w.heap.size (w.alloc o).drew wc:=⟨h.os,h.tape,h.output,h.size,fun i hi=>h.block i (by show i<(w.alloc o).heap.size;rw [zK];omega)⟩;exact (((mw w.heap.size w).alloc (my _) o).drew).trans h2
abbrev Bs:=List UInt8
abbrev str (l:Bs):Value:=.string ⟨l.toArray⟩
inductive Ty where
 | mk (args:List Ty)
def Ty.args:Ty->List Ty | .mk a=>a
def cut (p l:Bs):Option Bs:=if p.isPrefixOf l then some (l.drop p.length) else none
def z_ (a b:Ty):Ty:=.mk (a::b.args)
def rdK:Nat->Bs->Option (Ty×Bs)
 | d,l=>match cut [98] l with
   | some r=>some (.mk [],r)
   | none=>match d with
     | 0=>none
     | d+1=>do
       let r1<-cut [40,62,32] l
       let (a,r2)<-rdK d r1
       let r3<-cut [32] r2
       let (b,r4)<-rdK d r3
       let r5<-cut [41] r4
       some (z_ a b,r5)
def Cut (p l r:Bs):Prop:=cut p l=some r
def gS (p l:Bs):Prop:=cut p l=none
theorem Cut.out {p l r:Bs} (h:Cut p l r):cut p l=some r:=h
theorem gS.out {p l:Bs} (h:gS p l):cut p l=none:=h
theorem kD (p l:Bs):gS p l\/∃ r,Cut p l r:=by
 cases h:cut p l with
 | none=>exact .inl h
 | some r=>exact .inr ⟨r,h⟩
theorem Cut.le {p l r:Bs} (h:Cut p l r):r.length<=l.length:=by
 unfold Cut cut at h;split at h
 ·simp at h;subst h;simp
 ·simp at h
theorem xG {d:Nat} {l r:Bs} (h:Cut [98] l r):rdK d l=some (.mk [],r):=by
 cases d <;> simp [rdK,h.out]
theorem y7 {l:Bs} (h:gS [98] l):rdK 0 l=none:=by simp [rdK,h.out]
theorem jI {d:Nat} {l:Bs} (h:gS [98] l):rdK (d+1) l=(do
        let r1<-cut [40,62,32] l
        let (a,r2)<-rdK d r1
        let r3<-cut [32] r2
        let (b,r4)<-rdK d r3
        let r5<-cut [41] r4
        some (z_ a b,r5)):=by rw [rdK,h.out]
theorem rdK_le (d:Nat):∀ {l r:Bs} {t:Ty},rdK d l=some (t,r)->r.length<=l.length/\t.args.length<=l.length:=by
 induction d with
 | zero =>
   intro l r t h;rcases kD [98] l with hc | ⟨r',hc⟩
   ·rw [y7 hc] at h;simp at h
   ·rw [xG hc] at h;simp at h;obtain ⟨rfl,rfl⟩:=h;exact ⟨hc.le,by simp [Ty.args]⟩
 | succ d ih =>
   intro l r t h;rcases kD [98] l with hc | ⟨r',hc⟩
   ·rw [jI hc] at h;simp only [NX,No,Prod.exists] at h;obtain ⟨r1,h1,a,r2,h2,r3,h3,b,r4,h4,r5,h5,h6⟩:=h;simp at h6;obtain ⟨rfl,rfl⟩:=h6;have k1:=Cut.le h1;have k2:=ih h2;have k3:=Cut.le h3;have k4:=ih h4;have k5:=Cut.le h5;have k6:r1.length<l.length:=by
     unfold cut at h1;split at h1
     ·rename_i hp;have:=Py (OT.1 hp);simp at h1 this;subst h1;simp;omega
     ·simp at h1
    exact ⟨by omega,by simp [z_,Ty.args];simp [Ty.args] at k4;omega⟩
   ·rw [xG hc] at h;simp at h;obtain ⟨rfl,rfl⟩:=h;exact ⟨hc.le,by simp [Ty.args]⟩
mutual
def jT:Ty->DV
 | .mk ts=>.ptr 112 [.sl 32 1 ts.length (qg ts)]
def qg:List Ty->List DV
 | []=>[]
 | t::ts=>jT t::qg ts
end
theorem xj (ts:List Ty):∀ k:Nat,(qg ts)[k]? = ts[k]?.map jT:=by
 induction ts with
 | nil=>intro k;simp [qg]
 | cons t ts ih=>intro k;cases k <;> simp [qg,ih]
mutual
def zJ:Ty->Nat
 | .mk ts=>1+zc ts
def zc:List Ty->Nat
 | []=>0
 | t::ts=>1+zJ t+zc ts
end
theorem yY (a b:List Ty):zc (a++b)=zc a+zc b:=by
 induction a with
 | nil=>simp [zc]
 | cons t ts ih=>simp [zc,ih];omega
theorem xE {ts:List Ty} {k:Nat} {t:Ty} (h:ts[k]? = some t):zc (ts.take (k+1))=zc (ts.take k)+(1+zJ t):=by
 rw [OG,h,yY];simp [zc]
theorem uO (ts:List Ty) (k:Nat):zc (ts.take k)<=zc ts:=by
 have:=yY (ts.take k) (ts.drop k);rw [OH] at this;omega
theorem qi (t:Ty):zJ t=1+zc t.args:=by cases t;simp [zJ,Ty.args]
theorem kg (t:Ty):1<=zJ t:=by rw [qi];omega
theorem dx (d:Nat):∀ {l r:Bs} {t:Ty},rdK d l=some (t,r)->zJ t+r.length<=l.length:=by
 have hb:∀ {l r:Bs},Cut [98] l r->zJ (.mk [])+r.length<=l.length:=by
  intro l r h;unfold Cut cut at h;split at h
  ·rename_i hp;have:=Py (OT.1 hp);simp at h this;subst h;simp [zJ,zc];omega
  ·simp at h
 induction d with
 | zero =>
   intro l r t h;rcases kD [98] l with hc | ⟨r',hc⟩
   ·rw [y7 hc] at h;simp at h
   ·rw [xG hc] at h;simp at h;obtain ⟨rfl,rfl⟩:=h;exact hb hc
 | succ d ih =>
   intro l r t h;rcases kD [98] l with hc | ⟨r',hc⟩
   ·rw [jI hc] at h;simp only [NX,No,Prod.exists] at h;obtain ⟨r1,h1,a,r2,h2,r3,h3,b,r4,h4,r5,h5,h6⟩:=h;simp at h6;obtain ⟨rfl,rfl⟩:=h6;have k2:=ih h2;have k3:=Cut.le h3;have k4:=ih h4;have k5:=Cut.le h5;have k6:r1.length<l.length:=by
     unfold cut at h1;split at h1
     ·rename_i hp;have:=Py (OT.1 hp);simp at h1 this;subst h1;simp;omega
     ·simp at h1
    have:zJ (z_ a b)=1+zJ a+zJ b:=by cases b;simp [z_,zJ,zc,Ty.args];omega
    omega
   ·rw [xG hc] at h;simp at h;obtain ⟨rfl,rfl⟩:=h;exact hb hc
def rdS:Nat->Bs->Option (Ty×Bs)
 | 0,_=>none
 | n+1,l=>rdK n l
theorem rdS_b {n:Nat} {l r:Bs} (h:Cut [98] l r):rdS (n+1) l=some (.mk [],r):=xG h
theorem rdS_no {n:Nat} {l:Bs} (h:gS [98] l):rdS (n+1) l=(do
        let r1<-cut [40,62,32] l
        let (a,r2)<-rdS n r1
        let r3<-cut [32] r2
        let (b,r4)<-rdS n r3
        let r5<-cut [41] r4
        some (z_ a b,r5)):=by
 cases n with
 | zero =>
   show rdK 0 l=_;rw [y7 h];cases cut [40,62,32] l <;> simp [rdS]
 | succ n=>exact jI h
theorem cut_drop {p l r:Bs} {i:Nat} (h:cut p (l.drop i)=some r):r=l.drop (i+p.length)/\i+p.length<=l.length+(if p.length=0 then i else 0):=by
 unfold cut at h;split at h
 ·rename_i hp;have hl:=Py (OT.1 hp);simp at h hl;subst h;refine ⟨rfl,?_⟩;split <;> omega
 ·simp at h
theorem yw {c:UInt8} {l:Bs} {i:Nat} (h:i<l.length):cut [c] (l.drop i)=if l[i]=c then some (l.drop (i+1)) else none:=by
 unfold cut;rw [List.drop_eq_getElem_cons h];by_cases hc:l[i]=c
 ·simp [hc,Pr]
 ·have:(c == l[i])=false:=by simpa using fun e=>hc e.symm
  simp [hc,Pr,this]
theorem bQ {c:UInt8} {p l:Bs} {i:Nat} (h:l.length<=i):cut (c::p) (l.drop i)=none:=by
 rw [List.drop_eq_nil_of_le h];rfl
theorem yr {l r:Bs} {i:Nat} (h:r <:+ l.drop i):r=l.drop (l.length-r.length):=by
 have h2:r <:+ l:=h.trans (PY i l);exact List.suffix_iff_eq_drop.1 h2
theorem rdK_suffix (d:Nat):∀ {l r:Bs} {t:Ty},rdK d l=some (t,r)->r <:+ l:=by
 have EG:∀ {p l r:Bs},cut p l=some r->r <:+ l:=by
  intro p l r h;unfold cut at h;split at h
  ·simp at h;subst h;exact PY _ _
  ·simp at h
 induction d with
 | zero =>
   intro l r t h;rcases kD [98] l with hc | ⟨r',hc⟩
   ·rw [y7 hc] at h;simp at h
   ·rw [xG hc] at h;simp at h;obtain ⟨rfl,rfl⟩:=h;exact EG hc
 | succ d ih =>
   intro l r t h;rcases kD [98] l with hc | ⟨r',hc⟩
   ·rw [jI hc] at h;simp only [NX,No,Prod.exists] at h;obtain ⟨r1,h1,a,r2,h2,r3,h3,b,r4,h4,r5,h5,h6⟩:=h;simp at h6;obtain ⟨rfl,rfl⟩:=h6;exact (((((EG h5).trans (ih h4)).trans (EG h3)).trans (ih h2)).trans (EG h1))
   ·rw [xG hc] at h;simp at h;obtain ⟨rfl,rfl⟩:=h;exact EG hc
theorem fq {n:Nat} {l r:Bs} {t:Ty} (h:rdS n l=some (t,r)):r <:+ l:=by
 cases n with
 | zero=>simp [rdS] at h
 | succ n=>exact rdK_suffix n h
theorem rdS_le {n:Nat} {l r:Bs} {t:Ty} (h:rdS n l=some (t,r)):r.length<=l.length/\t.args.length<=l.length:=by
 cases n with
 | zero=>simp [rdS] at h
 | succ n=>exact rdK_le n h
theorem rdS_atoms {n:Nat} {l r:Bs} {t:Ty} (h:rdS n l=some (t,r)):zJ t+r.length<=l.length:=by
 cases n with
 | zero=>simp [rdS] at h
 | succ n=>exact dx n h
def qT (sc:Nat) (c:List Value) (e:TypeId) (r:Bs) (w:World):Prop:=w.heap[sc]? = some (.cells (str r::c).toArray e (0,0))
theorem qT.cell {sc:Nat} {c:List Value} {e:TypeId} {r:Bs} {w:World} (h:qT sc c e r w):w.cell? ⟨sc,0,none⟩=some (str r):=by
 simp [GD,qT] at *;simp [h]
theorem qT.free {sc:Nat} {c:List Value} {e:TypeId} {r:Bs} {w:World} (h:qT sc c e r w) (o:Nat):w.frozen? ⟨sc,o,none⟩=false:=by
 simp [N4,qT] at *;simp [h]
theorem qT.put {sc:Nat} {c:List Value} {e:TypeId} {r r':Bs} {w:World} (h:qT sc c e r w):qT sc c e r' (w.setCell ⟨sc,0,none⟩ (str r')):=by
 unfold qT at *;have m_:=zZ h;have h':w.heap[sc]=.cells (str r::c).toArray e (0,0):=by simpa [Oo m_] using h
 show (w.heap.modify sc _)[sc]? = _;rw [Oo (by simpa using m_),Qc,h'];simp
theorem eC {p r:Bs}:RM r p=(cut p r).isSome/\Sz r p=(cut p r).getD r:=by
 unfold RM Sz cut RM;cases h:p.isPrefixOf r <;> simp
theorem take_any (sc:Nat) (c:List Value) (e:TypeId) (r p:Bs) (w:World) (h:qT sc c e r w) :
 Calls KD 77 #[.pointer (some ⟨sc,0,none⟩),.string ⟨p.toArray⟩] w fun en w' =>
  en=.returned (.bool (cut p r).isSome)/\But (· = sc) w w'/\qT sc c e ((cut p r).getD r) w':=by
 have h1:=h.cell;have h2:=h.free 0;have h3:=mj h;clear h;go_enter Tryz.func77,Tryz.ntmps77;go_wp2_with (go_at_call 115;refine (Tryz.strings_CutPrefix _ _ _).mono ?_;rintro e w' ⟨rfl,rfl⟩)
 go_ret;refine ⟨?_,(But.refl (· = sc) _).setCell (p:=⟨sc,0,none⟩) (.inl rfl) _,?_⟩
 ·rw [<- eC.1];rfl
 ·rw [<- eC.2];exact h3.out.put
theorem zi {F:Nat->Prop} {w:World} {t:Ty} {v:Value} (h:Rep F w (jT t) v) :
 ∃ b s,v=.pointer (some ⟨b,0,none⟩)/\F b/\w.heap[b]? = some (.cells #[s] 112 (0,0))/\Rep F w (.sl 32 1 t.args.length (qg t.args)) s:=by
 cases t with
 | mk ts =>
   rw [jT,jv] at h;obtain ⟨b,c,hv,hb,hc,hr⟩:=h;rw [zQ] at hr;obtain ⟨s,vs',e1,h1,h2⟩:=hr;rw [zC] at h2;subst h2;have:c=#[s]:=by apply Sb;simpa using e1
   subst this;exact ⟨b,s,hv,hb,hc,h1⟩
theorem hH {F:Nat->Prop} {w:World} {t:Ty} {b:Nat} {s:Value} (hb:F b) (hc:w.heap[b]? = some (.cells #[s] 112 (0,0)))
 (h:Rep F w (.sl 32 1 t.args.length (qg t.args)) s):Rep F w (jT t) (.pointer (some ⟨b,0,none⟩)):=by
 cases t with
 | mk ts =>
   rw [jT,jv];exact ⟨b,#[s],rfl,hb,hc,zW.one h⟩
theorem Tryz.infoK:(KD.info? 32).map (fun i=>(i.zero,i.size,i.bytes))=some (some (.pointer none),1,8):=by kernel_rfl
theorem wQ {F:Nat->Prop} {w:World} (ts:List Ty):∀ us,zW F w (qg ts) us->∀ u∈us,u.oneCell'=true:=by
 induction ts with
 | nil=>intro us h;rw [qg,zC] at h;subst h;simp
 | cons t ts ih =>
   intro us h u hu;rw [qg,zQ] at h;obtain ⟨v,vs',rfl,h1,h2⟩:=h;rcases Om.1 hu with rfl | hu
   ·obtain ⟨b,s,rfl,_⟩:=zi h1;rfl
   ·exact ih _ h2 u hu
theorem arrow_any (F:Nat->Prop) (a b:Ty) (va vb:Value) (w:World) (ha:Rep F w (jT a) va) (hb:Rep F w (jT b) vb) (hl:Lim b.args.length) :
 Calls KD 53 #[va,vb] w fun en w' =>
  ∃ v,en=.returned v/\Below w.heap.size w w'/\Rep (fun k=>F k\/w.heap.size<=k) w' (jT (z_ a b)) v:=by
 obtain ⟨bb,sb,rfl,M9,J5,sY⟩:=zi hb;obtain ⟨ba,eva⟩:∃ ba,va=.pointer (some ⟨ba,0,none⟩):=by obtain ⟨ba,_,h,_⟩:=zi ha;exact ⟨ba,h⟩
 subst eva;obtain ⟨news,sD,rO⟩:=zq.ofRep sY (wQ _);have c1:w.cell? ⟨bb,0,none⟩=some sb:=by simp [GD,J5]
 have l1:=zZ J5;have H1:=mj rO;have H2:=mj sD;have H3:=mj ha;clear rO sD ha hb sY J5;go_enter Tryz.func53,Tryz.ntmps53;go_wp2_with (at_builtin;refine zE rfl _ _ 110 rfl 32 (.pointer none) 1 8 P9 Tryz.infoK rfl (by decide) _ 1 [.pointer (some ⟨ba,0,none⟩)] rfl ?c1 _ b.args.length news rfl ?c2 ?c3 ?c4 ?_)
 case c1=>exact Own.lit #[.pointer (some ⟨ba,0,none⟩)] 1 (by decide) rfl
 case c2=>exact H1.out.keep fun _ _ h=>zV h
 case c3=>have:=hl.le;unfold maxLen;omega
 case c4=>have:=hl.le;omega
 intro a' c' w' ho hb hg;have H4:=mj ho;have H5:=mj hb;have H6:=mj hg;clear ho hb hg;go_wp2;go_ret;have hb:=H5.out;have b1:Below w.heap.size w w':=((mw w.heap.size w).alloc (my _) _).trans (hb.toBelow (by simp) (fun i hi e=>by simp [N7] at e;omega));refine ⟨_,rfl,b1.alloc b1.size _,?_⟩;refine hH (F:=fun k=>F k\/w.heap.size<=k) (.inr b1.size) (zG _ _) ?_;refine Rep.below (F:=fun k=>F k\/w.heap.size<=k) ((mw _ _).alloc (my _) _) (fun _ h=>h) ?_;rw [show (z_ a b).args.length=1+b.args.length from by simp [z_,Ty.args,Nat.add_comm]];refine H4.out.rep ?_ ?_
 ·intro g hg;rcases H6.out g hg with h | h
  ·simp [N7] at h;exact .inr (by omega)
  ·exact .inr (by subst h;simp)
 ·show zW _ _ (jT a::qg b.args) _;exact zQ.2 ⟨_,_,rfl,Rep.below b1 (fun _ h=>.inl h) H3.out,zW.below b1 (fun _ h=>.inl h) H2.out⟩
theorem jh {sc:Nat} {c:List Value} {e:TypeId} {r p r':Bs} {w:World} (h:qT sc c e r w) (hc:Cut p r r') :
 Calls KD 77 #[.pointer (some ⟨sc,0,none⟩),.string ⟨p.toArray⟩] w fun en w' =>
  en=.returned (.bool true)/\But (· = sc) w w'/\qT sc c e r' w':=by
 refine (take_any sc c e r p w h).mono ?_;rw [hc.out];exact fun _ _ h=>h
theorem ve {sc:Nat} {c:List Value} {e:TypeId} {r p:Bs} {w:World} (h:qT sc c e r w) (hc:gS p r) :
 Calls KD 77 #[.pointer (some ⟨sc,0,none⟩),.string ⟨p.toArray⟩] w fun en w' =>
  en=.returned (.bool false)/\But (· = sc) w w'/\qT sc c e r w':=by
 refine (take_any sc c e r p w h).mono ?_;rw [hc.out];exact fun _ _ h=>h
def wu (sc:Nat) (c:List Value) (e:TypeId) (w:World) (o:Option (Ty×Bs)) (en:Ending) (w':World):Prop :=
 ∃ v r',en=.returned v/\But (· = sc) w w'/\qT sc c e r' w'/\(o=none->v=.pointer none)/\(∀ t rest,o=some (t,rest)->r'=rest/\Rep (w.heap.size<=·) w' (jT t) v)
theorem wu.no {sc:Nat} {c:List Value} {e:TypeId} {w:World} {r:Bs} {w':World} {o:Option (Ty×Bs)} (ho:o=none) (hb:But (· = sc) w w') (hs:qT sc c e r w'):wu sc c e w o (.returned (.pointer none)) w' :=
 ⟨_,r,rfl,hb,hs,fun _=>rfl,fun _ _ h=>by rw [ho] at h;simp at h⟩
theorem wu.yes {sc:Nat} {c:List Value} {e:TypeId} {w:World} {r:Bs} {w':World} {o:Option (Ty×Bs)} {t:Ty} {v:Value} (ho:o=some (t,r)) (hb:But (· = sc) w w') (hs:qT sc c e r w')
 (hv:Rep (w.heap.size<=·) w' (jT t) v):wu sc c e w o (.returned v) w' :=
 ⟨_,r,rfl,hb,hs,fun h=>by rw [ho] at h;simp at h,fun _ _ h=>by rw [ho] at h;simp at h;obtain ⟨rfl,rfl⟩:=h;exact ⟨rfl,hv⟩⟩
theorem ul {sc:Nat} {c:List Value} {e:TypeId} {r:Bs} {w:World} (h:qT sc c e r w):sc<w.heap.size:=zZ h
theorem qT.alloc {sc:Nat} {c:List Value} {e:TypeId} {r:Bs} {w:World} (h:qT sc c e r w) (o:Obj):qT sc c e r (w.alloc o):=zU h
def mO (sc:Nat) (c:List Value) (e:TypeId) (d:Nat):Prop:=∀ (r:Bs) (w:World),qT sc c e r w->Lim r.length ->
    Calls KD 80 #[.pointer (some ⟨sc,0,none⟩),.int .i64 d] w (wu sc c e w (rdK d r))
theorem kind_step (sc:Nat) (c:List Value) (e:TypeId) (d:Nat) (hd:d<=1000) (ih:∀ d',d=d'+1->mO sc c e d'):mO sc c e d:=by
 intro r w hs hr;have IH:=mj ih;clear ih;go_enter Tryz.func80,Tryz.ntmps80;go_wp2_with fail
 rcases kD [98] r with h1 | ⟨r1,h1⟩
 ·refine (ve hs h1).mono ?_;rintro en w1 ⟨rfl,mi,rz⟩;by_cases h0:d=0
  ·have H0:=mj h0;clear h0;have h0:((d:Int) == 0)=true:=by rw [beq_iff_eq];have:=H0.out;omega
   go_wp2_with fail
   go_ret;exact wu.no (by have:=H0.out;subst this;exact y7 h1) mi rz
  ·obtain ⟨d',hd'⟩:∃ d',d=d'+1:=⟨d-1,by omega⟩;subst hd';clear h0;have h0:(((d'+1:Nat):Int) == 0)=false:=by rw [beq_eq_false_iff_ne];omega
   have IH':=mj (IH.out d' rfl);clear IH;go_wp2_with fail
   rcases kD [40,62,32] r with h2 | ⟨r2,h2⟩
   ·refine (ve rz h2).mono ?_;rintro en w2 ⟨rfl,me,t6⟩;go_wp2_with fail
    go_ret;exact wu.no (by rw [jI h1,h2.out];rfl) (mi.trans me) t6
   refine (jh rz h2).mono ?_;rintro en w2 ⟨rfl,me,t6⟩;go_wp2_with fail
   have r2l:=h2.le;refine (IH'.out r2 w2 t6 (hr.mono r2l)).mono ?_;rintro en w3 ⟨va,r3,rfl,nZ,lY,Ck,AD⟩;rcases ha:rdK d' r2 with _ | ⟨ta,r3'⟩
   ·obtain rfl:=Ck ha;have Ha:=mj ha;clear ha Ck AD;go_wp2_with fail
    go_ret;exact wu.no (by rw [jI h1,h2.out];simp [Ha.out]) ((mi.trans me).trans nZ) lY
   obtain ⟨rfl,lG⟩:=AD _ _ ha;obtain ⟨ba,rfl⟩:∃ ba,va=.pointer (some ⟨ba,0,none⟩):=by obtain ⟨ba,_,h,_⟩:=zi lG;exact ⟨ba,h⟩
   have r3l:=(rdK_le _ ha).1;have Ha:=mj ha;clear ha Ck AD;have hb:=(mi.trans me).trans nZ;have hb2z:=(mi.trans me).size;clear mi me;go_wp2_with fail
   rcases kD [32] r3 with h4 | ⟨r4,h4⟩
   ·refine (ve lY h4).mono ?_;rintro en w4 ⟨rfl,nS,tK⟩;go_wp2_with fail
    go_ret;exact wu.no (by rw [jI h1,h2.out];simp [Ha.out,h4.out]) (hb.trans nS) tK
   refine (jh lY h4).mono ?_;rintro en w4 ⟨rfl,nS,tK⟩;go_wp2_with fail
   have r4l:=h4.le;refine (IH'.out r4 w4 tK (hr.mono (by omega))).mono ?_;rintro en w5 ⟨vb,r5,rfl,nR,oQ,Aa,og⟩;rcases hbb:rdK d' r4 with _ | ⟨tb,r5'⟩
   ·obtain rfl:=Aa hbb;have Hb:=mj hbb;clear hbb Aa og;go_wp2_with fail
    go_ret;exact wu.no (by rw [jI h1,h2.out];simp [Ha.out,h4.out,Hb.out]) ((hb.trans nS).trans nR) oQ
   obtain ⟨rfl,sY⟩:=og _ _ hbb;obtain ⟨bb,rfl⟩:∃ ba,vb=.pointer (some ⟨ba,0,none⟩):=by obtain ⟨ba,_,h,_⟩:=zi sY;exact ⟨ba,h⟩
   have r5l:=rdK_le _ hbb;have Hb:=mj hbb;clear hbb Aa og;go_wp2_with fail
   rcases kD [41] r5 with h6 | ⟨r6,h6⟩
   ·refine (ve oQ h6).mono ?_;rintro en w6 ⟨rfl,nJ,FR⟩;go_wp2_with fail
    go_ret;exact wu.no (by rw [jI h1,h2.out];simp [Ha.out,h4.out,Hb.out,h6.out]) (((hb.trans nS).trans nR).trans nJ) FR
   refine (jh oQ h6).mono ?_;rintro en w6 ⟨rfl,nJ,FR⟩;have AF:=ul hs;have z1:=hb.size;have z3:=nZ.size;have z4:=nS.size;have z5:=nR.size;have z6:=nJ.size;have z2:=nZ.size;have w2z:w.heap.size<=w2.heap.size:=by have:=hb2z;omega
   have ra:Rep (w.heap.size<=·) w6 (jT ta) (.pointer (some ⟨ba,0,none⟩)):=Rep.but ((nS.trans nR).trans nJ) (fun b h=>⟨by omega,by omega⟩) lG;have rb:Rep (w.heap.size<=·) w6 (jT tb) (.pointer (some ⟨bb,0,none⟩)):=Rep.but nJ (fun b h=>⟨by omega,by omega⟩) sY;go_wp2_with fail
   refine (arrow_any _ ta tb _ _ w6 ra rb (hr.mono (by omega))).mono ?_;rintro en w7 ⟨v,rfl,mo,hv⟩;obtain ⟨bv,rfl⟩:∃ ba,v=.pointer (some ⟨ba,0,none⟩):=by obtain ⟨ba,_,h,_⟩:=zi hv;exact ⟨ba,h⟩
   go_wp2_with fail
   go_ret;refine wu.yes (t:=z_ ta tb) (r:=r6) (by rw [jI h1,h2.out];simp [Ha.out,h4.out,Hb.out,h6.out]) ((((hb.trans nS).trans nR).trans nJ).trans (But.ofBelow mo)) ?_ ?_
   ·exact (mo.block sc (by omega)).trans FR
   ·exact (Rep.keep fun b o h ho=>⟨by rcases h with h | h <;> omega,ho⟩).1 _ _ hv
 ·refine (jh hs h1).mono ?_;rintro en w1 ⟨rfl,mi,rz⟩;go_wp2_with fail
  go_ret;refine wu.yes (t:=.mk []) (r:=r1) (xG h1) (mi.alloc _) (rz.alloc _) ?_;refine hH (F:=(w.heap.size<=·)) mi.size (zG _ _) ?_;exact (zg.2 ⟨rfl,none,0,rfl,my _,fun _=>rfl,.inl rfl⟩)
theorem kind_any (sc:Nat) (c:List Value) (e:TypeId) (d:Nat) (hd:d<=1000):mO sc c e d:=by
 induction d with
 | zero=>exact kind_step sc c e 0 hd (fun d' h=>by omega)
 | succ d ih=>exact kind_step sc c e (d+1) hd (fun d' h=>by obtain rfl:d=d':=by omega
                                                            exact ih (by omega))
def eG (F:Nat->Prop) (w:World) (t:Ty):Prop:=∀ v,Rep F w (jT t) v ->
 Calls KD 52 #[v] w fun en w'=>en=.returned (.int .i64 (zJ t))/\w'=w
theorem atoms_step (F:Nat->Prop) (w:World) (t:Ty) (hl:Lim (zJ t)) (ih:∀ t',zJ t'<zJ t->eG F w t'):eG F w t:=by
 intro v hv;obtain ⟨b,s,rfl,hb,hc,hs⟩:=zi hv;have c1:w.cell? ⟨b,0,none⟩=some s:=by simp [GD,hc]
 obtain ⟨a,cap,rfl,hn,hlen,ml⟩:=zP hs;have IH:=mj ih;clear ih hc hv hs;have e1:=qi t;have E1:=mj e1;clear e1;have iU:=hl.le;have hlb:t.args.length<=16777216:=by
  have h:∀ ts:List Ty,ts.length<=zc ts:=by intro ts;induction ts with
   | nil=>simp
   | cons t ts ih=>simp [zc];omega
  have:=h t.args;have:=E1.out;omega
 have HL:=mj hlen;clear hlen;have AT:=mj ml;clear ml;go_enter Tryz.func52,Tryz.ntmps52;go_wp2_with fail
 go_loop [3,11] (fun n i=>∃ k:Nat,k<=t.args.length/\i=.int .i64 k/\n=.int .i64 ((1+zc (t.args.take k):Nat):Int)) (fun _ i=>t.args.length-(intOf i).toNat)
 case atStart=>exact ⟨0,Og _,rfl,by simp [zc]⟩
 case round =>
  obtain ⟨k,hk,rfl,rfl⟩:=hrel;by_cases m_:k<t.args.length
  ·obtain ⟨b',o,u,d,rfl,_,nW,hd,hu,hr⟩:=AT.out k m_;rw [xj,Option.map_eq_some_iff] at hd;obtain ⟨t',tE,rfl⟩:=hd;have hs:=xE tE;have rL:=uO t.args (k+1);have aS:=E1.out;have IH':=mj (IH.out t' (by omega));have HS:=mj hs;have b1:1+zc (t.args.take k)+(1+zJ t')<=16777216:=by omega
   have HT:=mj tE;clear hs tE aS;obtain ⟨bu,eu⟩:∃ bu,u=.pointer (some ⟨bu,0,none⟩):=by obtain ⟨ba,_,h,_⟩:=zi hr;exact ⟨ba,h⟩
   subst eu;go_wp2_with fail
   refine (IH'.out _ hr).mono ?_;rintro en w' ⟨rfl,ew⟩;subst ew;go_wp2_with fail
   go_round
   case rel=>exact ⟨k+1,by omega,by go_num,by rw [HS.out];go_num⟩
   case measure=>simp [intOf];omega
  ·go_wp2_with fail
   go_ret;have:k=t.args.length:=by omega
   subst this;exact ⟨un (by rw [E1.out,List.take_length];simp),rfl⟩
theorem uG (F:Nat->Prop) (w:World) (n:Nat):∀ t,zJ t<=n->Lim n->eG F w t:=by
 induction n with
 | zero=>intro t h _;have:=kg t;omega
 | succ n ih=>exact fun t h hn=>atoms_step F w t (hn.mono h) (fun t' h'=>ih t' (by omega) (hn.mono (by omega)))
def yI (l:Bs):Option Ty:=match rdK 15 l with
 | some (t,[])=>if zJ t<=15 then some t else none
 | _=>none
def RKPost (w:World) (o:Option Ty) (en:Ending) (w':World):Prop :=
 ∃ v,en=.returned v/\Below w.heap.size w w'/\(o=none->v=.pointer none)/\(∀ t,o=some t->Rep (w.heap.size<=·) w' (jT t) v)
theorem readKind_any (l:Bs) (w:World) (hl:Lim l.length) :
 Calls KD 100 #[str l] w (RKPost w (yI l)):=by
 have iU:=hl.le;go_enter Tryz.func100,Tryz.ntmps100;go_wp2_with fail
 have aT:qT w.heap.size [] 100 l (w.alloc (.cells #[str l] 100)):=zG _ _;refine (kind_any _ _ _ 15 (by omega) l _ aT hl).mono ?_;rintro en w1 ⟨v,r1,rfl,mi,rz,nh,nf⟩;have hb:Below w.heap.size w w1:=((mw w.heap.size w).alloc (my _) _).trans (mi.toBelow (by simp) (fun i hi e=>by omega));rcases ha:rdK 15 l with _ | ⟨t,r1'⟩
 ·obtain rfl:=nh ha;have Ha:=mj ha;clear ha nh nf;go_wp2_with fail
  go_ret;exact ⟨_,rfl,hb,fun _=>rfl,fun t h=>by simp [yI,Ha.out] at h⟩
 obtain ⟨rfl,lG⟩:=nf _ _ ha;obtain ⟨ba,rfl⟩:∃ ba,v=.pointer (some ⟨ba,0,none⟩):=by obtain ⟨ba,_,h,_⟩:=zi lG;exact ⟨ba,h⟩
 have ml:=dx _ ha;have Ha:=mj ha;clear ha nh nf;have tU:=rz.cell;have hz:w.heap.size<w1.heap.size:=ul rz;cases r1 with
 | cons x xs =>
   have hne:(!(x::xs).isEmpty)=true:=rfl;go_wp2_with fail
   go_ret;exact ⟨_,rfl,hb,fun _=>rfl,fun t h=>by simp [yI,Ha.out] at h⟩
 | nil =>
   go_wp2_with fail
   refine (uG _ w1 (zJ t) t (my _) (hl.mono (by omega)) _ lG).mono ?_;rintro en w2 ⟨rfl,e2⟩;subst e2;by_cases nX:zJ t<=15
   ·go_wp2_with fail
    go_ret;have HM:yI l=some t:=by simp [yI,Ha.out,nX]
    exact ⟨_,rfl,hb,fun h=>by simp [HM] at h,fun t' h=>by rw [HM] at h;simp at h;subst h;exact (Rep.keep fun b o h ho=>⟨by have:=h;simp at this;omega,ho⟩).1 _ _ lG⟩
   ·go_wp2_with fail
    go_ret;have HM:yI l=none:=by simp [yI,Ha.out,nX]
    exact ⟨_,rfl,hb,fun _=>rfl,fun t' h=>by rw [HM] at h;simp at h⟩
theorem growK_any (n:Nat) (w:World) (hn:Lim n) :
 Calls KD 197 #[.slice none 0 0,.int .i64 n] w fun en w' =>
  ∃ a c,en=.returned (.slice a 0 c)/\Own w' 32 1 (.slice a 0 c) 0 []/\Below w.heap.size w w'/\(∀ g,(Nq a 0 c).ownBlock=some g->w.heap.size<=g):=by
 have hl:=hn.le;by_cases h0:n=0
 ·subst h0;go_enter SJ,SA;go_wp2_with fail
  go_ret;exact ⟨none,0,rfl,OL _ _ _ _,mw _ _,fun g h=>by simp [N7] at h⟩
 ·have h1:0<n:=by omega
  clear h0;go_enter SJ,SA;go_wp2_with (at_builtin;refine bX rfl _ _ 110 3 rfl 32 (.pointer none) 1 8 P9 Tryz.underlying3 Tryz.infoK rfl (by decide) (by decide) rfl n rfl h1 hl ?_)
  intro cap c tU tf EL;go_wp2_with fail
  go_ret;exact ⟨_,cap,rfl,⟨by simp,.inr ⟨w.heap.size,cap,c,rfl,Og _,zG w _,Og _,tf,by simpa using EL,by simp⟩⟩,((mw _ _).alloc (my _) _).drew,fun g h=>by simp [N7] at h;omega⟩
theorem zq.slice {size:Nat} {x:Value} {m:Nat} {news:List Value} {w:World} (h:zq size x m news w):∃ a c,x=.slice a m c:=by
 obtain ⟨_,_,⟨a,c,rfl,_⟩ | ⟨rfl,rfl⟩⟩:=h
 all_goals
  exact ⟨_,_,rfl⟩
theorem zq.below {w w':World} {size:Nat} {x:Value} {m:Nat} {news:List Value} (hb:Below w.heap.size w w') (h:zq size x m news w):zq size x m news w' :=
 h.keep fun a v hv=>by rw [hb.cell (mx w a hv)];exact hv
def eP (e:TypeId) (w:World) (n1 n2:Nat) (xs1 xs2:List Value) (v i:Value) (wr:World):Prop :=
 ∃ k m xs a c,i=.int .i64 (k:Nat)/\v=.slice a m c/\Own wr e 1 (.slice a m c) m xs/\Below w.heap.size w wr/\(∀ g,(Nq a m c).ownBlock=some g->w.heap.size<=g) /\
   ((k=0/\m=0/\xs=[])\/(k=1/\m=n1/\xs=xs1)\/(k=2/\m=n1+n2/\xs=xs1++xs2))
theorem eP.next {e:TypeId} {w:World} {n1 n2:Nat} {xs1 xs2:List Value} {k m m':Nat} {xs:List Value} {a a':Option Addr} {c c':Nat} {wr w':World}
 (ho:Own w' e 1 (.slice a' m' c') m' xs) (hb:Below w.heap.size w wr) (Dy:But (fun b=>(Nq a m c).ownBlock=some b) wr w')
 (hf:∀ g,(Nq a m c).ownBlock=some g->w.heap.size<=g) (hg:∀ g,(Nq a' m' c').ownBlock=some g->(Nq a m c).ownBlock=some g\/g=wr.heap.size)
 (hk:(k=0/\m'=0/\xs=[])\/(k=1/\m'=n1/\xs=xs1)\/(k=2/\m'=n1+n2/\xs=xs1++xs2)):eP e w n1 n2 xs1 xs2 (.slice a' m' c') (.int .i64 (k:Nat)) w' :=
 ⟨k,m',xs,a',c',rfl,rfl,ho,hb.trans (Dy.toBelow hb.size fun i hi h=>by have:=hf i h;omega),fun g h=>by
  rcases hg g h with h | h
  ·exact hf g h
  ·have:=hb.size;omega,hk⟩
theorem concatK_any (b n1 n2:Nat) (s1 s2:Value) (xs1 xs2:List Value) (w:World) (c1:w.cell? ⟨b,0,none⟩=some s1) (c2:w.cell? ⟨b,1,none⟩=some s2)
 (h1:zq 1 s1 n1 xs1 w) (h2:zq 1 s2 n2 xs2 w) (nh:Lim n1) (aK:Lim n2) (hn:Lim (n1+n2)) :
 Calls KD 170 #[.slice (some ⟨b,0,none⟩) 2 2] w fun en w' =>
  ∃ a c,en=.returned (.slice a (n1+n2) c)/\Own w' 32 1 (.slice a (n1+n2) c) (n1+n2) (xs1++xs2)/\Below w.heap.size w w'/\(∀ g,(Nq a (n1+n2) c).ownBlock=some g->w.heap.size<=g):=by
 obtain ⟨a1,k1,rfl⟩:=h1.slice;obtain ⟨a2,k2,rfl⟩:=h2.slice;have hl:=hn.le;have JX:=nh.le;have hl2:=aK.le;have lb:b<w.heap.size:=mx w _ c1;go_enter Tryz.func170,Tryz.ntmps170;go_wp2_with fail
 go_loop [3,11] (fun n i=>(i=.int .i64 0/\n=.int .i64 0)\/(i=.int .i64 1/\n=.int .i64 n1)\/(i=.int .i64 2/\n=.int .i64 ((n1:Int)+(n2:Int)))) (fun _ i=>2-(intOf i).toNat)
 case atStart=>exact .inl ⟨rfl,rfl⟩
 case round =>
  rcases hrel with ⟨rfl,rfl⟩ | ⟨rfl,rfl⟩ | ⟨rfl,rfl⟩
  ·go_wp2_with fail
   go_round
   case rel=>exact .inr (.inl ⟨rfl,rfl⟩)
   case measure=>simp [intOf]
  ·go_wp2_with fail
   go_round
   case rel=>exact .inr (.inr ⟨rfl,rfl⟩)
   case measure=>simp [intOf]
  ·go_wp2_with fail
   rw [show (n1:Int)+(n2:Int)=((n1+n2:Nat):Int) from by omega];refine (growK_any (n1+n2) w hn).mono ?_;rintro en wg ⟨ag,cg,rfl,hog,At,hfg⟩;have EI:eP 32 w n1 n2 xs1 xs2 (.slice ag 0 cg) (.int .i64 (0:Nat)) wg:=⟨0,0,[],ag,cg,rfl,rfl,hog,At,hfg,.inl ⟨rfl,rfl,rfl⟩⟩;clear hog At hfg;go_wp2_with fail
   go_loopw [6,27] (fun v i wr=>eP 32 w n1 n2 xs1 xs2 v i wr) (fun _ i _=>2-(intOf i).toNat)
   case atStart=>exact EI
   case round =>
    rename_i wr;obtain ⟨k,m,xs,a,c,rfl,rfl,ho,hb,hf,hk⟩:=hrel;have d1:wr.cell? ⟨b,0,none⟩=some (.slice a1 n1 k1):=by rw [hb.cell lb];exact c1
    have d2:wr.cell? ⟨b,1,none⟩=some (.slice a2 n2 k2):=by rw [hb.cell lb];exact c2
    have g1:=h1.below hb;have g2:=h2.below hb;have HF:=mj hf;clear hf;rcases hk with ⟨rfl,rfl,rfl⟩ | ⟨rfl,rfl,rfl⟩ | ⟨rfl,rfl,rfl⟩
    ·go_wp2_with (at_builtin;refine zE rfl _ _ 110 rfl 32 (.pointer none) 1 8 P9 Tryz.infoK rfl (by decide) _ 0 [] rfl ho _ n1 xs1 rfl g1 ?c3 ?c4 ?_)
     case c3=>unfold maxLen;omega
     case c4=>omega
     intro a' c' w' Cj nW sZ;have EI:=eP.next (n1:=n1) (n2:=n2) (xs1:=xs1) (xs2:=xs2) (k:=1) Cj hb nW HF.out sZ (.inr (.inl ⟨rfl,rfl,rfl⟩));clear nW sZ Cj HF;go_wp2_with fail
     go_roundw
     case rel=>exact EI
     case measure=>simp [intOf]
    ·go_wp2_with (at_builtin;refine zE rfl _ _ 110 rfl 32 (.pointer none) 1 8 P9 Tryz.infoK rfl (by decide) _ m xs rfl ho _ n2 xs2 rfl g2 ?c3 ?c4 ?_)
     case c3=>unfold maxLen;omega
     case c4=>omega
     intro a' c' w' Cj nW sZ;have EI:=eP.next (n1:=m) (n2:=n2) (xs1:=xs) (xs2:=xs2) (k:=2) Cj hb nW HF.out sZ (.inr (.inr ⟨rfl,rfl,rfl⟩));clear nW sZ Cj HF;go_wp2_with fail
     go_roundw
     case rel=>exact EI
     case measure=>simp [intOf]
    ·go_wp2_with fail
     go_ret;exact ⟨a,c,rfl,ho,hb,HF.out⟩
inductive Bd where
 | leaf (c:UInt8)
 | ask (v:Nat) (subs:List Bd) (yes no:Bd)
mutual
def k_:Bd->DV
 | .leaf c=>.ptr 79 [.val (str [c]),.val (.int .i64 (0:Nat)),.sl 33 1 0 [],.val (.pointer none),.val (.pointer none)]
 | .ask v ss y n=>.ptr 79 [.val (str []),.val (.int .i64 v),.sl 33 1 ss.length (jV ss),k_ y,k_ n]
def jV:List Bd->List DV
 | []=>[]
 | b::bs=>k_ b::jV bs
end
def sep (c:UInt8):Bool:=c == 32 || c == 40 || c == 41
def zF (l:Bs):Bs:=l.takeWhile (fun c=>!sep c)
def zD (l:Bs):Bs:=l.dropWhile (fun c=>!sep c)
def lvl (w:Bs) (n:Nat):Option Nat :=
 match Pz w with
 | .ok v=>if Pp v=w/\0<=v/\v<n then some v.toNat else none
 | _=>none
abbrev Rd:=List Ty->Nat->Bs->Option (Bd×Bs×Nat)
def ki (rd:Rd):List (List Ty)->Nat->Bs->Option (List Bd×Bs×Nat)
 | [],left,l=>some ([],l,left)
 | h::hs,left,l=>do
   let l1<-cut [32] l
   let (b,l2,nI)<-rd h left l1
   let (bs,l3,aU)<-ki rd hs nI l2
   some (b::bs,l3,aU)
def fu (rd:Rd) (levels:List Ty) (v:Nat) (t:Ty) (left:Nat) (l:Bs):Option (Bd×Bs×Nat):=do
 let (ss,l1,aw)<-ki rd (t.args.map fun a=>levels++a.args) left l
 let (yn,l2,nI)<-ki rd [levels,levels] aw l1
 match yn with
 | [y,n]=>do
   let l3<-cut [41] l2
   some (.ask v ss y n,l3,nI)
 | _=>none
def rdB:Nat->Rd
 | d,levels,left,l =>
   match left with
   | 0=>none
   | left+1 =>
     match cut [40] l with
     | none=>if zF l=[116] then some (.leaf 116,zD l,left) else if zF l=[102] then some (.leaf 102,zD l,left) else if zF l=[117] then some (.leaf 117,zD l,left) else none
     | some r=>match lvl (zF r) levels.length with
       | none=>none
       | some v=>match d with
         | 0=>none
         | d+1=>match levels[v]? with
           | none=>none
           | some t=>fu (rdB d) levels v t left (zD r)
def jd (rd:Rd) (levels:List Ty) (left:Nat) (l:Bs):Option (Bd×Bs×Nat):=do
 let l1<-cut [32] l
 rd levels left l1
theorem vS (rd:Rd) (h:List Ty) (hs:List (List Ty)) (left:Nat) (l:Bs):ki rd (h::hs) left l=(do
 let (b,l2,nI)<-jd rd h left l
 let (bs,l3,aU)<-ki rd hs nI l2
 some (b::bs,l3,aU)):=by
 rw [ki,jd];cases cut [32] l <;> rfl
theorem rdParts_snoc (rd:Rd) (hs:List (List Ty)) (h:List Ty):∀ (left:Nat) (l:Bs),ki rd (hs++[h]) left l=(do
 let (bs,l2,nI)<-ki rd hs left l
 let (b,l3,aU)<-jd rd h nI l2
 some (bs++[b],l3,aU)):=by
 induction hs with
 | nil =>
   intro left l;rw [OB,vS];simp only [ki,NX,Mm];cases jd rd h left l <;> simp
 | cons h' hs ih =>
   intro left l;rw [Oe,vS,vS];simp only [NX];cases hp:jd rd h' left l with
   | none=>simp
   | some x =>
     obtain ⟨b,l2,nI⟩:=x;simp only [Mm,ih,NX];cases hq:ki rd hs nI l2 with
     | none=>simp
     | some y =>
       obtain ⟨bs,l3,aU⟩:=y;simp only [Mm];cases hr:jd rd h aU l3 with
       | none=>simp
       | some z=>simp
def qC (levels ts:List Ty):List (List Ty):=ts.map fun a=>levels++a.args
theorem hands_take {levels ts:List Ty} {k:Nat} {t:Ty} (h:ts[k]? = some t):qC levels (ts.take (k+1))=qC levels (ts.take k)++[levels++t.args]:=by
 rw [OG,h];simp [qC]
theorem rdAsk_eq (rd:Rd) (levels:List Ty) (v:Nat) (t:Ty) (left:Nat) (l:Bs):fu rd levels v t left l=(do
 let (ss,l1,aw)<-ki rd (qC levels t.args) left l
 let (y,l2,nI)<-jd rd levels aw l1
 let (n,l3,aU)<-jd rd levels nI l2
 let l4<-cut [41] l3
 some (.ask v ss y n,l4,aU)):=by
 rw [fu];show _=(ki rd (qC levels t.args) left l).bind _;show (ki rd (qC levels t.args) left l).bind _=_;cases ki rd (qC levels t.args) left l with
 | none=>rfl
 | some x =>
   obtain ⟨ss,l1,aw⟩:=x;simp only [Mm,vS,NX];cases jd rd levels aw l1 with
   | none=>rfl
   | some y =>
     obtain ⟨y,l2,nI⟩:=y;simp only [Mm];cases jd rd levels nI l2 with
     | none=>rfl
     | some z =>
       obtain ⟨n,l3,aU⟩:=z;simp [ki]
theorem lvl_lt {w:Bs} {n v:Nat} (h:lvl w n=some v):v<n/\Pz w=.ok (v:Int)/\Pp (v:Int)=w:=by
 unfold lvl at h;split at h
 ·rename_i u hu;split at h
  ·rename_i hc;simp at h;subst h;have e:((u.toNat:Nat):Int)=u:=by omega
   exact ⟨by omega,by rw [e];exact hu,by rw [e];exact hc.1⟩
  ·simp at h
 ·simp at h
theorem lvl_no {w:Bs} {n:Nat} (h:lvl w n=none):(∀ v,Pz w≠.ok v)\/∃ v,Pz w=.ok v/\(Pp v≠w\/(Pp v=w/\v<0)\/(Pp v=w/\0<=v/\(n:Int)<=v)):=by
 unfold lvl at h;cases ha:Pz w
 ·rename_i u;rw [ha] at h;simp at h;refine .inr ⟨u,rfl,?_⟩;by_cases h1:Pp u=w
  ·by_cases h2:0<=u
   ·exact .inr (.inr ⟨h1,h2,h h1 h2⟩)
   ·exact .inr (.inl ⟨h1,by omega⟩)
  ·exact .inl h1
 all_goals
  exact .inl fun v h=>by simp at h
theorem wM {rd:Rd} {levels:List Ty} {left:Nat} {l:Bs} (lP:∀ {lv lf m b r f},rd lv lf m=some (b,r,f)->r.length<=m.length/\f<=lf) {b:Bd} {r:Bs} {f:Nat} (h:jd rd levels left l=some (b,r,f)):r.length<=l.length/\f<=left:=by
 unfold jd at h;simp only [NX,No] at h;obtain ⟨l1,h1,h2⟩:=h;have:=Cut.le h1;have:=lP h2;exact ⟨by omega,this.2⟩
theorem wi {rd:Rd} (lP:∀ {lv lf m b r f},rd lv lf m=some (b,r,f)->r.length<=m.length/\f<=lf) (hs:List (List Ty)):∀ {left:Nat} {l:Bs} {bs:List Bd} {r:Bs} {f:Nat},ki rd hs left l=some (bs,r,f)->r.length<=l.length/\f<=left/\bs.length=hs.length:=by
 induction hs with
 | nil=>intro left l bs r f h;simp [ki] at h;obtain ⟨rfl,rfl,rfl⟩:=h;simp
 | cons h' hs ih =>
   intro left l bs r f h;rw [vS] at h;simp only [NX,No,Prod.exists] at h;obtain ⟨b,l2,f2,h1,bs',l3,f3,h2,h3⟩:=h;simp at h3;obtain ⟨rfl,rfl,rfl⟩:=h3;have:=wM lP h1;have:=ih h2;exact ⟨by omega,by omega,by simp [this.2.2]⟩
theorem xg (l:Bs):(zD l).length<=l.length:=by
 have:zF l++zD l=l:=List.takeWhile_append_dropWhile;have:=congrArg List.length this;simp at this;omega
theorem fv (d:Nat):∀ {lv lf m b r f},rdB d lv lf m=some (b,r,f)->r.length<=m.length/\f<=lf:=by
 induction d with
 | zero =>
   intro lv lf m b r f h;cases lf with
   | zero=>simp [rdB] at h
   | succ lf =>
     unfold rdB at h;simp only at h;have hw:=xg m;cases hc:cut [40] m with
     | none =>
       rw [hc] at h;simp only at h;split at h
       ·simp at h;obtain ⟨_,rfl,rfl⟩:=h;exact ⟨hw,by omega⟩
       ·split at h
        ·simp at h;obtain ⟨_,rfl,rfl⟩:=h;exact ⟨hw,by omega⟩
        ·split at h
         ·simp at h;obtain ⟨_,rfl,rfl⟩:=h;exact ⟨hw,by omega⟩
         ·simp at h
     | some r1 =>
       rw [hc] at h;simp only at h;split at h <;> simp at h
 | succ d ih =>
   intro lv lf m b r f h;cases lf with
   | zero=>simp [rdB] at h
   | succ lf =>
     unfold rdB at h;simp only at h;have hw:=xg m;cases hc:cut [40] m with
     | none =>
       rw [hc] at h;simp only at h;split at h
       ·simp at h;obtain ⟨_,rfl,rfl⟩:=h;exact ⟨hw,by omega⟩
       ·split at h
        ·simp at h;obtain ⟨_,rfl,rfl⟩:=h;exact ⟨hw,by omega⟩
        ·split at h
         ·simp at h;obtain ⟨_,rfl,rfl⟩:=h;exact ⟨hw,by omega⟩
         ·simp at h
     | some r1 =>
       rw [hc] at h;simp only at h;have k0:=Cut.le hc;have k1:=xg r1;split at h
       ·simp at h
       ·split at h
        ·simp at h
        ·rw [rdAsk_eq] at h;simp only [NX,No,Prod.exists] at h;obtain ⟨ss,l1,f1,h1,y,l2,f2,h2,n,l3,f3,h3,l4,h4,h5⟩:=h;simp at h5;obtain ⟨_,rfl,rfl⟩:=h5;have:=wi ih _ h1;have:=wM ih h2;have:=wM ih h3;have:=Cut.le h4;exact ⟨by omega,by omega⟩
theorem cI (d:Nat) (levels:List Ty) (left:Nat) {l r:Bs} (h:cut [40] l=some r):rdB d levels (left+1) l=(match lvl (zF r) levels.length with
        | none=>none
        | some v=>match d with
          | 0=>none
          | d+1=>match levels[v]? with
            | none=>none
            | some t=>fu (rdB d) levels v t left (zD r)):=by
 cases d <;> (unfold rdB;simp only [h]) <;> rfl
theorem cL (d:Nat) (levels:List Ty) (left:Nat) {l:Bs} (h:cut [40] l=none):rdB d levels (left+1) l=(if zF l=[116] then some (Bd.leaf 116,zD l,left) else if zF l=[102] then some (.leaf 102,zD l,left) else if zF l=[117] then some (.leaf 117,zD l,left) else none):=by
 unfold rdB;simp only [h]
theorem bP (rd:Rd) (hs gs:List (List Ty)):∀ (left:Nat) (l:Bs),ki rd hs left l=none->ki rd (hs++gs) left l=none:=by
 induction hs with
 | nil=>intro left l h;simp [ki] at h
 | cons h' hs ih =>
   intro left l h;rw [vS] at h;rw [Oe,vS];simp only [NX] at *;cases hp:jd rd h' left l with
   | none=>simp
   | some x =>
     obtain ⟨b,l2,nI⟩:=x;rw [hp] at h;simp only [Mm] at *;cases hq:ki rd hs nI l2 with
     | none=>rw [ih _ _ hq];simp
     | some y=>rw [hq] at h;simp at h
theorem hands_none {rd:Rd} {levels ts:List Ty} {left:Nat} {l:Bs} (k:Nat) (h:ki rd (qC levels (ts.take k)) left l=none):ki rd (qC levels ts) left l=none:=by
 have e:qC levels ts=qC levels (ts.take k)++qC levels (ts.drop k):=by
  unfold qC;rw [<- List.map_append,OH]
 rw [e];exact bP rd _ _ _ _ h
theorem mK {rd:Rd} {levels ts:List Ty} {left:Nat} {l:Bs} {k:Nat} {t:Ty} {bs:List Bd} {lk:Bs} {leftk:Nat} (ht:ts[k]? = some t) (h:ki rd (qC levels (ts.take k)) left l=some (bs,lk,leftk)) :
 ki rd (qC levels (ts.take (k+1))) left l=(jd rd (levels++t.args) leftk lk).map fun x=>(bs++[x.1],x.2.1,x.2.2):=by
 rw [hands_take ht,rdParts_snoc,h];simp only [NX,Mm];cases jd rd (levels++t.args) leftk lk with
 | none=>rfl
 | some x=>rfl
def kh:Bd->List Bd
 | .leaf _=>[]
 | .ask _ ss y n=>ss++[y,n]
mutual
def zX:Bd->Nat
 | .leaf _=>1
 | .ask _ ss y n=>1+(zR ss+(zX y+zX n))
def zR:List Bd->Nat
 | []=>0
 | b::bs=>zX b+zR bs
end
mutual
def kz:Bd->Nat
 | .leaf _=>0
 | .ask _ ss y n=>max (k8 ss) (max (1+kz y) (1+kz n))
def k8:List Bd->Nat
 | []=>0
 | b::bs=>max (1+kz b) (k8 bs)
end
theorem jy (a b:List Bd):zR (a++b)=zR a+zR b:=by
 induction a with
 | nil=>simp [zR]
 | cons t ts ih=>simp [zR,ih];omega
theorem gD (a b:List Bd):k8 (a++b)=max (k8 a) (k8 b):=by
 induction a with
 | nil=>simp [k8]
 | cons t ts ih=>simp only [Oe,k8,ih];omega
theorem ug (b:Bd):zX b=1+zR (kh b):=by
 cases b with
 | leaf c=>simp [zX,kh,zR]
 | ask v ss y n=>simp [zX,kh,jy,zR]
theorem xD (b:Bd):kz b=k8 (kh b):=by
 cases b with
 | leaf c=>simp [kz,kh,k8]
 | ask v ss y n=>simp only [kz,kh,gD,k8];omega
theorem ye {ts:List Bd} {k:Nat} {t:Bd} (h:ts[k]? = some t):zR (ts.take (k+1))=zR (ts.take k)+zX t:=by
 rw [OG,h,jy];simp [zR]
theorem depthBs_take {ts:List Bd} {k:Nat} {t:Bd} (h:ts[k]? = some t):k8 (ts.take (k+1))=max (k8 (ts.take k)) (1+kz t):=by
 rw [OG,h,gD];simp [k8]
theorem vX (ts:List Bd) (k:Nat):zR (ts.take k)<=zR ts:=by
 have:=jy (ts.take k) (ts.drop k);rw [OH] at this;omega
theorem kW (b:Bd):1<=zX b:=by rw [ug];omega
theorem qL (ts:List Bd):ts.length<=zR ts:=by
 induction ts with
 | nil=>simp
 | cons t ts ih=>simp [zR];have:=kW t;omega
theorem mX {ts:List Bd} (h:∀ t∈ts,kz t<zX t):k8 ts<=zR ts:=by
 induction ts with
 | nil=>simp [k8]
 | cons t ts ih =>
   have h1:=h t (by simp);have h2:=ih (fun x hx=>h x (by simp [hx]));simp only [k8,zR];omega
theorem vo {ts:List Bd} {t:Bd} (h:t∈ts):zX t<=zR ts:=by
 induction ts with
 | nil=>simp at h
 | cons x xs ih =>
   rcases Om.1 h with rfl | h
   ·simp [zR]
   ·have:=ih h;simp [zR];omega
theorem bZ:∀ (n:Nat) (b:Bd),zX b<=n->kz b<zX b:=by
 intro n
 induction n with
 | zero=>intro b h;have:=kW b;omega
 | succ n ih =>
   intro b h;have h1:=ug b;rw [xD,h1];have:=mX (ts:=kh b) (fun t ht=>ih t (by have:=vo ht;omega));omega
theorem tw_all {α:Type} (p:α->Bool) (l:List α):∀ c∈l.takeWhile p,p c=true:=by
 induction l with
 | nil=>simp
 | cons x xs ih =>
   intro c hc;rw [QP] at hc;split at hc
   ·rename_i hx;rcases Om.1 hc with rfl | hc
    ·exact hx
    ·exact ih c hc
   ·simp at hc
theorem tw_end {α:Type} (p:α->Bool) (l:List α):∀ h:(l.takeWhile p).length<l.length,p l[(l.takeWhile p).length]=false:=by
 induction l with
 | nil=>intro h;simp at h
 | cons x xs ih =>
   intro h;by_cases hx:p x=true
   ·have e:(x::xs).takeWhile p=x::xs.takeWhile p:=by rw [QP,if_pos hx]
    have h':(xs.takeWhile p).length<xs.length:=by rw [e] at h;simpa using h
    have:=ih h';simp only [e,N5,List.getElem_cons_succ];exact this
   ·have e:(x::xs).takeWhile p=[]:=by rw [QP,if_neg hx]
    simp only [e,List.length_nil,List.getElem_cons_zero];simpa using hx
def dig (c:UInt8):Bool:=48<=c && c<=57
def qI (m:Bs):Bs:=(m.take 4).takeWhile dig
def jL (ds:Bs):Nat:=ds.foldl (fun n c=>10*n+(c.toNat-48)) 0
def jF (m:Bs):Option (Nat×Nat) :=
 if qI m=[]\/(1<(qI m).length/\m.head? = some 48) then none else some (jL (qI m),(qI m).length)
theorem h_ (m:Bs):(qI m).length<=4/\(qI m).length<=m.length:=by
 have h1:(qI m).length<=(m.take 4).length:=(List.takeWhile_sublist _).length_le;simp at h1;omega
theorem wV (m:Bs):qI m <+: m:=(List.takeWhile_prefix _).trans (List.take_prefix _ _)
theorem xu (m:Bs):∀ c∈qI m,dig c=true:=by
 exact tw_all dig _
theorem digsOf_at {m:Bs} {j:Nat} (h:j<(qI m).length):∃ hm:j<m.length,m[j]=(qI m)[j]/\dig m[j]=true:=by
 have hp:=wV m;have hl:=hp.length_le;refine ⟨by omega,(hp.getElem h).symm,?_⟩;rw [<- hp.getElem h];exact xu m _ (List.getElem_mem h)
theorem digsOf_end {m:Bs}:(qI m).length=4\/m.length<=(qI m).length\/∃ h:(qI m).length<m.length,dig m[(qI m).length]=false:=by
 by_cases h4:(qI m).length=4
 ·exact .inl h4
 by_cases hl:m.length<=(qI m).length
 ·exact .inr (.inl hl)
 have rL:=h_ m;refine .inr (.inr ⟨by omega,?_⟩);have m_:(qI m).length<(m.take 4).length:=by simp;omega
 have h2:dig ((m.take 4)[(qI m).length])=false:=tw_end dig (m.take 4) m_;rw [List.getElem_take] at h2;exact h2
theorem wt (ds:Bs) (c:UInt8):jL (ds++[c])=10*jL ds+(c.toNat-48):=by
 unfold jL;rw [List.foldl_append];rfl
theorem valOf_take {ds:Bs} {j:Nat} (h:j<ds.length):jL (ds.take (j+1))=10*jL (ds.take j)+(ds[j].toNat-48):=by
 rw [OG,List.getElem?_eq_getElem h];exact wt _ _
theorem valOf_lt (ds:Bs) (hd:∀ c∈ds,dig c=true):jL ds<10 ^ ds.length:=by
 have key:∀ (ds:Bs) (a:Nat),(∀ c∈ds,dig c=true)->ds.foldl (fun n c=>10*n+(c.toNat-48)) a<(a+1)*10 ^ ds.length:=by
  intro ds
  induction ds with
  | nil=>intro a _;simp
  | cons c cs ih =>
    intro a h;have hc:=h c (by simp);simp [dig,UInt8.le_iff_toNat_le] at hc;have:=ih (10*a+(c.toNat-48)) (fun x hx=>h x (by simp [hx]));simp only [List.foldl_cons,N5,Nat.pow_succ];refine mg this ?_;rw [show (a+1)*(10 ^ cs.length*10)=(10*(a+1))*10 ^ cs.length from by rw [To (10 ^ cs.length) 10,<- Nat.mul_assoc,To (a+1) 10]];exact R9 _ (by omega)
 simpa [jL] using key ds 0 hd
abbrev RdS:=List Ty->Bs->Option (Bd×Bs)
def qR (rd:RdS) (h:List Ty) (l:Bs):Option (Bd×Bs):=do
 let l1<-cut [32] l
 rd h l1
def zM (rd:RdS):List (List Ty)->Bs->Option (List Bd×Bs)
 | [],l=>some ([],l)
 | h::hs,l=>do
   let (b,l1)<-qR rd h l
   let (bs,l2)<-zM rd hs l1
   some (b::bs,l2)
def jJ (hand:List Ty) (t:Ty):List (List Ty):=qC hand t.args++[hand,hand]
def wj (v n:Nat) (ps:List Bd):Option Bd:=match ps.drop n with
 | [y,no]=>some (.ask v (ps.take n) y no)
 | _=>none
def rdN:Nat->RdS
 | 0,_,_=>none
 | e+1,hand,l=>match l with
   | []=>none
   | c::r=>if c=116\/c=102\/c=117 then some (.leaf c,r) else if c≠40 then none else
     match jF r with
     | none=>none
     | some (v,k)=>match hand[v]? with
       | none=>none
       | some t=>do
         let (ps,l1)<-zM (rdN e) (jJ hand t) (r.drop k)
         let l2<-cut [41] l1
         let b<-wj v t.args.length ps
         some (b,l2)
theorem fE (rd:RdS) (hs:List (List Ty)) (h:List Ty):∀ (l:Bs),zM rd (hs++[h]) l=(do
 let (bs,l1)<-zM rd hs l
 let (b,l2)<-qR rd h l1
 some (bs++[b],l2)):=by
 induction hs with
 | nil =>
   intro l;simp only [OB,zM,NX,Mm]
   done
 | cons h' hs ih =>
   intro l;simp only [Oe,zM,NX];cases hp:qR rd h' l with
   | none=>simp
   | some x =>
     obtain ⟨b,l1⟩:=x;simp only [Mm,ih,NX];cases hq:zM rd hs l1 with
     | none=>simp
     | some y =>
       obtain ⟨bs,l2⟩:=y;simp only [Mm];cases hr:qR rd h l2 with
       | none=>simp
       | some z=>simp
theorem pz (rd:RdS) (hs gs:List (List Ty)):∀ (l:Bs),zM rd hs l=none->zM rd (hs++gs) l=none:=by
 induction hs with
 | nil=>intro l h;simp [zM] at h
 | cons h' hs ih =>
   intro l h;simp only [Oe,zM,NX] at *;cases hp:qR rd h' l with
   | none=>simp
   | some x =>
     obtain ⟨b,l1⟩:=x;rw [hp] at h;simp only [Mm] at *;cases hq:zM rd hs l1 with
     | none=>rw [ih _ hq];simp
     | some y=>rw [hq] at h;simp at h
theorem uD {rd:RdS} {hs:List (List Ty)} {l:Bs} (k:Nat) (h:zM rd (hs.take k) l=none):zM rd hs l=none:=by
 have:=pz rd (hs.take k) (hs.drop k) l h;rwa [OH] at this
theorem xL {rd:RdS} {hs:List (List Ty)} {l:Bs} {k:Nat} {h:List Ty} {ps:List Bd} {lk:Bs} (hk:hs[k]? = some h) (hp:zM rd (hs.take k) l=some (ps,lk)) :
 zM rd (hs.take (k+1)) l=(qR rd h lk).map fun x=>(ps++[x.1],x.2):=by
 rw [OG,hk];show zM rd (hs.take k++[h]) l=_;rw [fE,hp];simp only [NX,Mm];cases qR rd h lk with
 | none=>rfl
 | some x=>rfl
theorem wD {rd:RdS} (hs:List (List Ty)):∀ {l:Bs} {ps:List Bd} {r:Bs},zM rd hs l=some (ps,r)->ps.length=hs.length:=by
 induction hs with
 | nil=>intro l ps r h;simp [zM] at h;obtain ⟨rfl,rfl⟩:=h;rfl
 | cons h' hs ih =>
   intro l ps r h;simp only [zM,NX,No,Prod.exists] at h;obtain ⟨b,l1,h1,bs,l2,h2,h3⟩:=h;simp at h3;obtain ⟨rfl,rfl⟩:=h3;simp [ih h2]
theorem dE {hand:List Ty} {t a:Ty} {k:Nat} (h:t.args[k]? = some a):(jJ hand t)[k]? = some (hand++a.args):=by
 have hl:k<t.args.length:=(N6.1 h).1;unfold jJ;rw [List.getElem?_append_left (by simpa [qC] using hl)];simp [qC,h]
theorem dD {hand:List Ty} {t:Ty} {k:Nat} (h1:t.args.length<=k) (h2:k<t.args.length+2):(jJ hand t)[k]? = some hand:=by
 unfold jJ;rw [List.getElem?_append_right (by simpa [qC] using h1)];simp only [qC,List.length_map];rcases (by omega:k-t.args.length=0\/k-t.args.length=1) with h | h <;> simp [h]
theorem uz (hand:List Ty) (t:Ty):(jJ hand t).length=t.args.length+2:=by simp [jJ,qC]
theorem em {rd:RdS} (lP:∀ {h l b r},rd h l=some (b,r)->r <:+ l) {h:List Ty} {l r:Bs} {b:Bd} (hp:qR rd h l=some (b,r)):r <:+ l:=by
 unfold qR at hp;simp only [NX,No] at hp;obtain ⟨l1,h1,h2⟩:=hp;refine (lP h2).trans ?_;unfold cut at h1;split at h1
 ·simp at h1;subst h1;first | exact Sj _ | exact PY _ _
 ·simp at h1
theorem dI {rd:RdS} (lP:∀ {h l b r},rd h l=some (b,r)->r <:+ l) (hs:List (List Ty)):∀ {l r:Bs} {ps:List Bd},zM rd hs l=some (ps,r)->r <:+ l:=by
 induction hs with
 | nil=>intro l r ps h;simp [zM] at h;obtain ⟨rfl,rfl⟩:=h;exact List.suffix_refl _
 | cons h' hs ih =>
   intro l r ps h;simp only [zM,NX,No,Prod.exists] at h;obtain ⟨b,l1,h1,bs,l2,h2,h3⟩:=h;simp at h3;obtain ⟨rfl,rfl⟩:=h3;exact (ih h2).trans (em lP h1)
theorem wo (e:Nat):∀ {h:List Ty} {l:Bs} {b:Bd} {r:Bs},rdN e h l=some (b,r)->r <:+ l:=by
 induction e with
 | zero=>intro h l b r hq;simp [rdN] at hq
 | succ e ih =>
   intro h l b r hq;cases l with
   | nil=>simp [rdN] at hq
   | cons c m =>
     simp only [rdN] at hq;split at hq
     ·simp at hq;obtain ⟨_,rfl⟩:=hq;exact Sk _ _
     ·split at hq
      ·simp at hq
      ·split at hq
       ·simp at hq
       ·split at hq
        ·simp at hq
        ·simp only [NX,No,Prod.exists] at hq;obtain ⟨ps,l1,h1,l2,h2,b',h3,h4⟩:=hq;simp at h4;obtain ⟨_,rfl⟩:=h4;have k1:=dI ih _ h1;have k2:l2 <:+ l1:=by
          unfold cut at h2;split at h2
          ·simp at h2;subst h2;first | exact Sj _ | exact PY _ _
          ·simp at h2
         exact ((k2.trans k1).trans (PY _ _)).trans (Sk _ _)
theorem uQ {c:UInt8} {l r:Bs} (h:cut [c] l=some r):l=c::r:=by
 unfold cut at h;split at h
 ·rename_i hp;cases l with
  | nil=>simp [Pr] at hp
  | cons x xs =>
    simp [Pr] at hp h;rw [hp,h]
 ·simp at h
theorem mS {v n:Nat} {ps:List Bd} {b:Bd} (h:wj v n ps=some b):zX b=1+zR ps:=by
 unfold wj at h;split at h
 ·rename_i y no hd;simp at h;subst h;have h1:zR ps=zR (ps.take n)+zR (ps.drop n):=by rw [<- jy,OH]
  rw [hd] at h1;simp [zX,zR] at h1 ⊢;omega
 ·simp at h
theorem specPart_size {rd:RdS} (lP:∀ {h l b r},rd h l=some (b,r)->zX b+r.length<=l.length) {h:List Ty} {l r:Bs} {b:Bd} (hp:qR rd h l=some (b,r)):zX b+r.length<=l.length:=by
 unfold qR at hp;simp only [NX,No] at hp;obtain ⟨l1,h1,h2⟩:=hp;have:=lP h2;have:=uQ h1;subst this;simp;omega
theorem fF {rd:RdS} (lP:∀ {h l b r},rd h l=some (b,r)->zX b+r.length<=l.length) (hs:List (List Ty)):∀ {l r:Bs} {ps:List Bd},zM rd hs l=some (ps,r)->zR ps+r.length<=l.length:=by
 induction hs with
 | nil=>intro l r ps h;simp [zM] at h;obtain ⟨rfl,rfl⟩:=h;simp [zR]
 | cons h' hs ih =>
   intro l r ps h;simp only [zM,NX,No,Prod.exists] at h;obtain ⟨b,l1,h1,bs,l2,h2,h3⟩:=h;simp at h3;obtain ⟨rfl,rfl⟩:=h3;have:=ih h2;have:=specPart_size lP h1;simp [zR];omega
theorem rdN_size (e:Nat):∀ {h:List Ty} {l:Bs} {b:Bd} {r:Bs},rdN e h l=some (b,r)->zX b+r.length<=l.length:=by
 induction e with
 | zero=>intro h l b r hq;simp [rdN] at hq
 | succ e ih =>
   intro h l b r hq;cases l with
   | nil=>simp [rdN] at hq
   | cons c m =>
     simp only [rdN] at hq;split at hq
     ·simp at hq;obtain ⟨rfl,rfl⟩:=hq;simp [zX];omega
     ·split at hq
      ·simp at hq
      ·split at hq
       ·simp at hq
       ·split at hq
        ·simp at hq
        ·simp only [NX,No,Prod.exists] at hq;obtain ⟨ps,l1,h1,l2,h2,b',h3,h4⟩:=hq;simp at h4;obtain ⟨rfl,rfl⟩:=h4;have k1:=fF ih _ h1;have k2:=uQ h2;have k3:=mS h3;subst k2;simp at k1 ⊢;omega
theorem decode_hi (s:ByteArray) (pos:Nat) (h:pos<s.size) (ha:128<=(s.get! pos).toNat) :
 128<=(OZ s pos).1/\1<=(OZ s pos).2/\pos+(OZ s pos).2<=s.size/\∀ j,pos<=j->j<pos+(OZ s pos).2->128<=(s.get! j).toNat:=by
 rw [SK];have hn:¬ (s.get! pos).toNat<128:=by omega
 unfold TU;rw [if_neg hn]
 repeat' split
 all_goals refine ⟨by simp only;omega,by simp only;omega,by simp only;omega,fun j h1 h2=>?_⟩
 all_goals simp only at h2
 all_goals rcases (by omega:j=pos\/j=pos+1\/j=pos+2\/j=pos+3) with rfl | rfl | rfl | rfl <;> omega
theorem indexRune_bad (w:World):Calls KD 143 #[.string ⟨#[32,40,41]⟩,.int .i32 65533] w fun en w'=>en=.returned (.int .i64 (-1))/\Below w.heap.size w w':=by
 go_enter PQ,PH;go_wp2_with fail
 go_loopg [5,6] 3 (fun g _ _ wx=>∃ i:Nat,i+g=3/\wx=w.iter ⟨#[32,40,41]⟩ i)
 case atStart=>exact ⟨0,rfl,rfl⟩
 case round =>
  obtain ⟨i,hig,rfl⟩:=hrel;cases gk with
  | zero =>
    obtain rfl:i=3:=by omega
    have DL:=fun ty=>run_next_end (P:=KD) w ⟨#[32,40,41]⟩ 3 ty (by decide);go_wp2_with fail
    go_ret;exact ⟨rfl,(mw _ _).alloc (my _) _⟩
  | succ g =>
    have hi:i<(⟨#[32,40,41]⟩:ByteArray).size:=by show i<3;omega
    obtain ⟨x,hx⟩:∃ x:UInt8,(⟨#[32,40,41]⟩:ByteArray)[i]'hi=x:=⟨_,rfl⟩;have KO:x.toNat<128:=by
     rw [<- hx];rcases (by omega:i=0\/i=1\/i=2) with rfl | rfl | rfl
     ·exact (by decide:(32:UInt8).toNat<128)
     ·exact (by decide:(40:UInt8).toNat<128)
     ·exact (by decide:(41:UInt8).toNat<128)
    have DL:=fun ty=>run_next_ascii (P:=KD) w ⟨#[32,40,41]⟩ i ty hi (by rw [hx];exact KO);rw [hx] at DL;have HX:=mj hx;clear hx;have hne:((x.toNat:Int) == 65533)=false:=by rw [beq_eq_false_iff_ne];omega
    go_wp2_with fail
    go_roundg g
    case measure=>omega
    case rel=>exact ⟨i+1,by omega,rfl⟩
theorem idx_hi:∀ (L:Bs) (c:Int),(∀ b∈L,b.toNat<128)->128<=c->c<256->QV L c.toNat.toUInt8 = -1
 | [],_,_,_,_=>rfl
 | b::l,c,h,h1,h2=>by
   have hb:=h b (by simp);have e:c.toNat.toUInt8.toNat=c.toNat:=by
    show (UInt8.ofNat c.toNat).toNat=_;rw [UInt8.toNat_ofNat'];exact Nat.mod_eq_of_lt (by omega)
   have hne:(b == c.toNat.toUInt8)=false:=by
    rw [beq_eq_false_iff_ne];intro e';rw [e'] at hb;omega
   rw [QV,hne,idx_hi l c (fun x hx=>h x (by simp [hx])) h1 h2];rfl
theorem pJ (t:ByteArray) (c:Int) (h:∀ b∈t.data.toList,b.toNat<128) (hc:Hid (128<=c/\c<256)) (w:World) :
 Calls KD 174 #[.string t,.int .u8 c] w fun e w'=>e=.returned (.int .i64 (-1))/\w'=w :=
 (Tryz.strings_IndexByte t c w).mono fun e w' ⟨h1,h2⟩=>⟨by rw [h1,idx_hi _ _ h hc.out.1 hc.out.2],h2⟩
theorem cV {cs:ByteArray} (h:Hid (∀ b∈cs.data.toList,b.toNat<128)) (i j:Nat):∀ b∈(cs.extract i j).data.toList,b.toNat<128:=by
 intro b hb;refine h.out b ?_;have e:(cs.extract i j).data.toList=(cs.data.toList.drop i).take (j-i):=by simp
 rw [e] at hb;exact List.mem_of_mem_drop (List.mem_of_mem_take hb)
theorem vB {B:Nat} {a w:World} (h:Below B a w) (n:Nat):Below B a (w.drewN n):=h.trans ⟨rfl,rfl,rfl,my _,fun _ _=>rfl⟩
theorem indexRune_hi (cs:ByteArray) (hcs:∀ b∈cs.data.toList,b.toNat<128) (r:Int) (h128:128<=r) (hne:r≠65533) (hv:TV r=true) (w:World):Calls KD 143 #[.string cs,.int .i32 r] w fun en w'=>en=.returned (.int .i64 (-1))/\Below w.heap.size w w':=by
 obtain ⟨n1,n2,n3⟩:=encode_facts r hv h128;have m_:¬ r<128:=by omega
 have hq:(r == 65533)=false:=by rw [beq_eq_false_iff_ne];exact hne
 have Cc:Lib.validRune r=true:=by rw [validRune_eq] at hv;exact hv
 clear hv hne;obtain ⟨rs,he⟩:=zzN (Utf8.encode r);rw [he] at n1 n2 n3;obtain ⟨⟨l⟩⟩:=rs;change 2<=l.length at n1;change l.length<=4 at n2
 match l,n1,n2 with
 | [a,b],_,_ =>
   have hb:128<=b.toNat:=n3 (show 2-1<2 by decide);have me:=b.toNat_lt;have HC:Hid ((128:Int)<=((((⟨⟨[a,b]⟩⟩:ByteArray)[1]'(show 1<2 by decide)).toNat:Int))/\((((⟨⟨[a,b]⟩⟩:ByteArray)[1]'(show 1<2 by decide)).toNat:Int))<256):=by
    show (128:Int)<=(b.toNat:Int)/\(b.toNat:Int)<256;omega
   clear n3;by_cases hi:1<cs.size;rotate_left
   ·have Mb:¬ (1:Int)<(cs.size:Int):=by omega
    go_enter PQ,PH;go_wp2_with (go_at_call 175;refine (Pt r _).mono ?_;rintro en w1 ⟨rfl,hw⟩;rw [Cc];obtain rfl:=hw)
    go_step3
    go_wp2_with fail
    go_loop [9,10] (fun i f=>i=.int .i64 1/\f=.int .i64 0) (fun _ _=>0)
    case atStart=>exact ⟨rfl,rfl⟩
    case round =>
     obtain ⟨rfl,rfl⟩:=hrel;go_wp2_with fail
     change bodyPost KD QO (fun en w'=>en=.returned (.int .i64 (-1))/\Below w1.heap.size w1 w') Q4 _ _;refine bodyPost_ret (v:=.int .i64 (-1)) (by simp [results,PI,go_sem]) rfl ?_;exact ⟨rfl,by first | exact vB (mw _ _).drew _ | exact vB (mw _ _) _ | exact mw _ _⟩
   have Mb:(1:Int)<(cs.size:Int):=by omega
   have J1:(2:Int)<=(cs.size:Int):=by omega
   have tL:Oi.wrap (2:Int)=2:=by decide
   have J5:(cs[1]'hi).toNat<128:=hcs _ (Qd (xs:=cs.data) hi);have hn:((((cs[1]'hi).toNat:Int)) != ((((⟨⟨[a,b]⟩⟩:ByteArray)[1]'(show 1<2 by decide)).toNat:Int)))=true:=by
    show (((cs[1]'hi).toNat:Int) != (b.toNat:Int))=true;rw [bne_iff_ne];omega
   have JD:=mj hcs;clear hcs;go_enter PQ,PH;go_wp2_with (go_at_call 175;refine (Pt r _).mono ?_;rintro en w1 ⟨rfl,hw⟩;rw [Cc];obtain rfl:=hw)
   go_step3
   go_wp2_with fail
   go_loop [9,10] (fun i f=>i=.int .i64 1/\f=.int .i64 0) (fun _ _=>0)
   case atStart=>exact ⟨rfl,rfl⟩
   case round =>
    obtain ⟨rfl,rfl⟩:=hrel;go_wp2_with fail
    go_step3
    go_wp2_with fail
    go_region
    go_wp2_with fail
    go_quiet (first | (go_at_call 174;exact (pJ _ _ (cV JD _ _) HC _).mono fun _ _ ⟨he,hm⟩=>⟨he,_,hm⟩));go_wp2_with fail
    change bodyPost KD QO (fun en w'=>en=.returned (.int .i64 (-1))/\Below w1.heap.size w1 w') Q4 _ _;refine bodyPost_ret (v:=.int .i64 (-1)) (by simp [results,PI,go_sem]) rfl ?_;exact ⟨rfl,by first | exact vB (mw _ _).drew _ | exact vB (mw _ _) _ | exact mw _ _⟩
 | [a,b,c],_,_ =>
   have hb:128<=c.toNat:=n3 (show 3-1<3 by decide);have me:=c.toNat_lt;have HC:Hid ((128:Int)<=((((⟨⟨[a,b,c]⟩⟩:ByteArray)[2]'(show 2<3 by decide)).toNat:Int))/\((((⟨⟨[a,b,c]⟩⟩:ByteArray)[2]'(show 2<3 by decide)).toNat:Int))<256):=by
    show (128:Int)<=(c.toNat:Int)/\(c.toNat:Int)<256;omega
   clear n3;by_cases hi:2<cs.size;rotate_left
   ·have Mb:¬ (2:Int)<(cs.size:Int):=by omega
    go_enter PQ,PH;go_wp2_with (go_at_call 175;refine (Pt r _).mono ?_;rintro en w1 ⟨rfl,hw⟩;rw [Cc];obtain rfl:=hw)
    go_step3
    go_wp2_with fail
    go_loop [9,10] (fun i f=>i=.int .i64 2/\f=.int .i64 0) (fun _ _=>0)
    case atStart=>exact ⟨rfl,rfl⟩
    case round =>
     obtain ⟨rfl,rfl⟩:=hrel;go_wp2_with fail
     change bodyPost KD QO (fun en w'=>en=.returned (.int .i64 (-1))/\Below w1.heap.size w1 w') Q4 _ _;refine bodyPost_ret (v:=.int .i64 (-1)) (by simp [results,PI,go_sem]) rfl ?_;exact ⟨rfl,by first | exact vB (mw _ _).drew _ | exact vB (mw _ _) _ | exact mw _ _⟩
   have Mb:(2:Int)<(cs.size:Int):=by omega
   have J1:(3:Int)<=(cs.size:Int):=by omega
   have tL:Oi.wrap (3:Int)=3:=by decide
   have J5:(cs[2]'hi).toNat<128:=hcs _ (Qd (xs:=cs.data) hi);have hn:((((cs[2]'hi).toNat:Int)) != ((((⟨⟨[a,b,c]⟩⟩:ByteArray)[2]'(show 2<3 by decide)).toNat:Int)))=true:=by
    show (((cs[2]'hi).toNat:Int) != (c.toNat:Int))=true;rw [bne_iff_ne];omega
   have JD:=mj hcs;clear hcs;go_enter PQ,PH;go_wp2_with (go_at_call 175;refine (Pt r _).mono ?_;rintro en w1 ⟨rfl,hw⟩;rw [Cc];obtain rfl:=hw)
   go_step3
   go_wp2_with fail
   go_loop [9,10] (fun i f=>i=.int .i64 2/\f=.int .i64 0) (fun _ _=>0)
   case atStart=>exact ⟨rfl,rfl⟩
   case round =>
    obtain ⟨rfl,rfl⟩:=hrel;go_wp2_with fail
    go_step3
    go_wp2_with fail
    go_region
    go_wp2_with fail
    go_quiet (first | (go_at_call 174;exact (pJ _ _ (cV JD _ _) HC _).mono fun _ _ ⟨he,hm⟩=>⟨he,_,hm⟩));go_wp2_with fail
    change bodyPost KD QO (fun en w'=>en=.returned (.int .i64 (-1))/\Below w1.heap.size w1 w') Q4 _ _;refine bodyPost_ret (v:=.int .i64 (-1)) (by simp [results,PI,go_sem]) rfl ?_;exact ⟨rfl,by first | exact vB (mw _ _).drew _ | exact vB (mw _ _) _ | exact mw _ _⟩
 | [a,b,c,d],_,_ =>
   have hb:128<=d.toNat:=n3 (show 4-1<4 by decide);have me:=d.toNat_lt;have HC:Hid ((128:Int)<=((((⟨⟨[a,b,c,d]⟩⟩:ByteArray)[3]'(show 3<4 by decide)).toNat:Int))/\((((⟨⟨[a,b,c,d]⟩⟩:ByteArray)[3]'(show 3<4 by decide)).toNat:Int))<256):=by
    show (128:Int)<=(d.toNat:Int)/\(d.toNat:Int)<256;omega
   clear n3;by_cases hi:3<cs.size;rotate_left
   ·have Mb:¬ (3:Int)<(cs.size:Int):=by omega
    go_enter PQ,PH;go_wp2_with (go_at_call 175;refine (Pt r _).mono ?_;rintro en w1 ⟨rfl,hw⟩;rw [Cc];obtain rfl:=hw)
    go_step3
    go_wp2_with fail
    go_loop [9,10] (fun i f=>i=.int .i64 3/\f=.int .i64 0) (fun _ _=>0)
    case atStart=>exact ⟨rfl,rfl⟩
    case round =>
     obtain ⟨rfl,rfl⟩:=hrel;go_wp2_with fail
     change bodyPost KD QO (fun en w'=>en=.returned (.int .i64 (-1))/\Below w1.heap.size w1 w') Q4 _ _;refine bodyPost_ret (v:=.int .i64 (-1)) (by simp [results,PI,go_sem]) rfl ?_;exact ⟨rfl,by first | exact vB (mw _ _).drew _ | exact vB (mw _ _) _ | exact mw _ _⟩
   have Mb:(3:Int)<(cs.size:Int):=by omega
   have J1:(4:Int)<=(cs.size:Int):=by omega
   have tL:Oi.wrap (4:Int)=4:=by decide
   have J5:(cs[3]'hi).toNat<128:=hcs _ (Qd (xs:=cs.data) hi);have hn:((((cs[3]'hi).toNat:Int)) != ((((⟨⟨[a,b,c,d]⟩⟩:ByteArray)[3]'(show 3<4 by decide)).toNat:Int)))=true:=by
    show (((cs[3]'hi).toNat:Int) != (d.toNat:Int))=true;rw [bne_iff_ne];omega
   have JD:=mj hcs;clear hcs;go_enter PQ,PH;go_wp2_with (go_at_call 175;refine (Pt r _).mono ?_;rintro en w1 ⟨rfl,hw⟩;rw [Cc];obtain rfl:=hw)
   go_step3
   go_wp2_with fail
   go_loop [9,10] (fun i f=>i=.int .i64 3/\f=.int .i64 0) (fun _ _=>0)
   case atStart=>exact ⟨rfl,rfl⟩
   case round =>
    obtain ⟨rfl,rfl⟩:=hrel;go_wp2_with fail
    go_step3
    go_wp2_with fail
    go_region
    go_wp2_with fail
    go_quiet (first | (go_at_call 174;exact (pJ _ _ (cV JD _ _) HC _).mono fun _ _ ⟨he,hm⟩=>⟨he,_,hm⟩));go_wp2_with fail
    change bodyPost KD QO (fun en w'=>en=.returned (.int .i64 (-1))/\Below w1.heap.size w1 w') Q4 _ _;refine bodyPost_ret (v:=.int .i64 (-1)) (by simp [results,PI,go_sem]) rfl ?_;exact ⟨rfl,by first | exact vB (mw _ _).drew _ | exact vB (mw _ _) _ | exact mw _ _⟩
def adv (w:World) (g:Nat) (s:ByteArray) (p:Nat):World:={ w with heap:=w.heap.setIfInBounds g (.stringIter s p) }
theorem run_next_in {P:Program} {wx:World} {g:Nat} {s:ByteArray} {pos:Nat} (h:wx.heap[g]? = some (.stringIter s pos)) (hp:pos<s.size) (ty:TypeId) :
 (Instr.next (.pointer (some ⟨g,0,none⟩)) true ty).run P wx=.ok (.tuple #[.bool true,.int .i64 pos,.int .i32 (OZ s pos).1]) (adv wx g s (pos+(OZ s pos).2)):=by
 simp only [Instr.next,getObj,setObj,Rb,Ue,h,Result.andThen,hp,if_true,adv];simp [goInt]
theorem run_next_out {P:Program} {wx:World} {g:Nat} {s:ByteArray} {pos:Nat} (h:wx.heap[g]? = some (.stringIter s pos)) (hp:¬ pos<s.size) (ty:TypeId) :
 (Instr.next (.pointer (some ⟨g,0,none⟩)) true ty).run P wx=.ok (.tuple #[.bool false]) wx:=by
 simp [Instr.next,getObj,Ue,h,hp]
theorem adv_at {wx:World} {g:Nat} {s:ByteArray} {p p':Nat} (h:wx.heap[g]? = some (.stringIter s p)):(adv wx g s p').heap[g]? = some (.stringIter s p'):=by
 have hl:=zZ h;simp [adv,hl]
theorem adv_size (wx:World) (g:Nat) (s:ByteArray) (p:Nat):(adv wx g s p).heap.size=wx.heap.size:=by simp [adv]
theorem adv_below {w wx:World} {s:ByteArray} {p:Nat} {B:Nat} (g:Nat) (h:Below B w wx) (hg:B<=g):Below B w (adv wx g s p) :=
 ⟨h.os,h.tape,h.output,by rw [adv_size];exact h.size,fun k hk=>by
  rw [<- h.block k hk];simp only [adv,Array.getElem?_setIfInBounds]
  rw [if_neg (by omega)]⟩
theorem decode_valid (s:ByteArray) (pos:Nat):TV ((OZ s pos).1:Int)=true:=by
 have h:=Lib.rune_valid (s.extract pos s.size);rw [Lib.tail_decode s pos 0,Nat.add_zero] at h;rw [validRune_eq];exact h
theorem get_data (s:ByteArray) {j:Nat} (h:j<s.size):s.data.toList[j]? = some (s.get! j):=by
 have h':j<s.data.size:=h;simp only [ByteArray.get!,Array.getElem?_toList];rw [Oo h',getElem!_pos s.data j h']
theorem mZ (s:ByteArray) (h8:s.size<=8) (w:World):Calls KD 116 #[.string s,.string ⟨#[32,40,41]⟩] w fun en w'=>en=.returned (.int .i64 (Lib.indexAny s.data.toList [32,40,41]))/\Below w.heap.size w w':=by
 have h8z:decide ((8:Int)<(s.size:Int))=false:=decide_eq_false (by omega);go_enter Tryz.func116,Tryz.ntmps116;go_wp2_with (go_at_call 144;refine (Tryz.strings_shouldUseASCIISet _ _).mono ?_;rintro e w' ⟨rfl,hw⟩;rw [hw,h8z])
 go_loopw [9,10] (fun _ _ wx=>∃ i:Nat,i<=s.size/\wx.heap[w.heap.size]? = some (.stringIter s i)/\Below w.heap.size w wx/\Uf s.data.toList [32,40,41] i) (fun _ _ wx=>s.size-wx.iterPos w.heap.size)
 case atStart=>exact ⟨0,Og _,World.iter_heap _ _ _,(mw _ _).alloc (my _) _,Lib.NoAny.zero _ _⟩
 case round =>
  obtain ⟨i,hi,Du,hb,aA⟩:=hrel;have HN:=mj aA;have HI:=mj Du;have HB:=mj hb;clear aA;by_cases m_:i<s.size;rotate_left
  ·have DL:=run_next_out (P:=KD) Du m_;obtain rfl:i=s.size:=by omega
   clear Du hb;go_wp2_with fail
   go_ret;exact ⟨un (by rw [Lib.indexAny_none (by have:=HN.out;simpa using this)]),HB.out⟩
  ·have DL:=run_next_in (P:=KD) Du m_;have EC:=adv_at (p':=i+(OZ s i).2) Du;have mi:=adv_below (s:=s) (p:=i+(OZ s i).2) w.heap.size hb (my _);have sW:wr.iterPos w.heap.size=i:=by unfold RE;rw [Du]
   have hxd:=get_data s m_;generalize adv wr w.heap.size s (i+(OZ s i).2)=W1 at *;have HG:=mj EC;have nE:=mj mi;have HP:=mj sW;have hgl:=zZ EC;clear Du hb EC mi sW;by_cases hx:(s.get! i).toNat<128
   ·have hd:OZ s i=((s.get! i).toNat,1):=by rw [SK];unfold TU;rw [if_pos hx]
    rw [hd] at DL HG;obtain ⟨x,hxe⟩:=zzM (s.get! i);rw [<- hxe] at DL hxd hx;have HX:=mj hxd;clear hxd hd hxe;have Dw:=Lib.contains_iff_indexByte [32,40,41] x;have G8:((x.toNat:Int)).toNat.toUInt8=x:=by simp
    cases Fs:([32,40,41]:Bs).contains x
    ·rw [Fs] at Dw;have oV:¬ ((0:Int)<=QV [32,40,41] x):=of_decide_eq_false Dw.symm;have HIN:=mj Fs;clear Dw Fs;go_wp2_with (go_at_call 143;refine (Rs _ _ _ (by omega) (by omega)).mono ?_;rintro e w2 ⟨rfl,hw⟩;rw [hw,G8])
     go_roundw
     case rel=>exact ⟨i+1,by omega,HG.out,nE.out,HN.out.succ HX.out HIN.out⟩
     case measure =>
      have h1:=HP.out;have h2:W1.iterPos w.heap.size=i+1:=by unfold RE;rw [HG.out]
      simp only [h1,h2];omega
    ·rw [Fs] at Dw;have Bg:(0:Int)<=QV [32,40,41] x:=of_decide_eq_true Dw.symm;have HIN:=mj Fs;clear Dw Fs;go_wp2_with (go_at_call 143;refine (Rs _ _ _ (by omega) (by omega)).mono ?_;rintro e w2 ⟨rfl,hw⟩;rw [hw,G8])
     go_ret;exact ⟨un (by rw [Lib.indexAny_hit HN.out HX.out HIN.out]),nE.out⟩
   ·obtain ⟨d1,d2,d3,d4⟩:=decode_hi s i m_ (by omega);have dv:=decode_valid s i;generalize (OZ s i).1=r at *;generalize (OZ s i).2=k at *;have LN:Uf s.data.toList [32,40,41] (i+k):=by
     intro j b hj hbj;by_cases Fr:j<i
     ·exact HN.out j b Fr hbj
     ·have h1:=d4 j (by omega) hj;rw [get_data s (by omega)] at hbj;obtain rfl:=Ob hbj;have Bq:(32:UInt8).toNat=32:=rfl;have se:(40:UInt8).toNat=40:=rfl;have Au:(41:UInt8).toNat=41:=rfl;rw [Bool.eq_false_iff];intro hc;simp only [List.contains_iff_mem,Om,List.not_mem_nil,or_false] at hc;rcases hc with hc | hc | hc <;> rw [hc] at h1 <;> omega
    have Hn:=mj LN;have GN:Calls KD 143 #[.string ⟨#[32,40,41]⟩,.int .i32 (r:Int)] W1 fun en w'=>en=.returned (.int .i64 (-1))/\Below W1.heap.size W1 w':=by
     by_cases h:(r:Int)=65533
     ·rw [h];exact indexRune_bad W1
     ·exact indexRune_hi ⟨#[32,40,41]⟩ (by decide) _ (by omega) h dv W1
    have HR:=mj GN;clear LN GN d4 dv hxd;go_wp2_with (go_at_call 143;refine HR.out.mono ?_;rintro e w2 ⟨rfl,hw⟩)
    have hk:w2.heap[w.heap.size]? = some (.stringIter s (i+k)):=by rw [hw.block _ hgl];exact HG.out
    have me:=zzT nE.out hw;have HK:=mj hk;clear hk;go_roundw
    case rel=>exact ⟨i+k,by omega,HK.out,me,Hn.out⟩
    case measure =>
     have h1:=HP.out;have h2:w2.iterPos w.heap.size=i+k:=by unfold RE;rw [HK.out]
     simp only [h1,h2];omega
end Go.Proofs.YtpgiohmcggllgaaGreatDoor

/- Walks. -/
import Derived.WalkKit
import Derived.Lib.Strings
import Derived.Lib.Hide
import Derived.WalkSpells
import Derived.WalkLawsBesides
import Derived.Test.YtnfenijemllkbaaGreatDoorRows
import Derived.Test.YtnfenijemllkbaaGreatDoorShelf
import Derived.Lib.AtoiAll
import Derived.Lib.ItoaNum
import Derived.Laws.RangeAny
import Derived.Laws.Runes
import Derived.Lib.DecodeN
import Derived.Lib.QuoteLoop
import Derived.Deep.RegionHeld3
import Derived.WalkMore
import Derived.Deep.QuietTactic
import Derived.BigQuiet
import Derived.Lib.RuneCountTail
set_option linter.unusedVariables false
set_option linter.unusedSimpArgs false
set_option maxHeartbeats 2000000
set_option maxRecDepth 100000
open Option renaming none->U
open Option renaming some->OK
open Go.IntKind renaming i64->RD
open Array renaming ext'->VR,getElem?_eq_getElem->Sh,getElem_mem_toList->T7,getElem_modify_self->T0,size_append->VS
open Go.Builtin renaming append_->Ub,firstCells->XU,lenOf->XT,nextslicecap->XV,zeroCells->Tz
open Go.Exit renaming ret->UT
open Go.IntKind renaming i64->SW
open Go.Lib renaming NoAny->XH,atoiAll->To,decodeN->Xu,decode_at->Ww,hasPrefix->Vt,indexByte->UN,itoa->Tb,trimPrefix->Wm
open Go.Proofs.Tryz renaming f116->UH,func116->TG,func129->Wv,ntmps116->Tw,ntmps129->Wn,prog->RG,results116->Tx,strings_IndexRune_ascii->Vb,underlying37->T6,utf8_ValidRune->Te
open Go.Result renaming andThen_ok->UM
open Go.Sem renaming run->XG,run_bind->U0,run_pure->VE
open Go.Utf8 renaming decode->SP,valid->Xv
open Go.Value renaming ownBlock->RM,slice->RI
open Go.World renaming cell?->RE,frozen?->RO,iterPos->Vl,ownsRow_nil->Sf
open List renaming append_assoc->Sn,cons_append->R5,drop_suffix->TL,eq_nil_of_length_eq_zero->St,getElem?_drop->SA,getElem?_eq_some_iff->RR,getElem?_take->Su,isPrefixOf->TC,isPrefixOf_iff_prefix->SL,length_append->RL,length_cons->RU,map_cons->Sa,map_nil->SM,map_toArray->U1,mem_cons->Sc,nil_append->Ss,size_toArray->Uc,suffix_cons->V6,tail_suffix->V5,takeWhile_cons->TS,take_add_one->Sd,take_append_drop->R7,take_left->Vo
open List.IsPrefix renaming length_le->Tj
open Nat renaming add_mul->Uo,mul_comm->WV,mul_le_mul_right->VO,mul_one->Xt,zero_add->SU,zero_le->R6
open Option renaming bind_eq_bind->RJ,bind_eq_some_iff->RH,bind_some->RF
open Option.some renaming inj->RZ
namespace Go.Proofs.YtnfenijemllkbaaGreatDoor
open Go.RowKit
instance:CoeFun World (fun _=>Addr->Option Value):=⟨World.cell?⟩
instance:Coe World Nat:=⟨fun w=>w.heap.size⟩
instance:Coe Nat Addr:=⟨fun b=>⟨b,0,none⟩⟩
instance {b k:Nat}:CoeDep (Nat×Nat) (b,k) Addr:=⟨⟨b,k,none⟩⟩
instance {w:World} {k:Nat}:CoeDep (World×Nat) (w,k) Addr:=⟨⟨w.heap.size,k,none⟩⟩
instance {b k:Nat}:CoeDep (Nat×Nat) (b,k) (Option Addr):=⟨some ⟨b,k,none⟩⟩
instance:Coe Nat Value:=⟨fun b=>.pointer (some ⟨b,0,none⟩)⟩
instance:Coe Unit Value:=⟨fun _=>.slice none 0 0⟩
instance:Coe Int Value:=⟨fun n=>.int .i64 n⟩
theorem yc1 {w:World}{b:Nat}{x0:Value}{T:TypeId}(h:w.heap[b]?=some (.cells #[x0] T (0,0))):w b=x0/\w.frozen? b=false:=⟨by simp[RE,h],by simp[RO,h]⟩
theorem yc4 {w:World}{b:Nat}{x0 x1 x2 x3:Value}{T:TypeId}(h:w.heap[b]?=some (.cells #[x0,x1,x2,x3] T (0,0))):w b=x0/\w (b,1)=x1/\w (b,2)=x2/\w (b,3)=x3/\w.frozen? b=false/\w.frozen? (b,1)=false/\w.frozen? (b,2)=false/\w.frozen? (b,3)=false:=⟨by simp[RE,h],by simp[RE,h],by simp[RE,h],by simp[RE,h],by simp[RO,h],by simp[RO,h],by simp[RO,h],by simp[RO,h]⟩
theorem ya4 {B b:Nat}{v w:World}{x0 x1 x2 x3:Value}(h:Below B v w)(k:B<=b):Below B v ((((w.setCell b x0).setCell (b,1) x1).setCell (b,2) x2).setCell (b,3) x3):=(((h.setCell (p:=b) k _).setCell (p:=⟨b,1,none⟩) k _).setCell (p:=⟨b,2,none⟩) k _).setCell (p:=⟨b,3,none⟩) k _
abbrev No (w x:World):Prop:=Below w w x
theorem zzT {w a b:World}(h:No w a)(k:No a b):No w b:=h.trans (k.mono h.size)
theorem zzN {α:Sort _}(a:α):∃x,a = x:=⟨a,rfl⟩
theorem zzM {α:Sort _}(a:α):∃x,x = a:=⟨a,rfl⟩
theorem r9 {p:Prop}(h:p):Hid p:=Lib.hid h
theorem r_ {a b:Prop}(x:a)(y:b):a/\b:=⟨x,y⟩
theorem sZ (n:Nat):n<=n:=Nat.le_refl n
theorem sK (w:World)(a:Addr){u:Value}(h:w.cell? a=u):a.block<w:=World.block_lt_of_cell? w a h
theorem sQ (B:Nat)(w:World):Below B w w:=Below.refl B w
theorem sJ (w:World)(a:Addr)(u:Value)(k:Nat)(h:k≠a.block):(w.setCell a u).heap[k]?=w.heap[k]?:=Below.heap_setCell w a u k h
theorem sV {n m k:Nat}(a:n<m)(b:m<=k):n<k:=Nat.lt_of_lt_of_le a b
theorem sU {n m k:Nat}(a:n<=m)(b:m<=k):n<=k:=Nat.le_trans a b
inductive DV where
 |val (v:Value)
 |ptr (e:TypeId) (cs:List DV)
 |sl (e:TypeId) (sz n:Nat) (cs:List DV)
 |agg (cs:List DV)
 |any
mutual
def Rep (F:Nat->Prop)(w:World):DV->Value->Prop
 |.val u,v=>v=u
 |.ptr e cs,v=>∃b c,v=.pointer (OK ⟨b,0,U⟩)/\F b/\w.heap[b]?=OK (.cells c e (0,0))/\zY F w cs c.toList
 |.sl e sz n cs,v=>cs.length=n*sz/\∃a cap,v=.slice a n cap/\n<=cap/\(a=U->cap=0) /\
  (n=0\/∃b o c fr,a=OK ⟨b,o,U⟩/\F b/\w.heap[b]?=OK (.cells c e fr)/\zY F w cs ((c.toList.drop o).take (n*sz)))
 |.agg cs,v=>∃vs,v=.agg vs/\zY F w cs vs.toList
 |.any,v=>∃i:Int,v=.int RD i
def zY (F:Nat->Prop)(w:World):List DV->List Value->Prop
 |[],vs=>vs=[]
 |d::ds,vs=>∃v vs',vs=v::vs'/\Rep F w d v/\zY F w ds vs'
end
theorem zC {F:Nat->Prop}{w:World}{u v:Value}:Rep F w (.val u) v↔v=u:=by simp[Rep]
theorem jx {F:Nat->Prop}{w:World}{e:TypeId}{cs:List DV}{v:Value}:Rep F w (.ptr e cs) v↔∃b c,v=.pointer (OK ⟨b,0,U⟩)/\F b/\w.heap[b]?=OK (.cells c e (0,0))/\zY F w cs c.toList:=by
 rw[Rep]
theorem zv {F:Nat->Prop}{w:World}{e:TypeId}{sz n:Nat}{cs:List DV}{v:Value}:Rep F w (.sl e sz n cs) v↔cs.length=n*sz/\∃a cap,v=.slice a n cap/\n<=cap/\(a=U->cap=0) /\
 (n=0\/∃b o c fr,a=OK ⟨b,o,U⟩/\F b/\w.heap[b]?=OK (.cells c e fr)/\zY F w cs ((c.toList.drop o).take (n*sz))):=by
 rw[Rep]
theorem Rep_agg {F:Nat->Prop}{w:World}{cs:List DV}{v:Value}:Rep F w (.agg cs) v↔∃vs,v=.agg vs/\zY F w cs vs.toList:=by
 rw[Rep]
theorem y9 {F:Nat->Prop}{w:World}{v:Value}:Rep F w .any v↔∃i:Int,v=.int RD i:=by rw[Rep]
theorem zE {F:Nat->Prop}{w:World}{vs:List Value}:zY F w [] vs↔vs=[]:=by simp[zY]
theorem zQ {F:Nat->Prop}{w:World}{d:DV}{ds:List DV}{vs:List Value}:zY F w (d::ds) vs↔∃v vs',vs=v::vs'/\Rep F w d v/\zY F w ds vs':=by
 rw[zY]
theorem zY.length {F:Nat->Prop}{w:World}{ds:List DV}:∀ {vs:List Value},zY F w ds vs->ds.length=vs.length:=by
 induction ds with
 |nil=>intro vs h;rw[zE]at h;simp[h]
 |cons d ds ih=>intro vs h;rw[zQ]at h;obtain⟨v,vs',rfl,_,h2⟩:=h;simp[ih h2]
theorem zY.at {F:Nat->Prop}{w:World}{ds:List DV}:∀ {vs:List Value},zY F w ds vs->∀ {i:Nat} {d:DV},ds[i]?=OK d->∃v,vs[i]?=OK v/\Rep F w d v:=by
 induction ds with
 |nil=>intro vs h i d hd;simp at hd
 | cons d ds ih =>
   intro vs h i d' hd;rw[zQ]at h;obtain⟨v,vs',rfl,h1,h2⟩:=h;cases i with
   |zero=>simp at hd;subst hd;exact⟨v,by simp,h1⟩
   |succ i=>simp at hd;simpa using ih h2 hd
theorem zY.append {F:Nat->Prop}{w:World}{ds es:List DV}:∀ {vs us:List Value},zY F w ds vs->zY F w es us->zY F w (ds++es) (vs++us):=by
 induction ds with
 |nil=>intro vs us h k;rw[zE]at h;subst h;simpa using k
 | cons d ds ih =>
   intro vs us h k;rw[zQ]at h;obtain⟨v,vs',rfl,h1,h2⟩:=h;simp only[R5];rw[zQ];exact⟨v,vs'++us,rfl,h1,ih h2 k⟩
theorem zY.split {F:Nat->Prop}{w:World}{ds es:List DV}:∀ {vs:List Value},zY F w (ds++es) vs->zY F w ds (vs.take ds.length)/\zY F w es (vs.drop ds.length):=by
 induction ds with
 |nil=>intro vs h;simpa[zE] using h
 | cons d ds ih =>
   intro vs h;simp only[R5]at h;rw[zQ]at h;obtain⟨v,vs',rfl,h1,h2⟩:=h;have:=ih h2;simp only[RU,List.take_succ_cons,List.drop_succ_cons];exact⟨zQ.2 ⟨v,_,rfl,h1,this.1⟩,this.2⟩
theorem zY.one {F:Nat->Prop}{w:World}{d:DV}{v:Value}(h:Rep F w d v):zY F w [d] [v]:=
 zQ.2 ⟨v,[],rfl,h,zE.2 rfl⟩
theorem Rep.keep {F F':Nat->Prop}{w w':World}(hk:∀b o,F b->w.heap[b]?=OK o->F' b/\w'.heap[b]?=OK o) :
 (∀d v,Rep F w d v->Rep F' w' d v)/\(∀ds vs,zY F w ds vs->zY F' w' ds vs):=by
 have key:∀d:DV,(∀v,Rep F w d v->Rep F' w' d v):=by
  intro d;refine DV.rec (motive_1:=fun d=>∀v,Rep F w d v->Rep F' w' d v) (motive_2:=fun ds=>∀vs,zY F w ds vs->zY F' w' ds vs) ?_ ?_ ?_ ?_ ?_ ?_ ?_ d
  ·intro u v h;rw[zC] at *;exact h
  ·intro e cs ih v h;rw[jx] at *;obtain⟨b,c,hv,hb,hc,hr⟩:=h;obtain⟨k1,k2⟩:=hk b _ hb hc;exact⟨b,c,hv,k1,k2,ih _ hr⟩
  ·intro e sz n cs ih v h;rw[zv] at *;obtain⟨hl,a,cap,hv,hn,hz,h⟩:=h;refine⟨hl,a,cap,hv,hn,hz,?_⟩;rcases h with h|⟨b,o,c,fr,ha,hb,hc,hr⟩
   ·exact .inl h
   ·obtain⟨k1,k2⟩:=hk b _ hb hc;exact .inr ⟨b,o,c,fr,ha,k1,k2,ih _ hr⟩
  ·intro cs ih v h;rw[Rep_agg] at *;obtain⟨vs,hv,hr⟩:=h;exact⟨vs,hv,ih _ hr⟩
  ·intro v h;rw[y9] at *;exact h
  ·intro vs h;rw[zE] at *;exact h
  ·intro d ds ihd ihs vs h;rw[zQ] at *;obtain⟨v,vs',hv,h1,h2⟩:=h;exact⟨v,vs',hv,ihd _ h1,ihs _ h2⟩
 refine⟨key,?_⟩;intro ds
 induction ds with
 |nil=>intro vs h;rw[zE] at *;exact h
 | cons d ds ih =>
   intro vs h;rw[zQ] at *;obtain⟨v,vs',hv,h1,h2⟩:=h;exact⟨v,vs',hv,key _ _ h1,ih _ h2⟩
theorem zZ {w:World}{b:Nat}{o:Obj}(h:w.heap[b]?=OK o):b<w:=by
 rcases Nat.lt_or_ge b w with h'|h'
 ·exact h'
 ·simp[Array.getElem?_eq_none h']at h
structure But (m:Nat->Prop)(w w':World):Prop where
 os:w'.os=w.os
 tape:w'.tape=w.tape
 output:w'.output=w.output
 size:(w:Nat)<=w'
 block:∀k,k<(w:Nat)->¬m k->w'.heap[k]?=w.heap[k]?
theorem But.refl (m:Nat->Prop)(w:World):But m w w:=⟨rfl,rfl,rfl,sZ _,fun _ _ _=>rfl⟩
theorem But.trans {m:Nat->Prop}{a b c:World}(h:But m a b)(k:But m b c):But m a c:=
 ⟨k.os.trans h.os,k.tape.trans h.tape,k.output.trans h.output,sU h.size k.size,fun i hi hn=>(k.block i (sV hi h.size) hn).trans (h.block i hi hn)⟩
theorem But.trans' {m m':Nat->Prop}{a b c:World}(h:But m a b)(k:But m' b c)(hm:∀i,i<(a:Nat)->m' i->m i):But m a c:=
 ⟨k.os.trans h.os,k.tape.trans h.tape,k.output.trans h.output,sU h.size k.size,fun i hi hn=>(k.block i (sV hi h.size) (fun e=>hn (hm i hi e))).trans (h.block i hi hn)⟩
theorem But.weak {m m':Nat->Prop}{a b:World}(h:But m a b)(k:∀i,i<(a:Nat)->m i->m' i):But m' a b:=
 ⟨h.os,h.tape,h.output,h.size,fun i hi hn=>h.block i hi (fun hm=>hn (k i hi hm))⟩
theorem But.ofBelow {m:Nat->Prop}{a b:World}(h:No a b):But m a b:=⟨h.os,h.tape,h.output,h.size,fun i hi _=>h.block i hi⟩
theorem But.toBelow {m:Nat->Prop}{B:Nat}{a b:World}(h:But m a b)(hB:B<=a)(hm:∀i,i<B->¬m i):Below B a b:=
 ⟨h.os,h.tape,h.output,h.size,fun i hi=>h.block i (by omega) (hm i hi)⟩
theorem But.drew {m:Nat->Prop}{a b:World}(h:But m a b):But m a b.drew:=⟨h.os,h.tape,h.output,h.size,h.block⟩
theorem But.alloc {m:Nat->Prop}{a b:World}(h:But m a b)(o:Obj):But m a (b.alloc o):=
 h.trans ⟨rfl,rfl,rfl,by simp,fun k hk _=>Below.heap_alloc _ _ _ (by omega)⟩
theorem But.setCell {m:Nat->Prop}{a b:World}(h:But m a b){p:Addr}(hp:m p.block\/a<=p.block)(u:Value):But m a (b.setCell p u):=
 ⟨h.os,h.tape,h.output,by have:=h.size;simpa [World.setCell] using this,fun k hk hn=>by
  rw [sJ _ _ _ _ (by rcases hp with hp | hp;· (intro e;subst e;exact hn hp)
                     ·omega)]
  exact h.block k hk hn⟩
theorem But.setS {sc:Nat}{a b:World}(h:But (fun x=>x=sc) a b)(o:Nat)(u:Value):But (fun x=>x=sc) a (b.setCell (sc,o) u):=
 h.setCell (p:=(sc,o)) (.inl rfl) u
theorem But.cell {m:Nat->Prop}{w w':World}(h:But m w w'){p:Addr}(hp:p.block<w)(hm:¬m p.block):w'.cell? p=w.cell? p:=World.cell?_of_block (w:=w) (h.block p.block hp hm)
theorem Rep.but {F F':Nat->Prop}{m:Nat->Prop}{w w':World}(hb:But m w w')(hF:∀b,F b->¬m b/\F' b){d:DV}{v:Value}(h:Rep F w d v):Rep F' w' d v:=
 (Rep.keep fun b o hf ho=>⟨(hF b hf).2,by rw[hb.block b (zZ ho) (hF b hf).1];exact ho⟩).1 d v h
theorem zY.but {F F':Nat->Prop}{m:Nat->Prop}{w w':World}(hb:But m w w')(hF:∀b,F b->¬m b/\F' b){d:List DV}{v:List Value}(h:zY F w d v):zY F' w' d v:=
 (Rep.keep fun b o hf ho=>⟨(hF b hf).2,by rw[hb.block b (zZ ho) (hF b hf).1];exact ho⟩).2 d v h
theorem Rep.below {F F':Nat->Prop}{w w':World}(hb:No w w')(hF:∀b,F b->F' b){d:DV}{v:Value}(h:Rep F w d v):Rep F' w' d v:=
 (Rep.keep fun b o hf ho=>⟨hF b hf,by rw[hb.block b (zZ ho)];exact ho⟩).1 d v h
theorem zY.below {F F':Nat->Prop}{w w':World}(hb:No w w')(hF:∀b,F b->F' b){d:List DV}{v:List Value}(h:zY F w d v):zY F' w' d v:=
 (Rep.keep fun b o hf ho=>⟨hF b hf,by rw[hb.block b (zZ ho)];exact ho⟩).2 d v h
theorem Rep.drew {F:Nat->Prop}{w:World}{d:DV}{v:Value}(h:Rep F w d v):Rep F w.drew d v:=(Rep.keep (w:=w) (w':=w.drew) fun _ _ hf ho=>⟨hf,ho⟩).1 _ _ h
theorem zY.drew {F:Nat->Prop}{w:World}{d:List DV}{v:List Value}(h:zY F w d v):zY F w.drew d v:=(Rep.keep (w:=w) (w':=w.drew) fun _ _ hf ho=>⟨hf,ho⟩).2 _ _ h
def At1 (F:Nat->Prop)(w:World)(cs:List DV)(a:Option Addr)(k:Nat):Prop:=
 ∃b o u d,a=OK ⟨b,o,U⟩/\F b/\b<(w:Nat)/\cs[k]?=OK d/\w.cell? ⟨b,o+k,U⟩=OK u/\Rep F w d u
def Ats (F:Nat->Prop)(w:World)(n:Nat)(cs:List DV)(a:Option Addr):Prop:=∀k,k<n->At1 F w cs a k
theorem zH {F:Nat->Prop}{w:World}{e:TypeId}{n:Nat}{cs:List DV}{v:Value}(h:Rep F w (.sl e 1 n cs) v) :
 ∃a cap,v=.slice a n cap/\n<=cap/\cs.length=n/\Ats F w n cs a:=by
 rw[zv]at h;obtain⟨hl,a,cap,hv,hn,hz,h⟩:=h;rw[Xt]at hl;refine⟨a,cap,hv,hn,hl,fun k hk=>?_⟩;rcases h with h|⟨b,o,c,fr,ha,hb,hc,hr⟩
 ·omega
 ·obtain⟨d,hd⟩:∃d,cs[k]?=OK d:=⟨cs[k],by simp[hl,hk]⟩;obtain⟨u,hu,iK⟩:=hr.at hd;rw[Xt,Su,if_pos hk,SA]at hu;exact⟨b,o,u,d,ha,hb,zZ hc,hd,by simp[RE,hc];simpa using hu,iK⟩
theorem yQ {a b:Int}(h:a=b):Ending.returned (.int RD a)=.returned (.int RD b):=by rw[h]
theorem bI (l:List UInt8)(a b:Nat):(⟨l.toArray⟩:ByteArray).extract a b=⟨((l.take b).drop a).toArray⟩:=by
 have h:=Lib.extract_data (⟨l.toArray⟩:ByteArray) a b;have h2:((⟨l.toArray⟩:ByteArray).extract a b).data=((l.take b).drop a).toArray:=by
  apply VR;rw[h];simp[List.drop_take]
 cases hx:(⟨l.toArray⟩:ByteArray).extract a b with
 |mk d=>rw[hx]at h2;simp at h2;rw[h2]
theorem gS (l:List UInt8):(⟨l.toArray⟩:ByteArray).size=l.length:=by show l.toArray.size=_;simp
theorem ke {l:List UInt8}{i:Nat}(h:i<l.length):i<(⟨l.toArray⟩:ByteArray).size:=by rw[gS];exact h
theorem x9 {l:List UInt8}{i:Nat}(h:i<l.length){c:UInt8}{n:Int}(hn:(c.toNat:Int)=n)(hc:l[i]=c):((((⟨l.toArray⟩:ByteArray)[i]'(ke h)).toNat:Int) == n)=true:=by
 rw[beq_iff_eq,<- hn,<- hc];rfl
theorem uG {l:List UInt8}{i:Nat}(h:i<l.length){c:UInt8}{n:Int}(hn:(c.toNat:Int)=n)(hc:¬l[i]=c):((((⟨l.toArray⟩:ByteArray)[i]'(ke h)).toNat:Int) == n)=false:=by
 rw[beq_eq_false_iff_ne,<- hn];intro e;apply hc;have:(((⟨l.toArray⟩:ByteArray)[i]'(ke h)).toNat)=c.toNat:=by exact_mod_cast e
 exact UInt8.toNat_inj.1 this
theorem vi {l:List UInt8}{i:Nat}(h:i<l.length){c:UInt8}{n:Int}(hn:(c.toNat:Int)=n)(hc:l[i]=c):((((⟨l.toArray⟩:ByteArray)[i]'(ke h)).toNat:Int) != n)=false:=by
 rw[bne,x9 h hn hc];rfl
theorem vR {l:List UInt8}{i:Nat}(h:i<l.length){c:UInt8}{n:Int}(hn:(c.toNat:Int)=n)(hc:¬l[i]=c):((((⟨l.toArray⟩:ByteArray)[i]'(ke h)).toNat:Int) != n)=true:=by
 rw[bne,uG h hn hc];rfl
theorem xD {l:List UInt8}{i:Nat}(h:i<l.length):((((⟨l.toArray⟩:ByteArray)[i]'(ke h)).toNat:Int))=(l[i].toNat:Int):=rfl
theorem ext_list (l:List UInt8)(a b:Nat):((⟨l.toArray⟩:ByteArray).extract a b).toList=(l.take b).drop a:=by
 rw[bI,Lib.toList_data]
theorem vN {w:World}{a:Addr}{v:Value}(h:w.cell? a=v)(u:Value):(w.setCell a u).cell? a=u:=by
 obtain⟨b,o,sp⟩:=a;unfold RE at *;split at h
 ·rename_i c e fr hh;have sC:=zZ hh;have h':w.heap[b]=.cells c e fr:=by simpa[Sh sC] using hh
  have:(w.setCell ⟨b,o,sp⟩ u).heap[b]?=OK (.cells (if sp.isSome then c else c.setIfInBounds o u) e fr):=by
   show (w.heap.modify b _)[b]?=_;rw[Sh (by simpa using sC),T0,h']
  simp only[this];cases sp with
  | none =>
    simp at h ⊢;have hl:=(Array.getElem?_eq_some_iff.1 h).1;simp[hl]
  |some x=>simp at h
 ·simp at h
def Lim (n:Nat):Prop:=n<=16777216
theorem Lim.le {n:Nat}(h:Lim n):n<=16777216:=h
theorem Lim.mono {n m:Nat}(h:Lim n)(k:m<=n):Lim m:=sU k h
def zz (size:Nat)(x:Value)(m:Nat)(news:List Value)(w:World):Prop:=
 news.length=m*size/\(∀u∈news,u.oneCell'=true) /\
 ((∃a c,x=.slice (OK a) m c/\∀(j:Nat) u,news[j]?=OK u->w.cell? (a.add j)=OK u)\/(x=.slice U 0 0/\m=0))
def Own (w:World)(e:TypeId)(size:Nat)(v:Value)(n:Nat)(xs:List Value):Prop:=w.ownsRow 0 e size v n xs
theorem gI {P:Program}{w:World}(t ty e:TypeId)(i:TypeInfo)(z:Value)(size bytes:Nat)(ht:P.underlying t=OK (.slice e))(hi:P.info? e=i)(hz:i.zero=z)(iO:i.size=size)(aI:i.bytes=bytes)(Dt:z.cells.size=size)(tV:0<size)(v:Value)(n:Nat)(xs:List Value)(si:Own w e size v n xs)(x:Value)(m:Nat)(news:List Value)(hs:zz size x m news w)(DR:n+m<=maxLen)(iB:(n+m)*bytes<=140737488355328) :
 ∃ v' w',(Ub #[t,t] ty #[v,x]).run P w=.ok v' w'/\Own w' e size v' (n+m) (xs++news)/\w.grownBy w' v.ownBlock /\
   (v'.ownBlock=v.ownBlock\/v'.ownBlock=w):=by
 unfold Own at *;obtain⟨hl,h1,⟨a,c,rfl,aZ⟩ | ⟨rfl,rfl⟩⟩:=hs
 ·subst iO;subst aI;have Mf:n+m<=9223372036854775807:=by simp only[maxLen]at DR;omega
  have hlen:(xs++news).length=(n+m)*i.size:=by rw[RL,si.1,hl,Uo]
  have grown:∀(old:Nat),old<n+m->∀(row:Option Nat),
   (w.drew.alloc (.cells (xs.toArray++news.toArray++Tz z.cells (grownCap w (n+m) old e-(n+m))) e)).ownsRow 0 e i.size
    (.slice w (n+m) (grownCap w (n+m) old e)) (n+m) (xs++news) /\
   w.grownBy (w.drew.alloc (.cells (xs.toArray++news.toArray++Tz z.cells (grownCap w (n+m) old e-(n+m))) e)) row:=by
   intro old ho row;have Bx:=grownCap_ge w (n+m) old e;have Qq:grownCap w (n+m) old e<=maxLen:=grownCap_le_maxLen w (n+m) old e DR;refine⟨⟨hlen,.inr ⟨w,_,_,rfl,R6 _,Go.heap_alloc_new w.drew _,Bx,Qq,?_,?_⟩⟩,⟨rfl,rfl,rfl,by simp,fun k hk _=>Below.heap_alloc w.drew _ k hk⟩⟩
   ·simp only[VS,Uc,size_zeroCells,Dt,si.1,hl,<- Uo]
    congr 1
    omega
   ·simp only[Array.toList_append,Sn];rw[<- Sn,<- hlen];exact Vo
  rcases si.2 with ⟨rfl,rfl⟩|⟨g,cap,cur,rfl,Af,hg,og,Qq,aP,aT⟩
  ·have hx:xs=[]:=St (by simpa using si.1);subst hx;by_cases hm:m=0
   ·subst hm;have hn:news=[]:=St (by simpa using hl);subst hn;refine⟨.slice U 0 0,w,?_,Sf w 0 e i.size,⟨rfl,rfl,rfl,sZ _,fun _ _ _=>rfl⟩,.inl rfl⟩;simp[Ub,run_underlying ht,sizeOf,typeInfo,hi,XT,XU,loadCells,loadCellsFrom]
   ·have hr:=run_append_nil (P:=P) w t ty e i z ht hi hz a m c news hl aZ (by omega) (by omega) (by have hb:=iB;simp only[SU]at hb;omega);have FY:=grown 0 (by omega) (RM ());simp only[SU,Ss,Array.empty_append]at FY ⊢;exact⟨_,_,hr,FY.1,FY.2,.inr rfl⟩
  ·by_cases tP:n+m<=cap
   ·have tA:n*i.size+news.length<=cur.size:=by rw[hl,aP,<- Uo];exact VO _ tP
    have hr:=run_append_room (P:=P) w t ty e i ht hi g n cap cur hg a m c news hl aZ h1 tP tA;refine⟨_,_,hr,⟨hlen,.inr ⟨g,cap,_,rfl,Af,setRow_heap w g cur _ e _ hg,tP,Qq,?_,?_⟩⟩,⟨rfl,rfl,rfl,by simp,fun k _ hk=>setRow_other w g k _ (fun e=>hk (by simp[RM,e]))⟩,.inl rfl⟩
    ·simp only[Uc,RL,List.length_take,List.length_drop,Array.length_toList];omega
    ·rw[aT,<- hlen];exact Vo
   ·have holds:∀(j:Nat) u,xs[j]?=OK u->w.cell? ((⟨g,0,U⟩:Addr).add j)=OK u:=World.ownsRow.cells si (g:=g) rfl;have hr:=run_append_grow (P:=P) w t ty e i z ht hi hz ⟨g,0,U⟩ n cap xs si.1 holds a m c news hl aZ (by omega) (by omega) (growslice_fits (by omega) iB);have FY:=grown cap (by omega) (RM (.slice g n cap));exact⟨_,_,hr,FY.1,FY.2,.inr rfl⟩
 ·have hn:news=[]:=St (by simpa using hl);subst hn;refine⟨v,w,run_append_owned_none (P:=P) (w:=w) 0 t ty e i size ht hi v n xs si,by simpa using si,⟨rfl,rfl,rfl,sZ _,fun _ _ _=>rfl⟩,.inl rfl⟩
theorem But.ofGrown {w w':World}{row:Option Nat}(h:w.grownBy w' row):But (fun b=>OK b=row) w w':=
 ⟨h.os,h.tape,h.output,h.size,fun k hk hn=>h.block k hk hn⟩
theorem Own.slice {w:World}{e:TypeId}{size n:Nat}{v:Value}{xs:List Value}(h:Own w e size v n xs):∃a c,v=.slice a n c:=by
 rcases h.2 with ⟨rfl,rfl⟩|⟨g,cap,cur,rfl,_⟩
 all_goals
  exact⟨_,_,rfl⟩
theorem zF {P:Program}{w:World}{ops:Array Oper}{rest:List Oper}{o:Oper}{a:Act}{Q:Exit->Act->World->Prop}(MI:o.guard=U)(s x:Operand)(t:TypeId)(ho:o.op=.call { callee:=.builtin .append,args:=#[s,x],argTypes:=#[t,t] })(e:TypeId)(z:Value)(size bytes:Nat)(ht:P.underlying t=OK (.slice e))(hi:(P.info? e).map (fun i=>(i.zero,i.size,i.bytes))=OK (OK z,size,bytes))(Dt:z.cells.size=size)(tV:0<size)(v:Value)(n:Nat)(xs:List Value)(hs:a.eval s=v)(si:Own w e size v n xs)(y:Value)(m:Nat)(news:List Value)(hx:a.eval x=y)(aD:zz size y m news w)(DR:n+m<=maxLen)(iB:(n+m)*bytes<=140737488355328)(h:∀ a' c' w',Own w' e size (.slice a' (n+m) c') (n+m) (xs++news)->But (fun b=>v.ownBlock=some b) w w'->(∀ g,(RI a' (n+m) c').ownBlock=some g->v.ownBlock=some g\/g=(w:Nat)) ->
  wpList P ops Q rest (a.put o.dst (.slice a' (n+m) c')) w'):wpList P ops Q (o::rest) a w:=by
 refine wpList_plain MI fun K hK=>?_;obtain⟨i,hi,hz,iO,aI⟩:=info_parts hi;obtain⟨v',w',hr,h2,h3,h4⟩:=gI (P:=P) (w:=w) t o.type e i z size bytes ht hi hz iO aI Dt tV v n xs si y m news aD DR iB;obtain⟨a',c',rfl⟩:=h2.slice;unfold Oper.wp execOp;simp only[ho,resolve,invoke,builtin,U0,VE,UM,U1,Sa,SM,hs,hx,hr];refine hK _ _ (h a' c' w' h2 ((But.ofGrown h3).weak fun i _ hi=>hi.symm) ?_);intro g hg;rcases h4 with h4|h4
 ·exact .inl (by rw[<- h4];exact hg)
 ·rw[hg]at h4;exact .inr (RZ h4)
theorem zL {P:Program}{w:World}{ops:Array Oper}{o:Oper}{a:Act}{K:Act->World->Prop}{Q:Exit->Act->World->Prop}{E:Prop}(MI:o.guard=U)(s x:Operand)(t:TypeId)(ho:o.op=.call { callee:=.builtin .append,args:=#[s,x],argTypes:=#[t,t] })(e:TypeId)(z:Value)(size bytes:Nat)(ht:P.underlying t=OK (.slice e))(hi:(P.info? e).map (fun i=>(i.zero,i.size,i.bytes))=OK (OK z,size,bytes))(Dt:z.cells.size=size)(tV:0<size)(v:Value)(n:Nat)(xs:List Value)(hs:a.eval s=v)(si:Own w e size v n xs)(y:Value)(m:Nat)(news:List Value)(hx:a.eval x=y)(aD:zz size y m news w)(DR:n+m<=maxLen)(iB:(n+m)*bytes<=140737488355328)(h:∀ a' c' w',Own w' e size (.slice a' (n+m) c') (n+m) (xs++news)->But (fun b=>v.ownBlock=some b) w w'->(∀ g,(RI a' (n+m) c').ownBlock=some g->v.ownBlock=some g\/g=(w:Nat)) ->
  K (a.put o.dst (.slice a' (n+m) c')) w'):if Region.wanted o (yielded ops a.tmps)=true then Oper.wp P o a w K Q else E:=by
 rw[if_pos (by simp[Region.wanted,MI])];obtain⟨i,hi,hz,iO,aI⟩:=info_parts hi;obtain⟨v',w',hr,h2,h3,h4⟩:=gI (P:=P) (w:=w) t o.type e i z size bytes ht hi hz iO aI Dt tV v n xs si y m news aD DR iB;obtain⟨a',c',rfl⟩:=h2.slice;unfold Oper.wp execOp;simp only[ho,resolve,invoke,builtin,U0,VE,UM,U1,Sa,SM,hs,hx,hr];refine h a' c' w' h2 ((But.ofGrown h3).weak fun i _ hi=>hi.symm) ?_;intro g hg;rcases h4 with h4|h4
 ·exact .inl (by rw[<- h4];exact hg)
 ·rw[hg]at h4;exact .inr (RZ h4)
theorem zz.keep {w w':World}{size:Nat}{x:Value}{m:Nat}{news:List Value}(h:zz size x m news w)(hk:∀a v,w.cell? a=OK v->w'.cell? a=OK v):zz size x m news w':=by
 obtain⟨h1,h2,⟨a,c,rfl,h3⟩ | h3⟩:=h
 ·exact⟨h1,h2,.inl ⟨a,c,rfl,fun j u hu=>hk _ _ (h3 j u hu)⟩⟩
 ·exact⟨h1,h2,.inr h3⟩
theorem zV {w:World}{o:Obj}{a:Addr}{v:Value}(h:w.cell? a=v):(w.alloc o).cell? a=v:=by
 rw[World.cell?_alloc_lt w o a (sK w a h)];exact h
theorem Own.lit {w:World}{e:TypeId}{size:Nat}(cs:Array Value)(n:Nat)(hm:n<=maxLen)(hs:cs.size=n*size):Own (w.alloc (.cells cs e)) e size (.slice w n n) n cs.toList:=
 World.ownsRow_lit w cs n (R6 _) hm hs
theorem zz.lits {w:World}{e:TypeId}(cs:Array Value)(n:Nat)(hn:cs.size=n)(hc:∀u∈cs.toList,u.oneCell'=true)(g:Nat)(hg:g=w):zz 1 (.slice g n n) n cs.toList (w.alloc (.cells cs e)):=by
 subst hg;refine⟨by simp[hn],hc,.inl ⟨_,_,rfl,fun j u hu=>?_⟩⟩;unfold Addr.add;split
 ·subst j;simp;simpa using hu
 ·simp;simpa using hu
theorem Own.litAt {w:World}{e:TypeId}{size:Nat}(cs:Array Value)(n g:Nat)(hg:g=w)(hm:n<=maxLen)(hs:cs.size=n*size):Own (w.alloc (.cells cs e)) e size (.slice g n n) n cs.toList:=by
 subst hg;exact Own.lit cs n hm hs
theorem Own.keep {w w':World}{e:TypeId}{sz n:Nat}{xs:List Value}{v:Value}(h:Own w e sz v n xs)(hk:∀g o,v.ownBlock=OK g->w.heap[g]?=OK o->w'.heap[g]?=OK o):Own w' e sz v n xs:=by
 refine⟨h.1,?_⟩;rcases h.2 with h|⟨g,cap,cur,rfl,h0,hg,h⟩
 ·exact .inl h
 ·exact .inr ⟨g,cap,cur,rfl,h0,hk g _ rfl hg,h⟩
theorem zW (w:World)(o:Obj):(w.alloc o).heap[(w:Nat)]?=OK o:=heap_alloc_new w o
theorem zJ {w:World}{o:Obj}{b:Nat}{x:Obj}(h:w.heap[b]?=OK x):(w.alloc o).heap[b]?=OK x:=by
 rw[Below.heap_alloc _ _ _ (zZ h)];exact h
theorem xr {w:World}{o:Obj}{b:Nat}(h:(w.alloc o).heap.size<=b):w+1<=b:=by simpa using h
theorem zK (w:World)(o:Obj):(w.alloc o).heap.size=w+1:=by simp
theorem xI {w W wx:World}{v v':Value}(hb:No w W)(hf:∀g,v.ownBlock=OK g->(w:Nat)<=g)(hx:But (fun b=>v.ownBlock=OK b) W wx)(hg:∀g,v'.ownBlock=OK g->v.ownBlock=OK g\/g=(W:Nat)) :
 No w wx/\(∀g,v'.ownBlock=OK g->(w:Nat)<=g):=by
 refine⟨hb.trans (hx.toBelow hb.size fun i hi e=>by have:=hf i e;omega),fun g h=>?_⟩;rcases hg g h with h|h
 ·exact hf g h
 ·have:=hb.size;omega
theorem dS {g n c:Nat}{B:Nat}(h:B<=g):∀k,(RI (OK ⟨g,0,U⟩) n c).ownBlock=OK k->B<=k:=by
 intro k e;simp[RM]at e;omega
theorem Own.drew {w:World}{e:TypeId}{sz n:Nat}{xs:List Value}{v:Value}(h:Own w e sz v n xs):Own w.drew e sz v n xs:=h.keep (w':=w.drew) fun _ _ _ ho=>ho
theorem zz.drew {w:World}{size:Nat}{x:Value}{m:Nat}{news:List Value}(h:zz size x m news w):zz size x m news w.drew:=h.keep (w':=w.drew) fun _ _ h=>h
theorem zz.alloc {w:World}{size:Nat}{x:Value}{m:Nat}{news:List Value}(h:zz size x m news w)(o:Obj):zz size x m news (w.alloc o):=h.keep (w':=w.alloc o) fun _ _ h=>zV h
theorem Own.alloc {w:World}{e:TypeId}{sz n:Nat}{xs:List Value}{v:Value}(h:Own w e sz v n xs)(o:Obj):Own (w.alloc o) e sz v n xs:=h.keep (w':=w.alloc o) fun _ _ _ ho=>zJ ho
theorem zz.belowAll {w w':World}{B:Nat}{size:Nat}{x:Value}{m:Nat}{news:List Value}(h:zz size x m news w)(hb:Below B w w')(hB:w<=B):zz size x m news w':=
 h.keep fun a v hv=>by rw[hb.cell (sV (sK w a hv) hB)];exact hv
theorem zz.lit {w:World}{e:TypeId}{v:Value}(hv:v.oneCell'=true):zz 1 (.slice w 1 1) 1 [v] (w.alloc (.cells #[v] e)):=
 ⟨by simp,by simpa using hv,.inl ⟨_,_,rfl,fun j u hu=>by
  cases j with
  |zero=>simp at hu;subst hu;simp[Addr.add]
  | succ j=>simp at hu⟩⟩
theorem zz.ofRep {F:Nat->Prop}{w:World}{e:TypeId}{sz n:Nat}{cs:List DV}{v:Value}(h:Rep F w (.sl e sz n cs) v)(FR:∀us,zY F w cs us->∀u∈us,u.oneCell'=true) :
 ∃news,zY F w cs news/\zz sz v n news w:=by
 rw[zv]at h;obtain⟨hl,a,cap,rfl,hn,hz,h⟩:=h;rcases h with rfl|⟨b,o,c,fr,rfl,hb,hc,hr⟩
 ·have:cs=[]:=St (by simpa using hl);subst this;refine⟨[],zE.2 rfl,?_⟩;cases a with
  |none=>obtain rfl:=hz rfl;exact⟨by simp,by simp,.inr ⟨rfl,rfl⟩⟩
  |some a=>exact⟨by simp,by simp,.inl ⟨a,cap,rfl,by simp⟩⟩
 ·refine⟨_,hr,⟨by rw[<- hr.length,hl],FR _ hr,.inl ⟨_,cap,rfl,fun j u hu=>?_⟩⟩⟩;have hj:j<n*sz:=by
   have:=(RR.1 hu).1;simp at this;omega
  rw[Su,if_pos hj,SA]at hu;unfold Addr.add;split
  ·subst j;simp[RE,hc];simpa using hu
  ·simp[RE,hc];simpa using hu
theorem Own.rep {F:Nat->Prop}{w:World}{e:TypeId}{sz n:Nat}{xs:List Value}{cs:List DV}{v:Value}(h:Own w e sz v n xs)(hF:∀g,v.ownBlock=OK g->F g)(hr:zY F w cs xs) :
 Rep F w (.sl e sz n cs) v:=by
 rw[zv];refine⟨by rw[hr.length];exact h.1,?_⟩;rcases h.2 with ⟨rfl,rfl⟩|⟨g,cap,cur,rfl,_,hg,og,_,aP,ht⟩
 ·exact⟨U,0,rfl,sZ _,fun _=>rfl,.inl rfl⟩
 ·exact⟨_,cap,rfl,og,fun h=>by simp at h,.inr ⟨g,0,cur,_,rfl,hF g rfl,hg,by simpa[ht] using hr⟩⟩
theorem Own.lt {w:World}{e:TypeId}{sz n:Nat}{xs:List Value}{v:Value}(h:Own w e sz v n xs){g:Nat}(hg:v.ownBlock=g):g<w:=(World.ownsRow.lt h g hg).2
theorem ej {P:Program}{w:World}(t ti ty e:TypeId)(z:Value)(size bytes:Nat)(ht:P.underlying t=OK (.slice e))(hti:P.underlying ti=OK (.int RD))(P5:(P.info? e).map (fun i=>(i.zero,i.size,i.bytes))=OK (OK z,size,bytes))(Dt:z.cells.size=size)(n:Nat)(h0:0<n)(hn:n<=16777216)(tV:0<size)(hb:bytes<=1024) :
 ∃cap c,(Ub #[t,ti] ty #[.slice U 0 0,.int RD n]).run P w=.ok (.slice w n cap) (w.drew.alloc (.cells c e))/\n<=cap/\cap<=maxLen/\c.size=cap*size:=by
 obtain⟨i,hi,hz,iO,aI⟩:=info_parts P5;subst iO;subst aI;have hw:SW.wrap (n:Int)=n:=IntWalk.i64_in _ (by omega);have PE:¬((n:Int)<0):=by omega
 have hmul:n*i.bytes<=16777216*1024:=Nat.mul_le_mul hn hb;have hmk:¬(281474976710656<(n:Int)*(i.bytes:Int)):=by
  have:(n:Int)*(i.bytes:Int)=((n*i.bytes:Nat):Int):=by simp
  omega
 have hne:n≠0:=by omega
 have Ft:¬(281474976710656<XV n 0*i.bytes):=by rw[nextslicecap_zero h0];omega
 have DR:¬(9223372036854775807<(n:Int)):=by omega
 have H_:¬(n=0\/i.size=0):=by omega
 refine⟨grownCap w n 0 e,Tz z.cells n++Tz z.cells (grownCap w n 0 e-n),?_,grownCap_ge w n 0 e,grownCap_le_maxLen w n 0 e (by unfold maxLen;omega),?_⟩
 ·simp[Ub,run_underlying ht,run_underlying hti,sizeOf,typeInfo,zeroValue,hi,hz,asInt,hw,PE,hmk,hne,Ft,DR,Question.forced,run_firstCells_none,newRow,grownCap,asIntOf];intro h;exact absurd h (by have:=Nat.mul_pos h0 tV;omega)
 ·simp only[VS,size_zeroCells,Dt,<- Uo];have:=grownCap_ge w n 0 e
  congr 1;omega
theorem b8 {P:Program}{w:World}{ops:Array Oper}{rest:List Oper}{o:Oper}{a:Act}{Q:Exit->Act->World->Prop}(MI:o.guard=U)(s x:Operand)(t ti:TypeId)(ho:o.op=.call { callee:=.builtin .append,args:=#[s,x],argTypes:=#[t,ti] })(e:TypeId)(z:Value)(size bytes:Nat)(ht:P.underlying t=OK (.slice e))(hti:P.underlying ti=OK (.int RD))(hi:(P.info? e).map (fun i=>(i.zero,i.size,i.bytes))=OK (OK z,size,bytes))(Dt:z.cells.size=size)(tV:0<size)(hb:bytes<=1024)(hs:a.eval s=.slice U 0 0)(n:Nat)(hx:a.eval x=.int RD n)(h0:0<n)(hn:n<=16777216)(h:∀cap c,n<=cap->cap<=maxLen->c.size=cap*size->wpList P ops Q rest (a.put o.dst (.slice w n cap)) (w.alloc (.cells c e)).drew):wpList P ops Q (o::rest) a w:=by
 refine wpList_plain MI fun K hK=>?_;obtain⟨cap,c,hr,h1,h2,h3⟩:=ej (P:=P) (w:=w) t ti o.type e z size bytes ht hti hi Dt n h0 hn tV hb;unfold Oper.wp execOp;simp only[ho,resolve,invoke,builtin,U0,VE,UM,U1,Sa,SM,hs,hx,hr];exact hK _ _ (h cap c h1 h2 h3)
theorem eJ {w wc:World}{o:Obj}(h:Below (w.alloc o).drew.heap.size (w.alloc o).drew wc):No w wc:=by
 have h2:Below w (w.alloc o).drew wc:=⟨h.os,h.tape,h.output,h.size,fun i hi=>h.block i (by show i<(w.alloc o).heap.size;rw[zK];omega)⟩;exact(((sQ w w).alloc (sZ _) o).drew).trans h2
abbrev Bs:=List UInt8
abbrev str (l:Bs):Value:=.string ⟨l.toArray⟩
instance:Coe (List UInt8) Value:=⟨fun s=>str s⟩
inductive Ty where
 |mk (args:List Ty)
def Ty.args:Ty->List Ty | .mk a=>a
def cut (p l:Bs):Option Bs:=if p.isPrefixOf l then OK (l.drop p.length) else U
def zi (a b:Ty):Ty:=.mk (a::b.args)
def rdK:Nat->Bs->Option (Ty×Bs)
 | d,l=>match cut [98] l with
   |some r=>OK (.mk [],r)
   | none=>match d with
     |0=>U
     | d+1=>do
       let r1<-cut [40,62,32] l
       let (a,r2)<-rdK d r1
       let r3<-cut [32] r2
       let (b,r4)<-rdK d r3
       let r5<-cut [41] r4
       OK (zi a b,r5)
def Cut (p l r:Bs):Prop:=cut p l=r
def hH (p l:Bs):Prop:=cut p l=U
theorem Cut.out {p l r:Bs}(h:Cut p l r):cut p l=r:=h
theorem hH.out {p l:Bs}(h:hH p l):cut p l=U:=h
theorem kC (p l:Bs):hH p l\/∃r,Cut p l r:=by
 cases h:cut p l with
 |none=>exact .inl h
 |some r=>exact .inr ⟨r,h⟩
theorem Cut.le {p l r:Bs}(h:Cut p l r):r.length<=l.length:=by
 unfold Cut cut at h;split at h
 ·simp at h;subst h;simp
 ·simp at h
theorem xR {d:Nat}{l r:Bs}(h:Cut [98] l r):rdK d l=OK (.mk [],r):=by
 cases d <;> simp[rdK,h.out]
theorem xX {l:Bs}(h:hH [98] l):rdK 0 l=U:=by simp[rdK,h.out]
theorem jj {d:Nat}{l:Bs}(h:hH [98] l):rdK (d+1) l=(do
        let r1<-cut [40,62,32] l
        let (a,r2)<-rdK d r1
        let r3<-cut [32] r2
        let (b,r4)<-rdK d r3
        let r5<-cut [41] r4
        some (zi a b,r5)):=by rw [rdK,h.out]
theorem rdK_le (d:Nat):∀ {l r:Bs} {t:Ty},rdK d l=OK (t,r)->r.length<=l.length/\t.args.length<=l.length:=by
 induction d with
 | zero =>
   intro l r t h;rcases kC [98] l with hc|⟨r',hc⟩
   ·rw[xX hc]at h;simp at h
   ·rw[xR hc]at h;simp at h;obtain⟨rfl,rfl⟩:=h;exact⟨hc.le,by simp[Ty.args]⟩
 | succ d ih =>
   intro l r t h;rcases kC [98] l with hc|⟨r',hc⟩
   ·rw[jj hc]at h;simp only[RJ,RH,Prod.exists]at h;obtain⟨r1,h1,a,r2,h2,r3,h3,b,r4,h4,r5,h5,h6⟩:=h;simp at h6;obtain⟨rfl,rfl⟩:=h6;have k1:=Cut.le h1;have k2:=ih h2;have k3:=Cut.le h3;have k4:=ih h4;have k5:=Cut.le h5;have k6:r1.length<l.length:=by
     unfold cut at h1;split at h1
     ·rename_i hp;have:=Tj (SL.1 hp);simp at h1 this;subst h1;simp;omega
     ·simp at h1
    exact⟨by omega,by simp[zi,Ty.args];simp[Ty.args]at k4;omega⟩
   ·rw[xR hc]at h;simp at h;obtain⟨rfl,rfl⟩:=h;exact⟨hc.le,by simp[Ty.args]⟩
mutual
def jk:Ty->DV
 |.mk ts=>.ptr 39 [.sl 33 1 ts.length (qh ts)]
def qh:List Ty->List DV
 |[]=>[]
 |t::ts=>jk t::qh ts
end
theorem yH (ts:List Ty):∀k:Nat,(qh ts)[k]?=ts[k]?.map jk:=by
 induction ts with
 |nil=>intro k;simp[qh]
 |cons t ts ih=>intro k;cases k <;> simp[qh,ih]
mutual
def zU:Ty->Nat
 |.mk ts=>1+zc ts
def zc:List Ty->Nat
 |[]=>0
 |t::ts=>1+zU t+zc ts
end
theorem wK (a b:List Ty):zc (a++b)=zc a+zc b:=by
 induction a with
 |nil=>simp[zc]
 |cons t ts ih=>simp[zc,ih];omega
theorem xq {ts:List Ty}{k:Nat}{t:Ty}(h:ts[k]?=OK t):zc (ts.take (k+1))=zc (ts.take k)+(1+zU t):=by
 rw[Sd,h,wK];simp[zc]
theorem uz (ts:List Ty)(k:Nat):zc (ts.take k)<=zc ts:=by
 have:=wK (ts.take k) (ts.drop k);rw[R7]at this;omega
theorem kI (t:Ty):zU t=1+zc t.args:=by cases t;simp[zU,Ty.args]
theorem qA (t:Ty):1<=zU t:=by rw[kI];omega
theorem eh (d:Nat):∀ {l r:Bs} {t:Ty},rdK d l=OK (t,r)->zU t+r.length<=l.length:=by
 have hb:∀ {l r:Bs},Cut [98] l r->zU (.mk [])+r.length<=l.length:=by
  intro l r h;unfold Cut cut at h;split at h
  ·rename_i hp;have:=Tj (SL.1 hp);simp at h this;subst h;simp[zU,zc];omega
  ·simp at h
 induction d with
 | zero =>
   intro l r t h;rcases kC [98] l with hc|⟨r',hc⟩
   ·rw[xX hc]at h;simp at h
   ·rw[xR hc]at h;simp at h;obtain⟨rfl,rfl⟩:=h;exact hb hc
 | succ d ih =>
   intro l r t h;rcases kC [98] l with hc|⟨r',hc⟩
   ·rw[jj hc]at h;simp only[RJ,RH,Prod.exists]at h;obtain⟨r1,h1,a,r2,h2,r3,h3,b,r4,h4,r5,h5,h6⟩:=h;simp at h6;obtain⟨rfl,rfl⟩:=h6;have k2:=ih h2;have k3:=Cut.le h3;have k4:=ih h4;have k5:=Cut.le h5;have k6:r1.length<l.length:=by
     unfold cut at h1;split at h1
     ·rename_i hp;have:=Tj (SL.1 hp);simp at h1 this;subst h1;simp;omega
     ·simp at h1
    have:zU (zi a b)=1+zU a+zU b:=by cases b;simp[zi,zU,zc,Ty.args];omega
    omega
   ·rw[xR hc]at h;simp at h;obtain⟨rfl,rfl⟩:=h;exact hb hc
def rdS:Nat->Bs->Option (Ty×Bs)
 |0,_=>U
 |n+1,l=>rdK n l
theorem rdS_b {n:Nat}{l r:Bs}(h:Cut [98] l r):rdS (n+1) l=OK (.mk [],r):=xR h
theorem rdS_no {n:Nat}{l:Bs}(h:hH [98] l):rdS (n+1) l=(do
        let r1<-cut [40,62,32] l
        let (a,r2)<-rdS n r1
        let r3<-cut [32] r2
        let (b,r4)<-rdS n r3
        let r5<-cut [41] r4
        some (zi a b,r5)):=by
 cases n with
 | zero =>
   show rdK 0 l=_;rw[xX h];cases cut [40,62,32] l <;> simp[rdS]
 |succ n=>exact jj h
theorem cut_drop {p l r:Bs}{i:Nat}(h:cut p (l.drop i)=r):r=l.drop (i+p.length)/\i+p.length<=l.length+(if p.length=0 then i else 0):=by
 unfold cut at h;split at h
 ·rename_i hp;have hl:=Tj (SL.1 hp);simp at h hl;subst h;refine⟨rfl,?_⟩;split <;> omega
 ·simp at h
theorem y8 {c:UInt8}{l:Bs}{i:Nat}(h:i<l.length):cut [c] (l.drop i)=if l[i]=c then OK (l.drop (i+1)) else U:=by
 unfold cut;rw[List.drop_eq_getElem_cons h];by_cases hc:l[i]=c
 ·simp[hc,TC]
 ·have:(c == l[i])=false:=by simpa using fun e=>hc e.symm
  simp[hc,TC,this]
theorem be {c:UInt8}{p l:Bs}{i:Nat}(h:l.length<=i):cut (c::p) (l.drop i)=U:=by
 rw[List.drop_eq_nil_of_le h];rfl
theorem xK {l r:Bs}{i:Nat}(h:r <:+ l.drop i):r=l.drop (l.length-r.length):=by
 have h2:r <:+ l:=h.trans (TL i l);exact List.suffix_iff_eq_drop.1 h2
theorem rdK_suffix (d:Nat):∀ {l r:Bs} {t:Ty},rdK d l=OK (t,r)->r <:+ l:=by
 have hcut:∀ {p l r:Bs},cut p l=r->r <:+ l:=by
  intro p l r h;unfold cut at h;split at h
  ·simp at h;subst h;exact TL _ _
  ·simp at h
 induction d with
 | zero =>
   intro l r t h;rcases kC [98] l with hc|⟨r',hc⟩
   ·rw[xX hc]at h;simp at h
   ·rw[xR hc]at h;simp at h;obtain⟨rfl,rfl⟩:=h;exact hcut hc
 | succ d ih =>
   intro l r t h;rcases kC [98] l with hc|⟨r',hc⟩
   ·rw[jj hc]at h;simp only[RJ,RH,Prod.exists]at h;obtain⟨r1,h1,a,r2,h2,r3,h3,b,r4,h4,r5,h5,h6⟩:=h;simp at h6;obtain⟨rfl,rfl⟩:=h6;exact(((((hcut h5).trans (ih h4)).trans (hcut h3)).trans (ih h2)).trans (hcut h1))
   ·rw[xR hc]at h;simp at h;obtain⟨rfl,rfl⟩:=h;exact hcut hc
theorem nD {n:Nat}{l r:Bs}{t:Ty}(h:rdS n l=OK (t,r)):r <:+ l:=by
 cases n with
 |zero=>simp[rdS]at h
 |succ n=>exact rdK_suffix n h
theorem rdS_le {n:Nat}{l r:Bs}{t:Ty}(h:rdS n l=OK (t,r)):r.length<=l.length/\t.args.length<=l.length:=by
 cases n with
 |zero=>simp[rdS]at h
 |succ n=>exact rdK_le n h
theorem rdS_atoms {n:Nat}{l r:Bs}{t:Ty}(h:rdS n l=OK (t,r)):zU t+r.length<=l.length:=by
 cases n with
 |zero=>simp[rdS]at h
 |succ n=>exact eh n h
def qL (sc:Nat)(c:List Value)(e:TypeId)(r:Bs)(w:World):Prop:=w.heap[sc]?=OK (.cells (str r::c).toArray e (0,0))
theorem qL.cell {sc:Nat}{c:List Value}{e:TypeId}{r:Bs}{w:World}(h:qL sc c e r w):w sc=str r:=by
 simp[RE,qL] at *;simp[h]
theorem qL.free {sc:Nat}{c:List Value}{e:TypeId}{r:Bs}{w:World}(h:qL sc c e r w)(o:Nat):w.frozen? (sc,o)=false:=by
 simp[RO,qL] at *;simp[h]
theorem qL.put {sc:Nat}{c:List Value}{e:TypeId}{r r':Bs}{w:World}(h:qL sc c e r w):qL sc c e r' (w.setCell sc (str r')):=by
 unfold qL at *;have sC:=zZ h;have h':w.heap[sc]=.cells (str r::c).toArray e (0,0):=by simpa[Sh sC] using h
 show (w.heap.modify sc _)[sc]?=_;rw[Sh (by simpa using sC),T0,h'];simp
theorem fv {p r:Bs}:Vt r p=(cut p r).isSome/\Wm r p=(cut p r).getD r:=by
 unfold Vt Wm cut Vt;cases h:p.isPrefixOf r <;> simp
theorem take_any (sc:Nat)(c:List Value)(e:TypeId)(r p:Bs)(w:World)(h:qL sc c e r w) :
 Calls RG 76 #[sc,.string ⟨p.toArray⟩] w fun en w'=>
  en=.returned (.bool (cut p r).isSome)/\But (· = sc) w w'/\qL sc c e ((cut p r).getD r) w':=by
 have h1:=h.cell;have h2:=h.free 0;have h3:=r9 h;clear h;go_enter Tryz.func76,Tryz.ntmps76;go_wp2_with (go_at_call 100;refine(Tryz.strings_CutPrefix _ _ _).mono ?_;rintro e w' ⟨rfl,rfl⟩)
 go_ret;refine⟨?_,(But.refl (· = sc) _).setCell (p:=sc) (.inl rfl) _,?_⟩
 ·rw[<- fv.1];rfl
 ·rw[<- fv.2];exact h3.out.put
theorem zh {F:Nat->Prop}{w:World}{t:Ty}{v:Value}(h:Rep F w (jk t) v) :
 ∃b s,v=.pointer (OK ⟨b,0,U⟩)/\F b/\w.heap[b]?=OK (.cells #[s] 39 (0,0))/\Rep F w (.sl 33 1 t.args.length (qh t.args)) s:=by
 cases t with
 | mk ts =>
   rw[jk,jx]at h;obtain⟨b,c,hv,hb,hc,hr⟩:=h;rw[zQ]at hr;obtain⟨s,vs',e1,h1,h2⟩:=hr;rw[zE]at h2;subst h2;have:c=#[s]:=by apply VR;simpa using e1
   subst this;exact⟨b,s,hv,hb,hc,h1⟩
theorem bx {F:Nat->Prop}{w:World}{t:Ty}{b:Nat}{s:Value}(hb:F b)(hc:w.heap[b]?=OK (.cells #[s] 39 (0,0)))(h:Rep F w (.sl 33 1 t.args.length (qh t.args)) s):Rep F w (jk t) (.pointer (OK ⟨b,0,U⟩)):=by
 cases t with
 | mk ts =>
   rw[jk,jx];exact⟨b,#[s],rfl,hb,hc,zY.one h⟩
theorem Tryz.infoK:(RG.info? 33).map (fun i=>(i.zero,i.size,i.bytes))=OK (OK (.pointer U),1,8):=by kernel_rfl
theorem wS {F:Nat->Prop}{w:World}(ts:List Ty):∀us,zY F w (qh ts) us->∀u∈us,u.oneCell'=true:=by
 induction ts with
 |nil=>intro us h;rw[qh,zE]at h;subst h;simp
 | cons t ts ih =>
   intro us h u hu;rw[qh,zQ]at h;obtain⟨v,vs',rfl,h1,h2⟩:=h;rcases Sc.1 hu with rfl|hu
   ·obtain⟨b,s,rfl,_⟩:=zh h1;rfl
   ·exact ih _ h2 u hu
theorem arrow_any (F:Nat->Prop)(a b:Ty)(va vb:Value)(w:World)(ha:Rep F w (jk a) va)(hb:Rep F w (jk b) vb)(hl:Lim b.args.length) :
 Calls RG 55 #[va,vb] w fun en w'=>
  ∃v,en=.returned v/\No w w'/\Rep (fun k=>F k\/w<=k) w' (jk (zi a b)) v:=by
 obtain⟨bb,sb,rfl,GD,NQ,aJ⟩:=zh hb;obtain⟨ba,eva⟩:∃ba,va=.pointer (OK ⟨ba,0,U⟩):=by obtain⟨ba,_,h,_⟩:=zh ha;exact⟨ba,h⟩
 subst eva;obtain⟨news,aZ,aD⟩:=zz.ofRep aJ (wS _);have c1:w bb=sb:=by simp[RE,NQ]
 have l1:=zZ NQ;have H1:=r9 aD;have H2:=r9 aZ;have H3:=r9 ha;clear aD aZ ha hb aJ NQ;go_enter Tryz.func55,Tryz.ntmps55;go_wp2_with (at_builtin;refine zF rfl _ _ 37 rfl 33 (.pointer U) 1 8 T6 Tryz.infoK rfl (by decide) _ 1 [.pointer (OK ⟨ba,0,U⟩)] rfl ?c1 _ b.args.length news rfl ?c2 ?c3 ?c4 ?_)
 case c1=>exact Own.lit #[.pointer (OK ⟨ba,0,U⟩)] 1 (by decide) rfl
 case c2=>exact H1.out.keep fun _ _ h=>zV h
 case c3=>have:=hl.le;unfold maxLen;omega
 case c4=>have:=hl.le;omega
 intro a' c' w' ho hb hg;have H4:=r9 ho;have H5:=r9 hb;have H6:=r9 hg;clear ho hb hg;go_wp2;go_ret;have hb:=H5.out;have b1:No w w':=((sQ w w).alloc (sZ _) _).trans (hb.toBelow (by simp) (fun i hi e=>by simp[RM]at e;omega));refine⟨_,rfl,b1.alloc b1.size _,?_⟩;refine bx (F:=fun k=>F k\/w<=k) (.inr b1.size) (zW _ _) ?_;refine Rep.below (F:=fun k=>F k\/w<=k) ((sQ _ _).alloc (sZ _) _) (fun _ h=>h) ?_;rw[show (zi a b).args.length=1+b.args.length from by simp[zi,Ty.args,Nat.add_comm]];refine H4.out.rep ?_ ?_
 ·intro g hg;rcases H6.out g hg with h|h
  ·simp[RM]at h;exact .inr (by omega)
  ·exact .inr (by subst h;simp)
 ·show zY _ _ (jk a::qh b.args) _;exact zQ.2 ⟨_,_,rfl,Rep.below b1 (fun _ h=>.inl h) H3.out,zY.below b1 (fun _ h=>.inl h) H2.out⟩
theorem jf {sc:Nat}{c:List Value}{e:TypeId}{r p r':Bs}{w:World}(h:qL sc c e r w)(hc:Cut p r r') :
 Calls RG 76 #[sc,.string ⟨p.toArray⟩] w fun en w'=>
  en=.returned (.bool true)/\But (· = sc) w w'/\qL sc c e r' w':=by
 refine(take_any sc c e r p w h).mono ?_;rw[hc.out];exact fun _ _ h=>h
theorem vo {sc:Nat}{c:List Value}{e:TypeId}{r p:Bs}{w:World}(h:qL sc c e r w)(hc:hH p r) :
 Calls RG 76 #[sc,.string ⟨p.toArray⟩] w fun en w'=>
  en=.returned (.bool false)/\But (· = sc) w w'/\qL sc c e r w':=by
 refine(take_any sc c e r p w h).mono ?_;rw[hc.out];exact fun _ _ h=>h
def pD (sc:Nat)(c:List Value)(e:TypeId)(w:World)(o:Option (Ty×Bs))(en:Ending)(w':World):Prop:=
 ∃v r',en=.returned v/\But (· = sc) w w'/\qL sc c e r' w'/\(o=U->v=.pointer U)/\(∀t rest,o=OK (t,rest)->r'=rest/\Rep (w<=·) w' (jk t) v)
theorem pD.no {sc:Nat}{c:List Value}{e:TypeId}{w:World}{r:Bs}{w':World}{o:Option (Ty×Bs)}(ho:o=U)(hb:But (· = sc) w w')(hs:qL sc c e r w'):pD sc c e w o (.returned (.pointer U)) w':=
 ⟨_,r,rfl,hb,hs,fun _=>rfl,fun _ _ h=>by rw[ho]at h;simp at h⟩
theorem pD.yes {sc:Nat}{c:List Value}{e:TypeId}{w:World}{r:Bs}{w':World}{o:Option (Ty×Bs)}{t:Ty}{v:Value}(ho:o=OK (t,r))(hb:But (· = sc) w w')(hs:qL sc c e r w')(hv:Rep (w<=·) w' (jk t) v):pD sc c e w o (.returned v) w':=
 ⟨_,r,rfl,hb,hs,fun h=>by rw[ho]at h;simp at h,fun _ _ h=>by rw[ho]at h;simp at h;obtain⟨rfl,rfl⟩:=h;exact⟨rfl,hv⟩⟩
theorem yK {sc:Nat}{c:List Value}{e:TypeId}{r:Bs}{w:World}(h:qL sc c e r w):sc<w:=zZ h
theorem qL.alloc {sc:Nat}{c:List Value}{e:TypeId}{r:Bs}{w:World}(h:qL sc c e r w)(o:Obj):qL sc c e r (w.alloc o):=zJ h
def ri (sc:Nat)(c:List Value)(e:TypeId)(d:Nat):Prop:=∀ (r:Bs) (w:World),qL sc c e r w->Lim r.length ->
    Calls RG 79 #[sc,.int RD d] w (pD sc c e w (rdK d r))
theorem kind_step (sc:Nat)(c:List Value)(e:TypeId)(d:Nat)(hd:d<=1000)(ih:∀d',d=d'+1->ri sc c e d'):ri sc c e d:=by
 intro r w hs hr;have IH:=r9 ih;clear ih;go_enter Tryz.func79,Tryz.ntmps79;go_wp2_with fail
 rcases kC [98] r with h1|⟨r1,h1⟩
 ·refine(vo hs h1).mono ?_;rintro en w1 ⟨rfl,sX,iH⟩;by_cases h0:d=0
  ·have H0:=r9 h0;clear h0;have h0:((d:Int) == 0)=true:=by rw[beq_iff_eq];have:=H0.out;omega
   go_wp2_with fail
   go_ret;exact pD.no (by have:=H0.out;subst this;exact xX h1) sX iH
  ·obtain⟨d',hd'⟩:∃d',d=d'+1:=⟨d-1,by omega⟩;subst hd';clear h0;have h0:(((d'+1:Nat):Int) == 0)=false:=by rw[beq_eq_false_iff_ne];omega
   have IH':=r9 (IH.out d' rfl);clear IH;go_wp2_with fail
   rcases kC [40,62,32] r with h2|⟨r2,h2⟩
   ·refine(vo iH h2).mono ?_;rintro en w2 ⟨rfl,sY,lR⟩;go_wp2_with fail
    go_ret;exact pD.no (by rw[jj h1,h2.out];rfl) (sX.trans sY) lR
   refine(jf iH h2).mono ?_;rintro en w2 ⟨rfl,sY,lR⟩;go_wp2_with fail
   have r2l:=h2.le;refine(IH'.out r2 w2 lR (hr.mono r2l)).mono ?_;rintro en w3 ⟨va,r3,rfl,sE,Bf,lu,BY⟩;rcases ha:rdK d' r2 with _|⟨ta,r3'⟩
   ·obtain rfl:=lu ha;have Ha:=r9 ha;clear ha lu BY;go_wp2_with fail
    go_ret;exact pD.no (by rw[jj h1,h2.out];simp[Ha.out]) ((sX.trans sY).trans sE) Bf
   obtain⟨rfl,lp⟩:=BY _ _ ha;obtain⟨ba,rfl⟩:∃ba,va=.pointer (OK ⟨ba,0,U⟩):=by obtain⟨ba,_,h,_⟩:=zh lp;exact⟨ba,h⟩
   have r3l:=(rdK_le _ ha).1;have Ha:=r9 ha;clear ha lu BY;have hb:=(sX.trans sY).trans sE;have hb2z:=(sX.trans sY).size;clear sX sY;go_wp2_with fail
   rcases kC [32] r3 with h4|⟨r4,h4⟩
   ·refine(vo Bf h4).mono ?_;rintro en w4 ⟨rfl,sO,iy⟩;go_wp2_with fail
    go_ret;exact pD.no (by rw[jj h1,h2.out];simp[Ha.out,h4.out]) (hb.trans sO) iy
   refine(jf Bf h4).mono ?_;rintro en w4 ⟨rfl,sO,iy⟩;go_wp2_with fail
   have r4l:=h4.le;refine(IH'.out r4 w4 iy (hr.mono (by omega))).mono ?_;rintro en w5 ⟨vb,r5,rfl,sx,B1,Cy,Cr⟩;rcases hbb:rdK d' r4 with _|⟨tb,r5'⟩
   ·obtain rfl:=Cy hbb;have Hb:=r9 hbb;clear hbb Cy Cr;go_wp2_with fail
    go_ret;exact pD.no (by rw[jj h1,h2.out];simp[Ha.out,h4.out,Hb.out]) ((hb.trans sO).trans sx) B1
   obtain⟨rfl,aJ⟩:=Cr _ _ hbb;obtain⟨bb,rfl⟩:∃ba,vb=.pointer (OK ⟨ba,0,U⟩):=by obtain⟨ba,_,h,_⟩:=zh aJ;exact⟨ba,h⟩
   have r5l:=rdK_le _ hbb;have Hb:=r9 hbb;clear hbb Cy Cr;go_wp2_with fail
   rcases kC [41] r5 with h6|⟨r6,h6⟩
   ·refine(vo B1 h6).mono ?_;rintro en w6 ⟨rfl,sM,Jy⟩;go_wp2_with fail
    go_ret;exact pD.no (by rw[jj h1,h2.out];simp[Ha.out,h4.out,Hb.out,h6.out]) (((hb.trans sO).trans sx).trans sM) Jy
   refine(jf B1 h6).mono ?_;rintro en w6 ⟨rfl,sM,Jy⟩;have Cu:=yK hs;have z1:=hb.size;have z3:=sE.size;have z4:=sO.size;have z5:=sx.size;have z6:=sM.size;have z2:=sE.size;have w2z:(w:Nat)<=w2:=by have:=hb2z;omega
   have ra:Rep (w<=·) w6 (jk ta) (.pointer (OK ⟨ba,0,U⟩)):=Rep.but ((sO.trans sx).trans sM) (fun b h=>⟨by omega,by omega⟩) lp;have rb:Rep (w<=·) w6 (jk tb) (.pointer (OK ⟨bb,0,U⟩)):=Rep.but sM (fun b h=>⟨by omega,by omega⟩) aJ;go_wp2_with fail
   refine(arrow_any _ ta tb _ _ w6 ra rb (hr.mono (by omega))).mono ?_;rintro en w7 ⟨v,rfl,sH,hv⟩;obtain⟨bv,rfl⟩:∃ba,v=.pointer (OK ⟨ba,0,U⟩):=by obtain⟨ba,_,h,_⟩:=zh hv;exact⟨ba,h⟩
   go_wp2_with fail
   go_ret;refine pD.yes (t:=zi ta tb) (r:=r6) (by rw[jj h1,h2.out];simp[Ha.out,h4.out,Hb.out,h6.out]) ((((hb.trans sO).trans sx).trans sM).trans (But.ofBelow sH)) ?_ ?_
   ·exact(sH.block sc (by omega)).trans Jy
   ·exact(Rep.keep fun b o h ho=>⟨by rcases h with h|h <;> omega,ho⟩).1 _ _ hv
 ·refine(jf hs h1).mono ?_;rintro en w1 ⟨rfl,sX,iH⟩;go_wp2_with fail
  go_ret;refine pD.yes (t:=.mk []) (r:=r1) (xR h1) (sX.alloc _) (iH.alloc _) ?_;refine bx (F:=(w<=·)) sX.size (zW _ _) ?_;exact(zv.2 ⟨rfl,U,0,rfl,sZ _,fun _=>rfl,.inl rfl⟩)
theorem kind_any (sc:Nat)(c:List Value)(e:TypeId)(d:Nat)(hd:d<=1000):ri sc c e d:=by
 induction d with
 |zero=>exact kind_step sc c e 0 hd (fun d' h=>by omega)
 | succ d ih=>exact kind_step sc c e (d+1) hd (fun d' h=>by obtain rfl:d=d':=by omega
                                                            exact ih (by omega))
def fO (F:Nat->Prop)(w:World)(t:Ty):Prop:=∀v,Rep F w (jk t) v->
 Calls RG 54 #[v] w fun en w'=>en=.returned (.int RD (zU t))/\w'=w
theorem atoms_step (F:Nat->Prop)(w:World)(t:Ty)(hl:Lim (zU t))(ih:∀t',zU t'<zU t->fO F w t'):fO F w t:=by
 intro v hv;obtain⟨b,s,rfl,hb,hc,hs⟩:=zh hv;have c1:w b=s:=by simp[RE,hc]
 obtain⟨a,cap,rfl,hn,hlen,sG⟩:=zH hs;have IH:=r9 ih;clear ih hc hv hs;have e1:=kI t;have E1:=r9 e1;clear e1;have Ar:=hl.le;have PO:t.args.length<=16777216:=by
  have h:∀ts:List Ty,ts.length<=zc ts:=by intro ts;induction ts with
   |nil=>simp
   |cons t ts ih=>simp[zc];omega
  have:=h t.args;have:=E1.out;omega
 have HL:=r9 hlen;clear hlen;have AT:=r9 sG;clear sG;go_enter Tryz.func54,Tryz.ntmps54;go_wp2_with fail
 go_loop [3,11] (fun n i=>∃k:Nat,k<=t.args.length/\i=.int RD k/\n=.int RD ((1+zc (t.args.take k):Nat):Int)) (fun _ i=>t.args.length-(intOf i).toNat)
 case atStart=>exact⟨0,R6 _,rfl,by simp[zc]⟩
 case round=>
  obtain⟨k,hk,rfl,rfl⟩:=hrel;by_cases sC:k<t.args.length
  ·obtain⟨b',o,u,d,rfl,_,sA,hd,hu,hr⟩:=AT.out k sC;rw[yH,Option.map_eq_some_iff]at hd;obtain⟨t',al,rfl⟩:=hd;have hs:=xq al;have tw:=uz t.args (k+1);have oQ:=E1.out;have IH':=r9 (IH.out t' (by omega));have HS:=r9 hs;have b1:1+zc (t.args.take k)+(1+zU t')<=16777216:=by omega
   have HT:=r9 al;clear hs al oQ;obtain⟨bu,eu⟩:∃bu,u=.pointer (OK ⟨bu,0,U⟩):=by obtain⟨ba,_,h,_⟩:=zh hr;exact⟨ba,h⟩
   subst eu;go_wp2_with fail
   refine(IH'.out _ hr).mono ?_;rintro en w' ⟨rfl,ew⟩;subst ew;go_wp2_with fail
   go_round
   case rel=>exact⟨k+1,by omega,by go_num,by rw[HS.out];go_num⟩
   case measure=>simp[intOf];omega
  ·go_wp2_with fail
   go_ret;have:k=t.args.length:=by omega
   subst this;exact⟨yQ (by rw[E1.out,List.take_length];simp),rfl⟩
theorem uB (F:Nat->Prop)(w:World)(n:Nat):∀t,zU t<=n->Lim n->fO F w t:=by
 induction n with
 |zero=>intro t h _;have:=qA t;omega
 |succ n ih=>exact fun t h hn=>atoms_step F w t (hn.mono h) (fun t' h'=>ih t' (by omega) (hn.mono (by omega)))
def uy (l:Bs):Option Ty:=match rdK 15 l with
 |some (t,[])=>if zU t<=15 then OK t else U
 |_=>U
def RKPost (w:World)(o:Option Ty)(en:Ending)(w':World):Prop:=
 ∃v,en=.returned v/\No w w'/\(o=U->v=.pointer U)/\(∀t,o=OK t->Rep (w<=·) w' (jk t) v)
theorem readKind_any (l:Bs)(w:World)(hl:Lim l.length) :
 Calls RG 90 #[l] w (RKPost w (uy l)):=by
 have Ar:=hl.le;go_enter Tryz.func90,Tryz.ntmps90;go_wp2_with fail
 have oX:qL w [] 109 l (w.alloc (.cells #[l] 109)):=zW _ _;refine(kind_any _ _ _ 15 (by omega) l _ oX hl).mono ?_;rintro en w1 ⟨v,r1,rfl,sX,iH,tK,tH⟩;have hb:No w w1:=((sQ w w).alloc (sZ _) _).trans (sX.toBelow (by simp) (fun i hi e=>by omega));rcases ha:rdK 15 l with _|⟨t,r1'⟩
 ·obtain rfl:=tK ha;have Ha:=r9 ha;clear ha tK tH;go_wp2_with fail
  go_ret;exact⟨_,rfl,hb,fun _=>rfl,fun t h=>by simp[uy,Ha.out]at h⟩
 obtain⟨rfl,lp⟩:=tH _ _ ha;obtain⟨ba,rfl⟩:∃ba,v=.pointer (OK ⟨ba,0,U⟩):=by obtain⟨ba,_,h,_⟩:=zh lp;exact⟨ba,h⟩
 have sG:=eh _ ha;have Ha:=r9 ha;clear ha tK tH;have lJ:=iH.cell;have hz:(w:Nat)<w1:=yK iH;cases r1 with
 | cons x xs =>
   have hne:(!(x::xs).isEmpty)=true:=rfl;go_wp2_with fail
   go_ret;exact⟨_,rfl,hb,fun _=>rfl,fun t h=>by simp[uy,Ha.out]at h⟩
 | nil =>
   go_wp2_with fail
   refine(uB _ w1 (zU t) t (sZ _) (hl.mono (by omega)) _ lp).mono ?_;rintro en w2 ⟨rfl,e2⟩;subst e2;by_cases sT:zU t<=15
   ·go_wp2_with fail
    go_ret;have HM:uy l=t:=by simp[uy,Ha.out,sT]
    exact⟨_,rfl,hb,fun h=>by simp[HM]at h,fun t' h=>by rw[HM]at h;simp at h;subst h;exact(Rep.keep fun b o h ho=>⟨by have:=h;simp at this;omega,ho⟩).1 _ _ lp⟩
   ·go_wp2_with fail
    go_ret;have HM:uy l=U:=by simp[uy,Ha.out,sT]
    exact⟨_,rfl,hb,fun _=>rfl,fun t' h=>by rw[HM]at h;simp at h⟩
theorem growK_any (n:Nat)(w:World)(hn:Lim n) :
 Calls RG 129 #[(),.int RD n] w fun en w'=>
  ∃a c,en=.returned (.slice a 0 c)/\Own w' 33 1 (.slice a 0 c) 0 []/\No w w'/\(∀g,(RI a 0 c).ownBlock=OK g->(w:Nat)<=g):=by
 have hl:=hn.le;by_cases h0:n=0
 ·subst h0;go_enter Wv,Wn;go_wp2_with fail
  go_ret;exact⟨U,0,rfl,Sf _ _ _ _,sQ _ _,fun g h=>by simp[RM]at h⟩
 ·have h1:0<n:=by omega
  clear h0;go_enter Wv,Wn;go_wp2_with (at_builtin;refine b8 rfl _ _ 37 3 rfl 33 (.pointer U) 1 8 T6 Tryz.underlying3 Tryz.infoK rfl (by decide) (by decide) rfl n rfl h1 hl ?_)
  intro cap c lJ oI Iz;go_wp2_with fail
  go_ret;exact⟨_,cap,rfl,⟨by simp,.inr ⟨w,cap,c,rfl,R6 _,zW w _,R6 _,oI,by simpa using Iz,by simp⟩⟩,((sQ _ _).alloc (sZ _) _).drew,fun g h=>by simp[RM]at h;omega⟩
theorem zz.slice {size:Nat}{x:Value}{m:Nat}{news:List Value}{w:World}(h:zz size x m news w):∃a c,x=.slice a m c:=by
 obtain⟨_,_,⟨a,c,rfl,_⟩ | ⟨rfl,rfl⟩⟩:=h
 all_goals
  exact⟨_,_,rfl⟩
theorem zz.below {w w':World}{size:Nat}{x:Value}{m:Nat}{news:List Value}(hb:No w w')(h:zz size x m news w):zz size x m news w':=
 h.keep fun a v hv=>by rw[hb.cell (sK w a hv)];exact hv
def fI (e:TypeId)(w:World)(n1 n2:Nat)(xs1 xs2:List Value)(v i:Value)(wr:World):Prop:=
 ∃ k m xs a c,i=.int .i64 (k:Nat)/\v=.slice a m c/\Own wr e 1 (.slice a m c) m xs/\Below w w wr/\(∀ g,(RI a m c).ownBlock=some g->(w:Nat)<=g) /\
   ((k=0/\m=0/\xs=[])\/(k=1/\m=n1/\xs=xs1)\/(k=2/\m=n1+n2/\xs=xs1++xs2))
theorem fI.next {e:TypeId}{w:World}{n1 n2:Nat}{xs1 xs2:List Value}{k m m':Nat}{xs:List Value}{a a':Option Addr}{c c':Nat}{wr w':World}(ho:Own w' e 1 (.slice a' m' c') m' xs)(hb:No w wr)(Ga:But (fun b=>(RI a m c).ownBlock=OK b) wr w')(hf:∀g,(RI a m c).ownBlock=OK g->(w:Nat)<=g)(hg:∀g,(RI a' m' c').ownBlock=OK g->(RI a m c).ownBlock=OK g\/g=(wr:Nat))(hk:(k=0/\m'=0/\xs=[])\/(k=1/\m'=n1/\xs=xs1)\/(k=2/\m'=n1+n2/\xs=xs1++xs2)):fI e w n1 n2 xs1 xs2 (.slice a' m' c') (.int RD (k:Nat)) w':=
 ⟨k,m',xs,a',c',rfl,rfl,ho,hb.trans (Ga.toBelow hb.size fun i hi h=>by have:=hf i h;omega),fun g h=>by
  rcases hg g h with h|h
  ·exact hf g h
  ·have:=hb.size;omega,hk⟩
theorem concatK_any (b n1 n2:Nat)(s1 s2:Value)(xs1 xs2:List Value)(w:World)(c1:w b=s1)(c2:w (b,1)=s2)(h1:zz 1 s1 n1 xs1 w)(h2:zz 1 s2 n2 xs2 w)(tK:Lim n1)(lY:Lim n2)(hn:Lim (n1+n2)) :
 Calls RG 112 #[.slice b 2 2] w fun en w'=>
  ∃a c,en=.returned (.slice a (n1+n2) c)/\Own w' 33 1 (.slice a (n1+n2) c) (n1+n2) (xs1++xs2)/\No w w'/\(∀g,(RI a (n1+n2) c).ownBlock=OK g->(w:Nat)<=g):=by
 obtain⟨a1,k1,rfl⟩:=h1.slice;obtain⟨a2,k2,rfl⟩:=h2.slice;have hl:=hn.le;have Gy:=tK.le;have PQ:=lY.le;have lb:b<w:=sK w _ c1;go_enter Tryz.func112,Tryz.ntmps112;go_wp2_with fail
 go_loop [3,11] (fun n i=>(i=.int RD 0/\n=.int RD 0)\/(i=.int RD 1/\n=.int RD n1)\/(i=.int RD 2/\n=.int RD ((n1:Int)+(n2:Int)))) (fun _ i=>2-(intOf i).toNat)
 case atStart=>exact .inl ⟨rfl,rfl⟩
 case round=>
  rcases hrel with ⟨rfl,rfl⟩|⟨rfl,rfl⟩|⟨rfl,rfl⟩
  ·go_wp2_with fail
   go_round
   case rel=>exact .inr (.inl ⟨rfl,rfl⟩)
   case measure=>simp[intOf]
  ·go_wp2_with fail
   go_round
   case rel=>exact .inr (.inr ⟨rfl,rfl⟩)
   case measure=>simp[intOf]
  ·go_wp2_with fail
   rw[show (n1:Int)+(n2:Int)=((n1+n2:Nat):Int) from by omega];refine(growK_any (n1+n2) w hn).mono ?_;rintro en wg ⟨ag,cg,rfl,hog,Af,hfg⟩;have Iw:fI 33 w n1 n2 xs1 xs2 (.slice ag 0 cg) (.int RD (0:Nat)) wg:=⟨0,0,[],ag,cg,rfl,rfl,hog,Af,hfg,.inl ⟨rfl,rfl,rfl⟩⟩;clear hog Af hfg;go_wp2_with fail
   go_loopw [6,27] (fun v i wr=>fI 33 w n1 n2 xs1 xs2 v i wr) (fun _ i _=>2-(intOf i).toNat)
   case atStart=>exact Iw
   case round=>
    rename_i wr;obtain⟨k,m,xs,a,c,rfl,rfl,ho,hb,hf,hk⟩:=hrel;have d1:wr b=OK (.slice a1 n1 k1):=by rw[hb.cell lb];exact c1
    have d2:wr (b,1)=OK (.slice a2 n2 k2):=by rw[hb.cell lb];exact c2
    have g1:=h1.below hb;have g2:=h2.below hb;have HF:=r9 hf;clear hf;rcases hk with ⟨rfl,rfl,rfl⟩|⟨rfl,rfl,rfl⟩|⟨rfl,rfl,rfl⟩
    ·go_wp2_with (at_builtin;refine zF rfl _ _ 37 rfl 33 (.pointer U) 1 8 T6 Tryz.infoK rfl (by decide) _ 0 [] rfl ho _ n1 xs1 rfl g1 ?c3 ?c4 ?_)
     case c3=>unfold maxLen;omega
     case c4=>omega
     intro a' c' w' E9 sA tS;have Iw:=fI.next (n1:=n1) (n2:=n2) (xs1:=xs1) (xs2:=xs2) (k:=1) E9 hb sA HF.out tS (.inr (.inl ⟨rfl,rfl,rfl⟩));clear sA tS E9 HF;go_wp2_with fail
     go_roundw
     case rel=>exact Iw
     case measure=>simp[intOf]
    ·go_wp2_with (at_builtin;refine zF rfl _ _ 37 rfl 33 (.pointer U) 1 8 T6 Tryz.infoK rfl (by decide) _ m xs rfl ho _ n2 xs2 rfl g2 ?c3 ?c4 ?_)
     case c3=>unfold maxLen;omega
     case c4=>omega
     intro a' c' w' E9 sA tS;have Iw:=fI.next (n1:=m) (n2:=n2) (xs1:=xs) (xs2:=xs2) (k:=2) E9 hb sA HF.out tS (.inr (.inr ⟨rfl,rfl,rfl⟩));clear sA tS E9 HF;go_wp2_with fail
     go_roundw
     case rel=>exact Iw
     case measure=>simp[intOf]
    ·go_wp2_with fail
     go_ret;exact⟨a,c,rfl,ho,hb,HF.out⟩
inductive Bd where
 |leaf (c:UInt8)
 |ask (v:Nat) (subs:List Bd) (yes no:Bd)
mutual
def kM:Bd->DV
 |.leaf c=>.ptr 71 [.val (str [c]),.val (.int RD (0:Nat)),.sl 34 1 0 [],.val (.pointer U),.val (.pointer U)]
 |.ask v ss y n=>.ptr 71 [.val (str []),.val (.int RD v),.sl 34 1 ss.length (qH ss),kM y,kM n]
def qH:List Bd->List DV
 |[]=>[]
 |b::bs=>kM b::qH bs
end
def sep (c:UInt8):Bool:=c == 32 || c == 40 || c == 41
def zR (l:Bs):Bs:=l.takeWhile (fun c=>!sep c)
def zM (l:Bs):Bs:=l.dropWhile (fun c=>!sep c)
def lvl (w:Bs)(n:Nat):Option Nat:=
 match To w with
 |.ok v=>if Tb v=w/\0<=v/\v<n then OK v.toNat else U
 |_=>U
abbrev Rd:=List Ty->Nat->Bs->Option (Bd×Bs×Nat)
def k9 (rd:Rd):List (List Ty)->Nat->Bs->Option (List Bd×Bs×Nat)
 |[],left,l=>OK ([],l,left)
 | h::hs,left,l=>do
   let l1<-cut [32] l
   let (b,l2,tU)<-rd h left l1
   let (bs,l3,lI)<-k9 rd hs tU l2
   OK (b::bs,l3,lI)
def nM (rd:Rd)(levels:List Ty)(v:Nat)(t:Ty)(left:Nat)(l:Bs):Option (Bd×Bs×Nat):=do
 let (ss,l1,oT)<-k9 rd (t.args.map fun a=>levels++a.args) left l
 let (yn,l2,tU)<-k9 rd [levels,levels] oT l1
 match yn with
 | [y,n]=>do
   let l3<-cut [41] l2
   OK (.ask v ss y n,l3,tU)
 |_=>U
def rdB:Nat->Rd
 | d,levels,left,l =>
   match left with
   |0=>U
   | left+1 =>
     match cut [40] l with
     |none=>if zR l=[116] then OK (.leaf 116,zM l,left) else if zR l=[102] then OK (.leaf 102,zM l,left) else if zR l=[117] then OK (.leaf 117,zM l,left) else U
     | some r=>match lvl (zR r) levels.length with
       |none=>U
       | some v=>match d with
         |0=>U
         | d+1=>match levels[v]? with
           |none=>U
           |some t=>nM (rdB d) levels v t left (zM r)
def jm (rd:Rd)(levels:List Ty)(left:Nat)(l:Bs):Option (Bd×Bs×Nat):=do
 let l1<-cut [32] l
 rd levels left l1
theorem vj (rd:Rd)(h:List Ty)(hs:List (List Ty))(left:Nat)(l:Bs):k9 rd (h::hs) left l=(do
 let (b,l2,tU)<-jm rd h left l
 let (bs,l3,lI)<-k9 rd hs tU l2
 some (b::bs,l3,lI)):=by
 rw[k9,jm];cases cut [32] l <;> rfl
theorem rdParts_snoc (rd:Rd)(hs:List (List Ty))(h:List Ty):∀ (left:Nat) (l:Bs),k9 rd (hs++[h]) left l=(do
 let (bs,l2,tU)<-k9 rd hs left l
 let (b,l3,lI)<-jm rd h tU l2
 some (bs++[b],l3,lI)):=by
 induction hs with
 | nil =>
   intro left l;rw[Ss,vj];simp only[k9,RJ,RF];cases jm rd h left l <;> simp
 | cons h' hs ih =>
   intro left l;rw[R5,vj,vj];simp only[RJ];cases hp:jm rd h' left l with
   |none=>simp
   | some x =>
     obtain⟨b,l2,tU⟩:=x;simp only[RF,ih,RJ];cases hq:k9 rd hs tU l2 with
     |none=>simp
     | some y =>
       obtain⟨bs,l3,lI⟩:=y;simp only[RF];cases hr:jm rd h lI l3 with
       |none=>simp
       |some z=>simp
def kx (levels ts:List Ty):List (List Ty):=ts.map fun a=>levels++a.args
theorem hands_take {levels ts:List Ty}{k:Nat}{t:Ty}(h:ts[k]?=OK t):kx levels (ts.take (k+1))=kx levels (ts.take k)++[levels++t.args]:=by
 rw[Sd,h];simp[kx]
theorem rdAsk_eq (rd:Rd)(levels:List Ty)(v:Nat)(t:Ty)(left:Nat)(l:Bs):nM rd levels v t left l=(do
 let (ss,l1,oT)<-k9 rd (kx levels t.args) left l
 let (y,l2,tU)<-jm rd levels oT l1
 let (n,l3,lI)<-jm rd levels tU l2
 let l4<-cut [41] l3
 some (.ask v ss y n,l4,lI)):=by
 rw[nM];show _=(k9 rd (kx levels t.args) left l).bind _;show (k9 rd (kx levels t.args) left l).bind _=_;cases k9 rd (kx levels t.args) left l with
 |none=>rfl
 | some x =>
   obtain⟨ss,l1,oT⟩:=x;simp only[RF,vj,RJ];cases jm rd levels oT l1 with
   |none=>rfl
   | some y =>
     obtain⟨y,l2,tU⟩:=y;simp only[RF];cases jm rd levels tU l2 with
     |none=>rfl
     | some z =>
       obtain⟨n,l3,lI⟩:=z;simp[k9]
theorem lvl_lt {w:Bs}{n v:Nat}(h:lvl w n=v):v<n/\To w=.ok (v:Int)/\Tb (v:Int)=w:=by
 unfold lvl at h;split at h
 ·rename_i u hu;split at h
  ·rename_i hc;simp at h;subst h;have e:((u.toNat:Nat):Int)=u:=by omega
   exact⟨by omega,by rw[e];exact hu,by rw[e];exact hc.1⟩
  ·simp at h
 ·simp at h
theorem lvl_no {w:Bs}{n:Nat}(h:lvl w n=U):(∀v,To w≠.ok v)\/∃v,To w=.ok v/\(Tb v≠w\/(Tb v=w/\v<0)\/(Tb v=w/\0<=v/\(n:Int)<=v)):=by
 unfold lvl at h;cases ha:To w
 ·rename_i u;rw[ha]at h;simp at h;refine .inr ⟨u,rfl,?_⟩;by_cases h1:Tb u=w
  ·by_cases h2:0<=u
   ·exact .inr (.inr ⟨h1,h2,h h1 h2⟩)
   ·exact .inr (.inl ⟨h1,by omega⟩)
  ·exact .inl h1
 all_goals
  exact .inl fun v h=>by simp at h
theorem pJ {rd:Rd}{levels:List Ty}{left:Nat}{l:Bs}(i8:∀ {lv lf m b r f},rd lv lf m=OK (b,r,f)->r.length<=m.length/\f<=lf){b:Bd}{r:Bs}{f:Nat}(h:jm rd levels left l=OK (b,r,f)):r.length<=l.length/\f<=left:=by
 unfold jm at h;simp only[RJ,RH]at h;obtain⟨l1,h1,h2⟩:=h;have:=Cut.le h1;have:=i8 h2;exact⟨by omega,this.2⟩
theorem pI {rd:Rd}(i8:∀ {lv lf m b r f},rd lv lf m=OK (b,r,f)->r.length<=m.length/\f<=lf)(hs:List (List Ty)):∀ {left:Nat} {l:Bs} {bs:List Bd} {r:Bs} {f:Nat},k9 rd hs left l=OK (bs,r,f)->r.length<=l.length/\f<=left/\bs.length=hs.length:=by
 induction hs with
 |nil=>intro left l bs r f h;simp[k9]at h;obtain⟨rfl,rfl,rfl⟩:=h;simp
 | cons h' hs ih =>
   intro left l bs r f h;rw[vj]at h;simp only[RJ,RH,Prod.exists]at h;obtain⟨b,l2,f2,h1,bs',l3,f3,h2,h3⟩:=h;simp at h3;obtain⟨rfl,rfl,rfl⟩:=h3;have:=pJ i8 h1;have:=ih h2;exact⟨by omega,by omega,by simp[this.2.2]⟩
theorem wU (l:Bs):(zM l).length<=l.length:=by
 have:zR l++zM l=l:=List.takeWhile_append_dropWhile;have:=congrArg List.length this;simp at this;omega
theorem nF (d:Nat):∀ {lv lf m b r f},rdB d lv lf m=OK (b,r,f)->r.length<=m.length/\f<=lf:=by
 induction d with
 | zero =>
   intro lv lf m b r f h;cases lf with
   |zero=>simp[rdB]at h
   | succ lf =>
     unfold rdB at h;simp only at h;have hw:=wU m;cases hc:cut [40] m with
     | none =>
       rw[hc]at h;simp only at h;split at h
       ·simp at h;obtain⟨_,rfl,rfl⟩:=h;exact⟨hw,by omega⟩
       ·split at h
        ·simp at h;obtain⟨_,rfl,rfl⟩:=h;exact⟨hw,by omega⟩
        ·split at h
         ·simp at h;obtain⟨_,rfl,rfl⟩:=h;exact⟨hw,by omega⟩
         ·simp at h
     | some r1 =>
       rw[hc]at h;simp only at h;split at h <;> simp at h
 | succ d ih =>
   intro lv lf m b r f h;cases lf with
   |zero=>simp[rdB]at h
   | succ lf =>
     unfold rdB at h;simp only at h;have hw:=wU m;cases hc:cut [40] m with
     | none =>
       rw[hc]at h;simp only at h;split at h
       ·simp at h;obtain⟨_,rfl,rfl⟩:=h;exact⟨hw,by omega⟩
       ·split at h
        ·simp at h;obtain⟨_,rfl,rfl⟩:=h;exact⟨hw,by omega⟩
        ·split at h
         ·simp at h;obtain⟨_,rfl,rfl⟩:=h;exact⟨hw,by omega⟩
         ·simp at h
     | some r1 =>
       rw[hc]at h;simp only at h;have k0:=Cut.le hc;have k1:=wU r1;split at h
       ·simp at h
       ·split at h
        ·simp at h
        ·rw[rdAsk_eq]at h;simp only[RJ,RH,Prod.exists]at h;obtain⟨ss,l1,f1,h1,y,l2,f2,h2,n,l3,f3,h3,l4,h4,h5⟩:=h;simp at h5;obtain⟨_,rfl,rfl⟩:=h5;have:=pI ih _ h1;have:=pJ ih h2;have:=pJ ih h3;have:=Cut.le h4;exact⟨by omega,by omega⟩
theorem dM (d:Nat)(levels:List Ty)(left:Nat){l r:Bs}(h:cut [40] l=r):rdB d levels (left+1) l=(match lvl (zR r) levels.length with
        |none=>U
        | some v=>match d with
          |0=>U
          | d+1=>match levels[v]? with
            |none=>U
            | some t=>nM (rdB d) levels v t left (zM r)):=by
 cases d <;> (unfold rdB;simp only[h]) <;> rfl
theorem dF (d:Nat)(levels:List Ty)(left:Nat){l:Bs}(h:cut [40] l=U):rdB d levels (left+1) l=(if zR l=[116] then OK (Bd.leaf 116,zM l,left) else if zR l=[102] then OK (.leaf 102,zM l,left) else if zR l=[117] then OK (.leaf 117,zM l,left) else U):=by
 unfold rdB;simp only[h]
theorem b_ (rd:Rd)(hs gs:List (List Ty)):∀(left:Nat) (l:Bs),k9 rd hs left l=U->k9 rd (hs++gs) left l=U:=by
 induction hs with
 |nil=>intro left l h;simp[k9]at h
 | cons h' hs ih =>
   intro left l h;rw[vj]at h;rw[R5,vj];simp only[RJ] at *;cases hp:jm rd h' left l with
   |none=>simp
   | some x =>
     obtain⟨b,l2,tU⟩:=x;rw[hp]at h;simp only[RF] at *;cases hq:k9 rd hs tU l2 with
     |none=>rw[ih _ _ hq];simp
     |some y=>rw[hq]at h;simp at h
theorem hands_none {rd:Rd}{levels ts:List Ty}{left:Nat}{l:Bs}(k:Nat)(h:k9 rd (kx levels (ts.take k)) left l=U):k9 rd (kx levels ts) left l=U:=by
 have e:kx levels ts=kx levels (ts.take k)++kx levels (ts.drop k):=by
  unfold kx;rw[<- List.map_append,R7]
 rw[e];exact b_ rd _ _ _ _ h
theorem rV {rd:Rd}{levels ts:List Ty}{left:Nat}{l:Bs}{k:Nat}{t:Ty}{bs:List Bd}{lk:Bs}{leftk:Nat}(ht:ts[k]?=OK t)(h:k9 rd (kx levels (ts.take k)) left l=OK (bs,lk,leftk)) :
 k9 rd (kx levels (ts.take (k+1))) left l=(jm rd (levels++t.args) leftk lk).map fun x=>(bs++[x.1],x.2.1,x.2.2):=by
 rw[hands_take ht,rdParts_snoc,h];simp only[RJ,RF];cases jm rd (levels++t.args) leftk lk with
 |none=>rfl
 |some x=>rfl
def kr:Bd->List Bd
 |.leaf _=>[]
 |.ask _ ss y n=>ss++[y,n]
mutual
def zG:Bd->Nat
 |.leaf _=>1
 |.ask _ ss y n=>1+(zI ss+(zG y+zG n))
def zI:List Bd->Nat
 |[]=>0
 |b::bs=>zG b+zI bs
end
mutual
def kq:Bd->Nat
 |.leaf _=>0
 |.ask _ ss y n=>max (k_ ss) (max (1+kq y) (1+kq n))
def k_:List Bd->Nat
 |[]=>0
 |b::bs=>max (1+kq b) (k_ bs)
end
theorem jp (a b:List Bd):zI (a++b)=zI a+zI b:=by
 induction a with
 |nil=>simp[zI]
 |cons t ts ih=>simp[zI,ih];omega
theorem g7 (a b:List Bd):k_ (a++b)=max (k_ a) (k_ b):=by
 induction a with
 |nil=>simp[k_]
 |cons t ts ih=>simp only[R5,k_,ih];omega
theorem ud (b:Bd):zG b=1+zI (kr b):=by
 cases b with
 |leaf c=>simp[zG,kr,zI]
 |ask v ss y n=>simp[zG,kr,jp,zI]
theorem xz (b:Bd):kq b=k_ (kr b):=by
 cases b with
 |leaf c=>simp[kq,kr,k_]
 |ask v ss y n=>simp only[kq,kr,g7,k_];omega
theorem xV {ts:List Bd}{k:Nat}{t:Bd}(h:ts[k]?=OK t):zI (ts.take (k+1))=zI (ts.take k)+zG t:=by
 rw[Sd,h,jp];simp[zI]
theorem depthBs_take {ts:List Bd}{k:Nat}{t:Bd}(h:ts[k]?=OK t):k_ (ts.take (k+1))=max (k_ (ts.take k)) (1+kq t):=by
 rw[Sd,h,g7];simp[k_]
theorem vD (ts:List Bd)(k:Nat):zI (ts.take k)<=zI ts:=by
 have:=jp (ts.take k) (ts.drop k);rw[R7]at this;omega
theorem kQ (b:Bd):1<=zG b:=by rw[ud];omega
theorem qI (ts:List Bd):ts.length<=zI ts:=by
 induction ts with
 |nil=>simp
 |cons t ts ih=>simp[zI];have:=kQ t;omega
theorem rD {ts:List Bd}(h:∀t∈ts,kq t<zG t):k_ ts<=zI ts:=by
 induction ts with
 |nil=>simp[k_]
 | cons t ts ih =>
   have h1:=h t (by simp);have h2:=ih (fun x hx=>h x (by simp[hx]));simp only[k_,zI];omega
theorem uZ {ts:List Bd}{t:Bd}(h:t∈ts):zG t<=zI ts:=by
 induction ts with
 |nil=>simp at h
 | cons x xs ih =>
   rcases Sc.1 h with rfl|h
   ·simp[zI]
   ·have:=ih h;simp[zI];omega
theorem bh:∀(n:Nat) (b:Bd),zG b<=n->kq b<zG b:=by
 intro n
 induction n with
 |zero=>intro b h;have:=kQ b;omega
 | succ n ih =>
   intro b h;have h1:=ud b;rw[xz,h1];have:=rD (ts:=kr b) (fun t ht=>ih t (by have:=uZ ht;omega));omega
theorem tw_all {α:Type}(p:α->Bool)(l:List α):∀c∈l.takeWhile p,p c=true:=by
 induction l with
 |nil=>simp
 | cons x xs ih =>
   intro c hc;rw[TS]at hc;split at hc
   ·rename_i hx;rcases Sc.1 hc with rfl|hc
    ·exact hx
    ·exact ih c hc
   ·simp at hc
theorem tw_end {α:Type}(p:α->Bool)(l:List α):∀h:(l.takeWhile p).length<l.length,p l[(l.takeWhile p).length]=false:=by
 induction l with
 |nil=>intro h;simp at h
 | cons x xs ih =>
   intro h;by_cases hx:p x=true
   ·have e:(x::xs).takeWhile p=x::xs.takeWhile p:=by rw[TS,if_pos hx]
    have h':(xs.takeWhile p).length<xs.length:=by rw[e]at h;simpa using h
    have:=ih h';simp only[e,RU,List.getElem_cons_succ];exact this
   ·have e:(x::xs).takeWhile p=[]:=by rw[TS,if_neg hx]
    simp only[e,List.length_nil,List.getElem_cons_zero];simpa using hx
def dig (c:UInt8):Bool:=48<=c && c<=57
def qD (m:Bs):Bs:=(m.take 4).takeWhile dig
def jq (ds:Bs):Nat:=ds.foldl (fun n c=>10*n+(c.toNat-48)) 0
def jE (m:Bs):Option (Nat×Nat):=
 if qD m=[]\/(1<(qD m).length/\m.head? = OK 48) then U else OK (jq (qD m),(qD m).length)
theorem bw (m:Bs):(qD m).length<=4/\(qD m).length<=m.length:=by
 have h1:(qD m).length<=(m.take 4).length:=(List.takeWhile_sublist _).length_le;simp at h1;omega
theorem y7 (m:Bs):qD m <+: m:=(List.takeWhile_prefix _).trans (List.take_prefix _ _)
theorem yw (m:Bs):∀c∈qD m,dig c=true:=by
 exact tw_all dig _
theorem digsOf_at {m:Bs}{j:Nat}(h:j<(qD m).length):∃hm:j<m.length,m[j]=(qD m)[j]/\dig m[j]=true:=by
 have hp:=y7 m;have hl:=hp.length_le;refine⟨by omega,(hp.getElem h).symm,?_⟩;rw[<- hp.getElem h];exact yw m _ (List.getElem_mem h)
theorem digsOf_end {m:Bs}:(qD m).length=4\/m.length<=(qD m).length\/∃h:(qD m).length<m.length,dig m[(qD m).length]=false:=by
 by_cases h4:(qD m).length=4
 ·exact .inl h4
 by_cases hl:m.length<=(qD m).length
 ·exact .inr (.inl hl)
 have tw:=bw m;refine .inr (.inr ⟨by omega,?_⟩);have sC:(qD m).length<(m.take 4).length:=by simp;omega
 have h2:dig ((m.take 4)[(qD m).length])=false:=tw_end dig (m.take 4) sC;rw[List.getElem_take]at h2;exact h2
theorem pF (ds:Bs)(c:UInt8):jq (ds++[c])=10*jq ds+(c.toNat-48):=by
 unfold jq;rw[List.foldl_append];rfl
theorem valOf_take {ds:Bs}{j:Nat}(h:j<ds.length):jq (ds.take (j+1))=10*jq (ds.take j)+(ds[j].toNat-48):=by
 rw[Sd,List.getElem?_eq_getElem h];exact pF _ _
theorem valOf_lt (ds:Bs)(hd:∀c∈ds,dig c=true):jq ds<10 ^ ds.length:=by
 have key:∀(ds:Bs) (a:Nat),(∀c∈ds,dig c=true)->ds.foldl (fun n c=>10*n+(c.toNat-48)) a<(a+1)*10 ^ ds.length:=by
  intro ds
  induction ds with
  |nil=>intro a _;simp
  | cons c cs ih =>
    intro a h;have hc:=h c (by simp);simp[dig,UInt8.le_iff_toNat_le]at hc;have:=ih (10*a+(c.toNat-48)) (fun x hx=>h x (by simp[hx]));simp only[List.foldl_cons,RU,Nat.pow_succ];refine sV this ?_;rw[show (a+1)*(10 ^ cs.length*10)=(10*(a+1))*10 ^ cs.length from by rw[WV (10 ^ cs.length) 10,<- Nat.mul_assoc,WV (a+1) 10]];exact VO _ (by omega)
 simpa[jq] using key ds 0 hd
abbrev RdS:=List Ty->Bs->Option (Bd×Bs)
def qC (rd:RdS)(h:List Ty)(l:Bs):Option (Bd×Bs):=do
 let l1<-cut [32] l
 rd h l1
def zN (rd:RdS):List (List Ty)->Bs->Option (List Bd×Bs)
 |[],l=>OK ([],l)
 | h::hs,l=>do
   let (b,l1)<-qC rd h l
   let (bs,l2)<-zN rd hs l1
   OK (b::bs,l2)
def jP (hand:List Ty)(t:Ty):List (List Ty):=kx hand t.args++[hand,hand]
def wM (v n:Nat)(ps:List Bd):Option Bd:=match ps.drop n with
 |[y,no]=>OK (.ask v (ps.take n) y no)
 |_=>U
def rdN:Nat->RdS
 |0,_,_=>U
 | e+1,hand,l=>match l with
   |[]=>U
   | c::r=>if c=116\/c=102\/c=117 then some (.leaf c,r) else if c≠40 then none else
     match jE r with
     |none=>U
     | some (v,k)=>match hand[v]? with
       |none=>U
       | some t=>do
         let (ps,l1)<-zN (rdN e) (jP hand t) (r.drop k)
         let l2<-cut [41] l1
         let b<-wM v t.args.length ps
         OK (b,l2)
theorem m_ (rd:RdS)(hs:List (List Ty))(h:List Ty):∀ (l:Bs),zN rd (hs++[h]) l=(do
 let (bs,l1)<-zN rd hs l
 let (b,l2)<-qC rd h l1
 some (bs++[b],l2)):=by
 induction hs with
 | nil =>
   intro l;simp only[Ss,zN,RJ,RF]
   done
 | cons h' hs ih =>
   intro l;simp only[R5,zN,RJ];cases hp:qC rd h' l with
   |none=>simp
   | some x =>
     obtain⟨b,l1⟩:=x;simp only[RF,ih,RJ];cases hq:zN rd hs l1 with
     |none=>simp
     | some y =>
       obtain⟨bs,l2⟩:=y;simp only[RF];cases hr:qC rd h l2 with
       |none=>simp
       |some z=>simp
theorem gH (rd:RdS)(hs gs:List (List Ty)):∀(l:Bs),zN rd hs l=U->zN rd (hs++gs) l=U:=by
 induction hs with
 |nil=>intro l h;simp[zN]at h
 | cons h' hs ih =>
   intro l h;simp only[R5,zN,RJ] at *;cases hp:qC rd h' l with
   |none=>simp
   | some x =>
     obtain⟨b,l1⟩:=x;rw[hp]at h;simp only[RF] at *;cases hq:zN rd hs l1 with
     |none=>rw[ih _ hq];simp
     |some y=>rw[hq]at h;simp at h
theorem uM {rd:RdS}{hs:List (List Ty)}{l:Bs}(k:Nat)(h:zN rd (hs.take k) l=U):zN rd hs l=U:=by
 have:=gH rd (hs.take k) (hs.drop k) l h;rwa [R7]at this
theorem xb {rd:RdS}{hs:List (List Ty)}{l:Bs}{k:Nat}{h:List Ty}{ps:List Bd}{lk:Bs}(hk:hs[k]?=OK h)(hp:zN rd (hs.take k) l=OK (ps,lk)) :
 zN rd (hs.take (k+1)) l=(qC rd h lk).map fun x=>(ps++[x.1],x.2):=by
 rw[Sd,hk];show zN rd (hs.take k++[h]) l=_;rw[m_,hp];simp only[RJ,RF];cases qC rd h lk with
 |none=>rfl
 |some x=>rfl
theorem wo {rd:RdS}(hs:List (List Ty)):∀ {l:Bs} {ps:List Bd} {r:Bs},zN rd hs l=OK (ps,r)->ps.length=hs.length:=by
 induction hs with
 |nil=>intro l ps r h;simp[zN]at h;obtain⟨rfl,rfl⟩:=h;rfl
 | cons h' hs ih =>
   intro l ps r h;simp only[zN,RJ,RH,Prod.exists]at h;obtain⟨b,l1,h1,bs,l2,h2,h3⟩:=h;simp at h3;obtain⟨rfl,rfl⟩:=h3;simp[ih h2]
theorem eX {hand:List Ty}{t a:Ty}{k:Nat}(h:t.args[k]?=OK a):(jP hand t)[k]?=OK (hand++a.args):=by
 have hl:k<t.args.length:=(RR.1 h).1;unfold jP;rw[List.getElem?_append_left (by simpa[kx] using hl)];simp[kx,h]
theorem eY {hand:List Ty}{t:Ty}{k:Nat}(h1:t.args.length<=k)(h2:k<t.args.length+2):(jP hand t)[k]?=OK hand:=by
 unfold jP;rw[List.getElem?_append_right (by simpa[kx] using h1)];simp only[kx,List.length_map];rcases(by omega:k-t.args.length=0\/k-t.args.length=1) with h|h <;> simp[h]
theorem uq (hand:List Ty)(t:Ty):(jP hand t).length=t.args.length+2:=by simp[jP,kx]
theorem mC {rd:RdS}(i8:∀ {h l b r},rd h l=OK (b,r)->r <:+ l){h:List Ty}{l r:Bs}{b:Bd}(hp:qC rd h l=OK (b,r)):r <:+ l:=by
 unfold qC at hp;simp only[RJ,RH]at hp;obtain⟨l1,h1,h2⟩:=hp;refine(i8 h2).trans ?_;unfold cut at h1;split at h1
 ·simp at h1;subst h1;first | exact V5 _ | exact TL _ _
 ·simp at h1
theorem eT {rd:RdS}(i8:∀ {h l b r},rd h l=OK (b,r)->r <:+ l)(hs:List (List Ty)):∀ {l r:Bs} {ps:List Bd},zN rd hs l=OK (ps,r)->r <:+ l:=by
 induction hs with
 |nil=>intro l r ps h;simp[zN]at h;obtain⟨rfl,rfl⟩:=h;exact List.suffix_refl _
 | cons h' hs ih =>
   intro l r ps h;simp only[zN,RJ,RH,Prod.exists]at h;obtain⟨b,l1,h1,bs,l2,h2,h3⟩:=h;simp at h3;obtain⟨rfl,rfl⟩:=h3;exact(ih h2).trans (mC i8 h1)
theorem pz (e:Nat):∀ {h:List Ty} {l:Bs} {b:Bd} {r:Bs},rdN e h l=OK (b,r)->r <:+ l:=by
 induction e with
 |zero=>intro h l b r hq;simp[rdN]at hq
 | succ e ih =>
   intro h l b r hq;cases l with
   |nil=>simp[rdN]at hq
   | cons c m =>
     simp only[rdN]at hq;split at hq
     ·simp at hq;obtain⟨_,rfl⟩:=hq;exact V6 _ _
     ·split at hq
      ·simp at hq
      ·split at hq
       ·simp at hq
       ·split at hq
        ·simp at hq
        ·simp only[RJ,RH,Prod.exists]at hq;obtain⟨ps,l1,h1,l2,h2,b',h3,h4⟩:=hq;simp at h4;obtain⟨_,rfl⟩:=h4;have k1:=eT ih _ h1;have k2:l2 <:+ l1:=by
          unfold cut at h2;split at h2
          ·simp at h2;subst h2;first | exact V5 _ | exact TL _ _
          ·simp at h2
         exact((k2.trans k1).trans (TL _ _)).trans (V6 _ _)
theorem uJ {c:UInt8}{l r:Bs}(h:cut [c] l=r):l=c::r:=by
 unfold cut at h;split at h
 ·rename_i hp;cases l with
  |nil=>simp[TC]at hp
  | cons x xs =>
    simp[TC]at hp h;rw[hp,h]
 ·simp at h
theorem rI {v n:Nat}{ps:List Bd}{b:Bd}(h:wM v n ps=b):zG b=1+zI ps:=by
 unfold wM at h;split at h
 ·rename_i y no hd;simp at h;subst h;have h1:zI ps=zI (ps.take n)+zI (ps.drop n):=by rw[<- jp,R7]
  rw[hd]at h1;simp[zG,zI]at h1 ⊢;omega
 ·simp at h
theorem specPart_size {rd:RdS}(i8:∀ {h l b r},rd h l=OK (b,r)->zG b+r.length<=l.length){h:List Ty}{l r:Bs}{b:Bd}(hp:qC rd h l=OK (b,r)):zG b+r.length<=l.length:=by
 unfold qC at hp;simp only[RJ,RH]at hp;obtain⟨l1,h1,h2⟩:=hp;have:=i8 h2;have:=uJ h1;subst this;simp;omega
theorem nZ {rd:RdS}(i8:∀ {h l b r},rd h l=OK (b,r)->zG b+r.length<=l.length)(hs:List (List Ty)):∀ {l r:Bs} {ps:List Bd},zN rd hs l=OK (ps,r)->zI ps+r.length<=l.length:=by
 induction hs with
 |nil=>intro l r ps h;simp[zN]at h;obtain⟨rfl,rfl⟩:=h;simp[zI]
 | cons h' hs ih =>
   intro l r ps h;simp only[zN,RJ,RH,Prod.exists]at h;obtain⟨b,l1,h1,bs,l2,h2,h3⟩:=h;simp at h3;obtain⟨rfl,rfl⟩:=h3;have:=ih h2;have:=specPart_size i8 h1;simp[zI];omega
theorem rdN_size (e:Nat):∀ {h:List Ty} {l:Bs} {b:Bd} {r:Bs},rdN e h l=OK (b,r)->zG b+r.length<=l.length:=by
 induction e with
 |zero=>intro h l b r hq;simp[rdN]at hq
 | succ e ih =>
   intro h l b r hq;cases l with
   |nil=>simp[rdN]at hq
   | cons c m =>
     simp only[rdN]at hq;split at hq
     ·simp at hq;obtain⟨rfl,rfl⟩:=hq;simp[zG];omega
     ·split at hq
      ·simp at hq
      ·split at hq
       ·simp at hq
       ·split at hq
        ·simp at hq
        ·simp only[RJ,RH,Prod.exists]at hq;obtain⟨ps,l1,h1,l2,h2,b',h3,h4⟩:=hq;simp at h4;obtain⟨rfl,rfl⟩:=h4;have k1:=nZ ih _ h1;have k2:=uJ h2;have k3:=rI h3;subst k2;simp at k1 ⊢;omega
theorem decode_hi (s:ByteArray)(pos:Nat)(h:pos<s.size)(ha:128<=(s.get! pos).toNat) :
 128<=(SP s pos).1/\1<=(SP s pos).2/\pos+(SP s pos).2<=s.size/\∀j,pos<=j->j<pos+(SP s pos).2->128<=(s.get! j).toNat:=by
 rw[Ww];have hn:¬(s.get! pos).toNat<128:=by omega
 unfold Xu;rw[if_neg hn]
 repeat' split
 all_goals refine⟨by simp only;omega,by simp only;omega,by simp only;omega,fun j h1 h2=>?_⟩
 all_goals simp only at h2
 all_goals rcases(by omega:j=pos\/j=pos+1\/j=pos+2\/j=pos+3) with rfl|rfl|rfl|rfl <;> omega
theorem indexRune_bad (w:World):Calls RG 116 #[.string ⟨#[32,40,41]⟩,.int .i32 65533] w fun en w'=>en=.returned (.int RD (-1))/\No w w':=by
 go_enter TG,Tw;go_wp2_with fail
 go_loopg [5,6] 3 (fun g _ _ wx=>∃i:Nat,i+g=3/\wx=w.iter ⟨#[32,40,41]⟩ i)
 case atStart=>exact⟨0,rfl,rfl⟩
 case round=>
  obtain⟨i,hig,rfl⟩:=hrel;cases gk with
  | zero =>
    obtain rfl:i=3:=by omega
    have Eo:=fun ty=>run_next_end (P:=RG) w ⟨#[32,40,41]⟩ 3 ty (by decide);go_wp2_with fail
    go_ret;exact⟨rfl,(sQ _ _).alloc (sZ _) _⟩
  | succ g =>
    have hi:i<(⟨#[32,40,41]⟩:ByteArray).size:=by show i<3;omega
    obtain⟨x,hx⟩:∃x:UInt8,(⟨#[32,40,41]⟩:ByteArray)[i]'hi=x:=⟨_,rfl⟩;have OG:x.toNat<128:=by
     rw[<- hx];rcases(by omega:i=0\/i=1\/i=2) with rfl|rfl|rfl
     ·exact(by decide:(32:UInt8).toNat<128)
     ·exact(by decide:(40:UInt8).toNat<128)
     ·exact(by decide:(41:UInt8).toNat<128)
    have Eo:=fun ty=>run_next_ascii (P:=RG) w ⟨#[32,40,41]⟩ i ty hi (by rw[hx];exact OG);rw[hx]at Eo;have HX:=r9 hx;clear hx;have hne:((x.toNat:Int) == 65533)=false:=by rw[beq_eq_false_iff_ne];omega
    go_wp2_with fail
    go_roundg g
    case measure=>omega
    case rel=>exact⟨i+1,by omega,rfl⟩
theorem idx_hi:∀(L:Bs) (c:Int),(∀b∈L,b.toNat<128)->128<=c->c<256->UN L c.toNat.toUInt8 = -1
 |[],_,_,_,_=>rfl
 | b::l,c,h,h1,h2=>by
   have hb:=h b (by simp);have e:c.toNat.toUInt8.toNat=c.toNat:=by
    show (UInt8.ofNat c.toNat).toNat=_;rw[UInt8.toNat_ofNat'];exact Nat.mod_eq_of_lt (by omega)
   have hne:(b == c.toNat.toUInt8)=false:=by
    rw[beq_eq_false_iff_ne];intro e';rw[e']at hb;omega
   rw[UN,hne,idx_hi l c (fun x hx=>h x (by simp[hx])) h1 h2];rfl
theorem pw (t:ByteArray)(c:Int)(h:∀b∈t.data.toList,b.toNat<128)(hc:Hid (128<=c/\c<256))(w:World) :
 Calls RG 131 #[.string t,.int .u8 c] w fun e w'=>e=.returned (.int RD (-1))/\w'=w:=
 (Tryz.strings_IndexByte t c w).mono fun e w' ⟨h1,h2⟩=>⟨by rw[h1,idx_hi _ _ h hc.out.1 hc.out.2],h2⟩
theorem cw {cs:ByteArray}(h:Hid (∀b∈cs.data.toList,b.toNat<128))(i j:Nat):∀b∈(cs.extract i j).data.toList,b.toNat<128:=by
 intro b hb;refine h.out b ?_;have e:(cs.extract i j).data.toList=(cs.data.toList.drop i).take (j-i):=by simp
 rw[e]at hb;exact List.mem_of_mem_drop (List.mem_of_mem_take hb)
theorem jK {B:Nat}{a w:World}(h:Below B a w)(n:Nat):Below B a (w.drewN n):=h.trans ⟨rfl,rfl,rfl,sZ _,fun _ _=>rfl⟩
theorem indexRune_hi (cs:ByteArray)(aP:∀b∈cs.data.toList,b.toNat<128)(r:Int)(h128:128<=r)(hne:r≠65533)(hv:Xv r=true)(w:World):Calls RG 116 #[.string cs,.int .i32 r] w fun en w'=>en=.returned (.int RD (-1))/\No w w':=by
 obtain⟨n1,n2,n3⟩:=encode_facts r hv h128;have sC:¬r<128:=by omega
 have hq:(r == 65533)=false:=by rw[beq_eq_false_iff_ne];exact hne
 have E4:Lib.validRune r=true:=by rw[validRune_eq]at hv;exact hv
 clear hv hne;obtain⟨rs,he⟩:=zzN (Utf8.encode r);rw[he]at n1 n2 n3;obtain⟨⟨l⟩⟩:=rs;change 2<=l.length at n1;change l.length<=4 at n2
 match l,n1,n2 with
 | [a,b],_,_ =>
   have hb:128<=b.toNat:=n3 (show 2-1<2 by decide);have sY:=b.toNat_lt;have HC:Hid ((128:Int)<=((((⟨⟨[a,b]⟩⟩:ByteArray)[1]'(show 1<2 by decide)).toNat:Int))/\((((⟨⟨[a,b]⟩⟩:ByteArray)[1]'(show 1<2 by decide)).toNat:Int))<256):=by
    show (128:Int)<=(b.toNat:Int)/\(b.toNat:Int)<256;omega
   clear n3;by_cases hi:1<cs.size;rotate_left
   ·have P6:¬(1:Int)<(cs.size:Int):=by omega
    go_enter TG,Tw;go_wp2_with (go_at_call 132;refine(Te r _).mono ?_;rintro en w1 ⟨rfl,hw⟩;rw[E4];obtain rfl:=hw)
    go_step3
    go_wp2_with fail
    go_loop [9,10] (fun i f=>i=.int RD 1/\f=.int RD 0) (fun _ _=>0)
    case atStart=>exact⟨rfl,rfl⟩
    case round=>
     obtain⟨rfl,rfl⟩:=hrel;go_wp2_with fail
     change bodyPost RG UH (fun en w'=>en=.returned (.int RD (-1))/\No w1 w') UT _ _;refine bodyPost_ret (v:=.int RD (-1)) (by simp[results,Tx,go_sem]) rfl ?_;exact⟨rfl,by first | exact jK (sQ _ _).drew _ | exact jK (sQ _ _) _ | exact sQ _ _⟩
   have P6:(1:Int)<(cs.size:Int):=by omega
   have NJ:(2:Int)<=(cs.size:Int):=by omega
   have lG:SW.wrap (2:Int)=2:=by decide
   have NQ:(cs[1]'hi).toNat<128:=aP _ (T7 (xs:=cs.data) hi);have hn:((((cs[1]'hi).toNat:Int)) != ((((⟨⟨[a,b]⟩⟩:ByteArray)[1]'(show 1<2 by decide)).toNat:Int)))=true:=by
    show (((cs[1]'hi).toNat:Int) != (b.toNat:Int))=true;rw[bne_iff_ne];omega
   have Rv:=r9 aP;clear aP;go_enter TG,Tw;go_wp2_with (go_at_call 132;refine(Te r _).mono ?_;rintro en w1 ⟨rfl,hw⟩;rw[E4];obtain rfl:=hw)
   go_step3
   go_wp2_with fail
   go_loop [9,10] (fun i f=>i=.int RD 1/\f=.int RD 0) (fun _ _=>0)
   case atStart=>exact⟨rfl,rfl⟩
   case round=>
    obtain⟨rfl,rfl⟩:=hrel;go_wp2_with fail
    go_step3
    go_wp2_with fail
    go_region
    go_wp2_with fail
    go_quiet (first | (go_at_call 131;exact(pw _ _ (cw Rv _ _) HC _).mono fun _ _ ⟨he,hm⟩=>⟨he,_,hm⟩));go_wp2_with fail
    change bodyPost RG UH (fun en w'=>en=.returned (.int RD (-1))/\No w1 w') UT _ _;refine bodyPost_ret (v:=.int RD (-1)) (by simp[results,Tx,go_sem]) rfl ?_;exact⟨rfl,by first | exact jK (sQ _ _).drew _ | exact jK (sQ _ _) _ | exact sQ _ _⟩
 | [a,b,c],_,_ =>
   have hb:128<=c.toNat:=n3 (show 3-1<3 by decide);have sY:=c.toNat_lt;have HC:Hid ((128:Int)<=((((⟨⟨[a,b,c]⟩⟩:ByteArray)[2]'(show 2<3 by decide)).toNat:Int))/\((((⟨⟨[a,b,c]⟩⟩:ByteArray)[2]'(show 2<3 by decide)).toNat:Int))<256):=by
    show (128:Int)<=(c.toNat:Int)/\(c.toNat:Int)<256;omega
   clear n3;by_cases hi:2<cs.size;rotate_left
   ·have P6:¬(2:Int)<(cs.size:Int):=by omega
    go_enter TG,Tw;go_wp2_with (go_at_call 132;refine(Te r _).mono ?_;rintro en w1 ⟨rfl,hw⟩;rw[E4];obtain rfl:=hw)
    go_step3
    go_wp2_with fail
    go_loop [9,10] (fun i f=>i=.int RD 2/\f=.int RD 0) (fun _ _=>0)
    case atStart=>exact⟨rfl,rfl⟩
    case round=>
     obtain⟨rfl,rfl⟩:=hrel;go_wp2_with fail
     change bodyPost RG UH (fun en w'=>en=.returned (.int RD (-1))/\No w1 w') UT _ _;refine bodyPost_ret (v:=.int RD (-1)) (by simp[results,Tx,go_sem]) rfl ?_;exact⟨rfl,by first | exact jK (sQ _ _).drew _ | exact jK (sQ _ _) _ | exact sQ _ _⟩
   have P6:(2:Int)<(cs.size:Int):=by omega
   have NJ:(3:Int)<=(cs.size:Int):=by omega
   have lG:SW.wrap (3:Int)=3:=by decide
   have NQ:(cs[2]'hi).toNat<128:=aP _ (T7 (xs:=cs.data) hi);have hn:((((cs[2]'hi).toNat:Int)) != ((((⟨⟨[a,b,c]⟩⟩:ByteArray)[2]'(show 2<3 by decide)).toNat:Int)))=true:=by
    show (((cs[2]'hi).toNat:Int) != (c.toNat:Int))=true;rw[bne_iff_ne];omega
   have Rv:=r9 aP;clear aP;go_enter TG,Tw;go_wp2_with (go_at_call 132;refine(Te r _).mono ?_;rintro en w1 ⟨rfl,hw⟩;rw[E4];obtain rfl:=hw)
   go_step3
   go_wp2_with fail
   go_loop [9,10] (fun i f=>i=.int RD 2/\f=.int RD 0) (fun _ _=>0)
   case atStart=>exact⟨rfl,rfl⟩
   case round=>
    obtain⟨rfl,rfl⟩:=hrel;go_wp2_with fail
    go_step3
    go_wp2_with fail
    go_region
    go_wp2_with fail
    go_quiet (first | (go_at_call 131;exact(pw _ _ (cw Rv _ _) HC _).mono fun _ _ ⟨he,hm⟩=>⟨he,_,hm⟩));go_wp2_with fail
    change bodyPost RG UH (fun en w'=>en=.returned (.int RD (-1))/\No w1 w') UT _ _;refine bodyPost_ret (v:=.int RD (-1)) (by simp[results,Tx,go_sem]) rfl ?_;exact⟨rfl,by first | exact jK (sQ _ _).drew _ | exact jK (sQ _ _) _ | exact sQ _ _⟩
 | [a,b,c,d],_,_ =>
   have hb:128<=d.toNat:=n3 (show 4-1<4 by decide);have sY:=d.toNat_lt;have HC:Hid ((128:Int)<=((((⟨⟨[a,b,c,d]⟩⟩:ByteArray)[3]'(show 3<4 by decide)).toNat:Int))/\((((⟨⟨[a,b,c,d]⟩⟩:ByteArray)[3]'(show 3<4 by decide)).toNat:Int))<256):=by
    show (128:Int)<=(d.toNat:Int)/\(d.toNat:Int)<256;omega
   clear n3;by_cases hi:3<cs.size;rotate_left
   ·have P6:¬(3:Int)<(cs.size:Int):=by omega
    go_enter TG,Tw;go_wp2_with (go_at_call 132;refine(Te r _).mono ?_;rintro en w1 ⟨rfl,hw⟩;rw[E4];obtain rfl:=hw)
    go_step3
    go_wp2_with fail
    go_loop [9,10] (fun i f=>i=.int RD 3/\f=.int RD 0) (fun _ _=>0)
    case atStart=>exact⟨rfl,rfl⟩
    case round=>
     obtain⟨rfl,rfl⟩:=hrel;go_wp2_with fail
     change bodyPost RG UH (fun en w'=>en=.returned (.int RD (-1))/\No w1 w') UT _ _;refine bodyPost_ret (v:=.int RD (-1)) (by simp[results,Tx,go_sem]) rfl ?_;exact⟨rfl,by first | exact jK (sQ _ _).drew _ | exact jK (sQ _ _) _ | exact sQ _ _⟩
   have P6:(3:Int)<(cs.size:Int):=by omega
   have NJ:(4:Int)<=(cs.size:Int):=by omega
   have lG:SW.wrap (4:Int)=4:=by decide
   have NQ:(cs[3]'hi).toNat<128:=aP _ (T7 (xs:=cs.data) hi);have hn:((((cs[3]'hi).toNat:Int)) != ((((⟨⟨[a,b,c,d]⟩⟩:ByteArray)[3]'(show 3<4 by decide)).toNat:Int)))=true:=by
    show (((cs[3]'hi).toNat:Int) != (d.toNat:Int))=true;rw[bne_iff_ne];omega
   have Rv:=r9 aP;clear aP;go_enter TG,Tw;go_wp2_with (go_at_call 132;refine(Te r _).mono ?_;rintro en w1 ⟨rfl,hw⟩;rw[E4];obtain rfl:=hw)
   go_step3
   go_wp2_with fail
   go_loop [9,10] (fun i f=>i=.int RD 3/\f=.int RD 0) (fun _ _=>0)
   case atStart=>exact⟨rfl,rfl⟩
   case round=>
    obtain⟨rfl,rfl⟩:=hrel;go_wp2_with fail
    go_step3
    go_wp2_with fail
    go_region
    go_wp2_with fail
    go_quiet (first | (go_at_call 131;exact(pw _ _ (cw Rv _ _) HC _).mono fun _ _ ⟨he,hm⟩=>⟨he,_,hm⟩));go_wp2_with fail
    change bodyPost RG UH (fun en w'=>en=.returned (.int RD (-1))/\No w1 w') UT _ _;refine bodyPost_ret (v:=.int RD (-1)) (by simp[results,Tx,go_sem]) rfl ?_;exact⟨rfl,by first | exact jK (sQ _ _).drew _ | exact jK (sQ _ _) _ | exact sQ _ _⟩
def adv (w:World)(g:Nat)(s:ByteArray)(p:Nat):World:={ w with heap:=w.heap.setIfInBounds g (.stringIter s p) }
theorem run_next_in {P:Program}{wx:World}{g:Nat}{s:ByteArray}{pos:Nat}(h:wx.heap[g]?=OK (.stringIter s pos))(hp:pos<s.size)(ty:TypeId) :
 (Instr.next (.pointer (OK ⟨g,0,U⟩)) true ty).run P wx=.ok (.tuple #[.bool true,.int RD pos,.int .i32 (SP s pos).1]) (adv wx g s (pos+(SP s pos).2)):=by
 simp only[Instr.next,getObj,setObj,U0,XG,h,Result.andThen,hp,if_true,adv];simp[goInt]
theorem run_next_out {P:Program}{wx:World}{g:Nat}{s:ByteArray}{pos:Nat}(h:wx.heap[g]?=OK (.stringIter s pos))(hp:¬pos<s.size)(ty:TypeId) :
 (Instr.next (.pointer (OK ⟨g,0,U⟩)) true ty).run P wx=.ok (.tuple #[.bool false]) wx:=by
 simp[Instr.next,getObj,XG,h,hp]
theorem adv_at {wx:World}{g:Nat}{s:ByteArray}{p p':Nat}(h:wx.heap[g]?=OK (.stringIter s p)):(adv wx g s p').heap[g]?=OK (.stringIter s p'):=by
 have hl:=zZ h;simp[adv,hl]
theorem adv_size (wx:World)(g:Nat)(s:ByteArray)(p:Nat):(adv wx g s p).heap.size=wx:=by simp[adv]
theorem adv_below {w wx:World}{s:ByteArray}{p:Nat}{B:Nat}(g:Nat)(h:Below B w wx)(hg:B<=g):Below B w (adv wx g s p):=
 ⟨h.os,h.tape,h.output,by rw [adv_size];exact h.size,fun k hk=>by
  rw[<- h.block k hk];simp only[adv,Array.getElem?_setIfInBounds]
  rw [if_neg (by omega)]⟩
theorem decode_valid (s:ByteArray)(pos:Nat):Xv ((SP s pos).1:Int)=true:=by
 have h:=Lib.rune_valid (s.extract pos s.size);rw[Lib.tail_decode s pos 0,Nat.add_zero]at h;rw[validRune_eq];exact h
theorem get_data (s:ByteArray){j:Nat}(h:j<s.size):s.data.toList[j]?=OK (s.get! j):=by
 have h':j<s.data.size:=h;simp only[ByteArray.get!,Array.getElem?_toList];rw[Sh h',getElem!_pos s.data j h']
theorem rJ (s:ByteArray)(h8:s.size<=8)(w:World):Calls RG 101 #[.string s,.string ⟨#[32,40,41]⟩] w fun en w'=>en=.returned (.int RD (Lib.indexAny s.data.toList [32,40,41]))/\No w w':=by
 have h8z:decide ((8:Int)<(s.size:Int))=false:=decide_eq_false (by omega);go_enter Tryz.func101,Tryz.ntmps101;go_wp2_with (go_at_call 117;refine(Tryz.strings_shouldUseASCIISet _ _).mono ?_;rintro e w' ⟨rfl,hw⟩;rw[hw,h8z])
 go_loopw [9,10] (fun _ _ wx=>∃i:Nat,i<=s.size/\wx.heap[(w:Nat)]?=OK (.stringIter s i)/\No w wx/\XH s.data.toList [32,40,41] i) (fun _ _ wx=>s.size-wx.iterPos w)
 case atStart=>exact⟨0,R6 _,World.iter_heap _ _ _,(sQ _ _).alloc (sZ _) _,Lib.NoAny.zero _ _⟩
 case round=>
  obtain⟨i,hi,FX,hb,oW⟩:=hrel;have HN:=r9 oW;have HI:=r9 FX;have HB:=r9 hb;clear oW;by_cases sC:i<s.size;rotate_left
  ·have Eo:=run_next_out (P:=RG) FX sC;obtain rfl:i=s.size:=by omega
   clear FX hb;go_wp2_with fail
   go_ret;exact⟨yQ (by rw[Lib.indexAny_none (by have:=HN.out;simpa using this)]),HB.out⟩
  ·have Eo:=run_next_in (P:=RG) FX sC;have KW:=adv_at (p':=i+(SP s i).2) FX;have sX:=adv_below (s:=s) (p:=i+(SP s i).2) w hb (sZ _);have iQ:wr.iterPos w=i:=by unfold Vl;rw[FX]
   have hxd:=get_data s sC;generalize adv wr w.heap.size s (i+(SP s i).2)=W1 at *;have HG:=r9 KW;have sn:=r9 sX;have HP:=r9 iQ;have KU:=zZ KW;clear FX hb KW sX iQ;by_cases hx:(s.get! i).toNat<128
   ·have hd:SP s i=((s.get! i).toNat,1):=by rw[Ww];unfold Xu;rw[if_pos hx]
    rw[hd]at Eo HG;obtain⟨x,hxe⟩:=zzM (s.get! i);rw[<- hxe]at Eo hxd hx;have HX:=r9 hxd;clear hxd hd hxe;have F5:=Lib.contains_iff_indexByte [32,40,41] x;have K_:((x.toNat:Int)).toNat.toUInt8=x:=by simp
    cases Jg:([32,40,41]:Bs).contains x
    ·rw[Jg]at F5;have Eu:¬((0:Int)<=UN [32,40,41] x):=of_decide_eq_false F5.symm;have HIN:=r9 Jg;clear F5 Jg;go_wp2_with (go_at_call 116;refine(Vb _ _ _ (by omega) (by omega)).mono ?_;rintro e w2 ⟨rfl,hw⟩;rw[hw,K_])
     go_roundw
     case rel=>exact⟨i+1,by omega,HG.out,sn.out,HN.out.succ HX.out HIN.out⟩
     case measure=>
      have h1:=HP.out;have h2:W1.iterPos w=i+1:=by unfold Vl;rw[HG.out]
      simp only[h1,h2];omega
    ·rw[Jg]at F5;have Bx:(0:Int)<=UN [32,40,41] x:=of_decide_eq_true F5.symm;have HIN:=r9 Jg;clear F5 Jg;go_wp2_with (go_at_call 116;refine(Vb _ _ _ (by omega) (by omega)).mono ?_;rintro e w2 ⟨rfl,hw⟩;rw[hw,K_])
     go_ret;exact⟨yQ (by rw[Lib.indexAny_hit HN.out HX.out HIN.out]),sn.out⟩
   ·obtain⟨d1,d2,d3,d4⟩:=decode_hi s i sC (by omega);have dv:=decode_valid s i;generalize (SP s i).1=r at *;generalize (SP s i).2=k at *;have PB:XH s.data.toList [32,40,41] (i+k):=by
     intro j b hj hbj;by_cases Jf:j<i
     ·exact HN.out j b Jf hbj
     ·have h1:=d4 j (by omega) hj;rw[get_data s (by omega)]at hbj;obtain rfl:=RZ hbj;have Eb:(32:UInt8).toNat=32:=rfl;have iY:(40:UInt8).toNat=40:=rfl;have Dl:(41:UInt8).toNat=41:=rfl;rw[Bool.eq_false_iff];intro hc;simp only[List.contains_iff_mem,Sc,List.not_mem_nil,or_false]at hc;rcases hc with hc|hc|hc <;> rw[hc]at h1 <;> omega
    have Gn:=r9 PB;have KE:Calls RG 116 #[.string ⟨#[32,40,41]⟩,.int .i32 (r:Int)] W1 fun en w'=>en=.returned (.int RD (-1))/\No W1 w':=by
     by_cases h:(r:Int)=65533
     ·rw[h];exact indexRune_bad W1
     ·exact indexRune_hi ⟨#[32,40,41]⟩ (by decide) _ (by omega) h dv W1
    have HR:=r9 KE;clear PB KE d4 dv hxd;go_wp2_with (go_at_call 116;refine HR.out.mono ?_;rintro e w2 ⟨rfl,hw⟩)
    have hk:w2.heap[(w:Nat)]?=OK (.stringIter s (i+k)):=by rw[hw.block _ KU];exact HG.out
    have sY:=zzT sn.out hw;have HK:=r9 hk;clear hk;go_roundw
    case rel=>exact⟨i+k,by omega,HK.out,sY,Gn.out⟩
    case measure=>
     have h1:=HP.out;have h2:w2.iterPos w=i+k:=by unfold Vl;rw[HK.out]
     simp only[h1,h2];omega
end Go.Proofs.YtnfenijemllkbaaGreatDoor

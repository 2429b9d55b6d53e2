/- Walks. -/
import Derived.RegionTactic
import Derived.Test.YtdhaafoiokkbnabGreatDoorQ1
set_option linter.unusedVariables false
set_option linter.unusedSimpArgs false
set_option maxHeartbeats 4000000
open Array renaming all_eq_true'->RA,getD_eq_getD_getElem?->OZ,getElem?_eq_getElem->O0
open Go.Proofs.Tryz renaming prog->No,underlying40->QU,underlying50->Qu
open Go.Region renaming binds->Po,ready->Pe
open Go.World renaming cell?->Li,frozen?->OC
open List renaming all_eq_true->QY,mem_filter->Ra,mem_range->Rg,nil_append->OW
open Option renaming getD_some->Ps,map_some->Py
namespace Go.Proofs.YtdhaafoiokkbnabGreatDoor
open Go.RowKit
section
variable {P:Program} {ops:Array Oper} {Q:Exit->Act->World->Prop} {md:Region.Mode}
def uC (b:Nat->Bool) (i:Nat):Nat->Bool:=fun k=>if k=i then true else b k
def gT (L:Array Bool):Nat->Bool:=fun k=>L.getD k false
theorem lsOf_set (L:Array Bool) (i:Nat) (h:i<L.size):gT (L.setIfInBounds i true)=uC (gT L) i:=by
 funext k;unfold gT uC;by_cases hk:k=i
 ·subst hk;rw [if_pos rfl];simp [h]
 ·rw [if_neg hk];simp only [OZ];rw [Array.getElem?_setIfInBounds_ne (fun e=>hk e.symm)]
def eR (L:Array Bool):Nat:=(L.toList.filter fun x=>!x).length
theorem openOf_set (L:Array Bool) (i:Nat) (h:i<L.size) (hf:L.getD i true=false):eR (L.setIfInBounds i true)+1=eR L:=by
 unfold eR;rw [Array.toList_setIfInBounds];have key:∀ (l:List Bool) (i:Nat),i<l.length->l.getD i true=false->((l.set i true).filter fun x=>!x).length+1=(l.filter fun x=>!x).length:=by
  intro l
  induction l with
  | nil=>intro i h;simp at h
  | cons x l ih =>
    intro i h hf;cases i with
    | zero=>simp at hf;subst hf;simp
    | succ i =>
      have:=ih i (by simpa using h) (by simpa using hf);simp only [List.set_cons_succ,List.filter_cons];cases x <;> simp <;> omega
 refine key _ i (by simpa using h) ?_;simpa [OZ,List.getD_eq_getElem?_getD] using hf
theorem wpAny_inv {I:(Nat->Bool)->Act->World->Prop} (Nv:∀ (i:Nat) (o:Oper),ops[i]? = some o->∀ e∈o.after,e.on<i)
 (step:∀ (b:Nat->Bool) (a:Act) (w:World) (i:Nat) (o:Oper),ops[i]? = some o->b i=false->(∀ e∈o.after,Po md e=true->b e.on=true)->I b a w ->
  ∀ K':Act->World->Prop,(∀ a w,I (uC b i) a w->K' a w)->if Region.wanted o (yielded ops a.tmps)=true then Oper.wp P o a w K' Q else K' (a.put o.dst undef) w)
 (done:∀ (b:Nat->Bool) (a:Act) (w:World),(∀ i,i<ops.size->b i=true)->I b a w->Q .normal a w) :
 ∀ (fuel:Nat) (L:Array Bool) (a:Act) (w:World),L.size=ops.size->eR L<=fuel->I (gT L) a w->wpAny P md ops Q fuel L a w:=by
 have Je:∀ (L:Array Bool),L.size=ops.size->Pe md ops L=[]->∀ i,i<ops.size->gT L i=true:=by
  intro L hL hr i
  induction i using Nat.strongRecOn with
  | _ i ih =>
    intro hi;cases hb:gT L i with
    | true=>rfl
    | false =>
      exfalso;have:i∈Pe md ops L:=by
       unfold Pe;rw [Ra];refine ⟨Rg.2 hi,?_⟩;have ho:ops[i]? = some ops[i]:=by simp [hi]
       rw [ho];have h1:L.getD i true=false:=by
        unfold gT at hb;have h2:L[i]? = some L[i]:=by simp [hL,hi]
        simp only [OZ,h2,Ps] at hb ⊢;exact hb
       simp only [h1,Bool.not_false,Bool.true_and,Py,Ps];rw [RA];intro e he;rw [Bool.or_eq_true];right;exact ih e.on (Nv i _ ho e he) (by have:=Nv i _ ho e he;omega)
      rw [hr] at this;simp at this
 intro fuel
 induction fuel with
 | zero =>
   intro L a w hL hf hI;have t6:∀ i,i<ops.size->gT L i=true:=by
    intro i hi;cases hb:gT L i with
    | true=>rfl
    | false =>
      exfalso;have:eR L=0:=by omega
      unfold eR at this;rw [List.length_eq_zero_iff,List.filter_eq_nil_iff] at this;unfold gT at hb;have h2:L[i]? = some L[i]:=by simp [hL,hi]
      simp only [OZ,h2,Ps] at hb;have:=this L[i] (by simp);rw [hb] at this;simp at this
   rw [wpAny];refine ⟨?_,done _ _ _ t6 hI⟩;cases hr:Pe md ops L with
   | nil=>rfl
   | cons i rs =>
     exfalso;have hm:i∈Pe md ops L:=by rw [hr];simp
     unfold Pe at hm;rw [Ra,Rg] at hm;obtain ⟨hi,h2⟩:=hm;have:=t6 i hi;unfold gT at this;have h3:L[i]? = some L[i]:=by simp [hL,hi]
     simp only [OZ,h3,Ps] at this h2;rw [this] at h2;simp at h2
 | succ fuel ih =>
   intro L a w hL hf hI;rw [wpAny];refine ⟨fun hr=>done _ _ _ (Je L hL hr) hI,fun i hi=>?_⟩;unfold Pe at hi;rw [Ra,Rg] at hi;obtain ⟨hi,h2⟩:=hi;have ho:ops[i]? = some ops[i]:=by simp [hi]
   rw [ho] at h2;simp only [Py,Ps,Bool.and_eq_true,Bool.not_eq_true'] at h2;obtain ⟨h3,h4⟩:=h2;rw [RA] at h4;have h5:gT L i=false:=by
    unfold gT;have:L[i]? = some L[i]:=by simp [hL,hi]
    simp only [OZ,this,Ps] at *;exact h3
   refine wpOp_step ho fun K' hK=>?_;refine step (gT L) a w i ops[i] ho h5 (fun e he hb=>?_) hI K' fun a' w' h'=>hK a' w' (ih _ _ _ (by simpa using hL) (by have:=openOf_set L i (by omega) h3;omega) (by rw [lsOf_set L i (by omega)];exact h'));have:=h4 e he;rw [hb] at this;simpa [gT] using this
def acyB (ops:Array Oper):Bool:=(List.range ops.size).all fun i=>match ops[i]? with
 | some o=>o.after.toList.all fun e=>decide (e.on<i)
 | none=>true
theorem acy_of (h:acyB ops=true) (i:Nat) (o:Oper) (ho:ops[i]? = some o) (e) (he:e∈o.after):e.on<i:=by
 have hi:i<ops.size:=(Array.getElem?_eq_some_iff.1 ho).1;unfold acyB at h;rw [QY] at h;have:=h i (Rg.2 hi);rw [ho] at this;simp only [QY] at this;have:=this e (by simpa using he);simpa using this
end
theorem zu.slice1 {size:Nat} {x:Value} {m:Nat} {news:List Value} {w:World} (h:zu size x m news w):∃ a c,x=.slice a m c:=by
 obtain ⟨_,_,⟨a,c,rfl,_⟩ | ⟨rfl,rfl⟩⟩:=h
 all_goals
  exact ⟨_,_,rfl⟩
theorem setc_at {w:World} {b o:Nat} {c:Array Value} {e:TypeId} {u:Value} (h:w.heap[b]? = some (.cells c e (0,0))):(w.setCell ⟨b,o,none⟩ u).heap[b]? = some (.cells (c.setIfInBounds o u) e (0,0)):=by
 have rH:=zZ h;have h':w.heap[b]=.cells c e (0,0):=by simpa [O0 rH] using h
 show (w.heap.modify b _)[b]? = _;rw [O0 (by simpa using rH),Array.getElem_modify_self,h'];simp
theorem cells2 {w:World} {P:Nat} {u v:Value} {T:TypeId} (h:w.heap[P]? = some (.cells #[u,v] T (0,0))):w.cell? ⟨P,0,none⟩=some u/\w.cell? ⟨P,1,none⟩=some v/\w.frozen? ⟨P,0,none⟩=false/\w.frozen? ⟨P,1,none⟩=false :=
 ⟨by simp [Li,h],by simp [Li,h],by simp [OC,h],by simp [OC,h]⟩
def Res (B:Nat) (tag:Nat->Nat) (t:Nat) (w:World) (e:TypeId) (v:Value) (n:Nat) (xs:List Value):Prop :=
 Own w e 1 v n xs/\∀ g,v.ownBlock=some g->tag g=t/\B<=g
def uS (tag:Nat->Nat) (g t:Nat):Nat->Nat:=fun i=>if i=g then t else tag i
theorem Res.alloc {B:Nat} {tag:Nat->Nat} {t:Nat} {w:World} {e:TypeId} {v:Value} {n:Nat} {xs:List Value} (h:Res B tag t w e v n xs) (o:Obj) (t':Nat):Res B (uS tag w.heap.size t') t (w.alloc o) e v n xs :=
 ⟨h.1.alloc o,fun g hg=>⟨by have:=h.1.lt hg;unfold uS;rw [if_neg (by omega)];exact (h.2 g hg).1,(h.2 g hg).2⟩⟩
theorem Res.but {B:Nat} {tag:Nat->Nat} {t:Nat} {w w':World} {e:TypeId} {v:Value} {n:Nat} {xs:List Value} (h:Res B tag t w e v n xs) {m:Nat->Prop} (hb:But m w w') (hm:∀ g,m g->tag g≠t) (t':Nat):Res B (uS tag w.heap.size t') t w' e v n xs :=
 ⟨h.1.keep fun g o hg ho=>by rw [hb.block g (zZ ho) (fun hmg=>hm g hmg (h.2 g hg).1)];exact ho,fun g hg=>⟨by have:=h.1.lt hg;unfold uS;rw [if_neg (by omega)];exact (h.2 g hg).1,(h.2 g hg).2⟩⟩
theorem Res.lit {B:Nat} (tag:Nat->Nat) (t:Nat) {w:World} (hB:B<=w.heap.size) (e:TypeId) (cs:Array Value) (n:Nat) (hm:n<=maxLen) (hs:cs.size=n):Res B (uS tag w.heap.size t) t (w.alloc (.cells cs e)) e (.slice (some ⟨w.heap.size,0,none⟩) n n) n cs.toList :=
 ⟨Own.lit cs n hm (by omega),fun g hg=>by
  simp [Value.ownBlock] at hg;subst hg;exact ⟨by unfold uS;rw [if_pos rfl],hB⟩⟩
structure jB (B:Nat) (tag:Nat->Nat) (t1 t2:Nat) (e:TypeId) (n:Nat) (xs:List Value) (u:Value) (A C A' C':Bool) (vA vC vA' vC':Value) (w:World):Prop where
 a:A=true->C=false->(∃ g,vA=.slice (some ⟨g,0,none⟩) 0 0)/\Res B tag t1 w e vA 0 []
 c:C=true->C'=false->Res B tag t1 w e vC n xs
 a':A'=true->C'=false->(∃ g,vA'=.slice (some ⟨g,0,none⟩) 1 1)/\Res B tag t2 w e vA' 1 [u]
 c':C'=true->Res B tag t1 w e vC' (n+1) (xs++[u])
 cl:C'=true->C=true
section
variable {B:Nat} {tag:Nat->Nat} {t1 t2:Nat} {e:TypeId} {n:Nat} {xs:List Value} {u:Value} {A C A' C':Bool} {vA vC vA' vC':Value} {w:World}
theorem jB.start (B:Nat) (tag:Nat->Nat) (t1 t2:Nat) (e:TypeId) (n:Nat) (xs:List Value) (u vA vC vA' vC':Value) (w:World):jB B tag t1 t2 e n xs u false false false false vA vC vA' vC' w :=
 ⟨fun h=>Bool.noConfusion h,fun h=>Bool.noConfusion h,fun h=>Bool.noConfusion h,fun h=>Bool.noConfusion h,fun h=>Bool.noConfusion h⟩
theorem jB.alloc (h:jB B tag t1 t2 e n xs u A C A' C' vA vC vA' vC' w) (o:Obj) (t':Nat):jB B (uS tag w.heap.size t') t1 t2 e n xs u A C A' C' vA vC vA' vC' (w.alloc o) :=
 ⟨fun h1 h2=>⟨(h.a h1 h2).1,(h.a h1 h2).2.alloc o t'⟩,fun h1 h2=>(h.c h1 h2).alloc o t',fun h1 h2=>⟨(h.a' h1 h2).1,(h.a' h1 h2).2.alloc o t'⟩,fun h1=>(h.c' h1).alloc o t',h.cl⟩
theorem jB.but (h:jB B tag t1 t2 e n xs u A C A' C' vA vC vA' vC' w) {w':World} {m:Nat->Prop} (hb:But m w w') (hm:∀ g,m g->tag g≠t1/\tag g≠t2) (t':Nat):jB B (uS tag w.heap.size t') t1 t2 e n xs u A C A' C' vA vC vA' vC' w' :=
 ⟨fun h1 h2=>⟨(h.a h1 h2).1,(h.a h1 h2).2.but hb (fun g k=>(hm g k).1) t'⟩,fun h1 h2=>(h.c h1 h2).but hb (fun g k=>(hm g k).1) t',fun h1 h2=>⟨(h.a' h1 h2).1,(h.a' h1 h2).2.but hb (fun g k=>(hm g k).2) t'⟩,fun h1=>(h.c' h1).but hb (fun g k=>(hm g k).1) t',h.cl⟩
theorem Res.low {t:Nat} {v:Value} {k:Nat} {ys:List Value} (h:Res B tag t w e v k ys) {w':World} {m:Nat->Prop} (hb:But m w w') (hm:∀ g,m g->g<B):Res B tag t w' e v k ys :=
 ⟨h.1.keep fun g o hg ho=>by rw [hb.block g (zZ ho) (fun hmg=>by have:=hm g hmg;have:=(h.2 g hg).2;omega)];exact ho,h.2⟩
theorem jB.low (h:jB B tag t1 t2 e n xs u A C A' C' vA vC vA' vC' w) {w':World} {m:Nat->Prop} (hb:But m w w') (hm:∀ g,m g->g<B):jB B tag t1 t2 e n xs u A C A' C' vA vC vA' vC' w' :=
 ⟨fun h1 h2=>⟨(h.a h1 h2).1,(h.a h1 h2).2.low hb hm⟩,fun h1 h2=>(h.c h1 h2).low hb hm,fun h1 h2=>⟨(h.a' h1 h2).1,(h.a' h1 h2).2.low hb hm⟩,fun h1=>(h.c' h1).low hb hm,h.cl⟩
theorem jB.stepA (h:jB B tag t1 t2 e n xs u A C A' C' vA vC vA' vC' w) (hB:B<=w.heap.size):jB B (uS tag w.heap.size t1) t1 t2 e n xs u true C A' C' (.slice (some ⟨w.heap.size,0,none⟩) 0 0) vC vA' vC' (w.alloc (.cells #[] e)) :=
 ⟨fun _ _=>⟨⟨_,rfl⟩,Res.lit tag t1 hB e #[] 0 (Nat.zero_le _) rfl⟩,fun h1 h2=>(h.c h1 h2).alloc _ _,fun h1 h2=>⟨(h.a' h1 h2).1,(h.a' h1 h2).2.alloc _ _⟩,fun h1=>(h.c' h1).alloc _ _,h.cl⟩
theorem jB.stepA' (h:jB B tag t1 t2 e n xs u A C A' C' vA vC vA' vC' w) (hB:B<=w.heap.size):jB B (uS tag w.heap.size t2) t1 t2 e n xs u A C true C' vA vC (.slice (some ⟨w.heap.size,0,none⟩) 1 1) vC' (w.alloc (.cells #[u] e)) :=
 ⟨fun h1 h2=>⟨(h.a h1 h2).1,(h.a h1 h2).2.alloc _ _⟩,fun h1 h2=>(h.c h1 h2).alloc _ _,fun _ _=>⟨⟨_,rfl⟩,Res.lit tag t2 hB e #[u] 1 (by unfold maxLen;omega) rfl⟩,fun h1=>(h.c' h1).alloc _ _,h.cl⟩
theorem Res.app {t:Nat} {v v':Value} {k m:Nat} {ys zs:List Value} {w':World} (h:Res B tag t w e v k ys) (hB:B<=w.heap.size) (ho:Own w' e 1 v' m zs) (hg:∀ g,v'.ownBlock=some g->v.ownBlock=some g\/g=w.heap.size):Res B (uS tag w.heap.size t) t w' e v' m zs :=
 ⟨ho,fun g k=>by
  unfold uS;rcases hg g k with k | k
  ·have:=h.1.lt k;rw [if_neg (by omega)];exact h.2 g k
  ·rw [if_pos k];exact ⟨rfl,by omega⟩⟩
theorem jB.stepC (h:jB B tag t1 t2 e n xs u A C A' C' vA vC vA' vC' w) (hA:A=true) (hC:C=false) (ht:t1≠t2) (hB:B<=w.heap.size) {v':Value} {w':World}
 (ho:Own w' e 1 v' n xs) (hb:But (fun b=>vA.ownBlock=some b) w w') (hg:∀ g,v'.ownBlock=some g->vA.ownBlock=some g\/g=w.heap.size) :
 jB B (uS tag w.heap.size t1) t1 t2 e n xs u A true A' C' vA v' vA' vC' w':=by
 have hC':C'=false:=by
  cases C' with
  | false=>rfl
  | true=>have:=h.cl rfl;rw [hC] at this;exact this.symm
 subst hA;subst hC;subst hC'
 exact ⟨fun _ h2=>Bool.noConfusion h2,fun _ _=>(h.a rfl rfl).2.app hB ho hg,
  fun h1 h2=>⟨(h.a' h1 h2).1,(h.a' h1 h2).2.but hb (fun g k=>by rw [((h.a rfl rfl).2.2 g k).1];exact ht) t1⟩,fun h1=>Bool.noConfusion h1,fun h1=>Bool.noConfusion h1⟩
theorem jB.stepC' (h:jB B tag t1 t2 e n xs u A C A' C' vA vC vA' vC' w) (hC:C=true) (hC':C'=false) (hB:B<=w.heap.size) {v':Value} {w':World}
 (ho:Own w' e 1 v' (n+1) (xs++[u])) (hg:∀ g,v'.ownBlock=some g->vC.ownBlock=some g\/g=w.heap.size) :
 jB B (uS tag w.heap.size t1) t1 t2 e n xs u A C A' true vA vC vA' v' w':=by
 subst hC;subst hC';exact ⟨fun _ h2=>Bool.noConfusion h2,fun _ h2=>Bool.noConfusion h2,fun _ h2=>Bool.noConfusion h2,fun _=>(h.c rfl rfl).app hB ho hg,fun _=>rfl⟩
end
theorem Own.src1 {w:World} {e:TypeId} {g:Nat} {u:Value} (h:Own w e 1 (.slice (some ⟨g,0,none⟩) 1 1) 1 [u]) (hu:u.oneCell'=true):zu 1 (.slice (some ⟨g,0,none⟩) 1 1) 1 [u] w:=by
 obtain ⟨_,⟨h0,_⟩ | ⟨g',cap,cur,hv,_,hg,Af,_,hcs,Aq⟩⟩:=h
 ·cases h0
 ·simp only [Value.slice.injEq,Option.some.injEq,Addr.mk.injEq] at hv;obtain ⟨⟨rfl,_,_⟩,_,rfl⟩:=hv;refine ⟨rfl,by simpa using hu,.inl ⟨_,_,rfl,fun j v hj=>?_⟩⟩;cases j with
  | zero =>
    simp at hj;subst hj;have h1:cur.toList[0]? = some u:=by
     have:(cur.toList.take 1)[0]? = some u:=by rw [Aq];rfl
     rwa [List.getElem?_take,if_pos (by omega)] at this
    rw [show ((⟨g,0,none⟩:Addr).add 0)=⟨g,0,none⟩ from rfl];unfold Li;rw [hg];simpa using h1
  | succ j=>simp at hj
theorem Tryz.infoTree5:(No.info? 42).map (fun i=>(i.zero,i.size,i.bytes))=some (some (.agg #[.slice none 0 0]),1,24):=by kernel_rfl
theorem Tryz.infoStr5:(No.info? 9).map (fun i=>(i.zero,i.size,i.bytes))=some (some (str []),1,16):=by kernel_rfl
def WithPost5 (n m:Nat) (xs ys:List Value) (s:Bs) (ta:Option Addr) (tn tc:Nat) (w:World) (en:Ending) (w':World):Prop :=
 ∃ a1 c1 a2 c2,en=.returned (.agg #[.slice a1 (n+1) c1,.slice a2 (m+1) c2])/\Below w.heap.size w w'/\Own w' 9 1 (.slice a1 (n+1) c1) (n+1) (xs++[str s])/\Own w' 42 1 (.slice a2 (m+1) c2) (m+1) (ys++[.slice ta tn tc]) /\
   (∀ g,(Value.slice a1 (n+1) c1).ownBlock=some g->w.heap.size<=g)/\(∀ g,(Value.slice a2 (m+1) c2).ownBlock=some g->w.heap.size<=g)
structure WI5 (n m:Nat) (mv pt:Value) (xs ys:List Value) (s:Bs) (ta:Option Addr) (tn tc:Nat) (w W0:World) (b:Nat->Bool) (t7 t8 t9 lG ln lO lI lL t15 lA lP ll lT t20 t21:Value) (tag:Nat->Nat) (wr:World):Prop where
 f1:b 1=true->t8=.pointer (some ⟨w.heap.size,0,none⟩)
 f2:b 2=true->t9=mv
 f4:b 4=true->ln=str s
 f8:b 8=true->t15=.pointer (some ⟨w.heap.size,1,none⟩)
 f9:b 9=true->lA=pt
 f11:b 11=true->ll=.agg #[.slice ta tn tc]
 f14:b 14=true->t21=.agg #[lI,t20]
 g14:b 14=true->b 6=true/\b 13=true
 g15:b 15=true->∀ k,k<15->b k=true
 r1:jB W0.heap.size tag 1 2 9 n xs (str s) (b 0) (b 3) (b 5) (b 6) t7 lG lO lI wr
 r2:jB W0.heap.size tag 3 4 42 m ys (.slice ta tn tc) (b 7) (b 10) (b 12) (b 13) lL lP lT t20 wr
 w0:b 15=false->Below W0.heap.size W0 wr
 w1:b 15=true->But (· = w.heap.size+1+1) W0 wr/\wr.heap[w.heap.size+1+1]? = some (.cells #[lI,t20] 52 (0,0))
theorem WI5.not15 {n m:Nat} {mv pt:Value} {xs ys:List Value} {s:Bs} {ta:Option Addr} {tn tc:Nat} {w W0:World} {b:Nat->Bool} {t7 t8 t9 lG ln lO lI lL t15 lA lP ll lT t20 t21:Value} {tag:Nat->Nat} {wr:World} (h:WI5 n m mv pt xs ys s ta tn tc w W0 b t7 t8 t9 lG ln lO lI lL t15 lA lP ll lT t20 t21 tag wr) {i:Nat} (hi:i<15) (hb:b i=false):b 15=false:=by
 cases rR:b 15 with
 | false=>rfl
 | true=>have:=h.g15 rR i hi;rw [hb] at this;exact this.symm
def actW5 (mv pt:Value) (s:Bs) (ta:Option Addr) (tn tc:Nat) (B:Nat) (t7 t8 t9 lG ln lO lI lL t15 lA lP ll lT t20 t21:Value):Act :=
 { tmps:=#[.agg #[mv,pt],str s,.agg #[.slice ta tn tc],.pointer (some ⟨B,0,none⟩),undef,.pointer (some ⟨B+1,0,none⟩),.pointer (some ⟨B+1+1,0,none⟩),t7,t8,t9,lG,ln,lO,lI,lL,t15,lA,lP,ll,lT,t20,t21],defers:=[] }
def WIA5 (n m:Nat) (mv pt:Value) (xs ys:List Value) (s:Bs) (ta:Option Addr) (tn tc:Nat) (w W0:World) (b:Nat->Bool) (a:Act) (wr:World):Prop :=
 ∃ t7 t8 t9 lG ln lO lI lL t15 lA lP ll lT t20 t21 tag,a=actW5 mv pt s ta tn tc w.heap.size t7 t8 t9 lG ln lO lI lL t15 lA lP ll lT t20 t21/\WI5 n m mv pt xs ys s ta tn tc w W0 b t7 t8 t9 lG ln lO lI lL t15 lA lP ll lT t20 t21 tag wr
set_option maxRecDepth 100000 in
theorem l5With_any (n m:Nat) (mv pt:Value) (xs ys:List Value) (s:Bs) (ta:Option Addr) (tn tc:Nat) (w:World) (hx:zu 1 mv n xs w) (hy:zu 1 pt m ys w) (hn:n<=1000000) (hm:m<=1000000) :
 Calls No 38 #[.agg #[mv,pt],str s,.agg #[.slice ta tn tc]] w (WithPost5 n m xs ys s ta tn tc w):=by
 obtain ⟨ma,mc,rfl⟩:=hx.slice1;obtain ⟨pa,pc,rfl⟩:=hy.slice1;have HX:=n7 hx;have HY:=n7 hy;clear hx hy;go_enter Tryz.func38,Tryz.ntmps38;go_wp2_with fail
 rename_i K0 hK0;obtain ⟨W0,sV⟩:=zzN (((w.alloc (.cells #[.slice ma n mc,.slice pa m pc] 52)).alloc (.cells #[.slice ta tn tc] 42)).alloc (.cells #[.slice none 0 0,.slice none 0 0] 52));rw [sV];have z0:W0.heap.size=w.heap.size+1+1+1:=by rw [<- sV];simp
 have ru:Below w.heap.size w W0:=by rw [<- sV];exact (((rZ _ _).alloc (n9 _) _).alloc (by rw [zK];omega) _).alloc (by rw [zK,zK];omega) _
 have c0:W0.cell? ⟨w.heap.size,0,none⟩=some (.slice ma n mc):=by rw [<- sV];exact zV (zV (by simp))
 have c1:W0.cell? ⟨w.heap.size,1,none⟩=some (.slice pa m pc):=by rw [<- sV];exact zV (zV (by simp))
 have c2:W0.cell? ⟨w.heap.size+1,0,none⟩=some (.slice ta tn tc):=by
  rw [<- sV];have h:=zG (w.alloc (.cells #[.slice ma n mc,.slice pa m pc] 52)) (.cells #[.slice ta tn tc] 42);rw [zK] at h;exact zV (by simp only [Li,h];rfl)
 have h6:W0.heap[w.heap.size+1+1]? = some (.cells #[.slice none 0 0,.slice none 0 0] 52 (0,0)):=by rw [<- sV];have:=zG ((w.alloc (.cells #[.slice ma n mc,.slice pa m pc] 52)).alloc (.cells #[.slice ta tn tc] 42)) (.cells #[.slice none 0 0,.slice none 0 0] 52);rwa [zK,zK] at this
 clear sV;refine wp_region_any (by kernel_rfl) ?_;refine wpAny_inv (I:=WIA5 n m (.slice ma n mc) (.slice pa m pc) xs ys s ta tn tc w W0) ?acy ?step ?done _ _ _ _ rfl ?cnt ?start
 case cnt=>decide
 case acy=>exact acy_of (by kernel_rfl)
 case start =>
  refine ⟨undef,undef,undef,undef,undef,undef,undef,undef,undef,undef,undef,undef,undef,undef,undef,fun _=>0,rfl,?_⟩;have hf:∀ k,gT (Array.replicate 16 false) k=false:=fun k=>by
   unfold gT;rw [OZ,Array.getElem?_replicate];split <;> rfl
  have key:∀ b:Nat->Bool,(∀ k,b k=false)->WI5 n m (.slice ma n mc) (.slice pa m pc) xs ys s ta tn tc w W0 b undef undef undef undef undef undef undef undef undef undef undef undef undef undef undef (fun _=>0) W0.drew:=by
   intro b hf;refine { f1:=fun h=>?_,f2:=fun h=>?_,f4:=fun h=>?_,f8:=fun h=>?_,f9:=fun h=>?_,f11:=fun h=>?_,f14:=fun h=>?_,g14:=fun h=>?_,g15:=fun h=>?_,r1:=?_,r2:=?_,w0:=fun _=>(rZ _ _).drew,w1:=fun h=>?_ }
   case refine_10=>rw [hf,hf,hf,hf];exact jB.start _ _ _ _ _ _ _ _ _ _ _ _ _
   case refine_11=>rw [hf,hf,hf,hf];exact jB.start _ _ _ _ _ _ _ _ _ _ _ _ _
   all_goals (rw [hf] at h;cases h)
  exact key _ hf
 case done =>
  rintro b a wr t6 ⟨t7,t8,t9,lG,ln,lO,lI,lL,t15,lA,lP,ll,lT,t20,t21,tag,rfl,hI⟩;obtain ⟨iH,hst⟩:=hI.w1 (t6 15 (by decide));have R1:=hI.r1.c' (t6 6 (by decide));have R2:=hI.r2.c' (t6 13 (by decide));obtain ⟨El,FV,NX⟩:=R1.1.slice;obtain ⟨a20,FU,NW⟩:=R2.1.slice;subst NX;subst NW;obtain ⟨u0,u1,_,_⟩:=cells2 hst;refine hK0 _ _ ?_;clear hK0;unfold actW5;have HF:=n7 (n8 iH (n8 R1 R2));clear iH R1 R2 hI hst;go_wp2_with fail
  refine bodyPost_ret (v:=.agg #[.slice El (n+1) FV,.slice a20 (m+1) FU]) (by simp [results,Tryz.results38,go_sem,u0,u1]) rfl ?_;obtain ⟨iH,R1,R2⟩:=HF.out;exact ⟨El,FV,a20,FU,rfl,ru.trans (iH.toBelow (by omega) fun i hi e=>by omega),R1.1,R2.1,fun g hg=>by have:=(R1.2 g hg).2;omega,fun g hg=>by have:=(R2.2 g hg).2;omega⟩
 case step =>
  rintro b a wr i o ho hb rM ⟨t7,t8,t9,lG,ln,lO,lI,lL,t15,lA,lP,ll,lT,t20,t21,tag,rfl,hI⟩ K' hK;unfold actW5 at *;rcases i with _ | _ | _ | _ | _ | _ | _ | _ | _ | _ | _ | _ | _ | _ | _ | _ | i
  ·simp at ho;subst ho;have rR:=hI.not15 (i:=0) (by omega) hb;have hB:W0.heap.size<=wr.heap.size:=(hI.w0 rR).size;go_simp;exact hK _ _ ⟨.slice (some ⟨wr.heap.size,0,none⟩) 0 0,t8,t9,lG,ln,lO,lI,lL,t15,lA,lP,ll,lT,t20,t21,uS tag wr.heap.size 1,rfl,{ f1:=hI.f1,f2:=hI.f2,f4:=hI.f4,f8:=hI.f8,f9:=hI.f9,f11:=hI.f11,f14:=hI.f14,g14:=hI.g14,g15:=fun h=>absurd h (by rw [show uC b 0 15=b 15 from rfl,rR];decide),r1:=hI.r1.stepA hB,r2:=hI.r2.alloc _ 1,w0:=fun _=>(hI.w0 rR).alloc hB _,w1:=fun h=>absurd h (by rw [show uC b 0 15=b 15 from rfl,rR];decide) }⟩
  ·simp at ho;subst ho;have rR:=hI.not15 (i:=1) (by omega) hb;have hB:W0.heap.size<=wr.heap.size:=(hI.w0 rR).size;go_simp;exact hK _ _ ⟨t7,.pointer (some ⟨w.heap.size,0,none⟩),t9,lG,ln,lO,lI,lL,t15,lA,lP,ll,lT,t20,t21,tag,rfl,{ f1:=fun _=>rfl,f2:=hI.f2,f4:=hI.f4,f8:=hI.f8,f9:=hI.f9,f11:=hI.f11,f14:=hI.f14,g14:=hI.g14,g15:=fun h=>absurd h (by rw [show uC b 1 15=b 15 from rfl,rR];decide),r1:=hI.r1,r2:=hI.r2,w0:=fun _=>hI.w0 rR,w1:=fun h=>absurd h (by rw [show uC b 1 15=b 15 from rfl,rR];decide) }⟩
  ·simp at ho;subst ho;simp [Po] at rM;have rR:=hI.not15 (i:=2) (by omega) hb;have hB:W0.heap.size<=wr.heap.size:=(hI.w0 rR).size;have q8:=hI.f1 rM;have q0:wr.cell? ⟨w.heap.size,0,none⟩=some (.slice ma n mc):=((hI.w0 rR).cell (p:=⟨w.heap.size,0,none⟩) (by rw [z0];show w.heap.size<_;omega)).trans c0;go_simp;exact hK _ _ ⟨t7,.pointer (some ⟨w.heap.size,0,none⟩),.slice ma n mc,lG,ln,lO,lI,lL,t15,lA,lP,ll,lT,t20,t21,tag,rfl,{ f1:=fun _=>rfl,f2:=fun _=>rfl,f4:=hI.f4,f8:=hI.f8,f9:=hI.f9,f11:=hI.f11,f14:=hI.f14,g14:=hI.g14,g15:=fun h=>absurd h (by rw [show uC b 2 15=b 15 from rfl,rR];decide),r1:=hI.r1,r2:=hI.r2,w0:=fun _=>hI.w0 rR,w1:=fun h=>absurd h (by rw [show uC b 2 15=b 15 from rfl,rR];decide) }⟩
  ·simp at ho;subst ho;simp [Po] at rM;have rR:=hI.not15 (i:=3) (by omega) hb;have hB:W0.heap.size<=wr.heap.size:=(hI.w0 rR).size;obtain ⟨⟨g,e7⟩,aL⟩:=hI.r1.a rM.1 hb;have sj:=aL;rw [e7] at sj;have q9:=hI.f2 rM.2;refine zI (by rfl) (.tmp 7) (.tmp 9) 50 (by rfl) 9 (str []) 1 16 Qu Tryz.infoStr5 rfl (by decide) (.slice (some ⟨g,0,none⟩) 0 0) 0 [] e7 sj.1 (.slice ma n mc) n xs q9 ((HX.out.belowAll ru (n9 _)).belowAll (hI.w0 rR) (n9 _)) (by unfold maxLen;omega) (by omega) ?_;intro a' c' w' ho iH hg;rw [<- e7] at iH hg;simp only [Nat.zero_add,OW] at ho hg ⊢;exact hK _ _ ⟨t7,t8,t9,.slice a' n c',ln,lO,lI,lL,t15,lA,lP,ll,lT,t20,t21,uS tag wr.heap.size 1,rfl,{ f1:=hI.f1,f2:=hI.f2,f4:=hI.f4,f8:=hI.f8,f9:=hI.f9,f11:=hI.f11,f14:=hI.f14,g14:=hI.g14,g15:=fun h=>absurd h (by rw [show uC b 3 15=b 15 from rfl,rR];decide),r1:=hI.r1.stepC rM.1 hb (by decide) hB ho iH hg,r2:=hI.r2.but iH (fun k e=>by rw [(aL.2 k e).1];decide) 1,w0:=fun _=>(hI.w0 rR).trans (iH.toBelow hB fun k hk e=>by have:=(aL.2 k e).2;omega),w1:=fun h=>absurd h (by rw [show uC b 3 15=b 15 from rfl,rR];decide) }⟩
  ·simp at ho;subst ho;have rR:=hI.not15 (i:=4) (by omega) hb;have hB:W0.heap.size<=wr.heap.size:=(hI.w0 rR).size;go_simp;exact hK _ _ ⟨t7,t8,t9,lG,str s,lO,lI,lL,t15,lA,lP,ll,lT,t20,t21,tag,rfl,{ f1:=hI.f1,f2:=hI.f2,f4:=fun _=>rfl,f8:=hI.f8,f9:=hI.f9,f11:=hI.f11,f14:=hI.f14,g14:=hI.g14,g15:=fun h=>absurd h (by rw [show uC b 4 15=b 15 from rfl,rR];decide),r1:=hI.r1,r2:=hI.r2,w0:=fun _=>hI.w0 rR,w1:=fun h=>absurd h (by rw [show uC b 4 15=b 15 from rfl,rR];decide) }⟩
  ·simp at ho;subst ho;simp [Po] at rM;have rR:=hI.not15 (i:=5) (by omega) hb;have hB:W0.heap.size<=wr.heap.size:=(hI.w0 rR).size;have Hc:=hI.f4 rM;go_simp;exact hK _ _ ⟨t7,t8,t9,lG,str s,.slice (some ⟨wr.heap.size,0,none⟩) 1 1,lI,lL,t15,lA,lP,ll,lT,t20,t21,uS tag wr.heap.size 2,rfl,{ f1:=hI.f1,f2:=hI.f2,f4:=fun _=>rfl,f8:=hI.f8,f9:=hI.f9,f11:=hI.f11,f14:=hI.f14,g14:=hI.g14,g15:=fun h=>absurd h (by rw [show uC b 5 15=b 15 from rfl,rR];decide),r1:=hI.r1.stepA' hB,r2:=hI.r2.alloc _ 2,w0:=fun _=>(hI.w0 rR).alloc hB _,w1:=fun h=>absurd h (by rw [show uC b 5 15=b 15 from rfl,rR];decide) }⟩
  ·simp at ho;subst ho;simp [Po] at rM;have rR:=hI.not15 (i:=6) (by omega) hb;have hB:W0.heap.size<=wr.heap.size:=(hI.w0 rR).size;have aL:=hI.r1.c rM.1 hb;obtain ⟨⟨g,NZ⟩,oE⟩:=hI.r1.a' rM.2.1 hb;rw [NZ] at oE;refine zI (by rfl) (.tmp 10) (.tmp 12) 50 (by rfl) 9 (str []) 1 16 Qu Tryz.infoStr5 rfl (by decide) lG n xs rfl aL.1 (.slice (some ⟨g,0,none⟩) 1 1) 1 [str s] NZ (oE.1.src1 (by simp [Value.oneCell'])) (by unfold maxLen;omega) (by omega) ?_;intro a' c' w' ho iH hg;exact hK _ _ ⟨t7,t8,t9,lG,ln,lO,.slice a' (n+1) c',lL,t15,lA,lP,ll,lT,t20,t21,uS tag wr.heap.size 1,rfl,{ f1:=hI.f1,f2:=hI.f2,f4:=hI.f4,f8:=hI.f8,f9:=hI.f9,f11:=hI.f11,f14:=fun h=>absurd (hI.g14 h).1 (by rw [hb];decide),g14:=fun h=>⟨rfl,(hI.g14 h).2⟩,g15:=fun h=>absurd h (by rw [show uC b 6 15=b 15 from rfl,rR];decide),r1:=hI.r1.stepC' rM.1 hb hB ho hg,r2:=hI.r2.but iH (fun k e=>by rw [(aL.2 k e).1];decide) 1,w0:=fun _=>(hI.w0 rR).trans (iH.toBelow hB fun k hk e=>by have:=(aL.2 k e).2;omega),w1:=fun h=>absurd h (by rw [show uC b 6 15=b 15 from rfl,rR];decide) }⟩
  ·simp at ho;subst ho;have rR:=hI.not15 (i:=7) (by omega) hb;have hB:W0.heap.size<=wr.heap.size:=(hI.w0 rR).size;go_simp;exact hK _ _ ⟨t7,t8,t9,lG,ln,lO,lI,.slice (some ⟨wr.heap.size,0,none⟩) 0 0,t15,lA,lP,ll,lT,t20,t21,uS tag wr.heap.size 3,rfl,{ f1:=hI.f1,f2:=hI.f2,f4:=hI.f4,f8:=hI.f8,f9:=hI.f9,f11:=hI.f11,f14:=hI.f14,g14:=hI.g14,g15:=fun h=>absurd h (by rw [show uC b 7 15=b 15 from rfl,rR];decide),r1:=hI.r1.alloc _ 3,r2:=hI.r2.stepA hB,w0:=fun _=>(hI.w0 rR).alloc hB _,w1:=fun h=>absurd h (by rw [show uC b 7 15=b 15 from rfl,rR];decide) }⟩
  ·simp at ho;subst ho;have rR:=hI.not15 (i:=8) (by omega) hb;have hB:W0.heap.size<=wr.heap.size:=(hI.w0 rR).size;go_simp;exact hK _ _ ⟨t7,t8,t9,lG,ln,lO,lI,lL,.pointer (some ⟨w.heap.size,1,none⟩),lA,lP,ll,lT,t20,t21,tag,rfl,{ f1:=hI.f1,f2:=hI.f2,f4:=hI.f4,f8:=fun _=>rfl,f9:=hI.f9,f11:=hI.f11,f14:=hI.f14,g14:=hI.g14,g15:=fun h=>absurd h (by rw [show uC b 8 15=b 15 from rfl,rR];decide),r1:=hI.r1,r2:=hI.r2,w0:=fun _=>hI.w0 rR,w1:=fun h=>absurd h (by rw [show uC b 8 15=b 15 from rfl,rR];decide) }⟩
  ·simp at ho;subst ho;simp [Po] at rM;have rR:=hI.not15 (i:=9) (by omega) hb;have hB:W0.heap.size<=wr.heap.size:=(hI.w0 rR).size;have q8:=hI.f8 rM;have q0:wr.cell? ⟨w.heap.size,1,none⟩=some (.slice pa m pc):=((hI.w0 rR).cell (p:=⟨w.heap.size,1,none⟩) (by rw [z0];show w.heap.size<_;omega)).trans c1;go_simp;exact hK _ _ ⟨t7,t8,t9,lG,ln,lO,lI,lL,.pointer (some ⟨w.heap.size,1,none⟩),.slice pa m pc,lP,ll,lT,t20,t21,tag,rfl,{ f1:=hI.f1,f2:=hI.f2,f4:=hI.f4,f8:=fun _=>rfl,f9:=fun _=>rfl,f11:=hI.f11,f14:=hI.f14,g14:=hI.g14,g15:=fun h=>absurd h (by rw [show uC b 9 15=b 15 from rfl,rR];decide),r1:=hI.r1,r2:=hI.r2,w0:=fun _=>hI.w0 rR,w1:=fun h=>absurd h (by rw [show uC b 9 15=b 15 from rfl,rR];decide) }⟩
  ·simp at ho;subst ho;simp [Po] at rM;have rR:=hI.not15 (i:=10) (by omega) hb;have hB:W0.heap.size<=wr.heap.size:=(hI.w0 rR).size;obtain ⟨⟨g,e7⟩,aL⟩:=hI.r2.a rM.1 hb;have sj:=aL;rw [e7] at sj;have q9:=hI.f9 rM.2.1;refine zI (by rfl) (.tmp 14) (.tmp 16) 40 (by rfl) 42 (.agg #[.slice none 0 0]) 1 24 QU Tryz.infoTree5 rfl (by decide) (.slice (some ⟨g,0,none⟩) 0 0) 0 [] e7 sj.1 (.slice pa m pc) m ys q9 ((HY.out.belowAll ru (n9 _)).belowAll (hI.w0 rR) (n9 _)) (by unfold maxLen;omega) (by omega) ?_;intro a' c' w' ho iH hg;rw [<- e7] at iH hg;simp only [Nat.zero_add,OW] at ho hg ⊢;exact hK _ _ ⟨t7,t8,t9,lG,ln,lO,lI,lL,t15,lA,.slice a' m c',ll,lT,t20,t21,uS tag wr.heap.size 3,rfl,{ f1:=hI.f1,f2:=hI.f2,f4:=hI.f4,f8:=hI.f8,f9:=hI.f9,f11:=hI.f11,f14:=hI.f14,g14:=hI.g14,g15:=fun h=>absurd h (by rw [show uC b 10 15=b 15 from rfl,rR];decide),r1:=hI.r1.but iH (fun k e=>by rw [(aL.2 k e).1];decide) 3,r2:=hI.r2.stepC rM.1 hb (by decide) hB ho iH hg,w0:=fun _=>(hI.w0 rR).trans (iH.toBelow hB fun k hk e=>by have:=(aL.2 k e).2;omega),w1:=fun h=>absurd h (by rw [show uC b 10 15=b 15 from rfl,rR];decide) }⟩
  ·simp at ho;subst ho;have rR:=hI.not15 (i:=11) (by omega) hb;have hB:W0.heap.size<=wr.heap.size:=(hI.w0 rR).size;have q0:wr.cell? ⟨w.heap.size+1,0,none⟩=some (.slice ta tn tc):=((hI.w0 rR).cell (p:=⟨w.heap.size+1,0,none⟩) (by rw [z0];show w.heap.size+1<_;omega)).trans c2;go_simp;exact hK _ _ ⟨t7,t8,t9,lG,ln,lO,lI,lL,t15,lA,lP,.agg #[.slice ta tn tc],lT,t20,t21,tag,rfl,{ f1:=hI.f1,f2:=hI.f2,f4:=hI.f4,f8:=hI.f8,f9:=hI.f9,f11:=fun _=>rfl,f14:=hI.f14,g14:=hI.g14,g15:=fun h=>absurd h (by rw [show uC b 11 15=b 15 from rfl,rR];decide),r1:=hI.r1,r2:=hI.r2,w0:=fun _=>hI.w0 rR,w1:=fun h=>absurd h (by rw [show uC b 11 15=b 15 from rfl,rR];decide) }⟩
  ·simp at ho;subst ho;simp [Po] at rM;have rR:=hI.not15 (i:=12) (by omega) hb;have hB:W0.heap.size<=wr.heap.size:=(hI.w0 rR).size;have Hc:=hI.f11 rM;go_simp;exact hK _ _ ⟨t7,t8,t9,lG,ln,lO,lI,lL,t15,lA,lP,.agg #[.slice ta tn tc],.slice (some ⟨wr.heap.size,0,none⟩) 1 1,t20,t21,uS tag wr.heap.size 4,rfl,{ f1:=hI.f1,f2:=hI.f2,f4:=hI.f4,f8:=hI.f8,f9:=hI.f9,f11:=fun _=>rfl,f14:=hI.f14,g14:=hI.g14,g15:=fun h=>absurd h (by rw [show uC b 12 15=b 15 from rfl,rR];decide),r1:=hI.r1.alloc _ 4,r2:=hI.r2.stepA' hB,w0:=fun _=>(hI.w0 rR).alloc hB _,w1:=fun h=>absurd h (by rw [show uC b 12 15=b 15 from rfl,rR];decide) }⟩
  ·simp at ho;subst ho;simp [Po] at rM;have rR:=hI.not15 (i:=13) (by omega) hb;have hB:W0.heap.size<=wr.heap.size:=(hI.w0 rR).size;have aL:=hI.r2.c rM.1 hb;obtain ⟨⟨g,NZ⟩,oE⟩:=hI.r2.a' rM.2.1 hb;rw [NZ] at oE;refine zI (by rfl) (.tmp 17) (.tmp 19) 40 (by rfl) 42 (.agg #[.slice none 0 0]) 1 24 QU Tryz.infoTree5 rfl (by decide) lP m ys rfl aL.1 (.slice (some ⟨g,0,none⟩) 1 1) 1 [.slice ta tn tc] NZ (oE.1.src1 (by simp [Value.oneCell'])) (by unfold maxLen;omega) (by omega) ?_;intro a' c' w' ho iH hg;exact hK _ _ ⟨t7,t8,t9,lG,ln,lO,lI,lL,t15,lA,lP,ll,lT,.slice a' (m+1) c',t21,uS tag wr.heap.size 3,rfl,{ f1:=hI.f1,f2:=hI.f2,f4:=hI.f4,f8:=hI.f8,f9:=hI.f9,f11:=hI.f11,f14:=fun h=>absurd (hI.g14 h).2 (by rw [hb];decide),g14:=fun h=>⟨(hI.g14 h).1,rfl⟩,g15:=fun h=>absurd h (by rw [show uC b 13 15=b 15 from rfl,rR];decide),r1:=hI.r1.but iH (fun k e=>by rw [(aL.2 k e).1];decide) 3,r2:=hI.r2.stepC' rM.1 hb hB ho hg,w0:=fun _=>(hI.w0 rR).trans (iH.toBelow hB fun k hk e=>by have:=(aL.2 k e).2;omega),w1:=fun h=>absurd h (by rw [show uC b 13 15=b 15 from rfl,rR];decide) }⟩
  ·simp at ho;subst ho;simp [Po] at rM;have rR:=hI.not15 (i:=14) (by omega) hb;have hB:W0.heap.size<=wr.heap.size:=(hI.w0 rR).size;obtain ⟨El,FV,NX⟩:=(hI.r1.c' rM.1).1.slice;obtain ⟨a20,FU,NW⟩:=(hI.r2.c' rM.2).1.slice;subst NX;subst NW;go_simp;exact hK _ _ ⟨t7,t8,t9,lG,ln,lO,.slice El (n+1) FV,lL,t15,lA,lP,ll,lT,.slice a20 (m+1) FU,.agg #[.slice El (n+1) FV,.slice a20 (m+1) FU],tag,rfl,{ f1:=hI.f1,f2:=hI.f2,f4:=hI.f4,f8:=hI.f8,f9:=hI.f9,f11:=hI.f11,f14:=fun _=>rfl,g14:=fun _=>⟨rM.1,rM.2⟩,g15:=fun h=>absurd h (by rw [show uC b 14 15=b 15 from rfl,rR];decide),r1:=hI.r1,r2:=hI.r2,w0:=fun _=>hI.w0 rR,w1:=fun h=>absurd h (by rw [show uC b 14 15=b 15 from rfl,rR];decide) }⟩
  ·simp at ho;subst ho;simp [Po] at rM;obtain ⟨El,FV,NX⟩:=(hI.r1.c' (hI.g14 rM.1).1).1.slice;have t6:∀ k,k<15->b k=true:=fun k hk=>by
    obtain ⟨p14,p0⟩:=rM;rcases (by omega:k=0\/k=1\/k=2\/k=3\/k=4\/k=5\/k=6\/k=7\/k=8\/k=9\/k=10\/k=11\/k=12\/k=13\/k=14) with rfl | rfl | rfl | rfl | rfl | rfl | rfl | rfl | rfl | rfl | rfl | rfl | rfl | rfl | rfl <;> simp [*]
   obtain ⟨a20,FU,NW⟩:=(hI.r2.c' (hI.g14 rM.1).2).1.slice;subst NX;subst NW;have q21:=hI.f14 rM.1;have rV:wr.heap[w.heap.size+1+1]? = some (.cells #[.slice none 0 0,.slice none 0 0] 52 (0,0)):=by rw [(hI.w0 hb).block _ (by omega)];exact h6
   obtain ⟨u0,u1,v0,v1⟩:=cells2 rV;have rF:=hI.w0 hb;have hst:=setc_at (o:=1) (u:=.slice a20 (m+1) FU) (setc_at (o:=0) (u:=.slice El (n+1) FV) rV);go_simp;have iH:But (· = w.heap.size+1+1) wr ((wr.setCell ⟨w.heap.size+1+1,0,none⟩ (.slice El (n+1) FV)).setCell ⟨w.heap.size+1+1,1,none⟩ (.slice a20 (m+1) FU)):=((But.refl (· = w.heap.size+1+1) wr).setCell (p:=⟨w.heap.size+1+1,0,none⟩) (.inl rfl) _).setCell (p:=⟨w.heap.size+1+1,1,none⟩) (.inl rfl) _;exact hK _ _ ⟨t7,t8,t9,lG,ln,lO,.slice El (n+1) FV,lL,t15,lA,lP,ll,lT,.slice a20 (m+1) FU,.agg #[.slice El (n+1) FV,.slice a20 (m+1) FU],tag,rfl,{ f1:=hI.f1,f2:=hI.f2,f4:=hI.f4,f8:=hI.f8,f9:=hI.f9,f11:=hI.f11,f14:=fun _=>rfl,g14:=hI.g14,g15:=fun _ k hk=>by rw [show uC b 15 k=b k from if_neg (by omega)];exact t6 k hk,r1:=hI.r1.low iH (fun k e=>by omega),r2:=hI.r2.low iH (fun k e=>by omega),w0:=fun h=>Bool.noConfusion (show true=false from h),w1:=fun _=>⟨(But.ofBelow rF).trans iH,hst⟩ }⟩
  ·simp at ho
end Go.Proofs.YtdhaafoiokkbnabGreatDoor

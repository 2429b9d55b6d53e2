/- Walks. -/
import Derived.RegionTactic
import Derived.Test.YtpgiohmcggllgaaGreatDoorQ1
set_option linter.unusedVariables false
set_option linter.unusedSimpArgs false
set_option maxHeartbeats 4000000
open Array renaming all_eq_true'->QX,getD_eq_getD_getElem?->On,getElem?_eq_getElem->Oo
open Go.Proofs.Tryz renaming prog->KD,underlying40->Ql,underlying50->PW
open Go.Region renaming binds->OJ,ready->Oq
open Go.World renaming cell?->GD,frozen?->N4
open List renaming all_eq_true->P0,mem_filter->QB,mem_range->QF,nil_append->OB
open Option renaming getD_some->OW,map_some->Pn
namespace Go.Proofs.YtpgiohmcggllgaaGreatDoor
open Go.RowKit
section
variable {P:Program} {ops:Array Oper} {Q:Exit->Act->World->Prop} {md:Region.Mode}
def uU (b:Nat->Bool) (i:Nat):Nat->Bool:=fun k=>if k=i then true else b k
def gJ (L:Array Bool):Nat->Bool:=fun k=>L.getD k false
theorem lsOf_set (L:Array Bool) (i:Nat) (h:i<L.size):gJ (L.setIfInBounds i true)=uU (gJ L) i:=by
 funext k;unfold gJ uU;by_cases hk:k=i
 ·subst hk;rw [if_pos rfl];simp [h]
 ·rw [if_neg hk];simp only [On];rw [Array.getElem?_setIfInBounds_ne (fun e=>hk e.symm)]
def dh (L:Array Bool):Nat:=(L.toList.filter fun x=>!x).length
theorem openOf_set (L:Array Bool) (i:Nat) (h:i<L.size) (hf:L.getD i true=false):dh (L.setIfInBounds i true)+1=dh L:=by
 unfold dh;rw [Array.toList_setIfInBounds];have key:∀ (l:List Bool) (i:Nat),i<l.length->l.getD i true=false->((l.set i true).filter fun x=>!x).length+1=(l.filter fun x=>!x).length:=by
  intro l
  induction l with
  | nil=>intro i h;simp at h
  | cons x l ih =>
    intro i h hf;cases i with
    | zero=>simp at hf;subst hf;simp
    | succ i =>
      have:=ih i (by simpa using h) (by simpa using hf);simp only [List.set_cons_succ,List.filter_cons];cases x <;> simp <;> omega
 refine key _ i (by simpa using h) ?_;simpa [On,List.getD_eq_getElem?_getD] using hf
theorem wpAny_inv {I:(Nat->Bool)->Act->World->Prop} (MY:∀ (i:Nat) (o:Oper),ops[i]? = some o->∀ e∈o.after,e.on<i)
 (step:∀ (b:Nat->Bool) (a:Act) (w:World) (i:Nat) (o:Oper),ops[i]? = some o->b i=false->(∀ e∈o.after,OJ md e=true->b e.on=true)->I b a w ->
  ∀ K':Act->World->Prop,(∀ a w,I (uU b i) a w->K' a w)->if Region.wanted o (yielded ops a.tmps)=true then Oper.wp P o a w K' Q else K' (a.put o.dst undef) w)
 (done:∀ (b:Nat->Bool) (a:Act) (w:World),(∀ i,i<ops.size->b i=true)->I b a w->Q .normal a w) :
 ∀ (fuel:Nat) (L:Array Bool) (a:Act) (w:World),L.size=ops.size->dh L<=fuel->I (gJ L) a w->wpAny P md ops Q fuel L a w:=by
 have IF:∀ (L:Array Bool),L.size=ops.size->Oq md ops L=[]->∀ i,i<ops.size->gJ L i=true:=by
  intro L hL hr i
  induction i using Nat.strongRecOn with
  | _ i ih =>
    intro hi;cases hb:gJ L i with
    | true=>rfl
    | false =>
      exfalso;have:i∈Oq md ops L:=by
       unfold Oq;rw [QB];refine ⟨QF.2 hi,?_⟩;have ho:ops[i]? = some ops[i]:=by simp [hi]
       rw [ho];have h1:L.getD i true=false:=by
        unfold gJ at hb;have h2:L[i]? = some L[i]:=by simp [hL,hi]
        simp only [On,h2,OW] at hb ⊢;exact hb
       simp only [h1,Bool.not_false,Bool.true_and,Pn,OW];rw [QX];intro e he;rw [Bool.or_eq_true];right;exact ih e.on (MY i _ ho e he) (by have:=MY i _ ho e he;omega)
      rw [hr] at this;simp at this
 intro fuel
 induction fuel with
 | zero =>
   intro L a w hL hf hI;have sx:∀ i,i<ops.size->gJ L i=true:=by
    intro i hi;cases hb:gJ L i with
    | true=>rfl
    | false =>
      exfalso;have:dh L=0:=by omega
      unfold dh at this;rw [List.length_eq_zero_iff,List.filter_eq_nil_iff] at this;unfold gJ at hb;have h2:L[i]? = some L[i]:=by simp [hL,hi]
      simp only [On,h2,OW] at hb;have:=this L[i] (by simp);rw [hb] at this;simp at this
   rw [wpAny];refine ⟨?_,done _ _ _ sx hI⟩;cases hr:Oq md ops L with
   | nil=>rfl
   | cons i rs =>
     exfalso;have hm:i∈Oq md ops L:=by rw [hr];simp
     unfold Oq at hm;rw [QB,QF] at hm;obtain ⟨hi,h2⟩:=hm;have:=sx i hi;unfold gJ at this;have h3:L[i]? = some L[i]:=by simp [hL,hi]
     simp only [On,h3,OW] at this h2;rw [this] at h2;simp at h2
 | succ fuel ih =>
   intro L a w hL hf hI;rw [wpAny];refine ⟨fun hr=>done _ _ _ (IF L hL hr) hI,fun i hi=>?_⟩;unfold Oq at hi;rw [QB,QF] at hi;obtain ⟨hi,h2⟩:=hi;have ho:ops[i]? = some ops[i]:=by simp [hi]
   rw [ho] at h2;simp only [Pn,OW,Bool.and_eq_true,Bool.not_eq_true'] at h2;obtain ⟨h3,h4⟩:=h2;rw [QX] at h4;have h5:gJ L i=false:=by
    unfold gJ;have:L[i]? = some L[i]:=by simp [hL,hi]
    simp only [On,this,OW] at *;exact h3
   refine wpOp_step ho fun K' hK=>?_;refine step (gJ L) a w i ops[i] ho h5 (fun e he hb=>?_) hI K' fun a' w' h'=>hK a' w' (ih _ _ _ (by simpa using hL) (by have:=openOf_set L i (by omega) h3;omega) (by rw [lsOf_set L i (by omega)];exact h'));have:=h4 e he;rw [hb] at this;simpa [gJ] using this
def acyB (ops:Array Oper):Bool:=(List.range ops.size).all fun i=>match ops[i]? with
 | some o=>o.after.toList.all fun e=>decide (e.on<i)
 | none=>true
theorem acy_of (h:acyB ops=true) (i:Nat) (o:Oper) (ho:ops[i]? = some o) (e) (he:e∈o.after):e.on<i:=by
 have hi:i<ops.size:=(Array.getElem?_eq_some_iff.1 ho).1;unfold acyB at h;rw [P0] at h;have:=h i (QF.2 hi);rw [ho] at this;simp only [P0] at this;have:=this e (by simpa using he);simpa using this
end
theorem zq.slice1 {size:Nat} {x:Value} {m:Nat} {news:List Value} {w:World} (h:zq size x m news w):∃ a c,x=.slice a m c:=by
 obtain ⟨_,_,⟨a,c,rfl,_⟩ | ⟨rfl,rfl⟩⟩:=h
 all_goals
  exact ⟨_,_,rfl⟩
theorem setc_at {w:World} {b o:Nat} {c:Array Value} {e:TypeId} {u:Value} (h:w.heap[b]? = some (.cells c e (0,0))):(w.setCell ⟨b,o,none⟩ u).heap[b]? = some (.cells (c.setIfInBounds o u) e (0,0)):=by
 have m_:=zZ h;have h':w.heap[b]=.cells c e (0,0):=by simpa [Oo m_] using h
 show (w.heap.modify b _)[b]? = _;rw [Oo (by simpa using m_),Array.getElem_modify_self,h'];simp
theorem cells2 {w:World} {P:Nat} {u v:Value} {T:TypeId} (h:w.heap[P]? = some (.cells #[u,v] T (0,0))):w.cell? ⟨P,0,none⟩=some u/\w.cell? ⟨P,1,none⟩=some v/\w.frozen? ⟨P,0,none⟩=false/\w.frozen? ⟨P,1,none⟩=false :=
 ⟨by simp [GD,h],by simp [GD,h],by simp [N4,h],by simp [N4,h]⟩
def Res (B:Nat) (tag:Nat->Nat) (t:Nat) (w:World) (e:TypeId) (v:Value) (n:Nat) (xs:List Value):Prop :=
 Own w e 1 v n xs/\∀ g,v.ownBlock=some g->tag g=t/\B<=g
def uB (tag:Nat->Nat) (g t:Nat):Nat->Nat:=fun i=>if i=g then t else tag i
theorem Res.alloc {B:Nat} {tag:Nat->Nat} {t:Nat} {w:World} {e:TypeId} {v:Value} {n:Nat} {xs:List Value} (h:Res B tag t w e v n xs) (o:Obj) (t':Nat):Res B (uB tag w.heap.size t') t (w.alloc o) e v n xs :=
 ⟨h.1.alloc o,fun g hg=>⟨by have:=h.1.lt hg;unfold uB;rw [if_neg (by omega)];exact (h.2 g hg).1,(h.2 g hg).2⟩⟩
theorem Res.but {B:Nat} {tag:Nat->Nat} {t:Nat} {w w':World} {e:TypeId} {v:Value} {n:Nat} {xs:List Value} (h:Res B tag t w e v n xs) {m:Nat->Prop} (hb:But m w w') (hm:∀ g,m g->tag g≠t) (t':Nat):Res B (uB tag w.heap.size t') t w' e v n xs :=
 ⟨h.1.keep fun g o hg ho=>by rw [hb.block g (zZ ho) (fun hmg=>hm g hmg (h.2 g hg).1)];exact ho,fun g hg=>⟨by have:=h.1.lt hg;unfold uB;rw [if_neg (by omega)];exact (h.2 g hg).1,(h.2 g hg).2⟩⟩
theorem Res.lit {B:Nat} (tag:Nat->Nat) (t:Nat) {w:World} (hB:B<=w.heap.size) (e:TypeId) (cs:Array Value) (n:Nat) (hm:n<=maxLen) (hs:cs.size=n):Res B (uB tag w.heap.size t) t (w.alloc (.cells cs e)) e (.slice (some ⟨w.heap.size,0,none⟩) n n) n cs.toList :=
 ⟨Own.lit cs n hm (by omega),fun g hg=>by
  simp [Value.ownBlock] at hg;subst hg
  exact ⟨by unfold uB;rw [if_pos rfl],hB⟩⟩
structure jW (B:Nat) (tag:Nat->Nat) (t1 t2:Nat) (e:TypeId) (n:Nat) (xs:List Value) (u:Value) (A C A' C':Bool) (vA vC vA' vC':Value) (w:World):Prop where
 a:A=true->C=false->(∃ g,vA=.slice (some ⟨g,0,none⟩) 0 0)/\Res B tag t1 w e vA 0 []
 c:C=true->C'=false->Res B tag t1 w e vC n xs
 a':A'=true->C'=false->(∃ g,vA'=.slice (some ⟨g,0,none⟩) 1 1)/\Res B tag t2 w e vA' 1 [u]
 c':C'=true->Res B tag t1 w e vC' (n+1) (xs++[u])
 cl:C'=true->C=true
section
variable {B:Nat} {tag:Nat->Nat} {t1 t2:Nat} {e:TypeId} {n:Nat} {xs:List Value} {u:Value} {A C A' C':Bool} {vA vC vA' vC':Value} {w:World}
theorem jW.start (B:Nat) (tag:Nat->Nat) (t1 t2:Nat) (e:TypeId) (n:Nat) (xs:List Value) (u vA vC vA' vC':Value) (w:World):jW B tag t1 t2 e n xs u false false false false vA vC vA' vC' w :=
 ⟨fun h=>Bool.noConfusion h,fun h=>Bool.noConfusion h,fun h=>Bool.noConfusion h,fun h=>Bool.noConfusion h,fun h=>Bool.noConfusion h⟩
theorem jW.alloc (h:jW B tag t1 t2 e n xs u A C A' C' vA vC vA' vC' w) (o:Obj) (t':Nat):jW B (uB tag w.heap.size t') t1 t2 e n xs u A C A' C' vA vC vA' vC' (w.alloc o) :=
 ⟨fun h1 h2=>⟨(h.a h1 h2).1,(h.a h1 h2).2.alloc o t'⟩,fun h1 h2=>(h.c h1 h2).alloc o t',fun h1 h2=>⟨(h.a' h1 h2).1,(h.a' h1 h2).2.alloc o t'⟩,fun h1=>(h.c' h1).alloc o t',h.cl⟩
theorem jW.but (h:jW B tag t1 t2 e n xs u A C A' C' vA vC vA' vC' w) {w':World} {m:Nat->Prop} (hb:But m w w') (hm:∀ g,m g->tag g≠t1/\tag g≠t2) (t':Nat):jW B (uB tag w.heap.size t') t1 t2 e n xs u A C A' C' vA vC vA' vC' w' :=
 ⟨fun h1 h2=>⟨(h.a h1 h2).1,(h.a h1 h2).2.but hb (fun g k=>(hm g k).1) t'⟩,fun h1 h2=>(h.c h1 h2).but hb (fun g k=>(hm g k).1) t',fun h1 h2=>⟨(h.a' h1 h2).1,(h.a' h1 h2).2.but hb (fun g k=>(hm g k).2) t'⟩,fun h1=>(h.c' h1).but hb (fun g k=>(hm g k).1) t',h.cl⟩
theorem Res.low {t:Nat} {v:Value} {k:Nat} {ys:List Value} (h:Res B tag t w e v k ys) {w':World} {m:Nat->Prop} (hb:But m w w') (hm:∀ g,m g->g<B):Res B tag t w' e v k ys :=
 ⟨h.1.keep fun g o hg ho=>by rw [hb.block g (zZ ho) (fun hmg=>by have:=hm g hmg;have:=(h.2 g hg).2;omega)];exact ho,h.2⟩
theorem jW.low (h:jW B tag t1 t2 e n xs u A C A' C' vA vC vA' vC' w) {w':World} {m:Nat->Prop} (hb:But m w w') (hm:∀ g,m g->g<B):jW B tag t1 t2 e n xs u A C A' C' vA vC vA' vC' w' :=
 ⟨fun h1 h2=>⟨(h.a h1 h2).1,(h.a h1 h2).2.low hb hm⟩,fun h1 h2=>(h.c h1 h2).low hb hm,fun h1 h2=>⟨(h.a' h1 h2).1,(h.a' h1 h2).2.low hb hm⟩,fun h1=>(h.c' h1).low hb hm,h.cl⟩
theorem jW.stepA (h:jW B tag t1 t2 e n xs u A C A' C' vA vC vA' vC' w) (hB:B<=w.heap.size):jW B (uB tag w.heap.size t1) t1 t2 e n xs u true C A' C' (.slice (some ⟨w.heap.size,0,none⟩) 0 0) vC vA' vC' (w.alloc (.cells #[] e)) :=
 ⟨fun _ _=>⟨⟨_,rfl⟩,Res.lit tag t1 hB e #[] 0 (Nat.zero_le _) rfl⟩,fun h1 h2=>(h.c h1 h2).alloc _ _,fun h1 h2=>⟨(h.a' h1 h2).1,(h.a' h1 h2).2.alloc _ _⟩,fun h1=>(h.c' h1).alloc _ _,h.cl⟩
theorem jW.stepA' (h:jW B tag t1 t2 e n xs u A C A' C' vA vC vA' vC' w) (hB:B<=w.heap.size):jW B (uB tag w.heap.size t2) t1 t2 e n xs u A C true C' vA vC (.slice (some ⟨w.heap.size,0,none⟩) 1 1) vC' (w.alloc (.cells #[u] e)) :=
 ⟨fun h1 h2=>⟨(h.a h1 h2).1,(h.a h1 h2).2.alloc _ _⟩,fun h1 h2=>(h.c h1 h2).alloc _ _,fun _ _=>⟨⟨_,rfl⟩,Res.lit tag t2 hB e #[u] 1 (by unfold maxLen;omega) rfl⟩,fun h1=>(h.c' h1).alloc _ _,h.cl⟩
theorem Res.app {t:Nat} {v v':Value} {k m:Nat} {ys zs:List Value} {w':World} (h:Res B tag t w e v k ys) (hB:B<=w.heap.size) (ho:Own w' e 1 v' m zs) (hg:∀ g,v'.ownBlock=some g->v.ownBlock=some g\/g=w.heap.size):Res B (uB tag w.heap.size t) t w' e v' m zs :=
 ⟨ho,fun g k=>by
  unfold uB;rcases hg g k with k | k
  ·have:=h.1.lt k;rw [if_neg (by omega)];exact h.2 g k
  ·rw [if_pos k];exact ⟨rfl,by omega⟩⟩
theorem jW.stepC (h:jW B tag t1 t2 e n xs u A C A' C' vA vC vA' vC' w) (hA:A=true) (hC:C=false) (ht:t1≠t2) (hB:B<=w.heap.size) {v':Value} {w':World}
 (ho:Own w' e 1 v' n xs) (hb:But (fun b=>vA.ownBlock=some b) w w') (hg:∀ g,v'.ownBlock=some g->vA.ownBlock=some g\/g=w.heap.size) :
 jW B (uB tag w.heap.size t1) t1 t2 e n xs u A true A' C' vA v' vA' vC' w':=by
 have hC':C'=false:=by
  cases C' with
  | false=>rfl
  | true=>have:=h.cl rfl;rw [hC] at this;exact this.symm
 subst hA;subst hC;subst hC'
 exact ⟨fun _ h2=>Bool.noConfusion h2,fun _ _=>(h.a rfl rfl).2.app hB ho hg,
  fun h1 h2=>⟨(h.a' h1 h2).1,(h.a' h1 h2).2.but hb (fun g k=>by rw [((h.a rfl rfl).2.2 g k).1];exact ht) t1⟩,fun h1=>Bool.noConfusion h1,fun h1=>Bool.noConfusion h1⟩
theorem jW.stepC' (h:jW B tag t1 t2 e n xs u A C A' C' vA vC vA' vC' w) (hC:C=true) (hC':C'=false) (hB:B<=w.heap.size) {v':Value} {w':World}
 (ho:Own w' e 1 v' (n+1) (xs++[u])) (hg:∀ g,v'.ownBlock=some g->vC.ownBlock=some g\/g=w.heap.size) :
 jW B (uB tag w.heap.size t1) t1 t2 e n xs u A C A' true vA vC vA' v' w':=by
 subst hC;subst hC';exact ⟨fun _ h2=>Bool.noConfusion h2,fun _ h2=>Bool.noConfusion h2,fun _ h2=>Bool.noConfusion h2,fun _=>(h.c rfl rfl).app hB ho hg,fun _=>rfl⟩
end
theorem Own.src1 {w:World} {e:TypeId} {g:Nat} {u:Value} (h:Own w e 1 (.slice (some ⟨g,0,none⟩) 1 1) 1 [u]) (hu:u.oneCell'=true):zq 1 (.slice (some ⟨g,0,none⟩) 1 1) 1 [u] w:=by
 obtain ⟨_,⟨h0,_⟩ | ⟨g',cap,cur,hv,_,hg,lh,_,hcs,An⟩⟩:=h
 ·cases h0
 ·simp only [Value.slice.injEq,Option.some.injEq,Addr.mk.injEq] at hv;obtain ⟨⟨rfl,_,_⟩,_,rfl⟩:=hv;refine ⟨rfl,by simpa using hu,.inl ⟨_,_,rfl,fun j v hj=>?_⟩⟩;cases j with
  | zero =>
    simp at hj;subst hj;have h1:cur.toList[0]? = some u:=by
     have:(cur.toList.take 1)[0]? = some u:=by rw [An];rfl
     rwa [List.getElem?_take,if_pos (by omega)] at this
    rw [show ((⟨g,0,none⟩:Addr).add 0)=⟨g,0,none⟩ from rfl];unfold GD;rw [hg];simpa using h1
  | succ j=>simp at hj
theorem Tryz.infoTree5:(KD.info? 42).map (fun i=>(i.zero,i.size,i.bytes))=some (some (.agg #[.slice none 0 0]),1,24):=by kernel_rfl
theorem Tryz.infoStr5:(KD.info? 9).map (fun i=>(i.zero,i.size,i.bytes))=some (some (str []),1,16):=by kernel_rfl
def WithPost5 (n m:Nat) (xs ys:List Value) (s:Bs) (ta:Option Addr) (tn tc:Nat) (w:World) (en:Ending) (w':World):Prop :=
 ∃ a1 c1 a2 c2,en=.returned (.agg #[.slice a1 (n+1) c1,.slice a2 (m+1) c2])/\Below w.heap.size w w'/\Own w' 9 1 (.slice a1 (n+1) c1) (n+1) (xs++[str s])/\Own w' 42 1 (.slice a2 (m+1) c2) (m+1) (ys++[.slice ta tn tc]) /\
   (∀ g,(Value.slice a1 (n+1) c1).ownBlock=some g->w.heap.size<=g)/\(∀ g,(Value.slice a2 (m+1) c2).ownBlock=some g->w.heap.size<=g)
structure WI5 (n m:Nat) (mv pt:Value) (xs ys:List Value) (s:Bs) (ta:Option Addr) (tn tc:Nat) (w W0:World) (b:Nat->Bool) (t7 t8 t9 iT i5 ic ig ip t15 iw iS i2 iy t20 t21:Value) (tag:Nat->Nat) (wr:World):Prop where
 f1:b 1=true->t8=.pointer (some ⟨w.heap.size,0,none⟩)
 f2:b 2=true->t9=mv
 f4:b 4=true->i5=str s
 f8:b 8=true->t15=.pointer (some ⟨w.heap.size,1,none⟩)
 f9:b 9=true->iw=pt
 f11:b 11=true->i2=.agg #[.slice ta tn tc]
 f14:b 14=true->t21=.agg #[ig,t20]
 g14:b 14=true->b 6=true/\b 13=true
 g15:b 15=true->∀ k,k<15->b k=true
 r1:jW W0.heap.size tag 1 2 9 n xs (str s) (b 0) (b 3) (b 5) (b 6) t7 iT ic ig wr
 r2:jW W0.heap.size tag 3 4 42 m ys (.slice ta tn tc) (b 7) (b 10) (b 12) (b 13) ip iS iy t20 wr
 w0:b 15=false->Below W0.heap.size W0 wr
 w1:b 15=true->But (· = w.heap.size+1+1) W0 wr/\wr.heap[w.heap.size+1+1]? = some (.cells #[ig,t20] 52 (0,0))
theorem WI5.not15 {n m:Nat} {mv pt:Value} {xs ys:List Value} {s:Bs} {ta:Option Addr} {tn tc:Nat} {w W0:World} {b:Nat->Bool} {t7 t8 t9 iT i5 ic ig ip t15 iw iS i2 iy t20 t21:Value} {tag:Nat->Nat} {wr:World} (h:WI5 n m mv pt xs ys s ta tn tc w W0 b t7 t8 t9 iT i5 ic ig ip t15 iw iS i2 iy t20 t21 tag wr) {i:Nat} (hi:i<15) (hb:b i=false):b 15=false:=by
 cases nX:b 15 with
 | false=>rfl
 | true=>have:=h.g15 nX i hi;rw [hb] at this;exact this.symm
def actW5 (mv pt:Value) (s:Bs) (ta:Option Addr) (tn tc:Nat) (B:Nat) (t7 t8 t9 iT i5 ic ig ip t15 iw iS i2 iy t20 t21:Value):Act :=
 { tmps:=#[.agg #[mv,pt],str s,.agg #[.slice ta tn tc],.pointer (some ⟨B,0,none⟩),undef,.pointer (some ⟨B+1,0,none⟩),.pointer (some ⟨B+1+1,0,none⟩),t7,t8,t9,iT,i5,ic,ig,ip,t15,iw,iS,i2,iy,t20,t21],defers:=[] }
def WIA5 (n m:Nat) (mv pt:Value) (xs ys:List Value) (s:Bs) (ta:Option Addr) (tn tc:Nat) (w W0:World) (b:Nat->Bool) (a:Act) (wr:World):Prop :=
 ∃ t7 t8 t9 iT i5 ic ig ip t15 iw iS i2 iy t20 t21 tag,a=actW5 mv pt s ta tn tc w.heap.size t7 t8 t9 iT i5 ic ig ip t15 iw iS i2 iy t20 t21/\WI5 n m mv pt xs ys s ta tn tc w W0 b t7 t8 t9 iT i5 ic ig ip t15 iw iS i2 iy t20 t21 tag wr
set_option maxRecDepth 100000 in
theorem l5With_any (n m:Nat) (mv pt:Value) (xs ys:List Value) (s:Bs) (ta:Option Addr) (tn tc:Nat) (w:World) (hx:zq 1 mv n xs w) (hy:zq 1 pt m ys w) (hn:n<=1000000) (hm:m<=1000000) :
 Calls KD 42 #[.agg #[mv,pt],str s,.agg #[.slice ta tn tc]] w (WithPost5 n m xs ys s ta tn tc w):=by
 obtain ⟨ma,mc,rfl⟩:=hx.slice1;obtain ⟨pa,pc,rfl⟩:=hy.slice1;have HX:=mj hx;have HY:=mj hy;clear hx hy;go_enter Tryz.func42,Tryz.ntmps42;go_wp2_with fail
 rename_i K0 hK0;obtain ⟨W0,nO⟩:=zzN (((w.alloc (.cells #[.slice ma n mc,.slice pa m pc] 52)).alloc (.cells #[.slice ta tn tc] 42)).alloc (.cells #[.slice none 0 0,.slice none 0 0] 52));rw [nO];have z0:W0.heap.size=w.heap.size+1+1+1:=by rw [<- nO];simp
 have nN:Below w.heap.size w W0:=by rw [<- nO];exact (((mw _ _).alloc (my _) _).alloc (by rw [zK];omega) _).alloc (by rw [zK,zK];omega) _
 have c0:W0.cell? ⟨w.heap.size,0,none⟩=some (.slice ma n mc):=by rw [<- nO];exact zV (zV (by simp))
 have c1:W0.cell? ⟨w.heap.size,1,none⟩=some (.slice pa m pc):=by rw [<- nO];exact zV (zV (by simp))
 have c2:W0.cell? ⟨w.heap.size+1,0,none⟩=some (.slice ta tn tc):=by
  rw [<- nO];have h:=zG (w.alloc (.cells #[.slice ma n mc,.slice pa m pc] 52)) (.cells #[.slice ta tn tc] 42);rw [zK] at h;exact zV (by simp only [GD,h];rfl)
 have h6:W0.heap[w.heap.size+1+1]? = some (.cells #[.slice none 0 0,.slice none 0 0] 52 (0,0)):=by rw [<- nO];have:=zG ((w.alloc (.cells #[.slice ma n mc,.slice pa m pc] 52)).alloc (.cells #[.slice ta tn tc] 42)) (.cells #[.slice none 0 0,.slice none 0 0] 52);rwa [zK,zK] at this
 clear nO;refine wp_region_any (by kernel_rfl) ?_;refine wpAny_inv (I:=WIA5 n m (.slice ma n mc) (.slice pa m pc) xs ys s ta tn tc w W0) ?acy ?step ?done _ _ _ _ rfl ?cnt ?start
 case cnt=>decide
 case acy=>exact acy_of (by kernel_rfl)
 case start =>
  refine ⟨undef,undef,undef,undef,undef,undef,undef,undef,undef,undef,undef,undef,undef,undef,undef,fun _=>0,rfl,?_⟩;have hf:∀ k,gJ (Array.replicate 16 false) k=false:=fun k=>by
   unfold gJ;rw [On,Array.getElem?_replicate];split <;> rfl
  have key:∀ b:Nat->Bool,(∀ k,b k=false)->WI5 n m (.slice ma n mc) (.slice pa m pc) xs ys s ta tn tc w W0 b undef undef undef undef undef undef undef undef undef undef undef undef undef undef undef (fun _=>0) W0.drew:=by
   intro b hf;refine { f1:=fun h=>?_,f2:=fun h=>?_,f4:=fun h=>?_,f8:=fun h=>?_,f9:=fun h=>?_,f11:=fun h=>?_,f14:=fun h=>?_,g14:=fun h=>?_,g15:=fun h=>?_,r1:=?_,r2:=?_,w0:=fun _=>(mw _ _).drew,w1:=fun h=>?_ }
   case refine_10=>rw [hf,hf,hf,hf];exact jW.start _ _ _ _ _ _ _ _ _ _ _ _ _
   case refine_11=>rw [hf,hf,hf,hf];exact jW.start _ _ _ _ _ _ _ _ _ _ _ _ _
   all_goals (rw [hf] at h;cases h)
  exact key _ hf
 case done =>
  rintro b a wr sx ⟨t7,t8,t9,iT,i5,ic,ig,ip,t15,iw,iS,i2,iy,t20,t21,tag,rfl,hI⟩;obtain ⟨tw,aG⟩:=hI.w1 (sx 15 (by decide));have R1:=hI.r1.c' (sx 6 (by decide));have R2:=hI.r2.c' (sx 13 (by decide));obtain ⟨DF,Fh,Nn⟩:=R1.1.slice;obtain ⟨a20,Fg,Nl⟩:=R2.1.slice;subst Nn;subst Nl;obtain ⟨u0,u1,_,_⟩:=cells2 aG;refine hK0 _ _ ?_;clear hK0;unfold actW5;have HF:=mj (mu tw (mu R1 R2));clear tw R1 R2 hI aG;go_wp2_with fail
  refine bodyPost_ret (v:=.agg #[.slice DF (n+1) Fh,.slice a20 (m+1) Fg]) (by simp [results,Tryz.results42,go_sem,u0,u1]) rfl ?_;obtain ⟨tw,R1,R2⟩:=HF.out;exact ⟨DF,Fh,a20,Fg,rfl,nN.trans (tw.toBelow (by omega) fun i hi e=>by omega),R1.1,R2.1,fun g hg=>by have:=(R1.2 g hg).2;omega,fun g hg=>by have:=(R2.2 g hg).2;omega⟩
 case step =>
  rintro b a wr i o ho hb nU ⟨t7,t8,t9,iT,i5,ic,ig,ip,t15,iw,iS,i2,iy,t20,t21,tag,rfl,hI⟩ K' hK;unfold actW5 at *;rcases i with _ | _ | _ | _ | _ | _ | _ | _ | _ | _ | _ | _ | _ | _ | _ | _ | i
  ·simp at ho;subst ho;have nX:=hI.not15 (i:=0) (by omega) hb;have hB:W0.heap.size<=wr.heap.size:=(hI.w0 nX).size;go_simp;exact hK _ _ ⟨.slice (some ⟨wr.heap.size,0,none⟩) 0 0,t8,t9,iT,i5,ic,ig,ip,t15,iw,iS,i2,iy,t20,t21,uB tag wr.heap.size 1,rfl,{ f1:=hI.f1,f2:=hI.f2,f4:=hI.f4,f8:=hI.f8,f9:=hI.f9,f11:=hI.f11,f14:=hI.f14,g14:=hI.g14,g15:=fun h=>absurd h (by rw [show uU b 0 15=b 15 from rfl,nX];decide),r1:=hI.r1.stepA hB,r2:=hI.r2.alloc _ 1,w0:=fun _=>(hI.w0 nX).alloc hB _,w1:=fun h=>absurd h (by rw [show uU b 0 15=b 15 from rfl,nX];decide) }⟩
  ·simp at ho;subst ho;have nX:=hI.not15 (i:=1) (by omega) hb;have hB:W0.heap.size<=wr.heap.size:=(hI.w0 nX).size;go_simp;exact hK _ _ ⟨t7,.pointer (some ⟨w.heap.size,0,none⟩),t9,iT,i5,ic,ig,ip,t15,iw,iS,i2,iy,t20,t21,tag,rfl,{ f1:=fun _=>rfl,f2:=hI.f2,f4:=hI.f4,f8:=hI.f8,f9:=hI.f9,f11:=hI.f11,f14:=hI.f14,g14:=hI.g14,g15:=fun h=>absurd h (by rw [show uU b 1 15=b 15 from rfl,nX];decide),r1:=hI.r1,r2:=hI.r2,w0:=fun _=>hI.w0 nX,w1:=fun h=>absurd h (by rw [show uU b 1 15=b 15 from rfl,nX];decide) }⟩
  ·simp at ho;subst ho;simp [OJ] at nU;have nX:=hI.not15 (i:=2) (by omega) hb;have hB:W0.heap.size<=wr.heap.size:=(hI.w0 nX).size;have q8:=hI.f1 nU;have q0:wr.cell? ⟨w.heap.size,0,none⟩=some (.slice ma n mc):=((hI.w0 nX).cell (p:=⟨w.heap.size,0,none⟩) (by rw [z0];show w.heap.size<_;omega)).trans c0;go_simp;exact hK _ _ ⟨t7,.pointer (some ⟨w.heap.size,0,none⟩),.slice ma n mc,iT,i5,ic,ig,ip,t15,iw,iS,i2,iy,t20,t21,tag,rfl,{ f1:=fun _=>rfl,f2:=fun _=>rfl,f4:=hI.f4,f8:=hI.f8,f9:=hI.f9,f11:=hI.f11,f14:=hI.f14,g14:=hI.g14,g15:=fun h=>absurd h (by rw [show uU b 2 15=b 15 from rfl,nX];decide),r1:=hI.r1,r2:=hI.r2,w0:=fun _=>hI.w0 nX,w1:=fun h=>absurd h (by rw [show uU b 2 15=b 15 from rfl,nX];decide) }⟩
  ·simp at ho;subst ho;simp [OJ] at nU;have nX:=hI.not15 (i:=3) (by omega) hb;have hB:W0.heap.size<=wr.heap.size:=(hI.w0 nX).size;obtain ⟨⟨g,e7⟩,tM⟩:=hI.r1.a nU.1 hb;have rE:=tM;rw [e7] at rE;have q9:=hI.f2 nU.2;refine zS (by rfl) (.tmp 7) (.tmp 9) 50 (by rfl) 9 (str []) 1 16 PW Tryz.infoStr5 rfl (by decide) (.slice (some ⟨g,0,none⟩) 0 0) 0 [] e7 rE.1 (.slice ma n mc) n xs q9 ((HX.out.belowAll nN (my _)).belowAll (hI.w0 nX) (my _)) (by unfold maxLen;omega) (by omega) ?_;intro a' c' w' ho tw hg;rw [<- e7] at tw hg;simp only [Nat.zero_add,OB] at ho hg ⊢;exact hK _ _ ⟨t7,t8,t9,.slice a' n c',i5,ic,ig,ip,t15,iw,iS,i2,iy,t20,t21,uB tag wr.heap.size 1,rfl,{ f1:=hI.f1,f2:=hI.f2,f4:=hI.f4,f8:=hI.f8,f9:=hI.f9,f11:=hI.f11,f14:=hI.f14,g14:=hI.g14,g15:=fun h=>absurd h (by rw [show uU b 3 15=b 15 from rfl,nX];decide),r1:=hI.r1.stepC nU.1 hb (by decide) hB ho tw hg,r2:=hI.r2.but tw (fun k e=>by rw [(tM.2 k e).1];decide) 1,w0:=fun _=>(hI.w0 nX).trans (tw.toBelow hB fun k hk e=>by have:=(tM.2 k e).2;omega),w1:=fun h=>absurd h (by rw [show uU b 3 15=b 15 from rfl,nX];decide) }⟩
  ·simp at ho;subst ho;have nX:=hI.not15 (i:=4) (by omega) hb;have hB:W0.heap.size<=wr.heap.size:=(hI.w0 nX).size;go_simp;exact hK _ _ ⟨t7,t8,t9,iT,str s,ic,ig,ip,t15,iw,iS,i2,iy,t20,t21,tag,rfl,{ f1:=hI.f1,f2:=hI.f2,f4:=fun _=>rfl,f8:=hI.f8,f9:=hI.f9,f11:=hI.f11,f14:=hI.f14,g14:=hI.g14,g15:=fun h=>absurd h (by rw [show uU b 4 15=b 15 from rfl,nX];decide),r1:=hI.r1,r2:=hI.r2,w0:=fun _=>hI.w0 nX,w1:=fun h=>absurd h (by rw [show uU b 4 15=b 15 from rfl,nX];decide) }⟩
  ·simp at ho;subst ho;simp [OJ] at nU;have nX:=hI.not15 (i:=5) (by omega) hb;have hB:W0.heap.size<=wr.heap.size:=(hI.w0 nX).size;have Gz:=hI.f4 nU;go_simp;exact hK _ _ ⟨t7,t8,t9,iT,str s,.slice (some ⟨wr.heap.size,0,none⟩) 1 1,ig,ip,t15,iw,iS,i2,iy,t20,t21,uB tag wr.heap.size 2,rfl,{ f1:=hI.f1,f2:=hI.f2,f4:=fun _=>rfl,f8:=hI.f8,f9:=hI.f9,f11:=hI.f11,f14:=hI.f14,g14:=hI.g14,g15:=fun h=>absurd h (by rw [show uU b 5 15=b 15 from rfl,nX];decide),r1:=hI.r1.stepA' hB,r2:=hI.r2.alloc _ 2,w0:=fun _=>(hI.w0 nX).alloc hB _,w1:=fun h=>absurd h (by rw [show uU b 5 15=b 15 from rfl,nX];decide) }⟩
  ·simp at ho;subst ho;simp [OJ] at nU;have nX:=hI.not15 (i:=6) (by omega) hb;have hB:W0.heap.size<=wr.heap.size:=(hI.w0 nX).size;have tM:=hI.r1.c nU.1 hb;obtain ⟨⟨g,Np⟩,lW⟩:=hI.r1.a' nU.2.1 hb;rw [Np] at lW;refine zS (by rfl) (.tmp 10) (.tmp 12) 50 (by rfl) 9 (str []) 1 16 PW Tryz.infoStr5 rfl (by decide) iT n xs rfl tM.1 (.slice (some ⟨g,0,none⟩) 1 1) 1 [str s] Np (lW.1.src1 (by simp [Value.oneCell'])) (by unfold maxLen;omega) (by omega) ?_;intro a' c' w' ho tw hg;exact hK _ _ ⟨t7,t8,t9,iT,i5,ic,.slice a' (n+1) c',ip,t15,iw,iS,i2,iy,t20,t21,uB tag wr.heap.size 1,rfl,{ f1:=hI.f1,f2:=hI.f2,f4:=hI.f4,f8:=hI.f8,f9:=hI.f9,f11:=hI.f11,f14:=fun h=>absurd (hI.g14 h).1 (by rw [hb];decide),g14:=fun h=>⟨rfl,(hI.g14 h).2⟩,g15:=fun h=>absurd h (by rw [show uU b 6 15=b 15 from rfl,nX];decide),r1:=hI.r1.stepC' nU.1 hb hB ho hg,r2:=hI.r2.but tw (fun k e=>by rw [(tM.2 k e).1];decide) 1,w0:=fun _=>(hI.w0 nX).trans (tw.toBelow hB fun k hk e=>by have:=(tM.2 k e).2;omega),w1:=fun h=>absurd h (by rw [show uU b 6 15=b 15 from rfl,nX];decide) }⟩
  ·simp at ho;subst ho;have nX:=hI.not15 (i:=7) (by omega) hb;have hB:W0.heap.size<=wr.heap.size:=(hI.w0 nX).size;go_simp;exact hK _ _ ⟨t7,t8,t9,iT,i5,ic,ig,.slice (some ⟨wr.heap.size,0,none⟩) 0 0,t15,iw,iS,i2,iy,t20,t21,uB tag wr.heap.size 3,rfl,{ f1:=hI.f1,f2:=hI.f2,f4:=hI.f4,f8:=hI.f8,f9:=hI.f9,f11:=hI.f11,f14:=hI.f14,g14:=hI.g14,g15:=fun h=>absurd h (by rw [show uU b 7 15=b 15 from rfl,nX];decide),r1:=hI.r1.alloc _ 3,r2:=hI.r2.stepA hB,w0:=fun _=>(hI.w0 nX).alloc hB _,w1:=fun h=>absurd h (by rw [show uU b 7 15=b 15 from rfl,nX];decide) }⟩
  ·simp at ho;subst ho;have nX:=hI.not15 (i:=8) (by omega) hb;have hB:W0.heap.size<=wr.heap.size:=(hI.w0 nX).size;go_simp;exact hK _ _ ⟨t7,t8,t9,iT,i5,ic,ig,ip,.pointer (some ⟨w.heap.size,1,none⟩),iw,iS,i2,iy,t20,t21,tag,rfl,{ f1:=hI.f1,f2:=hI.f2,f4:=hI.f4,f8:=fun _=>rfl,f9:=hI.f9,f11:=hI.f11,f14:=hI.f14,g14:=hI.g14,g15:=fun h=>absurd h (by rw [show uU b 8 15=b 15 from rfl,nX];decide),r1:=hI.r1,r2:=hI.r2,w0:=fun _=>hI.w0 nX,w1:=fun h=>absurd h (by rw [show uU b 8 15=b 15 from rfl,nX];decide) }⟩
  ·simp at ho;subst ho;simp [OJ] at nU;have nX:=hI.not15 (i:=9) (by omega) hb;have hB:W0.heap.size<=wr.heap.size:=(hI.w0 nX).size;have q8:=hI.f8 nU;have q0:wr.cell? ⟨w.heap.size,1,none⟩=some (.slice pa m pc):=((hI.w0 nX).cell (p:=⟨w.heap.size,1,none⟩) (by rw [z0];show w.heap.size<_;omega)).trans c1;go_simp;exact hK _ _ ⟨t7,t8,t9,iT,i5,ic,ig,ip,.pointer (some ⟨w.heap.size,1,none⟩),.slice pa m pc,iS,i2,iy,t20,t21,tag,rfl,{ f1:=hI.f1,f2:=hI.f2,f4:=hI.f4,f8:=fun _=>rfl,f9:=fun _=>rfl,f11:=hI.f11,f14:=hI.f14,g14:=hI.g14,g15:=fun h=>absurd h (by rw [show uU b 9 15=b 15 from rfl,nX];decide),r1:=hI.r1,r2:=hI.r2,w0:=fun _=>hI.w0 nX,w1:=fun h=>absurd h (by rw [show uU b 9 15=b 15 from rfl,nX];decide) }⟩
  ·simp at ho;subst ho;simp [OJ] at nU;have nX:=hI.not15 (i:=10) (by omega) hb;have hB:W0.heap.size<=wr.heap.size:=(hI.w0 nX).size;obtain ⟨⟨g,e7⟩,tM⟩:=hI.r2.a nU.1 hb;have rE:=tM;rw [e7] at rE;have q9:=hI.f9 nU.2.1;refine zS (by rfl) (.tmp 14) (.tmp 16) 40 (by rfl) 42 (.agg #[.slice none 0 0]) 1 24 Ql Tryz.infoTree5 rfl (by decide) (.slice (some ⟨g,0,none⟩) 0 0) 0 [] e7 rE.1 (.slice pa m pc) m ys q9 ((HY.out.belowAll nN (my _)).belowAll (hI.w0 nX) (my _)) (by unfold maxLen;omega) (by omega) ?_;intro a' c' w' ho tw hg;rw [<- e7] at tw hg;simp only [Nat.zero_add,OB] at ho hg ⊢;exact hK _ _ ⟨t7,t8,t9,iT,i5,ic,ig,ip,t15,iw,.slice a' m c',i2,iy,t20,t21,uB tag wr.heap.size 3,rfl,{ f1:=hI.f1,f2:=hI.f2,f4:=hI.f4,f8:=hI.f8,f9:=hI.f9,f11:=hI.f11,f14:=hI.f14,g14:=hI.g14,g15:=fun h=>absurd h (by rw [show uU b 10 15=b 15 from rfl,nX];decide),r1:=hI.r1.but tw (fun k e=>by rw [(tM.2 k e).1];decide) 3,r2:=hI.r2.stepC nU.1 hb (by decide) hB ho tw hg,w0:=fun _=>(hI.w0 nX).trans (tw.toBelow hB fun k hk e=>by have:=(tM.2 k e).2;omega),w1:=fun h=>absurd h (by rw [show uU b 10 15=b 15 from rfl,nX];decide) }⟩
  ·simp at ho;subst ho;have nX:=hI.not15 (i:=11) (by omega) hb;have hB:W0.heap.size<=wr.heap.size:=(hI.w0 nX).size;have q0:wr.cell? ⟨w.heap.size+1,0,none⟩=some (.slice ta tn tc):=((hI.w0 nX).cell (p:=⟨w.heap.size+1,0,none⟩) (by rw [z0];show w.heap.size+1<_;omega)).trans c2;go_simp;exact hK _ _ ⟨t7,t8,t9,iT,i5,ic,ig,ip,t15,iw,iS,.agg #[.slice ta tn tc],iy,t20,t21,tag,rfl,{ f1:=hI.f1,f2:=hI.f2,f4:=hI.f4,f8:=hI.f8,f9:=hI.f9,f11:=fun _=>rfl,f14:=hI.f14,g14:=hI.g14,g15:=fun h=>absurd h (by rw [show uU b 11 15=b 15 from rfl,nX];decide),r1:=hI.r1,r2:=hI.r2,w0:=fun _=>hI.w0 nX,w1:=fun h=>absurd h (by rw [show uU b 11 15=b 15 from rfl,nX];decide) }⟩
  ·simp at ho;subst ho;simp [OJ] at nU;have nX:=hI.not15 (i:=12) (by omega) hb;have hB:W0.heap.size<=wr.heap.size:=(hI.w0 nX).size;have Gz:=hI.f11 nU;go_simp;exact hK _ _ ⟨t7,t8,t9,iT,i5,ic,ig,ip,t15,iw,iS,.agg #[.slice ta tn tc],.slice (some ⟨wr.heap.size,0,none⟩) 1 1,t20,t21,uB tag wr.heap.size 4,rfl,{ f1:=hI.f1,f2:=hI.f2,f4:=hI.f4,f8:=hI.f8,f9:=hI.f9,f11:=fun _=>rfl,f14:=hI.f14,g14:=hI.g14,g15:=fun h=>absurd h (by rw [show uU b 12 15=b 15 from rfl,nX];decide),r1:=hI.r1.alloc _ 4,r2:=hI.r2.stepA' hB,w0:=fun _=>(hI.w0 nX).alloc hB _,w1:=fun h=>absurd h (by rw [show uU b 12 15=b 15 from rfl,nX];decide) }⟩
  ·simp at ho;subst ho;simp [OJ] at nU;have nX:=hI.not15 (i:=13) (by omega) hb;have hB:W0.heap.size<=wr.heap.size:=(hI.w0 nX).size;have tM:=hI.r2.c nU.1 hb;obtain ⟨⟨g,Np⟩,lW⟩:=hI.r2.a' nU.2.1 hb;rw [Np] at lW;refine zS (by rfl) (.tmp 17) (.tmp 19) 40 (by rfl) 42 (.agg #[.slice none 0 0]) 1 24 Ql Tryz.infoTree5 rfl (by decide) iS m ys rfl tM.1 (.slice (some ⟨g,0,none⟩) 1 1) 1 [.slice ta tn tc] Np (lW.1.src1 (by simp [Value.oneCell'])) (by unfold maxLen;omega) (by omega) ?_;intro a' c' w' ho tw hg;exact hK _ _ ⟨t7,t8,t9,iT,i5,ic,ig,ip,t15,iw,iS,i2,iy,.slice a' (m+1) c',t21,uB tag wr.heap.size 3,rfl,{ f1:=hI.f1,f2:=hI.f2,f4:=hI.f4,f8:=hI.f8,f9:=hI.f9,f11:=hI.f11,f14:=fun h=>absurd (hI.g14 h).2 (by rw [hb];decide),g14:=fun h=>⟨(hI.g14 h).1,rfl⟩,g15:=fun h=>absurd h (by rw [show uU b 13 15=b 15 from rfl,nX];decide),r1:=hI.r1.but tw (fun k e=>by rw [(tM.2 k e).1];decide) 3,r2:=hI.r2.stepC' nU.1 hb hB ho hg,w0:=fun _=>(hI.w0 nX).trans (tw.toBelow hB fun k hk e=>by have:=(tM.2 k e).2;omega),w1:=fun h=>absurd h (by rw [show uU b 13 15=b 15 from rfl,nX];decide) }⟩
  ·simp at ho;subst ho;simp [OJ] at nU;have nX:=hI.not15 (i:=14) (by omega) hb;have hB:W0.heap.size<=wr.heap.size:=(hI.w0 nX).size;obtain ⟨DF,Fh,Nn⟩:=(hI.r1.c' nU.1).1.slice;obtain ⟨a20,Fg,Nl⟩:=(hI.r2.c' nU.2).1.slice;subst Nn;subst Nl;go_simp;exact hK _ _ ⟨t7,t8,t9,iT,i5,ic,.slice DF (n+1) Fh,ip,t15,iw,iS,i2,iy,.slice a20 (m+1) Fg,.agg #[.slice DF (n+1) Fh,.slice a20 (m+1) Fg],tag,rfl,{ f1:=hI.f1,f2:=hI.f2,f4:=hI.f4,f8:=hI.f8,f9:=hI.f9,f11:=hI.f11,f14:=fun _=>rfl,g14:=fun _=>⟨nU.1,nU.2⟩,g15:=fun h=>absurd h (by rw [show uU b 14 15=b 15 from rfl,nX];decide),r1:=hI.r1,r2:=hI.r2,w0:=fun _=>hI.w0 nX,w1:=fun h=>absurd h (by rw [show uU b 14 15=b 15 from rfl,nX];decide) }⟩
  ·simp at ho;subst ho;simp [OJ] at nU;obtain ⟨DF,Fh,Nn⟩:=(hI.r1.c' (hI.g14 nU.1).1).1.slice;have sx:∀ k,k<15->b k=true:=fun k hk=>by
    obtain ⟨p14,p0⟩:=nU;rcases (by omega:k=0\/k=1\/k=2\/k=3\/k=4\/k=5\/k=6\/k=7\/k=8\/k=9\/k=10\/k=11\/k=12\/k=13\/k=14) with rfl | rfl | rfl | rfl | rfl | rfl | rfl | rfl | rfl | rfl | rfl | rfl | rfl | rfl | rfl <;> simp [*]
   obtain ⟨a20,Fg,Nl⟩:=(hI.r2.c' (hI.g14 nU.1).2).1.slice;subst Nn;subst Nl;have q21:=hI.f14 nU.1;have mm:wr.heap[w.heap.size+1+1]? = some (.cells #[.slice none 0 0,.slice none 0 0] 52 (0,0)):=by rw [(hI.w0 hb).block _ (by omega)];exact h6
   obtain ⟨u0,u1,v0,v1⟩:=cells2 mm;have nV:=hI.w0 hb;have aG:=setc_at (o:=1) (u:=.slice a20 (m+1) Fg) (setc_at (o:=0) (u:=.slice DF (n+1) Fh) mm);go_simp;have tw:But (· = w.heap.size+1+1) wr ((wr.setCell ⟨w.heap.size+1+1,0,none⟩ (.slice DF (n+1) Fh)).setCell ⟨w.heap.size+1+1,1,none⟩ (.slice a20 (m+1) Fg)):=((But.refl (· = w.heap.size+1+1) wr).setCell (p:=⟨w.heap.size+1+1,0,none⟩) (.inl rfl) _).setCell (p:=⟨w.heap.size+1+1,1,none⟩) (.inl rfl) _;exact hK _ _ ⟨t7,t8,t9,iT,i5,ic,.slice DF (n+1) Fh,ip,t15,iw,iS,i2,iy,.slice a20 (m+1) Fg,.agg #[.slice DF (n+1) Fh,.slice a20 (m+1) Fg],tag,rfl,{ f1:=hI.f1,f2:=hI.f2,f4:=hI.f4,f8:=hI.f8,f9:=hI.f9,f11:=hI.f11,f14:=fun _=>rfl,g14:=hI.g14,g15:=fun _ k hk=>by rw [show uU b 15 k=b k from if_neg (by omega)];exact sx k hk,r1:=hI.r1.low tw (fun k e=>by omega),r2:=hI.r2.low tw (fun k e=>by omega),w0:=fun h=>Bool.noConfusion (show true=false from h),w1:=fun _=>⟨(But.ofBelow nV).trans tw,aG⟩ }⟩
  ·simp at ho
end Go.Proofs.YtpgiohmcggllgaaGreatDoor

/- Walks. -/
import Derived.RegionTactic
import Derived.Test.YtnfenijemllkbaaGreatDoorQ1
set_option linter.unusedVariables false
set_option linter.unusedSimpArgs false
set_option maxHeartbeats 4000000
open Option renaming none->U
open Option renaming some->OK
open Bool renaming true->OX
open Bool renaming false->RC
open Array renaming all_eq_true'->UP,getD_eq_getD_getElem?->Sb,getElem?_eq_getElem->Sh
open Go.Proofs.Tryz renaming prog->RG,underlying22->Ue,underlying45->Ud
open Go.Region renaming binds->Sw,ready->Se
open Go.World renaming cell?->RE,frozen?->RO
open List renaming all_eq_true->Uh,mem_filter->Ur,mem_range->Uv,nil_append->Ss
open Option renaming getD_some->SD,map_some->SR
namespace Go.Proofs.YtnfenijemllkbaaGreatDoor
open Go.RowKit
section
variable {P:Program} {ops:Array Oper} {Q:Exit->Act->World->Prop} {md:Region.Mode}
def uX (b:Nat->Bool)(i:Nat):Nat->Bool:=fun k=>if k=i then OX else b k
def gy (L:Array Bool):Nat->Bool:=fun k=>L.getD k RC
theorem lsOf_set (L:Array Bool)(i:Nat)(h:i<L.size):gy (L.setIfInBounds i OX)=uX (gy L) i:=by
 funext k;unfold gy uX;by_cases hk:k=i
 ·subst hk;rw[if_pos rfl];simp[h]
 ·rw[if_neg hk];simp only[Sb];rw[Array.getElem?_setIfInBounds_ne (fun e=>hk e.symm)]
def fZ (L:Array Bool):Nat:=(L.toList.filter fun x=>!x).length
theorem openOf_set (L:Array Bool)(i:Nat)(h:i<L.size)(hf:L.getD i OX=RC):fZ (L.setIfInBounds i OX)+1=fZ L:=by
 unfold fZ;rw[Array.toList_setIfInBounds];have key:∀(l:List Bool) (i:Nat),i<l.length->l.getD i OX=RC->((l.set i OX).filter fun x=>!x).length+1=(l.filter fun x=>!x).length:=by
  intro l
  induction l with
  |nil=>intro i h;simp at h
  | cons x l ih =>
    intro i h hf;cases i with
    |zero=>simp at hf;subst hf;simp
    | succ i =>
      have:=ih i (by simpa using h) (by simpa using hf);simp only[List.set_cons_succ,List.filter_cons];cases x <;> simp <;> omega
 refine key _ i (by simpa using h) ?_;simpa[Sb,List.getD_eq_getElem?_getD] using hf
theorem wpAny_inv {I:(Nat->Bool)->Act->World->Prop}(QK:∀(i:Nat) (o:Oper),ops[i]?=OK o->∀e∈o.after,e.on<i)(step:∀ (b:Nat->Bool) (a:Act) (w:World) (i:Nat) (o:Oper),ops[i]? = some o->b i=false->(∀ e∈o.after,Sw md e=true->b e.on=true)->I b a w ->
  ∀ K':Act->World->Prop,(∀ a w,I (uX b i) a w->K' a w)->if Region.wanted o (yielded ops a.tmps)=true then Oper.wp P o a w K' Q else K' (a.put o.dst undef) w)(done:∀(b:Nat->Bool) (a:Act) (w:World),(∀i,i<ops.size->b i=OX)->I b a w->Q .normal a w) :
 ∀(fuel:Nat) (L:Array Bool) (a:Act) (w:World),L.size=ops.size->fZ L<=fuel->I (gy L) a w->wpAny P md ops Q fuel L a w:=by
 have Mk:∀(L:Array Bool),L.size=ops.size->Se md ops L=[]->∀i,i<ops.size->gy L i=OX:=by
  intro L hL hr i
  induction i using Nat.strongRecOn with
  | _ i ih =>
    intro hi;cases hb:gy L i with
    |true=>rfl
    | false =>
      exfalso;have:i∈Se md ops L:=by
       unfold Se;rw[Ur];refine⟨Uv.2 hi,?_⟩;have ho:ops[i]?=OK ops[i]:=by simp[hi]
       rw[ho];have h1:L.getD i OX=RC:=by
        unfold gy at hb;have h2:L[i]?=OK L[i]:=by simp[hL,hi]
        simp only[Sb,h2,SD]at hb ⊢;exact hb
       simp only[h1,Bool.not_false,Bool.true_and,SR,SD];rw[UP];intro e he;rw[Bool.or_eq_true];right;exact ih e.on (QK i _ ho e he) (by have:=QK i _ ho e he;omega)
      rw[hr]at this;simp at this
 intro fuel
 induction fuel with
 | zero =>
   intro L a w hL hf hI;have ah:∀i,i<ops.size->gy L i=OX:=by
    intro i hi;cases hb:gy L i with
    |true=>rfl
    | false =>
      exfalso;have:fZ L=0:=by omega
      unfold fZ at this;rw[List.length_eq_zero_iff,List.filter_eq_nil_iff]at this;unfold gy at hb;have h2:L[i]?=OK L[i]:=by simp[hL,hi]
      simp only[Sb,h2,SD]at hb;have:=this L[i] (by simp);rw[hb]at this;simp at this
   rw[wpAny];refine⟨?_,done _ _ _ ah hI⟩;cases hr:Se md ops L with
   |nil=>rfl
   | cons i rs =>
     exfalso;have hm:i∈Se md ops L:=by rw[hr];simp
     unfold Se at hm;rw[Ur,Uv]at hm;obtain⟨hi,h2⟩:=hm;have:=ah i hi;unfold gy at this;have h3:L[i]?=OK L[i]:=by simp[hL,hi]
     simp only[Sb,h3,SD]at this h2;rw[this]at h2;simp at h2
 | succ fuel ih =>
   intro L a w hL hf hI;rw[wpAny];refine⟨fun hr=>done _ _ _ (Mk L hL hr) hI,fun i hi=>?_⟩;unfold Se at hi;rw[Ur,Uv]at hi;obtain⟨hi,h2⟩:=hi;have ho:ops[i]?=OK ops[i]:=by simp[hi]
   rw[ho]at h2;simp only[SR,SD,Bool.and_eq_true,Bool.not_eq_true']at h2;obtain⟨h3,h4⟩:=h2;rw[UP]at h4;have h5:gy L i=RC:=by
    unfold gy;have:L[i]?=OK L[i]:=by simp[hL,hi]
    simp only[Sb,this,SD] at *;exact h3
   refine wpOp_step ho fun K' hK=>?_;refine step (gy L) a w i ops[i] ho h5 (fun e he hb=>?_) hI K' fun a' w' h'=>hK a' w' (ih _ _ _ (by simpa using hL) (by have:=openOf_set L i (by omega) h3;omega) (by rw[lsOf_set L i (by omega)];exact h'));have:=h4 e he;rw[hb]at this;simpa[gy] using this
def acyB (ops:Array Oper):Bool:=(List.range ops.size).all fun i=>match ops[i]? with
 |some o=>o.after.toList.all fun e=>decide (e.on<i)
 |none=>OX
theorem acy_of (h:acyB ops=OX)(i:Nat)(o:Oper)(ho:ops[i]?=OK o)(e)(he:e∈o.after):e.on<i:=by
 have hi:i<ops.size:=(Array.getElem?_eq_some_iff.1 ho).1;unfold acyB at h;rw[Uh]at h;have:=h i (Uv.2 hi);rw[ho]at this;simp only[Uh]at this;have:=this e (by simpa using he);simpa using this
end
theorem zz.slice1 {size:Nat}{x:Value}{m:Nat}{news:List Value}{w:World}(h:zz size x m news w):∃a c,x=.slice a m c:=by
 obtain⟨_,_,⟨a,c,rfl,_⟩ | ⟨rfl,rfl⟩⟩:=h
 all_goals
  exact⟨_,_,rfl⟩
theorem setc_at {w:World}{b o:Nat}{c:Array Value}{e:TypeId}{u:Value}(h:w.heap[b]?=OK (.cells c e (0,0))):(w.setCell (b,o) u).heap[b]?=OK (.cells (c.setIfInBounds o u) e (0,0)):=by
 have sC:=zZ h;have h':w.heap[b]=.cells c e (0,0):=by simpa[Sh sC] using h
 show (w.heap.modify b _)[b]?=_;rw[Sh (by simpa using sC),Array.getElem_modify_self,h'];simp
theorem cells2 {w:World}{P:Nat}{u v:Value}{T:TypeId}(h:w.heap[P]?=OK (.cells #[u,v] T (0,0))):w P=u/\w (P,1)=v/\w.frozen? P=RC/\w.frozen? (P,1)=RC:=
 ⟨by simp[RE,h],by simp[RE,h],by simp[RO,h],by simp[RO,h]⟩
def Res (B:Nat)(tag:Nat->Nat)(t:Nat)(w:World)(e:TypeId)(v:Value)(n:Nat)(xs:List Value):Prop:=
 Own w e 1 v n xs/\∀g,v.ownBlock=OK g->tag g=t/\B<=g
def uE (tag:Nat->Nat)(g t:Nat):Nat->Nat:=fun i=>if i=g then t else tag i
theorem Res.alloc {B:Nat}{tag:Nat->Nat}{t:Nat}{w:World}{e:TypeId}{v:Value}{n:Nat}{xs:List Value}(h:Res B tag t w e v n xs)(o:Obj)(t':Nat):Res B (uE tag w t') t (w.alloc o) e v n xs:=
 ⟨h.1.alloc o,fun g hg=>⟨by have:=h.1.lt hg;unfold uE;rw[if_neg (by omega)];exact(h.2 g hg).1,(h.2 g hg).2⟩⟩
theorem Res.but {B:Nat}{tag:Nat->Nat}{t:Nat}{w w':World}{e:TypeId}{v:Value}{n:Nat}{xs:List Value}(h:Res B tag t w e v n xs){m:Nat->Prop}(hb:But m w w')(hm:∀g,m g->tag g≠t)(t':Nat):Res B (uE tag w t') t w' e v n xs:=
 ⟨h.1.keep fun g o hg ho=>by rw[hb.block g (zZ ho) (fun hmg=>hm g hmg (h.2 g hg).1)];exact ho,fun g hg=>⟨by have:=h.1.lt hg;unfold uE;rw[if_neg (by omega)];exact(h.2 g hg).1,(h.2 g hg).2⟩⟩
theorem Res.lit {B:Nat}(tag:Nat->Nat)(t:Nat){w:World}(hB:B<=w)(e:TypeId)(cs:Array Value)(n:Nat)(hm:n<=maxLen)(hs:cs.size=n):Res B (uE tag w t) t (w.alloc (.cells cs e)) e (.slice w n n) n cs.toList:=
 ⟨Own.lit cs n hm (by omega),fun g hg=>by
  simp[Value.ownBlock]at hg;subst hg
  exact ⟨by unfold uE;rw [if_pos rfl],hB⟩⟩
structure jC (B:Nat)(tag:Nat->Nat)(t1 t2:Nat)(e:TypeId)(n:Nat)(xs:List Value)(u:Value)(A C A' C':Bool)(vA vC vA' vC':Value)(w:World):Prop where
 a:A=OX->C=RC->(∃g,vA=.slice (OK ⟨g,0,U⟩) 0 0)/\Res B tag t1 w e vA 0 []
 c:C=OX->C'=RC->Res B tag t1 w e vC n xs
 a':A'=OX->C'=RC->(∃g,vA'=.slice (OK ⟨g,0,U⟩) 1 1)/\Res B tag t2 w e vA' 1 [u]
 c':C'=OX->Res B tag t1 w e vC' (n+1) (xs++[u])
 cl:C'=OX->C=OX
section
variable {B:Nat} {tag:Nat->Nat} {t1 t2:Nat} {e:TypeId} {n:Nat} {xs:List Value} {u:Value} {A C A' C':Bool} {vA vC vA' vC':Value} {w:World}
theorem jC.start (B:Nat)(tag:Nat->Nat)(t1 t2:Nat)(e:TypeId)(n:Nat)(xs:List Value)(u vA vC vA' vC':Value)(w:World):jC B tag t1 t2 e n xs u RC RC RC RC vA vC vA' vC' w:=
 ⟨fun h=>Bool.noConfusion h,fun h=>Bool.noConfusion h,fun h=>Bool.noConfusion h,fun h=>Bool.noConfusion h,fun h=>Bool.noConfusion h⟩
theorem jC.alloc (h:jC B tag t1 t2 e n xs u A C A' C' vA vC vA' vC' w)(o:Obj)(t':Nat):jC B (uE tag w t') t1 t2 e n xs u A C A' C' vA vC vA' vC' (w.alloc o):=
 ⟨fun h1 h2=>⟨(h.a h1 h2).1,(h.a h1 h2).2.alloc o t'⟩,fun h1 h2=>(h.c h1 h2).alloc o t',fun h1 h2=>⟨(h.a' h1 h2).1,(h.a' h1 h2).2.alloc o t'⟩,fun h1=>(h.c' h1).alloc o t',h.cl⟩
theorem jC.but (h:jC B tag t1 t2 e n xs u A C A' C' vA vC vA' vC' w){w':World}{m:Nat->Prop}(hb:But m w w')(hm:∀g,m g->tag g≠t1/\tag g≠t2)(t':Nat):jC B (uE tag w t') t1 t2 e n xs u A C A' C' vA vC vA' vC' w':=
 ⟨fun h1 h2=>⟨(h.a h1 h2).1,(h.a h1 h2).2.but hb (fun g k=>(hm g k).1) t'⟩,fun h1 h2=>(h.c h1 h2).but hb (fun g k=>(hm g k).1) t',fun h1 h2=>⟨(h.a' h1 h2).1,(h.a' h1 h2).2.but hb (fun g k=>(hm g k).2) t'⟩,fun h1=>(h.c' h1).but hb (fun g k=>(hm g k).1) t',h.cl⟩
theorem Res.low {t:Nat}{v:Value}{k:Nat}{ys:List Value}(h:Res B tag t w e v k ys){w':World}{m:Nat->Prop}(hb:But m w w')(hm:∀g,m g->g<B):Res B tag t w' e v k ys:=
 ⟨h.1.keep fun g o hg ho=>by rw[hb.block g (zZ ho) (fun hmg=>by have:=hm g hmg;have:=(h.2 g hg).2;omega)];exact ho,h.2⟩
theorem jC.low (h:jC B tag t1 t2 e n xs u A C A' C' vA vC vA' vC' w){w':World}{m:Nat->Prop}(hb:But m w w')(hm:∀g,m g->g<B):jC B tag t1 t2 e n xs u A C A' C' vA vC vA' vC' w':=
 ⟨fun h1 h2=>⟨(h.a h1 h2).1,(h.a h1 h2).2.low hb hm⟩,fun h1 h2=>(h.c h1 h2).low hb hm,fun h1 h2=>⟨(h.a' h1 h2).1,(h.a' h1 h2).2.low hb hm⟩,fun h1=>(h.c' h1).low hb hm,h.cl⟩
theorem jC.stepA (h:jC B tag t1 t2 e n xs u A C A' C' vA vC vA' vC' w)(hB:B<=w):jC B (uE tag w t1) t1 t2 e n xs u OX C A' C' (.slice w 0 0) vC vA' vC' (w.alloc (.cells #[] e)):=
 ⟨fun _ _=>⟨⟨_,rfl⟩,Res.lit tag t1 hB e #[] 0 (Nat.zero_le _) rfl⟩,fun h1 h2=>(h.c h1 h2).alloc _ _,fun h1 h2=>⟨(h.a' h1 h2).1,(h.a' h1 h2).2.alloc _ _⟩,fun h1=>(h.c' h1).alloc _ _,h.cl⟩
theorem jC.stepA' (h:jC B tag t1 t2 e n xs u A C A' C' vA vC vA' vC' w)(hB:B<=w):jC B (uE tag w t2) t1 t2 e n xs u A C OX C' vA vC (.slice w 1 1) vC' (w.alloc (.cells #[u] e)):=
 ⟨fun h1 h2=>⟨(h.a h1 h2).1,(h.a h1 h2).2.alloc _ _⟩,fun h1 h2=>(h.c h1 h2).alloc _ _,fun _ _=>⟨⟨_,rfl⟩,Res.lit tag t2 hB e #[u] 1 (by unfold maxLen;omega) rfl⟩,fun h1=>(h.c' h1).alloc _ _,h.cl⟩
theorem Res.app {t:Nat}{v v':Value}{k m:Nat}{ys zs:List Value}{w':World}(h:Res B tag t w e v k ys)(hB:B<=w)(ho:Own w' e 1 v' m zs)(hg:∀g,v'.ownBlock=OK g->v.ownBlock=OK g\/g=(w:Nat)):Res B (uE tag w t) t w' e v' m zs:=
 ⟨ho,fun g k=>by
  unfold uE;rcases hg g k with k|k
  ·have:=h.1.lt k;rw[if_neg (by omega)];exact h.2 g k
  ·rw [if_pos k];exact ⟨rfl,by omega⟩⟩
theorem jC.stepC (h:jC B tag t1 t2 e n xs u A C A' C' vA vC vA' vC' w)(hA:A=OX)(hC:C=RC)(ht:t1≠t2)(hB:B<=w){v':Value}{w':World}(ho:Own w' e 1 v' n xs)(hb:But (fun b=>vA.ownBlock=OK b) w w')(hg:∀g,v'.ownBlock=OK g->vA.ownBlock=OK g\/g=(w:Nat)) :
 jC B (uE tag w t1) t1 t2 e n xs u A OX A' C' vA v' vA' vC' w':=by
 have hC':C'=RC:=by
  cases C' with
  |false=>rfl
  |true=>have:=h.cl rfl;rw[hC]at this;exact this.symm
 subst hA;subst hC;subst hC'
 exact ⟨fun _ h2=>Bool.noConfusion h2,fun _ _=>(h.a rfl rfl).2.app hB ho hg,
  fun h1 h2=>⟨(h.a' h1 h2).1,(h.a' h1 h2).2.but hb (fun g k=>by rw [((h.a rfl rfl).2.2 g k).1];exact ht) t1⟩,fun h1=>Bool.noConfusion h1,fun h1=>Bool.noConfusion h1⟩
theorem jC.stepC' (h:jC B tag t1 t2 e n xs u A C A' C' vA vC vA' vC' w)(hC:C=OX)(hC':C'=RC)(hB:B<=w){v':Value}{w':World}(ho:Own w' e 1 v' (n+1) (xs++[u]))(hg:∀g,v'.ownBlock=OK g->vC.ownBlock=OK g\/g=(w:Nat)) :
 jC B (uE tag w t1) t1 t2 e n xs u A C A' OX vA vC vA' v' w':=by
 subst hC;subst hC';exact⟨fun _ h2=>Bool.noConfusion h2,fun _ h2=>Bool.noConfusion h2,fun _ h2=>Bool.noConfusion h2,fun _=>(h.c rfl rfl).app hB ho hg,fun _=>rfl⟩
end
theorem Own.src1 {w:World}{e:TypeId}{g:Nat}{u:Value}(h:Own w e 1 (.slice g 1 1) 1 [u])(hu:u.oneCell'=OX):zz 1 (.slice g 1 1) 1 [u] w:=by
 obtain⟨_,⟨h0,_⟩ | ⟨g',cap,cur,hv,_,hg,og,_,aP,lM⟩⟩:=h
 ·cases h0
 ·simp only[Value.slice.injEq,Option.some.injEq,Addr.mk.injEq]at hv;obtain⟨⟨rfl,_,_⟩,_,rfl⟩:=hv;refine⟨rfl,by simpa using hu,.inl ⟨_,_,rfl,fun j v hj=>?_⟩⟩;cases j with
  | zero =>
    simp at hj;subst hj;have h1:cur.toList[0]?=OK u:=by
     have:(cur.toList.take 1)[0]?=OK u:=by rw[lM];rfl
     rwa [List.getElem?_take,if_pos (by omega)]at this
    rw[show ((⟨g,0,U⟩:Addr).add 0)=⟨g,0,U⟩ from rfl];unfold RE;rw[hg];simpa using h1
  |succ j=>simp at hj
theorem Tryz.infoTree5:(RG.info? 47).map (fun i=>(i.zero,i.size,i.bytes))=OK (OK (.agg #[()]),1,24):=by kernel_rfl
theorem Tryz.infoStr5:(RG.info? 9).map (fun i=>(i.zero,i.size,i.bytes))=OK (OK (str []),1,16):=by kernel_rfl
def WithPost5 (n m:Nat)(xs ys:List Value)(s:Bs)(ta:Option Addr)(tn tc:Nat)(w:World)(en:Ending)(w':World):Prop:=
 ∃ a1 c1 a2 c2,en=.returned (.agg #[.slice a1 (n+1) c1,.slice a2 (m+1) c2])/\Below w w w'/\Own w' 9 1 (.slice a1 (n+1) c1) (n+1) (xs++[str s])/\Own w' 47 1 (.slice a2 (m+1) c2) (m+1) (ys++[.slice ta tn tc]) /\
   (∀g,(Value.slice a1 (n+1) c1).ownBlock=OK g->(w:Nat)<=g)/\(∀g,(Value.slice a2 (m+1) c2).ownBlock=OK g->(w:Nat)<=g)
structure WI5 (n m:Nat)(mv pt:Value)(xs ys:List Value)(s:Bs)(ta:Option Addr)(tn tc:Nat)(w W0:World)(b:Nat->Bool)(t7 t8 t9 Ai AV Az Ay Ax t15 Aw Ah AU Av Au AS:Value)(tag:Nat->Nat)(wr:World):Prop where
 f1:b 1=OX->t8=.pointer (OK ⟨w,0,U⟩)
 f2:b 2=OX->t9=mv
 f4:b 4=OX->AV=str s
 f8:b 8=OX->t15=.pointer (OK ⟨w,1,U⟩)
 f9:b 9=OX->Aw=pt
 f11:b 11=OX->AU=.agg #[.slice ta tn tc]
 f14:b 14=OX->AS=.agg #[Ay,Au]
 g14:b 14=OX->b 6=OX/\b 13=OX
 g15:b 15=OX->∀k,k<15->b k=OX
 r1:jC W0 tag 1 2 9 n xs (str s) (b 0) (b 3) (b 5) (b 6) t7 Ai Az Ay wr
 r2:jC W0 tag 3 4 47 m ys (.slice ta tn tc) (b 7) (b 10) (b 12) (b 13) Ax Ah Av Au wr
 w0:b 15=RC->No W0 wr
 w1:b 15=OX->But (· = (w:Nat)+1+1) W0 wr/\wr.heap[(w:Nat)+1+1]?=OK (.cells #[Ay,Au] 57 (0,0))
theorem WI5.not15 {n m:Nat}{mv pt:Value}{xs ys:List Value}{s:Bs}{ta:Option Addr}{tn tc:Nat}{w W0:World}{b:Nat->Bool}{t7 t8 t9 Ai AV Az Ay Ax t15 Aw Ah AU Av Au AS:Value}{tag:Nat->Nat}{wr:World}(h:WI5 n m mv pt xs ys s ta tn tc w W0 b t7 t8 t9 Ai AV Az Ay Ax t15 Aw Ah AU Av Au AS tag wr){i:Nat}(hi:i<15)(hb:b i=RC):b 15=RC:=by
 cases sT:b 15 with
 |false=>rfl
 |true=>have:=h.g15 sT i hi;rw[hb]at this;exact this.symm
def actW5 (mv pt:Value)(s:Bs)(ta:Option Addr)(tn tc:Nat)(B:Nat)(t7 t8 t9 Ai AV Az Ay Ax t15 Aw Ah AU Av Au AS:Value):Act:=
 { tmps:=#[.agg #[mv,pt],str s,.agg #[.slice ta tn tc],.pointer (OK ⟨B,0,U⟩),undef,.pointer (OK ⟨B+1,0,U⟩),.pointer (OK ⟨B+1+1,0,U⟩),t7,t8,t9,Ai,AV,Az,Ay,Ax,t15,Aw,Ah,AU,Av,Au,AS],defers:=[] }
def WIA5 (n m:Nat)(mv pt:Value)(xs ys:List Value)(s:Bs)(ta:Option Addr)(tn tc:Nat)(w W0:World)(b:Nat->Bool)(a:Act)(wr:World):Prop:=
 ∃t7 t8 t9 Ai AV Az Ay Ax t15 Aw Ah AU Av Au AS tag,a=actW5 mv pt s ta tn tc w t7 t8 t9 Ai AV Az Ay Ax t15 Aw Ah AU Av Au AS/\WI5 n m mv pt xs ys s ta tn tc w W0 b t7 t8 t9 Ai AV Az Ay Ax t15 Aw Ah AU Av Au AS tag wr
set_option maxRecDepth 100000 in
theorem l5With_any (n m:Nat)(mv pt:Value)(xs ys:List Value)(s:Bs)(ta:Option Addr)(tn tc:Nat)(w:World)(hx:zz 1 mv n xs w)(hy:zz 1 pt m ys w)(hn:n<=1000000)(hm:m<=1000000) :
 Calls RG 39 #[.agg #[mv,pt],s,.agg #[.slice ta tn tc]] w (WithPost5 n m xs ys s ta tn tc w):=by
 obtain⟨ma,mc,rfl⟩:=hx.slice1;obtain⟨pa,pc,rfl⟩:=hy.slice1;have HX:=r9 hx;have HY:=r9 hy;clear hx hy;go_enter Tryz.func39,Tryz.ntmps39;go_wp2_with fail
 rename_i K0 hK0;obtain⟨W0,tW⟩:=zzN (((w.alloc (.cells #[.slice ma n mc,.slice pa m pc] 57)).alloc (.cells #[.slice ta tn tc] 47)).alloc (.cells #[(),()] 57));rw[tW];have z0:(W0:Nat)=w+1+1+1:=by rw[<- tW];simp
 have s8:No w W0:=by rw[<- tW];exact(((sQ _ _).alloc (sZ _) _).alloc (by rw[zK];omega) _).alloc (by rw[zK,zK];omega) _
 have c0:W0 w=OK (.slice ma n mc):=by rw[<- tW];exact zV (zV (by simp))
 have c1:W0 (w,1)=OK (.slice pa m pc):=by rw[<- tW];exact zV (zV (by simp))
 have c2:W0 (w+1:Nat)=OK (.slice ta tn tc):=by
  rw[<- tW];have h:=zW (w.alloc (.cells #[.slice ma n mc,.slice pa m pc] 57)) (.cells #[.slice ta tn tc] 47);rw[zK]at h;exact zV (by simp only[RE,h];rfl)
 have h6:W0.heap[(w:Nat)+1+1]?=OK (.cells #[(),()] 57 (0,0)):=by rw[<- tW];have:=zW ((w.alloc (.cells #[.slice ma n mc,.slice pa m pc] 57)).alloc (.cells #[.slice ta tn tc] 47)) (.cells #[(),()] 57);rwa [zK,zK]at this
 clear tW;refine wp_region_any (by kernel_rfl) ?_;refine wpAny_inv (I:=WIA5 n m (.slice ma n mc) (.slice pa m pc) xs ys s ta tn tc w W0) ?acy ?step ?done _ _ _ _ rfl ?cnt ?start
 case cnt=>decide
 case acy=>exact acy_of (by kernel_rfl)
 case start=>
  refine⟨undef,undef,undef,undef,undef,undef,undef,undef,undef,undef,undef,undef,undef,undef,undef,fun _=>0,rfl,?_⟩;have hf:∀k,gy (Array.replicate 16 RC) k=RC:=fun k=>by
   unfold gy;rw[Sb,Array.getElem?_replicate];split <;> rfl
  have key:∀b:Nat->Bool,(∀k,b k=RC)->WI5 n m (.slice ma n mc) (.slice pa m pc) xs ys s ta tn tc w W0 b undef undef undef undef undef undef undef undef undef undef undef undef undef undef undef (fun _=>0) W0.drew:=by
   intro b hf;refine { f1:=fun h=>?_,f2:=fun h=>?_,f4:=fun h=>?_,f8:=fun h=>?_,f9:=fun h=>?_,f11:=fun h=>?_,f14:=fun h=>?_,g14:=fun h=>?_,g15:=fun h=>?_,r1:=?_,r2:=?_,w0:=fun _=>(sQ _ _).drew,w1:=fun h=>?_ }
   case refine_10=>rw[hf,hf,hf,hf];exact jC.start _ _ _ _ _ _ _ _ _ _ _ _ _
   case refine_11=>rw[hf,hf,hf,hf];exact jC.start _ _ _ _ _ _ _ _ _ _ _ _ _
   all_goals (rw[hf]at h;cases h)
  exact key _ hf
 case done=>
  rintro b a wr ah ⟨t7,t8,t9,Ai,AV,Az,Ay,Ax,t15,Aw,Ah,AU,Av,Au,AS,tag,rfl,hI⟩;obtain⟨ib,lC⟩:=hI.w1 (ah 15 (by decide));have R1:=hI.r1.c' (ah 6 (by decide));have R2:=hI.r2.c' (ah 13 (by decide));obtain⟨Jo,I4,Q7⟩:=R1.1.slice;obtain⟨Fv,I3,Q6⟩:=R2.1.slice;subst Q7;subst Q6;obtain⟨u0,u1,_,_⟩:=cells2 lC;refine hK0 _ _ ?_;clear hK0;unfold actW5;have HF:=r9 (r_ ib (r_ R1 R2));clear ib R1 R2 hI lC;go_wp2_with fail
  refine bodyPost_ret (v:=.agg #[.slice Jo (n+1) I4,.slice Fv (m+1) I3]) (by simp[results,Tryz.results39,go_sem,u0,u1]) rfl ?_;obtain⟨ib,R1,R2⟩:=HF.out;exact⟨Jo,I4,Fv,I3,rfl,s8.trans (ib.toBelow (by omega) fun i hi e=>by omega),R1.1,R2.1,fun g hg=>by have:=(R1.2 g hg).2;omega,fun g hg=>by have:=(R2.2 g hg).2;omega⟩
 case step=>
  rintro b a wr i o ho hb sR ⟨t7,t8,t9,Ai,AV,Az,Ay,Ax,t15,Aw,Ah,AU,Av,Au,AS,tag,rfl,hI⟩ K' hK;unfold actW5 at *;rcases i with _|_|_|_|_|_|_|_|_|_|_|_|_|_|_|_|i
  ·simp at ho;subst ho;have sT:=hI.not15 (i:=0) (by omega) hb;have hB:(W0:Nat)<=wr:=(hI.w0 sT).size;go_simp;exact hK _ _ ⟨.slice wr 0 0,t8,t9,Ai,AV,Az,Ay,Ax,t15,Aw,Ah,AU,Av,Au,AS,uE tag wr 1,rfl,{ f1:=hI.f1,f2:=hI.f2,f4:=hI.f4,f8:=hI.f8,f9:=hI.f9,f11:=hI.f11,f14:=hI.f14,g14:=hI.g14,g15:=fun h=>absurd h (by rw[show uX b 0 15=b 15 from rfl,sT];decide),r1:=hI.r1.stepA hB,r2:=hI.r2.alloc _ 1,w0:=fun _=>(hI.w0 sT).alloc hB _,w1:=fun h=>absurd h (by rw[show uX b 0 15=b 15 from rfl,sT];decide) }⟩
  ·simp at ho;subst ho;have sT:=hI.not15 (i:=1) (by omega) hb;have hB:(W0:Nat)<=wr:=(hI.w0 sT).size;go_simp;exact hK _ _ ⟨t7,w,t9,Ai,AV,Az,Ay,Ax,t15,Aw,Ah,AU,Av,Au,AS,tag,rfl,{ f1:=fun _=>rfl,f2:=hI.f2,f4:=hI.f4,f8:=hI.f8,f9:=hI.f9,f11:=hI.f11,f14:=hI.f14,g14:=hI.g14,g15:=fun h=>absurd h (by rw[show uX b 1 15=b 15 from rfl,sT];decide),r1:=hI.r1,r2:=hI.r2,w0:=fun _=>hI.w0 sT,w1:=fun h=>absurd h (by rw[show uX b 1 15=b 15 from rfl,sT];decide) }⟩
  ·simp at ho;subst ho;simp[Sw]at sR;have sT:=hI.not15 (i:=2) (by omega) hb;have hB:(W0:Nat)<=wr:=(hI.w0 sT).size;have q8:=hI.f1 sR;have q0:wr w=OK (.slice ma n mc):=((hI.w0 sT).cell (p:=w) (by rw[z0];show (w:Nat)<_;omega)).trans c0;go_simp;exact hK _ _ ⟨t7,w,.slice ma n mc,Ai,AV,Az,Ay,Ax,t15,Aw,Ah,AU,Av,Au,AS,tag,rfl,{ f1:=fun _=>rfl,f2:=fun _=>rfl,f4:=hI.f4,f8:=hI.f8,f9:=hI.f9,f11:=hI.f11,f14:=hI.f14,g14:=hI.g14,g15:=fun h=>absurd h (by rw[show uX b 2 15=b 15 from rfl,sT];decide),r1:=hI.r1,r2:=hI.r2,w0:=fun _=>hI.w0 sT,w1:=fun h=>absurd h (by rw[show uX b 2 15=b 15 from rfl,sT];decide) }⟩
  ·simp at ho;subst ho;simp[Sw]at sR;have sT:=hI.not15 (i:=3) (by omega) hb;have hB:(W0:Nat)<=wr:=(hI.w0 sT).size;obtain⟨⟨g,e7⟩,lQ⟩:=hI.r1.a sR.1 hb;have aY:=lQ;rw[e7]at aY;have q9:=hI.f2 sR.2;refine zL (by rfl) (.tmp 7) (.tmp 9) 22 (by rfl) 9 (str []) 1 16 Ue Tryz.infoStr5 rfl (by decide) (.slice g 0 0) 0 [] e7 aY.1 (.slice ma n mc) n xs q9 ((HX.out.belowAll s8 (sZ _)).belowAll (hI.w0 sT) (sZ _)) (by unfold maxLen;omega) (by omega) ?_;intro a' c' w' ho ib hg;rw[<- e7]at ib hg;simp only[Nat.zero_add,Ss]at ho hg ⊢;exact hK _ _ ⟨t7,t8,t9,.slice a' n c',AV,Az,Ay,Ax,t15,Aw,Ah,AU,Av,Au,AS,uE tag wr 1,rfl,{ f1:=hI.f1,f2:=hI.f2,f4:=hI.f4,f8:=hI.f8,f9:=hI.f9,f11:=hI.f11,f14:=hI.f14,g14:=hI.g14,g15:=fun h=>absurd h (by rw[show uX b 3 15=b 15 from rfl,sT];decide),r1:=hI.r1.stepC sR.1 hb (by decide) hB ho ib hg,r2:=hI.r2.but ib (fun k e=>by rw[(lQ.2 k e).1];decide) 1,w0:=fun _=>(hI.w0 sT).trans (ib.toBelow hB fun k hk e=>by have:=(lQ.2 k e).2;omega),w1:=fun h=>absurd h (by rw[show uX b 3 15=b 15 from rfl,sT];decide) }⟩
  ·simp at ho;subst ho;have sT:=hI.not15 (i:=4) (by omega) hb;have hB:(W0:Nat)<=wr:=(hI.w0 sT).size;go_simp;exact hK _ _ ⟨t7,t8,t9,Ai,s,Az,Ay,Ax,t15,Aw,Ah,AU,Av,Au,AS,tag,rfl,{ f1:=hI.f1,f2:=hI.f2,f4:=fun _=>rfl,f8:=hI.f8,f9:=hI.f9,f11:=hI.f11,f14:=hI.f14,g14:=hI.g14,g15:=fun h=>absurd h (by rw[show uX b 4 15=b 15 from rfl,sT];decide),r1:=hI.r1,r2:=hI.r2,w0:=fun _=>hI.w0 sT,w1:=fun h=>absurd h (by rw[show uX b 4 15=b 15 from rfl,sT];decide) }⟩
  ·simp at ho;subst ho;simp[Sw]at sR;have sT:=hI.not15 (i:=5) (by omega) hb;have hB:(W0:Nat)<=wr:=(hI.w0 sT).size;have LU:=hI.f4 sR;go_simp;exact hK _ _ ⟨t7,t8,t9,Ai,s,.slice wr 1 1,Ay,Ax,t15,Aw,Ah,AU,Av,Au,AS,uE tag wr 2,rfl,{ f1:=hI.f1,f2:=hI.f2,f4:=fun _=>rfl,f8:=hI.f8,f9:=hI.f9,f11:=hI.f11,f14:=hI.f14,g14:=hI.g14,g15:=fun h=>absurd h (by rw[show uX b 5 15=b 15 from rfl,sT];decide),r1:=hI.r1.stepA' hB,r2:=hI.r2.alloc _ 2,w0:=fun _=>(hI.w0 sT).alloc hB _,w1:=fun h=>absurd h (by rw[show uX b 5 15=b 15 from rfl,sT];decide) }⟩
  ·simp at ho;subst ho;simp[Sw]at sR;have sT:=hI.not15 (i:=6) (by omega) hb;have hB:(W0:Nat)<=wr:=(hI.w0 sT).size;have lQ:=hI.r1.c sR.1 hb;obtain⟨⟨g,Q8⟩,Bh⟩:=hI.r1.a' sR.2.1 hb;rw[Q8]at Bh;refine zL (by rfl) (.tmp 10) (.tmp 12) 22 (by rfl) 9 (str []) 1 16 Ue Tryz.infoStr5 rfl (by decide) Ai n xs rfl lQ.1 (.slice g 1 1) 1 [s] Q8 (Bh.1.src1 (by simp[Value.oneCell'])) (by unfold maxLen;omega) (by omega) ?_;intro a' c' w' ho ib hg;exact hK _ _ ⟨t7,t8,t9,Ai,AV,Az,.slice a' (n+1) c',Ax,t15,Aw,Ah,AU,Av,Au,AS,uE tag wr 1,rfl,{ f1:=hI.f1,f2:=hI.f2,f4:=hI.f4,f8:=hI.f8,f9:=hI.f9,f11:=hI.f11,f14:=fun h=>absurd (hI.g14 h).1 (by rw[hb];decide),g14:=fun h=>⟨rfl,(hI.g14 h).2⟩,g15:=fun h=>absurd h (by rw[show uX b 6 15=b 15 from rfl,sT];decide),r1:=hI.r1.stepC' sR.1 hb hB ho hg,r2:=hI.r2.but ib (fun k e=>by rw[(lQ.2 k e).1];decide) 1,w0:=fun _=>(hI.w0 sT).trans (ib.toBelow hB fun k hk e=>by have:=(lQ.2 k e).2;omega),w1:=fun h=>absurd h (by rw[show uX b 6 15=b 15 from rfl,sT];decide) }⟩
  ·simp at ho;subst ho;have sT:=hI.not15 (i:=7) (by omega) hb;have hB:(W0:Nat)<=wr:=(hI.w0 sT).size;go_simp;exact hK _ _ ⟨t7,t8,t9,Ai,AV,Az,Ay,.slice wr 0 0,t15,Aw,Ah,AU,Av,Au,AS,uE tag wr 3,rfl,{ f1:=hI.f1,f2:=hI.f2,f4:=hI.f4,f8:=hI.f8,f9:=hI.f9,f11:=hI.f11,f14:=hI.f14,g14:=hI.g14,g15:=fun h=>absurd h (by rw[show uX b 7 15=b 15 from rfl,sT];decide),r1:=hI.r1.alloc _ 3,r2:=hI.r2.stepA hB,w0:=fun _=>(hI.w0 sT).alloc hB _,w1:=fun h=>absurd h (by rw[show uX b 7 15=b 15 from rfl,sT];decide) }⟩
  ·simp at ho;subst ho;have sT:=hI.not15 (i:=8) (by omega) hb;have hB:(W0:Nat)<=wr:=(hI.w0 sT).size;go_simp;exact hK _ _ ⟨t7,t8,t9,Ai,AV,Az,Ay,Ax,.pointer (OK ⟨w,1,U⟩),Aw,Ah,AU,Av,Au,AS,tag,rfl,{ f1:=hI.f1,f2:=hI.f2,f4:=hI.f4,f8:=fun _=>rfl,f9:=hI.f9,f11:=hI.f11,f14:=hI.f14,g14:=hI.g14,g15:=fun h=>absurd h (by rw[show uX b 8 15=b 15 from rfl,sT];decide),r1:=hI.r1,r2:=hI.r2,w0:=fun _=>hI.w0 sT,w1:=fun h=>absurd h (by rw[show uX b 8 15=b 15 from rfl,sT];decide) }⟩
  ·simp at ho;subst ho;simp[Sw]at sR;have sT:=hI.not15 (i:=9) (by omega) hb;have hB:(W0:Nat)<=wr:=(hI.w0 sT).size;have q8:=hI.f8 sR;have q0:wr (w,1)=OK (.slice pa m pc):=((hI.w0 sT).cell (p:=⟨w,1,U⟩) (by rw[z0];show (w:Nat)<_;omega)).trans c1;go_simp;exact hK _ _ ⟨t7,t8,t9,Ai,AV,Az,Ay,Ax,.pointer (OK ⟨w,1,U⟩),.slice pa m pc,Ah,AU,Av,Au,AS,tag,rfl,{ f1:=hI.f1,f2:=hI.f2,f4:=hI.f4,f8:=fun _=>rfl,f9:=fun _=>rfl,f11:=hI.f11,f14:=hI.f14,g14:=hI.g14,g15:=fun h=>absurd h (by rw[show uX b 9 15=b 15 from rfl,sT];decide),r1:=hI.r1,r2:=hI.r2,w0:=fun _=>hI.w0 sT,w1:=fun h=>absurd h (by rw[show uX b 9 15=b 15 from rfl,sT];decide) }⟩
  ·simp at ho;subst ho;simp[Sw]at sR;have sT:=hI.not15 (i:=10) (by omega) hb;have hB:(W0:Nat)<=wr:=(hI.w0 sT).size;obtain⟨⟨g,e7⟩,lQ⟩:=hI.r2.a sR.1 hb;have aY:=lQ;rw[e7]at aY;have q9:=hI.f9 sR.2.1;refine zL (by rfl) (.tmp 14) (.tmp 16) 45 (by rfl) 47 (.agg #[()]) 1 24 Ud Tryz.infoTree5 rfl (by decide) (.slice g 0 0) 0 [] e7 aY.1 (.slice pa m pc) m ys q9 ((HY.out.belowAll s8 (sZ _)).belowAll (hI.w0 sT) (sZ _)) (by unfold maxLen;omega) (by omega) ?_;intro a' c' w' ho ib hg;rw[<- e7]at ib hg;simp only[Nat.zero_add,Ss]at ho hg ⊢;exact hK _ _ ⟨t7,t8,t9,Ai,AV,Az,Ay,Ax,t15,Aw,.slice a' m c',AU,Av,Au,AS,uE tag wr 3,rfl,{ f1:=hI.f1,f2:=hI.f2,f4:=hI.f4,f8:=hI.f8,f9:=hI.f9,f11:=hI.f11,f14:=hI.f14,g14:=hI.g14,g15:=fun h=>absurd h (by rw[show uX b 10 15=b 15 from rfl,sT];decide),r1:=hI.r1.but ib (fun k e=>by rw[(lQ.2 k e).1];decide) 3,r2:=hI.r2.stepC sR.1 hb (by decide) hB ho ib hg,w0:=fun _=>(hI.w0 sT).trans (ib.toBelow hB fun k hk e=>by have:=(lQ.2 k e).2;omega),w1:=fun h=>absurd h (by rw[show uX b 10 15=b 15 from rfl,sT];decide) }⟩
  ·simp at ho;subst ho;have sT:=hI.not15 (i:=11) (by omega) hb;have hB:(W0:Nat)<=wr:=(hI.w0 sT).size;have q0:wr (w+1:Nat)=OK (.slice ta tn tc):=((hI.w0 sT).cell (p:=(w+1:Nat)) (by rw[z0];show (w:Nat)+1<_;omega)).trans c2;go_simp;exact hK _ _ ⟨t7,t8,t9,Ai,AV,Az,Ay,Ax,t15,Aw,Ah,.agg #[.slice ta tn tc],Av,Au,AS,tag,rfl,{ f1:=hI.f1,f2:=hI.f2,f4:=hI.f4,f8:=hI.f8,f9:=hI.f9,f11:=fun _=>rfl,f14:=hI.f14,g14:=hI.g14,g15:=fun h=>absurd h (by rw[show uX b 11 15=b 15 from rfl,sT];decide),r1:=hI.r1,r2:=hI.r2,w0:=fun _=>hI.w0 sT,w1:=fun h=>absurd h (by rw[show uX b 11 15=b 15 from rfl,sT];decide) }⟩
  ·simp at ho;subst ho;simp[Sw]at sR;have sT:=hI.not15 (i:=12) (by omega) hb;have hB:(W0:Nat)<=wr:=(hI.w0 sT).size;have LU:=hI.f11 sR;go_simp;exact hK _ _ ⟨t7,t8,t9,Ai,AV,Az,Ay,Ax,t15,Aw,Ah,.agg #[.slice ta tn tc],.slice wr 1 1,Au,AS,uE tag wr 4,rfl,{ f1:=hI.f1,f2:=hI.f2,f4:=hI.f4,f8:=hI.f8,f9:=hI.f9,f11:=fun _=>rfl,f14:=hI.f14,g14:=hI.g14,g15:=fun h=>absurd h (by rw[show uX b 12 15=b 15 from rfl,sT];decide),r1:=hI.r1.alloc _ 4,r2:=hI.r2.stepA' hB,w0:=fun _=>(hI.w0 sT).alloc hB _,w1:=fun h=>absurd h (by rw[show uX b 12 15=b 15 from rfl,sT];decide) }⟩
  ·simp at ho;subst ho;simp[Sw]at sR;have sT:=hI.not15 (i:=13) (by omega) hb;have hB:(W0:Nat)<=wr:=(hI.w0 sT).size;have lQ:=hI.r2.c sR.1 hb;obtain⟨⟨g,Q8⟩,Bh⟩:=hI.r2.a' sR.2.1 hb;rw[Q8]at Bh;refine zL (by rfl) (.tmp 17) (.tmp 19) 45 (by rfl) 47 (.agg #[()]) 1 24 Ud Tryz.infoTree5 rfl (by decide) Ah m ys rfl lQ.1 (.slice g 1 1) 1 [.slice ta tn tc] Q8 (Bh.1.src1 (by simp[Value.oneCell'])) (by unfold maxLen;omega) (by omega) ?_;intro a' c' w' ho ib hg;exact hK _ _ ⟨t7,t8,t9,Ai,AV,Az,Ay,Ax,t15,Aw,Ah,AU,Av,.slice a' (m+1) c',AS,uE tag wr 3,rfl,{ f1:=hI.f1,f2:=hI.f2,f4:=hI.f4,f8:=hI.f8,f9:=hI.f9,f11:=hI.f11,f14:=fun h=>absurd (hI.g14 h).2 (by rw[hb];decide),g14:=fun h=>⟨(hI.g14 h).1,rfl⟩,g15:=fun h=>absurd h (by rw[show uX b 13 15=b 15 from rfl,sT];decide),r1:=hI.r1.but ib (fun k e=>by rw[(lQ.2 k e).1];decide) 3,r2:=hI.r2.stepC' sR.1 hb hB ho hg,w0:=fun _=>(hI.w0 sT).trans (ib.toBelow hB fun k hk e=>by have:=(lQ.2 k e).2;omega),w1:=fun h=>absurd h (by rw[show uX b 13 15=b 15 from rfl,sT];decide) }⟩
  ·simp at ho;subst ho;simp[Sw]at sR;have sT:=hI.not15 (i:=14) (by omega) hb;have hB:(W0:Nat)<=wr:=(hI.w0 sT).size;obtain⟨Jo,I4,Q7⟩:=(hI.r1.c' sR.1).1.slice;obtain⟨Fv,I3,Q6⟩:=(hI.r2.c' sR.2).1.slice;subst Q7;subst Q6;go_simp;exact hK _ _ ⟨t7,t8,t9,Ai,AV,Az,.slice Jo (n+1) I4,Ax,t15,Aw,Ah,AU,Av,.slice Fv (m+1) I3,.agg #[.slice Jo (n+1) I4,.slice Fv (m+1) I3],tag,rfl,{ f1:=hI.f1,f2:=hI.f2,f4:=hI.f4,f8:=hI.f8,f9:=hI.f9,f11:=hI.f11,f14:=fun _=>rfl,g14:=fun _=>⟨sR.1,sR.2⟩,g15:=fun h=>absurd h (by rw[show uX b 14 15=b 15 from rfl,sT];decide),r1:=hI.r1,r2:=hI.r2,w0:=fun _=>hI.w0 sT,w1:=fun h=>absurd h (by rw[show uX b 14 15=b 15 from rfl,sT];decide) }⟩
  ·simp at ho;subst ho;simp[Sw]at sR;obtain⟨Jo,I4,Q7⟩:=(hI.r1.c' (hI.g14 sR.1).1).1.slice;have ah:∀k,k<15->b k=OX:=fun k hk=>by
    obtain⟨p14,p0⟩:=sR;rcases(by omega:k=0\/k=1\/k=2\/k=3\/k=4\/k=5\/k=6\/k=7\/k=8\/k=9\/k=10\/k=11\/k=12\/k=13\/k=14) with rfl|rfl|rfl|rfl|rfl|rfl|rfl|rfl|rfl|rfl|rfl|rfl|rfl|rfl|rfl <;> simp[*]
   obtain⟨Fv,I3,Q6⟩:=(hI.r2.c' (hI.g14 sR.1).2).1.slice;subst Q7;subst Q6;have q21:=hI.f14 sR.1;have sW:wr.heap[(w:Nat)+1+1]?=OK (.cells #[(),()] 57 (0,0)):=by rw[(hI.w0 hb).block _ (by omega)];exact h6
   obtain⟨u0,u1,v0,v1⟩:=cells2 sW;have sF:=hI.w0 hb;have lC:=setc_at (o:=1) (u:=.slice Fv (m+1) I3) (setc_at (o:=0) (u:=.slice Jo (n+1) I4) sW);go_simp;have ib:But (· = (w:Nat)+1+1) wr ((wr.setCell (w+1+1:Nat) (.slice Jo (n+1) I4)).setCell ((w:Nat)+1+1,1) (.slice Fv (m+1) I3)):=((But.refl (· = (w:Nat)+1+1) wr).setCell (p:=(w+1+1:Nat)) (.inl rfl) _).setCell (p:=⟨w+1+1,1,U⟩) (.inl rfl) _;exact hK _ _ ⟨t7,t8,t9,Ai,AV,Az,.slice Jo (n+1) I4,Ax,t15,Aw,Ah,AU,Av,.slice Fv (m+1) I3,.agg #[.slice Jo (n+1) I4,.slice Fv (m+1) I3],tag,rfl,{ f1:=hI.f1,f2:=hI.f2,f4:=hI.f4,f8:=hI.f8,f9:=hI.f9,f11:=hI.f11,f14:=fun _=>rfl,g14:=hI.g14,g15:=fun _ k hk=>by rw[show uX b 15 k=b k from if_neg (by omega)];exact ah k hk,r1:=hI.r1.low ib (fun k e=>by omega),r2:=hI.r2.low ib (fun k e=>by omega),w0:=fun h=>Bool.noConfusion (show OX=RC from h),w1:=fun _=>⟨(But.ofBelow sF).trans ib,lC⟩ }⟩
  ·simp at ho
end Go.Proofs.YtnfenijemllkbaaGreatDoor

/- Walks. -/
import Derived.Laws.DeepNot64
import Derived.Deep.RegionLaw
import Derived.Test.YtdhaafoiokkbnabGreatDoorQ15
set_option linter.unusedVariables false
set_option linter.unusedSimpArgs false
set_option maxHeartbeats 8000000
set_option maxRecDepth 100000
open Go.Proofs.YtdhaafoiokkbnabGreatDoor renaming owns->Qx
open Go.Proofs.YtdhaafoiokkbnabGreatDoor renaming opens->Qy
open Array renaming getElem?_eq_getElem->O0
open Go.IntKind renaming bits->R4,i64->Pa,max->UR,min->UQ,signed->RK,wrap->SM
open Go.Proofs.Tryz renaming func11->Un,func56->Uo,ntmps11->TQ,ntmps56->TR,prog->No,results14->Tc,underlying50->Qu
open Go.Value renaming slice->Ox
open Go.World renaming cell?->Li,frozen?->OC,setCell->Qi
open List renaming cons_append->ON,eq_nil_of_length_eq_zero->OQ,getElem?_append_left->OJ,getElem?_append_right->OF,getElem?_cons_succ->OE,getElem?_eq_getElem->PH,getElem?_eq_some_iff->OB,getElem?_map->Pt,length_append->Ov,length_cons->OD,length_map->RX,map_append->QF,map_cons->OU,mem_cons->OX,mem_of_getElem?->OI,nil_append->OW,not_mem_nil->PR,range->Uw
open Nat renaming add_assoc->Q6,add_sub_cancel_left->PA,add_zero->SI,le_succ->Pu,lt_or_ge->PT,mod_lt->QR,ne_of_lt->RM,zero_add->PW
open Option renaming bind_eq_bind->Ow,bind_some->Lx,isSome_none->PF,isSome_some->Pk,map_some->Py
open Option.some renaming inj->OM,injEq->Oz
namespace Go.Proofs.YtdhaafoiokkbnabGreatDoor
open Go.RowKit
def clOf (s:Bs):Option (Tm×Ty):=(qC s).bind fun t=>(typeOf [] t).map fun k=>(t,k)
def ClPost (w:World) (o:Option (Tm×Ty)) (en:Ending) (w':World):Prop :=
 ∃ (s1:Bs) (a:Option Addr) (n c:Nat) (ka:Option Addr) (kn kc:Nat),en=.returned (.tuple #[.agg #[str s1,.slice a n c],.agg #[.slice ka kn kc],.bool o.isSome])/\Below w.heap.size w w' /\
   ∀ t k,o=some (t,k)->(xG t/\z8 t=true/\zS t<=60/\typeOf [] t=some k/\kn=k.args.length)/\zW (w.heap.size<=·) w' (vY (kK t)) [str s1,.slice a n c]/\Rep (w.heap.size<=·) w' (k9 k) (.slice ka kn kc)
theorem clOf_none {s:Bs} (h:qg s=none):clOf s=none:=by
 rw [term_eq] at h;unfold clOf;cases hq:qC s with
 | none=>rfl
 | some t =>
   rw [hq] at h;simp only [Lx] at h ⊢;cases hk:typeOf [] t with
   | none=>rfl
   | some k=>rw [xJ t [] k hk] at h;simp at h
theorem clOf_some {s:Bs} {tr:Tr} (h:qg s=some tr):∃ t,tr=kK t/\xG t/\zS t<=60/\z8 t=true/\clOf s=if (zo [] t).2=true then some (t,(zo [] t).1) else none:=by
 obtain ⟨t,e,rfl,ho,h6,hs⟩:=cU h;refine ⟨t,e,ho,h6,hs,?_⟩;unfold clOf;rw [cG ho h6,Lx,yH t [] hs];split <;> rfl
theorem mW {w:World} {g1 g2:Nat} {x0 x1 x2:Value} {TA TB:TypeId} (h1:w.heap[g1]? = some (.cells #[x0,x1] TA (0,0))) (h2:w.heap[g2]? = some (.cells #[x2] TB (0,0))) (hne:g1≠g2) (u0 u1 u2:Value) :
 ∃ W,W=(((w.setCell ⟨g1,0,none⟩ u0).setCell ⟨g1,1,none⟩ u1).setCell ⟨g2,0,none⟩ u2)/\W.cell? ⟨g1,0,none⟩=some u0/\W.cell? ⟨g1,1,none⟩=some u1/\W.cell? ⟨g2,0,none⟩=some u2 /\
   (∀ B w0,Below B w0 w->B<=g1->B<=g2->Below B w0 W)/\(∀ i x,i≠g1->i≠g2->w.heap[i]? = some x->W.heap[i]? = some x):=by
 have iZ:((w.setCell ⟨g1,0,none⟩ u0).setCell ⟨g1,1,none⟩ u1).heap[g2]? = some (.cells #[x2] TB (0,0)):=by
  rw [rK _ _ _ _ (by simpa using Ne.symm hne),rK _ _ _ _ (by simpa using Ne.symm hne)];exact h2
 have Fr:(((w.setCell ⟨g1,0,none⟩ u0).setCell ⟨g1,1,none⟩ u1).setCell ⟨g2,0,none⟩ u2).heap[g2]? = some (.cells #[u2] TB (0,0)):=by rw [zy iZ];rfl
 have aH:(((w.setCell ⟨g1,0,none⟩ u0).setCell ⟨g1,1,none⟩ u1).setCell ⟨g2,0,none⟩ u2).heap[g1]? = some (.cells #[u0,u1] TA (0,0)):=by
  rw [rK _ _ _ _ (by simpa using hne),zy (zy h1)];rfl
 refine ⟨_,rfl,by simp only [Li,aH];rfl,by simp only [Li,aH];rfl,by simp only [Li,Fr];rfl,fun B w0 hb hB hB2=>?_,fun i x hi KC hx=>?_⟩
 ·exact ((hb.setCell (p:=⟨g1,0,none⟩) hB _).setCell (p:=⟨g1,1,none⟩) hB _).setCell (p:=⟨g2,0,none⟩) hB2 _
 ·rw [rK _ _ _ _ (by simpa using KC),rK _ _ _ _ (by simpa using hi),rK _ _ _ _ (by simpa using hi)];exact hx
theorem xg {w:World} {g c:Nat} {x:Obj} (h:w.heap[g]? = some x) (hg:g≠c) (u0 u1:Value):((w.setCell ⟨c,0,none⟩ u0).setCell ⟨c,1,none⟩ u1).heap[g]? = some x:=by
 rw [rK _ _ _ _ (by simpa using hg),rK _ _ _ _ (by simpa using hg)];exact h
theorem bj {w:World} {g c:Nat} {x:Obj} (h:w.heap[g]? = some x) (hg:g≠c) (u0:Value):(w.setCell ⟨c,0,none⟩ u0).heap[g]? = some x:=by
 rw [rK _ _ _ _ (by simpa using hg)];exact h
theorem boxes2 (w:World) (A B:Obj):Below w.heap.size w ((w.alloc A).alloc B)/\((w.alloc A).alloc B).heap.size=w.heap.size+1+1/\((w.alloc A).alloc B).heap[w.heap.size]? = some A/\((w.alloc A).alloc B).heap[w.heap.size+1]? = some B:=by
 refine ⟨((rZ _ _).alloc (n9 _) _).alloc (by rw [zK];omega) _,by rw [zK,zK],zY (zG _ _),?_⟩;have h:=zG (w.alloc A) B;rwa [zK] at h
theorem l5Closed_any (s:Bs) (w:World) (hs:Lim s.length):Calls No 14 #[str s] w (ClPost w (clOf s)):=by
 obtain ⟨W0,sV⟩:=zzM ((w.alloc (.cells #[str [],.slice none 0 0] 39)).alloc (.cells #[.slice none 0 0] 42));obtain ⟨ru,z0,bA,bB⟩:=boxes2 w (.cells #[str [],.slice none 0 0] 39) (.cells #[.slice none 0 0] 42);rw [<- sV] at ru z0 bA bB;have C0:=n7 (l5Term_any s hs W0);have H0:=n7 (n8 ru (n8 z0 (n8 bA bB)));clear hs ru z0 bA bB;go_enter Tryz.func14,Tryz.ntmps14;go_wp2_with fail
 rw [<- sV];clear sV;(with_reducible refine C0.out.mono ?_);rintro en w1 ⟨s5,a5,n5,c5,rfl,rW,tX⟩;obtain ⟨W1,KM⟩:=zzM (w1.alloc (.cells #[str s5,.slice a5 n5 c5] 39));obtain ⟨g1,Hy⟩:=zzM (w1.heap.size);have z1:=rW.size;have Ay:Below W0.heap.size W0 W1:=by rw [KM];exact rW.alloc rW.size _
 have zW1:W1.heap.size=g1+1:=by rw [KM,zK,Hy]
 have b1:W1.heap[g1]? = some (.cells #[str s5,.slice a5 n5 c5] 39 (0,0)):=by rw [KM,Hy];exact zG _ _
 have q1:w.heap.size+1<g1:=by have:=H0.out.2.1;omega
 have bA1:W1.heap[w.heap.size]? = some (.cells #[str [],.slice none 0 0] 39 (0,0)):=(Ay.block _ (zZ H0.out.2.2.1)).trans H0.out.2.2.1;have bB1:W1.heap[w.heap.size+1]? = some (.cells #[.slice none 0 0] 42 (0,0)):=(Ay.block _ (zZ H0.out.2.2.2)).trans H0.out.2.2.2;have Gu:∀ t,qg s=some t->zW (fun i=>W0.heap.size<=i/\i≠g1) W1 (vY t) [str s5,.slice a5 n5 c5]:=fun t ht=>by
  refine (Rep.keep fun i x hi hx=>⟨⟨hi,fun e'=>?_⟩,?_⟩).2 _ _ (tX t ht).2
  ·rw [KM];exact zY hx
  ·have:=zZ hx;omega
 have N7:w1.heap[w.heap.size]? = some (.cells #[str [],.slice none 0 0] 39 (0,0)):=(rW.block _ (zZ H0.out.2.2.1)).trans H0.out.2.2.1;have bB0:w1.heap[w.heap.size+1]? = some (.cells #[.slice none 0 0] 42 (0,0)):=(rW.block _ (zZ H0.out.2.2.2)).trans H0.out.2.2.2;have rA0:w1.cell? ⟨w.heap.size,0,none⟩=some (str []):=by simp [Li,N7]
 have rA1:w1.cell? ⟨w.heap.size,1,none⟩=some (.slice none 0 0):=by simp [Li,N7]
 have rB0:w1.cell? ⟨w.heap.size+1,0,none⟩=some (.slice none 0 0):=by simp [Li,bB0]
 have fA0:w1.frozen? ⟨w.heap.size,0,none⟩=false:=by simp [OC,N7]
 have fA1:w1.frozen? ⟨w.heap.size,1,none⟩=false:=by simp [OC,N7]
 have fB0:w1.frozen? ⟨w.heap.size+1,0,none⟩=false:=by simp [OC,bB0]
 have Ih:(w1.alloc (.cells #[str s5,.slice a5 n5 c5] 39)).frozen? ⟨w.heap.size,0,none⟩=false:=(frozen?_alloc_cells _ _ _ _).trans fA0;have NQ:(w1.alloc (.cells #[str s5,.slice a5 n5 c5] 39)).frozen? ⟨w.heap.size,1,none⟩=false:=(frozen?_alloc_cells _ _ _ _).trans fA1;have KW:(w1.alloc (.cells #[str s5,.slice a5 n5 c5] 39)).frozen? ⟨w.heap.size+1,0,none⟩=false:=(frozen?_alloc_cells _ _ _ _).trans fB0;have iA0:(w1.alloc (.cells #[str s5,.slice a5 n5 c5] 39)).cell? ⟨w.heap.size,0,none⟩=some (str []):=zV rA0;have iA1:(w1.alloc (.cells #[str s5,.slice a5 n5 c5] 39)).cell? ⟨w.heap.size,1,none⟩=some (.slice none 0 0):=zV rA1;have iB0:(w1.alloc (.cells #[str s5,.slice a5 n5 c5] 39)).cell? ⟨w.heap.size+1,0,none⟩=some (.slice none 0 0):=zV rB0;have iD:=n7 (n8 Ay (n8 zW1 (n8 b1 (n8 q1 (n8 bA1 (n8 bB1 Gu))))));have HG1:=n7 Hy;have HQ1:=n7 KM;clear rW tX z1 Ay zW1 b1 q1 bA1 bB1 N7 bB0 Gu C0 Hy KM;cases ht:qg s with
 | none =>
   have HC:=n7 (clOf_none ht);clear ht;simp only [PF];go_wp2_with fail
   rw [<- HQ1.out,<- HG1.out];obtain ⟨W,hW,s0,s1,s2,rF,ri⟩:=mW iD.out.2.2.2.2.1 iD.out.2.2.2.2.2.1 (by omega) (str s5) (.slice a5 n5 c5) (.slice none 0 0);rw [<- hW];refine bodyPost_ret (v:=.tuple #[.agg #[str s5,.slice a5 n5 c5],.agg #[.slice none 0 0],.bool false]) (by simp [results,Tc,go_sem,s0,s1,s2]) rfl ?_;rw [HC.out];exact ⟨_,_,_,_,_,_,_,rfl,rF _ _ (zzT H0.out.1 iD.out.1) (n9 _) (Pu _),fun t k h=>by simp at h⟩
 | some tr =>
   obtain ⟨t,rfl,rj,i7,tG,B5⟩:=clOf_some ht;have sM:=iD.out.2.2.2.2.2.2 _ ht;have CK:=n7 (cj 100 (fun i=>W0.heap.size<=i/\i<W1.heap.size/\i≠g1) t [] (.slice none 0 0) (.slice none 0 0) _ _ W1 (by omega) ⟨fun i h=>h.2.1,(Rep.keep fun i x hi hx=>⟨⟨hi.1,zZ hx,hi.2⟩,hx⟩).2 _ _ sM,zh.2 ⟨rfl,none,0,rfl,n9 _,fun _=>rfl,.inl rfl⟩,zh.2 ⟨by simp [kinds,qI],none,0,rfl,n9 _,fun _=>rfl,.inl rfl⟩,rj,tG,(fun p h=>by simp at h),(fun a h=>by simp [kinds] at h),by simp;omega⟩);have HC:=n7 (n8 rj (n8 tG (n8 i7 (n8 B5 (n8 sM (@yg t [] tG))))));obtain ⟨k,q,hkq⟩:∃ k q,zo [] t=(k,q):=⟨_,_,rfl⟩;rw [hkq] at CK HC;clear ht rj i7 tG B5 sM hkq;simp only [Pk];go_wp2_with fail
   rw [<- HQ1.out,<- HG1.out];clear HQ1 HG1;(with_reducible refine CK.out.mono ?_);rintro en w2 ⟨ka,kc,rfl,rY,tx⟩;obtain ⟨W2,sC⟩:=zzM (w2.alloc (.cells #[.slice ka k.args.length kc] 42));obtain ⟨g2,DD⟩:=zzM (w2.heap.size);have z2:=rY.size;have zz1:=iD.out.2.1;have qq1:=iD.out.2.2.2.1;have Ax:Below W1.heap.size W1 W2:=by rw [sC];exact rY.alloc rY.size _
   have Aw:Below w.heap.size w W2:=(zzT H0.out.1 iD.out.1).trans (Ax.mono (zzT H0.out.1 iD.out.1).size);have b2:W2.heap[g2]? = some (.cells #[.slice ka k.args.length kc] 42 (0,0)):=by rw [sC,DD];exact zG _ _
   have b1':W2.heap[g1]? = some (.cells #[str s5,.slice a5 n5 c5] 39 (0,0)):=(Ax.block _ (zZ iD.out.2.2.1)).trans iD.out.2.2.1;have KZ:W2.heap[w.heap.size]? = some (.cells #[str [],.slice none 0 0] 39 (0,0)):=(Ax.block _ (zZ iD.out.2.2.2.2.1)).trans iD.out.2.2.2.2.1;have bB2:W2.heap[w.heap.size+1]? = some (.cells #[.slice none 0 0] 42 (0,0)):=(Ax.block _ (zZ iD.out.2.2.2.2.2.1)).trans iD.out.2.2.2.2.2.1;have z0':=H0.out.2.1;have LP:zW (fun i=>w.heap.size+1<i) W2 (vY (kK t)) [str s5,.slice a5 n5 c5]:=(zW.below (F':=fun i=>W0.heap.size<=i/\i≠g1) Ax (fun _ h=>h) HC.out.2.2.2.2.1).weakS fun i h=>by have:=h.1;omega
   have DY:Rep (fun i=>w.heap.size+1<i) W2 (k9 k) (.slice ka k.args.length kc):=(Rep.keep fun i x hi hx=>⟨(by rcases hi with h | h;have:=h.1;omega;omega),by rw [sC];exact zY hx⟩).1 _ _ tx;have lX:=n7 (n8 Aw (n8 b2 (n8 b1' (n8 KZ (n8 bB2 (n8 LP DY))))));have qA0:W2.cell? ⟨w.heap.size,0,none⟩=some (str []):=by simp [Li,KZ]
   have qA1:W2.cell? ⟨w.heap.size,1,none⟩=some (.slice none 0 0):=by simp [Li,KZ]
   have qB0:W2.cell? ⟨w.heap.size+1,0,none⟩=some (.slice none 0 0):=by simp [Li,bB2]
   have eA0:W2.frozen? ⟨w.heap.size,0,none⟩=false:=by simp [OC,KZ]
   have eA1:W2.frozen? ⟨w.heap.size,1,none⟩=false:=by simp [OC,KZ]
   have eB0:W2.frozen? ⟨w.heap.size+1,0,none⟩=false:=by simp [OC,bB2]
   have FT:g1≠w.heap.size:=by omega
   have lZ:g1≠w.heap.size+1:=by omega
   have il:g2≠w.heap.size:=by omega
   have ne5:g2≠w.heap.size+1:=by omega
   clear rY tx z2 Ax Aw b2 b1' KZ bB2 LP DY CK rA0 rA1 rB0 fA0 fA1 fB0 Ih NQ KW iA0 iA1 iB0 qq1 zz1 z0';go_wp2_with fail
   rw [<- sC,<- DD];clear sC DD;refine wp_region_noPanic ?_;refine zB (fun w'=>w'.heap[g1]? = some (.cells #[str s5,.slice a5 n5 c5] 39 (0,0))/\w'.heap[g2]? = some (.cells #[.slice ka k.args.length kc] 42 (0,0))) (fun _=>false) (by kernel_rfl) ?_;have rU:(fun w'=>w'.heap[g1]? = some (.cells #[str s5,.slice a5 n5 c5] 39 (0,0))/\w'.heap[g2]? = some (.cells #[.slice ka k.args.length kc] 42 (0,0))) W2.drew:=⟨lX.out.2.2.1,lX.out.2.1⟩;refine tk [0] rU ?_;(intro d hd;simp [tkD] at hd;subst hd;simp only [tks,pQ,pZ,pS]);(refine ⟨?_,?_,?_⟩;rotate_left;· (intro oi ho;simp at ho;subst ho;refine Or.inl ⟨by rfl,fun w' rB=>?_⟩;have e0:w'.cell? ⟨g1,0,none⟩=some (str s5):=(by simp [Li,rB.1]);have e1:w'.cell? ⟨g1,1,none⟩=some (.slice a5 n5 c5):=(by simp [Li,rB.1]);go_simp;try with_reducible rfl));refine tk [1,2] rU ?_;(intro d hd;simp [tkD] at hd;subst hd;simp only [tks,pQ,pZ,pS]);iterate 2 (refine ⟨?_,?_,?_⟩;rotate_left;· (intro oi ho;simp at ho;subst ho;refine Or.inl ⟨by rfl,fun w' rB=>?_⟩;have e0:w'.cell? ⟨g2,0,none⟩=some (.slice ka k.args.length kc):=(by simp [Li,rB.2]);go_simp;try with_reducible rfl))
   (refine on 3 ?_;intro o ho K' hK;simp at ho;subst ho;go_simp);(refine hK.out _ _ (fun _=>⟨xg rU.1 FT _ _,xg rU.2 il _ _⟩) ?_;clear hK K';try simp only [pQ,pN,pZ,pS]);(refine on 4 ?_;intro o ho K' hK;simp at ho;subst ho;go_simp);(refine hK.out _ _ (fun _=>⟨bj (xg rU.1 FT _ _) lZ _,bj (xg rU.2 il _ _) ne5 _⟩) ?_;clear hK K';try simp only [pQ,pN,pZ,pS]);(refine on 5 ?_;intro o ho K' hK;simp at ho;subst ho;go_simp);(refine hK.out _ _ (fun _=>⟨bj (xg rU.1 FT _ _) lZ _,bj (xg rU.2 il _ _) ne5 _⟩) ?_;clear hK K';try simp only [pQ,pN,pZ,pS]);refine zX (by kernel_rfl) (NoPanic.normal ?_) _
   go_wp2_with fail
   obtain ⟨W,hW,s0,s1,s2,rF,ri⟩:=@mW W2 _ _ _ _ _ _ _ lX.out.2.2.2.1 lX.out.2.2.2.2.1 (by omega) (str s5) (.slice a5 n5 c5) (.slice ka k.args.length kc);rw [<- hW];refine bodyPost_ret (v:=.tuple #[.agg #[str s5,.slice a5 n5 c5],.agg #[.slice ka k.args.length kc],.bool q]) (by simp [results,Tc,go_sem,s0,s1,s2]) rfl ?_;have hq:q=(clOf s).isSome:=by rw [HC.out.2.2.2.1];cases q <;> rfl
   rw [hq];refine ⟨_,_,_,_,_,_,_,rfl,Below.drew (rF _ _ lX.out.1 (n9 _) (Nat.le_add_right _ _)),fun t' k' h=>?_⟩;have h':=HC.out.2.2.2.1;rw [h] at h';cases Jg:q with
   | false=>rw [Jg] at h';simp at h'
   | true =>
     rw [Jg] at h';simp only [if_true,Oz,Prod.mk.injEq] at h';obtain ⟨rfl,rfl⟩:=h';have KP:∀ i x,w.heap.size+1<i->W2.heap[i]? = some x->w.heap.size<=i/\W.drew.heap[i]? = some x:=fun i x hi hx=>⟨by omega,ri i x (by omega) (by omega) hx⟩;exact ⟨⟨HC.out.1,HC.out.2.1,HC.out.2.2.1,HC.out.2.2.2.2.2 Jg,rfl⟩,(Rep.keep KP).2 _ _ lX.out.2.2.2.2.2.1,(Rep.keep KP).1 _ _ lX.out.2.2.2.2.2.2⟩
def eX (s:Bs):Option Bs:=(jy s).map fun x=>kC x.2
theorem strat_cl (s:Bs):eX s=(clOf s).bind fun x=>wrOf x.2 (zT [] x.1):=by
 unfold eX jy clOf wrOf;cases hq:qC s with
 | none=>rfl
 | some t =>
   obtain ⟨_,ho,_⟩:=jh hq;simp only [Lx];cases hk:typeOf [] t with
   | none=>rfl
   | some k =>
     simp only [Lx,Py];cases hb:zT [] t with
     | none=>rfl
     | some b =>
       simp only [Lx,Py];rw [yY (gS ho hk hb)];rfl
theorem gV (s:Bs) (w:World) (hs:Lim s.length):Calls No 6 #[str s] w (TxtPost (eX s) w):=by
 have C0:=n7 (l5Closed_any s w hs);clear hs;go_enter Tryz.func6,Tryz.ntmps6;go_wp2_with fail
 (with_reducible refine C0.out.mono ?_);rintro en w1 ⟨s5,a5,n5,c5,ka,kn,kc,rfl,rW,hy⟩
 obtain ⟨W,hW⟩:=zzM ((w1.alloc (.cells #[str s5,.slice a5 n5 c5] 39)).alloc (.cells #[.slice ka kn kc] 42));have Ay:Below w1.heap.size w1 W:=by rw [hW];exact ((rZ _ _).alloc (n9 _) _).alloc (by rw [zK];omega) _
 have rF:=zzT rW Ay;have HSC:=n7 (strat_cl s);cases hc:clOf s with
 | none =>
   have HK:=n7 (show eX s=none by rw [HSC.out,hc];rfl);have HB:=n7 rF;have HW:=n7 hW;clear hc hy rW Ay rF hW C0 HSC;simp only [PF];go_wp2_with fail
   rw [<- HW.out]
   go_ret2
   exact ⟨by rw [HK.out];rfl,HB.out⟩
 | some x =>
   obtain ⟨t,k⟩:=x;obtain ⟨⟨ho,tG,i7,hk,rfl⟩,sM,sT⟩:=hy t k hc;have rR:=qW t [] k (by simp [kinds]) hk;have HK:=n7 (show eX s=wrOf k (zT [] t) by rw [HSC.out,hc];rfl);have LO:=zW.below (F':=(w.heap.size<=·)) Ay (fun _ h=>h) sM;have LW:=Rep.below (F':=(w.heap.size<=·)) Ay (fun _ h=>h) sT;have CO:=n7 (l5Of_any 60 (fun i=>w.heap.size<=i/\i<W.heap.size) t [] k (.slice none 0 0) (.slice none 0 0) _ _ W i7 ⟨fun i h=>h.2,(Rep.keep fun i x hi hx=>⟨⟨hi,zZ hx⟩,hx⟩).2 _ _ LO,zh.2 ⟨rfl,none,0,rfl,n9 _,fun _=>rfl,.inl rfl⟩,zh.2 ⟨by simp [kinds,qI],none,0,rfl,n9 _,fun _=>rfl,.inl rfl⟩,ho,tG,(fun p h=>by simp at h),(fun a h=>by simp [kinds] at h),by simp;omega⟩ hk);have HG:=n7 (n8 rR (n8 LW fun b (hb:zT [] t=some b)=>gS ho hk hb));have bt:W.cell? ⟨w1.heap.size+1,0,none⟩=some (.slice ka k.args.length kc):=by rw [hW];simp
   have HB:=n7 rF;have HW:=n7 hW;obtain ⟨o,Dz⟩:=zzN (zT [] t);rw [Dz] at CO HG HK;clear hc hy rW Ay rF hW C0 ho tG i7 hk sM sT rR LO LW Dz HSC;simp only [Pk];go_wp2_with fail
   rw [<- HW.out];(with_reducible refine CO.out.mono ?_);rintro en w2 ⟨ss,vv,aa,an,ac,ba,bn,bc,rfl,rY,tx⟩;have bt2:w2.cell? ⟨w1.heap.size+1,0,none⟩=some (.slice ka k.args.length kc):=(rY.cell (n_ _ _ bt)).trans bt;have bt3:(w2.alloc (.cells #[str ss,.int .i64 vv,.slice aa an ac,.slice ba bn bc] 47)).cell? ⟨w1.heap.size+1,0,none⟩=some (.slice ka k.args.length kc):=zV bt2;obtain ⟨W2,sC⟩:=zzM (w2.alloc (.cells #[str ss,.int .i64 vv,.slice aa an ac,.slice ba bn bc] 47));have Ax:Below W.heap.size W W2:=by rw [sC];exact rY.alloc rY.size _
   have CW:=n7 (l4Written_any (w.heap.size<=·) k o (.slice ka k.args.length kc) ss vv aa an ac ba bn bc W2 HG.out.1 (Rep.below Ax (fun _ h=>h) HG.out.2.1) (fun x hx=>⟨(Rep.keep fun i u hi hu=>⟨(by
    rcases hi with h | h
    ·exact h.1
    ·have:=HB.out.size;omega),by rw [sC];exact zY hu⟩).2 _ _ (tx x hx),(by have:=(HG.out.2.2 x hx).size;omega),fit_lvR 200 x k.args (HG.out.2.2 x hx).size (HG.out.2.2 x hx).fit (kQ HG.out.1).1 (by have:=(kQ HG.out.1).2;omega)⟩))
   have rh:=n7 (zzT HB.out Ax);have lX:=n7 sC;clear rY tx bt CO Ax sC HG HB;go_wp2_with fail
   rw [<- lX.out];(with_reducible refine CW.out.mono ?_);rintro en w3 ⟨rfl,rE⟩;have aZ:=n7 (zzT rh.out rE);clear rE CW bt2 bt3;rw [<- HK.out];go_wp2_with fail
   go_ret2
   exact ⟨rfl,aZ.out⟩
theorem i64_xor_nat (a b:Nat) (ha:a<9223372036854775808) (hb:b<9223372036854775808):bits .xor .i64 (a:Int) (b:Int)=((a ^^^ b:Nat):Int):=by
 have hx:a ^^^ b<2 ^ 63:=Nat.xor_lt_two_pow (by omega) (by omega);show Pa.wrap ((BitVec.ofInt 64 (a:Int) ^^^ BitVec.ofInt 64 (b:Int)).toNat:Int)=_;rw [BitVec.toNat_xor,ofInt_u64 a (by omega),ofInt_u64 b (by omega)];generalize a ^^^ b=x at *;simp [SM,R4,RK];omega
def jN (w:World) (rd P:Nat):Prop :=
 ∃ (a:Option Addr) (n c p:Nat),w.heap[rd]? = some (.cells #[.slice a n c,.int .i64 (p:Nat)] 63 (0,0))/\p<=P/\n<=2000 /\
   (n=0\/∃ b o,a=some ⟨b,o,none⟩/\b<rd/\∀ k,k<n->∃ x:Nat,x<256/\w.cell? ⟨b,o+k,none⟩=some (.int .u8 x))
theorem jN.lt {w:World} {rd P:Nat} (h:jN w rd P):rd<w.heap.size:=by
 obtain ⟨a,n,c,p,h1,_⟩:=h;exact zZ h1
theorem jN.mono {w:World} {rd P Q:Nat} (h:jN w rd P) (k:P<=Q):jN w rd Q:=by
 obtain ⟨a,n,c,p,h1,h2,h3⟩:=h;exact ⟨a,n,c,p,h1,rJ h2 k,h3⟩
theorem jN.below {w w':World} {rd P:Nat} (h:jN w rd P) (hb:Below w.heap.size w w'):jN w' rd P:=by
 obtain ⟨a,n,c,p,h1,h2,h3,h4⟩:=h;refine ⟨a,n,c,p,(hb.block _ (zZ h1)).trans h1,h2,h3,?_⟩;rcases h4 with h4 | ⟨b,o,e,hne,hk⟩
 ·exact .inl h4
 ·refine .inr ⟨b,o,e,hne,fun k D_=>?_⟩;obtain ⟨x,hx,hc⟩:=hk k D_;exact ⟨x,hx,(hb.cell (n_ w _ hc)).trans hc⟩
theorem jN.but {m:Nat->Prop} {w w':World} {rd P:Nat} (h:jN w rd P) (hb:But m w w') (hm:∀ i,i<=rd->¬ m i):jN w' rd P:=by
 obtain ⟨a,n,c,p,h1,h2,h3,h4⟩:=h;refine ⟨a,n,c,p,(hb.block _ (zZ h1) (hm _ (n9 _))).trans h1,h2,h3,?_⟩;rcases h4 with h4 | ⟨b,o,e,hne,hk⟩
 ·exact .inl h4
 ·refine .inr ⟨b,o,e,hne,fun k D_=>?_⟩;obtain ⟨x,hx,hc⟩:=hk k D_;exact ⟨x,hx,(hb.cell (n_ w _ hc) (hm _ (Nat.le_of_lt hne))).trans hc⟩
theorem jN.drew {w:World} {rd P:Nat} (h:jN w rd P):jN w.drew rd P:=h
theorem jN.drewN {w:World} {rd P:Nat} (h:jN w rd P) (n:Nat):jN (w.drewN n) rd P:=h
theorem jN.alloc {w:World} {rd P:Nat} (h:jN w rd P) (o:Obj):jN (w.alloc o) rd P:=h.below ((rZ _ _).alloc (n9 _) _)
theorem pw {m:Nat->Prop} {a w:World} (h:But m a w) (n:Nat):But m a (w.drewN n):=⟨h.os,h.tape,h.output,h.size,h.block⟩
def Picked (rd P n:Nat) (w:World) (en:Ending) (w':World):Prop :=
 ∃ v:Nat,en=.returned (.int .i64 (v:Nat))/\v<n/\But (· = rd) w w'/\jN w' rd (P+1)
theorem xq {z:Int} {n:Nat} (e:z=(n:Int)) (h:n<9223372036854775808):Pa.wrap z=(n:Int):=by rw [e];exact p_ n h
structure Mix (p m x1 x2 n:Nat) (I A B C J D E G H Q R X Y Z V:Nat):Prop where
 i:(p:Int).tmod (m:Int)=(I:Int)
 a:Pa.wrap ((x1:Int)*131)=(A:Int)
 b:Pa.wrap ((p:Int)*7)=(B:Int)
 c:Pa.wrap ((B:Int)+3)=(C:Int)
 j:(C:Int).tmod (m:Int)=(J:Int)
 d:Pa.wrap ((x2:Int)*1117)=(D:Int)
 e:Pa.wrap ((A:Int)+(D:Int))=(E:Int)
 g:Pa.wrap ((p:Int)*29)=(G:Int)
 h:Pa.wrap ((E:Int)+(G:Int))=(H:Int)
 q:(p:Int).tdiv (m:Int)=(Q:Int)
 r:Pa.wrap ((Q:Int)*53)=(R:Int)
 x:Pa.wrap ((H:Int)+(R:Int))=(X:Int)
 y:(X:Int).tdiv 64=(Y:Int)
 z:bits .xor .i64 (X:Int) (Y:Int)=(Z:Int)
 v:(Z:Int).tmod (n:Int)=(V:Int)
 vn:V<n
 wq:Pa.wrap (Q:Int)=(Q:Int)
 wy:Pa.wrap (Y:Int)=(Y:Int)
theorem mix_any (p m x1 x2 n:Nat) (hp:p<=1099511627776) (Ap:x1<256) (Aa:x2<256) (hn:0<n) :
 ∃ A B D E G H Q R X Y Z V:Nat,Mix p m x1 x2 n (p % m) A B (p*7+3) ((p*7+3) % m) D E G H Q R X Y Z V:=by
 have hq:p / m<=p:=Nat.div_le_self _ _;have hX:x1*131+x2*1117+p*29+p / m*53<9223372036854775808:=by omega
 have hY:(x1*131+x2*1117+p*29+p / m*53) / 64<9223372036854775808:=by omega
 refine ⟨x1*131,p*7,x2*1117,x1*131+x2*1117,p*29,x1*131+x2*1117+p*29,p / m,p / m*53,x1*131+x2*1117+p*29+p / m*53,(x1*131+x2*1117+p*29+p / m*53) / 64,(x1*131+x2*1117+p*29+p / m*53) ^^^ ((x1*131+x2*1117+p*29+p / m*53) / 64),((x1*131+x2*1117+p*29+p / m*53) ^^^ ((x1*131+x2*1117+p*29+p / m*53) / 64)) % n,?_⟩
 exact ⟨gK _ _,xq (by omega) (by omega),xq (by omega) (by omega),xq (by omega) (by omega),gK _ _,xq (by omega) (by omega),xq (by omega) (by omega),xq (by omega) (by omega),xq (by omega) (by omega),
  mH _ _,xq (by omega) (by omega),xq (by omega) hX,mH _ 64,i64_xor_nat _ _ hX hY,gK _ _,QR _ hn,p_ _ (by omega),p_ _ hY⟩
theorem wu (rd P n:Nat) (w:World) (h:jN w rd P) (hn:0<n) (iU:n<=16777216) (hP:P<=1099511627776) :
 Calls No 22 #[.pointer (some ⟨rd,0,none⟩),.int .i64 (n:Nat)] w (Picked rd P n w):=by
 obtain ⟨a,m,c,p,h1,hp,hm,hcs⟩:=h;have hpP:p<=1099511627776:=by omega
 have c0:w.cell? ⟨rd,0,none⟩=some (.slice a m c):=by simp [Li,h1]
 have c1:w.cell? ⟨rd,1,none⟩=some (.int .i64 (p:Nat)):=by simp [Li,h1]
 have f1:w.frozen? ⟨rd,1,none⟩=false:=by simp [OC,h1]
 have rH:=zZ h1;obtain ⟨W,hW⟩:=zzN (w.setCell ⟨rd,1,none⟩ (.int .i64 ((p:Int)+1)));have rV:W.heap[rd]? = some (.cells #[.slice a m c,.int .i64 ((p+1:Nat):Int)] 63 (0,0)):=by
  have h':w.heap[rd]=.cells #[.slice a m c,.int .i64 (p:Nat)] 63 (0,0):=by simpa [O0 rH] using h1
  rw [<- hW];show (w.heap.modify rd _)[rd]? = _;rw [O0 (by simpa using rH),Array.getElem_modify_self,h'];simp
 have Ee:But (· = rd) w W:=by rw [<- hW];exact (But.refl (· = rd) _).setCell (p:=⟨rd,1,none⟩) (.inl rfl) _
 have d0:W.cell? ⟨rd,0,none⟩=some (.slice a m c):=by simp [Li,rV]
 have d1:W.cell? ⟨rd,1,none⟩=some (.int .i64 ((p:Int)+1)):=by simp [Li,rV]
 have lx:jN W rd (P+1):=by
  refine ⟨a,m,c,p+1,rV,by omega,hm,?_⟩;rcases hcs with h4 | ⟨b,o,e,hne,hk⟩
  ·exact .inl h4
  ·refine .inr ⟨b,o,e,hne,fun k D_=>?_⟩;obtain ⟨x,hx,hc⟩:=hk k D_;exact ⟨x,hx,(Ee.cell (n_ w _ hc) (fun e=>RM hne e)).trans hc⟩
 have RD:=n7 lx;have BT:=n7 Ee;have g0:¬ (n:Int)<1:=by omega
 have gn:((n:Int) == 0)=false:=by rw [beq_eq_false_iff_ne];omega
 have hWb:∀ (b o:Nat) (v:Value),b≠rd->w.cell? ⟨b,o,none⟩=some v->W.cell? ⟨b,o,none⟩=some v:=fun b o v hne hc =>
  (Ee.cell (p:=⟨b,o,none⟩) (n_ w ⟨b,o,none⟩ hc) (fun e=>hne e)).trans hc
 have WB:=n7 hWb;have Kb:=n7 hcs;have HW:=n7 hW;clear lx Ee h1 rV hWb hcs hW;go_enter Tryz.func22,Tryz.ntmps22;go_upto_region 2 with (fail)
 rw [HW.out];clear c0 c1 f1;rcases Kb.out with h0 | ⟨b,o,e,hne,hk⟩
 ·subst h0;go_wp2_with fail
  go_ret;exact ⟨0,rfl,hn,BT.out,RD.out⟩
 ·subst e;have HK:=n7 hk;clear hk;by_cases Ml:m=0
  ·subst Ml;go_wp2_with fail
   go_ret;exact ⟨0,rfl,hn,BT.out,RD.out⟩
  have gm:((m:Int) == 0)=false:=by rw [beq_eq_false_iff_ne];omega
  by_cases hpm:p<m
  ·obtain ⟨x,hx,hc⟩:=HK.out p hpm;have e1:=WB.out _ _ _ (RM hne) hc;have hpm':(p:Int)<(m:Int):=by omega
   have et:(x:Int).tmod (n:Int)=((x % n:Nat):Int):=gK _ _;have hv:x % n<n:=QR _ hn;have HV:=n7 hv;clear hv hc;go_wp2_with fail
   go_ret;exact ⟨x % n,rfl,HV.out,BT.out,RD.out⟩
  ·have hpm':¬ (p:Int)<(m:Int):=by omega
   obtain ⟨x1,Ap,aH⟩:=HK.out (p % m) (QR _ (by omega));obtain ⟨x2,Aa,iZ⟩:=HK.out ((p*7+3) % m) (QR _ (by omega));have e1:=WB.out _ _ _ (RM hne) aH;have e2:=WB.out _ _ _ (RM hne) iZ;obtain ⟨A,B,D,E,G,H,Q,R,X,Y,Z,V,M⟩:=mix_any p m x1 x2 n hpP Ap Aa hn;have hI:p % m<m:=QR _ (by omega);have hJ:(p*7+3) % m<m:=QR _ (by omega);generalize p % m=I at *;generalize (p*7+3) % m=J at *;generalize p*7+3=C at *;have hI':(I:Int)<(m:Int):=by omega
   have hJ':(J:Int)<(m:Int):=by omega
   have q1:=M.i;have q2:=M.a;have q3:=M.b;have q4:=M.c;have q5:=M.j;have q6:=M.d;have q7:=M.e;have q8:=M.g;have q9:=M.h;have Kj:=M.q;have Hc:=M.r;have Ki:=M.x;have q13:=M.y;have q14:=M.z;have q15:=M.v;have q16:=M.wq;have q17:=M.wy;have MV:=n7 M.vn;clear aH iZ M;go_wp2_with fail
   go_quiet (fail);go_wp2_with fail
   go_ret;exact ⟨V,rfl,MV.out,pw BT.out _,RD.out.drewN _⟩
def wC (w:World) (rd:Nat) (l:Value) (xs:List Bs):Prop :=
 ∃ b o c,l=.slice (some ⟨b,o,none⟩) xs.length c/\b≠rd/\∀ (k:Nat) (s:Bs),xs[k]? = some s->w.cell? ⟨b,o+k,none⟩=some (str s)
theorem wC.new {w:World} {rd:Nat} (lx:rd<w.heap.size) (xs:List Bs) (n:Nat) (hn:n=xs.length) (e:TypeId):wC (w.alloc (.cells (xs.map str).toArray e)) rd (.slice (some ⟨w.heap.size,0,none⟩) n n) xs:=by
 subst hn;refine ⟨w.heap.size,0,_,rfl,by omega,fun k s hs=>?_⟩;rw [PW];simp only [Li,zG];simp [hs]
def Took (rd P:Nat) (xs:List Bs) (w:World) (en:Ending) (w':World):Prop :=
 ∃ s∈xs,en=.returned (str s)/\But (· = rd) w w'/\jN w' rd P
theorem gN (rd P:Nat) (l:Value) (xs:List Bs) (w:World) (h:jN w rd P) (hl:wC w rd l xs) (hx:0<xs.length) (Aa:xs.length<=16777216) (hP:P<=1099511627776) :
 Calls No 23 #[.pointer (some ⟨rd,0,none⟩),l] w (Took rd (P+1) xs w):=by
 obtain ⟨b,o,c,rfl,hne,hk⟩:=hl;have HK:=n7 hk;clear hk;go_enter Tryz.func23,Tryz.ntmps23;go_wp2_with fail
 refine (wu rd P xs.length w h hx Aa hP).mono ?_;rintro en w1 ⟨v,rfl,hv,hb,hr⟩;obtain ⟨s,hs⟩:∃ s,xs[v]? = some s:=⟨xs[v],by simp [hv]⟩;have hc:=HK.out v s hs;have aH:w1.cell? ⟨b,o+v,none⟩=some (str s):=(hb.cell (p:=⟨b,o+v,none⟩) (n_ w ⟨b,o+v,none⟩ hc) (fun e=>hne e)).trans hc;have hv':(v:Int)<(xs.length:Int):=by omega
 have HM:=n7 (OI hs);clear hs hc;go_wp2_with fail
 go_ret;exact ⟨s,HM.out,rfl,hb,hr⟩
def wT:List Bs:=[[98],[40,62,32,98,32,98,41],[40,62,32,98,32,40,62,32,98,32,98,41,41],[40,62,32,40,62,32,98,32,98,41,32,98,41],[40,62,32,40,62,32,98,32,98,41,32,40,62,32,98,32,98,41,41],[40,62,32,40,62,32,40,62,32,98,32,98,41,32,98,41,32,98,41],[40,62,32,40,62,32,98,32,40,62,32,98,32,98,41,41,32,98,41],[40,62,32,98,32,40,62,32,40,62,32,98,32,98,41,32,98,41,41]]
theorem l91Type_any (rd P:Nat) (w:World) (h:jN w rd P) (hP:P<=1099511627776) :
 Calls No 25 #[.pointer (some ⟨rd,0,none⟩)] w (Took rd (P+1) wT w):=by
 have rH:=h.lt;go_enter Tryz.func25,Tryz.ntmps25;go_wp2_with fail
 refine (gN rd P _ wT _ (h.alloc _) (wC.new rH wT 8 rfl _) (by decide) (by decide) hP).mono ?_;rintro en w1 ⟨s,hs,rfl,hb,hr⟩;have HM:=n7 hs;clear hs;go_wp2_with fail
 go_ret;exact ⟨s,HM.out,rfl,((But.refl _ w).alloc _).trans hb,hr⟩
structure NodeD (w:World) (rd ob Z:Nat) (v:Int) (wr:World) (pk py:List Bd) (kv yv:List Value) (ks:Value) (nk:Nat) (ys:Value) (ny:Nat):Prop where
 hnk:nk=pk.length
 hny:ny=py.length
 ksl:∃ a c,ks=.slice a nk c
 ysl:∃ a c,ys=.slice a ny c
 but:But (· = rd) w wr
 res:kU w.heap.size 0 (.slice none 0 0) (.slice none 0 0) wr
 out:kU ob v ks ys wr
 ownK:Own wr 47 4 ks nk kv
 ownY:Own wr 47 4 ys ny yv
 blkK:∀ g,ks.ownBlock=some g->Z<=g/\ys.ownBlock≠some g
 blkY:∀ g,ys.ownBlock=some g->Z<=g
 repK:zW (fun b=>Z<=b/\ks.ownBlock≠some b/\ys.ownBlock≠some b) wr (zi pk) kv
 repY:zW (fun b=>Z<=b/\ks.ownBlock≠some b/\ys.ownBlock≠some b) wr (zi py) yv
 z:Z<=wr.heap.size
theorem NodeD.kid {w:World} {rd ob Z:Nat} {v:Int} {wr:World} {pk py:List Bd} {kv yv:List Value} {ks ys:Value} {nk ny:Nat}
 (h:NodeD w rd ob Z v wr pk py kv yv ks nk ys ny) (lx:rd<w.heap.size) (E8:ob<Z) (hwo:w.heap.size<ob) {W w7:World} {b:Bd} {cs:List Value} {a':Option Addr} {c':Nat}
 (rC:But (· = rd) wr W) (hcs:zW (wr.heap.size<=·) W (kx b) cs) (r9:Own w7 47 4 (.slice a' (nk+1) c') (nk+1) (kv++cs)) (rP:But (fun i=>ks.ownBlock=some i) W w7)
 (rL:∀ g,(Ox a' (nk+1) c').ownBlock=some g->ks.ownBlock=some g\/g=W.heap.size) :
 NodeD w rd ob Z v (w7.setCell ⟨ob,2,none⟩ (.slice a' (nk+1) c')) (pk++[b]) py (kv++cs) yv (.slice a' (nk+1) c') (nk+1) ys ny:=by
 have z6:=rC.size;have z7:=rP.size;have zr:=h.z;have zb:=h.but.size;have keep:∀ i x,wr.heap[i]? = some x->ks.ownBlock≠some i->i≠ob->i≠rd->(w7.setCell ⟨ob,2,none⟩ (.slice a' (nk+1) c')).heap[i]? = some x:=by
  intro i x hx h1 h2 h3;have:=zZ hx;rw [rK _ _ _ _ (by simpa using h2),rP.block i (by omega) h1,rC.block i this h3];exact hx
 have tM:∀ i x,W.heap[i]? = some x->ks.ownBlock≠some i->i≠ob->(w7.setCell ⟨ob,2,none⟩ (.slice a' (nk+1) c')).heap[i]? = some x:=by
  intro i x hx h1 h2;have:=zZ hx;rw [rK _ _ _ _ (by simpa using h2),rP.block i (by omega) h1];exact hx
 have ltK:∀ g,ks.ownBlock=some g->g<wr.heap.size:=fun g hg=>h.ownK.lt hg;have ltY:∀ g,ys.ownBlock=some g->g<wr.heap.size:=fun g hg=>h.ownY.lt hg;have nK:∀ i,i<Z->ks.ownBlock≠some i:=fun i hi e=>by have:=(h.blkK i e).1;omega
 have newg:∀ g,(Ox a' (nk+1) c').ownBlock=some g->Z<=g:=fun g hg=>by
  rcases rL g hg with e | e
  ·exact (h.blkK g e).1
  ·omega
 refine ⟨by simp [h.hnk],h.hny,⟨_,_,rfl⟩,h.ysl,?_,?_,?_,?_,?_,?_,h.blkY,?_,?_,by simp [Qi];omega⟩
 ·refine But.setCell ?_ (.inr (show w.heap.size<=ob by omega)) _;exact (h.but.trans rC).trans' rP (fun i hi e=>absurd e (nK i (by omega)))
 ·exact keep _ _ h.res (nK _ (by omega)) (by omega) (by omega)
 ·have h1:kU ob v ks ys w7:=by
   unfold kU;rw [rP.block ob (by omega) (nK _ E8),rC.block ob (by omega) (show ¬ ob=rd by omega)];exact h.out
  exact h1.put2
 ·exact r9.keep fun g o hg ho=>by rw [rK _ _ _ _ (by have:=newg g hg;simp;omega)];exact ho
 ·exact h.ownY.keep fun g o hg ho=>keep g o ho (fun e=>(h.blkK g e).2 hg) (by have:=h.blkY g hg;omega) (by have:=h.blkY g hg;omega)
 ·intro g hg;refine ⟨newg g hg,fun e=>?_⟩;rcases rL g hg with e' | e'
  ·exact (h.blkK g e').2 e
  ·have:=ltY g e;omega
 ·rw [qR];have h1:=h.repK;refine zW.append ((Rep.keep fun i x hi hx=>⟨⟨hi.1,fun e=>(rL i e).elim (fun e'=>hi.2.1 e') (fun e'=>by have:=zZ hx;omega),hi.2.2⟩,keep i x hx hi.2.1 (by have:=hi.1;omega) (by have:=hi.1;omega)⟩).2 _ _ h1) ?_
  ·have e1:zi [b]=kx b:=by simp [zi]
   rw [e1];refine (Rep.keep fun i x hi hx=>?_).2 _ _ hcs;have h2:=zZ hx;have h3:wr.heap.size<=i:=hi;refine ⟨⟨by omega,fun e=>?_,fun e=>by have:=ltY i e;omega⟩,tM i x hx (fun e=>by have:=ltK i e;omega) (by omega)⟩;rcases rL i e with e' | e'
   ·have:=ltK i e';omega
   ·omega
 ·exact (Rep.keep fun i x hi hx=>⟨⟨hi.1,fun e=>(rL i e).elim (fun e'=>hi.2.1 e') (fun e'=>by have:=zZ hx;omega),hi.2.2⟩,keep i x hx hi.2.1 (by have:=hi.1;omega) (by have:=hi.1;omega)⟩).2 _ _ h.repY
theorem NodeD.yes {w:World} {rd ob Z:Nat} {v:Int} {wr:World} {pk py:List Bd} {kv yv:List Value} {ks ys:Value} {nk ny:Nat}
 (h:NodeD w rd ob Z v wr pk py kv yv ks nk ys ny) (lx:rd<w.heap.size) (E8:ob<Z) (hwo:w.heap.size<ob) {W w7:World} {b:Bd} {cs:List Value} {a':Option Addr} {c':Nat}
 (rC:But (· = rd) wr W) (hcs:zW (wr.heap.size<=·) W (kx b) cs) (r9:Own w7 47 4 (.slice a' (ny+1) c') (ny+1) (yv++cs)) (rP:But (fun i=>ys.ownBlock=some i) W w7)
 (rL:∀ g,(Ox a' (ny+1) c').ownBlock=some g->ys.ownBlock=some g\/g=W.heap.size) :
 NodeD w rd ob Z v (w7.setCell ⟨ob,3,none⟩ (.slice a' (ny+1) c')) pk (py++[b]) kv (yv++cs) ks nk (.slice a' (ny+1) c') (ny+1):=by
 have z6:=rC.size;have z7:=rP.size;have zr:=h.z;have zb:=h.but.size;have keep:∀ i x,wr.heap[i]? = some x->ys.ownBlock≠some i->i≠ob->i≠rd->(w7.setCell ⟨ob,3,none⟩ (.slice a' (ny+1) c')).heap[i]? = some x:=by
  intro i x hx h1 h2 h3;have:=zZ hx;rw [rK _ _ _ _ (by simpa using h2),rP.block i (by omega) h1,rC.block i this h3];exact hx
 have tM:∀ i x,W.heap[i]? = some x->ys.ownBlock≠some i->i≠ob->(w7.setCell ⟨ob,3,none⟩ (.slice a' (ny+1) c')).heap[i]? = some x:=by
  intro i x hx h1 h2;have:=zZ hx;rw [rK _ _ _ _ (by simpa using h2),rP.block i (by omega) h1];exact hx
 have ltK:∀ g,ks.ownBlock=some g->g<wr.heap.size:=fun g hg=>h.ownK.lt hg;have ltY:∀ g,ys.ownBlock=some g->g<wr.heap.size:=fun g hg=>h.ownY.lt hg;have nY:∀ i,i<Z->ys.ownBlock≠some i:=fun i hi e=>by have:=h.blkY i e;omega
 have newg:∀ g,(Ox a' (ny+1) c').ownBlock=some g->Z<=g:=fun g hg=>by
  rcases rL g hg with e | e
  ·exact h.blkY g e
  ·omega
 refine ⟨h.hnk,by simp [h.hny],h.ksl,⟨_,_,rfl⟩,?_,?_,?_,?_,?_,?_,newg,?_,?_,by simp [Qi];omega⟩
 ·refine But.setCell ?_ (.inr (show w.heap.size<=ob by omega)) _;exact (h.but.trans rC).trans' rP (fun i hi e=>absurd e (nY i (by omega)))
 ·exact keep _ _ h.res (nY _ (by omega)) (by omega) (by omega)
 ·have h1:kU ob v ks ys w7:=by
   unfold kU;rw [rP.block ob (by omega) (nY _ E8),rC.block ob (by omega) (show ¬ ob=rd by omega)];exact h.out
  exact h1.put3
 ·exact h.ownK.keep fun g o hg ho=>keep g o ho (h.blkK g hg).2 (by have:=(h.blkK g hg).1;omega) (by have:=(h.blkK g hg).1;omega)
 ·exact r9.keep fun g o hg ho=>by rw [rK _ _ _ _ (by have:=newg g hg;simp;omega)];exact ho
 ·intro g hg;refine ⟨(h.blkK g hg).1,fun e=>?_⟩;rcases rL g e with e' | e'
  ·exact (h.blkK g hg).2 e'
  ·have:=ltK g hg;omega
 ·exact (Rep.keep fun i x hi hx=>⟨⟨hi.1,hi.2.1,fun e=>(rL i e).elim (fun e'=>hi.2.2 e') (fun e'=>by have:=zZ hx;omega)⟩,keep i x hx hi.2.2 (by have:=hi.1;omega) (by have:=hi.1;omega)⟩).2 _ _ h.repK
 ·rw [qR];refine zW.append ((Rep.keep fun i x hi hx=>⟨⟨hi.1,hi.2.1,fun e=>(rL i e).elim (fun e'=>hi.2.2 e') (fun e'=>by have:=zZ hx;omega)⟩,keep i x hx hi.2.2 (by have:=hi.1;omega) (by have:=hi.1;omega)⟩).2 _ _ h.repY) ?_
  ·have e1:zi [b]=kx b:=by simp [zi]
   rw [e1];refine (Rep.keep fun i x hi hx=>?_).2 _ _ hcs;have h2:=zZ hx;have h3:wr.heap.size<=i:=hi;refine ⟨⟨by omega,fun e=>by have:=ltK i e;omega,fun e=>?_⟩,tM i x hx (fun e=>by have:=ltY i e;omega) (by omega)⟩;rcases rL i e with e' | e'
   ·have:=ltY i e';omega
   ·omega
def bnd:Nat->Nat
 | 0=>1
 | d+1=>1+17*bnd d
theorem wC.newAt {w:World} {rd:Nat} (lx:rd<w.heap.size) (xs:List Bs) (n:Nat) (hn:n=xs.length) (e:TypeId) (g:Nat) (hg:g=w.heap.size):wC (w.alloc (.cells (xs.map str).toArray e)) rd (.slice (some ⟨g,0,none⟩) n n) xs:=by
 subst hg;exact wC.new lx xs n hn e
theorem p9 (x:Int) (h1 : -2000<=x) (h2:x<=1000000):Pa.wrap x=x:=by
 simp [SM,R4,RK];omega
theorem sub_le {z:Int} {p d:Nat} (h2:z<=((d+1:Nat):Int)):z-1-(p:Int)<=d:=by omega
def Row8 (w:World) (a:Option Addr) (len cap:Nat) (zs:List Int):Prop :=
 (a=none/\len=0/\cap=0/\zs=[]) \/
 ∃ x,a=some x/\len<=cap/\cap<=maxLen/\zs.length=cap/\(∀ i,i<zs.length->w.cell? (x.add i)=some (.int .u8 (zs.getD i 0)))/\∀ n∈zs,(Lit.int .u8 n).wf=true
theorem Row8.le {w:World} {a:Option Addr} {len cap:Nat} {zs:List Int} (h:Row8 w a len cap zs):len<=cap:=by
 rcases h with ⟨_,rfl,rfl,_⟩ | ⟨x,_,h,_⟩
 ·exact n9 _
 ·exact h
theorem Row8.bytes {w:World} {a:Option Addr} {len cap:Nat} {zs:List Int} (h:Row8 w a len cap zs) (n:Nat) (hn:n<=len) :
 n=0\/∃ b o,a=some ⟨b,o,none⟩/\b<w.heap.size/\∀ k,k<n->∃ x:Nat,x<256/\w.cell? ⟨b,o+k,none⟩=some (.int .u8 x):=by
 rcases Nat.eq_zero_or_pos n with h0 | h0
 ·exact .inl h0
 right;rcases h with ⟨_,rfl,_,_⟩ | ⟨x,rfl,hl,_,hz,hc,hw⟩
 ·omega
 obtain ⟨b,o,sp⟩:=x;have h1:=hc 0 (by omega);have EQ:sp=none:=by
  cases sp with
  | none=>rfl
  | some q=>simp [Li,Addr.add] at h1;split at h1 <;> simp_all
 subst EQ;have JP:∀ i,(⟨b,o,none⟩:Addr).add i=⟨b,o+i,none⟩:=fun i=>by
  unfold Addr.add;split <;> simp_all
 have h2:=n_ w _ h1;refine ⟨b,o,rfl,by rw [JP] at h2;exact h2,fun k hk=>?_⟩;have hkz:k<zs.length:=by omega
 have h3:=hc k hkz;rw [JP] at h3;have hm:zs.getD k 0∈zs:=by
  rw [List.getD_eq_getElem?_getD,PH hkz];exact List.getElem_mem hkz
 have Ac:=hw _ hm;clear hm;generalize zs.getD k 0=z at *;have hb:0<=z/\z<256:=by
  simp [Lit.wf,UQ,UR,R4,RK] at Ac;omega
 refine ⟨z.toNat,by omega,?_⟩;rw [h3,Int.toNat_of_nonneg hb.1]
theorem l6Open_any (a:Option Addr) (len cap:Nat) (zs:List Int) (w:World) (h:Row8 w a len cap zs) (hl:len<=1048576) :
 Calls No 11 #[.slice a len cap] w fun en w'=>en=.returned (.pointer (some ⟨w.heap.size,0,none⟩))/\Below w.heap.size w w'/\jN w' w.heap.size 0/\w.heap.size<w'.heap.size:=by
 have sw:=h.le;have H:=n7 h;clear h;by_cases h2:2000<len
 ·have h2':(2000:Int)<(len:Int):=by omega
  have h3:(2000:Int)<=(cap:Int):=by omega
  obtain ⟨b,o,ea,hb,hk⟩:=(H.out.bytes 2000 (by omega)).resolve_left (by omega);subst ea;have HK:=n7 hk;clear hk;go_enter Un,TQ;go_wp2_with fail
  go_ret;refine ⟨rfl,(rZ _ _).alloc (n9 _) _,?_,by simp⟩;refine ⟨_,2000,_,0,zG _ _,n9 _,n9 _,.inr ⟨b,o,rfl,hb,fun k hk=>?_⟩⟩;obtain ⟨x,hx,hc⟩:=HK.out k hk;exact ⟨x,hx,zV hc⟩
 ·have h2':¬ (2000:Int)<(len:Int):=by omega
  go_enter Un,TQ;go_wp2_with fail
  go_ret;refine ⟨rfl,(rZ _ _).alloc (n9 _) _,?_,by simp⟩;refine ⟨_,len,_,0,zG _ _,n9 _,by omega,?_⟩;rcases H.out.bytes len (n9 _) with h0 | ⟨b,o,ea,hb,hk⟩
  ·exact .inl h0
  ·refine .inr ⟨b,o,ea,hb,fun k D_=>?_⟩;obtain ⟨x,hx,hc⟩:=hk k D_;exact ⟨x,hx,zV hc⟩
theorem type_ok {s:Bs} (h:s∈wT):(zR s).2=true/\s.length<=100:=by
 simp only [wT,OX,PR,or_false] at h;rcases h with rfl | rfl | rfl | rfl | rfl | rfl | rfl | rfl <;> exact ⟨by decide,by decide⟩
theorem wrap_one (p:Nat) (h:p<3):Pa.wrap (1+(p:Int))=1+p:=p9 _ (by omega) (by omega)
theorem but_new {rd:Nat} {w w1 w2:World} (h1:Below w.heap.size w w1) (lx:w.heap.size<=rd) (h2:But (· = rd) w1 w2):Below w.heap.size w w2 :=
 h1.trans (h2.toBelow h1.size fun i hi e=>by omega)
def atT (t:Ty):Bs->Option Ty
 | []=>some t
 | c::p=>if 48<=c.toNat then (match t.args[c.toNat-48]? with | some a=>atT a p | none=>none) else none
theorem atT_nil (t:Ty):atT t []=some t:=by cases t;rfl
theorem nA (t:Ty) (c:UInt8) (p:Bs):atT t (c::p)=if 48<=c.toNat then (match t.args[c.toNat-48]? with | some a=>atT a p | none=>none) else none:=by rw [atT]
theorem nL:∀ (p q:Bs) (t:Ty),atT t (p++q)=(atT t p).bind fun a=>atT a q
 | [],q,t=>by rw [atT_nil];rfl
 | c::p,q,t=>by
   rw [ON,nA,nA];split
   ·cases h:t.args[c.toNat-48]? with
    | none=>rfl
    | some a=>exact nL p q a
   ·rfl
theorem digit_nat {j:Nat} (h:j<10):(xF j).toNat=48+j:=uV h
theorem atT_digit (t:Ty) {j:Nat} (h:j<10):atT t [xF j]=t.args[j]?:=by
 rw [nA,digit_nat h,if_pos (by omega),show 48+j-48=j from by omega];cases t.args[j]? with
 | none=>rfl
 | some a=>exact atT_nil a
theorem args_len (t:Ty):2*t.args.length+1<=zJ t:=by
 rw [qx t];have:∀ ts:List Ty,2*ts.length<=zt ts:=by
  intro ts
  induction ts with
  | nil=>simp
  | cons u us ih =>
    have:=ke u;rw [show u::us=[u]++us from rfl,uP];have e:zt [u]=1+zJ u:=by simp [zt]
    rw [e,Ov,List.length_singleton];omega
 have:=this t.args;omega
abbrev Pl:=List (Bs×Int)
abbrev ge:=Nat×Bs
def wv (many begin:Nat) (path:Bs):List ge:=(Uw many).map fun i=>(begin,path++dec i)
theorem ug (m b:Nat) (p:Bs):(wv m b p).length=m:=by simp [wv]
theorem fA {m b j:Nat} {p:Bs} (h:j<m):(wv m b p)[j]? = some (b,p++dec j):=by simp [wv,h]
structure PlFit (t:Ty) (lv:List ge) (hand:List Ty) (n:Nat):Prop where
 len:lv.length=hand.length
 each:∀ (i:Nat) (a:Ty),hand[i]? = some a->∃ pl,lv[i]? = some pl/\atT t pl.2=some a/\pl.1<n
theorem PlFit.kid {t:Ty} {lv:List ge} {hand:List Ty} {n m k:Nat} (h:PlFit t lv hand n) (F3:n<=m) (hk:k<m) {p:Bs} {a:Ty} (ha:atT t p=some a) (J0:a.args.length<=10) :
 PlFit t (lv++wv a.args.length k p) (hand++a.args) m:=by
 refine ⟨by rw [Ov,Ov,ug,h.len],fun i b hb=>?_⟩;rcases PT i hand.length with hi | hi
 ·rw [OJ hi] at hb;obtain ⟨pl,h1,h2,h3⟩:=h.each i b hb;exact ⟨pl,by rw [OJ (by rw [h.len];exact hi)];exact h1,h2,by omega⟩
 ·rw [OF hi] at hb;have rH:=(OB.1 hb).1;refine ⟨(k,p++dec (i-hand.length)),?_,?_,hk⟩
  ·rw [OF (by rw [h.len];exact hi),h.len,fA rH]
  ·show atT t (p++dec (i-hand.length))=some b;rw [nL,ha,Lx,vQ (by omega),atT_digit _ (by omega)];exact hb
theorem PlFit.mono {t:Ty} {lv:List ge} {hand:List Ty} {n m:Nat} (h:PlFit t lv hand n) (F3:n<=m):PlFit t lv hand m :=
 ⟨h.len,fun i a ha=>by obtain ⟨pl,h1,h2,h3⟩:=h.each i a ha;exact ⟨pl,h1,h2,by omega⟩⟩
structure fW (lv:List ge) (bg:ge) (v:Pl) (begun args:List Nat) (opens:Nat):Prop where
 lb:begun.length=lv.length
 la:args.length=lv.length
 each:∀ (i:Nat) (pl:ge),lv[i]? = some pl->∃ j m z,begun[i]? = some pl.1/\args[i]? = some j/\v[pl.1]? = some (113::m,z)/\pl.2=m++dec j/\j<10
 bg:bg.1=opens/\∃ c z,v[opens]? = some (c::bg.2,z)
theorem fW.more {lv:List ge} {bg:ge} {v:Pl} {begun args:List Nat} {opens:Nat} (h:fW lv bg v begun args opens) (xs:Pl):fW lv bg (v++xs) begun args opens:=by
 have key:∀ (i:Nat) (x:Bs×Int),v[i]? = some x->(v++xs)[i]? = some x:=fun i x hx=>by
  rw [OJ (OB.1 hx).1];exact hx
 refine ⟨h.lb,h.la,fun i pl hi=>?_,h.bg.1,?_⟩
 ·obtain ⟨j,m,z,h1,h2,h3,h4⟩:=h.each i pl hi;exact ⟨j,m,z,h1,h2,key _ _ h3,h4⟩
 ·obtain ⟨c,z,hc⟩:=h.bg.2;exact ⟨c,z,key _ _ hc⟩
theorem fW.kid {lv:List ge} {bg:ge} {v:Pl} {begun args:List Nat} {opens:Nat} (h:fW lv bg v begun args opens) (many k:Nat) (p:Bs) (J0:many<=10) {z:Int} (hk:v[k]? = some (113::p,z)) :
 fW (lv++wv many k p) (k,p) v (begun++List.replicate many k) (args++Uw many) k:=by
 refine ⟨by simp [h.lb,ug],by simp [h.la,ug],fun i pl hi=>?_,rfl,113,z,hk⟩;rcases PT i lv.length with rH | lR
 ·rw [OJ rH] at hi;obtain ⟨j,m,z',h1,h2,h3,h4⟩:=h.each i pl hi;exact ⟨j,m,z',by rw [OJ (by rw [h.lb];exact rH)];exact h1,by rw [OJ (by rw [h.la];exact rH)];exact h2,h3,h4⟩
 ·rw [OF lR] at hi;have hl:=(OB.1 hi).1;rw [ug] at hl;rw [fA hl] at hi;obtain rfl:=OM hi;refine ⟨i-lv.length,p,z,?_,?_,hk,rfl,by omega⟩
  ·rw [OF (by rw [h.lb];exact lR),h.lb];simp [hl]
  ·rw [OF (by rw [h.la];exact lR),h.la];simp [hl]
def TermD (rd Q L:Nat) (w:World) (en:Ending) (w':World):Prop:=∃ s:Bs,en=.returned (str s)/\s.length<=L/\But (· = rd) w w'/\jN w' rd Q
def uR (F:Nat->Prop) (w:World) (ns:List Bs) (v:Value):Prop:=Rep F w (.sl 9 1 ns.length (ns.map fun x=>DV.val (str x))) v
def DrawT (rd N C L:Nat) (z:Int) (want:Bs):Prop:=∀ (ns ts:List Bs) (nv tv:Value) (F:Nat->Prop) (w:World) (P:Nat),
 ts.length=ns.length->ns.length<=N->(∀ x∈ns,x.length<=1)->uR F w ns nv->uR F w ts tv->(∀ i,F i->i≠rd)->jN w rd P->P+C<=1099511627776 ->
 Calls No 56 #[.pointer (some ⟨rd,0,none⟩),nv,tv,str want,.int .i64 z] w (TermD rd (P+C) L w)
theorem uR.open {F:Nat->Prop} {w:World} {ns:List Bs} {v:Value} (h:uR F w ns v):∃ a c,v=.slice a ns.length c /\
 ∀ (j:Nat) (s:Bs),ns[j]? = some s->∃ b o,a=some ⟨b,o,none⟩/\F b/\b<w.heap.size/\w.cell? ⟨b,o+j,none⟩=some (str s):=by
 obtain ⟨a,c,e,_,_,rX⟩:=zP h;refine ⟨a,c,e,fun j s hs=>?_⟩;obtain ⟨b,o,u,d,ea,hF,rH,hd,hc,hr⟩:=rX j (OB.1 hs).1;rw [Pt,hs] at hd;obtain rfl:=OM hd;rw [zH] at hr;subst hr;exact ⟨b,o,ea,hF,rH,hc⟩
theorem uR.but {F:Nat->Prop} {rd:Nat} {w w':World} {ns:List Bs} {v:Value} (h:uR F w ns v) (hb:But (· = rd) w w') (hF:∀ i,F i->i≠rd):uR F w' ns v :=
 Rep.but hb (fun b h=>⟨hF b h,h⟩) h
theorem uR.src {F:Nat->Prop} {w:World} {ns:List Bs} {v:Value} (h:uR F w ns v):zu 1 v ns.length (ns.map str) w:=by
 obtain ⟨xs,hx,hs⟩:=zu.ofRep h (fun us hu u hm=>by
  obtain ⟨j,hj⟩:=List.mem_iff_getElem?.1 hm;have DC:=(OB.1 hj).1;have hlen:=hu.length;rw [RX] at hlen;have hd:(ns.map fun p=>DV.val (str p))[j]? = some (.val (str (ns[j]'(by omega)))):=by rw [Pt,PH (by omega)];rfl
  obtain ⟨v,hv,hr⟩:=zW.at hu hd;rw [hj] at hv;obtain rfl:=OM hv;rw [zH] at hr;subst hr
  simp [str,Value.oneCell'])
 have e:xs=ns.map str:=by
  clear hs h
  induction ns generalizing xs with
  | nil=>rw [List.map_nil,zC] at hx;subst hx;rfl
  | cons n ns ih =>
    rw [OU] at hx;obtain ⟨u,us,rfl,h1,h2⟩:=zQ.1 hx;rw [zH] at h1;subst h1;rw [ih _ h2];rfl
 rw [<- e];exact hs
theorem Own.strsRep {F:Nat->Prop} {w:World} {xs:List Bs} {a:Option Addr} {n c:Nat} (h:Own w 9 1 (.slice a n c) n (xs.map str)) (hn:n=xs.length) (hF:∀ g,(Ox a n c).ownBlock=some g->F g):uR F w xs (.slice a n c):=by
 subst hn;refine h.rep hF ?_;clear h hF
 induction xs with
 | nil=>exact zC.2 rfl
 | cons x xs ih=>exact zQ.2 ⟨_,_,rfl,zH.2 rfl,ih⟩
def bL:List Bs:=[[98],[98],[40,62,32,98,32,98,41]]
def yZ:List Bs:=[[116],[102],[117]]
def bS:List Bs:=[[120],[121],[122]]
theorem kind_len {s:Bs} (h:s∈bL):s.length<=7:=by
 simp only [bL,OX,PR,or_false] at h;rcases h with rfl | rfl | rfl <;> decide
theorem eO {s:Bs} (h:s∈yZ):s.length<=1:=by
 simp only [yZ,OX,PR,or_false] at h;rcases h with rfl | rfl | rfl <;> decide
theorem name_len1 {s:Bs} (h:s∈bS):s.length<=1:=by
 simp only [bS,OX,PR,or_false] at h;rcases h with rfl | rfl | rfl <;> decide
theorem wK {t:Ty} (h:zJ t<=15):(zL t).length<=90:=by
 have:=eQ t;rw [vJ,wO] at this;omega
theorem jL (A B:Bs) (n:Nat) (h:A.length+B.length<=n) (hn:n<=9223372036854775807):∃ O:Bs,O.length<=n/\∀ w0,(Op.stringOp .add ⟨A.toArray⟩ ⟨B.toArray⟩).run No w0=.ok (str O) w0 :=
 ⟨A++B,by rw [Ov];exact h,fun w0=>kI A B (by omega) w0⟩
theorem mI {rd Q:Nat} {w w':World} (h:But (· = rd) w w'/\jN w' rd Q) {v:World} (hb:Below w'.heap.size w' v):But (· = rd) w v/\jN v rd Q:=⟨h.1.trans (But.ofBelow hb),h.2.below hb⟩
theorem mi (rd N C' L' C L:Nat) (z:Int) (want:Bs) (Am : -1000<=z) (tg:z<=1000) (hw:want.length<=2000) (hN:N<=100)
 (hl:(zR want).2=true->∀ a rest,(zR want).1.args=a::rest->DrawT rd (N+1) C' L' (z-1) (zL (.mk rest)))
 (ho : -2<z->∀ want':Bs,want'.length<=want.length+20->DrawT rd (N+1) C' L' (z-1) want')
 (hC:C'+N+10<=C) (hC3 : -2<z->3*C'+N+10<=C) (hL:L'+220<=L) (hL3 : -2<z->3*L'+20<=L) (hL5:L'<=1000000):DrawT rd N C L z want:=by
 intro ns ts nv tv F w P hts Kv sU Dx sM hF hr hP;obtain ⟨na,nc,rfl,tW⟩:=Dx.open;obtain ⟨ta,tc,rfl,Nr⟩:=sM.open;have HL:=n7 hl;have HO:=n7 ho;have HN:=n7 tW;have HT:=n7 Nr;have HF:=n7 hF;have HN1:=n7 sU;have HRN:=n7 Dx;have HRT:=n7 sM;have In:=n7 hts;have HC:=n7 (n8 hC (n8 hC3 (n8 hL hL3)));have zz:Pa.wrap (z-1)=z-1:=p9 _ (by omega) (by omega);rw [hts];have Fc:=hr.lt;clear hl ho tW Nr hF sU Dx sM hts hC3 hL3;by_cases Ce:z<=0;rotate_left;have hz0':decide (z<=0)=false:=decide_eq_false Ce;go_enter Uo,TR;go_wp2_with fail
 refine (wu rd P 7 w hr (by omega) (by omega) (by omega)).mono ?_;rintro en wz ⟨v,rfl,hv,rW,tX⟩;have HZ:Hid (∃ Q,Q<=P+1/\But (· = rd) w wz/\jN wz rd Q):=n7 ⟨_,n9 _,rW,tX⟩;clear rW tX Ce;by_cases Dv:v=0;rotate_left;have lE:((v:Int) == 0)=false:=by rw [beq_eq_false_iff_ne];omega
 have HM:Hid (∃ Q,Q<=P+1+ns.length/\But (· = rd) w wz/\jN wz rd Q):=n7 (by obtain ⟨Q,h1,h2⟩:=HZ.out;exact ⟨Q,by omega,h2⟩);clear HZ hv Dv;go_wp2_with fail
 rotate_left;have hz0':decide (z<=0)=true:=decide_eq_true Ce;have HZ:Hid (∃ Q,Q<=P+1/\But (· = rd) w w/\jN w rd Q):=n7 ⟨P,Pu _,But.refl _ _,hr⟩;clear Ce;go_enter Uo,TR;go_wp2_with fail
 rotate_left;subst Dv;clear hv;go_wp2_with fail
 rotate_left
 any_goals (
  go_loopw [12] (fun i wz=>∃ (j:Nat) (wr:World) (Q:Nat),wr=wz/\j<=ns.length/\i=.int .i64 ((j:Int)-1)/\Q+j<=P+1+ns.length/\But (· = rd) w wr/\jN wr rd Q) (fun i _=>(intOf i+1).toNat)
  case atStart=>obtain ⟨Q,hQ,B6,hrz⟩:=HZ.out;exact ⟨ns.length,_,Q,rfl,n9 _,rfl,by omega,B6,hrz⟩
  case' round =>
   obtain ⟨j,wr,Q,ewr,hj,rfl,hQ,aP,BB⟩:=hrel;subst ewr;clear HZ;rcases j with _ | j;rotate_left
   ·rw [show ((j+1:Nat):Int)-1=(j:Int) from by omega];have DC:j<ns.length:=by omega
    obtain ⟨nj,hnj⟩:∃ s,ns[j]? = some s:=⟨_,PH DC⟩;obtain ⟨tj,FX⟩:∃ s,ts[j]? = some s:=⟨_,PH (by rw [In.out];exact DC)⟩;obtain ⟨nb,no,ena,Gb,Jn,Af⟩:=HN.out j nj hnj;obtain ⟨tb,tO,eta,NG,AX,Hj⟩:=HT.out j tj FX;subst ena;subst eta;have HJ:=n7 (n8 hnj (n8 Af (n8 Hj (n8 Jn (n8 AX (n8 Gb NG))))));have ME:(j:Int)<(ns.length:Int):=by omega
    have zj:Pa.wrap ((j:Int)+1)=((j+1:Nat):Int):=by rw [p9 _ (by omega) (by omega)];omega
    have HB:=n7 (n8 aP BB);clear aP BB hnj FX Af Hj Jn AX Gb NG;go_wp2_with fail
    go_loopw [13,14] (fun b k wz=>∃ (bb:Bool) (kk:Nat) (wq:World),wq=wz/\b=.bool bb/\kk<=ns.length/\k=.int .i64 kk/\But (· = rd) w wq/\jN wq rd Q) (fun _ k _=>ns.length-(intOf k).toNat)
    case atStart=>exact ⟨false,j+1,_,rfl,rfl,by omega,by first | rfl | go_num,HB.out.1,HB.out.2⟩
    case round =>
     obtain ⟨bb,kk,wq,ewq,rfl,Bh,rfl,JG,Dw⟩:=hrel;subst ewq;have cn:wq.cell? ⟨nb,no+j,none⟩=some (str nj):=(JG.cell (p:=⟨nb,no+j,none⟩) HJ.out.2.2.2.1 (HF.out _ HJ.out.2.2.2.2.2.1)).trans HJ.out.2.1;have ct:wq.cell? ⟨tb,tO+j,none⟩=some (str tj):=(JG.cell (p:=⟨tb,tO+j,none⟩) HJ.out.2.2.2.2.1 (HF.out _ HJ.out.2.2.2.2.2.2)).trans HJ.out.2.2.1;have HQ:=n7 (n8 JG Dw);clear JG Dw HB;by_cases rH:kk<ns.length
     ·have hkI:(kk:Int)<(ns.length:Int):=by omega
      obtain ⟨nk,hnk⟩:∃ s,ns[kk]? = some s:=⟨_,PH rH⟩;obtain ⟨nb2,no2,e2,FF,At,iZ⟩:=HN.out kk nk hnk;simp only [Oz,Addr.mk.injEq,and_true] at e2;obtain ⟨rfl,rfl⟩:=e2;have ck:wq.cell? ⟨nb,no+kk,none⟩=some (str nk):=(HQ.out.1.cell (p:=⟨nb,no+kk,none⟩) At (HF.out _ FF)).trans iZ;clear hnk FF At iZ ct;cases bb with
      | true =>
        go_wp2_with fail
        go_quiet (fail);go_wp2_with fail
        go_round
        case rel=>exact ⟨_,kk+1,_,rfl,rfl,by omega,by go_num,pw HQ.out.1 _,HQ.out.2.drewN _⟩
        case measure=>simp only [intOf];omega
      | false =>
        go_wp2_with fail
        go_quiet (fail);go_wp2_with fail
        go_round
        case rel=>exact ⟨_,kk+1,_,rfl,rfl,by omega,by go_num,pw HQ.out.1 _,HQ.out.2.drewN _⟩
        case measure=>simp only [intOf];omega
     ·have hkk2:kk=ns.length:=by omega
      subst hkk2;clear rH Bh;cases bb with
      | true =>
        go_wp2_with fail
        go_round
        case rel=>exact ⟨j,_,Q,rfl,by omega,by go_num,by omega,HQ.out.1,HQ.out.2⟩
        case measure=>simp only [intOf];omega
      | false =>
        by_cases hwt:tj=want;rotate_left
        ·have q1:(tj == want)=false:=by rw [beq_eq_false_iff_ne];exact hwt
         go_wp2_with fail
         go_round
         case rel=>exact ⟨j,_,Q,rfl,by omega,by go_num,by omega,HQ.out.1,HQ.out.2⟩
         case measure=>simp only [intOf];omega
        subst hwt;go_wp2_with fail
        refine (wu rd Q 4 wq HQ.out.2 (by omega) (by omega) (by omega)).mono ?_;rintro en w4 ⟨v4,rfl,hv4,rq,D0⟩;have cn4:w4.cell? ⟨nb,no+j,none⟩=some (str nj):=(rq.cell (p:=⟨nb,no+j,none⟩) (n_ _ _ cn) (HF.out _ HJ.out.2.2.2.2.2.1)).trans cn;have H4:=n7 (n8 (HQ.out.1.trans rq) D0);clear rq D0 cn ct;by_cases hv40:v4=0
        ·subst hv40;clear hv4;go_wp2_with fail
         go_round
         case rel=>exact ⟨j,_,Q+1,rfl,by omega,by go_num,by omega,H4.out.1,H4.out.2⟩
         case measure=>simp only [intOf];omega
        ·have hv4':decide ((0:Int)<(v4:Int))=true:=decide_eq_true (by omega);go_wp2_with fail
         go_ret;have h1:=HN1.out nj (OI HJ.out.1);have h2:=HC.out;exact ⟨nj,rfl,by omega,H4.out.1,H4.out.2.mono (by omega)⟩
   rw [show ((0:Nat):Int)-1 = -1 from rfl];have HM:Hid (∃ Q,Q<=P+1+ns.length/\But (· = rd) w wr/\jN wr rd Q):=n7 ⟨Q,by omega,aP,BB⟩;clear aP hQ BB;by_cases hwb:want=[98]
   ·subst hwb;have q98:(([98]:Bs) == [98])=true:=rfl;obtain ⟨Q',hQ',rS,iF⟩:=HM.out;have sS:=iF.lt;clear HM;go_wp2_with fail
    refine (gN rd Q' _ yZ _ (iF.alloc _) (wC.new sS yZ 3 rfl _) (by decide) (by decide) (by omega)).mono ?_;rintro en w5 ⟨s,hs,rfl,rx,E4⟩;have tJ:=eO hs;have H5:=n7 (n8 ((rS.alloc _).trans rx) E4);clear hs rx E4 rS iF;go_wp2_with fail
    go_ret;have h2:=HC.out;exact ⟨s,rfl,by omega,H5.out.1,H5.out.2.mono (by omega)⟩
   have q98:(want == [98])=false:=by rw [beq_eq_false_iff_ne];exact hwb
   clear hwb
   go_wp2_with fail)
 all_goals (
  obtain ⟨Q,hQ,JG,Dw⟩:=HM.out;have hC1:=HC.out.1;refine (wu rd Q 6 _ Dw (by omega) (by omega) (by omega)).mono ?_;rintro en w6 ⟨v6,rfl,Kq,rC,tB⟩;have H6:Hid (But (· = rd) w w6/\jN w6 rd (Q+1)):=n7 (n8 (JG.trans rC) tB);have Mp:=tB.lt;have LQ:uR F w ts (.slice ta ns.length tc):=by rw [<- In.out];exact HRT.out
  have Of:=n7 LQ;clear JG Dw rC tB HM LQ hC1
  have JOIN:Hid (∀ (wq:World) (Q':Nat),But (· = rd) w wq->jN wq rd Q'->Q'+C'<=1099511627776->-2<z->∀ want':Bs,want'.length<=want.length+20 ->
   Calls No 56 #[.pointer (some ⟨rd,0,none⟩),.slice na ns.length nc,.slice ta ns.length tc,str want',.int .i64 (z-1)] wq (TermD rd (Q'+C') L' wq)):=n7 (by
   intro wq Q' sJ hrw hq hz want' rB
   exact HO.out hz want' rB ns ts _ _ F wq Q' In.out (by omega) HN1.out (HRN.out.but sJ HF.out) (Of.out.but sJ HF.out) HF.out hrw hq)
  by_cases h0:v6=0/\-2<z
  ·obtain ⟨rfl,lq⟩:=h0;have NL:=HC.out.2.1 lq;have ND:=HC.out.2.2.2 lq;have Aj:=n7 lq;have BY:=n7 (n8 NL (n8 ND hQ));have DF:decide ((-2:Int)<z)=true:=decide_eq_true lq;clear lq Kq NL ND hQ;go_wp2_with fail
   refine (gN rd (Q+1) _ bL _ (H6.out.2.alloc _) (wC.new Mp bL 3 rfl _) (by decide) (by decide) (by have:=BY.out;omega)).mono ?_;rintro en w7 ⟨kd,Bi,rfl,rP,iq⟩;have hk7:=kind_len Bi;have H7:Hid (But (· = rd) w w7/\jN w7 rd (Q+2)):=n7 (n8 ((H6.out.1.alloc _).trans rP) iq);obtain ⟨O1,m1,a1⟩:=jL [40,62,32] kd 10 (by simp;omega) (by omega);obtain ⟨O2,m2,a2⟩:=jL O1 [32] 11 (by simp;omega) (by omega);obtain ⟨O3,m3,a3⟩:=jL O2 want (want.length+11) (by omega) (by omega);obtain ⟨O4,m4,a4⟩:=jL O3 [41] (want.length+12) (by simp;omega) (by omega);have HK7:=n7 hk7;clear Bi rP iq hk7;go_wp2_with fail
   (with_reducible refine (JOIN.out w7 (Q+2) H7.out.1 H7.out.2 (by have:=BY.out;omega) Aj.out O4 (by omega)).mono ?_);rintro en w8 ⟨s8,rfl,Gq,sP,io⟩
   have H8:Hid (But (· = rd) w w8/\jN w8 rd (Q+2+C')):=n7 (n8 (H7.out.1.trans sP) io);obtain ⟨O5,m5,a5⟩:=jL [40,97,112,112,32] s8 (L'+5) (by simp;omega) (by omega);obtain ⟨O6,m6,a6⟩:=jL O5 [32] (L'+6) (by simp;omega) (by omega);clear sP io;go_wp2_with fail
   (with_reducible refine (JOIN.out w8 (Q+2+C') H8.out.1 H8.out.2 (by have:=BY.out;omega) Aj.out kd (by have:=HK7.out;omega)).mono ?_);rintro en w9 ⟨s9,rfl,Kr,sh,Co⟩
   have H9:Hid (But (· = rd) w w9/\jN w9 rd (Q+2+C'+C')):=n7 (n8 (H8.out.1.trans sh) Co);obtain ⟨O7,m7,a7⟩:=jL O6 s9 (L'+6+L') (by omega) (by omega);obtain ⟨O8,m8,a8⟩:=jL O7 [41] (L'+7+L') (by simp;omega) (by omega);clear sh Co;go_wp2_with fail
   go_ret;have h1:=BY.out;exact ⟨O8,rfl,by omega,H9.out.1,H9.out.2.mono (by omega)⟩
  by_cases h12:(v6=1\/v6=2)/\-2<z
  ·obtain ⟨h12,lq⟩:=h12;have NL:=HC.out.2.1 lq;have ND:=HC.out.2.2.2 lq;have Aj:=n7 lq;have BY:=n7 (n8 NL (n8 ND hQ));have DF:decide ((-2:Int)<z)=true:=decide_eq_true lq;clear lq Kq NL ND hQ h0;have C1:=n7 (JOIN.out w6 (Q+1) H6.out.1 H6.out.2 (by have:=BY.out;omega) Aj.out [98] (by simp));rcases h12 with rfl | rfl
   all_goals (
    go_wp2_with fail
    (with_reducible refine C1.out.mono ?_)
    rintro en w8 ⟨s8,rfl,Gq,sP,io⟩;have H8:Hid (But (· = rd) w w8/\jN w8 rd (Q+1+C')):=n7 (n8 (H6.out.1.trans sP) io);obtain ⟨O5,m5,a5⟩:=jL [40,105,102,32] s8 (L'+4) (by simp;omega) (by omega);obtain ⟨O6,m6,a6⟩:=jL O5 [32] (L'+5) (by simp;omega) (by omega);clear sP io C1;go_wp2_with fail
    (with_reducible refine (JOIN.out w8 (Q+1+C') H8.out.1 H8.out.2 (by have:=BY.out;omega) Aj.out want (by omega)).mono ?_)
    rintro en w9 ⟨s9,rfl,Kr,sh,Co⟩;have H9:Hid (But (· = rd) w w9/\jN w9 rd (Q+1+C'+C')):=n7 (n8 (H8.out.1.trans sh) Co);obtain ⟨O7,m7,a7⟩:=jL O6 s9 (L'+5+L') (by omega) (by omega);obtain ⟨O8,m8,a8⟩:=jL O7 [32] (L'+6+L') (by simp;omega) (by omega);clear sh Co;go_wp2_with fail
    (with_reducible refine (JOIN.out w9 (Q+1+C'+C') H9.out.1 H9.out.2 (by have:=BY.out;omega) Aj.out want (by omega)).mono ?_)
    rintro en Al ⟨s10,rfl,hs10,ie,BC⟩;have Iv:Hid (But (· = rd) w Al/\jN Al rd (Q+1+C'+C'+C')):=n7 (n8 (H9.out.1.trans ie) BC);obtain ⟨O9,m9,a9⟩:=jL O8 s10 (L'+6+L'+L') (by omega) (by omega);obtain ⟨O10,m10,Gc⟩:=jL O9 [41] (L'+7+L'+L') (by simp;omega) (by omega);clear ie BC;go_wp2_with fail
    go_ret;have h1:=BY.out
    exact ⟨O10,rfl,by omega,Iv.out.1,Iv.out.2.mono (by omega)⟩)
  have tS:(v6=0/\decide ((-2:Int)<z)=false)\/((v6=1\/v6=2)/\decide ((-2:Int)<z)=false)\/(((v6:Int) == 0)=false/\((v6:Int) == 1)=false/\((v6:Int) == 2)=false):=by
   by_cases Kn : -2<z
   ·refine .inr (.inr ⟨?_,?_,?_⟩) <;> rw [beq_eq_false_iff_ne] <;> omega
   ·have hd:decide ((-2:Int)<z)=false:=decide_eq_false Kn;by_cases k0:v6=0
    ·exact .inl ⟨k0,hd⟩
    by_cases Lm:v6=1\/v6=2
    ·exact .inr (.inl ⟨Lm,hd⟩)
    ·refine .inr (.inr ⟨?_,?_,?_⟩) <;> rw [beq_eq_false_iff_ne] <;> omega
  have CT:=n7 (x5 want (show _<=_ by omega) w6);have BY:=n7 (n8 HC.out.1 (n8 HC.out.2.2.1 hQ));obtain ⟨tt,htt⟩:=zzN ((zR want).1);obtain ⟨qq,Jg⟩:=zzN ((zR want).2);have HTQ:Hid ((zR want).1=tt/\(zR want).2=qq):=n7 ⟨htt,Jg⟩
  have Br:Hid (Calls No 36 #[str want] w6 fun en w'=>∃ v,en=.returned (.tuple #[.agg #[v],.bool qq])/\Below w6.heap.size w6 w'/\Rep (w6.heap.size<=·) w' (k9 tt) v):=n7 (by
   have:=CT.out;unfold TypePost at this;rw [htt,Jg] at this;exact this)
  clear h0 h12 Kq CT htt Jg hQ;rcases tS with ⟨rfl,DF⟩ | ⟨rfl | rfl,DF⟩ | ⟨A7,CQ,DF⟩
  all_goals (
   go_wp2_with fail
   (with_reducible refine Br.out.mono ?_)
   rintro en w7 ⟨tv,rfl,rP,sM⟩;obtain ⟨ta7,Dl,etv⟩:=kP sM;subst etv;rw [jQ] at sM;have hlt7:rd<w7.heap.size:=rQ Mp rP.size;have H7:Hid (But (· = rd) w w7/\jN w7 rd (Q+1)):=n7 (mI H6.out rP);have HRT7:=n7 sM;clear rP sM Br;cases qq with
   | false =>
     go_wp2_with fail
     refine (gN rd (Q+1) _ yZ _ ((H7.out.2.alloc _).alloc _) (wC.newAt (by simp;omega) yZ 3 rfl _ (w7.heap.size+1) (by simp)) (by decide) (by decide) (by have:=BY.out;omega)).mono ?_;rintro en w8 ⟨s,hs,rfl,sP,io⟩;have tJ:=eO hs;have H8:=n7 (n8 (((H7.out.1.alloc _).alloc _).trans sP) io);clear hs sP io;go_wp2_with fail
     go_ret;have h2:=BY.out;exact ⟨s,rfl,by omega,H8.out.1,H8.out.2.mono (by omega)⟩
   | true =>
     cases lK:tt.args with
     | nil =>
       simp only [List.length_nil];clear lK;go_wp2_with fail
       refine (gN rd (Q+1) _ yZ _ ((H7.out.2.alloc _).alloc _) (wC.newAt (by simp;omega) yZ 3 rfl _ (w7.heap.size+1) (by simp)) (by decide) (by decide) (by have:=BY.out;omega)).mono ?_;rintro en w8 ⟨s,hs,rfl,sP,io⟩;have tJ:=eO hs;have H8:=n7 (n8 (((H7.out.1.alloc _).alloc _).trans sP) io);clear hs sP io;go_wp2_with fail
       go_ret;have h2:=BY.out;exact ⟨s,rfl,by omega,H8.out.1,H8.out.2.mono (by omega)⟩
     | cons a rest =>
       have Gs:=HRT7.out;simp only [OD];rw [lK,OD,qI] at Gs;have ett:tt=.mk (a::rest):=by cases tt;simp only [Ty.args] at lK;rw [lK]
       have rR:zJ tt<=15:=by have h:=HTQ.out;rw [<- h.1];exact vV h.2
       rw [ett,jd] at rR;have p1:=ke a;have p2:=ke (.mk rest);have LA:=wK (t:=a) (by omega);have Ly:=wK (t:=.mk rest) (by omega);have Hr:rest.length<=15:=by have:=args_len (.mk rest);simp only [Ty.args] at this;omega
       obtain ⟨ae,cape,ee,hcap,_,rX⟩:=zP Gs;simp only [Value.slice.injEq] at ee;obtain ⟨rfl,_,rfl⟩:=ee;obtain ⟨eb,eo,u,d,ea,hF7,rH,hd,hc,tq⟩:=rX 0 (by omega);subst ea;simp only [List.getElem?_cons_zero,Oz] at hd;subst hd;rw [SI] at hc;have hcW:=zV (o:=.cells #[.slice (some ⟨eb,eo,none⟩) (rest.length+1) Dl] 42) hc;have LN:Rep (w6.heap.size<=·) (w7.alloc (.cells #[.slice (some ⟨eb,eo,none⟩) (rest.length+1) Dl] 42)) (k9 a) u:=(Rep.keep fun b o h ho=>⟨h,zY ho⟩).1 _ _ tq;have hFW:(w7.alloc (.cells #[.slice (some ⟨eb,eo,none⟩) (rest.length+1) Dl] 42)).cell? ⟨w7.heap.size,0,none⟩=some (.slice (some ⟨eb,eo,none⟩) (rest.length+1) Dl):=by simp
       have HRR:Hid (∀ v,Rep (w6.heap.size<=·) w7 (k9 (.mk rest)) v->∀ wz,Below (w7.heap.size+1) (w7.alloc (.cells #[.slice (some ⟨eb,eo,none⟩) (rest.length+1) Dl] 42)) wz ->
        Calls No 44 #[.agg #[v]] wz fun en w'=>en=.returned (str (zL (.mk rest)))/\Below wz.heap.size wz w'):=n7 (fun v hv wz hz =>
        ui 15 (.mk rest) (by omega) (by omega) (fun _=>True) wz v ((Rep.keep fun b o _ ho=>⟨trivial,by rw [hz.block b (by have:=zZ ho;omega)];exact zY ho⟩).1 _ _ hv))
       have C1:=n7 (ui 15 a (by omega) (by omega) (w6.heap.size<=·) _ u LN);have Ob:Hid (¬ Dl=1->Rep (w6.heap.size<=·) w7 (k9 (.mk rest)) (.slice (some ⟨eb,eo+1,none⟩) rest.length (Dl-1))):=n7 (fun _=>by rw [jQ];exact ph (d:=k9 a) Gs)
       have HEnd:Hid (Dl=1->rest=[]/\Rep (w6.heap.size<=·) w7 (k9 (.mk rest)) (.slice (some ⟨eb,eo,none⟩) rest.length 0)):=n7 (fun h=>by
        have e:rest=[]:=by cases rest with
         | nil=>rfl
         | cons x xs=>simp at hcap;omega
        refine ⟨e,?_⟩;subst e;rw [jQ]
        exact zh.2 ⟨by simp [qI,Ty.args],_,_,rfl,Nat.zero_le _,fun h=>by simp at h,.inl rfl⟩)
       have HTT:=n7 (n8 lK ett);have HCAP:=n7 hcap;obtain ⟨A,hA⟩:=zzN (zL a);obtain ⟨B,hB⟩:=zzN (zL (.mk rest));have HB:=n7 hB;rw [hA] at C1 LA;rw [hB] at HRR Ly;clear Gs rX hF7 rH hc tq LN lK ett rR p1 p2 hA hB hcap;go_wp2_with fail
       (with_reducible refine C1.out.mono ?_);rintro en w8 ⟨rfl,sP⟩
       have hF8:=(sP.cell (n_ _ _ hFW)).trans hFW;have Iu:=n7 sP;clear sP hFW hcW C1;have hTC:(Dl=1/\∃ rc:Nat,rc=0/\Rep (w6.heap.size<=·) w7 (k9 (.mk rest)) (.slice (some ⟨eb,eo,none⟩) rest.length rc))\/(¬ Dl=1/\Rep (w6.heap.size<=·) w7 (k9 (.mk rest)) (.slice (some ⟨eb,eo+1,none⟩) rest.length (Dl-1))):=by
        by_cases h:Dl=1
        ·exact .inl ⟨h,0,rfl,(HEnd.out h).2⟩
        ·exact .inr ⟨h,Ob.out h⟩
       rcases hTC with ⟨Hj,rc,Gt,iJ⟩ | ⟨Hj,iJ⟩
       all_goals (
        have CB:=n7 (HRR.out _ iJ w8 (Iu.out.mono (by simp)));clear iJ;try subst Gt
        go_wp2_with fail
        (with_reducible refine CB.out.mono ?_)
        rintro en w9 ⟨rfl,sh⟩
        have H9:Hid (But (· = rd) w w9/\jN w9 rd (Q+1)):=n7 (by
         have h1:But (· = rd) w (w7.alloc (.cells #[.slice (some ⟨eb,eo,none⟩) (rest.length+1) Dl] 42))/\jN (w7.alloc (.cells #[.slice (some ⟨eb,eo,none⟩) (rest.length+1) Dl] 42)) rd (Q+1):=⟨H7.out.1.alloc _,H7.out.2.alloc _⟩
         exact mI (mI h1 Iu.out) sh)
        have hlt9:=H9.out.2.lt;clear sh hF8 CB;go_wp2_with fail
        refine (gN rd (Q+1) _ bS _ (H9.out.2.alloc _) (wC.new hlt9 bS 3 rfl _) (by decide) (by decide) (by have:=BY.out;omega)).mono ?_;rintro en Al ⟨x,hx,rfl,ie,BC⟩;have Ap:=name_len1 hx;have Iv:Hid (But (· = rd) w Al/\jN Al rd (Q+2)):=n7 (n8 ((H9.out.1.alloc _).trans ie) BC);obtain ⟨O1,m1,a1⟩:=jL [40,108,97,109,32] x 6 (by simp;omega) (by omega);obtain ⟨O2,m2,a2⟩:=jL O1 [32] 7 (by simp;omega) (by omega);obtain ⟨O3,m3,a3⟩:=jL O2 A 97 (by omega) (by omega);obtain ⟨O4,m4,a4⟩:=jL O3 [32] 98 (by simp;omega) (by omega);clear hx ie BC;have iC:=n7 Ap;clear Ap;have srcN:zu 1 (.slice na ns.length nc) ns.length (ns.map str) Al:=(HRN.out.but Iv.out.1 HF.out).src;have srcT:zu 1 (.slice ta ns.length tc) ns.length (ts.map str) Al:=by
         have h:=(Of.out.but Iv.out.1 HF.out).src;rw [In.out] at h;exact h
        have SRC:=n7 (n8 srcN srcT);clear srcN srcT;go_wp2_with (at_builtin;refine zM rfl _ _ 50 rfl 9 (str []) 1 16 Qu Tryz.infoStr rfl (by decide) (.slice (some ⟨Al.heap.size,0,none⟩) 0 0) 0 [] rfl ?c1 _ ns.length (ns.map str) rfl ?c2 ?c3 ?c4 ?_)
        case c1=>exact Own.litAt #[] 0 _ rfl (by decide) rfl
        case c2=>exact SRC.out.1.alloc _
        case c3=>unfold maxLen;omega
        case c4=>omega
        intro a11 c11 iz Mb Az MO;obtain ⟨NP,MW⟩:=vj (v':=.slice a11 ns.length c11) ((rZ _ Al).alloc (n9 _) _) (gF (n9 _)) Az (fun g h=>by rw [zK];exact MO g h);have N_:=n7 (n8 Mb (n8 NP MW));clear Mb Az MO NP MW;go_wp2_with (at_builtin;refine zM rfl _ _ 50 rfl 9 (str []) 1 16 Qu Tryz.infoStr rfl (by decide) (.slice a11 ns.length c11) ns.length (ns.map str) rfl ?c1 _ 1 [str x] rfl ?c2 ?c3 ?c4 ?_)
        case c1=>exact N_.out.1.keep fun g o _ ho=>zY ho
        case c2=>exact zu.lit rfl
        case c3=>unfold maxLen;omega
        case c4=>omega
        intro a12 c12 K8 BE ia MN;obtain ⟨NO,MU⟩:=vj (v':=.slice a12 (ns.length+1) c12) (N_.out.2.1.alloc N_.out.2.1.size _) N_.out.2.2 ia (fun g h=>by rw [zK];exact MN g h);have J4:=n7 (n8 BE (n8 NO MU));clear BE ia MN NO MU N_;go_wp2_with (at_builtin;refine zM rfl _ _ 50 rfl 9 (str []) 1 16 Qu Tryz.infoStr rfl (by decide) (.slice (some ⟨K8.heap.size,0,none⟩) 0 0) 0 [] rfl ?c1 _ ns.length (ts.map str) rfl ?c2 ?c3 ?c4 ?_)
        case c1=>exact Own.litAt #[] 0 _ rfl (by decide) rfl
        case c2=>exact (SRC.out.2.belowAll J4.out.2.1 (n9 _)).alloc _
        case c3=>unfold maxLen;omega
        case c4=>omega
        intro El c13 w13 Ma Nk MM;obtain ⟨NN,MT⟩:=vj (v':=.slice El ns.length c13) (w:=K8) ((rZ _ K8).alloc (n9 _) _) (gF (n9 _)) Nk (fun g h=>by rw [zK];exact MM g h);have N9:=n7 (n8 Ma (n8 NN MT));clear Ma Nk MM NN MT;go_wp2_with (at_builtin;refine zM rfl _ _ 50 rfl 9 (str []) 1 16 Qu Tryz.infoStr rfl (by decide) (.slice El ns.length c13) ns.length (ts.map str) rfl ?c1 _ 1 [str A] rfl ?c2 ?c3 ?c4 ?_)
        case c1=>exact N9.out.1.keep fun g o _ ho=>zY ho
        case c2=>exact zu.lit rfl
        case c3=>unfold maxLen;omega
        case c4=>omega
        intro a14 c14 Ke L_ Nj ML;obtain ⟨GV,MS⟩:=vj (v':=.slice a14 (ns.length+1) c14) (w:=K8) (N9.out.2.1.alloc N9.out.2.1.size _) N9.out.2.2 Nj (fun g h=>by rw [zK];exact ML g h);have aB:But (· = rd) Al Ke:=(But.ofBelow J4.out.2.1).trans (But.ofBelow GV);have sw:Al.heap.size<=K8.heap.size:=J4.out.2.1.size;have Mq:=Iv.out.2.lt;have rN:uR (·≠rd) Ke (ns++[x]) (.slice a12 (ns.length+1) c12):=Own.strsRep (by rw [QF];exact J4.out.1.keep fun g o _ ho=>by rw [GV.block g (zZ ho)];exact ho) (by simp) (fun g hg=>by have:=J4.out.2.2 g hg;omega);have rT:uR (·≠rd) Ke (ts++[A]) (.slice a14 (ns.length+1) c14):=Own.strsRep (by rw [QF];exact L_) (by simp [In.out]) (fun g hg=>by have:=MS g hg;omega);have H14:Hid (But (· = rd) w Ke/\jN Ke rd (Q+2)):=n7 ⟨Iv.out.1.trans aB,Iv.out.2.below ((J4.out.2.1).trans (GV.mono sw))⟩
        have CL:=n7 (HL.out HTQ.out.2 a rest (by rw [HTQ.out.1];exact HTT.out.1) (ns++[x]) (ts++[A]) _ _ (·≠rd) Ke (Q+2) (by simp [In.out]) (by simp;omega) (fun y hy=>by
         rcases List.mem_append.1 hy with h | h
         ·exact HN1.out y h
         ·simp at h;subst h;exact iC.out) rN rT (fun i h=>h) H14.out.2 (by have:=BY.out;omega))
        rw [HB.out] at CL;clear L_ Nj ML GV MS aB sw Mq rN rT J4 N9 SRC;go_wp2_with fail
        (with_reducible refine CL.out.mono ?_)
        rintro en w15 ⟨s15,rfl,hs15,iA,oM⟩;have Ot:Hid (But (· = rd) w w15/\jN w15 rd (Q+2+C')):=n7 (n8 (H14.out.1.trans iA) oM);obtain ⟨O5,m5,a5⟩:=jL O4 s15 (98+L') (by omega) (by omega);obtain ⟨O6,m6,a6⟩:=jL O5 [41] (99+L') (by simp;omega) (by omega);clear iA oM CL;go_wp2_with fail
        go_ret;have h1:=BY.out
        exact ⟨O6,rfl,by omega,Ot.out.1,Ot.out.2.mono (by omega)⟩)))
theorem l92_low (rd:Nat):∀ (n:Nat) (z:Int) (want:Bs) (N:Nat),n<=16->z<=-2->-500<=z-n->want.length<=2000->N+n<=90->((zR want).2=true->zJ (zR want).1<=n) ->
 DrawT rd N (110*(n+1)) (220*(n+1)) z want
 | 0,z,want,N,_,h1,h2,h3,h4,h5=>mi rd N 0 0 _ _ z want (by omega) (by omega) h3 (by omega)
  (fun h a rest e=>by have:=h5 h;have:=ke (zR want).1;omega) (fun h=>by omega) (by omega) (fun h=>by omega) (by omega) (fun h=>by omega) (by omega)
 | n + 1,z,want,N,h0,h1,h2,h3,h4,h5=>mi rd N (110*(n+1)) (220*(n+1)) _ _ z want (by omega) (by omega) h3 (by omega)
     (fun h a rest e=>by
      have h6:=h5 h;have h7:=vV h;have ett:(zR want).1=.mk (a::rest):=by cases hq:(zR want).1;rw [hq] at e;simp only [Ty.args] at e;rw [e]
      rw [ett,jd] at h6 h7;have p1:=ke a;have rR:zJ (.mk rest)<=15:=by omega
      refine l92_low rd n (z-1) _ (N+1) (by omega) (by omega) (by omega) (by have:=wK rR;omega) (by omega) (fun _=>?_)
      rw [uz rR];show zJ (.mk rest)<=n;omega)
     (fun h=>by omega) (by omega) (fun h=>by omega) (by omega) (fun h=>by omega) (by omega)
def drC:Nat->Nat
 | 0=>1870
 | k+1=>3*drC k+110
def drL:Nat->Nat
 | 0=>3740
 | k+1=>3*drL k+220
theorem drC5:drC 5=467720:=by decide
theorem dr_le:∀ k,k<=5->drL k<=935440:=by
 intro k hk;have:k=0\/k=1\/k=2\/k=3\/k=4\/k=5:=by omega
 rcases this with rfl | rfl | rfl | rfl | rfl | rfl <;> decide
theorem ml (rd:Nat):∀ (k:Nat) (z:Int) (want:Bs) (N:Nat),k<=5->z<=(k:Int)-2->-100<=z->want.length+20*k<=1000->N+k<=50->DrawT rd N (drC k) (drL k) z want
 | 0,z,want,N,_,h1,h2,h3,h4=>l92_low rd 16 z want N (by omega) (by omega) (by omega) (by omega) (by omega) (fun h=>by have:=vV h;omega)
 | k+1,z,want,N,h0,h1,h2,h3,h4=>by
   by_cases hz : -2<z
   ·refine mi rd N (drC k) (drL k) _ _ z want (by omega) (by omega) (by omega) (by omega)
     (fun h a rest e=>?_) (fun _ want' hw=>ml rd k (z-1) want' (N+1) (by omega) (by omega) (by omega) (by omega) (by omega))
     (by rw [drC];omega) (fun _=>by rw [drC];omega) (by rw [drL];omega) (fun _=>by rw [drL];omega) (by have:=dr_le k (by omega);omega)
    have h7:=vV h;have ett:(zR want).1=.mk (a::rest):=by cases hq:(zR want).1;rw [hq] at e;simp only [Ty.args] at e;rw [e]
    rw [ett,jd] at h7;have p1:=ke a;have rR:zJ (.mk rest)<=15:=by omega
    exact ml rd k (z-1) _ (N+1) (by omega) (by omega) (by omega) (by have:=wK rR;omega) (by omega)
   ·intro ns ts nv tv F w P g1 g2 g3 g4 g5 g6 g7 g8;have c:∀ k,1870<=drC k/\3740<=drL k:=by
     intro k
     induction k with
     | zero=>exact ⟨by decide,by decide⟩
     | succ k ih=>rw [drC,drL];omega
    have hc:=c (k+1);refine (l92_low rd 16 z want N (by omega) (by omega) (by omega) (by omega) (by omega) (fun h=>by have:=vV h;omega) ns ts nv tv F w P g1 g2 g3 g4 g5 g6 g7 (by omega)).mono ?_;rintro en w' ⟨s,e,hs,hb,hr⟩;exact ⟨s,e,by omega,hb,hr.mono (by omega)⟩
theorem l92Good_any (rd P:Nat) (s:Bs) (w:World) (hs:s.length<=100) (h:jN w rd P) (hP:P+1000000<=1099511627776) :
 Calls No 24 #[.pointer (some ⟨rd,0,none⟩),str s] w (TermD rd (P+500000) 935440 w):=by
 have rH:=h.lt;have H:=n7 h;clear h;go_enter Tryz.func24,Tryz.ntmps24;go_wp2_with fail
 refine (wu rd P 3 _ ((H.out.alloc _).alloc _) (by omega) (by omega) (by omega)).mono ?_;rintro en w1 ⟨v,rfl,hv,rW,tX⟩;have zv:=wrap_one v hv;have hzv:1+(v:Int)<=3:=by omega
 have H1:Hid (But (· = rd) w w1/\jN w1 rd (P+1)):=n7 ⟨(((But.refl _ w).alloc _).alloc _).trans rW,tX⟩
 have C:Hid (Calls No 56 #[.pointer (some ⟨rd,0,none⟩),.slice (some ⟨w.heap.size,0,none⟩) 0 0,.slice (some ⟨w.heap.size+1,0,none⟩) 0 0,str s,.int .i64 (1+(v:Int))] w1 (TermD rd (P+1+drC 5) (drL 5) w1)) :=
  n7 (ml rd 5 (1+(v:Int)) s 0 (by omega) (by omega) (by omega) (by omega) (by omega) [] [] _ _ (fun _=>False) w1 (P+1) rfl (by simp) (by simp)
   (zh.2 ⟨rfl,_,_,rfl,n9 _,fun h=>by simp at h,.inl rfl⟩) (zh.2 ⟨rfl,_,_,rfl,n9 _,fun h=>by simp at h,.inl rfl⟩) (fun i h=>h.elim) H1.out.2 (by rw [drC5];omega))
 clear hv rW tX hzv;go_wp2_with fail
 (with_reducible refine C.out.mono ?_)
 rintro en w2 ⟨t,rfl,ht,rY,tx⟩;have H2:=n7 (n8 ht (n8 (H1.out.1.trans rY) tx));clear ht rY tx;go_wp2_with fail
 go_ret;have e1:drC 5=467720:=by decide
 have e2:drL 5=935440:=by decide
 have h2:=H2.out;rw [e1,e2] at h2;exact ⟨t,rfl,h2.1,h2.2.1,h2.2.2.mono (by omega)⟩
def oddTm0:List Bs:=[[],[120],[40,97,112,112,32,116,32,116,41],[40,105,102,32,116,32,102,41],[40,108,97,109,32,120,32,98,32,121,41],[40,108,97,109,32,97,32,98,32,97,41],[40,105,102,32,40,108,97,109,32,120,32,98,32,120,41,32,116,32,102,41],[40,97,112,112,32,40,108,97,109,32,120,32,98,32,120,41,32,40,108,97,109,32,120,32,98,32,120,41,41],[116,32]]
def oddTm1:List Bs:=[[40,108,97,109,32,120,32,40,62,32,98,32,98,41,32,40,97,112,112,32,120,32,40,97,112,112,32,120,32,116,41,41,41],[40,108,97,109,32,120,32,98,32,40,105,102,32,120,32,102,32,116,41,41],[40,97,112,112,32,40,108,97,109,32,120,32,40,62,32,98,32,98,41,32,40,97,112,112,32,120,32,40,97,112,112,32,120,32,116,41,41,41,32,40,108,97,109,32,120,32,98,32,40,105,102,32,120,32,102,32,116,41,41,41],[40,108,97,109,32,120,32,40,62,32,40,62,32,98,32,98,41,32,98,41,32,40,97,112,112,32,120,32,40,108,97,109,32,121,32,98,32,40,97,112,112,32,120,32,40,108,97,109,32,122,32,98,32,121,41,41,41,41,41],[40,108,97,109,32,120,32,40,62,32,98,32,98,41,32,40,108,97,109,32,121,32,98,32,40,105,102,32,121,32,40,97,112,112,32,120,32,121,41,32,117,41,41,41],[40,105,102,32,40,97,112,112,32,40,108,97,109,32,120,32,98,32,120,41,32,116,41,32,40,108,97,109,32,120,32,98,32,120,41,32,40,108,97,109,32,120,32,98,32,102,41,41]]
theorem odd0_len {s:Bs} (h:s∈oddTm0):s.length<=100:=by
 simp only [oddTm0,OX,PR,or_false] at h;rcases h with rfl | rfl | rfl | rfl | rfl | rfl | rfl | rfl | rfl <;> decide
theorem odd1_len {s:Bs} (h:s∈oddTm1):s.length<=100:=by
 simp only [oddTm1,OX,PR,or_false] at h;rcases h with rfl | rfl | rfl | rfl | rfl | rfl <;> decide
theorem l92Odd_any (rd P:Nat) (w:World) (h:jN w rd P) (hP:P+1500000<=1099511627776) :
 Calls No 10 #[.pointer (some ⟨rd,0,none⟩)] w (TermD rd (P+600000) 935440 w):=by
 go_enter Tryz.func10,Tryz.ntmps10;go_wp2_with fail
 refine (wu rd P 12 w h (by omega) (by omega) (by omega)).mono ?_;rintro en w1 ⟨v,rfl,hv,rW,tX⟩;have rH:=tX.lt;have H1:=n7 (n8 rW tX);clear h rW tX;have hc:v=0\/(v=1\/v=2)\/(((v:Int) == 0)=false/\((v:Int) == 1)=false/\((v:Int) == 2)=false):=by
  by_cases k0:v=0
  ·exact .inl k0
  by_cases Lm:v=1\/v=2
  ·exact .inr (.inl Lm)
  ·refine .inr (.inr ⟨?_,?_,?_⟩) <;> rw [beq_eq_false_iff_ne] <;> omega
 rcases hc with rfl | Lm | ⟨A7,CQ,DF⟩
 ·go_wp2_with fail
  refine (gN rd (P+1) _ oddTm0 _ (H1.out.2.alloc _) (wC.new rH oddTm0 9 rfl _) (by decide) (by decide) (by omega)).mono ?_;rintro en w2 ⟨s,hs,rfl,rY,tx⟩;have tJ:=odd0_len hs;have H2:=n7 (n8 ((H1.out.1.alloc _).trans rY) tx);clear hs rY tx;go_wp2_with fail
  go_ret;exact ⟨s,rfl,by omega,H2.out.1,H2.out.2.mono (by omega)⟩
 ·rcases Lm with rfl | rfl
  all_goals (
   go_wp2_with fail
   refine (gN rd (P+1) _ oddTm1 _ (H1.out.2.alloc _) (wC.new rH oddTm1 6 rfl _) (by decide) (by decide) (by omega)).mono ?_;rintro en w2 ⟨s,hs,rfl,rY,tx⟩;have tJ:=odd1_len hs;have H2:=n7 (n8 ((H1.out.1.alloc _).trans rY) tx);clear hs rY tx;go_wp2_with fail
   go_ret
   exact ⟨s,rfl,by omega,H2.out.1,H2.out.2.mono (by omega)⟩)
 ·clear hv;go_wp2_with fail
  refine (l91Type_any rd (P+1) w1 H1.out.2 (by omega)).mono ?_;rintro en w2 ⟨s,hs,rfl,rY,tx⟩;have tJ:=(type_ok hs).2;have H2:=n7 (n8 (H1.out.1.trans rY) tx);clear hs rY tx;go_wp2_with fail
  (with_reducible refine (l92Good_any rd (P+1+1) s w2 tJ H2.out.2 (by omega)).mono ?_);rintro en w3 ⟨t,rfl,ht,rE,lw⟩
  have H3:=n7 (n8 ht (n8 (H2.out.1.trans rE) lw));clear ht rE lw;go_wp2_with fail
  go_ret;exact ⟨t,rfl,H3.out.1,H3.out.2.1,H3.out.2.2.mono (by omega)⟩
def DrawnT (w:World) (en:Ending) (w':World):Prop:=∃ s:Bs,en=.returned (str s)/\s.length<=1000000/\Below w.heap.size w w'
theorem gw (a0:Option Addr) (len cap:Nat) (zs:List Int) (w:World) (h:Row8 w a0 len cap zs) (hl:len<=1048576) :
 Calls No 4 #[.slice a0 len cap] w (DrawnT w):=by
 go_enter Tryz.func4,Tryz.ntmps4;go_wp2_with fail
 refine (l6Open_any a0 len cap zs w h hl).mono ?_;rintro en w1 ⟨rfl,rW,tX,_⟩;clear h;have sZ:=n7 rW;clear rW;go_wp2_with fail
 (with_reducible refine (l92Odd_any w.heap.size 0 w1 tX (by omega)).mono ?_)
 rintro en w2 ⟨s,rfl,hs,rY,tx⟩;have rh:=n7 (n8 (but_new sZ.out (n9 _) rY) hs);clear tX tx hs rY;go_wp2_with fail
 go_ret;exact ⟨s,rfl,by have:=rh.out.2;omega,rh.out.1⟩

def evFs (f:Bd->List Mn->Nat->List Gf->Option Bd) (env:List Mn) (n:Nat):List Ty->List Bd->Option (List Bd)
 | t::ts,s::ss=>(f s (env++opens n t.args) (n+t.args.length) []).bind fun x=>(evFs f env n ts ss).bind fun xs=>some (x::xs)
 | _,_=>some []
def evF:Nat->Bd->List Mn->Nat->List Gf->Option Bd
 | 0,_,_,_,_=>none
 | d+1,b,env,n,st=>match b with
   | .leaf c=>if c=117 then some (.leaf c) else match st with
     | []=>some (.leaf c)
     | f::st'=>evF d (if c=116 then f.yes else f.no) f.env n st'
   | .ask v ss y no=>match env[v]? with
     | none=>none
     | some (.bd t b' e)=>if ss.length=t.args.length then evF d b' (e++owns env t.args ss) n (⟨y,no,env⟩::st) else none
     | some (.op o t)=>if ss.length=t.args.length then (evFs (evF d) env n t.args ss).bind fun xs=>(evF d y env n st).bind fun x=>(evF d no env n st).bind fun z=>some (.ask o xs x z) else none
mutual
def sbM (s:List Mn):Mn->Mn
 | .op o t=>(s[o]?).getD (.op o t)
 | .bd t b e=>.bd t b (eY s e)
def eY (s:List Mn):List Mn->List Mn
 | []=>[]
 | m::ms=>sbM s m::eY s ms
end
def substGs (s:List Mn):List Gf->List Gf
 | []=>[]
 | f::fs=>⟨f.yes,f.no,eY s f.env⟩::substGs s fs
def tyOf:Mn->Ty
 | .op _ t=>t
 | .bd t _ _=>t
mutual
def scM (H:List Ty):Mn->Prop
 | .op o t=>H[o]? = some t
 | .bd _ _ e=>scMs H e
def scMs (H:List Ty):List Mn->Prop
 | []=>True
 | m::ms=>scM H m/\scMs H ms
end
def scGs (H:List Ty):List Gf->Prop
 | []=>True
 | f::fs=>scMs H f.env/\scGs H fs
mutual
inductive MR:Mn->Mn->Prop
 | op (o:Nat) (t:Ty):MR (.op o t) (.op o t)
 | same {t:Ty} {b:Bd} {e1 e2:List Mn} (h:MRs e1 e2):MR (.bd t b e1) (.bd t b e2)
 | wrote {t:Ty} {b1 b2:Bd} {env s1 s2:List Mn} {d:Nat} {H:List Ty} (h:evF d b2 (env++opens H.length t.args) (H.length+t.args.length) []=some b1) (hs:scMs H env) (hl:s1.map tyOf=H) (hr:MRs s1 s2):MR (.bd t b1 s1) (.bd t b2 (eY s2 env))
inductive MRs:List Mn->List Mn->Prop
 | nil:MRs [] []
 | cons {a b:Mn} {la lb:List Mn} (h:MR a b) (hs:MRs la lb):MRs (a::la) (b::lb)
end
inductive GRs:List Gf->List Gf->Prop
 | nil:GRs [] []
 | same {y no:Bd} {e1 e2:List Mn} {K1 K2:List Gf} (h:MRs e1 e2) (hk:GRs K1 K2):GRs (⟨y,no,e1⟩::K1) (⟨y,no,e2⟩::K2)
 | wrote {x z y no:Bd} {env s1 s2:List Mn} {st K1 K2:List Gf} {d:Nat} {H:List Ty} (hy:evF d y env H.length st=some x) (hn:evF d no env H.length st=some z) (hs:scMs H env) (hg:scGs H st) (hl:s1.map tyOf=H) (hr:MRs s1 s2) (hk:GRs K1 K2) :
  GRs (⟨x,z,s1⟩::K1) (⟨y,no,eY s2 env⟩::(substGs s2 st++K2))
theorem MRs.length:∀ {a b:List Mn},MRs a b->a.length=b.length
 | _,_,.nil=>rfl
 | _,_,.cons _ hs=>by simp [MRs.length hs]
theorem MRs.at:∀ {a b:List Mn},MRs a b->∀ (k:Nat) (m:Mn),a[k]? = some m->∃ m',b[k]? = some m'/\MR m m'
 | _,_,.nil,k,m,h=>by simp at h
 | _,_,.cons h hs,k,m,hk=>by
   cases k with
   | zero=>simp at hk;subst hk;exact ⟨_,rfl,h⟩
   | succ k=>simp only [OE] at *;exact MRs.at hs k m hk
theorem MRs.append:∀ {a b:List Mn},MRs a b->∀ {c d:List Mn},MRs c d->MRs (a++c) (b++d)
 | _,_,.nil,_,_,h=>h
 | _,_,.cons h hs,_,_,k=>.cons h (MRs.append hs k)
mutual
theorem MR.refl:∀ m:Mn,MR m m
 | .op o t=>.op o t
 | .bd t b e=>.same (MRs.refl e)
theorem MRs.refl:∀ ms:List Mn,MRs ms ms
 | []=>.nil
 | m::ms=>.cons (MR.refl m) (MRs.refl ms)
end
theorem MRs.owns {e1 e2:List Mn} (h:MRs e1 e2):∀ (ts:List Ty) (ss:List Bd),MRs (owns e1 ts ss) (Qx e2 ts ss)
 | [],ss=>by
   rw [Qx,Qx]
   ·exact .nil
   all_goals
    intros;contradiction
 | t::ts,[]=>by
   rw [Qx,Qx]
   ·exact .nil
   all_goals
    intros;contradiction
 | t::ts,s::ss=>by
   rw [Qx,Qx];exact .cons (.same h) (MRs.owns h ts ss)
inductive CR:Bd->List Mn->List Gf->Bd->List Mn->List Gf->Prop
 | same {b:Bd} {e1 e2:List Mn} {K1 K2:List Gf} (h:MRs e1 e2) (hk:GRs K1 K2):CR b e1 K1 b e2 K2
 | wrote {b1 b2:Bd} {env s1 s2:List Mn} {st K1 K2:List Gf} {d:Nat} {H:List Ty} (h:evF d b2 env H.length st=some b1) (hs:scMs H env) (hg:scGs H st) (hl:s1.map tyOf=H) (hr:MRs s1 s2) (hk:GRs K1 K2) :
  CR b1 s1 K1 b2 (eY s2 env) (substGs s2 st++K2)
structure Mixed (env:List Mn) (hand:List Ty):Prop where
 len:env.length=hand.length
 each:∀ i t,hand[i]? = some t->env[i]? = some (Mn.op i t)\/∃ (v:Nat) (e:List Mn),env[i]? = some (Mn.bd t (eta t v e.length) e)/\e[v]? = some (Mn.op i t)
theorem Mixed.opens {env:List Mn} {hand:List Ty} (h:Mixed env hand) (ts:List Ty):Mixed (env++Qy hand.length ts) (hand++ts):=by
 have hl:=h.len;refine ⟨by rw [Ov,Ov,z_,hl],fun i t hi=>?_⟩;rcases PT i hand.length with rH | lR
 ·rw [OJ rH] at hi;rw [OJ (by omega)];exact h.each i t hi
 ·rw [OF lR] at hi;left;rw [OF (by omega),hl,yP ts hand.length _ t hi,show hand.length+(i-hand.length)=i from by omega]
theorem Mixed.more {env:List Mn} {hand:List Ty} (h:Mixed env hand) (e2:List Mn) (ts:List Ty) :
 Mixed (env++owns (e2++Qy hand.length ts) ts (jM ts e2.length (e2.length+ts.length))) (hand++ts):=by
 have hl:=h.len;refine ⟨?_,fun i t hi=>?_⟩
 ·rw [Ov,Ov,xP _ _ (yJ _ _ _).symm,hl]
 ·rcases PT i hand.length with rH | lR
  ·rw [OJ rH] at hi;rw [OJ (by omega)];exact h.each i t hi
  ·rw [OF lR] at hi;have h1:=mZ ts e2.length (e2.length+ts.length) _ t hi;have h2:=bD (env:=e2++Qy hand.length ts) ts _ _ t _ hi h1;have h3:=yP ts hand.length _ t hi;right;refine ⟨e2.length+(i-hand.length),e2++Qy hand.length ts,?_,?_⟩
   ·rw [OF (by omega),hl,h2,Ov,z_]
   ·rw [OF (by omega),PA,h3,show hand.length+(i-hand.length)=i from by omega]
def Waits (st:List Gf):Prop:=st=[]\/∃ e,st=[⟨.leaf 116,.leaf 102,e⟩]
structure Composed (a b c m n out:Bs) (x y z:Ty) (f g o:Bd):Prop where
 ta:zR a=(x,true)
 tb:zR b=(y,true)
 tc:zR c=(z,true)
 ea:a=zL x
 eb:b=zL y
 ec:c=zL z
 gf:fB (z9 x y) f
 gg:fB (z9 y z) g
 em:m=kC f
 en:n=kC g
 ho:j_ g (composeEnv x y f z.args) (1+z.args.length)=some o
 go:fB (z9 x z) o
 eo:out=kC o
theorem Composed.valid {a b c m n out:Bs} {x y z:Ty} {f g o:Bd} (h:Composed a b c m n out x y z f g o):kE (fU a c) out=some o:=by
 rw [h.ea,h.ec,arrowText_eq,h.eo];exact yY h.go
mutual
def xT (f:Nat->Nat) (b:Bd):Bd:=match b with
 | .leaf c=>.leaf c
 | .ask v ss y no=>.ask (f v) (jV f ss) (xT f y) (xT f no)
def jV (f:Nat->Nat) (bs:List Bd):List Bd:=match bs with
 | []=>[]
 | b::bs=>xT f b::jV f bs
end
theorem yj (f:Nat->Nat):∀ bs:List Bd,jV f bs=bs.map (xT f)
 | []=>by rw [jV];rfl
 | b::bs=>by rw [jV,yj f bs];rfl
mutual
theorem dW:∀ b:Bd,xT id b=b
 | .leaf c=>by rw [xT]
 | .ask v ss y no=>by rw [xT,dX ss,dW y,dW no];rfl
theorem dX:∀ bs:List Bd,jV id bs=bs
 | []=>by rw [jV]
 | b::bs=>by rw [jV,dW b,dX bs]
end
def up (n k v:Nat):Nat:=if n<=v then v+k else v
mutual
theorem bU:∀ (b:Bd) (n k:Nat),kW b n k=xT (up n k) b
 | .leaf c,n,k=>by rw [kW,xT]
 | .ask v ss y no,n,k=>by rw [kW,xT,mT ss n k,bU y n k,bU no n k];rfl
theorem mT:∀ (bs:List Bd) (n k:Nat),za bs n k=jV (up n k) bs
 | [],n,k=>by rw [za,jV]
 | b::bs,n,k=>by rw [za,jV,bU b n k,mT bs n k]
end
def eZ (f:Nat->Nat) (N:Nat):Prop:=∀ i,f (N+i)=f N+i
theorem eZ.more {f:Nat->Nat} {N:Nat} (h:eZ f N) (k:Nat):eZ f (N+k):=fun i=>by
 rw [Q6,h,h,Q6]
theorem pV (n k N:Nat) (h:n<=N):eZ (up n k) N:=fun i=>by unfold up;rw [if_pos (by omega),if_pos h];omega
theorem along_id (N:Nat):eZ id N:=fun i=>rfl
mutual
theorem eta_ren:∀ (t:Ty) (v n:Nat) (f:Nat->Nat),eZ f n->xT f (eta t v n)=eta t (f v) (f n)
 | .mk ts,v,n,f,h=>by rw [eta,eta,xT,nC ts n (n+ts.length) f (h.more _) (fun i hi=>h i),h];rfl
theorem nC:∀ (ts:List Ty) (v n:Nat) (f:Nat->Nat),eZ f n->(∀ i,i<ts.length->f (v+i)=f v+i)->jV f (jM ts v n)=jM ts (f v) (f n)
 | [],v,n,f,_,_=>by rw [jM,jM,jV]
 | t::ts,v,n,f,h,hv=>by
   rw [jM,jM,jV,eta_ren t v n f h];cases ts with
   | nil=>rw [jM,jM,jV]
   | cons u us =>
     have h1:=hv 1 (by simp)
     rw [nC (u::us) (v+1) n f h (fun i hi=>by
      have:=hv (1+i) (by simp at hi ⊢;omega)
      rw [Q6,this,h1];omega),h1]
end
structure yE (f g:Nat->Nat) (env:List Mn) (hand:List Ty) (m:Nat):Prop where
 len:env.length=f hand.length
 cnt:m=g hand.length
 af:eZ f hand.length
 ag:eZ g hand.length
 each:∀ i t,hand[i]? = some t->env[f i]? = some (Mn.op (g i) t)\/∃ (v:Nat) (e:List Mn),env[f i]? = some (Mn.bd t (eta t v e.length) e)/\e[v]? = some (Mn.op (g i) t)
theorem yE.lt {f g:Nat->Nat} {env:List Mn} {hand:List Ty} {m:Nat} (h:yE f g env hand m) {i:Nat} {t:Ty} (hi:hand[i]? = some t):f i<env.length:=by
 rcases h.each i t hi with k | ⟨_,_,k,_⟩ <;> exact (OB.1 k).1
theorem yE.opens {f g:Nat->Nat} {env:List Mn} {hand:List Ty} {m:Nat} (h:yE f g env hand m) (ts:List Ty):yE f g (env++Qy m ts) (hand++ts) (m+ts.length):=by
 refine ⟨?_,?_,?_,?_,fun i t hi=>?_⟩
 ·rw [Ov,Ov,z_,h.af,h.len]
 ·rw [Ov,h.ag,h.cnt]
 ·rw [Ov];exact h.af.more _
 ·rw [Ov];exact h.ag.more _
 ·rcases PT i hand.length with rH | lR
  ·rw [OJ rH] at hi;rw [OJ (h.lt hi)];exact h.each i t hi
  ·rw [OF lR] at hi;have e1:=h.af (i-hand.length);have e2:=h.ag (i-hand.length);rw [show hand.length+(i-hand.length)=i from by omega] at e1 e2;left;rw [e1,e2,<- h.len,<- h.cnt,OF (by omega),PA];exact yP ts m _ t hi
theorem yE.more {f g:Nat->Nat} {env:List Mn} {hand:List Ty} {m:Nat} (h:yE f g env hand m) (e2:List Mn) (ts:List Ty) :
 yE f g (env++owns (e2++Qy m ts) ts (jM ts e2.length (e2.length+ts.length))) (hand++ts) (m+ts.length):=by
 refine ⟨?_,?_,?_,?_,fun i t hi=>?_⟩
 ·rw [Ov,Ov,xP _ _ (yJ _ _ _).symm,h.af,h.len]
 ·rw [Ov,h.ag,h.cnt]
 ·rw [Ov];exact h.af.more _
 ·rw [Ov];exact h.ag.more _
 ·rcases PT i hand.length with rH | lR
  ·rw [OJ rH] at hi;rw [OJ (h.lt hi)];exact h.each i t hi
  ·rw [OF lR] at hi;have q1:=h.af (i-hand.length);have q2:=h.ag (i-hand.length);rw [show hand.length+(i-hand.length)=i from by omega] at q1 q2;have h1:=mZ ts e2.length (e2.length+ts.length) _ t hi;have h2:=bD (env:=e2++Qy m ts) ts _ _ t _ hi h1;have h3:=yP ts m _ t hi;right;refine ⟨e2.length+(i-hand.length),e2++Qy m ts,?_,?_⟩
   ·rw [q1,<- h.len,OF (by omega),PA,h2,Ov,z_]
   ·rw [q2,<- h.cnt,OF (by omega),PA,h3]
def Goes (d l:Nat) (b:Bd) (env:List Mn) (m:Nat) (st:List Gf) (r:Bd) (c:Nat):Prop:=∃ l',ev d l b env m st=some (r,l')/\l<=l'+c
mutual
theorem cw:∀ (b:Bd) (hand:List Ty) (f g:Nat->Nat) (env:List Mn) (m d l:Nat) (st:List Gf),qj hand b->wfB b->yE f g env hand m->Waits st->y5 b<=d->y5 b<=l->Goes d l (xT f b) env m st (xT g b) (y5 b)
 | .leaf c,hand,f,g,env,m,d,l,st,hf,hw,hc,hst,hd,hl=>by
   rw [wfB] at hw;rw [xT,xT];have sf:1<=y5 (.leaf c):=by rw [y5];split <;> omega
   obtain ⟨d,rfl⟩:∃ k,d=k+1:=⟨d-1,by omega⟩;obtain ⟨l,rfl⟩:∃ k,l=k+1:=⟨l-1,by omega⟩;by_cases h:c=117
   ·subst h;exact ⟨l,ev_u,by omega⟩
   ·rcases hst with rfl | ⟨e,rfl⟩
    ·exact ⟨l,cp,by omega⟩
    ·rw [y5,if_neg h] at *;obtain ⟨d,rfl⟩:∃ k,d=k+1:=⟨d-1,by omega⟩;obtain ⟨l,rfl⟩:∃ k,l=k+1:=⟨l-1,by omega⟩;refine ⟨l,?_,by omega⟩;rw [bw h];have e1:(if c=116 then (Gf.mk (.leaf 116) (.leaf 102) e).yes else (Gf.mk (.leaf 116) (.leaf 102) e).no)=.leaf c:=by
      rcases hw with rfl | rfl | rfl
      ·rfl
      ·rfl
      ·exact absurd rfl h
     rw [e1,cp]
 | .ask i ss y no,hand,f,g,env,m,d,l,st,hf,hw,hc,hst,hd,hl=>by
   rw [wfB] at hw;rw [y5] at hd hl;rw [qj] at hf;obtain ⟨t,ht,h1,h2,h3⟩:=hf;have hlen:=kh _ _ h1;rw [kL] at hlen;rw [xT,xT];obtain ⟨d,rfl⟩:∃ k,d=k+4:=⟨d-4,by omega⟩;obtain ⟨l,rfl⟩:∃ k,l=k+4:=⟨l-4,by omega⟩;rcases hc.each i t ht with k1 | ⟨v,e2,k1,k2⟩
   ·obtain ⟨l1,q1,b1⟩:=f_ ss t.args hand f g env m (d+3) (l+3) h1 hw.1 hc (by omega) (by omega);obtain ⟨l2,q2,b2⟩:=cw y hand f g env m (d+3) l1 st h2 hw.2.1 hc hst (by omega) (by omega);obtain ⟨l3,q3,b3⟩:=cw no hand f g env m (d+3) l2 st h3 hw.2.2 hc hst (by omega) (by omega);refine ⟨l3,?_,by rw [y5];omega⟩;rw [ev_op k1,q1,Lx,q2,Lx,q3,Lx]
   ·have hv:=(OB.1 k2).1;have Mt:t.args.length=(jV f ss).length:=by rw [yj,RX];exact hlen
    have hop:(e2++owns env t.args (jV f ss))[v]? = some (Mn.op (g i) t):=by rw [OJ hv];exact k2
    obtain ⟨l1,q1,b1⟩:=evs_ren2 ss t.args hand f g env (e2++owns env t.args (jV f ss)) m (d+2) (l+2) e2.length h1 hw.1 hc (by omega) (by omega) (fun j a s ha hs=>by
     rw [OF (by omega),PA]
     exact bD _ _ _ _ _ ha (by rw [yj,Pt,hs];rfl)) (by rw [Ov,xP _ _ Mt])
    obtain ⟨l2,q2,b2⟩:=cw y hand f g env m (d+1) (l1-1) st h2 hw.2.1 hc hst (by omega) (by omega);obtain ⟨l3,q3,b3⟩:=cw no hand f g env m (d+1) (l2-1) st h3 hw.2.2 hc hst (by omega) (by omega);refine ⟨l3,?_,by rw [y5];omega⟩;rw [ev_bd k1,ei,ev_op hop,q1];simp only [Lx];rw [show l1=(l1-1)+1 from by omega,bw (by decide)];simp only [if_true];rw [q2];simp only [Lx];rw [show l2=(l2-1)+1 from by omega,bw (by decide),if_neg (by decide),q3];rfl
theorem f_:∀ (ss:List Bd) (ts:List Ty) (hand:List Ty) (f g:Nat->Nat) (env:List Mn) (m d l:Nat),qU (kD hand ts) ss->vl ss->yE f g env hand m->y5.costs ss<=d->y5.costs ss<=l ->
 ∃ l',kV (ev d) env m l ts (jV f ss)=some (jV g ss,l')/\l<=l'+y5.costs ss
 | [],ts,hand,f,g,env,m,d,l,hf,hw,hc,hd,hl=>by
   have:=kh _ _ hf;rw [kL] at this;obtain rfl:ts=[]:=OQ this;refine ⟨l,?_,by omega⟩;rw [jV,jV,kV]
   intros;contradiction
 | s::ss,[],hand,f,g,env,m,d,l,hf,hw,hc,hd,hl=>by
   have:=kh _ _ hf;rw [kL] at this;simp at this
 | s::ss,t::ts,hand,f,g,env,m,d,l,hf,hw,hc,hd,hl=>by
   rw [y5.costs] at *;rw [vl] at hw;rw [qU] at hf;obtain ⟨h',lQ,e',f1,f2⟩:=hf;simp only [kD,OU,List.cons.injEq] at e';obtain ⟨rfl,rfl⟩:=e';obtain ⟨l1,q1,b1⟩:=cw s (hand++t.args) f g (env++opens m t.args) (m+t.args.length) d l [] f1 hw.1 (hc.opens t.args) (.inl rfl) (by omega) (by omega);obtain ⟨l2,q2,b2⟩:=f_ ss ts hand f g env m d l1 f2 hw.2 hc (by omega) (by omega);refine ⟨l2,?_,by omega⟩;rw [jV,jV,kV,q1];simp only [Ow,Lx,q2]
theorem evs_ren2:∀ (ss:List Bd) (ts:List Ty) (hand:List Ty) (f g:Nat->Nat) (env e2:List Mn) (m d l v:Nat),qU (kD hand ts) ss->vl ss->yE f g env hand m->y5.costs ss<=d->y5.costs ss<=l ->
 (∀ j a s,ts[j]? = some a->ss[j]? = some s->e2[v+j]? = some (.bd a (xT f s) env))->∀ {N:Nat},e2.length=N ->
 ∃ l',kV (ev d) e2 m l ts (jM ts v N)=some (jV g ss,l')/\l<=l'+y5.costs ss
 | [],ts,hand,f,g,env,e2,m,d,l,v,hf,hw,hc,hd,hl,hk,N,hN=>by
   have:=kh _ _ hf;rw [kL] at this;obtain rfl:ts=[]:=OQ this;refine ⟨l,?_,by omega⟩;rw [jM,jV,kV]
   intros;contradiction
 | s::ss,[],hand,f,g,env,e2,m,d,l,v,hf,hw,hc,hd,hl,hk,N,hN=>by
   have:=kh _ _ hf;rw [kL] at this;simp at this
 | s::ss,t::ts,hand,f,g,env,e2,m,d,l,v,hf,hw,hc,hd,hl,hk,N,hN=>by
   subst hN;rw [y5.costs] at *;rw [vl] at hw;rw [qU] at hf;obtain ⟨h',lQ,e',f1,f2⟩:=hf;simp only [kD,OU,List.cons.injEq] at e';obtain ⟨rfl,rfl⟩:=e';obtain ⟨d,rfl⟩:∃ k,d=k+1:=⟨d-1,by omega⟩;obtain ⟨l,rfl⟩:∃ k,l=k+1:=⟨l-1,by omega⟩;have h0:=hk 0 t s rfl rfl;rw [SI] at h0;have rH:=(OB.1 h0).1;obtain ⟨l1,q1,b1⟩:=cw s (hand++t.args) f g _ (m+t.args.length) d l [⟨.leaf 116,.leaf 102,e2++opens m t.args⟩] f1 hw.1 (hc.more e2 t.args) (.inr ⟨_,rfl⟩) (by omega) (by omega)
   obtain ⟨l2,q2,b2⟩:=evs_ren2 ss ts hand f g env e2 m (d+1) l1 (v+1) f2 hw.2 hc (by omega) (by omega) (fun j a s' ha hs=>by
    have:=hk (j+1) a s' (by simpa using ha) (by simpa using hs)
    rw [show v+1+j=v+(j+1) from by omega];exact this) rfl
   refine ⟨l2,?_,by omega⟩;rw [jM,jV,kV,ei,ev_bd (t:=t) (b':=xT f s) (e:=env) (by rw [OJ rH];exact h0),q1];simp only [Ow,Lx,q2]
end
theorem cH (f:Nat->Bd->List Mn->Nat->List Gf->Option (Bd×Nat)) (env:List Mn) (n:Nat):∀ (od Iy:List Ty) (al Iz:List Bd) (l:Nat),od.length=al.length ->
 kV f env n l (od++Iy) (al++Iz)=(kV f env n l od al).bind fun x=>(kV f env n x.2 Iy Iz).map fun y=>(x.1++y.1,y.2)
 | [],Iy,[],Iz,l,_=>by
   rw [OW,OW];have:kV f env n l [] []=some ([],l):=by rw [kV];intros;contradiction
   rw [this,Lx];cases kV f env n l Iy Iz <;> rfl
 | [],_,s::ss,_,_,h=>by simp at h
 | t::ts,_,[],_,_,h=>by simp at h
 | t::od,Iy,s::al,Iz,l,h=>by
   rw [ON,ON,kV,kV];cases f l s (env++opens n t.args) (n+t.args.length) [] with
   | none=>rfl
   | some x =>
     simp only [Ow,Lx];rw [cH f env n od Iy al Iz x.2 (by simpa using h)];cases kV f env n x.2 od al with
     | none=>rfl
     | some y =>
       simp only [Lx];cases kV f env n y.2 Iy Iz <;> rfl
def uZ (v n:Nat) (al:List Bd) (rest:List Ty):Bd:=.ask v (jV (up n rest.length) al++jM rest n (n+rest.length)) (.leaf 116) (.leaf 102)
theorem renBs_append (f:Nat->Nat) (xs ys:List Bd):jV f (xs++ys)=jV f xs++jV f ys:=by
 rw [yj,yj,yj,QF]
theorem up_zero (n:Nat):up n 0=id:=by funext v;unfold up;split <;> rfl
mutual
theorem mL:∀ (b:Bd) (f:Nat->Nat),zU (xT f b)=zU b
 | .leaf c,f=>by rw [xT]
 | .ask v ss y no,f=>by rw [xT,zU,zU,eC ss f,mL y f,mL no f]
theorem eC:∀ (bs:List Bd) (f:Nat->Nat),zE (jV f bs)=zE bs
 | [],f=>by rw [jV]
 | b::bs,f=>by rw [jV,zE,zE,mL b f,eC bs f]
end
theorem app_step {H:List Ty} {v:Nat} {t:Ty} {od:List Ty} {k:Ty} {rest:List Ty} {al:List Bd} {s:Bd} (hv:H[v]? = some t) (hts:t.args=od++k::rest) (ic:zJ t<=15)
 (h1:qU (kD H od) al) (w1:vl al) (hs:qj (H++k.args) s) (ws:wfB s) (hsz:zE al+zU s<=60) :
 j_ (uZ v H.length al (k::rest)) (zq H k s rest) (H.length+rest.length)=some (uZ v H.length (al++[s]) rest):=by
 obtain ⟨n,hn⟩:=zzM (H.length);obtain ⟨r,hr⟩:=zzM (rest.length);obtain ⟨env,Fi⟩:=zzM (zq H k s rest);have hvn:v<n:=by rw [hn];exact (OB.1 hv).1
 have Ia:env.length=n+1+r:=by rw [Fi];unfold zq;rw [Ov,OD,z_,z_,<- hn,<- hr];omega
 have elow:∀ i a,H[i]? = some a->env[i]? = some (Mn.op i a):=fun i a hi=>by
  have rH:=(OB.1 hi).1;rw [Fi];unfold zq;rw [OJ (by rw [z_];exact rH),yP H 0 i a hi,PW]
 have emid:env[n]? = some (Mn.bd k s (opens 0 H)):=by
  rw [Fi];unfold zq;rw [OF (by rw [z_];omega),z_,hn,Nat.sub_self];rfl
 have ehigh:∀ j a,rest[j]? = some a->env[n+1+j]? = some (Mn.op (n+j) a):=fun j a hj=>by
  rw [Fi];unfold zq;rw [OF (by rw [z_];omega),z_,show n+1+j-H.length=j+1 from by omega,OE,yP rest H.length j a hj,hn]
 have l1:=kh _ _ h1;rw [kL] at l1;have R1:yE (up n (r+1)) (up n r) env H (n+r):=by
  refine ⟨?_,?_,?_,?_,fun i a hi=>.inl ?_⟩
  ·rw [Ia,<- hn];unfold up;rw [if_pos (n9 _)];omega
  ·rw [<- hn];unfold up;rw [if_pos (n9 _)]
  ·rw [<- hn];exact pV n _ n (n9 _)
  ·rw [<- hn];exact pV n _ n (n9 _)
  ·have rH:=(OB.1 hi).1;have e1:up n (r+1) i=i:=by unfold up;rw [if_neg (by omega)]
   have e2:up n r i=i:=by unfold up;rw [if_neg (by omega)]
   rw [e1,e2];exact elow i a hi
 have c1:=de al;have cs:=mJ s;obtain ⟨la,qa,ba⟩:=f_ al od H (up n (r+1)) (up n r) env (n+r) 19999 19999 h1 w1 R1 (by omega) (by omega);have R2:yE id (up n r) (opens 0 H) H (n+r):=by
  refine ⟨?_,?_,along_id _,?_,fun i a hi=>.inl ?_⟩
  ·rw [z_];rfl
  ·rw [<- hn];unfold up;rw [if_pos (n9 _)]
  ·rw [<- hn];exact pV n _ n (n9 _)
  ·have rH:=(OB.1 hi).1;have e2:up n r i=i:=by unfold up;rw [if_neg (by omega)]
   rw [e2];have:=yP H 0 i a hi;rw [PW] at this;exact this
 have R2':=R2.more env k.args;have hla:19999<=la+y5.costs al:=ba;obtain ⟨lb,qb,bb⟩:=cw s (H++k.args) id (up n r) _ (n+r+k.args.length) 19998 (la-1) [⟨.leaf 116,.leaf 102,env++opens (n+r) k.args⟩] hs ws R2' (.inr ⟨_,rfl⟩) (by omega) (by omega);rw [dW] at qb;have R3:yE (up n 1) id env (H++rest) (n+r):=by
  refine ⟨?_,?_,?_,along_id _,fun i a hi=>.inl ?_⟩
  ·rw [Ia,Ov,<- hn,<- hr];unfold up;rw [if_pos (by omega)];omega
  ·rw [Ov,<- hn,<- hr];rfl
  ·rw [Ov,<- hn];exact pV n _ _ (by omega)
  ·rcases PT i H.length with rH | lR
   ·rw [OJ rH] at hi;have e1:up n 1 i=i:=by unfold up;rw [if_neg (by omega)]
    rw [e1];exact elow i a hi
   ·rw [OF lR] at hi;have e1:up n 1 i=n+1+(i-H.length):=by unfold up;rw [if_pos (by omega)];omega
    have:=ehigh _ a hi;rw [e1,this,show n+(i-H.length)=i from by omega];rfl
 have f3:qU (kD (H++rest) rest) (jM rest n (n+r)):=nD rest n (n+r) (H++rest) (by rw [Ov,<- hn,<- hr]) fun j a hj=>by
  rw [hn,OF (by omega),PA];exact hj
 have z3:=ef rest n (n+r);have c3:=de (jM rest n (n+r));have rX:zt rest<=15:=by
  have:=qx t;rw [hts,uP,zt] at this;omega
 obtain ⟨lc,qc,bc⟩:=f_ (jM rest n (n+r)) rest (H++rest) (up n 1) id env (n+r) 19999 lb f3 (etas_wf _ _ _) R3 (by omega) (by omega);rw [dX] at qc;have e3:jV (up n 1) (jM rest n (n+r))=jM rest (n+1) (n+1+r):=by
  have u1:up n 1 n=n+1:=by unfold up;rw [if_pos (n9 _)]
  have u2:up n 1 (n+r)=n+1+r:=by unfold up;rw [if_pos (by omega)];omega
  rw [nC rest n (n+r) (up n 1) (pV n 1 _ (by omega)) (fun i _=>(pV n 1 n (n9 _)) i),u1,u2]
 rw [e3] at qc;have hgo:ev 20000 20000 (uZ v n al (k::rest)) env (n+r) []=some (uZ v n (al++[s]) rest,lc-2):=by
  unfold uZ;rw [show (20000:Nat)=19999+1 from rfl,ev_op (elow v t hv),hts];rw [cH _ _ _ _ _ _ _ _ (by rw [yj,RX];exact l1)];rw [OD,<- hr,qa];simp only [Lx];have hk:kV (ev 19999) env (n+r) la (k::rest) (jM (k::rest) n (n+(r+1)))=some (xT (up n r) s::jM rest n (n+r),lc):=by
   rw [jM,kV];have Et:ev 19999 la (eta k n (n+(r+1))) (env++opens (n+r) k.args) (n+r+k.args.length) []=some (xT (up n r) s,lb):=by
    rw [ei,show (19999:Nat)=19998+1 from rfl,show la=(la-1)+1 from by omega,ev_bd (t:=k) (b':=s) (e:=opens 0 H) (by rw [OJ (by omega)];exact emid)];have e5:n+(r+1)=env.length:=by omega
    rw [e5];exact qb
   rw [Et];simp only [Ow,Lx];rw [show n+(r+1)=n+1+r from by omega,qc];rfl
  rw [hk];simp only [Py,Lx];rw [show lc=(lc-1)+1 from by omega,cp];simp only [Lx];rw [show lc-1=(lc-2)+1 from by omega,cp];simp only [Lx];rw [renBs_append,jV,jV];simp only [List.append_assoc,ON,OW,<- hr]
  congr 2
  all_goals omega
 unfold j_;rw [<- hn,<- hr,<- Fi,hgo];simp only;have LB:zU (uZ v n (al++[s]) rest)<=200:=by
  unfold uZ;rw [zU,qh,eC,qh,zE,zE,zU,zU,<- hr];omega
 rw [if_pos ⟨LB,dd LB⟩]
end Go.Proofs.YtdhaafoiokkbnabGreatDoor

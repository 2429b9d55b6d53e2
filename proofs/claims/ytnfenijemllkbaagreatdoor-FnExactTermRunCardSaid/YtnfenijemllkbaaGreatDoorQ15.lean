/- Walks. -/
import Derived.StillTailTactics
import Derived.BigRegion
import Derived.Outline
import Derived.Test.YtnfenijemllkbaaGreatDoorQ14
set_option linter.unusedVariables false
set_option linter.unusedSimpArgs false
set_option maxHeartbeats 4000000
set_option maxRecDepth 100000
open Option renaming none->U
open Option renaming some->OK
open Bool renaming false->RC
open Go.IntKind renaming i64->RD
open Go.Proofs.Tryz renaming func92->Va,ntmps92->UZ,prog->RG,results18->Wk,results92->UG
open Go.Value renaming oneCell'->R4,ownBlock->RM,slice->RI
open Go.Value.slice renaming injEq->RT
open Go.World renaming cell?->RE,frozen?->RO,ownsRow_nil->Sf
open List renaming append_nil->R9,getD_eq_getElem?_getD->TX,getElem?_append_left->Sv,getElem?_append_right->Sr,getElem?_drop->SA,getElem?_eq_getElem->SS,getElem?_eq_some_iff->RR,getElem?_take->Su,length_append->RL,length_cons->RU,length_take->Sy,map_cons->Sa,mem_cons->Sc,reverse_cons->V4,take_append_drop->R7,take_of_length_le->S6
open Option renaming bind_some->RF,isSome_none->Sx,isSome_some->Sj,map_map->V_,map_some->SR
open Option.some renaming injEq->RK
namespace Go.Proofs.YtnfenijemllkbaaGreatDoor
open Go.RowKit
def fB (s:Bs):Option (Tm×Ty):=(jW s).bind fun t=>(typeOf [] t).map fun k=>(t,k)
def ClPost (w:World)(o:Option (Tm×Ty))(en:Ending)(w':World):Prop:=
 ∃ (s1:Bs) (a:Option Addr) (n c:Nat) (ka:Option Addr) (kn kc:Nat),en=.returned (.tuple #[.agg #[s1,.slice a n c],.agg #[.slice ka kn kc],.bool o.isSome])/\Below w w w' /\
   ∀t k,o=OK (t,k)->(xA t/\kJ t=true/\zO t<=60/\typeOf [] t=OK k/\kn=k.args.length)/\zY (w<=·) w' (vV (kg t)) [s1,.slice a n c]/\Rep (w<=·) w' (ki k) (.slice ka kn kc)
theorem clOf_none {s:Bs}(h:qg s=U):fB s=U:=by
 rw[term_eq]at h;unfold fB;cases hq:jW s with
 |none=>rfl
 | some t =>
   rw[hq]at h;simp only[RF]at h ⊢;cases hk:typeOf [] t with
   |none=>rfl
   |some k=>rw[xZ t [] k hk]at h;simp at h
theorem clOf_some {s:Bs}{tr:Tr}(h:qg s=tr):∃t,tr=kg t/\xA t/\zO t<=60/\kJ t=true/\fB s=if (zd [] t).2=true then OK (t,(zd [] t).1) else U:=by
 obtain⟨t,e,rfl,ho,h6,hs⟩:=cQ h;refine⟨t,e,ho,h6,hs,?_⟩;unfold fB;rw[cP ho h6,RF,yW t [] hs];split <;> rfl
theorem mg {w:World}{g1 g2:Nat}{x0 x1 x2:Value}{TA TB:TypeId}(h1:w.heap[g1]?=OK (.cells #[x0,x1] TA (0,0)))(h2:w.heap[g2]?=OK (.cells #[x2] TB (0,0)))(hne:g1≠g2)(u0 u1 u2:Value) :
 ∃ W,W=(((w.setCell g1 u0).setCell (g1,1) u1).setCell g2 u2)/\W g1=u0/\W (g1,1)=u1/\W g2=u2 /\
   (∀B w0,Below B w0 w->B<=g1->B<=g2->Below B w0 W)/\(∀i x,i≠g1->i≠g2->w.heap[i]?=OK x->W.heap[i]?=OK x):=by
 have oI:((w.setCell g1 u0).setCell (g1,1) u1).heap[g2]?=OK (.cells #[x2] TB (0,0)):=by
  rw[sJ _ _ _ _ (by simpa using Ne.symm hne),sJ _ _ _ _ (by simpa using Ne.symm hne)];exact h2
 have Iz:(((w.setCell g1 u0).setCell (g1,1) u1).setCell g2 u2).heap[g2]?=OK (.cells #[u2] TB (0,0)):=by rw[zj oI];rfl
 have lJ:(((w.setCell g1 u0).setCell (g1,1) u1).setCell g2 u2).heap[g1]?=OK (.cells #[u0,u1] TA (0,0)):=by
  rw[sJ _ _ _ _ (by simpa using hne),zj (zj h1)];rfl
 refine⟨_,rfl,by simp only[RE,lJ];rfl,by simp only[RE,lJ];rfl,by simp only[RE,Iz];rfl,fun B w0 hb hB oV=>?_,fun i x hi NJ hx=>?_⟩
 ·exact((hb.setCell (p:=g1) hB _).setCell (p:=⟨g1,1,U⟩) hB _).setCell (p:=g2) oV _
 ·rw[sJ _ _ _ _ (by simpa using NJ),sJ _ _ _ _ (by simpa using hi),sJ _ _ _ _ (by simpa using hi)];exact hx
theorem xy {w:World}{g c:Nat}{x:Obj}(h:w.heap[g]?=OK x)(hg:g≠c)(u0 u1:Value):((w.setCell c u0).setCell (c,1) u1).heap[g]?=OK x:=by
 rw[sJ _ _ _ _ (by simpa using hg),sJ _ _ _ _ (by simpa using hg)];exact h
theorem bL {w:World}{g c:Nat}{x:Obj}(h:w.heap[g]?=OK x)(hg:g≠c)(u0:Value):(w.setCell c u0).heap[g]?=OK x:=by
 rw[sJ _ _ _ _ (by simpa using hg)];exact h
theorem boxes2 (w:World)(A B:Obj):No w ((w.alloc A).alloc B)/\((w.alloc A).alloc B).heap.size=w+1+1/\((w.alloc A).alloc B).heap[(w:Nat)]?=OK A/\((w.alloc A).alloc B).heap[(w:Nat)+1]?=OK B:=by
 refine⟨((sQ _ _).alloc (sZ _) _).alloc (by rw[zK];omega) _,by rw[zK,zK],zJ (zW _ _),?_⟩;have h:=zW (w.alloc A) B;rwa [zK]at h
theorem dx (s:Bs)(w:World)(hs:Lim s.length):Calls RG 18 #[s] w (ClPost w (fB s)):=by
 obtain⟨W0,tW⟩:=zzM ((w.alloc (.cells #[str [],()] 44)).alloc (.cells #[()] 47));obtain⟨s8,z0,bA,bB⟩:=boxes2 w (.cells #[str [],()] 44) (.cells #[()] 47);rw[<- tW]at s8 z0 bA bB;have C0:=r9 (l5Term_any s hs W0);have H0:=r9 (r_ s8 (r_ z0 (r_ bA bB)));clear hs s8 z0 bA bB;go_enter Tryz.func18,Tryz.ntmps18;go_wp2_with fail
 rw[<- tW];clear tW;(with_reducible refine C0.out.mono ?_);rintro en w1 ⟨s5,a5,n5,c5,rfl,sX,aV⟩;obtain⟨W1,Jl⟩:=zzM (w1.alloc (.cells #[s5,.slice a5 n5 c5] 44));obtain⟨g1,KW⟩:=zzM (w1.heap.size);have z1:=sX.size;have l_:No W0 W1:=by rw[Jl];exact sX.alloc sX.size _
 have zW1:W1=g1+1:=by rw[Jl,zK,KW]
 have b1:W1.heap[g1]?=OK (.cells #[s5,.slice a5 n5 c5] 44 (0,0)):=by rw[Jl,KW];exact zW _ _
 have q1:w+1<g1:=by have:=H0.out.2.1;omega
 have bA1:W1.heap[(w:Nat)]?=OK (.cells #[str [],()] 44 (0,0)):=(l_.block _ (zZ H0.out.2.2.1)).trans H0.out.2.2.1;have bB1:W1.heap[(w:Nat)+1]?=OK (.cells #[()] 47 (0,0)):=(l_.block _ (zZ H0.out.2.2.2)).trans H0.out.2.2.2;have JB:∀t,qg s=OK t->zY (fun i=>W0<=i/\i≠g1) W1 (vV t) [s5,.slice a5 n5 c5]:=fun t ht=>by
  refine(Rep.keep fun i x hi hx=>⟨⟨hi,fun e'=>?_⟩,?_⟩).2 _ _ (aV t ht).2
  ·rw[Jl];exact zJ hx
  ·have:=zZ hx;omega
 have Rh:w1.heap[(w:Nat)]?=OK (.cells #[str [],()] 44 (0,0)):=(sX.block _ (zZ H0.out.2.2.1)).trans H0.out.2.2.1;have bB0:w1.heap[(w:Nat)+1]?=OK (.cells #[()] 47 (0,0)):=(sX.block _ (zZ H0.out.2.2.2)).trans H0.out.2.2.2;have rA0:w1 w=OK (str []):=by simp[RE,Rh]
 have rA1:w1 (w,1)=OK (.slice U 0 0):=by simp[RE,Rh]
 have rB0:w1 (w+1:Nat)=OK (.slice U 0 0):=by simp[RE,bB0]
 have fA0:w1.frozen? w=RC:=by simp[RO,Rh]
 have fA1:w1.frozen? (w,1)=RC:=by simp[RO,Rh]
 have fB0:w1.frozen? (w+1:Nat)=RC:=by simp[RO,bB0]
 have Lc:(w1.alloc (.cells #[s5,.slice a5 n5 c5] 44)).frozen? w=RC:=(frozen?_alloc_cells _ _ _ _).trans fA0;have QZ:(w1.alloc (.cells #[s5,.slice a5 n5 c5] 44)).frozen? (w,1)=RC:=(frozen?_alloc_cells _ _ _ _).trans fA1;have N4:(w1.alloc (.cells #[s5,.slice a5 n5 c5] 44)).frozen? (w+1:Nat)=RC:=(frozen?_alloc_cells _ _ _ _).trans fB0;have iA0:(w1.alloc (.cells #[s5,.slice a5 n5 c5] 44)) w=OK (str []):=zV rA0;have iA1:(w1.alloc (.cells #[s5,.slice a5 n5 c5] 44)) (w,1)=OK (.slice U 0 0):=zV rA1;have iB0:(w1.alloc (.cells #[s5,.slice a5 n5 c5] 44)) (w+1:Nat)=OK (.slice U 0 0):=zV rB0;have tX:=r9 (r_ l_ (r_ zW1 (r_ b1 (r_ q1 (r_ bA1 (r_ bB1 JB))))));have HG1:=r9 KW;have HQ1:=r9 Jl;clear sX aV z1 l_ zW1 b1 q1 bA1 bB1 Rh bB0 JB C0 KW Jl;cases ht:qg s with
 | none =>
   have HC:=r9 (clOf_none ht);clear ht;simp only[Sx];go_wp2_with fail
   rw[<- HQ1.out,<- HG1.out];obtain⟨W,hW,s0,s1,s2,sF,tZ⟩:=mg tX.out.2.2.2.2.1 tX.out.2.2.2.2.2.1 (by omega) (str s5) (.slice a5 n5 c5) ();rw[<- hW];refine bodyPost_ret (v:=.tuple #[.agg #[s5,.slice a5 n5 c5],.agg #[()],.bool RC]) (by simp[results,Wk,go_sem,s0,s1,s2]) rfl ?_;rw[HC.out];exact⟨_,_,_,_,_,_,_,rfl,sF _ _ (zzT H0.out.1 tX.out.1) (sZ _) (Nat.le_succ _),fun t k h=>by simp at h⟩
 | some tr =>
   obtain⟨t,rfl,sI,Ea,aA,lD⟩:=clOf_some ht;have tQ:=tX.out.2.2.2.2.2.2 _ ht;have CK:=r9 (cd 100 (fun i=>W0<=i/\i<W1/\i≠g1) t [] () () _ _ W1 (by omega) ⟨fun i h=>h.2.1,(Rep.keep fun i x hi hx=>⟨⟨hi.1,zZ hx,hi.2⟩,hx⟩).2 _ _ tQ,zv.2 ⟨rfl,U,0,rfl,sZ _,fun _=>rfl,.inl rfl⟩,zv.2 ⟨by simp[kinds,qu],U,0,rfl,sZ _,fun _=>rfl,.inl rfl⟩,sI,aA,(fun p h=>by simp at h),(fun a h=>by simp[kinds]at h),by simp;omega⟩);have HC:=r9 (r_ sI (r_ aA (r_ Ea (r_ lD (r_ tQ (@yu t [] aA))))));obtain⟨k,q,hkq⟩:∃k q,zd [] t=(k,q):=⟨_,_,rfl⟩;rw[hkq]at CK HC;clear ht sI Ea aA lD tQ hkq;simp only[Sj];go_wp2_with fail
   rw[<- HQ1.out,<- HG1.out];clear HQ1 HG1;(with_reducible refine CK.out.mono ?_);rintro en w2 ⟨ka,kc,rfl,sY,lq⟩;obtain⟨W2,se⟩:=zzM (w2.alloc (.cells #[.slice ka k.args.length kc] 47));obtain⟨g2,By⟩:=zzM (w2.heap.size);have z2:=sY.size;have zz1:=tX.out.2.1;have qq1:=tX.out.2.2.2.1;have B8:No W1 W2:=by rw[se];exact sY.alloc sY.size _
   have B7:No w W2:=(zzT H0.out.1 tX.out.1).trans (B8.mono (zzT H0.out.1 tX.out.1).size);have b2:W2.heap[g2]?=OK (.cells #[.slice ka k.args.length kc] 47 (0,0)):=by rw[se,By];exact zW _ _
   have b1':W2.heap[g1]?=OK (.cells #[s5,.slice a5 n5 c5] 44 (0,0)):=(B8.block _ (zZ tX.out.2.2.1)).trans tX.out.2.2.1;have N9:W2.heap[(w:Nat)]?=OK (.cells #[str [],()] 44 (0,0)):=(B8.block _ (zZ tX.out.2.2.2.2.1)).trans tX.out.2.2.2.2.1;have bB2:W2.heap[(w:Nat)+1]?=OK (.cells #[()] 47 (0,0)):=(B8.block _ (zZ tX.out.2.2.2.2.2.1)).trans tX.out.2.2.2.2.2.1;have z0':=H0.out.2.1;have O_:zY (fun i=>w+1<i) W2 (vV (kg t)) [s5,.slice a5 n5 c5]:=(zY.below (F':=fun i=>W0<=i/\i≠g1) B8 (fun _ h=>h) HC.out.2.2.2.2.1).weakS fun i h=>by have:=h.1;omega
   have FO:Rep (fun i=>w+1<i) W2 (ki k) (.slice ka k.args.length kc):=(Rep.keep fun i x hi hx=>⟨(by rcases hi with h|h;have:=h.1;omega;omega),by rw[se];exact zJ hx⟩).1 _ _ lq;have aU:=r9 (r_ B7 (r_ b2 (r_ b1' (r_ N9 (r_ bB2 (r_ O_ FO))))));have qA0:W2 w=OK (str []):=by simp[RE,N9]
   have qA1:W2 (w,1)=OK (.slice U 0 0):=by simp[RE,N9]
   have qB0:W2 (w+1:Nat)=OK (.slice U 0 0):=by simp[RE,bB2]
   have eA0:W2.frozen? w=RC:=by simp[RO,N9]
   have eA1:W2.frozen? (w,1)=RC:=by simp[RO,N9]
   have eB0:W2.frozen? (w+1:Nat)=RC:=by simp[RO,bB2]
   have Dr:g1≠(w:Nat):=by omega
   have o7:g1≠(w:Nat)+1:=by omega
   have ow:g2≠(w:Nat):=by omega
   have ne5:g2≠(w:Nat)+1:=by omega
   clear sY lq z2 B8 B7 b2 b1' N9 bB2 O_ FO CK rA0 rA1 rB0 fA0 fA1 fB0 Lc QZ N4 iA0 iA1 iB0 qq1 zz1 z0';go_wp2_with fail
   rw[<- se,<- By];clear se By;refine rS (fun w'=>w'.heap[g1]?=OK (.cells #[s5,.slice a5 n5 c5] 44 (0,0))/\w'.heap[g2]?=OK (.cells #[.slice ka k.args.length kc] 47 (0,0))) (fun _=>RC) (⟨aU.out.2.2.1,aU.out.2.1⟩) fun sP=>?_;refine tk [0] sP ?_;(intro d hd;simp[tkD]at hd;subst hd;simp only[tks,pQ,pZ,pS]);(refine⟨?_,?_,?_⟩;rotate_left;· (intro oi ho;simp at ho;subst ho;refine Or.inl ⟨by rfl,fun w' sL=>?_⟩;have e0:w' g1=str s5:=(by simp[RE,sL.1]);have e1:w' (g1,1)=OK (.slice a5 n5 c5):=(by simp[RE,sL.1]);go_simp;try with_reducible rfl));refine tk [1,2] sP ?_;(intro d hd;simp[tkD]at hd;subst hd;simp only[tks,pQ,pZ,pS]);iterate 2 (refine⟨?_,?_,?_⟩;rotate_left;· (intro oi ho;simp at ho;subst ho;refine Or.inl ⟨by rfl,fun w' sL=>?_⟩;have e0:w' g2=OK (.slice ka k.args.length kc):=(by simp[RE,sL.2]);go_simp;try with_reducible rfl))
   refine oC 3 (⟨xy sP.1 Dr _ _,xy sP.2 ow _ _⟩) ?_;refine oC 4 (⟨bL (xy sP.1 Dr _ _) o7 _,bL (xy sP.2 ow _ _) ne5 _⟩) ?_;refine oC 5 (⟨bL (xy sP.1 Dr _ _) o7 _,bL (xy sP.2 ow _ _) ne5 _⟩) ?_;refine zX (by kernel_rfl) (NoPanic.normal ?_) _;go_wp2_with fail
   obtain⟨W,hW,s0,s1,s2,sF,tZ⟩:=@mg W2 _ _ _ _ _ _ _ aU.out.2.2.2.1 aU.out.2.2.2.2.1 (by omega) (str s5) (.slice a5 n5 c5) (.slice ka k.args.length kc);rw[<- hW];refine bodyPost_ret (v:=.tuple #[.agg #[s5,.slice a5 n5 c5],.agg #[.slice ka k.args.length kc],.bool q]) (by simp[results,Wk,go_sem,s0,s1,s2]) rfl ?_;have hq:q=(fB s).isSome:=by rw[HC.out.2.2.2.1];cases q <;> rfl
   rw[hq];refine⟨_,_,_,_,_,_,_,rfl,Below.drew (sF _ _ aU.out.1 (sZ _) (Nat.le_add_right _ _)),fun t' k' h=>?_⟩;have h':=HC.out.2.2.2.1;rw[h]at h';cases hqq:q with
   |false=>rw[hqq]at h';simp at h'
   | true =>
     rw[hqq]at h';simp only[if_true,RK,Prod.mk.injEq]at h';obtain⟨rfl,rfl⟩:=h';have KP:∀i x,(w:Nat)+1<i->W2.heap[i]?=OK x->(w:Nat)<=i/\W.drew.heap[i]?=OK x:=fun i x hi hx=>⟨by omega,tZ i x (by omega) (by omega) hx⟩;exact⟨⟨HC.out.1,HC.out.2.1,HC.out.2.2.1,HC.out.2.2.2.2.2 hqq,rfl⟩,(Rep.keep KP).2 _ _ aU.out.2.2.2.2.2.1,(Rep.keep KP).1 _ _ aU.out.2.2.2.2.2.2⟩
def yX (s:Bs):Option Bs:=(fB s).map fun x=>zS x.2
def pM (s:Bs):Option Bs:=(qr s).map fun x=>kZ x.2
theorem strat_cl (s:Bs):pM s=(fB s).bind fun x=>wrOf x.2 (zq [] x.1):=by
 unfold pM qr fB wrOf;cases hq:jW s with
 |none=>rfl
 | some t =>
   obtain⟨_,ho,_⟩:=y6 hq;simp only[RF];cases hk:typeOf [] t with
   |none=>rfl
   | some k =>
     simp only[RF,SR];cases hb:zq [] t with
     |none=>rfl
     | some b =>
       simp only[RF,SR];rw[dX (gu ho hk hb)];rfl
theorem wl (s:Bs)(w:World)(hs:Lim s.length):Calls RG 9 #[s] w (TxtPost (yX s) w):=by
 have C0:=r9 (dx s w hs);clear hs;go_enter Tryz.func9,Tryz.ntmps9;go_wp2_with fail
 (with_reducible refine C0.out.mono ?_);rintro en w1 ⟨s5,a5,n5,c5,ka,kn,kc,rfl,sX,hy⟩
 obtain⟨W,hW⟩:=zzM ((w1.alloc (.cells #[s5,.slice a5 n5 c5] 44)).alloc (.cells #[.slice ka kn kc] 47));have l_:No w1 W:=by rw[hW];exact((sQ _ _).alloc (sZ _) _).alloc (by rw[zK];omega) _
 have sF:=zzT sX l_;cases hc:fB s with
 | none =>
   have HK:=r9 (show yX s=U by unfold yX;rw[hc];rfl);have HB:=r9 sF;have HW:=r9 hW;clear hc hy sX l_ sF hW C0;simp only[Sx];go_wp2_with fail
   rw[<- HW.out]
   go_ret2
   exact⟨by rw[HK.out];rfl,HB.out⟩
 | some x =>
   obtain⟨t,k⟩:=x;obtain⟨⟨ho,aA,Ea,hk,rfl⟩,tQ,tq⟩:=hy t k hc;have sT:=qK t [] k (by simp[kinds]) hk;have HK:=r9 (show yX s=OK (zS k) by unfold yX;rw[hc];rfl);have CT:=r9 (uK 15 k sT (by omega) _ W _ (Rep.below (F':=(w<=·)) l_ (fun _ h=>h) tq));have HB:=r9 sF;have HW:=r9 hW;clear hc hy sX l_ sF hW C0 ho aA Ea hk tQ tq sT;simp only[Sj];go_wp2_with fail
   rw[<- HW.out];(with_reducible refine CT.out.mono ?_);rintro en w2 ⟨rfl,sY⟩;have sw:=r9 (zzT HB.out sY);clear sY;go_wp2_with fail
   go_ret2
   exact⟨by rw[HK.out];rfl,sw.out⟩
theorem xJ (s:Bs)(w:World)(hs:Lim s.length):Calls RG 10 #[s] w (TxtPost (pM s) w):=by
 have C0:=r9 (dx s w hs);clear hs;go_enter Tryz.func10,Tryz.ntmps10;go_wp2_with fail
 (with_reducible refine C0.out.mono ?_);rintro en w1 ⟨s5,a5,n5,c5,ka,kn,kc,rfl,sX,hy⟩
 obtain⟨W,hW⟩:=zzM ((w1.alloc (.cells #[s5,.slice a5 n5 c5] 44)).alloc (.cells #[.slice ka kn kc] 47));have l_:No w1 W:=by rw[hW];exact((sQ _ _).alloc (sZ _) _).alloc (by rw[zK];omega) _
 have sF:=zzT sX l_;have HSC:=r9 (strat_cl s);cases hc:fB s with
 | none =>
   have HK:=r9 (show pM s=U by rw[HSC.out,hc];rfl);have HB:=r9 sF;have HW:=r9 hW;clear hc hy sX l_ sF hW C0 HSC;simp only[Sx];go_wp2_with fail
   rw[<- HW.out]
   go_ret2
   exact⟨by rw[HK.out];rfl,HB.out⟩
 | some x =>
   obtain⟨t,k⟩:=x;obtain⟨⟨ho,aA,Ea,hk,rfl⟩,tQ,tq⟩:=hy t k hc;have sT:=qK t [] k (by simp[kinds]) hk;have HK:=r9 (show pM s=wrOf k (zq [] t) by rw[HSC.out,hc];rfl);have O9:=zY.below (F':=(w<=·)) l_ (fun _ h=>h) tQ;have Pf:=Rep.below (F':=(w<=·)) l_ (fun _ h=>h) tq;have CO:=r9 (l5Of_any 60 (fun i=>w<=i/\i<W) t [] k () () _ _ W Ea ⟨fun i h=>h.2,(Rep.keep fun i x hi hx=>⟨⟨hi,zZ hx⟩,hx⟩).2 _ _ O9,zv.2 ⟨rfl,U,0,rfl,sZ _,fun _=>rfl,.inl rfl⟩,zv.2 ⟨by simp[kinds,qu],U,0,rfl,sZ _,fun _=>rfl,.inl rfl⟩,ho,aA,(fun p h=>by simp at h),(fun a h=>by simp[kinds]at h),by simp;omega⟩ hk);have HG:=r9 (r_ sT (r_ Pf fun b (hb:zq [] t=OK b)=>gu ho hk hb));have bt:W (w1+1:Nat)=OK (.slice ka k.args.length kc):=by rw[hW];simp
   have HB:=r9 sF;have HW:=r9 hW;obtain⟨o,E9⟩:=zzN (zq [] t);rw[E9]at CO HG HK;clear hc hy sX l_ sF hW C0 ho aA Ea hk tQ tq sT O9 Pf E9 HSC;simp only[Sj];go_wp2_with fail
   rw[<- HW.out];(with_reducible refine CO.out.mono ?_);rintro en w2 ⟨ss,vv,aa,an,ac,ba,bn,bc,rfl,sY,lq⟩;have bt2:w2 (w1+1:Nat)=OK (.slice ka k.args.length kc):=(sY.cell (sK _ _ bt)).trans bt;have bt3:(w2.alloc (.cells #[ss,.int RD vv,.slice aa an ac,.slice ba bn bc] 53)) (w1+1:Nat)=OK (.slice ka k.args.length kc):=zV bt2;obtain⟨W2,se⟩:=zzM (w2.alloc (.cells #[ss,.int RD vv,.slice aa an ac,.slice ba bn bc] 53));have B8:No W W2:=by rw[se];exact sY.alloc sY.size _
   have CW:=r9 (l4Written_any (w<=·) k o (.slice ka k.args.length kc) ss vv aa an ac ba bn bc W2 HG.out.1 (Rep.below B8 (fun _ h=>h) HG.out.2.1) (fun x hx=>⟨(Rep.keep fun i u hi hu=>⟨(by
    rcases hi with h|h
    ·exact h.1
    ·have:=HB.out.size;omega),by rw [se];exact zJ hu⟩).2 _ _ (lq x hx),(by have:=(HG.out.2.2 x hx).size;omega),fit_lvR 200 x k.args (HG.out.2.2 x hx).size (HG.out.2.2 x hx).fit (zo HG.out.1).1 (by have:=(zo HG.out.1).2;omega)⟩))
   have sw:=r9 (zzT HB.out B8);have aU:=r9 se;clear sY lq bt CO B8 se HG HB;go_wp2_with fail
   rw[<- aU.out];(with_reducible refine CW.out.mono ?_);rintro en w3 ⟨rfl,sE⟩;have af:=r9 (zzT sw.out sE);clear sE CW bt2 bt3;rw[<- HK.out];go_wp2_with fail
   go_ret2
   exact⟨rfl,af.out⟩
structure Fr where
 yes:Bd
 no:Bd
 env:List Clo
 begun:Nat
 path:Bs
def qW (env:List Clo)(asked:Nat)(path:Bs):Nat->List Bd->List Clo
 |_,[]=>[]
 |i,s::ss=>.mk s env asked (path++dec i)::qW env asked path (i+1) ss
def pT:Nat->Nat->Bd->List Clo->Nat->Bs->List Fr->Option (UInt8×List (Bs×Nat))
 | f,m,.leaf c,_,begun,path,st =>
   if c=117 then OK (117,[]) else
   match f with
   |0=>U
   | f+1=>match st with
     |[]=>OK (c,[(c::path,begun)])
     |fr::st'=>(pT f (m+1) (if c=116 then fr.yes else fr.no) fr.env fr.begun fr.path st').map fun x=>(x.1,(c::path,begun)::x.2)
 | f,m,.ask v ss y n,env,begun,path,st =>
   match f with
   |0=>U
   | f+1=>match env[v]? with
     |none=>U
     |some e=>(pT f (m+1) e.body (e.env++qW env m e.path 0 ss) m e.path (⟨y,n,env,begun,path⟩::st)).map fun x=>(x.1,(113::e.path,e.begun)::x.2)
theorem runM_u (f m:Nat)(env:List Clo)(begun:Nat)(path:Bs)(st:List Fr):pT f m (.leaf 117) env begun path st=OK (117,[]):=by
 cases f <;> simp[pT]
theorem runM_out {c:UInt8}(hc:c≠117)(m:Nat)(env:List Clo)(begun:Nat)(path:Bs)(st:List Fr):pT 0 m (.leaf c) env begun path st=U:=by
 simp[pT,hc]
theorem runM_end {c:UInt8}(hc:c≠117)(f m:Nat)(env:List Clo)(begun:Nat)(path:Bs):pT (f+1) m (.leaf c) env begun path []=OK (c,[(c::path,begun)]):=by
 simp[pT,hc]
theorem runM_back {c:UInt8}(hc:c≠117)(f m:Nat)(env:List Clo)(begun:Nat)(path:Bs)(fr:Fr)(st:List Fr) :
 pT (f+1) m (.leaf c) env begun path (fr::st)=(pT f (m+1) (if c=116 then fr.yes else fr.no) fr.env fr.begun fr.path st).map fun x=>(x.1,(c::path,begun)::x.2):=by
 simp[pT,hc]
theorem runM_out2 (m v:Nat)(ss:List Bd)(y n:Bd)(env:List Clo)(begun:Nat)(path:Bs)(st:List Fr):pT 0 m (.ask v ss y n) env begun path st=U:=by
 simp[pT]
theorem runM_ask (f m v:Nat)(ss:List Bd)(y n:Bd)(env:List Clo)(begun:Nat)(path:Bs)(st:List Fr){e:Clo}(he:env[v]?=OK e) :
 pT (f+1) m (.ask v ss y n) env begun path st=(pT f (m+1) e.body (e.env++qW env m e.path 0 ss) m e.path (⟨y,n,env,begun,path⟩::st)).map fun x=>(x.1,(113::e.path,e.begun)::x.2):=by
 simp[pT,he]
theorem jr (env:List Clo)(asked:Nat)(path:Bs):∀(ss:List Bd) (i:Nat),(qW env asked path i ss).length=ss.length
 |[],i=>rfl
 |s::ss,i=>by simp[qW,jr env asked path ss (i+1)]
theorem fm {hand:List Ty}{env:List Clo}(h:jR env hand)(asked:Nat)(path:Bs):∀(ss:List Bd) (ts:List Ty) (i:Nat),qZ (kx hand ts) ss->jR (qW env asked path i ss) ts
 | [],ts,i,hf=>by
   rw[qZ]at hf
   have:ts=[]:=by cases ts with
    |nil=>rfl
    |cons t ts=>simp[kx]at hf
   subst this;simp[qW,jR]
 | s::ss,ts,i,hf=>by
   rw[qZ]at hf;obtain⟨h',lw,e,h1,h2⟩:=hf;cases ts with
   |nil=>simp[kx]at e
   | cons t ts =>
     simp only[kx,Sa,List.cons.injEq]at e;obtain⟨rfl,rfl⟩:=e;rw[qW,jR];refine⟨t,ts,rfl,?_,fm h asked path ss ts (i+1) h2⟩;rw[rR];exact⟨hand,h,h1⟩
theorem ask_next {hand:List Ty}{env:List Clo}{v:Nat}{ss:List Bd}{y n:Bd}(hf:qB hand (.ask v ss y n))(he:jR env hand)(asked:Nat) :
 ∃e,env[v]?=OK e/\∃Fm,jR (e.env++qW env asked e.path 0 ss) Fm/\qB Fm e.body:=by
 rw[qB]at hf;obtain⟨t,h1,h2,_,_⟩:=hf;have hl:=cG _ _ he;have hv:=(RR.1 h1).1;obtain⟨e,aC⟩:∃e,env[v]?=OK e:=⟨env[v]'(by omega),by simp[show v<env.length by omega]⟩;refine⟨e,aC,?_⟩;obtain⟨t',al,hc⟩:=envFit_at _ _ he v e aC;rw[h1]at al;simp at al;subst al;obtain⟨b,e',bg,p⟩:=e;rw[rR]at hc;obtain⟨h',k1,k2⟩:=hc;exact⟨h'++t.args,cH _ _ _ _ k1 (fm he asked p ss t.args 0 h2),k2⟩
def frFit (fr:Fr):Prop:=∃hand,jR fr.env hand/\qB hand fr.yes/\qB hand fr.no
theorem frame_next {hand:List Ty}{env:List Clo}{v:Nat}{ss:List Bd}{y n:Bd}(hf:qB hand (.ask v ss y n))(he:jR env hand)(begun:Nat)(path:Bs):frFit ⟨y,n,env,begun,path⟩:=by
 rw[qB]at hf;obtain⟨t,_,_,h3,h4⟩:=hf;exact⟨hand,he,h3,h4⟩
def Ma (w:World)(ma most moves:Nat):Prop:=w.heap[ma]?=OK (.cells #[(),(),(most:Int),(moves:Int),.bool RC] 134 (0,0))
theorem Ma.cells {w:World}{ma most moves:Nat}(h:Ma w ma most moves):w (ma,2)=OK (.int RD (most:Nat))/\w (ma,3)=OK (.int RD (moves:Nat))/\w (ma,4)=OK (.bool RC)/\w.frozen? (ma,3)=RC:=by
 unfold Ma at h;exact⟨by simp[RE,h],by simp[RE,h],by simp[RE,h],by simp[RO,h]⟩
theorem Ma.but {m:Nat->Prop}{w w':World}{ma most moves:Nat}(h:Ma w ma most moves)(hb:But m w w')(hm:¬m ma):Ma w' ma most moves:=by
 unfold Ma;rw[hb.block ma (zZ h) hm];exact h
theorem Ma.below {w w':World}{ma most moves:Nat}(h:Ma w ma most moves)(hb:No w w'):Ma w' ma most moves:=by
 unfold Ma;rw[hb.block ma (zZ h)];exact h
theorem Ma.drewN {w:World}{ma most moves:Nat}(h:Ma w ma most moves)(n:Nat):Ma (w.drewN n) ma most moves:=h
def yE (w:World):Prop:=∃te pe,w.cell? ⟨0,0,U⟩=OK (.iface te pe)
theorem yE.but {m:Nat->Prop}{w w':World}(h:yE w)(hb:But m w w')(hm:¬m 0):yE w':=by
 obtain⟨te,pe,h⟩:=h;exact⟨te,pe,(hb.cell (sK w _ h) hm).trans h⟩
theorem cF {m:Nat->Prop}{a w:World}(h:But m a w)(n:Nat):But m a (w.drewN n):=⟨h.os,h.tape,h.output,h.size,h.block⟩
def Moved (ma most moves:Nat)(w:World)(en:Ending)(w':World):Prop:=
 if moves=most then ∃te pe,en=.returned (.tuple #[.int RD 0,.iface te pe])/\No w w'
 else en=.returned (.tuple #[(moves:Int),.nilIface])/\But (· = ma) w w'/\Ma w' ma most (moves+1)
theorem move_any (ma most moves:Nat)(s:Bs)(p:Int)(w:World)(h:Ma w ma most moves)(hg:yE w)(hm:most<=16777216)(Gx:moves<=most) :
 Calls RG 92 #[ma,s,.int RD p] w (Moved ma most moves w):=by
 obtain⟨c2,c3,c4,f3⟩:=h.cells;obtain⟨te,pe,KU⟩:=hg;have H:=r9 h;clear h;by_cases he:moves=most
 ·have hd:((moves:Int) == (most:Int))=true:=by rw[beq_iff_eq];omega
  have HE:=r9 he;clear he;go_enter Va,UZ;go_wp2_with fail
  go_quiet (fail);go_wp2_with fail
  go_quiet (fail);go_wp2_with fail
  refine bodyPost_ret (v:=.tuple #[.int RD 0,.iface te pe]) (by simp[results,UG,go_sem]) rfl ?_;unfold Moved;rw[if_pos HE.out];exact⟨te,pe,rfl,by first | exact jK (sQ _ _) _ | exact jK (jK (sQ _ _) _) _⟩
 ·have hd:((moves:Int) == (most:Int))=RC:=by rw[beq_eq_false_iff_ne];omega
  have HE:=r9 he;clear he;have hw:IntKind.i64.wrap ((moves:Int)+1)=(moves:Int)+1:=by
   rw[show (moves:Int)+1=((moves+1:Nat):Int) from by omega];exact dK _ (by omega)
  go_enter Va,UZ;go_wp2_with fail
  go_quiet (fail);have HN:=r9 (H.out.drewN nq);have c4':(w.drewN nq) (ma,4)=OK (.bool RC):=c4;have Dy:Ma ((w.drewN nq).setCell (ma,3) (.int RD ((moves:Int)+1))) ma most (moves+1):=by
   unfold Ma;rw[zT HN.out];rfl
  have d4:((w.drewN nq).setCell (ma,3) (.int RD ((moves:Int)+1))) (ma,4)=OK (.bool RC):=Dy.cells.2.2.1;have d3:((w.drewN nq).setCell (ma,3) (.int RD ((moves:Int)+1))) (ma,3)=OK (.int RD ((moves:Int)+1)):=Dy.cells.2.1;have HP:=r9 Dy;clear Dy
  have ib:But (· = ma) w ((w.drewN nq).setCell (ma,3) (.int RD ((moves:Int)+1))):=
   But.setCell (m:=(· = ma)) (p:=⟨ma,3,U⟩) (cF (But.refl _ _) _) (.inl rfl) _
  have HB:=r9 ib;clear ib;go_wp2_with fail
  refine bodyPost_ret (v:=.tuple #[(moves:Int),.nilIface]) (by simp[results,UG,go_sem]) rfl ?_;unfold Moved;rw[if_neg HE.out];exact⟨rfl,HB.out,HP.out⟩
theorem zz.litk {w:World}{e:TypeId}{sz:Nat}(cs:Array Value)(hn:cs.size=sz)(hc:∀u∈cs.toList,u.oneCell'=true)(g:Nat)(hg:g=w):zz sz (.slice g 1 1) 1 cs.toList (w.alloc (.cells cs e)):=by
 subst hg;refine⟨by simp[hn],hc,.inl ⟨_,_,rfl,fun j u hu=>?_⟩⟩;unfold Addr.add;split
 ·subst j;simp;simpa using hu
 ·simp;simpa using hu
def mM (begun:Nat)(path:Bs):Nat->List Value
 |0=>[]
 |n+1=>mM begun path n++[.int RD (begun:Nat),str (path++dec n)]
theorem dec_decDigits (n:Nat):dec n=Lib.decDigits n:=by
 induction n using Nat.strongRecOn with
 | _ n ih =>
   by_cases h:n<10
   ·rw[vM h,Lib.decDigits,dif_pos h];rfl
   ·rw[ve h,Lib.decDigits,dif_neg h,ih (n / 10) (Nat.div_lt_self (by omega) (by omega))];rfl
theorem itoa_dec (i:Nat):Lib.itoa (i:Int)=dec i:=by
 rw[dec_decDigits,Lib.itoa,if_neg (by omega)];rfl
theorem Tryz.infoPl:(RG.info? 172).map (fun i=>(i.zero,i.size,i.bytes))=OK (OK (.agg #[.int RD 0,str []]),2,24):=by kernel_rfl
def FreshSl (w:World)(e:TypeId)(sz n:Nat)(xs:List Value)(en:Ending)(w':World):Prop:=
 ∃a c,en=.returned (.slice a n c)/\Own w' e sz (.slice a n c) n xs/\No w w'/\(∀g,(RI a n c).ownBlock=OK g->(w:Nat)<=g)
theorem nN (n begun:Nat)(path:Bs)(w:World)(hg:uC w)(hn:n<=16)(hp:path.length<=1000000) :
 Calls RG 94 #[(n:Int),(begun:Int),path] w (FreshSl w 172 2 n (mM begun path n)):=by
 have HG:=r9 hg;clear hg;go_enter Tryz.func94,Tryz.ntmps94;go_wp2_with fail
 go_loopw [7,10] (fun o i wr=>∃k:Nat,k<=n/\i=.int RD k/\∃a c,o=.slice a k c/\Own wr 172 2 (.slice a k c) k (mM begun path k)/\No w wr/\(∀g,(RI a k c).ownBlock=OK g->(w:Nat)<=g)) (fun _ i _=>n-(intOf i).toNat)
 case atStart=>exact⟨0,Nat.zero_le _,rfl,U,0,rfl,Sf _ _ _ _,sQ _ _,fun g h=>by simp[RM]at h⟩
 case round=>
  obtain⟨k,hk,rfl,a,c,rfl,ho,hb,hf⟩:=hrel;have HO:=r9 ho;have HF:=r9 hf;have HB:=r9 hb;clear ho hf hb;by_cases sC:k<n
  ·have tB:(k:Int)<(n:Int):=by omega
   have Ql:(dec k).length<=2:=vP 1 k (by omega);have AO:=fun w0=>qz (P:=RG) path (dec k) (by omega) w0;have NL:=r9 (HG.out.below HB.out);have HI:=r9 (itoa_dec k);go_wp2_with fail
   refine(rZ (k:Int) _ NL.out (by omega) (by omega)).mono ?_;rintro en w1 ⟨rfl,sX⟩;rw[HI.out];generalize hS:path++dec k=S at *;have HS:=r9 hS;clear hS;have z1:=sX.size;have sn:=r9 sX;clear sX;go_wp2_with (at_builtin;refine zF rfl _ _ 175 rfl 172 (.agg #[.int RD 0,str []]) 2 24 Tryz.underlying175 Tryz.infoPl rfl (by decide) (.slice a k c) k (mM begun path k) rfl ?c1 _ 1 [(begun:Int),S] rfl ?c2 ?c3 ?c4 ?_)
   case c1=>exact(HO.out.keep fun g o _ ho=>by rw[sn.out.block g (zZ ho)];exact ho).alloc _
   case c2=>exact zz.litk #[.int RD (begun:Nat),str S] rfl (by simp[str,R4]) _ (by simp)
   case c3=>unfold maxLen;omega
   case c4=>omega
   intro a' c' w7 sj sH sS;have hA:Own w7 172 2 (.slice a' (k+1) c') (k+1) (mM begun path (k+1)):=by
    rw[mM,HS.out];exact sj
   have tJ:No w w7:=by
    have h1:=zzT HB.out sn.out;refine(h1.alloc h1.size _).trans (sH.toBelow (by rw[zK];have:=h1.size;omega) fun i hi e=>?_);have:=HF.out i e;omega
   have iA:∀g,(RI a' (k+1) c').ownBlock=OK g->(w:Nat)<=g:=by
    intro g h;rcases sS g h with h|h
    ·exact HF.out g h
    ·have h2:=HB.out.size;have h3:g=w1+1:=by simpa using h
     omega
   have HA:=r9 (r_ hA (r_ tJ iA));clear hA tJ iA sj sH sS;go_wp2_with fail
   go_roundw
   case rel=>exact⟨k+1,by omega,by go_num,a',c',rfl,HA.out.1,HA.out.2.1,HA.out.2.2⟩
   case measure=>simp[intOf];omega
  ·obtain rfl:k=n:=by omega
   go_wp2_with fail
   go_ret;exact⟨a,c,rfl,HO.out,HB.out,HF.out⟩
theorem Own.at {w:World}{e:TypeId}{sz n:Nat}{xs:List Value}{v:Value}(h:Own w e sz v n xs){j:Nat}{u:Value}(hj:xs[j]?=OK u):∃g c,v=.slice (OK ⟨g,0,U⟩) n c/\w (g,j)=u:=by
 have sC:=(RR.1 hj).1;rcases h.2 with ⟨_,h0⟩|⟨g,cap,cur,rfl,_,hg,og,_,aP,ht⟩
 ·have:=h.1;rw[h0,Nat.zero_mul]at this;omega
 ·refine⟨g,cap,rfl,?_⟩;rw[<- ht]at hj;rw[Su]at hj;split at hj
  ·simp only[RE,hg];simpa using hj
  ·simp at hj
theorem Own.short {w:World}{e:TypeId}{sz n m:Nat}{xs:List Value}{a:Option Addr}{c:Nat}(h:Own w e sz (.slice a n c) n xs)(hm:m<=n)(ha:a≠U):Own w e sz (.slice a m c) m (xs.take (m*sz)):=by
 have hl:=h.1;have E_:m*sz<=n*sz:=Nat.mul_le_mul_right _ hm;rcases h.2 with ⟨h0,_⟩|⟨g,cap,cur,e1,hb,hg,og,oP,aP,ht⟩
 ·simp only[RT]at h0;exact absurd h0.1 ha
 ·simp only[RT,true_and]at e1;obtain⟨rfl,rfl⟩:=e1;refine⟨by rw[Sy,hl];omega,.inr ⟨g,c,cur,rfl,hb,hg,by omega,oP,aP,?_⟩⟩;rw[<- ht,List.take_take,Nat.min_eq_left E_]
theorem fd (begun:Nat)(path:Bs):∀n,(mM begun path n).length=n*2
 |0=>rfl
 |n+1=>by rw[mM,RL,fd begun path n];simp;omega
theorem plcs_at (begun:Nat)(path:Bs):∀n k,k<n->(mM begun path n)[k*2]?=OK (.int RD (begun:Nat))/\(mM begun path n)[k*2+1]?=OK (str (path++dec k))
 |0,k,h=>by omega
 | n+1,k,h=>by
   have hl:=fd begun path n;rw[mM];rcases Nat.lt_or_ge k n with h1|h1
   ·obtain⟨h2,h3⟩:=plcs_at begun path n k h1;rw[Sv (by omega),Sv (by omega)];exact⟨h2,h3⟩
   ·obtain rfl:k=n:=by omega
    rw[Sr (by omega),Sr (by omega),hl];simp
def co (us:List Value)(ev:Value)(begun:Nat)(path:Bs):Nat->List Value
 |0=>[]
 |n+1=>co us ev begun path n++[us.getD n (.pointer U),ev,.int RD (begun:Nat),str (path++dec n)]
theorem Tryz.infoEn:(RG.info? 183).map (fun i=>(i.zero,i.size,i.bytes))=OK (OK (.agg #[.pointer U,(),.int RD 0,str []]),4,56):=by kernel_rfl
theorem mX (n begun:Nat)(path:Bs)(us:List Value)(sa:Option Addr)(sc:Nat)(ea:Option Addr)(el ec:Nat)(pa:Option Addr)(pc:Nat)(w:World)(hn:n<=16)(Ek:∀k,k<n->∃b o u,sa=OK ⟨b,o,U⟩/\us[k]?=OK (.pointer (OK ⟨u,0,U⟩))/\w.cell? ⟨b,o+k,U⟩=OK (.pointer (OK ⟨u,0,U⟩)))(sG:Own w 172 2 (.slice pa n pc) n (mM begun path n)) :
 Calls RG 93 #[.slice sa n sc,.slice ea el ec,.slice pa n pc] w (FreshSl w 183 4 n (co us (.slice ea el ec) begun path n)):=by
 have HUS:=r9 Ek;have s_:=r9 sG;clear Ek sG;go_enter Tryz.func93,Tryz.ntmps93;go_wp2_with fail
 go_loopw [7,12] (fun o i wr=>∃k:Nat,k<=n/\i=.int RD k/\∃a c,o=.slice a k c/\Own wr 183 4 (.slice a k c) k (co us (.slice ea el ec) begun path k)/\No w wr/\(∀g,(RI a k c).ownBlock=OK g->(w:Nat)<=g)) (fun _ i _=>n-(intOf i).toNat)
 case atStart=>exact⟨0,Nat.zero_le _,rfl,U,0,rfl,Sf _ _ _ _,sQ _ _,fun g h=>by simp[RM]at h⟩
 case round=>
  obtain⟨k,hk,rfl,a,c,rfl,ho,hb,hf⟩:=hrel;have HO:=r9 ho;have HF:=r9 hf;have HB:=r9 hb;clear ho hf hb;by_cases sC:k<n
  ·have tB:(k:Int)<(n:Int):=by omega
   obtain⟨b,o,u,e,hu,hc⟩:=HUS.out k sC;subst e;obtain⟨p1,p2⟩:=plcs_at begun path n k sC;obtain⟨g,c1,eg,h1⟩:=s_.out.at p1;obtain⟨g2,c2,eg2,h2⟩:=s_.out.at p2;rw[eg]at eg2;simp only[RT,RK,Addr.mk.injEq,and_true,true_and]at eg2;obtain⟨rfl,rfl⟩:=eg2;simp only[RT,true_and]at eg;obtain⟨rfl,rfl⟩:=eg;have q0:=(HB.out.cell (sK w _ hc)).trans hc;have q1:=(HB.out.cell (sK w _ h1)).trans h1;have q2:=(HB.out.cell (sK w _ h2)).trans h2;have HU:=r9 hu;clear hu hc h1 h2 p1 p2;generalize hS:path++dec k=S at *;have HS:=r9 hS;clear hS;go_wp2_with (at_builtin;refine zF rfl _ _ 173 rfl 183 (.agg #[.pointer U,(),.int RD 0,str []]) 4 56 Tryz.underlying173 Tryz.infoEn rfl (by decide) (.slice a k c) k (co us (.slice ea el ec) begun path k) rfl ?c1 _ 1 [.pointer (OK ⟨u,0,U⟩),.slice ea el ec,(begun:Int),S] rfl ?c2 ?c3 ?c4 ?_)
   case c1=>exact HO.out.alloc _
   case c2=>exact zz.litk #[.pointer (OK ⟨u,0,U⟩),.slice ea el ec,.int RD (begun:Nat),str S] rfl (by simp[str,R4]) _ (by simp)
   case c3=>unfold maxLen;omega
   case c4=>omega
   intro a' c' w7 sj sH sS;have hA:Own w7 183 4 (.slice a' (k+1) c') (k+1) (co us (.slice ea el ec) begun path (k+1)):=by
    rw[co,HS.out,TX,HU.out];exact sj
   have tJ:No w w7:=by
    have h1:=HB.out;refine(h1.alloc h1.size _).trans (sH.toBelow (by rw[zK];have:=h1.size;omega) fun i hi e=>?_);have:=HF.out i e;omega
   have iA:∀g,(RI a' (k+1) c').ownBlock=OK g->(w:Nat)<=g:=by
    intro g h;rcases sS g h with h|h
    ·exact HF.out g h
    ·have h2:=HB.out.size;omega
   have HA:=r9 (r_ hA (r_ tJ iA));clear hA tJ iA sj sH sS;go_wp2_with fail
   go_roundw
   case rel=>exact⟨k+1,by omega,by go_num,a',c',rfl,HA.out.1,HA.out.2.1,HA.out.2.2⟩
   case measure=>simp[intOf];omega
  ·obtain rfl:k=n:=by omega
   go_wp2_with fail
   go_ret;exact⟨a,c,rfl,HO.out,HB.out,HF.out⟩
mutual
def encC:Clo->List DV
 |.mk b env n p=>[kM b,.sl 183 4 env.length (j_ env),.val (.int RD (n:Nat)),.val (str p)]
def j_:List Clo->List DV
 |[]=>[]
 |c::cs=>encC c++j_ cs
end
theorem mW (c:Clo):(encC c).length=4:=by cases c;simp[encC]
theorem d9:∀cs:List Clo,(j_ cs).length=cs.length*4
 |[]=>by simp[j_]
 |c::cs=>by rw[j_,RL,mW,d9 cs];simp;omega
theorem xO:∀(xs ys:List Clo),j_ (xs++ys)=j_ xs++j_ ys
 |[],ys=>by simp[j_]
 |x::xs,ys=>by simp[j_,xO xs ys]
theorem nL (env:List Clo)(m:Nat)(p:Bs):∀(ss:List Bd) (i k:Nat),(qW env m p i ss)[k]?=ss[k]?.map fun s=>Clo.mk s env m (p++dec (i+k))
 |[],i,k=>by simp[qW]
 | s::ss,i,k=>by
   cases k with
   |zero=>simp[qW]
   |succ k=>simp only[qW,List.getElem?_cons_succ,nL env m p ss (i+1) k];rw[show i+1+k=i+(k+1) from by omega]
theorem ents_rep {F:Nat->Prop}{w:World}{env:List Clo}{ev:Value}{ss:List Bd}{us:List Value}{m:Nat}{p:Bs}(hu:zY F w (qH ss) us)(he:Rep F w (.sl 183 4 env.length (j_ env)) ev) :
 ∀k,k<=ss.length->zY F w (j_ ((qW env m p 0 ss).take k)) (co us ev m p k):=by
 intro k
 induction k with
 |zero=>intro _;rw[List.take_zero,j_,co];exact zE.2 rfl
 | succ k ih =>
   intro hk;have hs:ss[k]?=OK ss[k]:=SS (by omega);have ho:=nL env m p ss 0 k;rw[hs]at ho;simp only[SR,Nat.zero_add]at ho;rw[List.take_add_one,ho,xO,co];refine zY.append (ih (by omega)) ?_;obtain⟨u,hu1,hu2⟩:=hu.at (i:=k) (d:=kM ss[k]) (by rw[yC,hs];rfl);rw[TX,hu1];simp only[Option.toList_some,j_,encC,R9,Option.getD_some];exact zQ.2 ⟨_,_,rfl,hu2,zQ.2 ⟨_,_,rfl,he,zQ.2 ⟨_,_,rfl,zC.2 rfl,zQ.2 ⟨_,_,rfl,zC.2 rfl,zE.2 rfl⟩⟩⟩⟩
def logM (log:List (Bs×Int)):List Value:=log.map fun x=>str x.1
def logP (log:List (Bs×Int)):List Value:=log.map fun x=>Value.int RD x.2
theorem logM_snoc (log:List (Bs×Int))(s:Bs)(p:Int):logM (log++[(s,p)])=logM log++[str s]:=by simp[logM]
theorem logP_snoc (log:List (Bs×Int))(s:Bs)(p:Int):logP (log++[(s,p)])=logP log++[.int RD p]:=by simp[logP]
structure MS (keeps:Bool)(most ma:Nat)(log:List (Bs×Int))(mv pt:Value)(w:World):Prop where
 blk:w.heap[ma]?=OK (.cells #[mv,pt,(most:Int),.int RD (log.length:Nat),.bool keeps] 134 (0,0))
 rows:keeps=true->Own w 9 1 mv log.length (logM log)/\Own w 3 1 pt log.length (logP log)
 nil:keeps=RC->mv=.slice U 0 0/\pt=.slice U 0 0
 neM:∀g,mv.ownBlock=OK g->g≠ma/\pt.ownBlock≠OK g
 neP:∀g,pt.ownBlock=OK g->g≠ma
def MBk (ma:Nat)(mv pt:Value)(b:Nat):Prop:=b=ma\/mv.ownBlock=b\/pt.ownBlock=b
theorem MS.but {keeps:Bool}{most ma:Nat}{log:List (Bs×Int)}{mv pt:Value}{m:Nat->Prop}{w w':World}(h:MS keeps most ma log mv pt w)(hb:But m w w')(hm:∀b,MBk ma mv pt b->¬m b):MS keeps most ma log mv pt w':=
 ⟨by rw [hb.block ma (zZ h.blk) (hm ma (.inl rfl))];exact h.blk,
  fun hk=>⟨(h.rows hk).1.keep fun g o hg ho=>by rw[hb.block g (zZ ho) (hm g (.inr (.inl hg)))];exact ho,(h.rows hk).2.keep fun g o hg ho=>by rw[hb.block g (zZ ho) (hm g (.inr (.inr hg)))];exact ho⟩,
  h.nil,h.neM,h.neP⟩
theorem MS.below {keeps:Bool}{most ma:Nat}{log:List (Bs×Int)}{mv pt:Value}{w w':World}(h:MS keeps most ma log mv pt w)(hb:No w w'):MS keeps most ma log mv pt w':=
 h.but (m:=fun _=>False) (But.ofBelow hb) fun _ _ h=>h
theorem MBk.lt {keeps:Bool}{most ma:Nat}{log:List (Bs×Int)}{mv pt:Value}{w:World}(h:MS keeps most ma log mv pt w){b:Nat}(hb:MBk ma mv pt b):b<w:=by
 rcases hb with rfl|hb|hb
 ·exact zZ h.blk
 ·cases keeps with
  |true=>exact(h.rows rfl).1.lt hb
  |false=>rw[(h.nil rfl).1]at hb;simp[RM]at hb
 ·cases keeps with
  |true=>exact(h.rows rfl).2.lt hb
  |false=>rw[(h.nil rfl).2]at hb;simp[RM]at hb
def wJ (keeps:Bool)(most ma:Nat)(log:List (Bs×Int))(mv pt:Value)(s:Bs)(p:Int)(w:World)(en:Ending)(w':World):Prop:=
 if log.length=most then ∃te pe,en=.returned (.tuple #[.int RD 0,.iface te pe])/\No w w'
 else ∃mv' pt',en=.returned (.tuple #[.int RD (log.length:Nat),.nilIface])/\But (MBk ma mv pt) w w'/\MS keeps most ma (log++[(s,p)]) mv' pt' w'/\(∀b,MBk ma mv' pt' b->MBk ma mv pt b\/(w:Nat)<=b)
theorem Tryz.infoInt:(RG.info? 3).map (fun i=>(i.zero,i.size,i.bytes))=OK (OK (.int RD 0),1,8):=by kernel_rfl
theorem Tryz.infoStr0:(RG.info? 9).map (fun i=>(i.zero,i.size,i.bytes))=OK (OK (str []),1,16):=by kernel_rfl
theorem moveS_none (most ma:Nat)(log:List (Bs×Int))(mv pt:Value)(s:Bs)(p:Int)(w:World)(h:MS RC most ma log mv pt w)(hg:yE w)(hm:most<=16777216)(Gx:log.length<=most) :
 Calls RG 92 #[ma,s,.int RD p] w (wJ RC most ma log mv pt s p w):=by
 obtain⟨e1,e2⟩:=h.nil rfl;subst e1;subst e2;refine(move_any ma most log.length s p w h.blk hg hm Gx).mono ?_;intro en w' hw;unfold Moved at hw;unfold wJ;split at hw
 ·rename_i he;rw[if_pos he];exact hw
 ·rename_i he;rw[if_neg he];obtain⟨h1,h2,h3⟩:=hw;refine⟨.slice U 0 0,(),h1,h2.weak fun i _ hi=>.inl hi,⟨?_,by simp,fun _=>⟨rfl,rfl⟩,by simp[RM],by simp[RM]⟩,fun b hb=>.inl hb⟩;have:(log++[(s,p)]).length=log.length+1:=by simp
  rw[this];exact h3
theorem cv {ma most n:Nat}{mv pt:Value}{w:World}{k:Bool}(h:w.heap[ma]?=OK (.cells #[mv,pt,(most:Int),(n:Int),.bool k] 134 (0,0))) :
 w ma=mv/\w (ma,1)=pt/\w (ma,2)=OK (.int RD (most:Nat))/\w (ma,3)=OK (.int RD (n:Nat))/\w (ma,4)=OK (.bool k)/\(∀o,w.frozen? ⟨ma,o,U⟩=RC):=
 ⟨by simp[RE,h],by simp[RE,h],by simp[RE,h],by simp[RE,h],by simp[RE,h],fun o=>by simp[RO,h]⟩
theorem moveS_keep (most ma:Nat)(log:List (Bs×Int))(mv pt:Value)(s:Bs)(p:Int)(w:World)(h:MS true most ma log mv pt w)(hg:yE w)(hm:most<=16777216)(Gx:log.length<=most) :
 Calls RG 92 #[ma,s,.int RD p] w (wJ true most ma log mv pt s p w):=by
 obtain⟨c0,c1,c2,c3,c4,cf⟩:=cv h.blk;have f3:=cf 3;clear cf;obtain⟨te,pe,KU⟩:=hg;have H:=r9 h;clear h;generalize hL:log.length=n at *;have HL:=r9 hL;clear hL;by_cases he:n=most
 ·have hd:((n:Int) == (most:Int))=true:=by rw[beq_iff_eq];omega
  have HE:=r9 he;clear he;go_enter Va,UZ;go_wp2_with fail
  go_quiet (fail);go_wp2_with fail
  go_quiet (fail);go_wp2_with fail
  refine bodyPost_ret (v:=.tuple #[.int RD 0,.iface te pe]) (by simp[results,UG,go_sem]) rfl ?_;unfold wJ;rw[if_pos (HL.out.trans HE.out)];exact⟨te,pe,rfl,by first | exact jK (sQ _ _) _ | exact jK (jK (sQ _ _) _) _⟩
 ·have hd:((n:Int) == (most:Int))=RC:=by rw[beq_eq_false_iff_ne];omega
  have HE:=r9 he;clear he;have hw:IntKind.i64.wrap ((n:Int)+1)=(n:Int)+1:=by
   rw[show (n:Int)+1=((n+1:Nat):Int) from by omega];exact dK _ (by omega)
  obtain⟨am,cm,em⟩:=(H.out.rows rfl).1.slice;obtain⟨ap,cp,ep⟩:=(H.out.rows rfl).2.slice;rw[HL.out]at em ep;subst em;subst ep;go_enter Va,UZ;go_wp2_with fail
  go_quiet (fail);have sW:(w.drewN nq).heap[ma]?=OK (.cells #[.slice am n cm,.slice ap n cp,(most:Int),.int RD (log.length:Nat),.bool true] 134 (0,0)):=H.out.blk;have hd3:(w.drewN nq) (ma,3)=OK (.int RD (n:Nat)):=c3;have hdf:(w.drewN nq).frozen? (ma,3)=RC:=f3;obtain⟨W,hW⟩:=zzN ((w.drewN nq).setCell (ma,3) (.int RD ((n:Int)+1)));have IB:W.heap[ma]?=OK (.cells #[.slice am n cm,.slice ap n cp,(most:Int),.int RD ((n+1:Nat):Int),.bool true] 134 (0,0)):=by
   rw[<- hW,zT sW];rfl
  have sF:But (· = ma) w W:=by rw[<- hW];exact But.setCell (m:=(· = ma)) (p:=⟨ma,3,U⟩) (cF (But.refl _ _) _) (.inl rfl) _
  obtain⟨d0,d1,d2,d3,d4,df⟩:=cv IB;have df0:=df 0;clear df;have HW:=r9 hW;have HB:=r9 IB;have ET:=r9 sF;clear hW IB sF sW;clear c0 c1 c2 c3 c4 f3;go_upto_region 4 with (fail)
  rw[HW.out];go_wp2_with (at_builtin;refine zF rfl _ _ 22 rfl 9 (str []) 1 16 Tryz.underlying22 Tryz.infoStr0 rfl (by decide) (.slice am n cm) n (logM log) rfl ?c1 _ 1 [s] rfl ?c2 ?c3 ?c4 ?_)
  case c1=>
   have h0:=(H.out.rows rfl).1;rw[HL.out]at h0;exact(h0.keep fun g o hg ho=>by rw[ET.out.block g (zZ ho) (H.out.neM g hg).1];exact ho).alloc _
  case c2=>exact zz.litk #[str s] rfl (by simp[str,R4]) _ (by simp)
  case c3=>unfold maxLen;omega
  case c4=>omega
  intro a' c' w7 sj sH sS;have sC:ma<W:=zZ HB.out;have ID:w7.heap[ma]?=OK (.cells #[.slice am n cm,.slice ap n cp,(most:Int),.int RD ((n+1:Nat):Int),.bool true] 134 (0,0)):=by
   rw[sH.block ma (by rw[zK];omega) (fun e=>(H.out.neM ma e).1 rfl),Below.heap_alloc _ _ _ sC];exact HB.out
  have Fi:(w7.setCell ma (.slice a' (n+1) c')).heap[ma]?=OK (.cells #[.slice a' (n+1) c',.slice ap n cp,(most:Int),.int RD ((n+1:Nat):Int),.bool true] 134 (0,0)):=by
   rw[zT ID];rfl
  obtain⟨b0,b1,b2,b3,b4,bf⟩:=cv ID;have bf0:=bf 0;clear bf;obtain⟨g0,g1,g2,g3,g4,gf⟩:=cv Fi;have gf1:=gf 1;clear gf;have Jl:But (MBk ma (.slice am n cm) (.slice ap n cp)) w (w7.setCell ma (.slice a' (n+1) c')):=by
   refine But.setCell (p:=ma) ?_ (.inl (.inl rfl)) _;have h1:But (MBk ma (.slice am n cm) (.slice ap n cp)) w (W.alloc (.cells #[s] 9)):=(ET.out.weak fun i _ hi=>.inl hi).alloc _;exact h1.trans' sH fun i _ hi=>.inr (.inl hi)
  have hz:(W:Nat)+1<=(w7:Nat):=by have:=sH.size;rwa [zK]at this
  have J7:Own (w7.setCell ma (.slice a' (n+1) c')) 9 1 (.slice a' (n+1) c') (n+1) (logM log++[str s]):=by
   refine sj.keep fun g o hg ho=>?_
   rw [sJ _ _ _ _ (by
    intro e;have e:g=ma:=by simpa using e
    subst e;rcases sS g hg with h|h
    ·exact(H.out.neM g h).1 rfl
    ·have:g=W+1:=by simpa using h
     omega)];exact ho
  have hO2:Own (w7.setCell ma (.slice a' (n+1) c')) 3 1 (.slice ap n cp) n (logP log):=by
   have h0:=(H.out.rows rfl).2;rw[HL.out]at h0;refine h0.keep fun g o hg ho=>?_;have hne:g≠ma:=H.out.neP g hg;have h2:W.heap[g]?=OK o:=by rw[ET.out.block g (zZ ho) hne];exact ho
   rw[sJ _ _ _ _ (by simpa using hne),sH.block g (by rw[zK];have:=zZ h2;omega) (fun e=>(H.out.neM g e).2 hg),Below.heap_alloc _ _ _ (zZ h2)];exact h2
  have hG1:∀g,(RI a' (n+1) c').ownBlock=OK g->(RI am n cm).ownBlock=OK g\/(w:Nat)<=g:=by
   intro g hg;rcases sS g hg with h|h
   ·exact .inl h
   ·have:g=W+1:=by simpa using h
    have:=ET.out.size;exact .inr (by omega)
  obtain⟨V,hV⟩:=zzN (w7.setCell ma (.slice a' (n+1) c'));rw[hV]at Fi g0 g1 g2 g3 g4 gf1 Jl J7 hO2;have HV:=r9 hV;have i7:=r9 Fi;have oD:=r9 Jl;have HV3:=r9 J7;have HV4:=r9 hO2;have HG:=r9 hG1;clear hV Fi Jl J7 hO2 hG1 sj sH sS ID;clear d0 d1 d2 d3 d4 df0;go_upto_region 6 with (fail)
  rw[HV.out];go_wp2_with (at_builtin;refine zF rfl _ _ 75 rfl 3 (.int RD 0) 1 8 Tryz.underlying75 Tryz.infoInt rfl (by decide) (.slice ap n cp) n (logP log) rfl ?e1 _ 1 [.int RD p] rfl ?e2 ?e3 ?e4 ?_)
  case e1=>exact HV4.out.alloc _
  case e2=>exact zz.litk #[.int RD p] rfl (by simp[R4]) _ (by simp)
  case e3=>unfold maxLen;omega
  case e4=>omega
  intro a2 c2 w9 KH aO KV;have hltV:ma<V:=zZ i7.out;have IC:w9.heap[ma]?=OK (.cells #[.slice a' (n+1) c',.slice ap n cp,(most:Int),.int RD ((n+1:Nat):Int),.bool true] 134 (0,0)):=by
   rw[aO.block ma (by rw[zK];omega) (fun e=>H.out.neP ma e rfl),Below.heap_alloc _ _ _ hltV];exact i7.out
  have EG:(w9.setCell (ma,1) (.slice a2 (n+1) c2)).heap[ma]?=OK (.cells #[.slice a' (n+1) c',.slice a2 (n+1) c2,(most:Int),.int RD ((n+1:Nat):Int),.bool true] 134 (0,0)):=by
   rw[zT IC];rfl
  obtain⟨u0,u1,u2,u3,u4,uf⟩:=cv IC;have uf1:=uf 1;clear uf;obtain⟨v0,v1,v2,v3,v4,vf⟩:=cv EG;clear vf;have AJ:But (MBk ma (.slice am n cm) (.slice ap n cp)) w (w9.setCell (ma,1) (.slice a2 (n+1) c2)):=by
   refine But.setCell (p:=⟨ma,1,U⟩) ?_ (.inl (.inl rfl)) _;exact(oD.out.alloc _).trans' aO fun i _ hi=>.inr (.inr hi)
  have Al:(w:Nat)<=W:=ET.out.size;have hzV:(w:Nat)<=V:=oD.out.size;have hlM:∀g,(RI a' (n+1) c').ownBlock=OK g->g<(V:Nat):=fun g hg=>HV3.out.lt hg;have JH:∀g,(RI a' (n+1) c').ownBlock=OK g->g≠ma/\(RI ap n cp).ownBlock≠OK g:=by
   intro g hg;rcases HG.out g hg with h|h
   ·exact H.out.neM g h
   ·refine⟨?_,fun e=>?_⟩
    ·have:=zZ H.out.blk;omega
    ·have:=(H.out.rows rfl).2.lt e;omega
  have Qa:∀g,(RI a2 (n+1) c2).ownBlock=OK g->(RI ap n cp).ownBlock=OK g\/g=(V:Nat)+1:=by
   intro g hg;rcases KV g hg with h|h
   ·exact .inl h
   ·exact .inr (by simpa using h)
  have hOM:Own (w9.setCell (ma,1) (.slice a2 (n+1) c2)) 9 1 (.slice a' (n+1) c') (n+1) (logM log++[str s]):=by
   refine HV3.out.keep fun g o hg ho=>?_;obtain⟨k1,k2⟩:=JH g hg;have:=hlM g hg;rw[sJ _ _ _ _ (by simpa using k1),aO.block g (by rw[zK];omega) k2,Below.heap_alloc _ _ _ this];exact ho
  have hOP:Own (w9.setCell (ma,1) (.slice a2 (n+1) c2)) 3 1 (.slice a2 (n+1) c2) (n+1) (logP log++[.int RD p]):=by
   refine KH.keep fun g o hg ho=>?_
   rw [sJ _ _ _ _ (by
    intro e;have e:g=ma:=by simpa using e
    subst e;rcases Qa g hg with h|h
    ·exact H.out.neP g h rfl
    ·omega)];exact ho
  have hMS:MS true most ma (log++[(s,p)]) (.slice a' (n+1) c') (.slice a2 (n+1) c2) (w9.setCell (ma,1) (.slice a2 (n+1) c2)):=by
   have hlen:(log++[(s,p)]).length=n+1:=by rw[RL,HL.out];rfl
   refine⟨by rw[hlen];exact EG,fun _=>⟨by rw[hlen,logM_snoc];exact hOM,by rw[hlen,logP_snoc];exact hOP⟩,fun h=>(Bool.noConfusion h),fun g hg=>⟨(JH g hg).1,fun e=>?_⟩,fun g hg=>?_⟩
   ·rcases Qa g e with h|h
    ·exact(JH g hg).2 h
    ·have:=hlM g hg;omega
   ·rcases Qa g hg with h|h
    ·exact H.out.neP g h
    ·omega
  have tg:∀b,MBk ma (.slice a' (n+1) c') (.slice a2 (n+1) c2) b->MBk ma (.slice am n cm) (.slice ap n cp) b\/(w:Nat)<=b:=by
   rintro b (h | h | h)
   ·exact .inl (.inl h)
   ·rcases HG.out b h with h|h
    ·exact .inl (.inr (.inl h))
    ·exact .inr h
   ·rcases Qa b h with h|h
    ·exact .inl (.inr (.inr h))
    ·exact .inr (by omega)
  have HF:=r9 (r_ AJ (r_ hMS tg));clear AJ hMS tg hOM hOP Qa JH hlM EG IC KH aO KV;clear g0 g1 g2 g3 g4 gf1;go_wp2_with fail
  refine bodyPost_ret (v:=.tuple #[(n:Int),.nilIface]) (by simp[results,UG,go_sem]) rfl ?_;unfold wJ;rw[if_neg (fun e=>HE.out (HL.out.symm.trans e)),HL.out];exact⟨_,_,rfl,HF.out.1,HF.out.2.1,HF.out.2.2⟩
theorem pW (keeps:Bool)(most ma:Nat)(log:List (Bs×Int))(mv pt:Value)(s:Bs)(p:Int)(w:World)(h:MS keeps most ma log mv pt w)(hg:yE w)(hm:most<=16777216)(Gx:log.length<=most) :
 Calls RG 92 #[ma,s,.int RD p] w (wJ keeps most ma log mv pt s p w):=by
 cases keeps with
 |true=>exact moveS_keep most ma log mv pt s p w h hg hm Gx
 |false=>exact moveS_none most ma log mv pt s p w h hg hm Gx
def encFr (f:Fr):List DV:=[kM f.yes,kM f.no,.sl 183 4 f.env.length (j_ f.env),.val (.int RD (f.begun:Nat)),.val (str f.path)]
def up:List Fr->List DV
 |[]=>[]
 |f::fs=>encFr f++up fs
theorem wO:∀(xs ys:List Fr),up (xs++ys)=up xs++up ys
 |[],ys=>by simp[up]
 |x::xs,ys=>by simp[up,wO xs ys]
theorem cE:∀fs:List Fr,(up fs).length=fs.length*5
 |[]=>by simp[up]
 |f::fs=>by rw[up,RL,cE fs];simp[encFr];omega
mutual
def nB:Bd->Prop
 |.leaf _=>True
 |.ask _ ss y n=>ss.length<=15/\nBs ss/\nB y/\nB n
def nBs:List Bd->Prop
 |[]=>True
 |b::bs=>nB b/\nBs bs
end
mutual
def okC (n:Nat):Clo->Prop
 |.mk b e _ p=>nB b/\pj n e/\e.length<=16*n/\p.length<=2*n
def pj (n:Nat):List Clo->Prop
 |[]=>True
 |c::cs=>okC n c/\pj n cs
end
mutual
theorem okC_mono {n m:Nat}(h:n<=m):∀c,okC n c->okC m c
 | .mk b e _ p,k=>by
   rw[okC] at *;exact⟨k.1,yj h e k.2.1,by have:=k.2.2.1;omega,by have:=k.2.2.2;omega⟩
theorem yj {n m:Nat}(h:n<=m):∀cs,pj n cs->pj m cs
 |[],k=>by rw[pj] at *;trivial
 |c::cs,k=>by rw[pj] at *;exact⟨okC_mono h c k.1,yj h cs k.2⟩
end
theorem okCs_at {n:Nat}:∀(cs:List Clo),pj n cs->∀(i:Nat) (c:Clo),cs[i]?=OK c->okC n c
 |[],_,i,c,h=>by simp at h
 | x::cs,k,i,c,h=>by
   rw[pj]at k;cases i with
   |zero=>simp at h;subst h;exact k.1
   |succ i=>exact okCs_at cs k.2 i c (by simpa using h)
theorem fl {n:Nat}:∀(xs ys:List Clo),pj n xs->pj n ys->pj n (xs++ys)
 |[],ys,_,h=>h
 |x::xs,ys,h,k=>by rw[pj]at h;exact⟨h.1,fl xs ys h.2 k⟩
theorem cI {n m:Nat}{env:List Clo}{p:Bs}(he:pj n env)(hl:env.length<=16*n)(hp:p.length+2<=2*n):∀(ss:List Bd) (i:Nat),i+ss.length<=100->nBs ss->pj n (qW env m p i ss)
 |[],i,_,_=>by rw[qW,pj];trivial
 | s::ss,i,hi,h=>by
   rw[nBs]at h;simp only[RU]at hi;rw[qW,pj];refine⟨?_,cI he hl hp ss (i+1) (by omega) h.2⟩;rw[okC];refine⟨h.1,he,hl,?_⟩;have:=vP 1 i (by omega);simp only[RL];omega
def Chg (ma:Nat)(mv pt:Value)(B:Nat)(sv:Value)(i:Nat):Prop:=MBk ma mv pt i\/i=B\/sv.ownBlock=i
theorem xe {Ch Ch':Nat->Prop}{w w':World}(hb:But Ch w w')(hn:∀i,Ch' i->Ch i\/(w:Nat)<=i){d:DV}{v:Value}(h:Rep (fun i=>¬Ch i) w d v):Rep (fun i=>¬Ch' i) w' d v:=
 (Rep.keep fun b o hf ho=>⟨fun e=>by
  rcases hn b e with h|h
  ·exact hf h
  ·have:=zZ ho;omega,by rw [hb.block b (zZ ho) hf];exact ho⟩).1 d v h
theorem bP {Ch Ch':Nat->Prop}{w w':World}(hb:But Ch w w')(hn:∀i,Ch' i->Ch i\/(w:Nat)<=i){d:List DV}{v:List Value}(h:zY (fun i=>¬Ch i) w d v):zY (fun i=>¬Ch' i) w' d v:=
 (Rep.keep fun b o hf ho=>⟨fun e=>by
  rcases hn b e with h|h
  ·exact hf h
  ·have:=zZ ho;omega,by rw [hb.block b (zZ ho) hf];exact ho⟩).2 d v h
structure FrOk (n:Nat)(f:Fr):Prop where
 fit:frFit f
 yes:nB f.yes
 no:nB f.no
 env:pj n f.env
 len:f.env.length<=16*n
 path:f.path.length<=2*n
theorem FrOk.mono {n m:Nat}{f:Fr}(h:FrOk n f)(k:n<=m):FrOk m f:=⟨h.fit,h.yes,h.no,yj k _ h.env,by have:=h.len;omega,by have:=h.path;omega⟩
def hG (xs:List (Bs×Nat)):List (Bs×Int):=xs.map fun y=>(y.1,(y.2:Int))
structure RunPl (R:Option (UInt8×List (Bs×Int)))(most:Nat)(b:Bd)(env:List Clo)(begun:Nat)(path:Bs)(st:List Fr)(log:List (Bs×Int)):Prop where
 le:log.length<=most
 goes:R=(pT (most-log.length) log.length b env begun path st).map fun x=>(x.1,log++hG x.2)
 fit:∃hand,jR env hand/\qB hand b
 nb:nB b
 oke:pj log.length env
 len:env.length<=16*log.length
 lpath:path.length<=2*log.length
 frs:∀f∈st,FrOk log.length f
 stl:st.length<=log.length
structure RunAt (keeps:Bool)(most ma:Nat)(Eg Ee:Value)(w:World)(B:Nat)(b:Bd)(env:List Clo)(begun:Nat)(path:Bs)(st:List Fr)(log:List (Bs×Int))(mv pt:Value)(bv ev sv:Value)(cells:List Value)(wr:World):Prop where
 ms:MS keeps most ma log mv pt wr
 rb:Rep (fun i=>¬Chg ma mv pt B sv i) wr (kM b) bv
 re:Rep (fun i=>¬Chg ma mv pt B sv i) wr (.sl 183 4 env.length (j_ env)) ev
 own:Own wr 179 5 sv st.length cells
 rs:zY (fun i=>¬Chg ma mv pt B sv i) wr (up st.reverse) cells
 beg:wr.heap[B]?=OK (.cells #[(begun:Int),path] 172 (0,0))
 but:But (MBk ma Eg Ee) w wr
 new:∀i,MBk ma mv pt i->MBk ma Eg Ee i\/(w:Nat)<=i
 bB:w<=B/\¬MBk ma mv pt B
 sB:∀g,sv.ownBlock=OK g->(w:Nat)<=g/\g≠B/\¬MBk ma mv pt g
theorem nW {R:Option (UInt8×List (Bs×Int))}{most:Nat}{c:UInt8}{env:List Clo}{begun:Nat}{path:Bs}{f:Fr}{st:List Fr}{log:List (Bs×Int)}(h:RunPl R most (.leaf c) env begun path (f::st) log)(hc:c≠117)(hm:log.length≠most) :
 RunPl R most (if c=116 then f.yes else f.no) f.env f.begun f.path st (log++[(c::path,(begun:Int))]):=by
 obtain⟨tw,FZ,tA,az,JN,hlen,Pr,Cz,lN⟩:=h;have hl:(log++[(c::path,(begun:Int))]).length=log.length+1:=by simp
 have k:=Cz f (by simp);obtain⟨hand,k1,k2,k3⟩:=k.fit;refine⟨by rw[hl];omega,?_,⟨hand,k1,by split <;> assumption⟩,by { split;exact k.yes;exact k.no },by rw[hl];exact yj (by omega) _ k.env,by rw[hl];have:=k.len;omega,by rw[hl];have:=k.path;omega,fun g hg=>by rw[hl];exact(Cz g (by simp[hg])).mono (by omega),by rw[hl];simp at lN;omega⟩;rw[FZ,hl];obtain⟨d,hd⟩:∃d,most-log.length=d+1:=⟨most-log.length-1,by omega⟩;rw[hd,runM_back hc,show most-(log.length+1)=d from by omega,V_]
 congr 1
 funext x;simp[hG]
theorem runpl_ask {R:Option (UInt8×List (Bs×Int))}{most:Nat}{v:Nat}{ss:List Bd}{y n:Bd}{env:List Clo}{begun:Nat}{path:Bs}{st:List Fr}{log:List (Bs×Int)}(h:RunPl R most (.ask v ss y n) env begun path st log)(hm:log.length≠most){e:Clo}(he:env[v]?=OK e) :
 RunPl R most e.body (e.env++qW env log.length e.path 0 ss) log.length e.path (⟨y,n,env,begun,path⟩::st) (log++[(113::e.path,(e.begun:Int))]):=by
 obtain⟨tw,FZ,tA,az,JN,hlen,Pr,Cz,lN⟩:=h;have hl:(log++[(113::e.path,(e.begun:Int))]).length=log.length+1:=by simp
 obtain⟨hand,k1,k2⟩:=tA;obtain⟨e',MP,Fm,j1,j2⟩:=ask_next k2 k1 log.length;rw[he]at MP;simp at MP;subst MP;have D5:=okCs_at _ JN _ _ he;rw[nB]at az;obtain⟨eb,ee,eg,ep⟩:=e;rw[okC]at D5;simp only[Clo.body,Clo.env,Clo.begun,Clo.path] at *;refine⟨by rw[hl];omega,?_,⟨Fm,j1,j2⟩,D5.1,?_,?_,?_,?_,?_⟩
 ·rw[FZ,hl];obtain⟨d,hd⟩:∃d,most-log.length=d+1:=⟨most-log.length-1,by omega⟩;rw[hd,runM_ask _ _ _ _ _ _ _ _ _ _ he,show most-(log.length+1)=d from by omega,V_];simp only[Clo.body,Clo.env,Clo.begun,Clo.path]
  congr 1
  funext x;simp[hG]
 ·rw[hl];exact fl _ _ (yj (by omega) _ D5.2.1) (cI (yj (by omega) _ JN) (by omega) (by have:=D5.2.2.2;omega) ss 0 (by omega) az.2.1)
 ·rw[hl,RL,jr];have:=D5.2.2.1;omega
 ·rw[hl];have:=D5.2.2.2;omega
 ·intro f hf;rw[hl];rcases Sc.1 hf with rfl|hf
  ·exact⟨frame_next k2 k1 begun path,az.2.2.1,az.2.2.2,yj (by omega) _ JN,by simp only;omega,by simp only;omega⟩
  ·exact(Cz f hf).mono (by omega)
 ·rw[hl];simp only[RU];omega
def RunPost (R:Option (UInt8×List (Bs×Int)))(keeps:Bool)(most ma:Nat)(mv pt:Value)(w:World)(en:Ending)(w':World):Prop:=
 But (MBk ma mv pt) w w'/\(R=U->∃te pe,en=.returned (.tuple #[str [],.iface te pe])) /\
  (∀c log,R=OK (c,log)->en=.returned (.tuple #[str [c],.nilIface])/\∃mv' pt',MS keeps most ma log mv' pt' w'/\(∀i,MBk ma mv' pt' i->MBk ma mv pt i\/(w:Nat)<=i))
def RunRel (R:Option (UInt8×List (Bs×Int)))(keeps:Bool)(most ma:Nat)(Eg Ee:Value)(w:World)(B:Nat)(bv ev sv:Value)(wr:World):Prop:=
 ∃b env begun path st log mv pt cells,RunPl R most b env begun path st log/\RunAt keeps most ma Eg Ee w B b env begun path st log mv pt bv ev sv cells wr
def leftM (most ma:Nat)(wr:World):Nat:=match wr.heap[ma]? with
 |some (.cells c _ _)=>most-(intOf (c.getD 3 (.int RD 0))).toNat
 |_=>0
theorem dj {keeps:Bool}{most ma:Nat}{log:List (Bs×Int)}{mv pt:Value}{w:World}(h:MS keeps most ma log mv pt w):leftM most ma w=most-log.length:=by
 unfold leftM;rw[h.blk];simp[intOf]
theorem env0_fit:∀(ar:List Bd) (ts:List Ty) (i:Nat),qZ (ts.map Ty.args) ar->jR (qW [] 0 [] i ar) ts
 | [],ts,i,h=>by
   rw[qZ]at h;have:ts=[]:=by simpa using h
   subst this;simp[qW,jR]
 | a::ar,ts,i,h=>by
   rw[qZ]at h;obtain⟨h',lw,e,h1,h2⟩:=h;cases ts with
   |nil=>simp at e
   | cons t ts =>
     simp only[Sa,List.cons.injEq]at e;obtain⟨rfl,rfl⟩:=e;rw[qW,jR];refine⟨t,ts,rfl,?_,env0_fit ar ts (i+1) h2⟩;rw[rR];exact⟨[],by rw[jR],by simpa using h1⟩
theorem subs_open {F:Nat->Prop}{w:World}{ss:List Bd}{v:Value}(h:Rep F w (.sl 34 1 ss.length (qH ss)) v) :
 ∃a c us,v=.slice a ss.length c/\zY F w (qH ss) us/\∀k,k<ss.length->∃b o u,a=OK ⟨b,o,U⟩/\us[k]?=OK (.pointer (OK ⟨u,0,U⟩))/\F b/\w.cell? ⟨b,o+k,U⟩=OK (.pointer (OK ⟨u,0,U⟩)):=by
 rw[zv]at h;obtain⟨hl,a,cap,rfl,hn,hz,h⟩:=h;rcases h with h0|⟨b,o,c,fr,rfl,hb,hc,hr⟩
 ·have:ss=[]:=List.eq_nil_of_length_eq_zero h0;subst this;exact⟨a,cap,[],rfl,by rw[qH];exact zE.2 rfl,fun k hk=>by simp at hk⟩
 ·refine⟨_,cap,_,rfl,hr,fun k hk=>?_⟩;obtain⟨u,hu,iK⟩:=hr.at (i:=k) (d:=kM ss[k]) (by rw[yC,SS hk];rfl);obtain⟨ub,rfl⟩:=zg iK;refine⟨b,o,ub,rfl,hu,hb,?_⟩;rw[Nat.mul_one,Su,if_pos hk,SA]at hu;simp only[RE,hc];simpa using hu
theorem rY {ma:Nat}{mv pt:Value}{w w':World}(hg:uC w/\yE w)(hn:∀i,MBk ma mv pt i->ru i/\i≠0)(hb:But (MBk ma mv pt) w w'):uC w'/\yE w':=
 ⟨hg.1.but hb fun i hi=>(hn i hi).1,hg.2.but hb fun e=>(hn _ e).2 rfl⟩
theorem nO {ma:Nat}{mv pt:Value}{w:World}(hg:uC w/\yE w)(hn:∀i,MBk ma mv pt i->ru i/\i≠0){i:Nat}(hi:MBk ma mv pt i\/(w:Nat)<=i):ru i/\i≠0:=by
 rcases hi with hi|hi
 ·exact hn i hi
 ·refine⟨hg.1.new hi,?_⟩;obtain⟨te,pe,h⟩:=hg.2;have h2:0<(w:Nat):=sK w _ h;omega
theorem run_start {keeps:Bool}{most ma:Nat}{mv pt Kn Km:Value}{w w1 w3 w4:World}{O:Obj}{b:Bd}{ar:List Bd}{bv:Value}{us:List Value}{ea:Option Addr}{ec:Nat}(hO:O=.cells #[.int RD ((0:Nat):Int),str []] 172)(sX:But (MBk ma mv pt) w w1)(B2:MS keeps most ma [([113],-1)] Kn Km w1)(tK:∀b,MBk ma Kn Km b->MBk ma mv pt b\/(w:Nat)<=b)(sE:Below (w1.alloc O).heap.size (w1.alloc O) w3)(sO:No w3 w4)(E8:Own w4 183 4 (.slice ea ar.length ec) ar.length (co us () 0 [] ar.length))(Jh:∀g,(RI ea ar.length ec).ownBlock=OK g->(w3:Nat)<=g)(rb:Rep (fun i=>¬MBk ma mv pt i) w (kM b) bv)(Ek:zY (fun i=>¬MBk ma mv pt i) w (qH ar) us)(hma:∀i,MBk ma Kn Km i->i<(w1:Nat)) :
 RunAt keeps most ma mv pt w w1 b (qW [] 0 [] 0 ar) 0 [] [] [([113],-1)] Kn Km bv (.slice ea ar.length ec) () [] w4:=by
 have lP:(w1:Nat)+1<=(w3:Nat):=by have:=sE.size;rwa [zK]at this
 have ib:But (MBk ma mv pt) w w4:=((sX.alloc O).trans (But.ofBelow sE)).trans (But.ofBelow sO);have hb14:No w1 w4:=(((sQ w1 w1).alloc (sZ _) O).trans (sE.mono (by rw[zK];omega))).trans (sO.mono (by omega));have lF:=sX.size;have hn:∀i,Chg ma Kn Km w1 () i->MBk ma mv pt i\/(w:Nat)<=i:=by
  rintro i (h | h | h)
  ·exact tK i h
  ·exact .inr (by omega)
  ·simp[RM]at h
 have aC:Rep (fun i=>¬Chg ma Kn Km w1 () i) w4 (.sl 183 4 ([]:List Clo).length (j_ [])) ():=zv.2 ⟨rfl,U,0,rfl,sZ _,fun _=>rfl,.inl rfl⟩;have DF:=ents_rep (env:=[]) (m:=0) (p:=[]) (bP ib hn Ek) aC ar.length (sZ _);have lM:(qW [] 0 [] 0 ar).take ar.length=qW [] 0 [] 0 ar:=S6 (by rw[jr];exact sZ _);rw[lM]at DF;refine⟨B2.but (But.ofBelow (m:=fun _=>False) hb14) (fun _ _ h=>h),xe ib hn rb,?_,Sf _ _ _ _,zE.2 rfl,?_,ib,tK,⟨by omega,fun h=>?_⟩,fun g h=>by simp[RM]at h⟩
 ·rw[jr];refine E8.rep (fun g hg=>?_) DF;have h3:=Jh g hg;rintro(h | h | h)
  ·have:=hma g h;omega
  ·omega
  ·simp[RM]at h
 ·subst hO;rw[sO.block _ (by omega),sE.block _ (by rw[zK];omega)];exact zW _ _
 ·have:=hma _ h;omega
theorem MS.drew {keeps:Bool}{most ma:Nat}{log:List (Bs×Int)}{mv pt:Value}{w:World}(h:MS keeps most ma log mv pt w):MS keeps most ma log mv pt w.drew:=h.but (m:=fun _=>False) (But.refl _ _).drew fun _ _ h=>h
theorem yE.drew {w:World}(h:yE w):yE w.drew:=h
theorem eQ {w w':World}(h:Below w.drew.heap.size w.drew w'):No w w':=⟨h.os,h.tape,h.output,h.size,h.block⟩
theorem but_ud {m:Nat->Prop}{w w':World}(h:But m w.drew w'):But m w w':=⟨h.os,h.tape,h.output,h.size,h.block⟩
theorem fC {m:Nat->Prop}{w w':World}{a b c:Addr}{u v x:Value}(hb:But m w w')(ha:w.cell? a=u)(hbb:w.cell? b=v)(hc:w.cell? c=x)(na:¬m a.block)(nb:¬m b.block)(nc:¬m c.block) :
 w'.cell? a=u/\w'.cell? b=v/\w'.cell? c=x:=
 ⟨(hb.cell (sK w _ ha) na).trans ha,(hb.cell (sK w _ hbb) nb).trans hbb,(hb.cell (sK w _ hc) nc).trans hc⟩
theorem frame_top {F:Nat->Prop}{wr:World}{sv:Value}{f:Fr}{st:List Fr}{cells:List Value}(ho:Own wr 179 5 sv (st.length+1) cells)(hr:zY F wr (up (f::st).reverse) cells) :
 ∃ g c yv nv ev vy,sv=.slice (some ⟨g,0,none⟩) (st.length+1) c/\st.length+1<=c/\wr (g,st.length*5)=some yv/\wr (g,st.length*5+1)=some nv/\wr (g,st.length*5+2)=some ev /\
   wr (g,st.length*5+3)=OK (.int RD (f.begun:Nat))/\wr (g,st.length*5+4)=str f.path/\cells=vy++[yv,nv,ev,.int RD (f.begun:Nat),str f.path]/\vy.length=st.length*5 /\
   zY F wr (up st.reverse) vy/\Rep F wr (kM f.yes) yv/\Rep F wr (kM f.no) nv/\Rep F wr (.sl 183 4 f.env.length (j_ f.env)) ev:=by
 rw[V4,wO]at hr;have hs:=hr.split;rw[cE,List.length_reverse]at hs;obtain⟨h1,h2⟩:=hs;simp only[up,encFr,R9,zQ,zE,zC]at h2;obtain⟨yv,_,e1,k1,nv,_,rfl,k2,ev,_,rfl,k3,_,_,rfl,rfl,_,_,rfl,rfl,rfl⟩:=h2;have lD:cells=cells.take (st.length*5)++[yv,nv,ev,.int RD (f.begun:Nat),str f.path]:=by rw[<- e1,R7]
 have hl:(cells.take (st.length*5)).length=st.length*5:=by
  have:=ho.1;rw[Sy];omega
 have N_:∀(j:Nat) (u:Value),[yv,nv,ev,.int RD (f.begun:Nat),f.path][j]?=OK u->cells[st.length*5+j]?=OK u:=by
  intro j u hj;rw[lD,Sr (by omega),hl,Nat.add_sub_cancel_left];exact hj
 obtain⟨g,c,es,ir⟩:=ho.at (N_ 0 yv rfl);subst es;have get:∀(j:Nat) (u:Value),[yv,nv,ev,.int RD (f.begun:Nat),f.path][j]?=OK u->wr (g,st.length*5+j)=u:=by
  intro j u hj;obtain⟨g',c',es,hc⟩:=ho.at (N_ j u hj);simp only[RT,RK,Addr.mk.injEq,and_true,true_and]at es;obtain⟨rfl,rfl⟩:=es;exact hc
 have aj:st.length+1<=c:=by
  rcases ho.2 with ⟨e,_⟩|⟨g',cap,cur,e,_,_,og,_⟩
  ·simp at e
  ·simp only[RT,true_and]at e;rw[e.2];exact og
 exact⟨g,c,yv,nv,ev,_,rfl,aj,get 0 _ rfl,get 1 _ rfl,get 2 _ rfl,get 3 _ rfl,get 4 _ rfl,lD,hl,h1,k1,k2,k3⟩
theorem heap_push (w:World)(o:Obj){i:Nat}(h:i<w):(w.alloc o).heap[i]?=w.heap[i]?:=Below.heap_alloc _ _ _ h
theorem nG {keeps:Bool}{most ma:Nat}{mv pt:Value}{w:World}{B:Nat}{b0 nb:Bd}{env:List Clo}{begun:Nat}{path:Bs}{f:Fr}{st:List Fr}{log log':List (Bs×Int)}{tR tN ai ae bv ev:Value}{g sc:Nat}{cells vy:List Value}{wr w1:World}{O:Obj}{nv fe:Value}{tl:List Value}(h:RunAt keeps most ma mv pt w B b0 env begun path (f::st) log tR tN bv ev (.slice g (st.length+1) sc) cells wr)(lD:cells=vy++tl)(Gy:vy.length=st.length*5)(aV:zY (fun i=>¬Chg ma tR tN B (.slice g (st.length+1) sc) i) wr (up st.reverse) vy)(rn:Rep (fun i=>¬Chg ma tR tN B (.slice g (st.length+1) sc) i) wr (kM nb) nv)(re:Rep (fun i=>¬Chg ma tR tN B (.slice g (st.length+1) sc) i) wr (.sl 183 4 f.env.length (j_ f.env)) fe)(sX:But (MBk ma tR tN) wr w1)(E_:MS keeps most ma log' ai ae w1)(hn:∀b,MBk ma ai ae b->MBk ma tR tN b\/(wr:Nat)<=b){W:World}(hW:W=((w1.alloc O).setCell B (.int RD (f.begun:Nat))).setCell (B,1) (str f.path)) :
 RunAt keeps most ma mv pt w B nb f.env f.begun f.path st log' ai ae nv fe (.slice g st.length sc) vy W.drew:=by
 subst hW;have L2:=zZ h.beg;have lU:=sX.size;have oG:=h.sB g rfl
 have sY:But (Chg ma tR tN B (.slice g (st.length+1) sc)) wr (((w1.alloc O).setCell B (.int RD (f.begun:Nat))).setCell (B,1) (str f.path)).drew:=
  (((sX.weak fun i _ hi=>.inl hi).alloc O).setCell (p:=B) (.inl (.inr (.inl rfl))) _ |>.setCell (p:=⟨B,1,U⟩) (.inl (.inr (.inl rfl))) _).drew
 have lu:∀i,MBk ma ai ae i->i≠B:=by
  rintro i hi rfl;rcases hn _ hi with h'|h'
  ·exact h.bB.2 h'
  ·omega
 have It:∀i,Chg ma ai ae B (.slice g st.length sc) i->Chg ma tR tN B (.slice g (st.length+1) sc) i\/(wr:Nat)<=i:=by
  rintro i (hi | hi | hi)
  ·rcases hn i hi with h'|h'
   ·exact .inl (.inl h')
   ·exact .inr h'
  ·exact .inl (.inr (.inl hi))
  ·exact .inl (.inr (.inr hi))
 have Dk:w1.heap[B]?=OK (.cells #[(begun:Int),path] 172 (0,0)):=by rw[sX.block B L2 h.bB.2];exact h.beg
 have JX:(w1.alloc O).heap[B]?=OK (.cells #[(begun:Int),path] 172 (0,0)):=zJ Dk;have Al:=h.but.size;refine⟨?_,xe sY It rn,xe sY It re,?_,bP sY It aV,?_,?_,?_,⟨h.bB.1,fun hi=>lu _ hi rfl⟩,fun g' tS=>?_⟩
 ·refine E_.but (m:=fun i=>i=B) ?_ fun b hb e=>lu b hb e;exact(((But.refl (fun i=>i=B) w1).alloc O).setCell (p:=B) (.inl rfl) _ |>.setCell (p:=⟨B,1,U⟩) (.inl rfl) _).drew
 ·have hs:=h.own.short (m:=st.length) (by simp) (by simp);rw[lD,<- Gy,List.take_left]at hs;refine(hs.keep fun g' o tS ho=>?_);have e:g'=g:=by simpa[RM] using tS.symm
  subst e;have sC:=zZ ho;show (((w1.alloc O).setCell B (.int RD (f.begun:Nat))).setCell (B,1) (str f.path)).heap[g']?=_;rw[sJ _ _ _ _ oG.2.1,sJ _ _ _ _ oG.2.1,heap_push _ _ (by omega),sX.block g' sC oG.2.2];exact ho
 ·show (((w1.alloc O).setCell B (.int RD (f.begun:Nat))).setCell (B,1) (str f.path)).heap[B]?=_;rw[zT (zT JX)];rfl
 ·refine h.but.trans' sY fun i hi hh=>?_;rcases hh with hh|hh|hh
  ·rcases h.new i hh with h'|h'
   ·exact h'
   ·omega
  ·subst hh;have:=h.bB.1;omega
  ·have:=(h.sB i hh).1;omega
 ·intro i hi;rcases hn i hi with h'|h'
  ·exact h.new i h'
  ·exact .inr (by omega)
 ·have e:g'=g:=by simpa[RM] using tS.symm
  subst e;refine⟨oG.1,oG.2.1,fun hi=>?_⟩;rcases hn _ hi with h'|h'
  ·exact oG.2.2 h'
  ·have:=h.own.lt (g:=g') rfl;omega
def ex (most:Nat)(b:Bd)(ar:List Bd):Option (UInt8×List (Bs×Int)):=(pT (most-1) 1 b (qW [] 0 [] 0 ar) 0 [] []).map fun x=>(x.1,[([113],-1)]++hG x.2)
theorem env_at {F:Nat->Prop}{w:World}{env:List Clo}{ev:Value}(h:Rep F w (.sl 183 4 env.length (j_ env)) ev){v:Nat}{c:Clo}(hc:env[v]?=OK c) :
 ∃ b o cap u ea ec,ev=.slice (some ⟨b,o,none⟩) env.length cap/\F b/\b<(w:Nat)/\w.cell? ⟨b,o+v*4,none⟩=some (.pointer (some ⟨u,0,none⟩))/\w (b,o+v*4+1)=some (.slice ea c.env.length ec) /\
   w (b,o+v*4+2)=OK (.int RD (c.begun:Nat))/\w (b,o+v*4+3)=str c.path/\Rep F w (kM c.body) (.pointer (OK ⟨u,0,U⟩))/\Rep F w (.sl 183 4 c.env.length (j_ c.env)) (.slice ea c.env.length ec):=by
 have hv:=(RR.1 hc).1;rw[zv]at h;obtain⟨hl,a,cap,rfl,hn,hz,h⟩:=h;rcases h with h0|⟨b,o,cs,fr,rfl,hb,aP,hr⟩
 ·omega
 have Be:j_ env=j_ (env.take v)++(encC c++j_ (env.drop (v+1))):=by
  have e:env=env.take v++c::env.drop (v+1):=by
   have:env[v]=c:=(RR.1 hc).2;rw[<- this,List.getElem_cons_drop,R7]
  conv=>lhs;rw[e]
  rw[xO,j_]
 rw[Be]at hr;have h2:=hr.split.2;rw[d9,Sy,Nat.min_eq_left (by omega)]at h2;have h3:=h2.split.1;rw[mW]at h3;obtain⟨cb,ce,cg,cp⟩:=c;simp only[encC,zQ,zE,zC]at h3;obtain⟨x0,_,e1,k1,x1,_,rfl,k2,_,_,rfl,rfl,_,_,rfl,rfl,rfl⟩:=h3;obtain⟨u,rfl⟩:=zg k1;obtain⟨ea,ec,rfl⟩:∃a c,x1=.slice a ce.length c:=by
  have h:=k2;rw[zv]at h;obtain⟨_,a,c,e,_⟩:=h;exact⟨a,c,e⟩
 have get:∀(j:Nat) (u':Value),j<4->[.pointer (OK ⟨u,0,U⟩),.slice ea ce.length ec,.int RD (cg:Nat),str cp][j]?=OK u'->w.cell? ⟨b,o+v*4+j,U⟩=OK u':=by
  intro j u' hj h;rw[<- e1,Su,if_pos hj,SA,Su,if_pos (by omega),SA]at h;simp only[RE,aP];simpa[Nat.add_assoc] using h
 exact⟨b,o,cap,u,ea,ec,rfl,hb,zZ aP,get 0 _ (by omega) rfl,get 1 _ (by omega) rfl,get 2 _ (by omega) rfl,get 3 _ (by omega) rfl,k1,k2⟩
structure Tri (bb B P:Nat)(v:Nat)(sl yv nv:Value)(begun:Nat)(path:Bs)(q0 q1 q2 q3:Value)(w:World):Prop where
 b:w.heap[bb]?=OK (.cells #[str [],.int RD v,sl,yv,nv] 71 (0,0))
 g:w.heap[B]?=OK (.cells #[(begun:Int),path] 172 (0,0))
 p:w.heap[P]?=OK (.cells #[q0,q1,q2,q3] 183 (0,0))
theorem Tri.but {bb B P v:Nat}{sl yv nv:Value}{begun:Nat}{path:Bs}{q0 q1 q2 q3:Value}{w w':World}{m:Nat->Prop}(h:Tri bb B P v sl yv nv begun path q0 q1 q2 q3 w)(hb:But m w w')(n1:¬m bb)(n2:¬m B)(n3:¬m P):Tri bb B P v sl yv nv begun path q0 q1 q2 q3 w':=
 ⟨by rw[hb.block _ (zZ h.b) n1];exact h.b,by rw[hb.block _ (zZ h.g) n2];exact h.g,by rw[hb.block _ (zZ h.p) n3];exact h.p⟩
theorem Tri.below {bb B P v:Nat}{sl yv nv:Value}{begun:Nat}{path:Bs}{q0 q1 q2 q3:Value}{w w':World}(h:Tri bb B P v sl yv nv begun path q0 q1 q2 q3 w)(hb:No w w'):Tri bb B P v sl yv nv begun path q0 q1 q2 q3 w':=
 h.but (m:=fun _=>False) (But.ofBelow hb) (fun h=>h) (fun h=>h) (fun h=>h)
theorem Tri.drew {bb B P v:Nat}{sl yv nv:Value}{begun:Nat}{path:Bs}{q0 q1 q2 q3:Value}{w:World}(h:Tri bb B P v sl yv nv begun path q0 q1 q2 q3 w):Tri bb B P v sl yv nv begun path q0 q1 q2 q3 w.drew:=⟨h.b,h.g,h.p⟩
theorem Tri.cells {bb B P v:Nat}{sl yv nv:Value}{begun:Nat}{path:Bs}{q0 q1 q2 q3:Value}{w:World}(h:Tri bb B P v sl yv nv begun path q0 q1 q2 q3 w) :
 w (bb,2)=sl/\w (bb,3)=yv/\w (bb,4)=nv/\w B=OK (.int RD (begun:Nat))/\w (B,1)=str path /\
  w P=q0/\w (P,1)=q1/\w (P,2)=q2/\w (P,3)=q3/\w.frozen? B=RC/\w.frozen? (B,1)=RC/\P<w/\B<w/\bb<w:=
 ⟨by simp[RE,h.b],by simp[RE,h.b],by simp[RE,h.b],by simp[RE,h.g],by simp[RE,h.g],by simp[RE,h.p],by simp[RE,h.p],by simp[RE,h.p],by simp[RE,h.p],by simp[RO,h.g],by simp[RO,h.g],zZ h.p,zZ h.g,zZ h.b⟩
theorem zz.ofOwn {w:World}{e:TypeId}{sz n:Nat}{v:Value}{xs:List Value}(h:Own w e sz v n xs)(hc:∀u∈xs,u.oneCell'=true):zz sz v n xs w:=by
 refine⟨h.1,hc,?_⟩;rcases h.2 with ⟨rfl,rfl⟩|⟨g,cap,cur,rfl,_,hg,_,_,_,ht⟩
 ·exact .inr ⟨rfl,rfl⟩
 ·refine .inl ⟨_,cap,rfl,fun j u hj=>?_⟩;obtain⟨g',c',e',Fg⟩:=h.at hj;simp only[RT,RK,Addr.mk.injEq,and_true,true_and]at e';obtain⟨rfl,rfl⟩:=e';unfold Addr.add;split
  ·subst j;exact Fg
  ·simpa using Fg
theorem ents_one {us:List Value}(hu:∀u∈us,u.oneCell'=true){ev:Value}(he:ev.oneCell'=true)(m:Nat)(p:Bs):∀n,∀u∈co us ev m p n,u.oneCell'=true:=by
 intro n
 induction n with
 |zero=>simp[co]
 | succ n ih =>
   intro u hu';rw[co]at hu';rcases List.mem_append.1 hu' with h|h
   ·exact ih u h
   ·simp only[Sc,List.not_mem_nil,or_false]at h;rcases h with rfl|rfl|rfl|rfl
    ·rw[TX];cases hq:us[n]? with
     |none=>rfl
     |some x=>exact hu x (List.mem_of_getElem? hq)
    ·exact he
    ·rfl
    ·rfl
theorem cY {F:Nat->Prop}{w:World}:∀(cs:List Clo) (us:List Value),zY F w (j_ cs) us->∀u∈us,u.oneCell'=true
 |[],us,h,u,hu=>by rw[j_,zE]at h;subst h;simp at hu
 | .mk b e g p::cs,us,h,u,hu=>by
   simp only[j_,encC,List.cons_append,List.nil_append,zQ,zC]at h;obtain⟨x0,_,rfl,k1,x1,_,rfl,k2,_,_,rfl,rfl,_,us',rfl,rfl,k3⟩:=h;simp only[Sc]at hu;rcases hu with rfl|rfl|rfl|rfl|hu
   ·obtain⟨a,rfl⟩:=zg k1;rfl
   ·rw[zv]at k2;obtain⟨_,a,c,rfl,_⟩:=k2;rfl
   ·rfl
   ·rfl
   ·exact cY cs us' k3 u hu
def SubsAt (w:World)(n:Nat)(us:List Value)(sa:Option Addr):Prop:=∀k,k<n->∃b o u,sa=OK ⟨b,o,U⟩/\us[k]?=OK (.pointer (OK ⟨u,0,U⟩))/\w.cell? ⟨b,o+k,U⟩=OK (.pointer (OK ⟨u,0,U⟩))
theorem SubsAt.below {w w':World}{n:Nat}{us:List Value}{sa:Option Addr}(h:SubsAt w n us sa)(hb:No w w'):SubsAt w' n us sa:=fun k hk=>by
 obtain⟨b,o,u,e,hu,hc⟩:=h k hk;exact⟨b,o,u,e,hu,(hb.cell (sK w _ hc)).trans hc⟩
theorem runat_ask {keeps:Bool}{most ma:Nat}{mv pt:Value}{w:World}{B:Nat}{v:Nat}{ss:List Bd}{y n:Bd}{env:List Clo}{begun:Nat}{path:Bs}{st:List Fr}{log log':List (Bs×Int)}{tR tN ai ae bv ev sv sv' ev' yv nv ubv:Value}{cells us news:List Value}{wr w1 w6:World}{e:Clo}(h:RunAt keeps most ma mv pt w B (.ask v ss y n) env begun path st log tR tN bv ev sv cells wr)(hy:Rep (fun i=>¬Chg ma tR tN B sv i) wr (kM y) yv)(I_:Rep (fun i=>¬Chg ma tR tN B sv i) wr (kM n) nv)(ic:Rep (fun i=>¬Chg ma tR tN B sv i) wr (kM e.body) ubv){w4:World}(aZ:zY (fun i=>¬Chg ma tR tN B sv i/\i<(wr:Nat)) w4 (j_ e.env) news)(Gd:No w4 w6)(Ek:zY (fun i=>¬Chg ma tR tN B sv i) wr (qH ss) us)(D8:But (Chg ma tR tN B sv) wr w6)(lF:But (fun b=>sv.ownBlock=OK b) w1 w6)(E_:MS keeps most ma log' ai ae w1)(hn:∀i,MBk ma ai ae i->MBk ma tR tN i\/(wr:Nat)<=i)(hz:(wr:Nat)<=w1)(aL:w6.heap[B]?=OK (.cells #[(begun:Int),path] 172 (0,0)))(hos:Own w6 179 5 sv' (st.length+1) (cells++[yv,nv,ev,.int RD (begun:Nat),str path]))(oG:∀g,sv'.ownBlock=OK g->sv.ownBlock=OK g\/(w1:Nat)<=g)(hoe:Own w6 183 4 ev' (e.env.length+ss.length) (news++co us ev log.length e.path ss.length))(Bx:∀g,ev'.ownBlock=OK g->(w1:Nat)<=g/\sv'.ownBlock≠OK g){W:World}(hW:W=(w6.setCell B (.int RD (log.length:Nat))).setCell (B,1) (str e.path)) :
 RunAt keeps most ma mv pt w B e.body (e.env++qW env log.length e.path 0 ss) log.length e.path (⟨y,n,env,begun,path⟩::st) log' ai ae ubv ev' sv' (cells++[yv,nv,ev,.int RD (begun:Nat),str path]) W.drew:=by
 subst hW;have L2:=zZ h.beg;have B3:∀i,MBk ma ai ae i->i<(w1:Nat):=fun i hi=>MBk.lt E_ hi;have tt:∀g,sv.ownBlock=OK g->g<(wr:Nat):=fun g hg=>h.own.lt hg
 have sY:But (Chg ma tR tN B sv) wr ((w6.setCell B (.int RD (log.length:Nat))).setCell (B,1) (str e.path)).drew:=
  ((D8.setCell (p:=B) (.inl (.inr (.inl rfl))) _).setCell (p:=⟨B,1,U⟩) (.inl (.inr (.inl rfl))) _).drew
 have lu:∀i,MBk ma ai ae i->i≠B:=by
  rintro i hi rfl;rcases hn _ hi with h'|h'
  ·exact h.bB.2 h'
  ·omega
 have H_:∀i,MBk ma ai ae i->sv.ownBlock≠OK i:=by
  intro i hi hs;rcases hn _ hi with h'|h'
  ·exact(h.sB i hs).2.2 h'
  ·have:=tt i hs;omega
 have It:∀i,Chg ma ai ae B sv' i->Chg ma tR tN B sv i\/(wr:Nat)<=i:=by
  rintro i (hi | hi | hi)
  ·rcases hn i hi with h'|h'
   ·exact .inl (.inl h')
   ·exact .inr h'
  ·exact .inl (.inr (.inl hi))
  ·rcases oG i hi with h'|h'
   ·exact .inl (.inr (.inr h'))
   ·exact .inr (by omega)
 have O6:∀g,sv'.ownBlock=OK g->g≠B:=by
  rintro g hg rfl;rcases oG _ hg with h'|h'
  ·exact(h.sB _ h').2.1 rfl
  ·omega
 have x7:∀ {i:Nat} {o:Obj},i≠B->w6.heap[i]?=OK o->(((w6.setCell B (.int RD (log.length:Nat))).setCell (B,1) (str e.path)).drew).heap[i]?=OK o:=by
  intro i o hi ho;show ((w6.setCell B (.int RD (log.length:Nat))).setCell (B,1) (str e.path)).heap[i]?=_;rw[sJ _ _ _ _ hi,sJ _ _ _ _ hi];exact ho
 have hbB6:w6.heap[B]?=OK (.cells #[(begun:Int),path] 172 (0,0))->(((w6.setCell B (.int RD (log.length:Nat))).setCell (B,1) (str e.path)).drew).heap[B]?=OK (.cells #[.int RD (log.length:Nat),e.path] 172 (0,0)):=by
  intro hb;show ((w6.setCell B (.int RD (log.length:Nat))).setCell (B,1) (str e.path)).heap[B]?=_;rw[zT (zT hb)];rfl
 have Mu:=(Rep.keep (F':=fun i=>¬ Chg ma ai ae B sv' i) (w':=((w6.setCell B (.int .i64 (log.length:Nat))).setCell (B,1) (str e.path)).drew) fun b o hf ho=>⟨fun e=>by
  rcases It b e with h'|h'
  ·exact hf.1 h'
  ·omega,x7 (fun e=>hf.1 (.inr (.inl e))) (by rw [Gd.block b (zZ ho)];exact ho)⟩).2 _ _ aZ
 have Qg:=xe sY It h.re;have DF:=ents_rep (m:=log.length) (p:=e.path) (bP sY It Ek) Qg ss.length (sZ _);rw[S6 (by rw[jr];exact sZ _)]at DF;have Al:=h.but.size;refine⟨?_,xe sY It ic,?_,?_,?_,?_,?_,?_,⟨h.bB.1,fun hi=>lu _ hi rfl⟩,fun g' tS=>⟨?_,O6 g' tS,fun hi=>?_⟩⟩
 ·refine E_.but (m:=fun i=>sv.ownBlock=OK i\/i=B) ?_ fun b hb e=>?_
  ·exact(((lF.weak fun i _ hi=>.inl hi).setCell (p:=B) (.inl (.inr rfl)) _).setCell (p:=⟨B,1,U⟩) (.inl (.inr rfl)) _).drew
  ·rcases e with e|e
   ·exact H_ b hb e
   ·exact lu b hb e
 ·rw[RL,jr,xO];refine(hoe.keep fun g o hg ho=>x7 (fun e=>by have:=(Bx g hg).1;omega) ho).rep (fun g hg=>?_) (zY.append Mu DF);obtain⟨k1,k2⟩:=Bx g hg;rintro(hi | hi | hi)
  ·have:=B3 g hi;omega
  ·omega
  ·exact k2 hi
 ·exact hos.keep fun g o hg ho=>x7 (O6 g hg) ho
 ·rw[V4,wO];refine zY.append (bP sY It h.rs) ?_;simp only[up,encFr,R9];exact zQ.2 ⟨_,_,rfl,xe sY It hy,zQ.2 ⟨_,_,rfl,xe sY It I_,zQ.2 ⟨_,_,rfl,Qg,zQ.2 ⟨_,_,rfl,zC.2 rfl,zQ.2 ⟨_,_,rfl,zC.2 rfl,zE.2 rfl⟩⟩⟩⟩⟩
 ·exact hbB6 aL
 ·refine h.but.trans' sY fun i hi hh=>?_;rcases hh with hh|hh|hh
  ·rcases h.new i hh with h'|h'
   ·exact h'
   ·omega
  ·subst hh;have:=h.bB.1;omega
  ·have:=(h.sB i hh).1;omega
 ·intro i hi;rcases hn i hi with h'|h'
  ·exact h.new i h'
  ·exact .inr (by omega)
 ·rcases oG g' tS with h'|h'
  ·exact(h.sB g' h').1
  ·omega
 ·rcases oG g' tS with h'|h'
  ·exact H_ g' hi h'
  ·have:=B3 g' hi;omega
theorem Tryz.infoFr:(RG.info? 179).map (fun i=>(i.zero,i.size,i.bytes))=OK (OK (.agg #[.pointer U,.pointer U,(),.int RD 0,str []]),5,64):=by kernel_rfl
end Go.Proofs.YtnfenijemllkbaaGreatDoor

/- Walks. -/
import Derived.Laws.DeepNot64
import Derived.Deep.RegionLaw
import Derived.Test.YtpgiohmcggllgaaGreatDoorQ15
set_option linter.unusedVariables false
set_option linter.unusedSimpArgs false
set_option maxHeartbeats 8000000
set_option maxRecDepth 100000
open Array renaming getElem?_eq_getElem->Oo
open Go.IntKind renaming bits->QH,i64->Oi,max->UA,min->Uz,signed->Qm,wrap->Rt
open Go.Proofs.Tryz renaming func11->TP,func3->T9,func63->TQ,ntmps11->Tg,ntmps3->TR,ntmps63->Th,prog->KD,results14->Sx,underlying50->PW
open Go.Value renaming slice->Nq
open Go.World renaming cell?->GD,frozen?->N4,setCell->PL
open List renaming getElem?_append_left->Ou,getElem?_append_right->Ow,getElem?_eq_getElem->O_,getElem?_eq_some_iff->N6,getElem?_map->OY,length_append->NZ,length_cons->N5,length_nil->OD,map_append->RB,mem_cons->Om,mem_of_getElem?->Oc,not_mem_nil->O0,range->TZ
open Nat renaming le_succ->OO,lt_or_ge->Qr,mod_lt->PS,ne_of_lt->Rg
open Option renaming bind_some->Mm,getD_some->OW,isSome_none->OX,isSome_some->OK,map_some->Pn
open Option.some renaming inj->Ob,injEq->N1
namespace Go.Proofs.YtpgiohmcggllgaaGreatDoor
open Go.RowKit
def clOf (s:Bs):Option (Tm×Ty):=(qr s).bind fun t=>(typeOf [] t).map fun k=>(t,k)
def ClPost (w:World) (o:Option (Tm×Ty)) (en:Ending) (w':World):Prop :=
 ∃ (s1:Bs) (a:Option Addr) (n c:Nat) (ka:Option Addr) (kn kc:Nat),en=.returned (.tuple #[.agg #[str s1,.slice a n c],.agg #[.slice ka kn kc],.bool o.isSome])/\Below w.heap.size w w' /\
   ∀ t k,o=some (t,k)->(xY t/\kP t=true/\zT t<=60/\typeOf [] t=some k/\kn=k.args.length)/\zW (w.heap.size<=·) w' (vK (kx t)) [str s1,.slice a n c]/\Rep (w.heap.size<=·) w' (ke k) (.slice ka kn kc)
theorem clOf_none {s:Bs} (h:qx s=none):clOf s=none:=by
 rw [term_eq] at h;unfold clOf;cases hq:qr s with
 | none=>rfl
 | some t =>
   rw [hq] at h;simp only [Mm] at h ⊢;cases hk:typeOf [] t with
   | none=>rfl
   | some k=>rw [yd t [] k hk] at h;simp at h
theorem clOf_some {s:Bs} {tr:Tr} (h:qx s=some tr):∃ t,tr=kx t/\xY t/\zT t<=60/\kP t=true/\clOf s=if (zt [] t).2=true then some (t,(zt [] t).1) else none:=by
 obtain ⟨t,e,rfl,ho,h6,hs⟩:=bS h;refine ⟨t,e,ho,h6,hs,?_⟩;unfold clOf;rw [bf ho h6,Mm,yK t [] hs];split <;> rfl
theorem fW {w:World} {g1 g2:Nat} {x0 x1 x2:Value} {TA TB:TypeId} (h1:w.heap[g1]? = some (.cells #[x0,x1] TA (0,0))) (h2:w.heap[g2]? = some (.cells #[x2] TB (0,0))) (hne:g1≠g2) (u0 u1 u2:Value) :
 ∃ W,W=(((w.setCell ⟨g1,0,none⟩ u0).setCell ⟨g1,1,none⟩ u1).setCell ⟨g2,0,none⟩ u2)/\W.cell? ⟨g1,0,none⟩=some u0/\W.cell? ⟨g1,1,none⟩=some u1/\W.cell? ⟨g2,0,none⟩=some u2 /\
   (∀ B w0,Below B w0 w->B<=g1->B<=g2->Below B w0 W)/\(∀ i x,i≠g1->i≠g2->w.heap[i]? = some x->W.heap[i]? = some x):=by
 have tf:((w.setCell ⟨g1,0,none⟩ u0).setCell ⟨g1,1,none⟩ u1).heap[g2]? = some (.cells #[x2] TB (0,0)):=by
  rw [mp _ _ _ _ (by simpa using Ne.symm hne),mp _ _ _ _ (by simpa using Ne.symm hne)];exact h2
 have EL:(((w.setCell ⟨g1,0,none⟩ u0).setCell ⟨g1,1,none⟩ u1).setCell ⟨g2,0,none⟩ u2).heap[g2]? = some (.cells #[u2] TB (0,0)):=by rw [zO tf];rfl
 have tU:(((w.setCell ⟨g1,0,none⟩ u0).setCell ⟨g1,1,none⟩ u1).setCell ⟨g2,0,none⟩ u2).heap[g1]? = some (.cells #[u0,u1] TA (0,0)):=by
  rw [mp _ _ _ _ (by simpa using hne),zO (zO h1)];rfl
 refine ⟨_,rfl,by simp only [GD,tU];rfl,by simp only [GD,tU];rfl,by simp only [GD,EL];rfl,fun B w0 hb hB hB2=>?_,fun i x hi J1 hx=>?_⟩
 ·exact ((hb.setCell (p:=⟨g1,0,none⟩) hB _).setCell (p:=⟨g1,1,none⟩) hB _).setCell (p:=⟨g2,0,none⟩) hB2 _
 ·rw [mp _ _ _ _ (by simpa using J1),mp _ _ _ _ (by simpa using hi),mp _ _ _ _ (by simpa using hi)];exact hx
theorem xM {w:World} {g c:Nat} {x:Obj} (h:w.heap[g]? = some x) (hg:g≠c) (u0 u1:Value):((w.setCell ⟨c,0,none⟩ u0).setCell ⟨c,1,none⟩ u1).heap[g]? = some x:=by
 rw [mp _ _ _ _ (by simpa using hg),mp _ _ _ _ (by simpa using hg)];exact h
theorem go {w:World} {g c:Nat} {x:Obj} (h:w.heap[g]? = some x) (hg:g≠c) (u0:Value):(w.setCell ⟨c,0,none⟩ u0).heap[g]? = some x:=by
 rw [mp _ _ _ _ (by simpa using hg)];exact h
theorem boxes2 (w:World) (A B:Obj):Below w.heap.size w ((w.alloc A).alloc B)/\((w.alloc A).alloc B).heap.size=w.heap.size+1+1/\((w.alloc A).alloc B).heap[w.heap.size]? = some A/\((w.alloc A).alloc B).heap[w.heap.size+1]? = some B:=by
 refine ⟨((mw _ _).alloc (my _) _).alloc (by rw [zK];omega) _,by rw [zK,zK],zU (zG _ _),?_⟩;have h:=zG (w.alloc A) B;rwa [zK] at h
theorem l5Closed_any (s:Bs) (w:World) (hs:Lim s.length):Calls KD 14 #[str s] w (ClPost w (clOf s)):=by
 obtain ⟨W0,nO⟩:=zzM ((w.alloc (.cells #[str [],.slice none 0 0] 39)).alloc (.cells #[.slice none 0 0] 42));obtain ⟨nN,z0,bA,bB⟩:=boxes2 w (.cells #[str [],.slice none 0 0] 39) (.cells #[.slice none 0 0] 42);rw [<- nO] at nN z0 bA bB;have C0:=mj (l5Term_any s hs W0);have H0:=mj (mu nN (mu z0 (mu bA bB)));clear hs nN z0 bA bB;go_enter Tryz.func14,Tryz.ntmps14;go_wp2_with fail
 rw [<- nO];clear nO;(with_reducible refine C0.out.mono ?_);rintro en w1 ⟨s5,a5,n5,c5,rfl,mi,sJ⟩;obtain ⟨W1,Kb⟩:=zzM (w1.alloc (.cells #[str s5,.slice a5 n5 c5] 39));obtain ⟨g1,EC⟩:=zzM (w1.heap.size);have z1:=mi.size;have oG:Below W0.heap.size W0 W1:=by rw [Kb];exact mi.alloc mi.size _
 have zW1:W1.heap.size=g1+1:=by rw [Kb,zK,EC]
 have b1:W1.heap[g1]? = some (.cells #[str s5,.slice a5 n5 c5] 39 (0,0)):=by rw [Kb,EC];exact zG _ _
 have q1:w.heap.size+1<g1:=by have:=H0.out.2.1;omega
 have bA1:W1.heap[w.heap.size]? = some (.cells #[str [],.slice none 0 0] 39 (0,0)):=(oG.block _ (zZ H0.out.2.2.1)).trans H0.out.2.2.1;have bB1:W1.heap[w.heap.size+1]? = some (.cells #[.slice none 0 0] 42 (0,0)):=(oG.block _ (zZ H0.out.2.2.2)).trans H0.out.2.2.2;have FU:∀ t,qx s=some t->zW (fun i=>W0.heap.size<=i/\i≠g1) W1 (vK t) [str s5,.slice a5 n5 c5]:=fun t ht=>by
  refine (Rep.keep fun i x hi hx=>⟨⟨hi,fun e'=>?_⟩,?_⟩).2 _ _ (sJ t ht).2
  ·rw [Kb];exact zU hx
  ·have:=zZ hx;omega
 have Nx:w1.heap[w.heap.size]? = some (.cells #[str [],.slice none 0 0] 39 (0,0)):=(mi.block _ (zZ H0.out.2.2.1)).trans H0.out.2.2.1;have bB0:w1.heap[w.heap.size+1]? = some (.cells #[.slice none 0 0] 42 (0,0)):=(mi.block _ (zZ H0.out.2.2.2)).trans H0.out.2.2.2;have rA0:w1.cell? ⟨w.heap.size,0,none⟩=some (str []):=by simp [GD,Nx]
 have rA1:w1.cell? ⟨w.heap.size,1,none⟩=some (.slice none 0 0):=by simp [GD,Nx]
 have rB0:w1.cell? ⟨w.heap.size+1,0,none⟩=some (.slice none 0 0):=by simp [GD,bB0]
 have fA0:w1.frozen? ⟨w.heap.size,0,none⟩=false:=by simp [N4,Nx]
 have fA1:w1.frozen? ⟨w.heap.size,1,none⟩=false:=by simp [N4,Nx]
 have fB0:w1.frozen? ⟨w.heap.size+1,0,none⟩=false:=by simp [N4,bB0]
 have Hd:(w1.alloc (.cells #[str s5,.slice a5 n5 c5] 39)).frozen? ⟨w.heap.size,0,none⟩=false:=(frozen?_alloc_cells _ _ _ _).trans fA0;have Ng:(w1.alloc (.cells #[str s5,.slice a5 n5 c5] 39)).frozen? ⟨w.heap.size,1,none⟩=false:=(frozen?_alloc_cells _ _ _ _).trans fA1;have Kj:(w1.alloc (.cells #[str s5,.slice a5 n5 c5] 39)).frozen? ⟨w.heap.size+1,0,none⟩=false:=(frozen?_alloc_cells _ _ _ _).trans fB0;have iA0:(w1.alloc (.cells #[str s5,.slice a5 n5 c5] 39)).cell? ⟨w.heap.size,0,none⟩=some (str []):=zV rA0;have iA1:(w1.alloc (.cells #[str s5,.slice a5 n5 c5] 39)).cell? ⟨w.heap.size,1,none⟩=some (.slice none 0 0):=zV rA1;have iB0:(w1.alloc (.cells #[str s5,.slice a5 n5 c5] 39)).cell? ⟨w.heap.size+1,0,none⟩=some (.slice none 0 0):=zV rB0;have aW:=mj (mu oG (mu zW1 (mu b1 (mu q1 (mu bA1 (mu bB1 FU))))));have HG1:=mj EC;have HQ1:=mj Kb;clear mi sJ z1 oG zW1 b1 q1 bA1 bB1 Nx bB0 FU C0 EC Kb;cases ht:qx s with
 | none =>
   have HC:=mj (clOf_none ht);clear ht;simp only [OX];go_wp2_with fail
   rw [<- HQ1.out,<- HG1.out];obtain ⟨W,hW,s0,s1,s2,nV,nT⟩:=fW aW.out.2.2.2.2.1 aW.out.2.2.2.2.2.1 (by omega) (str s5) (.slice a5 n5 c5) (.slice none 0 0);rw [<- hW];refine bodyPost_ret (v:=.tuple #[.agg #[str s5,.slice a5 n5 c5],.agg #[.slice none 0 0],.bool false]) (by simp [results,Sx,go_sem,s0,s1,s2]) rfl ?_;rw [HC.out];exact ⟨_,_,_,_,_,_,_,rfl,nV _ _ (zzT H0.out.1 aW.out.1) (my _) (OO _),fun t k h=>by simp at h⟩
 | some tr =>
   obtain ⟨t,rfl,nC,Bp,sU,Bi⟩:=clOf_some ht;have rU:=aW.out.2.2.2.2.2.2 _ ht;have CK:=mj (cY 100 (fun i=>W0.heap.size<=i/\i<W1.heap.size/\i≠g1) t [] (.slice none 0 0) (.slice none 0 0) _ _ W1 (by omega) ⟨fun i h=>h.2.1,(Rep.keep fun i x hi hx=>⟨⟨hi.1,zZ hx,hi.2⟩,hx⟩).2 _ _ rU,zg.2 ⟨rfl,none,0,rfl,my _,fun _=>rfl,.inl rfl⟩,zg.2 ⟨by simp [kinds,qA],none,0,rfl,my _,fun _=>rfl,.inl rfl⟩,nC,sU,(fun p h=>by simp at h),(fun a h=>by simp [kinds] at h),by simp;omega⟩);have HC:=mj (mu nC (mu sU (mu Bp (mu Bi (mu rU (@yO t [] sU))))));obtain ⟨k,q,hkq⟩:∃ k q,zt [] t=(k,q):=⟨_,_,rfl⟩;rw [hkq] at CK HC;clear ht nC Bp sU Bi rU hkq;simp only [OK];go_wp2_with fail
   rw [<- HQ1.out,<- HG1.out];clear HQ1 HG1;(with_reducible refine CK.out.mono ?_);rintro en w2 ⟨ka,kc,rfl,me,sS⟩;obtain ⟨W2,rQ⟩:=zzM (w2.alloc (.cells #[.slice ka k.args.length kc] 42));obtain ⟨g2,Cr⟩:=zzM (w2.heap.size);have z2:=me.size;have zz1:=aW.out.2.1;have qq1:=aW.out.2.2.2.1;have oP:Below W1.heap.size W1 W2:=by rw [rQ];exact me.alloc me.size _
   have oW:Below w.heap.size w W2:=(zzT H0.out.1 aW.out.1).trans (oP.mono (zzT H0.out.1 aW.out.1).size);have b2:W2.heap[g2]? = some (.cells #[.slice ka k.args.length kc] 42 (0,0)):=by rw [rQ,Cr];exact zG _ _
   have b1':W2.heap[g1]? = some (.cells #[str s5,.slice a5 n5 c5] 39 (0,0)):=(oP.block _ (zZ aW.out.2.2.1)).trans aW.out.2.2.1;have Km:W2.heap[w.heap.size]? = some (.cells #[str [],.slice none 0 0] 39 (0,0)):=(oP.block _ (zZ aW.out.2.2.2.2.1)).trans aW.out.2.2.2.2.1;have bB2:W2.heap[w.heap.size+1]? = some (.cells #[.slice none 0 0] 42 (0,0)):=(oP.block _ (zZ aW.out.2.2.2.2.2.1)).trans aW.out.2.2.2.2.2.1;have z0':=H0.out.2.1;have Lm:zW (fun i=>w.heap.size+1<i) W2 (vK (kx t)) [str s5,.slice a5 n5 c5]:=(zW.below (F':=fun i=>W0.heap.size<=i/\i≠g1) oP (fun _ h=>h) HC.out.2.2.2.2.1).weakS fun i h=>by have:=h.1;omega
   have Di:Rep (fun i=>w.heap.size+1<i) W2 (ke k) (.slice ka k.args.length kc):=(Rep.keep fun i x hi hx=>⟨(by rcases hi with h | h;have:=h.1;omega;omega),by rw [rQ];exact zU hx⟩).1 _ _ sS;have iM:=mj (mu oW (mu b2 (mu b1' (mu Km (mu bB2 (mu Lm Di))))));have qA0:W2.cell? ⟨w.heap.size,0,none⟩=some (str []):=by simp [GD,Km]
   have qA1:W2.cell? ⟨w.heap.size,1,none⟩=some (.slice none 0 0):=by simp [GD,Km]
   have qB0:W2.cell? ⟨w.heap.size+1,0,none⟩=some (.slice none 0 0):=by simp [GD,bB2]
   have eA0:W2.frozen? ⟨w.heap.size,0,none⟩=false:=by simp [N4,Km]
   have eA1:W2.frozen? ⟨w.heap.size,1,none⟩=false:=by simp [N4,Km]
   have eB0:W2.frozen? ⟨w.heap.size+1,0,none⟩=false:=by simp [N4,bB2]
   have Ff:g1≠w.heap.size:=by omega
   have iP:g1≠w.heap.size+1:=by omega
   have iQ:g2≠w.heap.size:=by omega
   have ne5:g2≠w.heap.size+1:=by omega
   clear me sS z2 oP oW b2 b1' Km bB2 Lm Di CK rA0 rA1 rB0 fA0 fA1 fB0 Hd Ng Kj iA0 iA1 iB0 qq1 zz1 z0';go_wp2_with fail
   rw [<- rQ,<- Cr];clear rQ Cr;refine wp_region_noPanic ?_;refine zB (fun w'=>w'.heap[g1]? = some (.cells #[str s5,.slice a5 n5 c5] 39 (0,0))/\w'.heap[g2]? = some (.cells #[.slice ka k.args.length kc] 42 (0,0))) (fun _=>false) (by kernel_rfl) ?_;have mt:(fun w'=>w'.heap[g1]? = some (.cells #[str s5,.slice a5 n5 c5] 39 (0,0))/\w'.heap[g2]? = some (.cells #[.slice ka k.args.length kc] 42 (0,0))) W2.drew:=⟨iM.out.2.2.1,iM.out.2.1⟩;refine tk [0] mt ?_;(intro d hd;simp [tkD] at hd;subst hd;simp only [tks,pQ,pZ,pS]);(refine ⟨?_,?_,?_⟩;rotate_left;· (intro oi ho;simp at ho;subst ho;refine Or.inl ⟨by rfl,fun w' nP=>?_⟩;have e0:w'.cell? ⟨g1,0,none⟩=some (str s5):=(by simp [GD,nP.1]);have e1:w'.cell? ⟨g1,1,none⟩=some (.slice a5 n5 c5):=(by simp [GD,nP.1]);go_simp;try with_reducible rfl));refine tk [1,2] mt ?_;(intro d hd;simp [tkD] at hd;subst hd;simp only [tks,pQ,pZ,pS]);iterate 2 (refine ⟨?_,?_,?_⟩;rotate_left;· (intro oi ho;simp at ho;subst ho;refine Or.inl ⟨by rfl,fun w' nP=>?_⟩;have e0:w'.cell? ⟨g2,0,none⟩=some (.slice ka k.args.length kc):=(by simp [GD,nP.2]);go_simp;try with_reducible rfl))
   refine oC 3 (⟨xM mt.1 Ff _ _,xM mt.2 iQ _ _⟩) ?_;refine oC 4 (⟨go (xM mt.1 Ff _ _) iP _,go (xM mt.2 iQ _ _) ne5 _⟩) ?_;refine oC 5 (⟨go (xM mt.1 Ff _ _) iP _,go (xM mt.2 iQ _ _) ne5 _⟩) ?_;refine zY (by kernel_rfl) (NoPanic.normal ?_) _;go_wp2_with fail
   obtain ⟨W,hW,s0,s1,s2,nV,nT⟩:=@fW W2 _ _ _ _ _ _ _ iM.out.2.2.2.1 iM.out.2.2.2.2.1 (by omega) (str s5) (.slice a5 n5 c5) (.slice ka k.args.length kc);rw [<- hW];refine bodyPost_ret (v:=.tuple #[.agg #[str s5,.slice a5 n5 c5],.agg #[.slice ka k.args.length kc],.bool q]) (by simp [results,Sx,go_sem,s0,s1,s2]) rfl ?_;have hq:q=(clOf s).isSome:=by rw [HC.out.2.2.2.1];cases q <;> rfl
   rw [hq];refine ⟨_,_,_,_,_,_,_,rfl,Below.drew (nV _ _ iM.out.1 (my _) (Nat.le_add_right _ _)),fun t' k' h=>?_⟩;have h':=HC.out.2.2.2.1;rw [h] at h';cases II:q with
   | false=>rw [II] at h';simp at h'
   | true =>
     rw [II] at h';simp only [if_true,N1,Prod.mk.injEq] at h';obtain ⟨rfl,rfl⟩:=h';have KP:∀ i x,w.heap.size+1<i->W2.heap[i]? = some x->w.heap.size<=i/\W.drew.heap[i]? = some x:=fun i x hi hx=>⟨by omega,nT i x (by omega) (by omega) hx⟩;exact ⟨⟨HC.out.1,HC.out.2.1,HC.out.2.2.1,HC.out.2.2.2.2.2 II,rfl⟩,(Rep.keep KP).2 _ _ iM.out.2.2.2.2.2.1,(Rep.keep KP).1 _ _ iM.out.2.2.2.2.2.2⟩
def dL (s:Bs):Option Bs:=(j9 s).map fun x=>kI x.2
theorem strat_cl (s:Bs):dL s=(clOf s).bind fun x=>wrOf x.2 (zL [] x.1):=by
 unfold dL j9 clOf wrOf;cases hq:qr s with
 | none=>rfl
 | some t =>
   obtain ⟨_,ho,_⟩:=vh hq;simp only [Mm];cases hk:typeOf [] t with
   | none=>rfl
   | some k =>
     simp only [Mm,Pn];cases hb:zL [] t with
     | none=>rfl
     | some b =>
       simp only [Mm,Pn];rw [ur (gQ ho hk hb)];rfl
theorem pg (s:Bs) (w:World) (hs:Lim s.length):Calls KD 6 #[str s] w (TxtPost (dL s) w):=by
 have C0:=mj (l5Closed_any s w hs);clear hs;go_enter Tryz.func6,Tryz.ntmps6;go_wp2_with fail
 (with_reducible refine C0.out.mono ?_);rintro en w1 ⟨s5,a5,n5,c5,ka,kn,kc,rfl,mi,hy⟩
 obtain ⟨W,hW⟩:=zzM ((w1.alloc (.cells #[str s5,.slice a5 n5 c5] 39)).alloc (.cells #[.slice ka kn kc] 42));have oG:Below w1.heap.size w1 W:=by rw [hW];exact ((mw _ _).alloc (my _) _).alloc (by rw [zK];omega) _
 have nV:=zzT mi oG;have Hl:=mj (strat_cl s);cases hc:clOf s with
 | none =>
   have HK:=mj (show dL s=none by rw [Hl.out,hc];rfl);have HB:=mj nV;have HW:=mj hW;clear hc hy mi oG nV hW C0 Hl;simp only [OX];go_wp2_with fail
   rw [<- HW.out]
   go_ret2
   exact ⟨by rw [HK.out];rfl,HB.out⟩
 | some x =>
   obtain ⟨t,k⟩:=x;obtain ⟨⟨ho,sU,Bp,hk,rfl⟩,rU,rD⟩:=hy t k hc;have nX:=qV t [] k (by simp [kinds]) hk;have HK:=mj (show dL s=wrOf k (zL [] t) by rw [Hl.out,hc];rfl);have Ll:=zW.below (F':=(w.heap.size<=·)) oG (fun _ h=>h) rU;have Ls:=Rep.below (F':=(w.heap.size<=·)) oG (fun _ h=>h) rD;have CO:=mj (l5Of_any 60 (fun i=>w.heap.size<=i/\i<W.heap.size) t [] k (.slice none 0 0) (.slice none 0 0) _ _ W Bp ⟨fun i h=>h.2,(Rep.keep fun i x hi hx=>⟨⟨hi,zZ hx⟩,hx⟩).2 _ _ Ll,zg.2 ⟨rfl,none,0,rfl,my _,fun _=>rfl,.inl rfl⟩,zg.2 ⟨by simp [kinds,qA],none,0,rfl,my _,fun _=>rfl,.inl rfl⟩,ho,sU,(fun p h=>by simp at h),(fun a h=>by simp [kinds] at h),by simp;omega⟩ hk);have HG:=mj (mu nX (mu Ls fun b (hb:zL [] t=some b)=>gQ ho hk hb));have bt:W.cell? ⟨w1.heap.size+1,0,none⟩=some (.slice ka k.args.length kc):=by rw [hW];simp
   have HB:=mj nV;have HW:=mj hW;obtain ⟨o,Cj⟩:=zzN (zL [] t);rw [Cj] at CO HG HK;clear hc hy mi oG nV hW C0 ho sU Bp hk rU rD nX Ll Ls Cj Hl;simp only [OK];go_wp2_with fail
   rw [<- HW.out];(with_reducible refine CO.out.mono ?_);rintro en w2 ⟨ss,vv,aa,an,ac,ba,bn,bc,rfl,me,sS⟩;have bt2:w2.cell? ⟨w1.heap.size+1,0,none⟩=some (.slice ka k.args.length kc):=(me.cell (mx _ _ bt)).trans bt;have bt3:(w2.alloc (.cells #[str ss,.int .i64 vv,.slice aa an ac,.slice ba bn bc] 47)).cell? ⟨w1.heap.size+1,0,none⟩=some (.slice ka k.args.length kc):=zV bt2;obtain ⟨W2,rQ⟩:=zzM (w2.alloc (.cells #[str ss,.int .i64 vv,.slice aa an ac,.slice ba bn bc] 47));have oP:Below W.heap.size W W2:=by rw [rQ];exact me.alloc me.size _
   have CW:=mj (l4Written_any (w.heap.size<=·) k o (.slice ka k.args.length kc) ss vv aa an ac ba bn bc W2 HG.out.1 (Rep.below oP (fun _ h=>h) HG.out.2.1) (fun x hx=>⟨(Rep.keep fun i u hi hu=>⟨(by
    rcases hi with h | h
    ·exact h.1
    ·have:=HB.out.size;omega),by rw [rQ];exact zU hu⟩).2 _ _ (sS x hx),(by have:=(HG.out.2.2 x hx).size;omega),fit_lvR 200 x k.args (HG.out.2.2 x hx).size (HG.out.2.2 x hx).fit (kZ HG.out.1).1 (by have:=(kZ HG.out.1).2;omega)⟩))
   have nF:=mj (zzT HB.out oP);have iM:=mj rQ;clear me sS bt CO oP rQ HG HB;go_wp2_with fail
   rw [<- iM.out];(with_reducible refine CW.out.mono ?_);rintro en w3 ⟨rfl,nZ⟩;have sg:=mj (zzT nF.out nZ);clear nZ CW bt2 bt3;rw [<- HK.out];go_wp2_with fail
   go_ret2
   exact ⟨rfl,sg.out⟩
theorem i64_xor_nat (a b:Nat) (ha:a<9223372036854775808) (hb:b<9223372036854775808):bits .xor .i64 (a:Int) (b:Int)=((a ^^^ b:Nat):Int):=by
 have hx:a ^^^ b<2 ^ 63:=Nat.xor_lt_two_pow (by omega) (by omega);show Oi.wrap ((BitVec.ofInt 64 (a:Int) ^^^ BitVec.ofInt 64 (b:Int)).toNat:Int)=_;rw [BitVec.toNat_xor,ofInt_u64 a (by omega),ofInt_u64 b (by omega)];generalize a ^^^ b=x at *;simp [Rt,QH,Qm];omega
def jB (w:World) (rd P:Nat):Prop :=
 ∃ (a:Option Addr) (n c p:Nat),w.heap[rd]? = some (.cells #[.slice a n c,.int .i64 (p:Nat)] 74 (0,0))/\p<=P/\n<=2000 /\
   (n=0\/∃ b o,a=some ⟨b,o,none⟩/\b<rd/\∀ k,k<n->∃ x:Nat,x<256/\w.cell? ⟨b,o+k,none⟩=some (.int .u8 x))
theorem jB.lt {w:World} {rd P:Nat} (h:jB w rd P):rd<w.heap.size:=by
 obtain ⟨a,n,c,p,h1,_⟩:=h;exact zZ h1
theorem jB.mono {w:World} {rd P Q:Nat} (h:jB w rd P) (k:P<=Q):jB w rd Q:=by
 obtain ⟨a,n,c,p,h1,h2,h3⟩:=h;exact ⟨a,n,c,p,h1,mh h2 k,h3⟩
theorem jB.below {w w':World} {rd P:Nat} (h:jB w rd P) (hb:Below w.heap.size w w'):jB w' rd P:=by
 obtain ⟨a,n,c,p,h1,h2,h3,h4⟩:=h;refine ⟨a,n,c,p,(hb.block _ (zZ h1)).trans h1,h2,h3,?_⟩;rcases h4 with h4 | ⟨b,o,e,hne,hk⟩
 ·exact .inl h4
 ·refine .inr ⟨b,o,e,hne,fun k Dt=>?_⟩;obtain ⟨x,hx,hc⟩:=hk k Dt;exact ⟨x,hx,(hb.cell (mx w _ hc)).trans hc⟩
theorem jB.but {m:Nat->Prop} {w w':World} {rd P:Nat} (h:jB w rd P) (hb:But m w w') (hm:∀ i,i<=rd->¬ m i):jB w' rd P:=by
 obtain ⟨a,n,c,p,h1,h2,h3,h4⟩:=h;refine ⟨a,n,c,p,(hb.block _ (zZ h1) (hm _ (my _))).trans h1,h2,h3,?_⟩;rcases h4 with h4 | ⟨b,o,e,hne,hk⟩
 ·exact .inl h4
 ·refine .inr ⟨b,o,e,hne,fun k Dt=>?_⟩;obtain ⟨x,hx,hc⟩:=hk k Dt;exact ⟨x,hx,(hb.cell (mx w _ hc) (hm _ (Nat.le_of_lt hne))).trans hc⟩
theorem jB.drew {w:World} {rd P:Nat} (h:jB w rd P):jB w.drew rd P:=h
theorem jB.drewN {w:World} {rd P:Nat} (h:jB w rd P) (n:Nat):jB (w.drewN n) rd P:=h
theorem jB.alloc {w:World} {rd P:Nat} (h:jB w rd P) (o:Obj):jB (w.alloc o) rd P:=h.below ((mw _ _).alloc (my _) _)
theorem pD {m:Nat->Prop} {a w:World} (h:But m a w) (n:Nat):But m a (w.drewN n):=⟨h.os,h.tape,h.output,h.size,h.block⟩
def Picked (rd P n:Nat) (w:World) (en:Ending) (w':World):Prop :=
 ∃ v:Nat,en=.returned (.int .i64 (v:Nat))/\v<n/\But (· = rd) w w'/\jB w' rd (P+1)
theorem xH {z:Int} {n:Nat} (e:z=(n:Int)) (h:n<9223372036854775808):Oi.wrap z=(n:Int):=by rw [e];exact xR n h
structure Mix (p m x1 x2 n:Nat) (I A B C J D E G H Q R X Y Z V:Nat):Prop where
 i:(p:Int).tmod (m:Int)=(I:Int)
 a:Oi.wrap ((x1:Int)*131)=(A:Int)
 b:Oi.wrap ((p:Int)*7)=(B:Int)
 c:Oi.wrap ((B:Int)+3)=(C:Int)
 j:(C:Int).tmod (m:Int)=(J:Int)
 d:Oi.wrap ((x2:Int)*1117)=(D:Int)
 e:Oi.wrap ((A:Int)+(D:Int))=(E:Int)
 g:Oi.wrap ((p:Int)*29)=(G:Int)
 h:Oi.wrap ((E:Int)+(G:Int))=(H:Int)
 q:(p:Int).tdiv (m:Int)=(Q:Int)
 r:Oi.wrap ((Q:Int)*53)=(R:Int)
 x:Oi.wrap ((H:Int)+(R:Int))=(X:Int)
 y:(X:Int).tdiv 64=(Y:Int)
 z:bits .xor .i64 (X:Int) (Y:Int)=(Z:Int)
 v:(Z:Int).tmod (n:Int)=(V:Int)
 vn:V<n
 wq:Oi.wrap (Q:Int)=(Q:Int)
 wy:Oi.wrap (Y:Int)=(Y:Int)
theorem mix_any (p m x1 x2 n:Nat) (hp:p<=1099511627776) (l_:x1<256) (lw:x2<256) (hn:0<n) :
 ∃ A B D E G H Q R X Y Z V:Nat,Mix p m x1 x2 n (p % m) A B (p*7+3) ((p*7+3) % m) D E G H Q R X Y Z V:=by
 have hq:p / m<=p:=Nat.div_le_self _ _;have hX:x1*131+x2*1117+p*29+p / m*53<9223372036854775808:=by omega
 have hY:(x1*131+x2*1117+p*29+p / m*53) / 64<9223372036854775808:=by omega
 refine ⟨x1*131,p*7,x2*1117,x1*131+x2*1117,p*29,x1*131+x2*1117+p*29,p / m,p / m*53,x1*131+x2*1117+p*29+p / m*53,(x1*131+x2*1117+p*29+p / m*53) / 64,(x1*131+x2*1117+p*29+p / m*53) ^^^ ((x1*131+x2*1117+p*29+p / m*53) / 64),((x1*131+x2*1117+p*29+p / m*53) ^^^ ((x1*131+x2*1117+p*29+p / m*53) / 64)) % n,?_⟩
 exact ⟨wB _ _,xH (by omega) (by omega),xH (by omega) (by omega),xH (by omega) (by omega),wB _ _,xH (by omega) (by omega),xH (by omega) (by omega),xH (by omega) (by omega),xH (by omega) (by omega),
  cM _ _,xH (by omega) (by omega),xH (by omega) hX,cM _ 64,i64_xor_nat _ _ hX hY,wB _ _,PS _ hn,xR _ (by omega),xR _ hY⟩
theorem wR (rd P n:Nat) (w:World) (h:jB w rd P) (hn:0<n) (aK:n<=16777216) (hP:P<=1099511627776) :
 Calls KD 27 #[.pointer (some ⟨rd,0,none⟩),.int .i64 (n:Nat)] w (Picked rd P n w):=by
 obtain ⟨a,m,c,p,h1,hp,hm,hcs⟩:=h;have hpP:p<=1099511627776:=by omega
 have c0:w.cell? ⟨rd,0,none⟩=some (.slice a m c):=by simp [GD,h1]
 have c1:w.cell? ⟨rd,1,none⟩=some (.int .i64 (p:Nat)):=by simp [GD,h1]
 have f1:w.frozen? ⟨rd,1,none⟩=false:=by simp [N4,h1]
 have m_:=zZ h1;obtain ⟨W,hW⟩:=zzN (w.setCell ⟨rd,1,none⟩ (.int .i64 ((p:Int)+1)));have mm:W.heap[rd]? = some (.cells #[.slice a m c,.int .i64 ((p+1:Nat):Int)] 74 (0,0)):=by
  have h':w.heap[rd]=.cells #[.slice a m c,.int .i64 (p:Nat)] 74 (0,0):=by simpa [Oo m_] using h1
  rw [<- hW];show (w.heap.modify rd _)[rd]? = _;rw [Oo (by simpa using m_),Array.getElem_modify_self,h'];simp
 have Dy:But (· = rd) w W:=by rw [<- hW];exact (But.refl (· = rd) _).setCell (p:=⟨rd,1,none⟩) (.inl rfl) _
 have d0:W.cell? ⟨rd,0,none⟩=some (.slice a m c):=by simp [GD,mm]
 have d1:W.cell? ⟨rd,1,none⟩=some (.int .i64 ((p:Int)+1)):=by simp [GD,mm]
 have lP:jB W rd (P+1):=by
  refine ⟨a,m,c,p+1,mm,by omega,hm,?_⟩;rcases hcs with h4 | ⟨b,o,e,hne,hk⟩
  ·exact .inl h4
  ·refine .inr ⟨b,o,e,hne,fun k Dt=>?_⟩;obtain ⟨x,hx,hc⟩:=hk k Dt;exact ⟨x,hx,(Dy.cell (mx w _ hc) (fun e=>Rg hne e)).trans hc⟩
 have RD:=mj lP;have BT:=mj Dy;have g0:¬ (n:Int)<1:=by omega
 have gn:((n:Int) == 0)=false:=by rw [beq_eq_false_iff_ne];omega
 have hWb:∀ (b o:Nat) (v:Value),b≠rd->w.cell? ⟨b,o,none⟩=some v->W.cell? ⟨b,o,none⟩=some v:=fun b o v hne hc =>
  (Dy.cell (p:=⟨b,o,none⟩) (mx w ⟨b,o,none⟩ hc) (fun e=>hne e)).trans hc
 have WB:=mj hWb;have JD:=mj hcs;have HW:=mj hW;clear lP Dy h1 mm hWb hcs hW;go_enter Tryz.func27,Tryz.ntmps27;go_upto_region 2 with (fail)
 rw [HW.out];clear c0 c1 f1;rcases JD.out with h0 | ⟨b,o,e,hne,hk⟩
 ·subst h0;go_wp2_with fail
  go_ret;exact ⟨0,rfl,hn,BT.out,RD.out⟩
 ·subst e;have HK:=mj hk;clear hk;by_cases LS:m=0
  ·subst LS;go_wp2_with fail
   go_ret;exact ⟨0,rfl,hn,BT.out,RD.out⟩
  have gm:((m:Int) == 0)=false:=by rw [beq_eq_false_iff_ne];omega
  by_cases hpm:p<m
  ·obtain ⟨x,hx,hc⟩:=HK.out p hpm;have e1:=WB.out _ _ _ (Rg hne) hc;have hpm':(p:Int)<(m:Int):=by omega
   have et:(x:Int).tmod (n:Int)=((x % n:Nat):Int):=wB _ _;have hv:x % n<n:=PS _ hn;have HV:=mj hv;clear hv hc;go_wp2_with fail
   go_ret;exact ⟨x % n,rfl,HV.out,BT.out,RD.out⟩
  ·have hpm':¬ (p:Int)<(m:Int):=by omega
   obtain ⟨x1,l_,tU⟩:=HK.out (p % m) (PS _ (by omega));obtain ⟨x2,lw,tf⟩:=HK.out ((p*7+3) % m) (PS _ (by omega));have e1:=WB.out _ _ _ (Rg hne) tU;have e2:=WB.out _ _ _ (Rg hne) tf;obtain ⟨A,B,D,E,G,H,Q,R,X,Y,Z,V,M⟩:=mix_any p m x1 x2 n hpP l_ lw hn;have hI:p % m<m:=PS _ (by omega);have hJ:(p*7+3) % m<m:=PS _ (by omega);generalize p % m=I at *;generalize (p*7+3) % m=J at *;generalize p*7+3=C at *;have hI':(I:Int)<(m:Int):=by omega
   have hJ':(J:Int)<(m:Int):=by omega
   have q1:=M.i;have q2:=M.a;have q3:=M.b;have q4:=M.c;have q5:=M.j;have q6:=M.d;have q7:=M.e;have q8:=M.g;have q9:=M.h;have JI:=M.q;have Gz:=M.r;have JH:=M.x;have q13:=M.y;have q14:=M.z;have q15:=M.v;have q16:=M.wq;have q17:=M.wy;have MV:=mj M.vn;clear tU tf M;go_wp2_with fail
   go_quiet (fail);go_wp2_with fail
   go_ret;exact ⟨V,rfl,MV.out,pD BT.out _,RD.out.drewN _⟩
def wK (w:World) (rd:Nat) (l:Value) (xs:List Bs):Prop :=
 ∃ b o c,l=.slice (some ⟨b,o,none⟩) xs.length c/\b≠rd/\∀ (k:Nat) (s:Bs),xs[k]? = some s->w.cell? ⟨b,o+k,none⟩=some (str s)
theorem wK.new {w:World} {rd:Nat} (lP:rd<w.heap.size) (xs:List Bs) (n:Nat) (hn:n=xs.length) (e:TypeId):wK (w.alloc (.cells (xs.map str).toArray e)) rd (.slice (some ⟨w.heap.size,0,none⟩) n n) xs:=by
 subst hn;refine ⟨w.heap.size,0,_,rfl,by omega,fun k s hs=>?_⟩;rw [Nat.zero_add];simp only [GD,zG];simp [hs]
def Took (rd P:Nat) (xs:List Bs) (w:World) (en:Ending) (w':World):Prop :=
 ∃ s∈xs,en=.returned (str s)/\But (· = rd) w w'/\jB w' rd P
theorem gZ (rd P:Nat) (l:Value) (xs:List Bs) (w:World) (h:jB w rd P) (hl:wK w rd l xs) (hx:0<xs.length) (lw:xs.length<=16777216) (hP:P<=1099511627776) :
 Calls KD 28 #[.pointer (some ⟨rd,0,none⟩),l] w (Took rd (P+1) xs w):=by
 obtain ⟨b,o,c,rfl,hne,hk⟩:=hl;have HK:=mj hk;clear hk;go_enter Tryz.func28,Tryz.ntmps28;go_wp2_with fail
 refine (wR rd P xs.length w h hx lw hP).mono ?_;rintro en w1 ⟨v,rfl,hv,hb,hr⟩;obtain ⟨s,hs⟩:∃ s,xs[v]? = some s:=⟨xs[v],by simp [hv]⟩;have hc:=HK.out v s hs;have tU:w1.cell? ⟨b,o+v,none⟩=some (str s):=(hb.cell (p:=⟨b,o+v,none⟩) (mx w ⟨b,o+v,none⟩ hc) (fun e=>hne e)).trans hc;have hv':(v:Int)<(xs.length:Int):=by omega
 have HM:=mj (Oc hs);clear hs hc;go_wp2_with fail
 go_ret;exact ⟨s,HM.out,rfl,hb,hr⟩
def wH:List Bs:=[[98],[40,62,32,98,32,98,41],[40,62,32,98,32,40,62,32,98,32,98,41,41],[40,62,32,40,62,32,98,32,98,41,32,98,41],[40,62,32,40,62,32,98,32,98,41,32,40,62,32,98,32,98,41,41],[40,62,32,40,62,32,40,62,32,98,32,98,41,32,98,41,32,98,41],[40,62,32,40,62,32,98,32,40,62,32,98,32,98,41,41,32,98,41],[40,62,32,98,32,40,62,32,40,62,32,98,32,98,41,32,98,41,41]]
theorem l91Type_any (rd P:Nat) (w:World) (h:jB w rd P) (hP:P<=1099511627776) :
 Calls KD 30 #[.pointer (some ⟨rd,0,none⟩)] w (Took rd (P+1) wH w):=by
 have m_:=h.lt;go_enter Tryz.func30,Tryz.ntmps30;go_wp2_with fail
 refine (gZ rd P _ wH _ (h.alloc _) (wK.new m_ wH 8 rfl _) (by decide) (by decide) hP).mono ?_;rintro en w1 ⟨s,hs,rfl,hb,hr⟩;have HM:=mj hs;clear hs;go_wp2_with fail
 go_ret;exact ⟨s,HM.out,rfl,((But.refl _ w).alloc _).trans hb,hr⟩
structure NodeD (w:World) (rd ob Z:Nat) (v:Int) (wr:World) (pk py:List Bd) (kv yv:List Value) (ks:Value) (nk:Nat) (ys:Value) (ny:Nat):Prop where
 hnk:nk=pk.length
 hny:ny=py.length
 ksl:∃ a c,ks=.slice a nk c
 ysl:∃ a c,ys=.slice a ny c
 but:But (· = rd) w wr
 res:kQ w.heap.size 0 (.slice none 0 0) (.slice none 0 0) wr
 out:kQ ob v ks ys wr
 ownK:Own wr 47 4 ks nk kv
 ownY:Own wr 47 4 ys ny yv
 blkK:∀ g,ks.ownBlock=some g->Z<=g/\ys.ownBlock≠some g
 blkY:∀ g,ys.ownBlock=some g->Z<=g
 repK:zW (fun b=>Z<=b/\ks.ownBlock≠some b/\ys.ownBlock≠some b) wr (zh pk) kv
 repY:zW (fun b=>Z<=b/\ks.ownBlock≠some b/\ys.ownBlock≠some b) wr (zh py) yv
 z:Z<=wr.heap.size
theorem NodeD.kid {w:World} {rd ob Z:Nat} {v:Int} {wr:World} {pk py:List Bd} {kv yv:List Value} {ks ys:Value} {nk ny:Nat}
 (h:NodeD w rd ob Z v wr pk py kv yv ks nk ys ny) (lP:rd<w.heap.size) (Es:ob<Z) (hwo:w.heap.size<ob) {W w7:World} {b:Bd} {cs:List Value} {a':Option Addr} {c':Nat}
 (nJ:But (· = rd) wr W) (hcs:zW (wr.heap.size<=·) W (kL b) cs) (nM:Own w7 47 4 (.slice a' (nk+1) c') (nk+1) (kv++cs)) (mo:But (fun i=>ks.ownBlock=some i) W w7)
 (nG:∀ g,(Nq a' (nk+1) c').ownBlock=some g->ks.ownBlock=some g\/g=W.heap.size) :
 NodeD w rd ob Z v (w7.setCell ⟨ob,2,none⟩ (.slice a' (nk+1) c')) (pk++[b]) py (kv++cs) yv (.slice a' (nk+1) c') (nk+1) ys ny:=by
 have z6:=nJ.size;have z7:=mo.size;have zr:=h.z;have zb:=h.but.size;have keep:∀ i x,wr.heap[i]? = some x->ks.ownBlock≠some i->i≠ob->i≠rd->(w7.setCell ⟨ob,2,none⟩ (.slice a' (nk+1) c')).heap[i]? = some x:=by
  intro i x hx h1 h2 h3;have:=zZ hx;rw [mp _ _ _ _ (by simpa using h2),mo.block i (by omega) h1,nJ.block i this h3];exact hx
 have sH:∀ i x,W.heap[i]? = some x->ks.ownBlock≠some i->i≠ob->(w7.setCell ⟨ob,2,none⟩ (.slice a' (nk+1) c')).heap[i]? = some x:=by
  intro i x hx h1 h2;have:=zZ hx;rw [mp _ _ _ _ (by simpa using h2),mo.block i (by omega) h1];exact hx
 have ltK:∀ g,ks.ownBlock=some g->g<wr.heap.size:=fun g hg=>h.ownK.lt hg;have ltY:∀ g,ys.ownBlock=some g->g<wr.heap.size:=fun g hg=>h.ownY.lt hg;have nK:∀ i,i<Z->ks.ownBlock≠some i:=fun i hi e=>by have:=(h.blkK i e).1;omega
 have newg:∀ g,(Nq a' (nk+1) c').ownBlock=some g->Z<=g:=fun g hg=>by
  rcases nG g hg with e | e
  ·exact (h.blkK g e).1
  ·omega
 refine ⟨by simp [h.hnk],h.hny,⟨_,_,rfl⟩,h.ysl,?_,?_,?_,?_,?_,?_,h.blkY,?_,?_,by simp [PL];omega⟩
 ·refine But.setCell ?_ (.inr (show w.heap.size<=ob by omega)) _;exact (h.but.trans nJ).trans' mo (fun i hi e=>absurd e (nK i (by omega)))
 ·exact keep _ _ h.res (nK _ (by omega)) (by omega) (by omega)
 ·have h1:kQ ob v ks ys w7:=by
   unfold kQ;rw [mo.block ob (by omega) (nK _ Es),nJ.block ob (by omega) (show ¬ ob=rd by omega)];exact h.out
  exact h1.put2
 ·exact nM.keep fun g o hg ho=>by rw [mp _ _ _ _ (by have:=newg g hg;simp;omega)];exact ho
 ·exact h.ownY.keep fun g o hg ho=>keep g o ho (fun e=>(h.blkK g e).2 hg) (by have:=h.blkY g hg;omega) (by have:=h.blkY g hg;omega)
 ·intro g hg;refine ⟨newg g hg,fun e=>?_⟩;rcases nG g hg with e' | e'
  ·exact (h.blkK g e').2 e
  ·have:=ltY g e;omega
 ·rw [qD];have h1:=h.repK;refine zW.append ((Rep.keep fun i x hi hx=>⟨⟨hi.1,fun e=>(nG i e).elim (fun e'=>hi.2.1 e') (fun e'=>by have:=zZ hx;omega),hi.2.2⟩,keep i x hx hi.2.1 (by have:=hi.1;omega) (by have:=hi.1;omega)⟩).2 _ _ h1) ?_
  ·have e1:zh [b]=kL b:=by simp [zh]
   rw [e1];refine (Rep.keep fun i x hi hx=>?_).2 _ _ hcs;have h2:=zZ hx;have h3:wr.heap.size<=i:=hi;refine ⟨⟨by omega,fun e=>?_,fun e=>by have:=ltY i e;omega⟩,sH i x hx (fun e=>by have:=ltK i e;omega) (by omega)⟩;rcases nG i e with e' | e'
   ·have:=ltK i e';omega
   ·omega
 ·exact (Rep.keep fun i x hi hx=>⟨⟨hi.1,fun e=>(nG i e).elim (fun e'=>hi.2.1 e') (fun e'=>by have:=zZ hx;omega),hi.2.2⟩,keep i x hx hi.2.1 (by have:=hi.1;omega) (by have:=hi.1;omega)⟩).2 _ _ h.repY
theorem NodeD.yes {w:World} {rd ob Z:Nat} {v:Int} {wr:World} {pk py:List Bd} {kv yv:List Value} {ks ys:Value} {nk ny:Nat}
 (h:NodeD w rd ob Z v wr pk py kv yv ks nk ys ny) (lP:rd<w.heap.size) (Es:ob<Z) (hwo:w.heap.size<ob) {W w7:World} {b:Bd} {cs:List Value} {a':Option Addr} {c':Nat}
 (nJ:But (· = rd) wr W) (hcs:zW (wr.heap.size<=·) W (kL b) cs) (nM:Own w7 47 4 (.slice a' (ny+1) c') (ny+1) (yv++cs)) (mo:But (fun i=>ys.ownBlock=some i) W w7)
 (nG:∀ g,(Nq a' (ny+1) c').ownBlock=some g->ys.ownBlock=some g\/g=W.heap.size) :
 NodeD w rd ob Z v (w7.setCell ⟨ob,3,none⟩ (.slice a' (ny+1) c')) pk (py++[b]) kv (yv++cs) ks nk (.slice a' (ny+1) c') (ny+1):=by
 have z6:=nJ.size;have z7:=mo.size;have zr:=h.z;have zb:=h.but.size;have keep:∀ i x,wr.heap[i]? = some x->ys.ownBlock≠some i->i≠ob->i≠rd->(w7.setCell ⟨ob,3,none⟩ (.slice a' (ny+1) c')).heap[i]? = some x:=by
  intro i x hx h1 h2 h3;have:=zZ hx;rw [mp _ _ _ _ (by simpa using h2),mo.block i (by omega) h1,nJ.block i this h3];exact hx
 have sH:∀ i x,W.heap[i]? = some x->ys.ownBlock≠some i->i≠ob->(w7.setCell ⟨ob,3,none⟩ (.slice a' (ny+1) c')).heap[i]? = some x:=by
  intro i x hx h1 h2;have:=zZ hx;rw [mp _ _ _ _ (by simpa using h2),mo.block i (by omega) h1];exact hx
 have ltK:∀ g,ks.ownBlock=some g->g<wr.heap.size:=fun g hg=>h.ownK.lt hg;have ltY:∀ g,ys.ownBlock=some g->g<wr.heap.size:=fun g hg=>h.ownY.lt hg;have nY:∀ i,i<Z->ys.ownBlock≠some i:=fun i hi e=>by have:=h.blkY i e;omega
 have newg:∀ g,(Nq a' (ny+1) c').ownBlock=some g->Z<=g:=fun g hg=>by
  rcases nG g hg with e | e
  ·exact h.blkY g e
  ·omega
 refine ⟨h.hnk,by simp [h.hny],h.ksl,⟨_,_,rfl⟩,?_,?_,?_,?_,?_,?_,newg,?_,?_,by simp [PL];omega⟩
 ·refine But.setCell ?_ (.inr (show w.heap.size<=ob by omega)) _;exact (h.but.trans nJ).trans' mo (fun i hi e=>absurd e (nY i (by omega)))
 ·exact keep _ _ h.res (nY _ (by omega)) (by omega) (by omega)
 ·have h1:kQ ob v ks ys w7:=by
   unfold kQ;rw [mo.block ob (by omega) (nY _ Es),nJ.block ob (by omega) (show ¬ ob=rd by omega)];exact h.out
  exact h1.put3
 ·exact h.ownK.keep fun g o hg ho=>keep g o ho (h.blkK g hg).2 (by have:=(h.blkK g hg).1;omega) (by have:=(h.blkK g hg).1;omega)
 ·exact nM.keep fun g o hg ho=>by rw [mp _ _ _ _ (by have:=newg g hg;simp;omega)];exact ho
 ·intro g hg;refine ⟨(h.blkK g hg).1,fun e=>?_⟩;rcases nG g e with e' | e'
  ·exact (h.blkK g hg).2 e'
  ·have:=ltK g hg;omega
 ·exact (Rep.keep fun i x hi hx=>⟨⟨hi.1,hi.2.1,fun e=>(nG i e).elim (fun e'=>hi.2.2 e') (fun e'=>by have:=zZ hx;omega)⟩,keep i x hx hi.2.2 (by have:=hi.1;omega) (by have:=hi.1;omega)⟩).2 _ _ h.repK
 ·rw [qD];refine zW.append ((Rep.keep fun i x hi hx=>⟨⟨hi.1,hi.2.1,fun e=>(nG i e).elim (fun e'=>hi.2.2 e') (fun e'=>by have:=zZ hx;omega)⟩,keep i x hx hi.2.2 (by have:=hi.1;omega) (by have:=hi.1;omega)⟩).2 _ _ h.repY) ?_
  ·have e1:zh [b]=kL b:=by simp [zh]
   rw [e1];refine (Rep.keep fun i x hi hx=>?_).2 _ _ hcs;have h2:=zZ hx;have h3:wr.heap.size<=i:=hi;refine ⟨⟨by omega,fun e=>by have:=ltK i e;omega,fun e=>?_⟩,sH i x hx (fun e=>by have:=ltY i e;omega) (by omega)⟩;rcases nG i e with e' | e'
   ·have:=ltY i e';omega
   ·omega
def bnd:Nat->Nat
 | 0=>1
 | d+1=>1+17*bnd d
theorem wK.newAt {w:World} {rd:Nat} (lP:rd<w.heap.size) (xs:List Bs) (n:Nat) (hn:n=xs.length) (e:TypeId) (g:Nat) (hg:g=w.heap.size):wK (w.alloc (.cells (xs.map str).toArray e)) rd (.slice (some ⟨g,0,none⟩) n n) xs:=by
 subst hg;exact wK.new lP xs n hn e
theorem pj (x:Int) (h1 : -2000<=x) (h2:x<=1000000):Oi.wrap x=x:=by
 simp [Rt,QH,Qm];omega
theorem sub_le {z:Int} {p d:Nat} (h2:z<=((d+1:Nat):Int)):z-1-(p:Int)<=d:=by omega
def Row8 (w:World) (a:Option Addr) (len cap:Nat) (zs:List Int):Prop :=
 (a=none/\len=0/\cap=0/\zs=[]) \/
 ∃ x,a=some x/\len<=cap/\cap<=maxLen/\zs.length=cap/\(∀ i,i<zs.length->w.cell? (x.add i)=some (.int .u8 (zs.getD i 0)))/\∀ n∈zs,(Lit.int .u8 n).wf=true
theorem Row8.le {w:World} {a:Option Addr} {len cap:Nat} {zs:List Int} (h:Row8 w a len cap zs):len<=cap:=by
 rcases h with ⟨_,rfl,rfl,_⟩ | ⟨x,_,h,_⟩
 ·exact my _
 ·exact h
theorem Row8.bytes {w:World} {a:Option Addr} {len cap:Nat} {zs:List Int} (h:Row8 w a len cap zs) (n:Nat) (hn:n<=len) :
 n=0\/∃ b o,a=some ⟨b,o,none⟩/\b<w.heap.size/\∀ k,k<n->∃ x:Nat,x<256/\w.cell? ⟨b,o+k,none⟩=some (.int .u8 x):=by
 rcases Nat.eq_zero_or_pos n with h0 | h0
 ·exact .inl h0
 right;rcases h with ⟨_,rfl,_,_⟩ | ⟨x,rfl,hl,_,hz,hc,hw⟩
 ·omega
 obtain ⟨b,o,sp⟩:=x;have h1:=hc 0 (by omega);have JP:sp=none:=by
  cases sp with
  | none=>rfl
  | some q=>simp [GD,Addr.add] at h1;split at h1 <;> simp_all
 subst JP;have Gh:∀ i,(⟨b,o,none⟩:Addr).add i=⟨b,o+i,none⟩:=fun i=>by
  unfold Addr.add;split <;> simp_all
 have h2:=mx w _ h1;refine ⟨b,o,rfl,by rw [Gh] at h2;exact h2,fun k hk=>?_⟩;have hkz:k<zs.length:=by omega
 have h3:=hc k hkz;rw [Gh] at h3;have hm:zs.getD k 0∈zs:=by
  rw [List.getD_eq_getElem?_getD,O_ hkz];exact List.getElem_mem hkz
 have Am:=hw _ hm;clear hm;generalize zs.getD k 0=z at *;have hb:0<=z/\z<256:=by
  simp [Lit.wf,Uz,UA,QH,Qm] at Am;omega
 refine ⟨z.toNat,by omega,?_⟩;rw [h3,Int.toNat_of_nonneg hb.1]
theorem l6Open_any (a:Option Addr) (len cap:Nat) (zs:List Int) (w:World) (h:Row8 w a len cap zs) (hl:len<=1048576) :
 Calls KD 11 #[.slice a len cap] w fun en w'=>en=.returned (.pointer (some ⟨w.heap.size,0,none⟩))/\Below w.heap.size w w'/\jB w' w.heap.size 0/\w.heap.size<w'.heap.size:=by
 have rL:=h.le;have H:=mj h;clear h;by_cases h2:2000<len
 ·have h2':(2000:Int)<(len:Int):=by omega
  have h3:(2000:Int)<=(cap:Int):=by omega
  obtain ⟨b,o,ea,hb,hk⟩:=(H.out.bytes 2000 (by omega)).resolve_left (by omega);subst ea;have HK:=mj hk;clear hk;go_enter TP,Tg;go_wp2_with fail
  go_ret;refine ⟨rfl,(mw _ _).alloc (my _) _,?_,by simp⟩;refine ⟨_,2000,_,0,zG _ _,my _,my _,.inr ⟨b,o,rfl,hb,fun k hk=>?_⟩⟩;obtain ⟨x,hx,hc⟩:=HK.out k hk;exact ⟨x,hx,zV hc⟩
 ·have h2':¬ (2000:Int)<(len:Int):=by omega
  go_enter TP,Tg;go_wp2_with fail
  go_ret;refine ⟨rfl,(mw _ _).alloc (my _) _,?_,by simp⟩;refine ⟨_,len,_,0,zG _ _,my _,by omega,?_⟩;rcases H.out.bytes len (my _) with h0 | ⟨b,o,ea,hb,hk⟩
  ·exact .inl h0
  ·refine .inr ⟨b,o,ea,hb,fun k Dt=>?_⟩;obtain ⟨x,hx,hc⟩:=hk k Dt;exact ⟨x,hx,zV hc⟩
theorem type_ok {s:Bs} (h:s∈wH):(zI s).2=true/\s.length<=100:=by
 simp only [wH,Om,O0,or_false] at h;rcases h with rfl | rfl | rfl | rfl | rfl | rfl | rfl | rfl <;> exact ⟨by decide,by decide⟩
theorem wrap_one (p:Nat) (h:p<3):Oi.wrap (1+(p:Int))=1+p:=pj _ (by omega) (by omega)
theorem but_new {rd:Nat} {w w1 w2:World} (h1:Below w.heap.size w w1) (lP:w.heap.size<=rd) (h2:But (· = rd) w1 w2):Below w.heap.size w w2 :=
 h1.trans (h2.toBelow h1.size fun i hi e=>by omega)
def atT (t:Ty):Bs->Option Ty
 | []=>some t
 | c::p=>if 48<=c.toNat then (match t.args[c.toNat-48]? with | some a=>atT a p | none=>none) else none
theorem atT_nil (t:Ty):atT t []=some t:=by cases t;rfl
theorem mM (t:Ty) (c:UInt8) (p:Bs):atT t (c::p)=if 48<=c.toNat then (match t.args[c.toNat-48]? with | some a=>atT a p | none=>none) else none:=by rw [atT]
theorem mN:∀ (p q:Bs) (t:Ty),atT t (p++q)=(atT t p).bind fun a=>atT a q
 | [],q,t=>by rw [atT_nil];rfl
 | c::p,q,t=>by
   rw [List.cons_append,mM,mM];split
   ·cases h:t.args[c.toNat-48]? with
    | none=>rfl
    | some a=>exact mN p q a
   ·rfl
theorem digit_nat {j:Nat} (h:j<10):(yH j).toNat=48+j:=uZ h
theorem atT_digit (t:Ty) {j:Nat} (h:j<10):atT t [yH j]=t.args[j]?:=by
 rw [mM,digit_nat h,if_pos (by omega),show 48+j-48=j from by omega];cases t.args[j]? with
 | none=>rfl
 | some a=>exact atT_nil a
theorem args_len (t:Ty):2*t.args.length+1<=zJ t:=by
 rw [qi t];have:∀ ts:List Ty,2*ts.length<=zc ts:=by
  intro ts
  induction ts with
  | nil=>simp
  | cons u us ih =>
    have:=kg u;rw [show u::us=[u]++us from rfl,yY];have e:zc [u]=1+zJ u:=by simp [zc]
    rw [e,NZ,List.length_singleton];omega
 have:=this t.args;omega
abbrev Pl:=List (Bs×Int)
abbrev gR:=Nat×Bs
def wN (many begin:Nat) (path:Bs):List gR:=(TZ many).map fun i=>(begin,path++dec i)
theorem uL (m b:Nat) (p:Bs):(wN m b p).length=m:=by simp [wN]
theorem eM {m b j:Nat} {p:Bs} (h:j<m):(wN m b p)[j]? = some (b,p++dec j):=by simp [wN,h]
structure PlFit (t:Ty) (lv:List gR) (hand:List Ty) (n:Nat):Prop where
 len:lv.length=hand.length
 each:∀ (i:Nat) (a:Ty),hand[i]? = some a->∃ pl,lv[i]? = some pl/\atT t pl.2=some a/\pl.1<n
theorem PlFit.kid {t:Ty} {lv:List gR} {hand:List Ty} {n m k:Nat} (h:PlFit t lv hand n) (Fo:n<=m) (hk:k<m) {p:Bs} {a:Ty} (ha:atT t p=some a) (FC:a.args.length<=10) :
 PlFit t (lv++wN a.args.length k p) (hand++a.args) m:=by
 refine ⟨by rw [NZ,NZ,uL,h.len],fun i b hb=>?_⟩;rcases Qr i hand.length with hi | hi
 ·rw [Ou hi] at hb;obtain ⟨pl,h1,h2,h3⟩:=h.each i b hb;exact ⟨pl,by rw [Ou (by rw [h.len];exact hi)];exact h1,h2,by omega⟩
 ·rw [Ow hi] at hb;have m_:=(N6.1 hb).1;refine ⟨(k,p++dec (i-hand.length)),?_,?_,hk⟩
  ·rw [Ow (by rw [h.len];exact hi),h.len,eM m_]
  ·show atT t (p++dec (i-hand.length))=some b;rw [mN,ha,Mm,jl (by omega),atT_digit _ (by omega)];exact hb
theorem PlFit.mono {t:Ty} {lv:List gR} {hand:List Ty} {n m:Nat} (h:PlFit t lv hand n) (Fo:n<=m):PlFit t lv hand m :=
 ⟨h.len,fun i a ha=>by obtain ⟨pl,h1,h2,h3⟩:=h.each i a ha;exact ⟨pl,h1,h2,by omega⟩⟩
structure eU (lv:List gR) (bg:gR) (v:Pl) (begun args:List Nat) (z8:Nat):Prop where
 lb:begun.length=lv.length
 la:args.length=lv.length
 each:∀ (i:Nat) (pl:gR),lv[i]? = some pl->∃ j m z,begun[i]? = some pl.1/\args[i]? = some j/\v[pl.1]? = some (113::m,z)/\pl.2=m++dec j/\j<10
 bg:bg.1=z8/\∃ c z,v[z8]? = some (c::bg.2,z)
theorem eU.more {lv:List gR} {bg:gR} {v:Pl} {begun args:List Nat} {z8:Nat} (h:eU lv bg v begun args z8) (xs:Pl):eU lv bg (v++xs) begun args z8:=by
 have key:∀ (i:Nat) (x:Bs×Int),v[i]? = some x->(v++xs)[i]? = some x:=fun i x hx=>by
  rw [Ou (N6.1 hx).1];exact hx
 refine ⟨h.lb,h.la,fun i pl hi=>?_,h.bg.1,?_⟩
 ·obtain ⟨j,m,z,h1,h2,h3,h4⟩:=h.each i pl hi;exact ⟨j,m,z,h1,h2,key _ _ h3,h4⟩
 ·obtain ⟨c,z,hc⟩:=h.bg.2;exact ⟨c,z,key _ _ hc⟩
theorem eU.kid {lv:List gR} {bg:gR} {v:Pl} {begun args:List Nat} {z8:Nat} (h:eU lv bg v begun args z8) (many k:Nat) (p:Bs) (FC:many<=10) {z:Int} (hk:v[k]? = some (113::p,z)) :
 eU (lv++wN many k p) (k,p) v (begun++List.replicate many k) (args++TZ many) k:=by
 refine ⟨by simp [h.lb,uL],by simp [h.la,uL],fun i pl hi=>?_,rfl,113,z,hk⟩;rcases Qr i lv.length with m_ | Bg
 ·rw [Ou m_] at hi;obtain ⟨j,m,z',h1,h2,h3,h4⟩:=h.each i pl hi;exact ⟨j,m,z',by rw [Ou (by rw [h.lb];exact m_)];exact h1,by rw [Ou (by rw [h.la];exact m_)];exact h2,h3,h4⟩
 ·rw [Ow Bg] at hi;have hl:=(N6.1 hi).1;rw [uL] at hl;rw [eM hl] at hi;obtain rfl:=Ob hi;refine ⟨i-lv.length,p,z,?_,?_,hk,rfl,by omega⟩
  ·rw [Ow (by rw [h.lb];exact Bg),h.lb];simp [hl]
  ·rw [Ow (by rw [h.la];exact Bg),h.la];simp [hl]
def TermD (rd Q L:Nat) (w:World) (en:Ending) (w':World):Prop:=∃ s:Bs,en=.returned (str s)/\s.length<=L/\But (· = rd) w w'/\jB w' rd Q
def uH (F:Nat->Prop) (w:World) (ns:List Bs) (v:Value):Prop:=Rep F w (.sl 9 1 ns.length (ns.map fun x=>DV.val (str x))) v
def DrawT (rd N C L:Nat) (z:Int) (want:Bs):Prop:=∀ (ns ts:List Bs) (nv tv:Value) (F:Nat->Prop) (w:World) (P:Nat),
 ts.length=ns.length->ns.length<=N->(∀ x∈ns,x.length<=1)->uH F w ns nv->uH F w ts tv->(∀ i,F i->i≠rd)->jB w rd P->P+C<=1099511627776 ->
 Calls KD 63 #[.pointer (some ⟨rd,0,none⟩),nv,tv,str want,.int .i64 z] w (TermD rd (P+C) L w)
theorem uH.open {F:Nat->Prop} {w:World} {ns:List Bs} {v:Value} (h:uH F w ns v):∃ a c,v=.slice a ns.length c /\
 ∀ (j:Nat) (s:Bs),ns[j]? = some s->∃ b o,a=some ⟨b,o,none⟩/\F b/\b<w.heap.size/\w.cell? ⟨b,o+j,none⟩=some (str s):=by
 obtain ⟨a,c,e,_,_,ml⟩:=zP h;refine ⟨a,c,e,fun j s hs=>?_⟩;obtain ⟨b,o,u,d,ea,hF,m_,hd,hc,hr⟩:=ml j (N6.1 hs).1;rw [OY,hs] at hd;obtain rfl:=Ob hd;rw [zH] at hr;subst hr;exact ⟨b,o,ea,hF,m_,hc⟩
theorem uH.but {F:Nat->Prop} {rd:Nat} {w w':World} {ns:List Bs} {v:Value} (h:uH F w ns v) (hb:But (· = rd) w w') (hF:∀ i,F i->i≠rd):uH F w' ns v :=
 Rep.but hb (fun b h=>⟨hF b h,h⟩) h
theorem uH.src {F:Nat->Prop} {w:World} {ns:List Bs} {v:Value} (h:uH F w ns v):zq 1 v ns.length (ns.map str) w:=by
 obtain ⟨xs,hx,hs⟩:=zq.ofRep h (fun us hu u hm=>by
  obtain ⟨j,hj⟩:=List.mem_iff_getElem?.1 hm;have Cq:=(N6.1 hj).1;have hlen:=hu.length;rw [List.length_map] at hlen;have hd:(ns.map fun p=>DV.val (str p))[j]? = some (.val (str (ns[j]'(by omega)))):=by rw [OY,O_ (by omega)];rfl
  obtain ⟨v,hv,hr⟩:=zW.at hu hd;rw [hj] at hv;obtain rfl:=Ob hv;rw [zH] at hr;subst hr
  simp [str,Value.oneCell'])
 have e:xs=ns.map str:=by
  clear hs h
  induction ns generalizing xs with
  | nil=>rw [List.map_nil,zC] at hx;subst hx;rfl
  | cons n ns ih =>
    rw [List.map_cons] at hx;obtain ⟨u,us,rfl,h1,h2⟩:=zQ.1 hx;rw [zH] at h1;subst h1;rw [ih _ h2];rfl
 rw [<- e];exact hs
theorem Own.strsRep {F:Nat->Prop} {w:World} {xs:List Bs} {a:Option Addr} {n c:Nat} (h:Own w 9 1 (.slice a n c) n (xs.map str)) (hn:n=xs.length) (hF:∀ g,(Nq a n c).ownBlock=some g->F g):uH F w xs (.slice a n c):=by
 subst hn;refine h.rep hF ?_;clear h hF
 induction xs with
 | nil=>exact zC.2 rfl
 | cons x xs ih=>exact zQ.2 ⟨_,_,rfl,zH.2 rfl,ih⟩
def gb:List Bs:=[[98],[98],[40,62,32,98,32,98,41]]
def ud:List Bs:=[[116],[102],[117]]
def gt:List Bs:=[[120],[121],[122]]
theorem kind_len {s:Bs} (h:s∈gb):s.length<=7:=by
 simp only [gb,Om,O0,or_false] at h;rcases h with rfl | rfl | rfl <;> decide
theorem db {s:Bs} (h:s∈ud):s.length<=1:=by
 simp only [ud,Om,O0,or_false] at h;rcases h with rfl | rfl | rfl <;> decide
theorem name_len1 {s:Bs} (h:s∈gt):s.length<=1:=by
 simp only [gt,Om,O0,or_false] at h;rcases h with rfl | rfl | rfl <;> decide
theorem xh {t:Ty} (h:zJ t<=15):(zN t).length<=90:=by
 have:=dT t;rw [vu,wE] at this;omega
theorem jE (A B:Bs) (n:Nat) (h:A.length+B.length<=n) (hn:n<=9223372036854775807):∃ O:Bs,O.length<=n/\∀ w0,(Op.stringOp .add ⟨A.toArray⟩ ⟨B.toArray⟩).run KD w0=.ok (str O) w0 :=
 ⟨A++B,by rw [NZ];exact h,fun w0=>k9 A B (by omega) w0⟩
theorem fA {rd Q:Nat} {w w':World} (h:But (· = rd) w w'/\jB w' rd Q) {v:World} (hb:Below w'.heap.size w' v):But (· = rd) w v/\jB v rd Q:=⟨h.1.trans (But.ofBelow hb),h.2.below hb⟩
theorem fm (rd N C' L' C L:Nat) (z:Int) (want:Bs) (ln : -1000<=z) (sI:z<=1000) (hw:want.length<=2000) (hN:N<=100)
 (hl:(zI want).2=true->∀ a rest,(zI want).1.args=a::rest->DrawT rd (N+1) C' L' (z-1) (zN (.mk rest)))
 (ho : -2<z->∀ want':Bs,want'.length<=want.length+20->DrawT rd (N+1) C' L' (z-1) want')
 (hC:C'+N+10<=C) (hC3 : -2<z->3*C'+N+10<=C) (hL:L'+220<=L) (hL3 : -2<z->3*L'+20<=L) (hL5:L'<=1000000):DrawT rd N C L z want:=by
 intro ns ts nv tv F w P rC JU nh Ch rU hF hr hP;obtain ⟨na,nc,rfl,sV⟩:=Ch.open;obtain ⟨ta,tc,rfl,MT⟩:=rU.open;have HL:=mj hl;have HO:=mj ho;have HN:=mj sV;have HT:=mj MT;have HF:=mj hF;have Ko:=mj nh;have HRN:=mj Ch;have HRT:=mj rU;have Hj:=mj rC;have HC:=mj (mu hC (mu hC3 (mu hL hL3)));have zz:Oi.wrap (z-1)=z-1:=pj _ (by omega) (by omega);rw [rC];have Ex:=hr.lt;clear hl ho sV MT hF nh Ch rU rC hC3 hL3;by_cases Bw:z<=0;rotate_left;have hz0':decide (z<=0)=false:=decide_eq_false Bw;go_enter TQ,Th;go_wp2_with fail
 refine (wR rd P 7 w hr (by omega) (by omega) (by omega)).mono ?_;rintro en wz ⟨v,rfl,hv,mi,sJ⟩;have HZ:Hid (∃ Q,Q<=P+1/\But (· = rd) w wz/\jB wz rd Q):=mj ⟨_,my _,mi,sJ⟩;clear mi sJ Bw;by_cases Cf:v=0;rotate_left;have iz:((v:Int) == 0)=false:=by rw [beq_eq_false_iff_ne];omega
 have HM:Hid (∃ Q,Q<=P+1+ns.length/\But (· = rd) w wz/\jB wz rd Q):=mj (by obtain ⟨Q,h1,h2⟩:=HZ.out;exact ⟨Q,by omega,h2⟩);clear HZ hv Cf;go_wp2_with fail
 rotate_left;have hz0':decide (z<=0)=true:=decide_eq_true Bw;have HZ:Hid (∃ Q,Q<=P+1/\But (· = rd) w w/\jB w rd Q):=mj ⟨P,OO _,But.refl _ _,hr⟩;clear Bw;go_enter TQ,Th;go_wp2_with fail
 rotate_left;subst Cf;clear hv;go_wp2_with fail
 rotate_left
 any_goals (
  go_loopw [12] (fun i wz=>∃ (j:Nat) (wr:World) (Q:Nat),wr=wz/\j<=ns.length/\i=.int .i64 ((j:Int)-1)/\Q+j<=P+1+ns.length/\But (· = rd) w wr/\jB wr rd Q) (fun i _=>(intOf i+1).toNat)
  case atStart=>obtain ⟨Q,hQ,Bj,hrz⟩:=HZ.out;exact ⟨ns.length,_,Q,rfl,my _,rfl,by omega,Bj,hrz⟩
  case' round =>
   obtain ⟨j,wr,Q,ewr,hj,rfl,hQ,tS,AG⟩:=hrel;subst ewr;clear HZ;rcases j with _ | j;rotate_left
   ·rw [show ((j+1:Nat):Int)-1=(j:Int) from by omega];have Cq:j<ns.length:=by omega
    obtain ⟨nj,hnj⟩:∃ s,ns[j]? = some s:=⟨_,O_ Cq⟩;obtain ⟨tj,Fj⟩:∃ s,ts[j]? = some s:=⟨_,O_ (by rw [Hj.out];exact Cq)⟩;obtain ⟨nb,no,ena,FB,IP,lh⟩:=HN.out j nj hnj;obtain ⟨tb,tO,eta,M8,od,GH⟩:=HT.out j tj Fj;subst ena;subst eta;have HJ:=mj (mu hnj (mu lh (mu GH (mu IP (mu od (mu FB M8))))));have L_:(j:Int)<(ns.length:Int):=by omega
    have zj:Oi.wrap ((j:Int)+1)=((j+1:Nat):Int):=by rw [pj _ (by omega) (by omega)];omega
    have HB:=mj (mu tS AG);clear tS AG hnj Fj lh GH IP od FB M8;go_wp2_with fail
    go_loopw [13,14] (fun b k wz=>∃ (bb:Bool) (kk:Nat) (wq:World),wq=wz/\b=.bool bb/\kk<=ns.length/\k=.int .i64 kk/\But (· = rd) w wq/\jB wq rd Q) (fun _ k _=>ns.length-(intOf k).toNat)
    case atStart=>exact ⟨false,j+1,_,rfl,rfl,by omega,by first | rfl | go_num,HB.out.1,HB.out.2⟩
    case round =>
     obtain ⟨bb,kk,wq,ewq,rfl,Ap,rfl,I_,Cg⟩:=hrel;subst ewq;have cn:wq.cell? ⟨nb,no+j,none⟩=some (str nj):=(I_.cell (p:=⟨nb,no+j,none⟩) HJ.out.2.2.2.1 (HF.out _ HJ.out.2.2.2.2.2.1)).trans HJ.out.2.1;have ct:wq.cell? ⟨tb,tO+j,none⟩=some (str tj):=(I_.cell (p:=⟨tb,tO+j,none⟩) HJ.out.2.2.2.2.1 (HF.out _ HJ.out.2.2.2.2.2.2)).trans HJ.out.2.2.1;have HQ:=mj (mu I_ Cg);clear I_ Cg HB;by_cases m_:kk<ns.length
     ·have hkI:(kk:Int)<(ns.length:Int):=by omega
      obtain ⟨nk,hnk⟩:∃ s,ns[kk]? = some s:=⟨_,O_ m_⟩;obtain ⟨nb2,no2,e2,E2,oV,tf⟩:=HN.out kk nk hnk;simp only [N1,Addr.mk.injEq,and_true] at e2;obtain ⟨rfl,rfl⟩:=e2;have ck:wq.cell? ⟨nb,no+kk,none⟩=some (str nk):=(HQ.out.1.cell (p:=⟨nb,no+kk,none⟩) oV (HF.out _ E2)).trans tf;clear hnk E2 oV tf ct;cases bb with
      | true =>
        go_wp2_with fail
        go_quiet (fail);go_wp2_with fail
        go_round
        case rel=>exact ⟨_,kk+1,_,rfl,rfl,by omega,by go_num,pD HQ.out.1 _,HQ.out.2.drewN _⟩
        case measure=>simp only [intOf];omega
      | false =>
        go_wp2_with fail
        go_quiet (fail);go_wp2_with fail
        go_round
        case rel=>exact ⟨_,kk+1,_,rfl,rfl,by omega,by go_num,pD HQ.out.1 _,HQ.out.2.drewN _⟩
        case measure=>simp only [intOf];omega
     ·have hkk2:kk=ns.length:=by omega
      subst hkk2;clear m_ Ap;cases bb with
      | true =>
        go_wp2_with fail
        go_round
        case rel=>exact ⟨j,_,Q,rfl,by omega,by go_num,by omega,HQ.out.1,HQ.out.2⟩
        case measure=>simp only [intOf];omega
      | false =>
        by_cases hwt:tj=want;rotate_left
        ·have q1:(tj == want)=false:=by rw [beq_eq_false_iff_ne];exact hwt
         go_wp2_with fail
         go_round
         case rel=>exact ⟨j,_,Q,rfl,by omega,by go_num,by omega,HQ.out.1,HQ.out.2⟩
         case measure=>simp only [intOf];omega
        subst hwt;go_wp2_with fail
        refine (wR rd Q 4 wq HQ.out.2 (by omega) (by omega) (by omega)).mono ?_;rintro en w4 ⟨v4,rfl,hv4,nS,Dk⟩;have cn4:w4.cell? ⟨nb,no+j,none⟩=some (str nj):=(nS.cell (p:=⟨nb,no+j,none⟩) (mx _ _ cn) (HF.out _ HJ.out.2.2.2.2.2.1)).trans cn;have H4:=mj (mu (HQ.out.1.trans nS) Dk);clear nS Dk cn ct;by_cases hv40:v4=0
        ·subst hv40;clear hv4;go_wp2_with fail
         go_round
         case rel=>exact ⟨j,_,Q+1,rfl,by omega,by go_num,by omega,H4.out.1,H4.out.2⟩
         case measure=>simp only [intOf];omega
        ·have hv4':decide ((0:Int)<(v4:Int))=true:=decide_eq_true (by omega);go_wp2_with fail
         go_ret;have h1:=Ko.out nj (Oc HJ.out.1);have h2:=HC.out;exact ⟨nj,rfl,by omega,H4.out.1,H4.out.2.mono (by omega)⟩
   rw [show ((0:Nat):Int)-1 = -1 from rfl];have HM:Hid (∃ Q,Q<=P+1+ns.length/\But (· = rd) w wr/\jB wr rd Q):=mj ⟨Q,by omega,tS,AG⟩;clear tS hQ AG;by_cases hwb:want=[98]
   ·subst hwb;have q98:(([98]:Bs) == [98])=true:=rfl;obtain ⟨Q',hQ',nW,aH⟩:=HM.out;have rF:=aH.lt;clear HM;go_wp2_with fail
    refine (gZ rd Q' _ ud _ (aH.alloc _) (wK.new rF ud 3 rfl _) (by decide) (by decide) (by omega)).mono ?_;rintro en w5 ⟨s,hs,rfl,nR,Eo⟩;have rz:=db hs;have H5:=mj (mu ((nW.alloc _).trans nR) Eo);clear hs nR Eo nW aH;go_wp2_with fail
    go_ret;have h2:=HC.out;exact ⟨s,rfl,by omega,H5.out.1,H5.out.2.mono (by omega)⟩
   have q98:(want == [98])=false:=by rw [beq_eq_false_iff_ne];exact hwb
   clear hwb
   go_wp2_with fail)
 all_goals (
  obtain ⟨Q,hQ,I_,Cg⟩:=HM.out;have hC1:=HC.out.1;refine (wR rd Q 6 _ Cg (by omega) (by omega) (by omega)).mono ?_;rintro en w6 ⟨v6,rfl,JO,nJ,sX⟩;have H6:Hid (But (· = rd) w w6/\jB w6 rd (Q+1)):=mj (mu (I_.trans nJ) sX);have LW:=sX.lt;have Ln:uH F w ts (.slice ta ns.length tc):=by rw [<- Hj.out];exact HRT.out
  have NG:=mj Ln;clear I_ Cg nJ sX HM Ln hC1
  have JOIN:Hid (∀ (wq:World) (Q':Nat),But (· = rd) w wq->jB wq rd Q'->Q'+C'<=1099511627776->-2<z->∀ want':Bs,want'.length<=want.length+20 ->
   Calls KD 63 #[.pointer (some ⟨rd,0,none⟩),.slice na ns.length nc,.slice ta ns.length tc,str want',.int .i64 (z-1)] wq (TermD rd (Q'+C') L' wq)):=mj (by
   intro wq Q' nw hrw hq hz want' nP
   exact HO.out hz want' nP ns ts _ _ F wq Q' Hj.out (by omega) Ko.out (HRN.out.but nw HF.out) (NG.out.but nw HF.out) HF.out hrw hq)
  by_cases h0:v6=0/\-2<z
  ·obtain ⟨rfl,im⟩:=h0;have Nb:=HC.out.2.1 im;have M5:=HC.out.2.2.2 im;have ll:=mj im;have A_:=mj (mu Nb (mu M5 hQ));have Ct:decide ((-2:Int)<z)=true:=decide_eq_true im;clear im JO Nb M5 hQ;go_wp2_with fail
   refine (gZ rd (Q+1) _ gb _ (H6.out.2.alloc _) (wK.new LW gb 3 rfl _) (by decide) (by decide) (by have:=A_.out;omega)).mono ?_;rintro en w7 ⟨kd,Aq,rfl,mo,iH⟩;have hk7:=kind_len Aq;have H7:Hid (But (· = rd) w w7/\jB w7 rd (Q+2)):=mj (mu ((H6.out.1.alloc _).trans mo) iH);obtain ⟨O1,m1,a1⟩:=jE [40,62,32] kd 10 (by simp;omega) (by omega);obtain ⟨O2,m2,a2⟩:=jE O1 [32] 11 (by simp;omega) (by omega);obtain ⟨O3,m3,a3⟩:=jE O2 want (want.length+11) (by omega) (by omega);obtain ⟨O4,m4,a4⟩:=jE O3 [41] (want.length+12) (by simp;omega) (by omega);have HK7:=mj hk7;clear Aq mo iH hk7;go_wp2_with fail
   (with_reducible refine (JOIN.out w7 (Q+2) H7.out.1 H7.out.2 (by have:=A_.out;omega) ll.out O4 (by omega)).mono ?_);rintro en w8 ⟨s8,rfl,FQ,rK,iJ⟩
   have H8:Hid (But (· = rd) w w8/\jB w8 rd (Q+2+C')):=mj (mu (H7.out.1.trans rK) iJ);obtain ⟨O5,m5,a5⟩:=jE [40,97,112,112,32] s8 (L'+5) (by simp;omega) (by omega);obtain ⟨O6,m6,a6⟩:=jE O5 [32] (L'+6) (by simp;omega) (by omega);clear rK iJ;go_wp2_with fail
   (with_reducible refine (JOIN.out w8 (Q+2+C') H8.out.1 H8.out.2 (by have:=A_.out;omega) ll.out kd (by have:=HK7.out;omega)).mono ?_);rintro en w9 ⟨s9,rfl,JQ,rR,BE⟩
   have H9:Hid (But (· = rd) w w9/\jB w9 rd (Q+2+C'+C')):=mj (mu (H8.out.1.trans rR) BE);obtain ⟨O7,m7,a7⟩:=jE O6 s9 (L'+6+L') (by omega) (by omega);obtain ⟨O8,m8,a8⟩:=jE O7 [41] (L'+7+L') (by simp;omega) (by omega);clear rR BE;go_wp2_with fail
   go_ret;have h1:=A_.out;exact ⟨O8,rfl,by omega,H9.out.1,H9.out.2.mono (by omega)⟩
  by_cases Jp:(v6=1\/v6=2)/\-2<z
  ·obtain ⟨Jp,im⟩:=Jp;have Nb:=HC.out.2.1 im;have M5:=HC.out.2.2.2 im;have ll:=mj im;have A_:=mj (mu Nb (mu M5 hQ));have Ct:decide ((-2:Int)<z)=true:=decide_eq_true im;clear im JO Nb M5 hQ h0;have C1:=mj (JOIN.out w6 (Q+1) H6.out.1 H6.out.2 (by have:=A_.out;omega) ll.out [98] (by simp));rcases Jp with rfl | rfl
   all_goals (
    go_wp2_with fail
    (with_reducible refine C1.out.mono ?_)
    rintro en w8 ⟨s8,rfl,FQ,rK,iJ⟩;have H8:Hid (But (· = rd) w w8/\jB w8 rd (Q+1+C')):=mj (mu (H6.out.1.trans rK) iJ);obtain ⟨O5,m5,a5⟩:=jE [40,105,102,32] s8 (L'+4) (by simp;omega) (by omega);obtain ⟨O6,m6,a6⟩:=jE O5 [32] (L'+5) (by simp;omega) (by omega);clear rK iJ C1;go_wp2_with fail
    (with_reducible refine (JOIN.out w8 (Q+1+C') H8.out.1 H8.out.2 (by have:=A_.out;omega) ll.out want (by omega)).mono ?_)
    rintro en w9 ⟨s9,rfl,JQ,rR,BE⟩;have H9:Hid (But (· = rd) w w9/\jB w9 rd (Q+1+C'+C')):=mj (mu (H8.out.1.trans rR) BE);obtain ⟨O7,m7,a7⟩:=jE O6 s9 (L'+5+L') (by omega) (by omega);obtain ⟨O8,m8,a8⟩:=jE O7 [32] (L'+6+L') (by simp;omega) (by omega);clear rR BE;go_wp2_with fail
    (with_reducible refine (JOIN.out w9 (Q+1+C'+C') H9.out.1 H9.out.2 (by have:=A_.out;omega) ll.out want (by omega)).mono ?_)
    rintro en lq ⟨s10,rfl,hs10,iZ,AH⟩;have Hs:Hid (But (· = rd) w lq/\jB lq rd (Q+1+C'+C'+C')):=mj (mu (H9.out.1.trans iZ) AH);obtain ⟨O9,m9,a9⟩:=jE O8 s10 (L'+6+L'+L') (by omega) (by omega);obtain ⟨O10,m10,FD⟩:=jE O9 [41] (L'+7+L'+L') (by simp;omega) (by omega);clear iZ AH;go_wp2_with fail
    go_ret;have h1:=A_.out
    exact ⟨O10,rfl,by omega,Hs.out.1,Hs.out.2.mono (by omega)⟩)
  have sE:(v6=0/\decide ((-2:Int)<z)=false)\/((v6=1\/v6=2)/\decide ((-2:Int)<z)=false)\/(((v6:Int) == 0)=false/\((v6:Int) == 1)=false/\((v6:Int) == 2)=false):=by
   by_cases Iq : -2<z
   ·refine .inr (.inr ⟨?_,?_,?_⟩) <;> rw [beq_eq_false_iff_ne] <;> omega
   ·have hd:decide ((-2:Int)<z)=false:=decide_eq_false Iq;by_cases k0:v6=0
    ·exact .inl ⟨k0,hd⟩
    by_cases KH:v6=1\/v6=2
    ·exact .inr (.inl ⟨KH,hd⟩)
    ·refine .inr (.inr ⟨?_,?_,?_⟩) <;> rw [beq_eq_false_iff_ne] <;> omega
  have CT:=mj (xO want (show _<=_ by omega) w6);have A_:=mj (mu HC.out.1 (mu HC.out.2.2.1 hQ));obtain ⟨tt,htt⟩:=zzN ((zI want).1);obtain ⟨qq,II⟩:=zzN ((zI want).2);have HTQ:Hid ((zI want).1=tt/\(zI want).2=qq):=mj ⟨htt,II⟩
  have Aw:Hid (Calls KD 40 #[str want] w6 fun en w'=>∃ v,en=.returned (.tuple #[.agg #[v],.bool qq])/\Below w6.heap.size w6 w'/\Rep (w6.heap.size<=·) w' (ke tt) v):=mj (by
   have:=CT.out;unfold TypePost at this;rw [htt,II] at this;exact this)
  clear h0 Jp JO CT htt II hQ;rcases sE with ⟨rfl,Ct⟩ | ⟨rfl | rfl,Ct⟩ | ⟨Ac,As,Ct⟩
  all_goals (
   go_wp2_with fail
   (with_reducible refine Aw.out.mono ?_)
   rintro en w7 ⟨tv,rfl,mo,rU⟩;obtain ⟨ta7,B5,etv⟩:=kU rU;subst etv;rw [q_] at rU;have hlt7:rd<w7.heap.size:=mg LW mo.size;have H7:Hid (But (· = rd) w w7/\jB w7 rd (Q+1)):=mj (fA H6.out mo);have HRT7:=mj rU;clear mo rU Aw;cases qq with
   | false =>
     go_wp2_with fail
     refine (gZ rd (Q+1) _ ud _ ((H7.out.2.alloc _).alloc _) (wK.newAt (by simp;omega) ud 3 rfl _ (w7.heap.size+1) (by simp)) (by decide) (by decide) (by have:=A_.out;omega)).mono ?_;rintro en w8 ⟨s,hs,rfl,rK,iJ⟩;have rz:=db hs;have H8:=mj (mu (((H7.out.1.alloc _).alloc _).trans rK) iJ);clear hs rK iJ;go_wp2_with fail
     go_ret;have h2:=A_.out;exact ⟨s,rfl,by omega,H8.out.1,H8.out.2.mono (by omega)⟩
   | true =>
     cases iG:tt.args with
     | nil =>
       simp only [OD];clear iG;go_wp2_with fail
       refine (gZ rd (Q+1) _ ud _ ((H7.out.2.alloc _).alloc _) (wK.newAt (by simp;omega) ud 3 rfl _ (w7.heap.size+1) (by simp)) (by decide) (by decide) (by have:=A_.out;omega)).mono ?_;rintro en w8 ⟨s,hs,rfl,rK,iJ⟩;have rz:=db hs;have H8:=mj (mu (((H7.out.1.alloc _).alloc _).trans rK) iJ);clear hs rK iJ;go_wp2_with fail
       go_ret;have h2:=A_.out;exact ⟨s,rfl,by omega,H8.out.1,H8.out.2.mono (by omega)⟩
     | cons a rest =>
       have FS:=HRT7.out;simp only [N5];rw [iG,N5,qA] at FS;have ett:tt=.mk (a::rest):=by cases tt;simp only [Ty.args] at iG;rw [iG]
       have nX:zJ tt<=15:=by have h:=HTQ.out;rw [<- h.1];exact vM h.2
       rw [ett,vQ] at nX;have p1:=kg a;have p2:=kg (.mk rest);have KX:=xh (t:=a) (by omega);have KV:=xh (t:=.mk rest) (by omega);have Eg:rest.length<=15:=by have:=args_len (.mk rest);simp only [Ty.args] at this;omega
       obtain ⟨ae,cape,ee,hcap,_,ml⟩:=zP FS;simp only [Value.slice.injEq] at ee;obtain ⟨rfl,_,rfl⟩:=ee;obtain ⟨eb,eo,u,d,ea,hF7,m_,hd,hc,tQ⟩:=ml 0 (by omega);subst ea;simp only [List.getElem?_cons_zero,N1] at hd;subst hd;rw [Nat.add_zero] at hc;have hcW:=zV (o:=.cells #[.slice (some ⟨eb,eo,none⟩) (rest.length+1) B5] 42) hc;have Lk:Rep (w6.heap.size<=·) (w7.alloc (.cells #[.slice (some ⟨eb,eo,none⟩) (rest.length+1) B5] 42)) (ke a) u:=(Rep.keep fun b o h ho=>⟨h,zU ho⟩).1 _ _ tQ;have hFW:(w7.alloc (.cells #[.slice (some ⟨eb,eo,none⟩) (rest.length+1) B5] 42)).cell? ⟨w7.heap.size,0,none⟩=some (.slice (some ⟨eb,eo,none⟩) (rest.length+1) B5):=by simp
       have HRR:Hid (∀ v,Rep (w6.heap.size<=·) w7 (ke (.mk rest)) v->∀ wz,Below (w7.heap.size+1) (w7.alloc (.cells #[.slice (some ⟨eb,eo,none⟩) (rest.length+1) B5] 42)) wz ->
        Calls KD 48 #[.agg #[v]] wz fun en w'=>en=.returned (str (zN (.mk rest)))/\Below wz.heap.size wz w'):=mj (fun v hv wz hz =>
        uy 15 (.mk rest) (by omega) (by omega) (fun _=>True) wz v ((Rep.keep fun b o _ ho=>⟨trivial,by rw [hz.block b (by have:=zZ ho;omega)];exact zU ho⟩).1 _ _ hv))
       have C1:=mj (uy 15 a (by omega) (by omega) (w6.heap.size<=·) _ u Lk);have NC:Hid (¬ B5=1->Rep (w6.heap.size<=·) w7 (ke (.mk rest)) (.slice (some ⟨eb,eo+1,none⟩) rest.length (B5-1))):=mj (fun _=>by rw [q_];exact pF (d:=ke a) FS)
       have HEnd:Hid (B5=1->rest=[]/\Rep (w6.heap.size<=·) w7 (ke (.mk rest)) (.slice (some ⟨eb,eo,none⟩) rest.length 0)):=mj (fun h=>by
        have e:rest=[]:=by cases rest with
         | nil=>rfl
         | cons x xs=>simp at hcap;omega
        refine ⟨e,?_⟩;subst e;rw [q_]
        exact zg.2 ⟨by simp [qA,Ty.args],_,_,rfl,Nat.zero_le _,fun h=>by simp at h,.inl rfl⟩)
       have HTT:=mj (mu iG ett);have HCAP:=mj hcap;obtain ⟨A,hA⟩:=zzN (zN a);obtain ⟨B,hB⟩:=zzN (zN (.mk rest));have HB:=mj hB;rw [hA] at C1 KX;rw [hB] at HRR KV;clear FS ml hF7 m_ hc tQ Lk iG ett nX p1 p2 hA hB hcap;go_wp2_with fail
       (with_reducible refine C1.out.mono ?_);rintro en w8 ⟨rfl,rK⟩
       have hF8:=(rK.cell (mx _ _ hFW)).trans hFW;have HB8:=mj rK;clear rK hFW hcW C1;have hTC:(B5=1/\∃ rc:Nat,rc=0/\Rep (w6.heap.size<=·) w7 (ke (.mk rest)) (.slice (some ⟨eb,eo,none⟩) rest.length rc))\/(¬ B5=1/\Rep (w6.heap.size<=·) w7 (ke (.mk rest)) (.slice (some ⟨eb,eo+1,none⟩) rest.length (B5-1))):=by
        by_cases h:B5=1
        ·exact .inl ⟨h,0,rfl,(HEnd.out h).2⟩
        ·exact .inr ⟨h,NC.out h⟩
       rcases hTC with ⟨GH,rc,FT,t_⟩ | ⟨GH,t_⟩
       all_goals (
        have CB:=mj (HRR.out _ t_ w8 (HB8.out.mono (by simp)));clear t_;try subst FT
        go_wp2_with fail
        (with_reducible refine CB.out.mono ?_)
        rintro en w9 ⟨rfl,rR⟩
        have H9:Hid (But (· = rd) w w9/\jB w9 rd (Q+1)):=mj (by
         have h1:But (· = rd) w (w7.alloc (.cells #[.slice (some ⟨eb,eo,none⟩) (rest.length+1) B5] 42))/\jB (w7.alloc (.cells #[.slice (some ⟨eb,eo,none⟩) (rest.length+1) B5] 42)) rd (Q+1):=⟨H7.out.1.alloc _,H7.out.2.alloc _⟩
         exact fA (fA h1 HB8.out) rR)
        have hlt9:=H9.out.2.lt;clear rR hF8 CB;go_wp2_with fail
        refine (gZ rd (Q+1) _ gt _ (H9.out.2.alloc _) (wK.new hlt9 gt 3 rfl _) (by decide) (by decide) (by have:=A_.out;omega)).mono ?_;rintro en lq ⟨x,hx,rfl,iZ,AH⟩;have l_:=name_len1 hx;have Hs:Hid (But (· = rd) w lq/\jB lq rd (Q+2)):=mj (mu ((H9.out.1.alloc _).trans iZ) AH);obtain ⟨O1,m1,a1⟩:=jE [40,108,97,109,32] x 6 (by simp;omega) (by omega);obtain ⟨O2,m2,a2⟩:=jE O1 [32] 7 (by simp;omega) (by omega);obtain ⟨O3,m3,a3⟩:=jE O2 A 97 (by omega) (by omega);obtain ⟨O4,m4,a4⟩:=jE O3 [32] 98 (by simp;omega) (by omega);clear hx iZ AH;have aX:=mj l_;clear l_;have srcN:zq 1 (.slice na ns.length nc) ns.length (ns.map str) lq:=(HRN.out.but Hs.out.1 HF.out).src;have srcT:zq 1 (.slice ta ns.length tc) ns.length (ts.map str) lq:=by
         have h:=(NG.out.but Hs.out.1 HF.out).src;rw [Hj.out] at h;exact h
        have SRC:=mj (mu srcN srcT);clear srcN srcT;go_wp2_with (at_builtin;refine zE rfl _ _ 50 rfl 9 (str []) 1 16 PW Tryz.infoStr rfl (by decide) (.slice (some ⟨lq.heap.size,0,none⟩) 0 0) 0 [] rfl ?c1 _ ns.length (ns.map str) rfl ?c2 ?c3 ?c4 ?_)
        case c1=>exact Own.litAt #[] 0 _ rfl (by decide) rfl
        case c2=>exact SRC.out.1.alloc _
        case c3=>unfold maxLen;omega
        case c4=>omega
        intro a11 c11 aP LI oH Mj;obtain ⟨Nf,Mr⟩:=vT (v':=.slice a11 ns.length c11) ((mw _ lq).alloc (my _) _) (p_ (my _)) oH (fun g h=>by rw [zK];exact Mj g h);have NA:=mj (mu LI (mu Nf Mr));clear LI oH Mj Nf Mr;go_wp2_with (at_builtin;refine zE rfl _ _ 50 rfl 9 (str []) 1 16 PW Tryz.infoStr rfl (by decide) (.slice a11 ns.length c11) ns.length (ns.map str) rfl ?c1 _ 1 [str x] rfl ?c2 ?c3 ?c4 ?_)
        case c1=>exact NA.out.1.keep fun g o _ ho=>zU ho
        case c2=>exact zq.lit rfl
        case c3=>unfold maxLen;omega
        case c4=>omega
        intro a12 c12 B4 AJ tW Mi;obtain ⟨Nd,Mq⟩:=vT (v':=.slice a12 (ns.length+1) c12) (NA.out.2.1.alloc NA.out.2.1.size _) NA.out.2.2 tW (fun g h=>by rw [zK];exact Mi g h);have Jt:=mj (mu AJ (mu Nd Mq));clear AJ tW Mi Nd Mq NA;go_wp2_with (at_builtin;refine zE rfl _ _ 50 rfl 9 (str []) 1 16 PW Tryz.infoStr rfl (by decide) (.slice (some ⟨B4.heap.size,0,none⟩) 0 0) 0 [] rfl ?c1 _ ns.length (ts.map str) rfl ?c2 ?c3 ?c4 ?_)
        case c1=>exact Own.litAt #[] 0 _ rfl (by decide) rfl
        case c2=>exact (SRC.out.2.belowAll Jt.out.2.1 (my _)).alloc _
        case c3=>unfold maxLen;omega
        case c4=>omega
        intro DF c13 w13 LH ER Mh;obtain ⟨Nc,Mp⟩:=vT (v':=.slice DF ns.length c13) (w:=B4) ((mw _ B4).alloc (my _) _) (p_ (my _)) ER (fun g h=>by rw [zK];exact Mh g h);have Nz:=mj (mu LH (mu Nc Mp));clear LH ER Mh Nc Mp;go_wp2_with (at_builtin;refine zE rfl _ _ 50 rfl 9 (str []) 1 16 PW Tryz.infoStr rfl (by decide) (.slice DF ns.length c13) ns.length (ts.map str) rfl ?c1 _ 1 [str A] rfl ?c2 ?c3 ?c4 ?_)
        case c1=>exact Nz.out.1.keep fun g o _ ho=>zU ho
        case c2=>exact zq.lit rfl
        case c3=>unfold maxLen;omega
        case c4=>omega
        intro a14 c14 JF LG MO Mg;obtain ⟨Gm,Mo⟩:=vT (v':=.slice a14 (ns.length+1) c14) (w:=B4) (Nz.out.2.1.alloc Nz.out.2.1.size _) Nz.out.2.2 MO (fun g h=>by rw [zK];exact Mg g h);have tY:But (· = rd) lq JF:=(But.ofBelow Jt.out.2.1).trans (But.ofBelow Gm);have rL:lq.heap.size<=B4.heap.size:=Jt.out.2.1.size;have LX:=Hs.out.2.lt;have rN:uH (·≠rd) JF (ns++[x]) (.slice a12 (ns.length+1) c12):=Own.strsRep (by rw [RB];exact Jt.out.1.keep fun g o _ ho=>by rw [Gm.block g (zZ ho)];exact ho) (by simp) (fun g hg=>by have:=Jt.out.2.2 g hg;omega);have rT:uH (·≠rd) JF (ts++[A]) (.slice a14 (ns.length+1) c14):=Own.strsRep (by rw [RB];exact LG) (by simp [Hj.out]) (fun g hg=>by have:=Mo g hg;omega);have H14:Hid (But (· = rd) w JF/\jB JF rd (Q+2)):=mj ⟨Hs.out.1.trans tY,Hs.out.2.below ((Jt.out.2.1).trans (Gm.mono rL))⟩
        have CL:=mj (HL.out HTQ.out.2 a rest (by rw [HTQ.out.1];exact HTT.out.1) (ns++[x]) (ts++[A]) _ _ (·≠rd) JF (Q+2) (by simp [Hj.out]) (by simp;omega) (fun y hy=>by
         rcases List.mem_append.1 hy with h | h
         ·exact Ko.out y h
         ·simp at h;subst h;exact aX.out) rN rT (fun i h=>h) H14.out.2 (by have:=A_.out;omega))
        rw [HB.out] at CL;clear LG MO Mg Gm Mo tY rL LX rN rT Jt Nz SRC;go_wp2_with fail
        (with_reducible refine CL.out.mono ?_)
        rintro en w15 ⟨s15,rfl,hs15,aM,lH⟩;have NV:Hid (But (· = rd) w w15/\jB w15 rd (Q+2+C')):=mj (mu (H14.out.1.trans aM) lH);obtain ⟨O5,m5,a5⟩:=jE O4 s15 (98+L') (by omega) (by omega);obtain ⟨O6,m6,a6⟩:=jE O5 [41] (99+L') (by simp;omega) (by omega);clear aM lH CL;go_wp2_with fail
        go_ret;have h1:=A_.out
        exact ⟨O6,rfl,by omega,NV.out.1,NV.out.2.mono (by omega)⟩)))
theorem l92_low (rd:Nat):∀ (n:Nat) (z:Int) (want:Bs) (N:Nat),n<=16->z<=-2->-500<=z-n->want.length<=2000->N+n<=90->((zI want).2=true->zJ (zI want).1<=n) ->
 DrawT rd N (110*(n+1)) (220*(n+1)) z want
 | 0,z,want,N,_,h1,h2,h3,h4,h5=>fm rd N 0 0 _ _ z want (by omega) (by omega) h3 (by omega)
  (fun h a rest e=>by have:=h5 h;have:=kg (zI want).1;omega) (fun h=>by omega) (by omega) (fun h=>by omega) (by omega) (fun h=>by omega) (by omega)
 | n + 1,z,want,N,h0,h1,h2,h3,h4,h5=>fm rd N (110*(n+1)) (220*(n+1)) _ _ z want (by omega) (by omega) h3 (by omega)
     (fun h a rest e=>by
      have h6:=h5 h;have h7:=vM h;have ett:(zI want).1=.mk (a::rest):=by cases hq:(zI want).1;rw [hq] at e;simp only [Ty.args] at e;rw [e]
      rw [ett,vQ] at h6 h7;have p1:=kg a;have nX:zJ (.mk rest)<=15:=by omega
      refine l92_low rd n (z-1) _ (N+1) (by omega) (by omega) (by omega) (by have:=xh nX;omega) (by omega) (fun _=>?_)
      rw [uN nX];show zJ (.mk rest)<=n;omega)
     (fun h=>by omega) (by omega) (fun h=>by omega) (by omega) (fun h=>by omega) (by omega)
def drC:Nat->Nat
 | 0=>1870
 | k+1=>3*drC k+110
def drL:Nat->Nat
 | 0=>3740
 | k+1=>3*drL k+220
theorem drC5:drC 5=467720:=by decide
theorem dr_le:∀ k,k<=5->drL k<=935440:=by
 intro k hk;have:k=0\/k=1\/k=2\/k=3\/k=4\/k=5:=by omega
 rcases this with rfl | rfl | rfl | rfl | rfl | rfl <;> decide
theorem ft (rd:Nat):∀ (k:Nat) (z:Int) (want:Bs) (N:Nat),k<=5->z<=(k:Int)-2->-100<=z->want.length+20*k<=1000->N+k<=50->DrawT rd N (drC k) (drL k) z want
 | 0,z,want,N,_,h1,h2,h3,h4=>l92_low rd 16 z want N (by omega) (by omega) (by omega) (by omega) (by omega) (fun h=>by have:=vM h;omega)
 | k+1,z,want,N,h0,h1,h2,h3,h4=>by
   by_cases hz : -2<z
   ·refine fm rd N (drC k) (drL k) _ _ z want (by omega) (by omega) (by omega) (by omega)
     (fun h a rest e=>?_) (fun _ want' hw=>ft rd k (z-1) want' (N+1) (by omega) (by omega) (by omega) (by omega) (by omega))
     (by rw [drC];omega) (fun _=>by rw [drC];omega) (by rw [drL];omega) (fun _=>by rw [drL];omega) (by have:=dr_le k (by omega);omega)
    have h7:=vM h;have ett:(zI want).1=.mk (a::rest):=by cases hq:(zI want).1;rw [hq] at e;simp only [Ty.args] at e;rw [e]
    rw [ett,vQ] at h7;have p1:=kg a;have nX:zJ (.mk rest)<=15:=by omega
    exact ft rd k (z-1) _ (N+1) (by omega) (by omega) (by omega) (by have:=xh nX;omega) (by omega)
   ·intro ns ts nv tv F w P g1 g2 g3 g4 g5 g6 g7 g8;have c:∀ k,1870<=drC k/\3740<=drL k:=by
     intro k
     induction k with
     | zero=>exact ⟨by decide,by decide⟩
     | succ k ih=>rw [drC,drL];omega
    have hc:=c (k+1);refine (l92_low rd 16 z want N (by omega) (by omega) (by omega) (by omega) (by omega) (fun h=>by have:=vM h;omega) ns ts nv tv F w P g1 g2 g3 g4 g5 g6 g7 (by omega)).mono ?_;rintro en w' ⟨s,e,hs,hb,hr⟩;exact ⟨s,e,by omega,hb,hr.mono (by omega)⟩
theorem l92Good_any (rd P:Nat) (s:Bs) (w:World) (hs:s.length<=100) (h:jB w rd P) (hP:P+1000000<=1099511627776) :
 Calls KD 29 #[.pointer (some ⟨rd,0,none⟩),str s] w (TermD rd (P+500000) 935440 w):=by
 have m_:=h.lt;have H:=mj h;clear h;go_enter Tryz.func29,Tryz.ntmps29;go_wp2_with fail
 refine (wR rd P 3 _ ((H.out.alloc _).alloc _) (by omega) (by omega) (by omega)).mono ?_;rintro en w1 ⟨v,rfl,hv,mi,sJ⟩;have zv:=wrap_one v hv;have hzv:1+(v:Int)<=3:=by omega
 have H1:Hid (But (· = rd) w w1/\jB w1 rd (P+1)):=mj ⟨(((But.refl _ w).alloc _).alloc _).trans mi,sJ⟩
 have C:Hid (Calls KD 63 #[.pointer (some ⟨rd,0,none⟩),.slice (some ⟨w.heap.size,0,none⟩) 0 0,.slice (some ⟨w.heap.size+1,0,none⟩) 0 0,str s,.int .i64 (1+(v:Int))] w1 (TermD rd (P+1+drC 5) (drL 5) w1)) :=
  mj (ft rd 5 (1+(v:Int)) s 0 (by omega) (by omega) (by omega) (by omega) (by omega) [] [] _ _ (fun _=>False) w1 (P+1) rfl (by simp) (by simp)
   (zg.2 ⟨rfl,_,_,rfl,my _,fun h=>by simp at h,.inl rfl⟩) (zg.2 ⟨rfl,_,_,rfl,my _,fun h=>by simp at h,.inl rfl⟩) (fun i h=>h.elim) H1.out.2 (by rw [drC5];omega))
 clear hv mi sJ hzv;go_wp2_with fail
 (with_reducible refine C.out.mono ?_)
 rintro en w2 ⟨t,rfl,ht,me,sS⟩;have H2:=mj (mu ht (mu (H1.out.1.trans me) sS));clear ht me sS;go_wp2_with fail
 go_ret;have e1:drC 5=467720:=by decide
 have e2:drL 5=935440:=by decide
 have h2:=H2.out;rw [e1,e2] at h2;exact ⟨t,rfl,h2.1,h2.2.1,h2.2.2.mono (by omega)⟩
def oddTm0:List Bs:=[[],[120],[40,97,112,112,32,116,32,116,41],[40,105,102,32,116,32,102,41],[40,108,97,109,32,120,32,98,32,121,41],[40,108,97,109,32,97,32,98,32,97,41],[40,105,102,32,40,108,97,109,32,120,32,98,32,120,41,32,116,32,102,41],[40,97,112,112,32,40,108,97,109,32,120,32,98,32,120,41,32,40,108,97,109,32,120,32,98,32,120,41,41],[116,32]]
def oddTm1:List Bs:=[[40,108,97,109,32,120,32,40,62,32,98,32,98,41,32,40,97,112,112,32,120,32,40,97,112,112,32,120,32,116,41,41,41],[40,108,97,109,32,120,32,98,32,40,105,102,32,120,32,102,32,116,41,41],[40,97,112,112,32,40,108,97,109,32,120,32,40,62,32,98,32,98,41,32,40,97,112,112,32,120,32,40,97,112,112,32,120,32,116,41,41,41,32,40,108,97,109,32,120,32,98,32,40,105,102,32,120,32,102,32,116,41,41,41],[40,108,97,109,32,120,32,40,62,32,40,62,32,98,32,98,41,32,98,41,32,40,97,112,112,32,120,32,40,108,97,109,32,121,32,98,32,40,97,112,112,32,120,32,40,108,97,109,32,122,32,98,32,121,41,41,41,41,41],[40,108,97,109,32,120,32,40,62,32,98,32,98,41,32,40,108,97,109,32,121,32,98,32,40,105,102,32,121,32,40,97,112,112,32,120,32,121,41,32,117,41,41,41],[40,105,102,32,40,97,112,112,32,40,108,97,109,32,120,32,98,32,120,41,32,116,41,32,40,108,97,109,32,120,32,98,32,120,41,32,40,108,97,109,32,120,32,98,32,102,41,41]]
theorem odd0_len {s:Bs} (h:s∈oddTm0):s.length<=100:=by
 simp only [oddTm0,Om,O0,or_false] at h;rcases h with rfl | rfl | rfl | rfl | rfl | rfl | rfl | rfl | rfl <;> decide
theorem odd1_len {s:Bs} (h:s∈oddTm1):s.length<=100:=by
 simp only [oddTm1,Om,O0,or_false] at h;rcases h with rfl | rfl | rfl | rfl | rfl | rfl <;> decide
theorem l92Odd_any (rd P:Nat) (w:World) (h:jB w rd P) (hP:P+1500000<=1099511627776) :
 Calls KD 10 #[.pointer (some ⟨rd,0,none⟩)] w (TermD rd (P+600000) 935440 w):=by
 go_enter Tryz.func10,Tryz.ntmps10;go_wp2_with fail
 refine (wR rd P 12 w h (by omega) (by omega) (by omega)).mono ?_;rintro en w1 ⟨v,rfl,hv,mi,sJ⟩;have m_:=sJ.lt;have H1:=mj (mu mi sJ);clear h mi sJ;have hc:v=0\/(v=1\/v=2)\/(((v:Int) == 0)=false/\((v:Int) == 1)=false/\((v:Int) == 2)=false):=by
  by_cases k0:v=0
  ·exact .inl k0
  by_cases KH:v=1\/v=2
  ·exact .inr (.inl KH)
  ·refine .inr (.inr ⟨?_,?_,?_⟩) <;> rw [beq_eq_false_iff_ne] <;> omega
 rcases hc with rfl | KH | ⟨Ac,As,Ct⟩
 ·go_wp2_with fail
  refine (gZ rd (P+1) _ oddTm0 _ (H1.out.2.alloc _) (wK.new m_ oddTm0 9 rfl _) (by decide) (by decide) (by omega)).mono ?_;rintro en w2 ⟨s,hs,rfl,me,sS⟩;have rz:=odd0_len hs;have H2:=mj (mu ((H1.out.1.alloc _).trans me) sS);clear hs me sS;go_wp2_with fail
  go_ret;exact ⟨s,rfl,by omega,H2.out.1,H2.out.2.mono (by omega)⟩
 ·rcases KH with rfl | rfl
  all_goals (
   go_wp2_with fail
   refine (gZ rd (P+1) _ oddTm1 _ (H1.out.2.alloc _) (wK.new m_ oddTm1 6 rfl _) (by decide) (by decide) (by omega)).mono ?_;rintro en w2 ⟨s,hs,rfl,me,sS⟩;have rz:=odd1_len hs;have H2:=mj (mu ((H1.out.1.alloc _).trans me) sS);clear hs me sS;go_wp2_with fail
   go_ret
   exact ⟨s,rfl,by omega,H2.out.1,H2.out.2.mono (by omega)⟩)
 ·clear hv;go_wp2_with fail
  refine (l91Type_any rd (P+1) w1 H1.out.2 (by omega)).mono ?_;rintro en w2 ⟨s,hs,rfl,me,sS⟩;have rz:=(type_ok hs).2;have H2:=mj (mu (H1.out.1.trans me) sS);clear hs me sS;go_wp2_with fail
  (with_reducible refine (l92Good_any rd (P+1+1) s w2 rz H2.out.2 (by omega)).mono ?_);rintro en w3 ⟨t,rfl,ht,nZ,ib⟩
  have H3:=mj (mu ht (mu (H2.out.1.trans nZ) ib));clear ht nZ ib;go_wp2_with fail
  go_ret;exact ⟨t,rfl,H3.out.1,H3.out.2.1,H3.out.2.2.mono (by omega)⟩
def DrawnT (w:World) (en:Ending) (w':World):Prop:=∃ s:Bs,en=.returned (str s)/\s.length<=1000000/\Below w.heap.size w w'
theorem gH (a0:Option Addr) (len cap:Nat) (zs:List Int) (w:World) (h:Row8 w a0 len cap zs) (hl:len<=1048576) :
 Calls KD 4 #[.slice a0 len cap] w (DrawnT w):=by
 go_enter Tryz.func4,Tryz.ntmps4;go_wp2_with fail
 refine (l6Open_any a0 len cap zs w h hl).mono ?_;rintro en w1 ⟨rfl,mi,sJ,_⟩;clear h;have nE:=mj mi;clear mi;go_wp2_with fail
 (with_reducible refine (l92Odd_any w.heap.size 0 w1 sJ (by omega)).mono ?_)
 rintro en w2 ⟨s,rfl,hs,me,sS⟩;have nF:=mj (mu (but_new nE.out (my _) me) hs);clear sJ sS hs me;go_wp2_with fail
 go_ret;exact ⟨s,rfl,by have:=nF.out.2;omega,nF.out.1⟩
theorem digs_ne:∀ r:Bs,r.all dig=true->(10:UInt8) ∉ r:=fun r h hm=>by
 have:=List.all_eq_true.1 h 10 hm;revert this;decide
theorem name_ne {x:Bs} (h:qv x=true):(10:UInt8) ∉ x:=by
 cases x with
 | nil=>simp
 | cons c r =>
   unfold qv at h;simp only [Bool.and_eq_true] at h;intro hm;rcases Om.1 hm with e | e
   ·subst e;revert h;simp
   ·exact digs_ne r h.2 e
theorem yE:∀ t:Tm,xY t->(10:UInt8) ∉ kJ t
 | .nm x,h=>by
   have:=name_ne h;unfold kJ;rw [kx,zu];exact this
 | .wd a,h=>by
   have h:jO a=true:=h;unfold kJ;rw [kx,zu];unfold jO at h;simp only [Bool.or_eq_true,beq_iff_eq] at h;rcases h with (rfl | rfl) | rfl <;> decide
 | .lam x k t,h=>by
   have h1:=name_ne h.1;have h2:=yE t h.2;have h3:=textT_ne k;rw [yF];simp [j_,h1,h2,h3]
 | .app a b,h=>by
   have h1:=yE a h.1;have h2:=yE b h.2;rw [yN];simp [vi,h1,h2]
 | .ite a b c,h=>by
   have h1:=yE a h.1;have h2:=yE b h.2.1;have h3:=yE c h.2.2;rw [yM];simp [ifW,h1,h2,h3]
structure MeanP (s out:Bs) (k:Ty) (b:Bd):Prop where
 mean:j9 s=some (k,b)
 out:out=kI b
 good:Good k b
 kind:bh s=some (zN k)
 ns:(10:UInt8) ∉ s
theorem mean_cases (s:Bs):pA s=none\/∃ out k b,pA s=some out/\MeanP s out k b:=by
 cases h:j9 s with
 | none=>exact .inl (by unfold pA;rw [h];rfl)
 | some x =>
   obtain ⟨k,b⟩:=x;refine .inr ⟨kI b,k,b,by unfold pA;rw [h];rfl,h,rfl,(xC h).2,by unfold bh;rw [(xC h).1];rfl,?_⟩;have h':=h;unfold j9 at h';simp only [Option.bind_eq_some_iff] at h';obtain ⟨t,h1,_⟩:=h';obtain ⟨e,ho,_⟩:=vh h1;rw [e];exact yE t ho
def pr (s:Bs):List Bs:=[[109,101,97,110]++32::s,[107,105,110,100],[115,104,111,119]]
def scrSM (k out:Bs):Nat->Bs×Bs
 | 0=>([98],[117])
 | _=>(k,out)
def fT (k out:Bs):Nat->Bs
 | 0=>[111,107]
 | 1=>k
 | _=>out
theorem scrM_join (s:Bs):vZ (pr s)=[109,101,97,110,32]++s++[10,107,105,110,100,10,115,104,111,119,10]:=by simp [vZ,pr]
theorem scrM_out (k x e:Bs):qN (fT k x) 3++e=[111,107,10]++k++[10]++x++[10]++e:=by simp [qN,fT]
theorem scriptM_any (s out:Bs) (k:Ty) (b:Bd) (w:World) (hg:yP w) (he:yW w) (hm:pO w) (h:MeanP s out k b) (hn:(vZ (pr s)).length<=900) :
 Calls KD 8 #[str (vZ (pr s))] w fun en w'=>en=.returned (str (qN (fT (zN k) out) 3++([110,111,100,101,115,32]++dec (zX b)++[10])))/\Below w.heap.size w w':=by
 have GY:=hn;rw [scrM_join] at GY;simp only [NZ,N5,OD] at GY;have ls:Lim s.length:=show _<=_ by omega
 have iB:out.length<=100000:=by
  have:=jk b h.good.lv;have:=h.good.size;rw [h.out];omega
 have nX:=h.good.atoms;have Eg:=jG 15 _ nX;have lo:Lim out.length:=show _<=_ by omega
 have lr:Lim (zN k).length:=show _<=_ by omega
 have hsz:=h.good.size;refine execute_any (pr s) (scrSM (zN k) out) (fT (zN k) out) (zX b) w hg hm ?_ hn rfl ?_ (by omega) ?_ ?_
 ·intro l hl;simp only [pr,Om,O0,or_false] at hl;rcases hl with rfl | rfl | rfl
  ·simp [h.ns]
  ·decide
  ·decide
 ·intro i _
  match i with
  | 0=>simp [fT]
  | 1=>simp only [fT];omega
  | n+2=>simp only [fT];omega
 ·intro i l hl g y hy hgg hd
  match i,hl,hd with
  | 0,hl,hd =>
    obtain rfl:_=l:=by simpa [pr] using hl
    refine line_mean g _ _ [111,107] (zN k) out _ s y hd (hm.below hy) (by simp;omega) (cut_at (l:=[109,101,97,110]) (r:=s) (by decide)) fun y' FI=>?_;have:=mean_deed g _ _ s (k,b) y' (hd.below FI) ((hg.below hy).below FI) ((he.below hy).below FI) ls h.mean;rw [<- h.out] at this;exact this
  | 1,hl,hd =>
    obtain rfl:_=l:=by simpa [pr] using hl
    exact line_kind g _ _ (zN k) (zN k) out _ [] y hd (hm.below hy) (by simp) (cut_none (by decide)) fun y' FI=>typed_deed g (zN k) out y' (hd.below FI)
  | 2,hl,hd =>
    obtain rfl:_=l:=by simpa [pr] using hl
    exact line_show g _ _ out (zN k) out _ [] y hd (hm.below hy) (by simp) (cut_none (by decide)) fun y' FI=>show_deed g (zN k) out y' (hd.below FI)
  | n+3,hl,_=>simp [pr] at hl
 ·intro y hy;refine (cm (zN k) out lr lo y (hg.below hy)).mono ?_;rintro en w2 ⟨rfl,me⟩;rw [h.out,ur h.good];exact ⟨rfl,me⟩
theorem ci (a0:Option Addr) (len cap:Nat) (zs:List Int) (w:World) (h8:Row8 w a0 len cap zs) (hg:yP w) (he:yW w) (hm:pO w) :
 Calls KD 3 #[.slice a0 len cap] w fun en w'=>en=.returned (.bool true)/\Below w.heap.size w w':=by
 by_cases hl:1048576<len
 ·have iU:(1048576:Int)<(len:Int):=by omega
  go_enter T9,TR;go_wp2_with fail
  go_ret;exact ⟨rfl,mw _ _⟩
 have iU:¬ (1048576:Int)<(len:Int):=by omega
 have CD:=mj (gH a0 len cap zs w h8 (by omega));have HG:=mj (mu hg (mu he hm));clear h8 hg he hm hl;go_enter T9,TR;go_wp2_with fail
 (with_reducible refine CD.out.mono ?_)
 rintro en w1 ⟨s,rfl,hs,mi⟩;have nE:=mj mi;clear mi CD;have ls:Lim s.length:=show _<=_ by omega
 have C1:=mj (gX s w1 (HG.out.1.below nE.out) (HG.out.2.1.below nE.out) ls);have C2:=mj (fun wz=>pg s wz ls);have C3:=mj (fun wz=>di s wz ls);have HP:=mj (mean_cases s);have Hl:=mj (fun out k b (h:MeanP s out k b) (hn:(vZ (pr s)).length<=900) (y:World) (hy:Below w.heap.size w y)=>scriptM_any s out k b y (HG.out.1.below hy) (HG.out.2.1.below hy) (HG.out.2.2.below hy) h hn);have e:dL s=pA s:=rfl;rw [e] at C2;obtain ⟨R,hR⟩:=zzN (pA s);rw [hR] at C1 C2 HP;clear ls hR e;go_wp2_with fail
 (with_reducible refine C1.out.mono ?_)
 rintro en w2 ⟨rfl,me⟩;have nF:=mj (zzT nE.out me);clear me C1;go_wp2_with fail
 (with_reducible refine (C2.out w2).mono ?_)
 rintro en w3 ⟨rfl,nZ⟩;have sg:=mj (zzT nF.out nZ);clear nZ C2;cases R with
 | none =>
   clear HP Hl C3 hs;simp only [Option.getD_none,OX];go_wp2_with fail
   go_ret;exact ⟨rfl,sg.out⟩
 | some out =>
   obtain ⟨out',k,b,h,hp⟩:=HP.out.resolve_left (by simp);obtain rfl:out=out':=by simpa using h
   have nX:=hp.good.atoms;have Eg:=jG 15 _ nX;have iB:out.length<=100000:=by
    have:=jk b hp.good.lv;have:=hp.good.size;rw [hp.out];omega
   have hsz:=hp.good.size;have lo:Lim out.length:=show _<=_ by omega
   have lr:Lim (zN k).length:=show _<=_ by omega
   have iu:(zN k).length<=100:=by omega
   have HX:=Hl.out out k b hp
   have CE:=fun (y:World) (hy:Below w.heap.size w y)=>endLine_any (zN k) out (zX b) (by omega) y fun y' FI=>(cm (zN k) out lr lo y' (HG.out.1.below (zzT hy FI))).mono (by
    rintro en w2 ⟨rfl,me⟩;rw [hp.out,ur hp.good]
    exact ⟨rfl,me⟩)
   have hE:([110,111,100,101,115,32]++dec (zX b)++[10]).length<=20:=by
    have:=vU 3 (zX b) (by omega);simp;omega
   rw [hp.kind] at C3;rw [scrM_out,scrM_join] at HX;obtain ⟨E,hEE⟩:∃ E:Bs,[110,111,100,101,115,32]++dec (zX b)++[10]=E:=⟨_,rfl⟩;rw [hEE] at HX CE hE;obtain ⟨K,hK⟩:=zzN (zN k);rw [hK] at HX CE C3 iu;clear hEE hK hp h nX Eg hsz lo lr HP Hl;have s1:=fun w0=>k9 (P:=KD) ([109,101,97,110,32]:Bs) s (by first | omega | (simp;omega)) w0;obtain ⟨A1,e1⟩:∃ A:Bs,[109,101,97,110,32]++s=A:=⟨_,rfl⟩;rw [e1] at s1 HX;have l1:A1.length<=3000100:=by rw [<- e1];simp;omega
   have s2:=fun w0=>k9 (P:=KD) A1 [10,107,105,110,100,10,115,104,111,119,10] (by first | omega | (simp;omega)) w0;obtain ⟨A2,e2⟩:∃ A:Bs,A1++[10,107,105,110,100,10,115,104,111,119,10]=A:=⟨_,rfl⟩;rw [e2] at s2 HX;have l2:A2.length<=3000200:=by rw [<- e2];simp;omega
   have r1:=fun w0=>k9 (P:=KD) ([111,107,10]:Bs) K (by first | omega | (simp;omega)) w0;obtain ⟨O1,f1⟩:∃ A:Bs,[111,107,10]++K=A:=⟨_,rfl⟩;rw [f1] at r1 HX;have m1:O1.length<=200:=by rw [<- f1];simp;omega
   have r2:=fun w0=>k9 (P:=KD) O1 [10] (by first | omega | (simp;omega)) w0;obtain ⟨O2,f2⟩:∃ A:Bs,O1++[10]=A:=⟨_,rfl⟩;rw [f2] at r2 HX;have m2:O2.length<=300:=by rw [<- f2];simp;omega
   have r3:=fun w0=>k9 (P:=KD) O2 out (by first | omega | (simp;omega)) w0;obtain ⟨O3,f3⟩:∃ A:Bs,O2++out=A:=⟨_,rfl⟩;rw [f3] at r3 HX;have m3:O3.length<=100400:=by rw [<- f3];simp;omega
   have r4:=fun w0=>k9 (P:=KD) O3 [10] (by first | omega | (simp;omega)) w0;obtain ⟨O4,f4⟩:∃ A:Bs,O3++[10]=A:=⟨_,rfl⟩;rw [f4] at r4 HX;have m4:O4.length<=100500:=by rw [<- f4];simp;omega
   have r5:=fun w0=>k9 (P:=KD) O4 E (by first | omega | (simp;omega)) w0;obtain ⟨O5,f5⟩:∃ A:Bs,O4++E=A:=⟨_,rfl⟩;rw [f5] at r5 HX;have m5:O5.length<=100600:=by rw [<- f5];simp;omega
   have HCX:=mj HX;have HCE:=mj CE;clear HX CE e1 l1 e2 l2 f1 m1 f2 m2 f3 m3 f4 m4 f5 m5 hE iB iu hs;simp only [OW,OK] at C3;simp only [OW,OK];have e0:(out != out)=false:=by simp
   go_wp2_with fail
   (with_reducible refine (C3.out w3).mono ?_);rintro en w4 ⟨rfl,nS⟩
   have oR:=mj (zzT sg.out nS);clear nS C3;by_cases hn:A2.length<=900
   ·have GY:¬ (900:Int)<(A2.length:Int):=by omega
    have HE:=mj (HCX.out hn);clear HCX;go_wp2_with fail
    (with_reducible refine (HE.out _ oR.out).mono ?_);rintro en w5 ⟨rfl,nR⟩
    have oM:=mj (zzT oR.out nR);clear nR HE;go_wp2_with fail
    (with_reducible refine (HCE.out _ oM.out).mono ?_);rintro en w6 ⟨rfl,nJ⟩
    have rY:=mj (zzT oM.out nJ);clear nJ HCE;go_wp2_with fail
    go_ret;exact ⟨rfl,rY.out⟩
   ·have GY:(900:Int)<(A2.length:Int):=by omega
    clear HCX HCE;go_wp2_with fail
    go_ret;exact ⟨rfl,oR.out⟩
end Go.Proofs.YtpgiohmcggllgaaGreatDoor

import Derived.Test.YtapjaflnmklmeaaGreatDoorB25
import Derived.Test.YtapjaflnmklmeaaGreatDoorB14
/- The walks of the reference's l5Closed, TermType, TermStrategy and TermAlike. -/
namespace Go.Proofs.YtapjaflnmklmeaaGreatDoor
open Go.RowKit
def clOf (s:Bs):Option (Tm×Ty):=(implTerm s).bind fun t=>(typeOf [] t).map fun k=>(t,k)
def ClPost (w:World) (o:Option (Tm×Ty)) (en:Ending) (w':World):Prop :=
 ∃ (s1:Bs) (a:Option Addr) (n c:Nat) (ka:Option Addr) (kn kc:Nat),en=.returned (.tuple #[.agg #[str s1,.slice a n c],.agg #[.slice ka kn kc],.bool o.isSome])∧Below w.heap.size w w' ∧
   ∀ t k,o=some (t,k)→(okTm t∧smallTm t=true∧sizeTm t≤60∧typeOf [] t=some k∧kn=k.args.length)∧Reps (w.heap.size≤·) w' (encTr (trTm t)) [str s1,.slice a n c]∧Rep (w.heap.size≤·) w' (encS k) (.slice ka kn kc)
theorem clOf_none {s:Bs} (h:specTerm s=none):clOf s=none:=by
 rw [term_eq] at h
 unfold clOf
 cases hq:implTerm s with
 | none=>rfl
 | some t =>
   rw [hq] at h
   simp only [Option.bind_some] at h ⊢
   cases hk:typeOf [] t with
   | none=>rfl
   | some k=>rw [type_all t [] k hk] at h;simp at h
theorem clOf_some {s:Bs} {tr:Tr} (h:specTerm s=some tr):∃ t,tr=trTm t∧okTm t∧sizeTm t≤60∧smallTm t=true∧clOf s=if (kindR [] t).2=true then some (t,(kindR [] t).1) else none:=by
 obtain ⟨t,e,rfl,ho,h6,hs⟩:=specTerm_some h
 refine ⟨t,e,ho,h6,hs,?_⟩
 unfold clOf
 rw [implTerm_text ho h6,Option.bind_some,kindR_eq t [] hs]
 split <;> rfl
theorem two_stores {w:World} {g1 g2:Nat} {x0 x1 x2:Value} {TA TB:TypeId} (h1:w.heap[g1]? = some (.cells #[x0,x1] TA (0,0))) (h2:w.heap[g2]? = some (.cells #[x2] TB (0,0))) (hne:g1≠g2) (u0 u1 u2:Value) :
 ∃ W,W=(((w.setCell ⟨g1,0,none⟩ u0).setCell ⟨g1,1,none⟩ u1).setCell ⟨g2,0,none⟩ u2)∧W.cell? ⟨g1,0,none⟩=some u0∧W.cell? ⟨g1,1,none⟩=some u1∧W.cell? ⟨g2,0,none⟩=some u2 ∧
   (∀ B w0,Below B w0 w→B≤g1→B≤g2→Below B w0 W)∧(∀ i x,i≠g1→i≠g2→w.heap[i]? = some x→W.heap[i]? = some x):=by
 have hc2:((w.setCell ⟨g1,0,none⟩ u0).setCell ⟨g1,1,none⟩ u1).heap[g2]? = some (.cells #[x2] TB (0,0)):=by
  rw [Below.heap_setCell _ _ _ _ (by simpa using Ne.symm hne),Below.heap_setCell _ _ _ _ (by simpa using Ne.symm hne)];exact h2
 have hc3:(((w.setCell ⟨g1,0,none⟩ u0).setCell ⟨g1,1,none⟩ u1).setCell ⟨g2,0,none⟩ u2).heap[g2]? = some (.cells #[u2] TB (0,0)):=by rw [setCell_at' hc2];rfl
 have hc1:(((w.setCell ⟨g1,0,none⟩ u0).setCell ⟨g1,1,none⟩ u1).setCell ⟨g2,0,none⟩ u2).heap[g1]? = some (.cells #[u0,u1] TA (0,0)):=by
  rw [Below.heap_setCell _ _ _ _ (by simpa using hne),setCell_at' (setCell_at' h1)];rfl
 refine ⟨_,rfl,by simp only [World.cell?,hc1];rfl,by simp only [World.cell?,hc1];rfl,by simp only [World.cell?,hc3];rfl,fun B w0 hb hB hB2=>?_,fun i x hi hi2 hx=>?_⟩
 ·exact ((hb.setCell (p:=⟨g1,0,none⟩) hB _).setCell (p:=⟨g1,1,none⟩) hB _).setCell (p:=⟨g2,0,none⟩) hB2 _
 ·rw [Below.heap_setCell _ _ _ _ (by simpa using hi2),Below.heap_setCell _ _ _ _ (by simpa using hi),Below.heap_setCell _ _ _ _ (by simpa using hi)];exact hx
theorem heap2_set {w:World} {g c:Nat} {x:Obj} (h:w.heap[g]? = some x) (hg:g≠c) (u0 u1:Value):((w.setCell ⟨c,0,none⟩ u0).setCell ⟨c,1,none⟩ u1).heap[g]? = some x:=by
 rw [Below.heap_setCell _ _ _ _ (by simpa using hg),Below.heap_setCell _ _ _ _ (by simpa using hg)];exact h
theorem heap1_set {w:World} {g c:Nat} {x:Obj} (h:w.heap[g]? = some x) (hg:g≠c) (u0:Value):(w.setCell ⟨c,0,none⟩ u0).heap[g]? = some x:=by
 rw [Below.heap_setCell _ _ _ _ (by simpa using hg)];exact h
theorem boxes2 (w:World) (A B:Obj):Below w.heap.size w ((w.alloc A).alloc B)∧((w.alloc A).alloc B).heap.size=w.heap.size+1+1∧((w.alloc A).alloc B).heap[w.heap.size]? = some A∧((w.alloc A).alloc B).heap[w.heap.size+1]? = some B:=by
 refine ⟨((Below.refl _ _).alloc (Nat.le_refl _) _).alloc (by rw [size_alloc];omega) _,by rw [size_alloc,size_alloc],heap_past (heap_new _ _),?_⟩
 have h:=heap_new (w.alloc A) B
 rwa [size_alloc] at h
set_option maxRecDepth 100000 in
set_option maxHeartbeats 4000000 in
theorem l5Closed_any (s:Bs) (w:World) (hs:Lim s.length):Calls Tryz.prog 9 #[str s] w (ClPost w (clOf s)):=by
 obtain ⟨W0,hW0⟩:∃ W,W=(w.alloc (.cells #[str [],.slice none 0 0] 28)).alloc (.cells #[.slice none 0 0] 31):=⟨_,rfl⟩
 obtain ⟨hb0,z0,bA,bB⟩:=boxes2 w (.cells #[str [],.slice none 0 0] 28) (.cells #[.slice none 0 0] 31)
 rw [← hW0] at hb0 z0 bA bB
 have C0:=Lib.hid (l5Term_any s hs W0)
 have H0:=Lib.hid (And.intro hb0 (And.intro z0 (And.intro bA bB)))
 clear hs hb0 z0 bA bB
 go_enter Tryz.func9,Tryz.ntmps9
 go_wp2_with fail
 rw [← hW0]
 clear hW0
 (with_reducible refine C0.out.mono ?_)
 rintro en w1 ⟨s5,a5,n5,c5,rfl,hb1,hr1⟩
 obtain ⟨W1,hW1⟩:∃ W,W=w1.alloc (.cells #[str s5,.slice a5 n5 c5] 28):=⟨_,rfl⟩
 obtain ⟨g1,hg1⟩:∃ g,g=w1.heap.size:=⟨_,rfl⟩
 have z1:=hb1.size
 have hbW1:Below W0.heap.size W0 W1:=by rw [hW1];exact hb1.alloc hb1.size _
 have zW1:W1.heap.size=g1+1:=by rw [hW1,size_alloc,hg1]
 have b1:W1.heap[g1]? = some (.cells #[str s5,.slice a5 n5 c5] 28 (0,0)):=by rw [hW1,hg1];exact heap_new _ _
 have q1:w.heap.size+1<g1:=by have:=H0.out.2.1;omega
 have bA1:W1.heap[w.heap.size]? = some (.cells #[str [],.slice none 0 0] 28 (0,0)):=(hbW1.block _ (lt_of_heap H0.out.2.2.1)).trans H0.out.2.2.1
 have bB1:W1.heap[w.heap.size+1]? = some (.cells #[.slice none 0 0] 31 (0,0)):=(hbW1.block _ (lt_of_heap H0.out.2.2.2)).trans H0.out.2.2.2
 have hr1':∀ t,specTerm s=some t→Reps (fun i=>W0.heap.size≤i∧i≠g1) W1 (encTr t) [str s5,.slice a5 n5 c5]:=fun t ht=>by
  refine (Rep.keep fun i x hi hx=>⟨⟨hi,fun e'=>?_⟩,?_⟩).2 _ _ (hr1 t ht).2
  ·rw [hW1];exact heap_past hx
  ·have:=lt_of_heap hx;omega
 have bA0:w1.heap[w.heap.size]? = some (.cells #[str [],.slice none 0 0] 28 (0,0)):=(hb1.block _ (lt_of_heap H0.out.2.2.1)).trans H0.out.2.2.1
 have bB0:w1.heap[w.heap.size+1]? = some (.cells #[.slice none 0 0] 31 (0,0)):=(hb1.block _ (lt_of_heap H0.out.2.2.2)).trans H0.out.2.2.2
 have rA0:w1.cell? ⟨w.heap.size,0,none⟩=some (str []):=by simp [World.cell?,bA0]
 have rA1:w1.cell? ⟨w.heap.size,1,none⟩=some (.slice none 0 0):=by simp [World.cell?,bA0]
 have rB0:w1.cell? ⟨w.heap.size+1,0,none⟩=some (.slice none 0 0):=by simp [World.cell?,bB0]
 have fA0:w1.frozen? ⟨w.heap.size,0,none⟩=false:=by simp [World.frozen?,bA0]
 have fA1:w1.frozen? ⟨w.heap.size,1,none⟩=false:=by simp [World.frozen?,bA0]
 have fB0:w1.frozen? ⟨w.heap.size+1,0,none⟩=false:=by simp [World.frozen?,bB0]
 have hA0:(w1.alloc (.cells #[str s5,.slice a5 n5 c5] 28)).frozen? ⟨w.heap.size,0,none⟩=false:=(frozen?_alloc_cells _ _ _ _).trans fA0
 have hA1:(w1.alloc (.cells #[str s5,.slice a5 n5 c5] 28)).frozen? ⟨w.heap.size,1,none⟩=false:=(frozen?_alloc_cells _ _ _ _).trans fA1
 have hB0:(w1.alloc (.cells #[str s5,.slice a5 n5 c5] 28)).frozen? ⟨w.heap.size+1,0,none⟩=false:=(frozen?_alloc_cells _ _ _ _).trans fB0
 have iA0:(w1.alloc (.cells #[str s5,.slice a5 n5 c5] 28)).cell? ⟨w.heap.size,0,none⟩=some (str []):=cell_alloc rA0
 have iA1:(w1.alloc (.cells #[str s5,.slice a5 n5 c5] 28)).cell? ⟨w.heap.size,1,none⟩=some (.slice none 0 0):=cell_alloc rA1
 have iB0:(w1.alloc (.cells #[str s5,.slice a5 n5 c5] 28)).cell? ⟨w.heap.size+1,0,none⟩=some (.slice none 0 0):=cell_alloc rB0
 have HW1:=Lib.hid (And.intro hbW1 (And.intro zW1 (And.intro b1 (And.intro q1 (And.intro bA1 (And.intro bB1 hr1'))))))
 have HG1:=Lib.hid hg1;have HQ1:=Lib.hid hW1
 clear hb1 hr1 z1 hbW1 zW1 b1 q1 bA1 bB1 bA0 bB0 hr1' C0 hg1 hW1
 cases ht:specTerm s with
 | none =>
   have HC:=Lib.hid (clOf_none ht)
   clear ht
   simp only [Option.isSome_none]
   go_wp2_with fail
   rw [← HQ1.out,← HG1.out]
   obtain ⟨W,hW,s0,s1,s2,hbW,hkW⟩:=two_stores HW1.out.2.2.2.2.1 HW1.out.2.2.2.2.2.1 (by omega) (str s5) (.slice a5 n5 c5) (.slice none 0 0)
   rw [← hW]
   refine bodyPost_ret (v:=.tuple #[.agg #[str s5,.slice a5 n5 c5],.agg #[.slice none 0 0],.bool false]) (by simp [results,Tryz.results9,go_sem,s0,s1,s2]) rfl ?_
   rw [HC.out]
   exact ⟨_,_,_,_,_,_,_,rfl,hbW _ _ (H0.out.1.trans (HW1.out.1.mono H0.out.1.size)) (Nat.le_refl _) (Nat.le_succ _),fun t k h=>by simp at h⟩
 | some tr =>
   obtain ⟨t,rfl,hok,h60,hsm,hcl⟩:=clOf_some ht
   have hrt:=HW1.out.2.2.2.2.2.2 _ ht
   have CK:=Lib.hid (l5Kind_any 100 (fun i=>W0.heap.size≤i∧i<W1.heap.size∧i≠g1) t [] (.slice none 0 0) (.slice none 0 0) _ _ W1 (by omega) ⟨fun i h=>h.2.1,(Rep.keep fun i x hi hx=>⟨⟨hi.1,lt_of_heap hx,hi.2⟩,hx⟩).2 _ _ hrt,Rep_sl.2 ⟨rfl,none,0,rfl,Nat.le_refl _,fun _=>rfl,.inl rfl⟩,Rep_sl.2 ⟨by simp [kinds,encSs],none,0,rfl,Nat.le_refl _,fun _=>rfl,.inl rfl⟩,hok,hsm,(fun p h=>by simp at h),(fun a h=>by simp [kinds] at h),by simp;omega⟩)
   have HC:=Lib.hid (And.intro hok (And.intro hsm (And.intro h60 (And.intro hcl (And.intro hrt (@kindR_some t [] hsm))))))
   obtain ⟨k,q,hkq⟩:∃ k q,kindR [] t=(k,q):=⟨_,_,rfl⟩
   rw [hkq] at CK HC
   clear ht hok h60 hsm hcl hrt hkq
   simp only [Option.isSome_some]
   go_wp2_with fail
   rw [← HQ1.out,← HG1.out]
   clear HQ1 HG1
   (with_reducible refine CK.out.mono ?_)
   rintro en w2 ⟨ka,kc,rfl,hb2,hr2⟩
   obtain ⟨W2,hW2⟩:∃ W,W=w2.alloc (.cells #[.slice ka k.args.length kc] 31):=⟨_,rfl⟩
   obtain ⟨g2,hg2⟩:∃ g,g=w2.heap.size:=⟨_,rfl⟩
   have z2:=hb2.size
   have zz1:=HW1.out.2.1
   have qq1:=HW1.out.2.2.2.1
   have hbW2:Below W1.heap.size W1 W2:=by rw [hW2];exact hb2.alloc hb2.size _
   have hbw2:Below w.heap.size w W2:=(H0.out.1.trans (HW1.out.1.mono H0.out.1.size)).trans (hbW2.mono (H0.out.1.trans (HW1.out.1.mono H0.out.1.size)).size)
   have b2:W2.heap[g2]? = some (.cells #[.slice ka k.args.length kc] 31 (0,0)):=by rw [hW2,hg2];exact heap_new _ _
   have b1':W2.heap[g1]? = some (.cells #[str s5,.slice a5 n5 c5] 28 (0,0)):=(hbW2.block _ (lt_of_heap HW1.out.2.2.1)).trans HW1.out.2.2.1
   have bA2:W2.heap[w.heap.size]? = some (.cells #[str [],.slice none 0 0] 28 (0,0)):=(hbW2.block _ (lt_of_heap HW1.out.2.2.2.2.1)).trans HW1.out.2.2.2.2.1
   have bB2:W2.heap[w.heap.size+1]? = some (.cells #[.slice none 0 0] 31 (0,0)):=(hbW2.block _ (lt_of_heap HW1.out.2.2.2.2.2.1)).trans HW1.out.2.2.2.2.2.1
   have z0':=H0.out.2.1
   have hrt2:Reps (fun i=>w.heap.size+1<i) W2 (encTr (trTm t)) [str s5,.slice a5 n5 c5]:=(Reps.below (F':=fun i=>W0.heap.size≤i∧i≠g1) hbW2 (fun _ h=>h) HC.out.2.2.2.2.1).weakS fun i h=>by have:=h.1;omega
   have hrk2:Rep (fun i=>w.heap.size+1<i) W2 (encS k) (.slice ka k.args.length kc):=(Rep.keep fun i x hi hx=>⟨(by rcases hi with h | h;have:=h.1;omega;omega),by rw [hW2];exact heap_past hx⟩).1 _ _ hr2
   have HW2:=Lib.hid (And.intro hbw2 (And.intro b2 (And.intro b1' (And.intro bA2 (And.intro bB2 (And.intro hrt2 hrk2))))))
   have qA0:W2.cell? ⟨w.heap.size,0,none⟩=some (str []):=by simp [World.cell?,bA2]
   have qA1:W2.cell? ⟨w.heap.size,1,none⟩=some (.slice none 0 0):=by simp [World.cell?,bA2]
   have qB0:W2.cell? ⟨w.heap.size+1,0,none⟩=some (.slice none 0 0):=by simp [World.cell?,bB2]
   have eA0:W2.frozen? ⟨w.heap.size,0,none⟩=false:=by simp [World.frozen?,bA2]
   have eA1:W2.frozen? ⟨w.heap.size,1,none⟩=false:=by simp [World.frozen?,bA2]
   have eB0:W2.frozen? ⟨w.heap.size+1,0,none⟩=false:=by simp [World.frozen?,bB2]
   have ne2:g1≠w.heap.size:=by omega
   have ne3:g1≠w.heap.size+1:=by omega
   have ne4:g2≠w.heap.size:=by omega
   have ne5:g2≠w.heap.size+1:=by omega
   clear hb2 hr2 z2 hbW2 hbw2 b2 b1' bA2 bB2 hrt2 hrk2 CK rA0 rA1 rB0 fA0 fA1 fB0 hA0 hA1 hB0 iA0 iA1 iB0 qq1 zz1 z0'
   go_wp2_with fail
   rw [← hW2,← hg2]
   clear hW2 hg2
   refine wp_region_noPanic ?_
   refine wp_region_S (fun w'=>w'.heap[g1]? = some (.cells #[str s5,.slice a5 n5 c5] 28 (0,0))∧w'.heap[g2]? = some (.cells #[.slice ka k.args.length kc] 31 (0,0))) (fun _=>false) (by kernel_rfl) ?_
   have hSd:(fun w'=>w'.heap[g1]? = some (.cells #[str s5,.slice a5 n5 c5] 28 (0,0))∧w'.heap[g2]? = some (.cells #[.slice ka k.args.length kc] 31 (0,0))) W2.drew:=⟨HW2.out.2.2.1,HW2.out.2.1⟩
   refine tk [0] hSd ?_
   (intro d hd;simp [tkD] at hd;subst hd;simp only [tks,pQ,pZ,pS])
   (refine ⟨?_,?_,?_⟩;rotate_left;· (intro oi ho;simp at ho;subst ho;refine Or.inl ⟨by rfl,fun w' hw'=>?_⟩;have e0:w'.cell? ⟨g1,0,none⟩=some (str s5):=(by simp [World.cell?,hw'.1]);have e1:w'.cell? ⟨g1,1,none⟩=some (.slice a5 n5 c5):=(by simp [World.cell?,hw'.1]);go_simp;try with_reducible rfl))
   refine tk [1,2] hSd ?_
   (intro d hd;simp [tkD] at hd;subst hd;simp only [tks,pQ,pZ,pS])
   iterate 2 (refine ⟨?_,?_,?_⟩;rotate_left;· (intro oi ho;simp at ho;subst ho;refine Or.inl ⟨by rfl,fun w' hw'=>?_⟩;have e0:w'.cell? ⟨g2,0,none⟩=some (.slice ka k.args.length kc):=(by simp [World.cell?,hw'.2]);go_simp;try with_reducible rfl))
   (refine on 3 ?_;intro o ho K' hK;simp at ho;subst ho;go_simp)
   (refine hK.out _ _ (fun _=>⟨heap2_set hSd.1 ne2 _ _,heap2_set hSd.2 ne4 _ _⟩) ?_;clear hK K';try simp only [pQ,pN,pZ,pS])
   (refine on 4 ?_;intro o ho K' hK;simp at ho;subst ho;go_simp)
   (refine hK.out _ _ (fun _=>⟨heap1_set (heap2_set hSd.1 ne2 _ _) ne3 _,heap1_set (heap2_set hSd.2 ne4 _ _) ne5 _⟩) ?_;clear hK K';try simp only [pQ,pN,pZ,pS])
   (refine on 5 ?_;intro o ho K' hK;simp at ho;subst ho;go_simp)
   (refine hK.out _ _ (fun _=>⟨heap1_set (heap2_set hSd.1 ne2 _ _) ne3 _,heap1_set (heap2_set hSd.2 ne4 _ _) ne5 _⟩) ?_;clear hK K';try simp only [pQ,pN,pZ,pS])
   refine wpAnyS_done (by kernel_rfl) (NoPanic.normal ?_) _
   go_wp2_with fail
   obtain ⟨W,hW,s0,s1,s2,hbW,hkW⟩:=@two_stores W2 _ _ _ _ _ _ _ HW2.out.2.2.2.1 HW2.out.2.2.2.2.1 (by omega) (str s5) (.slice a5 n5 c5) (.slice ka k.args.length kc)
   rw [← hW]
   refine bodyPost_ret (v:=.tuple #[.agg #[str s5,.slice a5 n5 c5],.agg #[.slice ka k.args.length kc],.bool q]) (by simp [results,Tryz.results9,go_sem,s0,s1,s2]) rfl ?_
   have hq:q=(clOf s).isSome:=by rw [HC.out.2.2.2.1];cases q <;> rfl
   rw [hq]
   refine ⟨_,_,_,_,_,_,_,rfl,Below.drew (hbW _ _ HW2.out.1 (Nat.le_refl _) (Nat.le_add_right _ _)),fun t' k' h=>?_⟩
   have h':=HC.out.2.2.2.1
   rw [h] at h'
   cases hqq:q with
   | false=>rw [hqq] at h';simp at h'
   | true =>
     rw [hqq] at h'
     simp only [if_true,Option.some.injEq,Prod.mk.injEq] at h'
     obtain ⟨rfl,rfl⟩:=h'
     have KP:∀ i x,w.heap.size+1<i→W2.heap[i]? = some x→w.heap.size≤i∧W.drew.heap[i]? = some x:=fun i x hi hx=>⟨by omega,hkW i x (by omega) (by omega) hx⟩
     exact ⟨⟨HC.out.1,HC.out.2.1,HC.out.2.2.1,HC.out.2.2.2.2.2 hqq,rfl⟩,(Rep.keep KP).2 _ _ HW2.out.2.2.2.2.2.1,(Rep.keep KP).1 _ _ HW2.out.2.2.2.2.2.2⟩
end Go.Proofs.YtapjaflnmklmeaaGreatDoor
namespace Go.Proofs.YtapjaflnmklmeaaGreatDoor
open Go.RowKit
def kindTx (s:Bs):Option Bs:=(clOf s).map fun x=>textT x.2
def stratR (s:Bs):Option Bs:=(meaning s).map fun x=>textB x.2
theorem strat_cl (s:Bs):stratR s=(clOf s).bind fun x=>wrOf x.2 (meanOf [] x.1):=by
 unfold stratR meaning clOf wrOf
 cases hq:implTerm s with
 | none=>rfl
 | some t =>
   obtain ⟨_,ho,_⟩:=implTerm_some hq
   simp only [Option.bind_some]
   cases hk:typeOf [] t with
   | none=>rfl
   | some k =>
     simp only [Option.bind_some,Option.map_some]
     cases hb:meanOf [] t with
     | none=>rfl
     | some b =>
       simp only [Option.bind_some,Option.map_some]
       rw [specStrat_of_good (mean_closed ho hk hb)];rfl
set_option maxRecDepth 20000 in
set_option maxHeartbeats 2000000 in
theorem specTermType_any (s:Bs) (w:World) (hs:Lim s.length):Calls Tryz.prog 14 #[str s] w (TxtPost (kindTx s) w):=by
 have C0:=Lib.hid (l5Closed_any s w hs)
 clear hs
 go_enter Tryz.func14,Tryz.ntmps14
 go_wp2_with fail
 (with_reducible refine C0.out.mono ?_)
 rintro en w1 ⟨s5,a5,n5,c5,ka,kn,kc,rfl,hb1,hy⟩
 obtain ⟨W,hW⟩:∃ W,W=(w1.alloc (.cells #[str s5,.slice a5 n5 c5] 28)).alloc (.cells #[.slice ka kn kc] 31):=⟨_,rfl⟩
 have hbW1:Below w1.heap.size w1 W:=by rw [hW];exact ((Below.refl _ _).alloc (Nat.le_refl _) _).alloc (by rw [size_alloc];omega) _
 have hbW:=hb1.trans (hbW1.mono hb1.size)
 cases hc:clOf s with
 | none =>
   have HK:=Lib.hid (show kindTx s=none by unfold kindTx;rw [hc];rfl)
   have HB:=Lib.hid hbW
   have HW:=Lib.hid hW
   clear hc hy hb1 hbW1 hbW hW C0
   simp only [Option.isSome_none]
   go_wp2_with fail
   rw [← HW.out]
   go_ret2
   exact ⟨by rw [HK.out];rfl,HB.out⟩
 | some x =>
   obtain ⟨t,k⟩:=x
   obtain ⟨⟨ho,hsm,h60,hk,rfl⟩,hrt,hrk⟩:=hy t k hc
   have h15:=type_small t [] k (by simp [kinds]) hk
   have HK:=Lib.hid (show kindTx s=some (textT k) by unfold kindTx;rw [hc];rfl)
   have CT:=Lib.hid (l1Text_any 15 k h15 (by omega) _ W _ (Rep.below (F':=(w.heap.size≤·)) hbW1 (fun _ h=>h) hrk))
   have HB:=Lib.hid hbW
   have HW:=Lib.hid hW
   clear hc hy hb1 hbW1 hbW hW C0 ho hsm h60 hk hrt hrk h15
   simp only [Option.isSome_some]
   go_wp2_with fail
   rw [← HW.out]
   (with_reducible refine CT.out.mono ?_)
   rintro en w2 ⟨rfl,hb2⟩
   have HB2:=Lib.hid (HB.out.trans (hb2.mono HB.out.size))
   clear hb2
   go_wp2_with fail
   go_ret2
   exact ⟨by rw [HK.out];rfl,HB2.out⟩
set_option maxRecDepth 20000 in
set_option maxHeartbeats 2000000 in
theorem specTermStrategy_any (s:Bs) (w:World) (hs:Lim s.length):Calls Tryz.prog 5 #[str s] w (TxtPost (stratR s) w):=by
 have C0:=Lib.hid (l5Closed_any s w hs)
 clear hs
 go_enter Tryz.func5,Tryz.ntmps5
 go_wp2_with fail
 (with_reducible refine C0.out.mono ?_)
 rintro en w1 ⟨s5,a5,n5,c5,ka,kn,kc,rfl,hb1,hy⟩
 obtain ⟨W,hW⟩:∃ W,W=(w1.alloc (.cells #[str s5,.slice a5 n5 c5] 28)).alloc (.cells #[.slice ka kn kc] 31):=⟨_,rfl⟩
 have hbW1:Below w1.heap.size w1 W:=by rw [hW];exact ((Below.refl _ _).alloc (Nat.le_refl _) _).alloc (by rw [size_alloc];omega) _
 have hbW:=hb1.trans (hbW1.mono hb1.size)
 have HSC:=Lib.hid (strat_cl s)
 cases hc:clOf s with
 | none =>
   have HK:=Lib.hid (show stratR s=none by rw [HSC.out,hc];rfl)
   have HB:=Lib.hid hbW
   have HW:=Lib.hid hW
   clear hc hy hb1 hbW1 hbW hW C0 HSC
   simp only [Option.isSome_none]
   go_wp2_with fail
   rw [← HW.out]
   go_ret2
   exact ⟨by rw [HK.out];rfl,HB.out⟩
 | some x =>
   obtain ⟨t,k⟩:=x
   obtain ⟨⟨ho,hsm,h60,hk,rfl⟩,hrt,hrk⟩:=hy t k hc
   have h15:=type_small t [] k (by simp [kinds]) hk
   have HK:=Lib.hid (show stratR s=wrOf k (meanOf [] t) by rw [HSC.out,hc];rfl)
   have hrtW:=Reps.below (F':=(w.heap.size≤·)) hbW1 (fun _ h=>h) hrt
   have hrkW:=Rep.below (F':=(w.heap.size≤·)) hbW1 (fun _ h=>h) hrk
   have CO:=Lib.hid (l5Of_any 60 (fun i=>w.heap.size≤i∧i<W.heap.size) t [] k (.slice none 0 0) (.slice none 0 0) _ _ W h60 ⟨fun i h=>h.2,(Rep.keep fun i x hi hx=>⟨⟨hi,lt_of_heap hx⟩,hx⟩).2 _ _ hrtW,Rep_sl.2 ⟨rfl,none,0,rfl,Nat.le_refl _,fun _=>rfl,.inl rfl⟩,Rep_sl.2 ⟨by simp [kinds,encSs],none,0,rfl,Nat.le_refl _,fun _=>rfl,.inl rfl⟩,ho,hsm,(fun p h=>by simp at h),(fun a h=>by simp [kinds] at h),by simp;omega⟩ hk)
   have HG:=Lib.hid (And.intro h15 (And.intro hrkW fun b (hb:meanOf [] t=some b)=>mean_closed ho hk hb))
   have bt:W.cell? ⟨w1.heap.size+1,0,none⟩=some (.slice ka k.args.length kc):=by rw [hW];simp
   have HB:=Lib.hid hbW
   have HW:=Lib.hid hW
   obtain ⟨o,ho'⟩:∃ o,meanOf [] t=o:=⟨_,rfl⟩
   rw [ho'] at CO HG HK
   clear hc hy hb1 hbW1 hbW hW C0 ho hsm h60 hk hrt hrk h15 hrtW hrkW ho' HSC
   simp only [Option.isSome_some]
   go_wp2_with fail
   rw [← HW.out]
   (with_reducible refine CO.out.mono ?_)
   rintro en w2 ⟨ss,vv,aa,an,ac,ba,bn,bc,rfl,hb2,hr2⟩
   have bt2:w2.cell? ⟨w1.heap.size+1,0,none⟩=some (.slice ka k.args.length kc):=(hb2.cell (World.block_lt_of_cell? _ _ bt)).trans bt
   have bt3:(w2.alloc (.cells #[str ss,.int .i64 vv,.slice aa an ac,.slice ba bn bc] 36)).cell? ⟨w1.heap.size+1,0,none⟩=some (.slice ka k.args.length kc):=cell_alloc bt2
   obtain ⟨W2,hW2⟩:∃ W,W=w2.alloc (.cells #[str ss,.int .i64 vv,.slice aa an ac,.slice ba bn bc] 36):=⟨_,rfl⟩
   have hbW2:Below W.heap.size W W2:=by rw [hW2];exact hb2.alloc hb2.size _
   have CW:=Lib.hid (l4Written_any (w.heap.size≤·) k o (.slice ka k.args.length kc) ss vv aa an ac ba bn bc W2 HG.out.1 (Rep.below hbW2 (fun _ h=>h) HG.out.2.1) (fun x hx=>⟨(Rep.keep fun i u hi hu=>⟨(by
    rcases hi with h | h
    ·exact h.1
    ·have:=HB.out.size;omega),by rw [hW2];exact heap_past hu⟩).2 _ _ (hr2 x hx),(by have:=(HG.out.2.2 x hx).size;omega),fit_lvR 200 x k.args (HG.out.2.2 x hx).size (HG.out.2.2 x hx).fit (args_atoms HG.out.1).1 (by have:=(args_atoms HG.out.1).2;omega)⟩))
   have HB2:=Lib.hid (HB.out.trans (hbW2.mono HB.out.size))
   have HW2:=Lib.hid hW2
   clear hb2 hr2 bt CO hbW2 hW2 HG HB
   go_wp2_with fail
   rw [← HW2.out]
   (with_reducible refine CW.out.mono ?_)
   rintro en w3 ⟨rfl,hb3⟩
   have HB3:=Lib.hid (HB2.out.trans (hb3.mono HB2.out.size))
   clear hb3 CW bt2 bt3
   rw [← HK.out]
   go_wp2_with fail
   go_ret2
   exact ⟨rfl,HB3.out⟩
def alikeR (a b:Bs):Bool:=(stratR a).isSome && (stratR b).isSome && ((kindTx a).getD [] == (kindTx b).getD []) && ((stratR a).getD [] == (stratR b).getD [])
set_option maxRecDepth 20000 in
set_option maxHeartbeats 2000000 in
theorem specTermAlike_any (a b:Bs) (w:World) (ha:Lim a.length) (hb:Lim b.length):Calls Tryz.prog 7 #[str a,str b] w fun en w'=>en=.returned (.bool (alikeR a b))∧Below w.heap.size w w':=by
 have C1:=Lib.hid (fun wz=>specTermType_any a wz ha)
 have C2:=Lib.hid (fun wz=>specTermType_any b wz hb)
 have C3:=Lib.hid (fun wz=>specTermStrategy_any a wz ha)
 have C4:=Lib.hid (fun wz=>specTermStrategy_any b wz hb)
 have HA:=Lib.hid (show alikeR a b=((stratR a).isSome && (stratR b).isSome && ((kindTx a).getD [] == (kindTx b).getD []) && ((stratR a).getD [] == (stratR b).getD [])) from rfl)
 obtain ⟨R,hR⟩:∃ R,alikeR a b=R:=⟨_,rfl⟩
 rw [hR] at HA ⊢
 clear hR ha hb
 generalize kindTx a=KA at *
 generalize kindTx b=KB at *
 generalize stratR a=SA at *
 generalize stratR b=SB at *
 go_enter Tryz.func7,Tryz.ntmps7
 go_wp2_with fail
 (with_reducible refine (C1.out w).mono ?_)
 rintro en w1 ⟨rfl,hb1⟩
 have H1:=Lib.hid hb1;clear hb1 C1
 go_wp2_with fail
 (with_reducible refine (C2.out w1).mono ?_)
 rintro en w2 ⟨rfl,hb2⟩
 have H2:=Lib.hid (H1.out.trans (hb2.mono H1.out.size));clear hb2 C2
 go_wp2_with fail
 (with_reducible refine (C3.out w2).mono ?_)
 rintro en w3 ⟨rfl,hb3⟩
 have H3:=Lib.hid (H2.out.trans (hb3.mono H2.out.size));clear hb3 C3
 go_wp2_with fail
 (with_reducible refine (C4.out w3).mono ?_)
 rintro en w4 ⟨rfl,hb4⟩
 have H4:=Lib.hid (H3.out.trans (hb4.mono H3.out.size));clear hb4 C4
 generalize KA.isSome=ka at *
 generalize KB.isSome=kb at *
 generalize KA.getD []=xa at *
 generalize KB.getD []=xb at *
 generalize SA.isSome=sa at *
 generalize SB.isSome=sb at *
 generalize SA.getD []=ta at *
 generalize SB.getD []=tb at *
 cases sa with
 | false =>
   go_wp2_with fail
   go_ret
   exact ⟨by rw [HA.out];rfl,H4.out⟩
 | true =>
 cases sb with
 | false =>
   go_wp2_with fail
   go_ret
   exact ⟨by rw [HA.out];rfl,H4.out⟩
 | true =>
 cases hx:xa == xb with
 | false =>
   have HX:=Lib.hid hx
   go_wp2_with fail
   go_ret
   exact ⟨by rw [HA.out,HX.out];rfl,H4.out⟩
 | true =>
 cases ht:ta == tb with
 | false =>
   have HX:=Lib.hid hx
   have HT:=Lib.hid ht
   go_wp2_with fail
   go_ret
   exact ⟨by rw [HA.out,HX.out,HT.out];rfl,H4.out⟩
 | true =>
   have HX:=Lib.hid hx
   have HT:=Lib.hid ht
   go_wp2_with fail
   go_ret
   exact ⟨by rw [HA.out,HX.out,HT.out];rfl,H4.out⟩
end Go.Proofs.YtapjaflnmklmeaaGreatDoor

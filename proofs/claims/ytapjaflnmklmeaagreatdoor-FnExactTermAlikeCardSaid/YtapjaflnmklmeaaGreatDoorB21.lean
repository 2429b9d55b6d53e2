import Derived.Test.YtapjaflnmklmeaaGreatDoorB19
import Derived.Test.YtapjaflnmklmeaaGreatDoorW24
import Derived.Test.YtapjaflnmklmeaaGreatDoorK2
/- The walks of the reference's l5Graft and l5Shift. -/
set_option linter.unusedVariables false
set_option linter.unusedSimpArgs false
namespace Go.Proofs.YtapjaflnmklmeaaGreatDoor
open Go.RowKit
def NdPost (F:Nat→Prop) (w:World) (b:Bd) (en:Ending) (w':World):Prop :=
 ∃ (s:Bs) (v:Int) (a1:Option Addr) (n1 c1:Nat) (a2:Option Addr) (n2 c2:Nat),en=.returned (.agg #[str s,.int .i64 v,.slice a1 n1 c1,.slice a2 n2 c2])∧Below w.heap.size w w'∧Reps (fun i=>F i∨w.heap.size≤i) w' (encN b) [str s,.int .i64 v,.slice a1 n1 c1,.slice a2 n2 c2]
theorem encN_four {F:Nat→Prop} {w:World} {b:Bd} {s v k y:Value} (h:Reps F w (encN b) [s,v,k,y]):∃ (i:Int) (a1:Option Addr) (c1:Nat) (a2:Option Addr) (c2:Nat),s=str (atomOf b)∧v=.int .i64 i∧k=.slice a1 (kidsOf b).length c1∧y=.slice a2 (yesOf b).length c2:=by
 obtain ⟨i,a1,c1,a2,c2,e,_,_⟩:=encN_open h
 simp only [List.cons.injEq,and_true] at e
 exact ⟨i,a1,c1,a2,c2,e.1,e.2.1,e.2.2.1,e.2.2.2⟩
theorem boxes4 (w:World) (A B C D:Obj):Below w.heap.size w ((((w.alloc A).alloc B).alloc C).alloc D)∧((((w.alloc A).alloc B).alloc C).alloc D).heap.size=w.heap.size+1+1+1+1∧((((w.alloc A).alloc B).alloc C).alloc D).heap[w.heap.size]? = some A∧((((w.alloc A).alloc B).alloc C).alloc D).heap[w.heap.size+1]? = some B∧((((w.alloc A).alloc B).alloc C).alloc D).heap[w.heap.size+1+1]? = some C∧((((w.alloc A).alloc B).alloc C).alloc D).heap[w.heap.size+1+1+1]? = some D:=by
 obtain ⟨h1,h2,h3,h4,h5⟩:=boxes3 w A B C
 refine ⟨h1.alloc h1.size _,by rw [size_alloc,h2],heap_past h3,heap_past h4,heap_past h5,?_⟩
 have h:=heap_new (((w.alloc A).alloc B).alloc C) D
 rwa [h2] at h
theorem node_enc {F:Nat→Prop} {w:World} {v:Nat} {ss:List Bd} {y n:Bd} {k ys:Value} (hk:Rep F w (.sl 36 4 ss.length (encNs ss)) k) (hy:Rep F w (.sl 36 4 2 (encN y++(encN n++[]))) ys):Reps F w (encN (.ask v ss y n)) [str [],.int .i64 (v:Nat),k,ys]:=by
 rw [encN]
 exact Reps_cons.2 ⟨_,_,rfl,Rep_val.2 rfl,Reps_cons.2 ⟨_,_,rfl,Rep_val.2 rfl,Reps_cons.2 ⟨_,_,rfl,hk,Reps_cons.2 ⟨_,_,rfl,hy,Reps_nil.2 rfl⟩⟩⟩⟩
def GrSaid (M:Nat):Prop:=∀ (F:Nat→Prop) (b y n:Bd) (b0 b1 b2 b3 y0 y1 y2 y3 n0 n1 n2 n3:Value) (w:World),sizeB b≤M→(∀ i,F i→i<w.heap.size)→wfB b→Reps F w (encN b) [b0,b1,b2,b3]→Reps F w (encN y) [y0,y1,y2,y3]→Reps F w (encN n) [n0,n1,n2,n3] →
 Calls Tryz.prog 25 #[.agg #[b0,b1,b2,b3],.agg #[y0,y1,y2,y3],.agg #[n0,n1,n2,n3]] w (NdPost F w (graftB b y n))
set_option maxRecDepth 100000 in
set_option maxHeartbeats 4000000 in
theorem gr_step (M:Nat) (ih:GrSaid M):GrSaid (M+1):=by
 intro F b y n b0 b1 b2 b3 y0 y1 y2 y3 n0 n1 n2 n3 w hsz hF hwf hb hy hn
 obtain ⟨yi,ya1,yc1,ya2,yc2,rfl,rfl,rfl,rfl⟩:=encN_four hy
 obtain ⟨ni,na1,nc1,na2,nc2,rfl,rfl,rfl,rfl⟩:=encN_four hn
 have el:=encN_lv hb
 subst el
 obtain ⟨_,ba1,bc1,ba2,bc2,rfl,eb,rfl,rfl⟩:=encN_four hb
 clear eb
 have HY:=Lib.hid hy;have HN:=Lib.hid hn
 cases b with
 | leaf c =>
   rw [wfB] at hwf
   have HB:Hid (Reps F w (encN (.leaf c)) [str [c],.int .i64 (0:Nat),.slice ba1 0 bc1,.slice ba2 0 bc2]):=hb
   clear hy hn hb ih
   obtain ⟨YK,hYK⟩:∃ x,x=(kidsOf y).length:=⟨_,rfl⟩
   obtain ⟨YY,hYY⟩:∃ x,x=(yesOf y).length:=⟨_,rfl⟩
   obtain ⟨NK,hNK⟩:∃ x,x=(kidsOf n).length:=⟨_,rfl⟩
   obtain ⟨NY,hNY⟩:∃ x,x=(yesOf n).length:=⟨_,rfl⟩
   obtain ⟨AY,hAY⟩:∃ x,x=atomOf y:=⟨_,rfl⟩
   obtain ⟨AN,hAN⟩:∃ x,x=atomOf n:=⟨_,rfl⟩
   rw [← hYK,← hYY,← hAY] at HY ⊢
   rw [← hNK,← hNY,← hAN] at HN ⊢
   clear hYK hYY hNK hNY hAY hAN
   rcases hwf with rfl | rfl | rfl
   ·show Calls Tryz.prog 25 #[.agg #[str [116],.int .i64 (0:Nat),.slice ba1 0 bc1,.slice ba2 0 bc2],.agg #[str AY,.int .i64 yi,.slice ya1 YK yc1,.slice ya2 YY yc2],.agg #[str AN,.int .i64 ni,.slice na1 NK nc1,.slice na2 NY nc2]] w _
    go_enter Tryz.func25,Tryz.ntmps25
    go_wp2_with fail
    refine bodyPost_ret (v:=.agg #[str AY,.int .i64 yi,.slice ya1 YK yc1,.slice ya2 YY yc2]) (by simp [results,Tryz.results25,go_sem]) rfl ?_
    have hb:∀ (A B C D:Obj),Below w.heap.size w ((((w.alloc A).alloc B).alloc C).alloc D):=fun A B C D=>(boxes4 w A B C D).1
    refine ⟨_,_,_,_,_,_,_,_,rfl,hb _ _ _ _,?_⟩
    rw [graftB]
    simp only [reduceIte,show (102:UInt8)≠116 from by decide,show (117:UInt8)≠116 from by decide,show (117:UInt8)≠102 from by decide]
    exact Reps.below (hb _ _ _ _) (fun _ h=>.inl h) HY.out
   ·show Calls Tryz.prog 25 #[.agg #[str [102],.int .i64 (0:Nat),.slice ba1 0 bc1,.slice ba2 0 bc2],.agg #[str AY,.int .i64 yi,.slice ya1 YK yc1,.slice ya2 YY yc2],.agg #[str AN,.int .i64 ni,.slice na1 NK nc1,.slice na2 NY nc2]] w _
    go_enter Tryz.func25,Tryz.ntmps25
    go_wp2_with fail
    refine bodyPost_ret (v:=.agg #[str AN,.int .i64 ni,.slice na1 NK nc1,.slice na2 NY nc2]) (by simp [results,Tryz.results25,go_sem]) rfl ?_
    have hb:∀ (A B C D:Obj),Below w.heap.size w ((((w.alloc A).alloc B).alloc C).alloc D):=fun A B C D=>(boxes4 w A B C D).1
    refine ⟨_,_,_,_,_,_,_,_,rfl,hb _ _ _ _,?_⟩
    rw [graftB]
    simp only [reduceIte,show (102:UInt8)≠116 from by decide,show (117:UInt8)≠116 from by decide,show (117:UInt8)≠102 from by decide]
    exact Reps.below (hb _ _ _ _) (fun _ h=>.inl h) HN.out
   ·show Calls Tryz.prog 25 #[.agg #[str [117],.int .i64 (0:Nat),.slice ba1 0 bc1,.slice ba2 0 bc2],.agg #[str AY,.int .i64 yi,.slice ya1 YK yc1,.slice ya2 YY yc2],.agg #[str AN,.int .i64 ni,.slice na1 NK nc1,.slice na2 NY nc2]] w _
    go_enter Tryz.func25,Tryz.ntmps25
    go_wp2_with fail
    refine bodyPost_ret (v:=.agg #[str [117],.int .i64 (0:Nat),.slice ba1 0 bc1,.slice ba2 0 bc2]) (by simp [results,Tryz.results25,go_sem]) rfl ?_
    have hb:∀ (A B C D:Obj),Below w.heap.size w ((((w.alloc A).alloc B).alloc C).alloc D):=fun A B C D=>(boxes4 w A B C D).1
    refine ⟨_,_,_,_,_,_,_,_,rfl,hb _ _ _ _,?_⟩
    rw [graftB]
    simp only [reduceIte,show (102:UInt8)≠116 from by decide,show (117:UInt8)≠116 from by decide,show (117:UInt8)≠102 from by decide]
    exact Reps.below (hb _ _ _ _) (fun _ h=>.inl h) HB.out
 | ask v ss ya na =>
   obtain ⟨_,_,_,_,_,e,hk,hyy⟩:=encN_open hb
   simp only [List.cons.injEq,and_true] at e
   obtain ⟨_,_,e1,e2⟩:=e
   rw [← e1] at hk
   rw [← e2] at hyy
   clear e1 e2
   obtain ⟨_,_,ek,aty⟩:=AtNs.of hyy
   simp only [Value.slice.injEq,true_and] at ek
   rw [← ek.1] at aty;clear ek
   change AtNs F w [ya,na] ba2 at aty
   obtain ⟨pb,po,s0,v0,p2,m2,d2,p3,m3,d3,yt,ey,hpb,hyt,u0,u1,u2,u3,hry⟩:=aty 0 (by simp)
   obtain ⟨pb',po',s1,v1,p4,m4,d4,p5,m5,d5,nt,en1,_,hnt,z0,z1,z2,z3,hrn⟩:=aty 1 (by simp)
   rw [ey] at en1
   simp only [Option.some.injEq,Addr.mk.injEq,and_true] at en1
   obtain ⟨rfl,rfl⟩:=en1
   simp only [List.getElem?_cons_zero,Option.some.injEq] at hyt
   simp only [List.getElem?_cons_succ,List.getElem?_cons_zero,Option.some.injEq] at hnt
   subst hyt;subst hnt;subst ey
   simp only [Nat.zero_mul,Nat.add_zero] at u0 u1 u2 u3
   simp only [Nat.one_mul,Nat.add_assoc,Nat.reduceAdd] at z0 z1 z2 z3
   rw [sizeB] at hsz
   rw [wfB] at hwf
   have CY:=Lib.hid (fun wz (h:Below w.heap.size w wz)=>ih F ya y n _ _ _ _ _ _ _ _ _ _ _ _ wz (by omega) (fun i hi=>Nat.lt_of_lt_of_le (hF i hi) h.size) hwf.2.1 (Reps.below h (fun _ h=>h) hry) (Reps.below h (fun _ h=>h) hy) (Reps.below h (fun _ h=>h) hn))
   have CN:=Lib.hid (fun wz (h:Below w.heap.size w wz)=>ih F na y n _ _ _ _ _ _ _ _ _ _ _ _ wz (by omega) (fun i hi=>Nat.lt_of_lt_of_le (hF i hi) h.size) hwf.2.2 (Reps.below h (fun _ h=>h) hrn) (Reps.below h (fun _ h=>h) hy) (Reps.below h (fun _ h=>h) hn))
   have HK:Hid (Rep F w (.sl 36 4 ss.length (encNs ss)) (.slice ba1 ss.length bc1)):=hk
   obtain ⟨YK,hYK⟩:∃ x,x=(kidsOf y).length:=⟨_,rfl⟩
   obtain ⟨YY,hYY⟩:∃ x,x=(yesOf y).length:=⟨_,rfl⟩
   obtain ⟨NK,hNK⟩:∃ x,x=(kidsOf n).length:=⟨_,rfl⟩
   obtain ⟨NY,hNY⟩:∃ x,x=(yesOf n).length:=⟨_,rfl⟩
   obtain ⟨AY,hAY⟩:∃ x,x=atomOf y:=⟨_,rfl⟩
   obtain ⟨AN,hAN⟩:∃ x,x=atomOf n:=⟨_,rfl⟩
   rw [← hYK,← hYY,← hAY,← hNK,← hNY,← hAN] at CY CN ⊢
   obtain ⟨W0,hW0⟩:∃ W,W=(((w.alloc (.cells #[str [],.int .i64 (v:Nat),.slice ba1 ss.length bc1,.slice (some ⟨pb,po,none⟩) 2 bc2] 36)).alloc (.cells #[str AY,.int .i64 yi,.slice ya1 YK yc1,.slice ya2 YY yc2] 36)).alloc (.cells #[str AN,.int .i64 ni,.slice na1 NK nc1,.slice na2 NY nc2] 36)).alloc (.cells #[str [],.int .i64 0,.slice none 0 0,.slice none 0 0] 36):=⟨_,rfl⟩
   obtain ⟨hb0,zz0,bB,bY,bN,bR⟩:=boxes4 w (.cells #[str [],.int .i64 (v:Nat),.slice ba1 ss.length bc1,.slice (some ⟨pb,po,none⟩) 2 bc2] 36) (.cells #[str AY,.int .i64 yi,.slice ya1 YK yc1,.slice ya2 YY yc2] 36) (.cells #[str AN,.int .i64 ni,.slice na1 NK nc1,.slice na2 NY nc2] 36) (.cells #[str [],.int .i64 0,.slice none 0 0,.slice none 0 0] 36)
   rw [← hW0] at hb0 zz0 bB bY bN bR
   have SX:Hid (∀ w',Below W0.heap.size W0 w'→(w'.cell? ⟨w.heap.size,1,none⟩=some (.int .i64 (v:Nat))∧w'.cell? ⟨w.heap.size,2,none⟩=some (.slice ba1 ss.length bc1)∧w'.cell? ⟨w.heap.size,3,none⟩=some (.slice (some ⟨pb,po,none⟩) 2 bc2)) ∧
    (w'.cell? ⟨w.heap.size+1,0,none⟩=some (str AY)∧w'.cell? ⟨w.heap.size+1,1,none⟩=some (.int .i64 yi)∧w'.cell? ⟨w.heap.size+1,2,none⟩=some (.slice ya1 YK yc1)∧w'.cell? ⟨w.heap.size+1,3,none⟩=some (.slice ya2 YY yc2)) ∧
    (w'.cell? ⟨w.heap.size+1+1,0,none⟩=some (str AN)∧w'.cell? ⟨w.heap.size+1+1,1,none⟩=some (.int .i64 ni)∧w'.cell? ⟨w.heap.size+1+1,2,none⟩=some (.slice na1 NK nc1)∧w'.cell? ⟨w.heap.size+1+1,3,none⟩=some (.slice na2 NY nc2)) ∧
    (w'.cell? ⟨pb,po,none⟩=some (str s0)∧w'.cell? ⟨pb,po+1,none⟩=some (.int .i64 v0)∧w'.cell? ⟨pb,po+2,none⟩=some (.slice p2 m2 d2)∧w'.cell? ⟨pb,po+3,none⟩=some (.slice p3 m3 d3)) ∧
    (w'.cell? ⟨pb,po+4,none⟩=some (str s1)∧w'.cell? ⟨pb,po+5,none⟩=some (.int .i64 v1)∧w'.cell? ⟨pb,po+6,none⟩=some (.slice p4 m4 d4)∧w'.cell? ⟨pb,po+7,none⟩=some (.slice p5 m5 d5))):=by
    show ∀ w',_→_
    intro w' h
    have h0:=hb0.trans (h.mono hb0.size)
    have kB:=(h.block _ (lt_of_heap bB)).trans bB
    have kY:=(h.block _ (lt_of_heap bY)).trans bY
    have kN:=(h.block _ (lt_of_heap bN)).trans bN
    have q:∀ {j:Nat} {u:Value},w.cell? ⟨pb,j,none⟩=some u→w'.cell? ⟨pb,j,none⟩=some u:=fun {j} {u} hu=>(h0.cell (p:=⟨pb,j,none⟩) hpb).trans hu
    exact ⟨⟨by simp [World.cell?,kB],by simp [World.cell?,kB],by simp [World.cell?,kB]⟩,⟨by simp [World.cell?,kY],by simp [World.cell?,kY],by simp [World.cell?,kY],by simp [World.cell?,kY]⟩,⟨by simp [World.cell?,kN],by simp [World.cell?,kN],by simp [World.cell?,kN],by simp [World.cell?,kN]⟩,⟨q u0,q u1,q u2,q u3⟩,q z0,q z1,q z2,q z3⟩
   have H0:=Lib.hid (And.intro hb0 (And.intro zz0 bR))
   have HYN:=Lib.hid (And.intro hYK (And.intro hYY (And.intro hNK (And.intro hNY (And.intro hAY hAN)))))
   clear hk hyy aty hry hrn hy hn hb hwf ih u0 u1 u2 u3 z0 z1 z2 z3 hb0 zz0 bB bY bN bR HY HN hpb hYK hYY hNK hNY hAY hAN
   show Calls Tryz.prog 25 #[.agg #[str [],.int .i64 (v:Nat),.slice ba1 ss.length bc1,.slice (some ⟨pb,po,none⟩) 2 bc2],.agg #[str AY,.int .i64 yi,.slice ya1 YK yc1,.slice ya2 YY yc2],.agg #[str AN,.int .i64 ni,.slice na1 NK nc1,.slice na2 NY nc2]] w _
   go_enter Tryz.func25,Tryz.ntmps25
   go_wp2_with fail
   rw [← hW0]
   clear hW0
   refine wp_region_noPanic ?_
   refine wp_region_S (fun w'=>Below W0.heap.size W0 w') (fun i=>i == 20) (by kernel_rfl) ?_
   have hSd:(fun w'=>Below W0.heap.size W0 w') W0.drew:=Below.drew (Below.refl _ _)
   refine tk [0,1,2,3,4,5,6,7,8,9,11,12,13,14,15,16] hSd ?_
   (intro d hd;simp [tkD] at hd;subst hd;simp only [tks,pQ,pZ,pS])
   iterate 16 (refine ⟨?_,?_,?_⟩;rotate_left;· (intro oi ho;simp at ho;subst ho;refine Or.inl ⟨by rfl,fun w' hw'=>?_⟩;obtain ⟨⟨e1,e2,e3⟩,⟨f0,f1,f2,f3⟩,⟨g0,g1,g2,g3⟩,⟨u0,u1,u2,u3⟩,z0,z1,z2,z3⟩:=SX.out w' hw';go_simp;try with_reducible rfl))
   (refine on 10 ?_;intro o ho K' hK;simp at ho;subst ho;go_simp)
   go_at_call 25
   (with_reducible refine (CY.out _ (H0.out.1.trans (hSd.mono H0.out.1.size))).mono ?_)
   rintro en x1 ⟨r1s,r1v,r1a,r1n,r1c,r1b,r1m,r1d,rfl,hb1,hr1⟩
   have HB1:Hid (Below W0.heap.size W0 x1):=hSd.trans hb1
   have HR1:Hid (Reps (fun i=>F i∨W0.heap.size≤i) x1 (encN (graftB ya y n)) [str r1s,.int .i64 r1v,.slice r1a r1n r1c,.slice r1b r1m r1d]):=(Rep.keep fun i x h hx=>⟨h.elim .inl (fun h=>.inr (h)),hx⟩).2 _ _ hr1
   have HBB1:=Lib.hid hb1
   clear hb1 hr1
   (refine hK.out _ _ (fun _=>HB1.out) ?_;clear hK K';try simp only [pQ,pN,pZ,pS])
   have hS10:=HB1.out
   (refine on 17 ?_;intro o ho K' hK;simp at ho;subst ho;go_simp)
   go_at_call 25
   (with_reducible refine (CN.out _ (H0.out.1.trans (HB1.out.mono H0.out.1.size))).mono ?_)
   rintro en x2 ⟨r2s,r2v,r2a,r2n,r2c,r2b,r2m,r2d,rfl,hb2,hr2⟩
   have HB2:Hid (Below W0.heap.size W0 x2):=HB1.out.trans (hb2.mono HB1.out.size)
   have HR2:Hid (Reps (fun i=>F i∨W0.heap.size≤i) x2 (encN (graftB na y n)) [str r2s,.int .i64 r2v,.slice r2a r2n r2c,.slice r2b r2m r2d]):=(Rep.keep fun i x h hx=>⟨h.elim .inl (fun h=>.inr (Nat.le_trans HB1.out.size h)),hx⟩).2 _ _ hr2
   have HBB2:=Lib.hid hb2
   clear hb2 hr2
   (refine hK.out _ _ (fun _=>HB2.out) ?_;clear hK K';try simp only [pQ,pN,pZ,pS])
   have hS17:=HB2.out
   (refine on 18 ?_;intro o ho K' hK;simp at ho;subst ho;go_simp)
   (refine hK.out _ _ (fun _=>HB2.out.alloc HB2.out.size (.cells #[str r1s,.int .i64 r1v,.slice r1a r1n r1c,.slice r1b r1m r1d,str r2s,.int .i64 r2v,.slice r2a r2n r2c,.slice r2b r2m r2d] 36)) ?_;clear hK K';try simp only [pQ,pN,pZ,pS])
   have hS18:=HB2.out.alloc HB2.out.size (.cells #[str r1s,.int .i64 r1v,.slice r1a r1n r1c,.slice r1b r1m r1d,str r2s,.int .i64 r2v,.slice r2a r2n r2c,.slice r2b r2m r2d] 36)
   have bR2:(x2.alloc (.cells #[str r1s,.int .i64 r1v,.slice r1a r1n r1c,.slice r1b r1m r1d,str r2s,.int .i64 r2v,.slice r2a r2n r2c,.slice r2b r2m r2d] 36)).heap[w.heap.size+1+1+1]? = some (.cells #[str [],.int .i64 0,.slice none 0 0,.slice none 0 0] 36 (0,0)):=heap_past ((HB2.out.block _ (lt_of_heap H0.out.2.2)).trans H0.out.2.2)
   obtain ⟨X,hX⟩:∃ X,x2.alloc (.cells #[str r1s,.int .i64 r1v,.slice r1a r1n r1c,.slice r1b r1m r1d,str r2s,.int .i64 r2v,.slice r2a r2n r2c,.slice r2b r2m r2d] 36)=X:=⟨_,rfl⟩
   rw [hX] at bR2 hS18 ⊢
   have NR:NewN (w.heap.size+1+1+1) 0 (.slice none 0 0) (.slice none 0 0) X:=bR2
   obtain ⟨k0,k1,k2,k3,_,kf⟩:=NR.cells
   have kf0:=kf 0;have kf1:=kf 1;have kf2:=kf 2;have kf3:=kf 3
   clear kf
   refine tk [19] hS18 ?_
   (intro d hd;simp [tkD] at hd;subst hd;simp only [tks,pQ,pZ,pS])
   (refine ⟨?_,?_,?_⟩;rotate_left;· (intro oi ho;simp at ho;subst ho;refine Or.inl ⟨by rfl,fun w' hw'=>?_⟩;go_simp;try with_reducible rfl))
   (refine on 20 ?_;intro o ho K' hK;simp at ho;subst ho;go_simp)
   (refine hK.out _ _ (fun h=>by simp at h) ?_;clear hK K';try simp only [pQ,pN,pZ,pS])
   refine wpAnyS_done (by kernel_rfl) (NoPanic.normal ?_) _
   go_wp2_with fail
   obtain ⟨Z,hZ,s0',s1',s2',s3',hbZ,hkZ⟩:=NR.store (str []) (.int .i64 (v:Nat)) (.slice ba1 ss.length bc1) (.slice (some ⟨x2.heap.size,0,none⟩) 2 2)
   rw [← hZ]
   refine bodyPost_ret (v:=.agg #[str [],.int .i64 (v:Nat),.slice ba1 ss.length bc1,.slice (some ⟨x2.heap.size,0,none⟩) 2 2]) (by simp [results,Tryz.results25,go_sem,s0',s1',s2',s3']) rfl ?_
   have hbX:Below W0.heap.size W0 X:=by rw [← hX];exact HB2.out.alloc HB2.out.size _
   have hbw:Below w.heap.size w X:=H0.out.1.trans (hbX.mono H0.out.1.size)
   have hz2:=HB2.out.size
   have hz0:=H0.out.2.1
   refine ⟨_,_,_,_,_,_,_,_,rfl,hbZ _ _ hbw (by omega),?_⟩
   have kk:∀ i x,x2.heap[i]? = some x→i≠w.heap.size+1+1+1→Z.heap[i]? = some x:=fun i x hx hi=>hkZ i x hi (by rw [← hX];exact heap_past hx)
   rw [graftB]
   have nb:Z.heap[x2.heap.size]? = some (.cells #[str r1s,.int .i64 r1v,.slice r1a r1n r1c,.slice r1b r1m r1d,str r2s,.int .i64 r2v,.slice r2a r2n r2c,.slice r2b r2m r2d] 36 (0,0)):=hkZ _ _ (by omega) (by rw [← hX];exact heap_new _ _)
   have kF:∀ i,(F i∨W0.heap.size≤i)→i≠w.heap.size+1+1+1:=fun i h=>by rcases h with h | h;have:=hF i h;omega;omega
   refine node_enc ?_ ?_
   ·exact (Rep.keep fun i x (h:F i) hx=>⟨.inl h,kk i x ((HB2.out.block i (by have:=hF i h;omega)).trans ((H0.out.1.block i (lt_of_heap hx)).trans hx)) (kF i (.inl h))⟩).1 _ _ HK.out
   ·refine Rep_sl.2 ⟨by rw [List.append_nil,List.length_append,encN_length,encN_length],_,_,rfl,Nat.le_refl _,(fun h=>by simp at h),.inr ⟨_,0,_,_,rfl,.inr (by omega),nb,?_⟩⟩
    rw [List.append_nil]
    have g1:=Reps.below (F':=fun i=>F i∨W0.heap.size≤i) HBB2.out (fun _ h=>h) HR1.out
    exact Reps.append (vs:=[str r1s,.int .i64 r1v,.slice r1a r1n r1c,.slice r1b r1m r1d]) (us:=[str r2s,.int .i64 r2v,.slice r2a r2n r2c,.slice r2b r2m r2d]) ((Rep.keep fun i x h hx=>⟨h.elim .inl (fun h=>.inr (by omega)),kk i x hx (kF i h)⟩).2 _ _ g1) ((Rep.keep fun i x h hx=>⟨h.elim .inl (fun h=>.inr (by omega)),kk i x hx (kF i h)⟩).2 _ _ HR2.out)
theorem graft_any (M:Nat):GrSaid M:=by
 induction M with
 | zero=>exact fun F b y n b0 b1 b2 b3 y0 y1 y2 y3 n0 n1 n2 n3 w h=>by have:=sizeB_pos b;omega
 | succ M ih=>exact gr_step M ih
end Go.Proofs.YtapjaflnmklmeaaGreatDoor
namespace Go.Proofs.YtapjaflnmklmeaaGreatDoor
open Go.RowKit
theorem sh_enc (b:Bd) (n k:Nat):encN (shiftB b n k)=[.val (str (atomOf b)),.val (.int .i64 ((if atomOf b=[]∧n≤lvOf b then lvOf b+k else lvOf b:Nat):Int)),.sl 36 4 (kidsOf b).length (encNs (shiftBs (kidsOf b) n k)),.sl 36 4 (yesOf b).length (encNs (shiftBs (yesOf b) n k))]:=by
 cases b with
 | leaf c=>rw [shiftB,encN];simp [atomOf,lvOf,kidsOf,yesOf,shiftBs,encNs]
 | ask v ss y no =>
   have hl:(shiftBs ss n k).length=ss.length:=by rw [shiftBs_map];simp
   rw [shiftB,encN,hl];simp [atomOf,lvOf,kidsOf,yesOf,shiftBs,encNs]
theorem kids_part {b s:Bd} {M:Nat} (h:s∈kidsOf b∨s∈yesOf b) (hs:sizeB b≤M+1) (hl:lvB b) (hM:sizeB b≤1000000):sizeB s≤M∧lvB s∧sizeB s≤1000000:=by
 cases b with
 | leaf c=>simp [kidsOf,yesOf] at h
 | ask v ss y no =>
   rw [sizeB] at hs hM
   rw [lvB] at hl
   rcases h with h | h
   ·have h1:sizeB s≤sizeBs ss:=mem_sizeBs h
    obtain ⟨j,hj⟩:=List.mem_iff_getElem?.1 h
    exact ⟨by omega,lvBs_atR ss hl.2.1 j s hj,by omega⟩
   ·simp only [yesOf,List.mem_cons,List.not_mem_nil,or_false] at h
    rcases h with rfl | rfl
    ·exact ⟨by omega,hl.2.2.1,by omega⟩
    ·exact ⟨by omega,hl.2.2.2,by omega⟩
structure Keeps (W:World) (P:Nat) (sv:Value) (wr:World):Prop where
 keep:W.heap.size≤wr.heap.size∧∀ i x,i≠P→W.heap[i]? = some x→wr.heap[i]? = some x
 own:∀ g,sv.ownBlock=some g→W.heap.size≤g
theorem Keeps.next {W:World} {P:Nat} {sv sv':Value} {wr w6 w7 w8:World} {ob:Obj} (h:Keeps W P sv wr) (hb6:Below wr.heap.size wr w6) (hb7:But (fun b=>sv.ownBlock=some b) (w6.alloc ob) w7) (hg7:∀ g,sv'.ownBlock=some g→sv.ownBlock=some g∨g=(w6.alloc ob).heap.size) (hb8:But (fun b=>b=P) w7 w8):Keeps W P sv' w8:=by
 have z1:=h.keep.1
 have z6:=hb6.size
 have z7:=hb7.size
 rw [size_alloc] at z7
 refine ⟨⟨by have:=hb8.size;omega,fun i x hi hx=>?_⟩,fun g hg=>?_⟩
 ·have hl:=lt_of_heap hx
  have h1:=h.keep.2 i x hi hx
  have h6:w6.heap[i]? = some x:=by rw [hb6.block i (lt_of_heap h1)];exact h1
  rw [hb8.block i (by omega) hi,hb7.block i (by rw [size_alloc];omega) (fun e=>by have:=h.own i e;omega)]
  exact heap_past h6
 ·rcases hg7 g hg with e | e
  ·exact h.own g e
  ·rw [size_alloc] at e;omega
def ShSaid (M:Nat):Prop:=∀ (F:Nat→Prop) (b:Bd) (n k:Nat) (b0 b1 b2 b3:Value) (w:World),sizeB b≤M→(∀ i,F i→i<w.heap.size)→sizeB b≤1000000→lvB b→n≤10000→k≤10000→Reps F w (encN b) [b0,b1,b2,b3] →
 Calls Tryz.prog 26 #[.agg #[b0,b1,b2,b3],.int .i64 (n:Nat),.int .i64 (k:Nat)] w (NdPost F w (shiftB b n k))
set_option maxRecDepth 100000 in
set_option maxHeartbeats 4000000 in
theorem sh_step (M:Nat) (ih:ShSaid M):ShSaid (M+1):=by
 intro F b n k b0 b1 b2 b3 w hN hF hM hlv hn hk hb
 have el:=encN_lv hb
 subst el
 obtain ⟨_,ba1,bc1,ba2,bc2,rfl,eb,rfl,rfl⟩:=encN_four hb
 clear eb
 obtain ⟨_,_,_,_,_,e,hkk,hyy⟩:=encN_open hb
 simp only [List.cons.injEq,and_true] at e
 obtain ⟨_,_,e1,e2⟩:=e
 rw [← e1] at hkk
 rw [← e2] at hyy
 clear e1 e2
 obtain ⟨_,_,ek,atk⟩:=AtNs.of hkk
 simp only [Value.slice.injEq,true_and] at ek
 rw [← ek.1] at atk;clear ek
 obtain ⟨_,_,ek,aty⟩:=AtNs.of hyy
 simp only [Value.slice.injEq,true_and] at ek
 rw [← ek.1] at aty;clear ek
 have hlb:lvOf b≤10000:=by
  cases b with
  | leaf c=>simp [lvOf]
  | ask v ss y no=>rw [lvB] at hlv;exact hlv.1
 have hkl:(kidsOf b).length≤1000000∧(yesOf b).length≤2:=by
  cases b with
  | leaf c=>simp [kidsOf,yesOf]
  | ask v ss y no=>rw [sizeB] at hM;have:=length_le_sizeBs ss;simp [kidsOf,yesOf];omega
 have HE:=Lib.hid (sh_enc b n k)
 have HPK:=Lib.hid (fun (s:Bd) (h:s∈kidsOf b∨s∈yesOf b)=>kids_part h hN hlv hM)
 obtain ⟨R,hR⟩:∃ x,x=shiftB b n k:=⟨_,rfl⟩
 obtain ⟨KS,hKS⟩:∃ x,x=kidsOf b:=⟨_,rfl⟩
 obtain ⟨YS,hYS⟩:∃ x,x=yesOf b:=⟨_,rfl⟩
 obtain ⟨A,hA⟩:∃ x,x=atomOf b:=⟨_,rfl⟩
 obtain ⟨L,hL⟩:∃ x,x=lvOf b:=⟨_,rfl⟩
 rw [← hR,← hKS,← hYS,← hA,← hL] at HE
 rw [← hKS,← hYS] at HPK hkl
 rw [← hKS] at atk
 rw [← hYS] at aty
 rw [← hL] at hlb
 rw [← hR,← hKS,← hYS,← hA,← hL]
 clear hb hkk hyy hR hKS hYS hA hL hN hM hlv
 obtain ⟨hk1,hk2⟩:=hkl
 have IH:=Lib.hid ih
 have AK:=Lib.hid atk
 have AY:=Lib.hid aty
 clear atk aty ih
 obtain ⟨W0,hW0⟩:∃ W,W=((w.alloc (.cells #[str A,.int .i64 (L:Nat),.slice ba1 KS.length bc1,.slice ba2 YS.length bc2] 36)).alloc (.cells #[str [],.int .i64 0,.slice none 0 0,.slice none 0 0] 36)).alloc (.cells #[str A,.int .i64 (L:Nat),.slice none 0 0,.slice none 0 0] 36):=⟨_,rfl⟩
 obtain ⟨hb0,zz0,bB,bR,bO⟩:=boxes3 w (.cells #[str A,.int .i64 (L:Nat),.slice ba1 KS.length bc1,.slice ba2 YS.length bc2] 36) (.cells #[str [],.int .i64 0,.slice none 0 0,.slice none 0 0] 36) (.cells #[str A,.int .i64 (L:Nat),.slice none 0 0,.slice none 0 0] 36)
 rw [← hW0] at hb0 zz0 bB bR bO
 have H0:=Lib.hid (And.intro hb0 (And.intro zz0 (And.intro bB (And.intro bR bO))))
 clear hb0 zz0
 by_cases hA0:A=[]
 ·subst hA0
  by_cases hv:n≤L
  ·go_enter Tryz.func26,Tryz.ntmps26
   go_upto_region 2 with (fail)
   rw [← hW0]
   clear hW0
   obtain ⟨o0,o1,o2,o3⟩:=cells4 bO
   obtain ⟨r0,r1,r2,r3⟩:=cells4 bB
   have of1:W0.frozen? ⟨w.heap.size+1+1,1,none⟩=false:=by simp only [World.frozen?,bO];rfl
   have hvI:(n:Int)≤(L:Int):=by omega
   have hwr:IntKind.i64.wrap ((L:Int)+(k:Int))=(L:Int)+(k:Int):=IntWalk.i64_in _ (by omega)
   go_upto_region 4 with (fail)
   obtain ⟨W,hW⟩:∃ W,W0.setCell ⟨w.heap.size+1+1,1,none⟩ (.int .i64 ((L:Int)+(k:Int)))=W:=⟨_,rfl⟩
   rw [hW]
   have hO:W.heap[w.heap.size+1+1]? = some (.cells #[str [],.int .i64 ((L+k:Nat):Int),.slice none 0 0,.slice none 0 0] 36 (0,0)):=by
    rw [← hW]
    rw [setCell_at H0.out.2.2.2.2,Int.natCast_add];rfl
   have hPW:Below (w.heap.size+1+1) W0 W:=by rw [← hW];exact (Below.refl _ _).setCell (p:=⟨w.heap.size+1+1,1,none⟩) (Nat.le_refl _) _
   have zz0:=H0.out.2.1
   have hzW:w.heap.size+1+1<W.heap.size:=by have:=hPW.size;omega
   have HW1:=Lib.hid (And.intro (H0.out.1.trans (hPW.mono (by omega))) (And.intro ((hPW.block _ (by omega)).trans H0.out.2.2.1) (And.intro ((hPW.block _ (by omega)).trans H0.out.2.2.2.1) hO)))
   clear hW hO hPW bB bR bO
   obtain ⟨_,_,mm2,mm3⟩:=cells4 HW1.out.2.1
   go_wp2_with fail
   go_loopw [8] (fun i wr=>∃ (j:Nat) (sv:Value) (us:List Value),j≤KS.length∧i=.int .i64 j∧GrowF F W (w.heap.size+1+1) (fun sv=>.cells #[str [],.int .i64 ((L+k:Nat):Int),sv,.slice none 0 0] 36 (0,0)) 36 4 j (encNs (shiftBs (KS.take j) n k)) sv us wr) (fun i _=>KS.length-(intOf i).toNat)
   case atStart=>exact ⟨0,_,_,Nat.zero_le _,rfl,by simpa [shiftBs,encNs] using GrowF.start (F0:=F) (o:=fun sv=>.cells #[str [],.int .i64 ((L+k:Nat):Int),sv,.slice none 0 0] 36 (0,0)) HW1.out.2.2.2⟩
   case round =>
    rename_i wr
    obtain ⟨j,sv,us,hj,rfl,hinv⟩:=hrel
    obtain ⟨ga,gc,e⟩:=hinv.slice
    subst e
    have hblk:wr.heap[w.heap.size+1+1]? = some (.cells #[str [],.int .i64 ((L+k:Nat):Int),.slice ga j gc,.slice none 0 0] 36 (0,0)):=hinv.blk
    have hbw:Below w.heap.size w wr:=HW1.out.1.trans (hinv.below.mono (by omega))
    obtain ⟨y0,y1,y2,y3⟩:=cells4 hblk
    have hnb:wr.heap[w.heap.size]? = some (.cells #[str [],.int .i64 (L:Nat),.slice ba1 KS.length bc1,.slice ba2 YS.length bc2] 36 (0,0)):=(hinv.below.block _ (by omega)).trans HW1.out.2.1
    obtain ⟨_,_,m2,m3⟩:=cells4 hnb
    have HI:=Lib.hid (And.intro hinv (And.intro hblk (And.intro hbw hnb)));clear hinv hblk hbw hnb
    by_cases hlt:j<KS.length
    ·have hlt':(j:Int)<(KS.length:Int):=by omega
     obtain ⟨kb,ko,s1,v1,p4,m4,d4,p5,m5,d5,s,ek,hkw,hs,z0,z1,z2,z3,hrs⟩:=AK.out j hlt
     subst ek
     have hmem:s∈KS:=List.mem_of_getElem? hs
     obtain ⟨p1,p2,p3⟩:=HPK.out s (.inl hmem)
     have q0:=(HI.out.2.2.1.cell (p:=⟨kb,ko+j*4,none⟩) hkw).trans z0
     have q1:=(HI.out.2.2.1.cell (p:=⟨kb,ko+j*4+1,none⟩) hkw).trans z1
     have q2:=(HI.out.2.2.1.cell (p:=⟨kb,ko+j*4+2,none⟩) hkw).trans z2
     have q3:=(HI.out.2.2.1.cell (p:=⟨kb,ko+j*4+3,none⟩) hkw).trans z3
     have CC:=Lib.hid (IH.out F s n k _ _ _ _ wr.drew p1 (fun i hi=>Nat.lt_of_lt_of_le (hF i hi) HI.out.2.2.1.size) p3 p2 hn hk (Reps.below HI.out.2.2.1 (fun _ h=>h) hrs).drew)
     have HK:=Lib.hid (shiftBs_take hs n k)
     have SX:Hid (∀ w',But (fun i=>(Value.slice ga j gc).ownBlock=some i) wr w'→w'.cell? ⟨w.heap.size+1+1,2,none⟩=some (.slice ga j gc)∧w'.cell? ⟨w.heap.size,2,none⟩=some (.slice (some ⟨kb,ko,none⟩) KS.length bc1)∧w'.cell? ⟨kb,ko+j*4,none⟩=some (str s1)∧w'.cell? ⟨kb,ko+j*4+1,none⟩=some (.int .i64 v1)∧w'.cell? ⟨kb,ko+j*4+2,none⟩=some (.slice p4 m4 d4)∧w'.cell? ⟨kb,ko+j*4+3,none⟩=some (.slice p5 m5 d5)):=by
      show ∀ w',_→_
      intro w' hb'
      have key:∀ {p:Addr} {u:Value},p.block<w.heap.size+1+1→wr.cell? p=some u→w'.cell? p=some u:=fun hp hu=>(hb'.cell (World.block_lt_of_cell? wr _ hu) (fun e=>by have h1:=HI.out.1.fr _ e;omega)).trans hu
      exact ⟨(hb'.cell (World.block_lt_of_cell? wr _ y2) HI.out.1.not).trans y2,key (show w.heap.size<_ by omega) m2,key (show kb<_ by omega) q0,key (show kb<_ by omega) q1,key (show kb<_ by omega) q2,key (show kb<_ by omega) q3⟩
     have hmx:j+1≤maxLen:=by unfold maxLen;omega
     have hby:(j+1)*72≤140737488355328:=by omega
     clear hrs hs hmem z0 z1 z2 z3 p1 p2 p3
     go_wp2_with fail
     refine wp_region_noPanic ?_
     refine wp_region_S (fun w'=>But (fun i=>(Value.slice ga j gc).ownBlock=some i) wr w') (fun i=>i == 13) (by kernel_rfl) ?_
     have hSd:(fun w'=>But (fun i=>(Value.slice ga j gc).ownBlock=some i) wr w') wr.drew:=(But.refl _ wr).drew
     refine tk [0,1,2,3,4,5,6,7,8] hSd ?_
     (intro d hd;simp [tkD] at hd;subst hd;simp only [tks,pQ,pZ,pS])
     iterate 9 (refine ⟨?_,?_,?_⟩;rotate_left;· (intro oi ho;simp at ho;subst ho;refine Or.inl ⟨by rfl,fun w' hw'=>?_⟩;obtain ⟨e0,e1,e2,e3,e4,e5⟩:=SX.out w' hw';go_simp;try with_reducible rfl))
     (refine on 9 ?_;intro o ho K' hK;simp at ho;subst ho;go_simp)
     go_at_call 26
     (with_reducible refine CC.out.mono ?_)
     rintro en6 w6 ⟨s6,v6,f1,u1,d1,f2,u2,d2,rfl,hb6,hr6⟩
     have hB6:Below wr.heap.size wr w6:=(Below.drew (Below.refl _ _)).trans hb6
     have HB6:Hid (But (fun i=>(Value.slice ga j gc).ownBlock=some i) wr w6):=But.ofBelow hB6
     have OWN6:=HI.out.1.own6 hB6 (.cells #[str s6,.int .i64 v6,.slice f1 u1 d1,.slice f2 u2 d2] 36)
     have H6:=Lib.hid (And.intro hB6 hr6);clear hb6 hr6 hB6
     (refine hK.out _ _ (fun _=>HB6.out) ?_;clear hK K';try simp only [pQ,pN,pZ,pS])
     (refine on 10 ?_;intro o ho K' hK;simp at ho;subst ho;go_simp)
     (refine hK.out _ _ (fun _=>HB6.out.alloc _) ?_;clear hK K';try simp only [pQ,pN,pZ,pS])
     (refine on 11 ?_;intro o ho K' hK;simp at ho;subst ho)
     refine step_append_gen (by rfl) _ _ _ (by rfl) 36 (.agg #[str [],.int .i64 0,.slice none 0 0,.slice none 0 0]) 4 72 Tryz.underlying34 Tryz.infoN rfl (by decide) (.slice ga j gc) j us (by rfl) OWN6 _ 1 [str s6,.int .i64 v6,.slice f1 u1 d1,.slice f2 u2 d2] (by rfl) (SrcSl.lit4 #[str s6,.int .i64 v6,.slice f1 u1 d1,.slice f2 u2 d2] rfl (by simp [str,Value.oneCell']) _ rfl) hmx hby ?_
     intro a' c' w7 ho7 hb7 hg7
     (refine hK.out _ _ (fun _=>(HB6.out.alloc _).trans hb7) ?_;clear hK K';try simp only [pQ,pN,pZ,pS])
     have hc7:=HI.out.1.cell7 H6.out.1 hb7
     have hc7':w7.cell? ⟨w.heap.size+1+1,2,none⟩=some (.slice ga j gc)∧w7.frozen? ⟨w.heap.size+1+1,2,none⟩=false:=⟨by simp [World.cell?,hc7],by simp [World.frozen?,hc7]⟩
     obtain ⟨hc8,hf8⟩:=hc7'
     have HC7:=Lib.hid hc7;clear hc7
     (refine on 12 ?_;intro o ho K' hK;simp at ho;subst ho;go_simp)
     (refine hK.out _ _ (fun _=>(HB6.out.alloc _).trans hb7) ?_;clear hK K';try simp only [pQ,pN,pZ,pS])
     (refine on 13 ?_;intro o ho K' hK;simp at ho;subst ho;go_simp)
     (refine hK.out _ _ (fun h=>by simp at h) ?_;clear hK K';try simp only [pQ,pN,pZ,pS])
     refine wpAnyS_done (by kernel_rfl) (NoPanic.normal ?_) _
     have hX:=HI.out.1.next (fun i h=>by have:=hF i h;omega) (w8:=w7.setCell ⟨w.heap.size+1+1,2,none⟩ (.slice a' (j+1) c')) H6.out.1 H6.out.2 ho7 hb7 hg7 (by rw [setCell_at HC7.out];rfl) (but_set _ _ _ _)
     have hX2:encNs (shiftBs (KS.take j) n k)++encN (shiftB s n k)=encNs (shiftBs (KS.take (j+1)) n k):=by rw [HK.out,encNs_append];simp [encNs]
     rw [hX2] at hX
     have HN:=Lib.hid hX
     clear hX hX2 ho7 hb7 hg7 hSd OWN6 hc8 hf8
     go_wp2_with fail
     go_roundw
     case rel=>exact ⟨j+1,_,_,by omega,by go_num,HN.out⟩
     case measure=>simp [intOf];omega
    ·obtain rfl:j=KS.length:=by omega
     have hsl:=HI.out.1.sl
     rw [List.take_length] at hsl
     have HK1:=Lib.hid hsl
     have HW2:=Lib.hid (And.intro HI.out.2.2.1 (And.intro HI.out.2.2.2 (And.intro ((HI.out.1.below.block _ (by omega)).trans HW1.out.2.2.1) HI.out.2.1)))
     have hzw:w.heap.size+1+1<wr.heap.size:=lt_of_heap HI.out.2.1
     obtain ⟨V,hV⟩:∃ V,V=wr:=⟨_,rfl⟩
     rw [← hV] at HK1 HW2 m2 m3 y2 y3 hzw ⊢
     clear hsl y0 y1 HI hV mm2 mm3
     go_wp2_with fail
     go_loopw [9] (fun i wr=>∃ (j:Nat) (sv:Value) (us:List Value),j≤YS.length∧i=.int .i64 j∧GrowF F V (w.heap.size+1+1) (fun sv=>.cells #[str [],.int .i64 ((L+k:Nat):Int),.slice ga KS.length gc,sv] 36 (0,0)) 36 4 j (encNs (shiftBs (YS.take j) n k)) sv us wr∧Keeps V (w.heap.size+1+1) sv wr) (fun i _=>YS.length-(intOf i).toNat)
     case atStart=>exact ⟨0,_,_,Nat.zero_le _,rfl,by simpa [shiftBs,encNs] using GrowF.start (F0:=F) (o:=fun sv=>.cells #[str [],.int .i64 ((L+k:Nat):Int),.slice ga KS.length gc,sv] 36 (0,0)) HW2.out.2.2.2,⟨⟨Nat.le_refl _,fun i x _ hx=>hx⟩,fun g hg=>by simp [Value.ownBlock] at hg⟩⟩
     case round =>
      rename_i wr
      clear m2 m3 y2 y3
      obtain ⟨j,sv,us,hj,rfl,hinv,hkeep⟩:=hrel
      obtain ⟨ja,jc,e⟩:=hinv.slice
      subst e
      have hblk:wr.heap[w.heap.size+1+1]? = some (.cells #[str [],.int .i64 ((L+k:Nat):Int),.slice ga KS.length gc,.slice ja j jc] 36 (0,0)):=hinv.blk
      have hbw:Below w.heap.size w wr:=HW2.out.1.trans (hinv.below.mono (by omega))
      obtain ⟨y0,y1,y2,y3⟩:=cells4 hblk
      have hnb:wr.heap[w.heap.size]? = some (.cells #[str [],.int .i64 (L:Nat),.slice ba1 KS.length bc1,.slice ba2 YS.length bc2] 36 (0,0)):=(hinv.below.block _ (by omega)).trans HW2.out.2.1
      obtain ⟨_,_,m2,m3⟩:=cells4 hnb
      have HI:=Lib.hid (And.intro hinv (And.intro hblk (And.intro hbw hnb)));clear hinv hblk hbw hnb
      have HKP:=Lib.hid hkeep;clear hkeep
      by_cases hlt:j<YS.length
      ·have hlt':(j:Int)<(YS.length:Int):=by omega
       obtain ⟨kb,ko,s1,v1,p4,m4,d4,p5,m5,d5,s,ek,hkw,hs,z0,z1,z2,z3,hrs⟩:=AY.out j hlt
       subst ek
       have hmem:s∈YS:=List.mem_of_getElem? hs
       obtain ⟨p1,p2,p3⟩:=HPK.out s (.inr hmem)
       have q0:=(HI.out.2.2.1.cell (p:=⟨kb,ko+j*4,none⟩) hkw).trans z0
       have q1:=(HI.out.2.2.1.cell (p:=⟨kb,ko+j*4+1,none⟩) hkw).trans z1
       have q2:=(HI.out.2.2.1.cell (p:=⟨kb,ko+j*4+2,none⟩) hkw).trans z2
       have q3:=(HI.out.2.2.1.cell (p:=⟨kb,ko+j*4+3,none⟩) hkw).trans z3
       have CC:=Lib.hid (IH.out F s n k _ _ _ _ wr.drew p1 (fun i hi=>Nat.lt_of_lt_of_le (hF i hi) HI.out.2.2.1.size) p3 p2 hn hk (Reps.below HI.out.2.2.1 (fun _ h=>h) hrs).drew)
       have HK:=Lib.hid (shiftBs_take hs n k)
       have SX:Hid (∀ w',But (fun i=>(Value.slice ja j jc).ownBlock=some i) wr w'→w'.cell? ⟨w.heap.size+1+1,3,none⟩=some (.slice ja j jc)∧w'.cell? ⟨w.heap.size,3,none⟩=some (.slice (some ⟨kb,ko,none⟩) YS.length bc2)∧w'.cell? ⟨kb,ko+j*4,none⟩=some (str s1)∧w'.cell? ⟨kb,ko+j*4+1,none⟩=some (.int .i64 v1)∧w'.cell? ⟨kb,ko+j*4+2,none⟩=some (.slice p4 m4 d4)∧w'.cell? ⟨kb,ko+j*4+3,none⟩=some (.slice p5 m5 d5)):=by
        show ∀ w',_→_
        intro w' hb'
        have key:∀ {p:Addr} {u:Value},p.block<w.heap.size+1+1→wr.cell? p=some u→w'.cell? p=some u:=fun hp hu=>(hb'.cell (World.block_lt_of_cell? wr _ hu) (fun e=>by have h1:=HI.out.1.fr _ e;omega)).trans hu
        exact ⟨(hb'.cell (World.block_lt_of_cell? wr _ y3) HI.out.1.not).trans y3,key (show w.heap.size<_ by omega) m3,key (show kb<_ by omega) q0,key (show kb<_ by omega) q1,key (show kb<_ by omega) q2,key (show kb<_ by omega) q3⟩
       have hmx:j+1≤maxLen:=by unfold maxLen;omega
       have hby:(j+1)*72≤140737488355328:=by omega
       clear hrs hs hmem z0 z1 z2 z3 p1 p2 p3
       go_wp2_with fail
       refine wp_region_noPanic ?_
       refine wp_region_S (fun w'=>But (fun i=>(Value.slice ja j jc).ownBlock=some i) wr w') (fun i=>i == 13) (by kernel_rfl) ?_
       have hSd:(fun w'=>But (fun i=>(Value.slice ja j jc).ownBlock=some i) wr w') wr.drew:=(But.refl _ wr).drew
       refine tk [0,1,2,3,4,5,6,7,8] hSd ?_
       (intro d hd;simp [tkD] at hd;subst hd;simp only [tks,pQ,pZ,pS])
       iterate 9 (refine ⟨?_,?_,?_⟩;rotate_left;· (intro oi ho;simp at ho;subst ho;refine Or.inl ⟨by rfl,fun w' hw'=>?_⟩;obtain ⟨e0,e1,e2,e3,e4,e5⟩:=SX.out w' hw';go_simp;try with_reducible rfl))
       (refine on 9 ?_;intro o ho K' hK;simp at ho;subst ho;go_simp)
       go_at_call 26
       (with_reducible refine CC.out.mono ?_)
       rintro en6 w6 ⟨s6,v6,f1,u1,d1,f2,u2,d2,rfl,hb6,hr6⟩
       have hB6:Below wr.heap.size wr w6:=(Below.drew (Below.refl _ _)).trans hb6
       have HB6:Hid (But (fun i=>(Value.slice ja j jc).ownBlock=some i) wr w6):=But.ofBelow hB6
       have OWN6:=HI.out.1.own6 hB6 (.cells #[str s6,.int .i64 v6,.slice f1 u1 d1,.slice f2 u2 d2] 36)
       have H6:=Lib.hid (And.intro hB6 hr6);clear hb6 hr6 hB6
       (refine hK.out _ _ (fun _=>HB6.out) ?_;clear hK K';try simp only [pQ,pN,pZ,pS])
       (refine on 10 ?_;intro o ho K' hK;simp at ho;subst ho;go_simp)
       (refine hK.out _ _ (fun _=>HB6.out.alloc _) ?_;clear hK K';try simp only [pQ,pN,pZ,pS])
       (refine on 11 ?_;intro o ho K' hK;simp at ho;subst ho)
       refine step_append_gen (by rfl) _ _ _ (by rfl) 36 (.agg #[str [],.int .i64 0,.slice none 0 0,.slice none 0 0]) 4 72 Tryz.underlying34 Tryz.infoN rfl (by decide) (.slice ja j jc) j us (by rfl) OWN6 _ 1 [str s6,.int .i64 v6,.slice f1 u1 d1,.slice f2 u2 d2] (by rfl) (SrcSl.lit4 #[str s6,.int .i64 v6,.slice f1 u1 d1,.slice f2 u2 d2] rfl (by simp [str,Value.oneCell']) _ rfl) hmx hby ?_
       intro a' c' w7 ho7 hb7 hg7
       (refine hK.out _ _ (fun _=>(HB6.out.alloc _).trans hb7) ?_;clear hK K';try simp only [pQ,pN,pZ,pS])
       have hc7:=HI.out.1.cell7 H6.out.1 hb7
       have hc7':w7.cell? ⟨w.heap.size+1+1,3,none⟩=some (.slice ja j jc)∧w7.frozen? ⟨w.heap.size+1+1,3,none⟩=false:=⟨by simp [World.cell?,hc7],by simp [World.frozen?,hc7]⟩
       obtain ⟨hc8,hf8⟩:=hc7'
       have HC7:=Lib.hid hc7;clear hc7
       (refine on 12 ?_;intro o ho K' hK;simp at ho;subst ho;go_simp)
       (refine hK.out _ _ (fun _=>(HB6.out.alloc _).trans hb7) ?_;clear hK K';try simp only [pQ,pN,pZ,pS])
       (refine on 13 ?_;intro o ho K' hK;simp at ho;subst ho;go_simp)
       (refine hK.out _ _ (fun h=>by simp at h) ?_;clear hK K';try simp only [pQ,pN,pZ,pS])
       refine wpAnyS_done (by kernel_rfl) (NoPanic.normal ?_) _
       have hX:=HI.out.1.next (fun i h=>by have:=hF i h;omega) (w8:=w7.setCell ⟨w.heap.size+1+1,3,none⟩ (.slice a' (j+1) c')) H6.out.1 H6.out.2 ho7 hb7 hg7 (by rw [setCell_at HC7.out];rfl) (but_set _ _ _ _)
       have hX2:encNs (shiftBs (YS.take j) n k)++encN (shiftB s n k)=encNs (shiftBs (YS.take (j+1)) n k):=by rw [HK.out,encNs_append];simp [encNs]
       rw [hX2] at hX
       have HN:=Lib.hid hX
       have HKP2:=Lib.hid (HKP.out.next (w8:=w7.setCell ⟨w.heap.size+1+1,3,none⟩ (.slice a' (j+1) c')) H6.out.1 hb7 hg7 (but_set _ _ _ _))
       clear hX hX2 ho7 hb7 hg7 hSd OWN6 hc8 hf8
       go_wp2_with fail
       go_roundw
       case rel=>exact ⟨j+1,_,_,by omega,by go_num,HN.out,HKP2.out⟩
       case measure=>simp [intOf];omega
      ·obtain rfl:j=YS.length:=by omega
       have NR:NewN (w.heap.size+1) 0 (.slice none 0 0) (.slice none 0 0) wr:=(HI.out.1.below.block _ (by omega)).trans HW2.out.2.2.1
       obtain ⟨k0,k1,k2,k3,_,kf⟩:=NR.cells
       have kf0:=kf 0;have kf1:=kf 1;have kf2:=kf 2;have kf3:=kf 3
       clear kf
       go_wp2_with fail
       obtain ⟨Z,hZ,s0',s1',s2',s3',hbZ,hkZ⟩:=NR.store (str []) (.int .i64 ((L:Int)+(k:Int))) (.slice ga KS.length gc) (.slice ja YS.length jc)
       rw [← hZ]
       refine bodyPost_ret (v:=.agg #[str [],.int .i64 ((L:Int)+(k:Int)),.slice ga KS.length gc,.slice ja YS.length jc]) (by simp [results,Tryz.results26,go_sem,s0',s1',s2',s3']) rfl ?_
       refine ⟨_,_,_,_,_,_,_,_,rfl,hbZ _ _ HI.out.2.2.1 (by omega),?_⟩
       have hsl:=HI.out.1.sl
       rw [List.take_length] at hsl
       rw [HE.out,if_pos (by first | exact ⟨rfl,hv⟩ | exact ⟨trivial,hv⟩)]
       have hne:∀ i,(F i∨w.heap.size+1+1<i)→i≠w.heap.size+1:=fun i h=>by rcases h with h | h;have:=hF i h;omega;omega
       have hP:∀ i,(F i∨w.heap.size+1+1<i)→i≠w.heap.size+1+1:=fun i h=>by rcases h with h | h;have:=hF i h;omega;omega
       refine Reps_cons.2 ⟨_,_,rfl,Rep_val.2 rfl,Reps_cons.2 ⟨_,_,rfl,Rep_val.2 (by first | rfl | simp),Reps_cons.2 ⟨_,_,rfl,?_,Reps_cons.2 ⟨_,_,rfl,?_,Reps_nil.2 rfl⟩⟩⟩⟩
       ·exact (Rep.keep fun i x h hx=>⟨h.elim .inl (fun h=>.inr (by omega)),hkZ i x (hne i h) (HKP.out.keep.2 i x (hP i h) hx)⟩).1 _ _ HK1.out
       ·exact (Rep.keep fun i x h hx=>⟨h.elim .inl (fun h=>.inr (by omega)),hkZ i x (hne i h) hx⟩).1 _ _ hsl
  ·go_enter Tryz.func26,Tryz.ntmps26
   go_upto_region 2 with (fail)
   rw [← hW0]
   clear hW0
   obtain ⟨o0,o1,o2,o3⟩:=cells4 bO
   obtain ⟨r0,r1,r2,r3⟩:=cells4 bB
   have of1:W0.frozen? ⟨w.heap.size+1+1,1,none⟩=false:=by simp only [World.frozen?,bO];rfl
   have hvI:¬ (n:Int)≤(L:Int):=by omega
   go_upto_region 4 with (fail)
   obtain ⟨W,hW⟩:∃ W,W0=W:=⟨_,rfl⟩
   rw [hW]
   have hO:W.heap[w.heap.size+1+1]? = some (.cells #[str [],.int .i64 ((L:Nat):Int),.slice none 0 0,.slice none 0 0] 36 (0,0)):=by
    rw [← hW]
    exact H0.out.2.2.2.2
   have hPW:Below (w.heap.size+1+1) W0 W:=by rw [← hW];exact Below.refl _ _
   have zz0:=H0.out.2.1
   have hzW:w.heap.size+1+1<W.heap.size:=by have:=hPW.size;omega
   have HW1:=Lib.hid (And.intro (H0.out.1.trans (hPW.mono (by omega))) (And.intro ((hPW.block _ (by omega)).trans H0.out.2.2.1) (And.intro ((hPW.block _ (by omega)).trans H0.out.2.2.2.1) hO)))
   clear hW hO hPW bB bR bO
   obtain ⟨_,_,mm2,mm3⟩:=cells4 HW1.out.2.1
   go_wp2_with fail
   go_loopw [8] (fun i wr=>∃ (j:Nat) (sv:Value) (us:List Value),j≤KS.length∧i=.int .i64 j∧GrowF F W (w.heap.size+1+1) (fun sv=>.cells #[str [],.int .i64 ((L:Nat):Int),sv,.slice none 0 0] 36 (0,0)) 36 4 j (encNs (shiftBs (KS.take j) n k)) sv us wr) (fun i _=>KS.length-(intOf i).toNat)
   case atStart=>exact ⟨0,_,_,Nat.zero_le _,rfl,by simpa [shiftBs,encNs] using GrowF.start (F0:=F) (o:=fun sv=>.cells #[str [],.int .i64 ((L:Nat):Int),sv,.slice none 0 0] 36 (0,0)) HW1.out.2.2.2⟩
   case round =>
    rename_i wr
    obtain ⟨j,sv,us,hj,rfl,hinv⟩:=hrel
    obtain ⟨ga,gc,e⟩:=hinv.slice
    subst e
    have hblk:wr.heap[w.heap.size+1+1]? = some (.cells #[str [],.int .i64 ((L:Nat):Int),.slice ga j gc,.slice none 0 0] 36 (0,0)):=hinv.blk
    have hbw:Below w.heap.size w wr:=HW1.out.1.trans (hinv.below.mono (by omega))
    obtain ⟨y0,y1,y2,y3⟩:=cells4 hblk
    have hnb:wr.heap[w.heap.size]? = some (.cells #[str [],.int .i64 (L:Nat),.slice ba1 KS.length bc1,.slice ba2 YS.length bc2] 36 (0,0)):=(hinv.below.block _ (by omega)).trans HW1.out.2.1
    obtain ⟨_,_,m2,m3⟩:=cells4 hnb
    have HI:=Lib.hid (And.intro hinv (And.intro hblk (And.intro hbw hnb)));clear hinv hblk hbw hnb
    by_cases hlt:j<KS.length
    ·have hlt':(j:Int)<(KS.length:Int):=by omega
     obtain ⟨kb,ko,s1,v1,p4,m4,d4,p5,m5,d5,s,ek,hkw,hs,z0,z1,z2,z3,hrs⟩:=AK.out j hlt
     subst ek
     have hmem:s∈KS:=List.mem_of_getElem? hs
     obtain ⟨p1,p2,p3⟩:=HPK.out s (.inl hmem)
     have q0:=(HI.out.2.2.1.cell (p:=⟨kb,ko+j*4,none⟩) hkw).trans z0
     have q1:=(HI.out.2.2.1.cell (p:=⟨kb,ko+j*4+1,none⟩) hkw).trans z1
     have q2:=(HI.out.2.2.1.cell (p:=⟨kb,ko+j*4+2,none⟩) hkw).trans z2
     have q3:=(HI.out.2.2.1.cell (p:=⟨kb,ko+j*4+3,none⟩) hkw).trans z3
     have CC:=Lib.hid (IH.out F s n k _ _ _ _ wr.drew p1 (fun i hi=>Nat.lt_of_lt_of_le (hF i hi) HI.out.2.2.1.size) p3 p2 hn hk (Reps.below HI.out.2.2.1 (fun _ h=>h) hrs).drew)
     have HK:=Lib.hid (shiftBs_take hs n k)
     have SX:Hid (∀ w',But (fun i=>(Value.slice ga j gc).ownBlock=some i) wr w'→w'.cell? ⟨w.heap.size+1+1,2,none⟩=some (.slice ga j gc)∧w'.cell? ⟨w.heap.size,2,none⟩=some (.slice (some ⟨kb,ko,none⟩) KS.length bc1)∧w'.cell? ⟨kb,ko+j*4,none⟩=some (str s1)∧w'.cell? ⟨kb,ko+j*4+1,none⟩=some (.int .i64 v1)∧w'.cell? ⟨kb,ko+j*4+2,none⟩=some (.slice p4 m4 d4)∧w'.cell? ⟨kb,ko+j*4+3,none⟩=some (.slice p5 m5 d5)):=by
      show ∀ w',_→_
      intro w' hb'
      have key:∀ {p:Addr} {u:Value},p.block<w.heap.size+1+1→wr.cell? p=some u→w'.cell? p=some u:=fun hp hu=>(hb'.cell (World.block_lt_of_cell? wr _ hu) (fun e=>by have h1:=HI.out.1.fr _ e;omega)).trans hu
      exact ⟨(hb'.cell (World.block_lt_of_cell? wr _ y2) HI.out.1.not).trans y2,key (show w.heap.size<_ by omega) m2,key (show kb<_ by omega) q0,key (show kb<_ by omega) q1,key (show kb<_ by omega) q2,key (show kb<_ by omega) q3⟩
     have hmx:j+1≤maxLen:=by unfold maxLen;omega
     have hby:(j+1)*72≤140737488355328:=by omega
     clear hrs hs hmem z0 z1 z2 z3 p1 p2 p3
     go_wp2_with fail
     refine wp_region_noPanic ?_
     refine wp_region_S (fun w'=>But (fun i=>(Value.slice ga j gc).ownBlock=some i) wr w') (fun i=>i == 13) (by kernel_rfl) ?_
     have hSd:(fun w'=>But (fun i=>(Value.slice ga j gc).ownBlock=some i) wr w') wr.drew:=(But.refl _ wr).drew
     refine tk [0,1,2,3,4,5,6,7,8] hSd ?_
     (intro d hd;simp [tkD] at hd;subst hd;simp only [tks,pQ,pZ,pS])
     iterate 9 (refine ⟨?_,?_,?_⟩;rotate_left;· (intro oi ho;simp at ho;subst ho;refine Or.inl ⟨by rfl,fun w' hw'=>?_⟩;obtain ⟨e0,e1,e2,e3,e4,e5⟩:=SX.out w' hw';go_simp;try with_reducible rfl))
     (refine on 9 ?_;intro o ho K' hK;simp at ho;subst ho;go_simp)
     go_at_call 26
     (with_reducible refine CC.out.mono ?_)
     rintro en6 w6 ⟨s6,v6,f1,u1,d1,f2,u2,d2,rfl,hb6,hr6⟩
     have hB6:Below wr.heap.size wr w6:=(Below.drew (Below.refl _ _)).trans hb6
     have HB6:Hid (But (fun i=>(Value.slice ga j gc).ownBlock=some i) wr w6):=But.ofBelow hB6
     have OWN6:=HI.out.1.own6 hB6 (.cells #[str s6,.int .i64 v6,.slice f1 u1 d1,.slice f2 u2 d2] 36)
     have H6:=Lib.hid (And.intro hB6 hr6);clear hb6 hr6 hB6
     (refine hK.out _ _ (fun _=>HB6.out) ?_;clear hK K';try simp only [pQ,pN,pZ,pS])
     (refine on 10 ?_;intro o ho K' hK;simp at ho;subst ho;go_simp)
     (refine hK.out _ _ (fun _=>HB6.out.alloc _) ?_;clear hK K';try simp only [pQ,pN,pZ,pS])
     (refine on 11 ?_;intro o ho K' hK;simp at ho;subst ho)
     refine step_append_gen (by rfl) _ _ _ (by rfl) 36 (.agg #[str [],.int .i64 0,.slice none 0 0,.slice none 0 0]) 4 72 Tryz.underlying34 Tryz.infoN rfl (by decide) (.slice ga j gc) j us (by rfl) OWN6 _ 1 [str s6,.int .i64 v6,.slice f1 u1 d1,.slice f2 u2 d2] (by rfl) (SrcSl.lit4 #[str s6,.int .i64 v6,.slice f1 u1 d1,.slice f2 u2 d2] rfl (by simp [str,Value.oneCell']) _ rfl) hmx hby ?_
     intro a' c' w7 ho7 hb7 hg7
     (refine hK.out _ _ (fun _=>(HB6.out.alloc _).trans hb7) ?_;clear hK K';try simp only [pQ,pN,pZ,pS])
     have hc7:=HI.out.1.cell7 H6.out.1 hb7
     have hc7':w7.cell? ⟨w.heap.size+1+1,2,none⟩=some (.slice ga j gc)∧w7.frozen? ⟨w.heap.size+1+1,2,none⟩=false:=⟨by simp [World.cell?,hc7],by simp [World.frozen?,hc7]⟩
     obtain ⟨hc8,hf8⟩:=hc7'
     have HC7:=Lib.hid hc7;clear hc7
     (refine on 12 ?_;intro o ho K' hK;simp at ho;subst ho;go_simp)
     (refine hK.out _ _ (fun _=>(HB6.out.alloc _).trans hb7) ?_;clear hK K';try simp only [pQ,pN,pZ,pS])
     (refine on 13 ?_;intro o ho K' hK;simp at ho;subst ho;go_simp)
     (refine hK.out _ _ (fun h=>by simp at h) ?_;clear hK K';try simp only [pQ,pN,pZ,pS])
     refine wpAnyS_done (by kernel_rfl) (NoPanic.normal ?_) _
     have hX:=HI.out.1.next (fun i h=>by have:=hF i h;omega) (w8:=w7.setCell ⟨w.heap.size+1+1,2,none⟩ (.slice a' (j+1) c')) H6.out.1 H6.out.2 ho7 hb7 hg7 (by rw [setCell_at HC7.out];rfl) (but_set _ _ _ _)
     have hX2:encNs (shiftBs (KS.take j) n k)++encN (shiftB s n k)=encNs (shiftBs (KS.take (j+1)) n k):=by rw [HK.out,encNs_append];simp [encNs]
     rw [hX2] at hX
     have HN:=Lib.hid hX
     clear hX hX2 ho7 hb7 hg7 hSd OWN6 hc8 hf8
     go_wp2_with fail
     go_roundw
     case rel=>exact ⟨j+1,_,_,by omega,by go_num,HN.out⟩
     case measure=>simp [intOf];omega
    ·obtain rfl:j=KS.length:=by omega
     have hsl:=HI.out.1.sl
     rw [List.take_length] at hsl
     have HK1:=Lib.hid hsl
     have HW2:=Lib.hid (And.intro HI.out.2.2.1 (And.intro HI.out.2.2.2 (And.intro ((HI.out.1.below.block _ (by omega)).trans HW1.out.2.2.1) HI.out.2.1)))
     have hzw:w.heap.size+1+1<wr.heap.size:=lt_of_heap HI.out.2.1
     obtain ⟨V,hV⟩:∃ V,V=wr:=⟨_,rfl⟩
     rw [← hV] at HK1 HW2 m2 m3 y2 y3 hzw ⊢
     clear hsl y0 y1 HI hV mm2 mm3
     go_wp2_with fail
     go_loopw [9] (fun i wr=>∃ (j:Nat) (sv:Value) (us:List Value),j≤YS.length∧i=.int .i64 j∧GrowF F V (w.heap.size+1+1) (fun sv=>.cells #[str [],.int .i64 ((L:Nat):Int),.slice ga KS.length gc,sv] 36 (0,0)) 36 4 j (encNs (shiftBs (YS.take j) n k)) sv us wr∧Keeps V (w.heap.size+1+1) sv wr) (fun i _=>YS.length-(intOf i).toNat)
     case atStart=>exact ⟨0,_,_,Nat.zero_le _,rfl,by simpa [shiftBs,encNs] using GrowF.start (F0:=F) (o:=fun sv=>.cells #[str [],.int .i64 ((L:Nat):Int),.slice ga KS.length gc,sv] 36 (0,0)) HW2.out.2.2.2,⟨⟨Nat.le_refl _,fun i x _ hx=>hx⟩,fun g hg=>by simp [Value.ownBlock] at hg⟩⟩
     case round =>
      rename_i wr
      clear m2 m3 y2 y3
      obtain ⟨j,sv,us,hj,rfl,hinv,hkeep⟩:=hrel
      obtain ⟨ja,jc,e⟩:=hinv.slice
      subst e
      have hblk:wr.heap[w.heap.size+1+1]? = some (.cells #[str [],.int .i64 ((L:Nat):Int),.slice ga KS.length gc,.slice ja j jc] 36 (0,0)):=hinv.blk
      have hbw:Below w.heap.size w wr:=HW2.out.1.trans (hinv.below.mono (by omega))
      obtain ⟨y0,y1,y2,y3⟩:=cells4 hblk
      have hnb:wr.heap[w.heap.size]? = some (.cells #[str [],.int .i64 (L:Nat),.slice ba1 KS.length bc1,.slice ba2 YS.length bc2] 36 (0,0)):=(hinv.below.block _ (by omega)).trans HW2.out.2.1
      obtain ⟨_,_,m2,m3⟩:=cells4 hnb
      have HI:=Lib.hid (And.intro hinv (And.intro hblk (And.intro hbw hnb)));clear hinv hblk hbw hnb
      have HKP:=Lib.hid hkeep;clear hkeep
      by_cases hlt:j<YS.length
      ·have hlt':(j:Int)<(YS.length:Int):=by omega
       obtain ⟨kb,ko,s1,v1,p4,m4,d4,p5,m5,d5,s,ek,hkw,hs,z0,z1,z2,z3,hrs⟩:=AY.out j hlt
       subst ek
       have hmem:s∈YS:=List.mem_of_getElem? hs
       obtain ⟨p1,p2,p3⟩:=HPK.out s (.inr hmem)
       have q0:=(HI.out.2.2.1.cell (p:=⟨kb,ko+j*4,none⟩) hkw).trans z0
       have q1:=(HI.out.2.2.1.cell (p:=⟨kb,ko+j*4+1,none⟩) hkw).trans z1
       have q2:=(HI.out.2.2.1.cell (p:=⟨kb,ko+j*4+2,none⟩) hkw).trans z2
       have q3:=(HI.out.2.2.1.cell (p:=⟨kb,ko+j*4+3,none⟩) hkw).trans z3
       have CC:=Lib.hid (IH.out F s n k _ _ _ _ wr.drew p1 (fun i hi=>Nat.lt_of_lt_of_le (hF i hi) HI.out.2.2.1.size) p3 p2 hn hk (Reps.below HI.out.2.2.1 (fun _ h=>h) hrs).drew)
       have HK:=Lib.hid (shiftBs_take hs n k)
       have SX:Hid (∀ w',But (fun i=>(Value.slice ja j jc).ownBlock=some i) wr w'→w'.cell? ⟨w.heap.size+1+1,3,none⟩=some (.slice ja j jc)∧w'.cell? ⟨w.heap.size,3,none⟩=some (.slice (some ⟨kb,ko,none⟩) YS.length bc2)∧w'.cell? ⟨kb,ko+j*4,none⟩=some (str s1)∧w'.cell? ⟨kb,ko+j*4+1,none⟩=some (.int .i64 v1)∧w'.cell? ⟨kb,ko+j*4+2,none⟩=some (.slice p4 m4 d4)∧w'.cell? ⟨kb,ko+j*4+3,none⟩=some (.slice p5 m5 d5)):=by
        show ∀ w',_→_
        intro w' hb'
        have key:∀ {p:Addr} {u:Value},p.block<w.heap.size+1+1→wr.cell? p=some u→w'.cell? p=some u:=fun hp hu=>(hb'.cell (World.block_lt_of_cell? wr _ hu) (fun e=>by have h1:=HI.out.1.fr _ e;omega)).trans hu
        exact ⟨(hb'.cell (World.block_lt_of_cell? wr _ y3) HI.out.1.not).trans y3,key (show w.heap.size<_ by omega) m3,key (show kb<_ by omega) q0,key (show kb<_ by omega) q1,key (show kb<_ by omega) q2,key (show kb<_ by omega) q3⟩
       have hmx:j+1≤maxLen:=by unfold maxLen;omega
       have hby:(j+1)*72≤140737488355328:=by omega
       clear hrs hs hmem z0 z1 z2 z3 p1 p2 p3
       go_wp2_with fail
       refine wp_region_noPanic ?_
       refine wp_region_S (fun w'=>But (fun i=>(Value.slice ja j jc).ownBlock=some i) wr w') (fun i=>i == 13) (by kernel_rfl) ?_
       have hSd:(fun w'=>But (fun i=>(Value.slice ja j jc).ownBlock=some i) wr w') wr.drew:=(But.refl _ wr).drew
       refine tk [0,1,2,3,4,5,6,7,8] hSd ?_
       (intro d hd;simp [tkD] at hd;subst hd;simp only [tks,pQ,pZ,pS])
       iterate 9 (refine ⟨?_,?_,?_⟩;rotate_left;· (intro oi ho;simp at ho;subst ho;refine Or.inl ⟨by rfl,fun w' hw'=>?_⟩;obtain ⟨e0,e1,e2,e3,e4,e5⟩:=SX.out w' hw';go_simp;try with_reducible rfl))
       (refine on 9 ?_;intro o ho K' hK;simp at ho;subst ho;go_simp)
       go_at_call 26
       (with_reducible refine CC.out.mono ?_)
       rintro en6 w6 ⟨s6,v6,f1,u1,d1,f2,u2,d2,rfl,hb6,hr6⟩
       have hB6:Below wr.heap.size wr w6:=(Below.drew (Below.refl _ _)).trans hb6
       have HB6:Hid (But (fun i=>(Value.slice ja j jc).ownBlock=some i) wr w6):=But.ofBelow hB6
       have OWN6:=HI.out.1.own6 hB6 (.cells #[str s6,.int .i64 v6,.slice f1 u1 d1,.slice f2 u2 d2] 36)
       have H6:=Lib.hid (And.intro hB6 hr6);clear hb6 hr6 hB6
       (refine hK.out _ _ (fun _=>HB6.out) ?_;clear hK K';try simp only [pQ,pN,pZ,pS])
       (refine on 10 ?_;intro o ho K' hK;simp at ho;subst ho;go_simp)
       (refine hK.out _ _ (fun _=>HB6.out.alloc _) ?_;clear hK K';try simp only [pQ,pN,pZ,pS])
       (refine on 11 ?_;intro o ho K' hK;simp at ho;subst ho)
       refine step_append_gen (by rfl) _ _ _ (by rfl) 36 (.agg #[str [],.int .i64 0,.slice none 0 0,.slice none 0 0]) 4 72 Tryz.underlying34 Tryz.infoN rfl (by decide) (.slice ja j jc) j us (by rfl) OWN6 _ 1 [str s6,.int .i64 v6,.slice f1 u1 d1,.slice f2 u2 d2] (by rfl) (SrcSl.lit4 #[str s6,.int .i64 v6,.slice f1 u1 d1,.slice f2 u2 d2] rfl (by simp [str,Value.oneCell']) _ rfl) hmx hby ?_
       intro a' c' w7 ho7 hb7 hg7
       (refine hK.out _ _ (fun _=>(HB6.out.alloc _).trans hb7) ?_;clear hK K';try simp only [pQ,pN,pZ,pS])
       have hc7:=HI.out.1.cell7 H6.out.1 hb7
       have hc7':w7.cell? ⟨w.heap.size+1+1,3,none⟩=some (.slice ja j jc)∧w7.frozen? ⟨w.heap.size+1+1,3,none⟩=false:=⟨by simp [World.cell?,hc7],by simp [World.frozen?,hc7]⟩
       obtain ⟨hc8,hf8⟩:=hc7'
       have HC7:=Lib.hid hc7;clear hc7
       (refine on 12 ?_;intro o ho K' hK;simp at ho;subst ho;go_simp)
       (refine hK.out _ _ (fun _=>(HB6.out.alloc _).trans hb7) ?_;clear hK K';try simp only [pQ,pN,pZ,pS])
       (refine on 13 ?_;intro o ho K' hK;simp at ho;subst ho;go_simp)
       (refine hK.out _ _ (fun h=>by simp at h) ?_;clear hK K';try simp only [pQ,pN,pZ,pS])
       refine wpAnyS_done (by kernel_rfl) (NoPanic.normal ?_) _
       have hX:=HI.out.1.next (fun i h=>by have:=hF i h;omega) (w8:=w7.setCell ⟨w.heap.size+1+1,3,none⟩ (.slice a' (j+1) c')) H6.out.1 H6.out.2 ho7 hb7 hg7 (by rw [setCell_at HC7.out];rfl) (but_set _ _ _ _)
       have hX2:encNs (shiftBs (YS.take j) n k)++encN (shiftB s n k)=encNs (shiftBs (YS.take (j+1)) n k):=by rw [HK.out,encNs_append];simp [encNs]
       rw [hX2] at hX
       have HN:=Lib.hid hX
       have HKP2:=Lib.hid (HKP.out.next (w8:=w7.setCell ⟨w.heap.size+1+1,3,none⟩ (.slice a' (j+1) c')) H6.out.1 hb7 hg7 (but_set _ _ _ _))
       clear hX hX2 ho7 hb7 hg7 hSd OWN6 hc8 hf8
       go_wp2_with fail
       go_roundw
       case rel=>exact ⟨j+1,_,_,by omega,by go_num,HN.out,HKP2.out⟩
       case measure=>simp [intOf];omega
      ·obtain rfl:j=YS.length:=by omega
       have NR:NewN (w.heap.size+1) 0 (.slice none 0 0) (.slice none 0 0) wr:=(HI.out.1.below.block _ (by omega)).trans HW2.out.2.2.1
       obtain ⟨k0,k1,k2,k3,_,kf⟩:=NR.cells
       have kf0:=kf 0;have kf1:=kf 1;have kf2:=kf 2;have kf3:=kf 3
       clear kf
       go_wp2_with fail
       obtain ⟨Z,hZ,s0',s1',s2',s3',hbZ,hkZ⟩:=NR.store (str []) (.int .i64 (((L:Nat):Int))) (.slice ga KS.length gc) (.slice ja YS.length jc)
       rw [← hZ]
       refine bodyPost_ret (v:=.agg #[str [],.int .i64 (((L:Nat):Int)),.slice ga KS.length gc,.slice ja YS.length jc]) (by simp [results,Tryz.results26,go_sem,s0',s1',s2',s3']) rfl ?_
       refine ⟨_,_,_,_,_,_,_,_,rfl,hbZ _ _ HI.out.2.2.1 (by omega),?_⟩
       have hsl:=HI.out.1.sl
       rw [List.take_length] at hsl
       rw [HE.out,if_neg (fun h=>hv h.2)]
       have hne:∀ i,(F i∨w.heap.size+1+1<i)→i≠w.heap.size+1:=fun i h=>by rcases h with h | h;have:=hF i h;omega;omega
       have hP:∀ i,(F i∨w.heap.size+1+1<i)→i≠w.heap.size+1+1:=fun i h=>by rcases h with h | h;have:=hF i h;omega;omega
       refine Reps_cons.2 ⟨_,_,rfl,Rep_val.2 rfl,Reps_cons.2 ⟨_,_,rfl,Rep_val.2 (by first | rfl | simp),Reps_cons.2 ⟨_,_,rfl,?_,Reps_cons.2 ⟨_,_,rfl,?_,Reps_nil.2 rfl⟩⟩⟩⟩
       ·exact (Rep.keep fun i x h hx=>⟨h.elim .inl (fun h=>.inr (by omega)),hkZ i x (hne i h) (HKP.out.keep.2 i x (hP i h) hx)⟩).1 _ _ HK1.out
       ·exact (Rep.keep fun i x h hx=>⟨h.elim .inl (fun h=>.inr (by omega)),hkZ i x (hne i h) hx⟩).1 _ _ hsl
 ·go_enter Tryz.func26,Tryz.ntmps26
  go_upto_region 2 with (fail)
  rw [← hW0]
  clear hW0
  obtain ⟨o0,o1,o2,o3⟩:=cells4 bO
  obtain ⟨r0,r1,r2,r3⟩:=cells4 bB
  have of1:W0.frozen? ⟨w.heap.size+1+1,1,none⟩=false:=by simp only [World.frozen?,bO];rfl
  have hne1:(A == [])=false:=by rw [beq_eq_false_iff_ne];exact hA0
  have hne2:A.isEmpty=false:=by cases A with | nil=>exact absurd rfl hA0 | cons a b=>rfl
  go_upto_region 4 with (fail)
  obtain ⟨W,hW⟩:∃ W,W0=W:=⟨_,rfl⟩
  rw [hW]
  have hO:W.heap[w.heap.size+1+1]? = some (.cells #[str A,.int .i64 ((L:Nat):Int),.slice none 0 0,.slice none 0 0] 36 (0,0)):=by
   rw [← hW]
   exact H0.out.2.2.2.2
  have hPW:Below (w.heap.size+1+1) W0 W:=by rw [← hW];exact Below.refl _ _
  have zz0:=H0.out.2.1
  have hzW:w.heap.size+1+1<W.heap.size:=by have:=hPW.size;omega
  have HW1:=Lib.hid (And.intro (H0.out.1.trans (hPW.mono (by omega))) (And.intro ((hPW.block _ (by omega)).trans H0.out.2.2.1) (And.intro ((hPW.block _ (by omega)).trans H0.out.2.2.2.1) hO)))
  clear hW hO hPW bB bR bO
  obtain ⟨_,_,mm2,mm3⟩:=cells4 HW1.out.2.1
  go_wp2_with fail
  go_loopw [8] (fun i wr=>∃ (j:Nat) (sv:Value) (us:List Value),j≤KS.length∧i=.int .i64 j∧GrowF F W (w.heap.size+1+1) (fun sv=>.cells #[str A,.int .i64 ((L:Nat):Int),sv,.slice none 0 0] 36 (0,0)) 36 4 j (encNs (shiftBs (KS.take j) n k)) sv us wr) (fun i _=>KS.length-(intOf i).toNat)
  case atStart=>exact ⟨0,_,_,Nat.zero_le _,rfl,by simpa [shiftBs,encNs] using GrowF.start (F0:=F) (o:=fun sv=>.cells #[str A,.int .i64 ((L:Nat):Int),sv,.slice none 0 0] 36 (0,0)) HW1.out.2.2.2⟩
  case round =>
   rename_i wr
   obtain ⟨j,sv,us,hj,rfl,hinv⟩:=hrel
   obtain ⟨ga,gc,e⟩:=hinv.slice
   subst e
   have hblk:wr.heap[w.heap.size+1+1]? = some (.cells #[str A,.int .i64 ((L:Nat):Int),.slice ga j gc,.slice none 0 0] 36 (0,0)):=hinv.blk
   have hbw:Below w.heap.size w wr:=HW1.out.1.trans (hinv.below.mono (by omega))
   obtain ⟨y0,y1,y2,y3⟩:=cells4 hblk
   have hnb:wr.heap[w.heap.size]? = some (.cells #[str A,.int .i64 (L:Nat),.slice ba1 KS.length bc1,.slice ba2 YS.length bc2] 36 (0,0)):=(hinv.below.block _ (by omega)).trans HW1.out.2.1
   obtain ⟨_,_,m2,m3⟩:=cells4 hnb
   have HI:=Lib.hid (And.intro hinv (And.intro hblk (And.intro hbw hnb)));clear hinv hblk hbw hnb
   by_cases hlt:j<KS.length
   ·have hlt':(j:Int)<(KS.length:Int):=by omega
    obtain ⟨kb,ko,s1,v1,p4,m4,d4,p5,m5,d5,s,ek,hkw,hs,z0,z1,z2,z3,hrs⟩:=AK.out j hlt
    subst ek
    have hmem:s∈KS:=List.mem_of_getElem? hs
    obtain ⟨p1,p2,p3⟩:=HPK.out s (.inl hmem)
    have q0:=(HI.out.2.2.1.cell (p:=⟨kb,ko+j*4,none⟩) hkw).trans z0
    have q1:=(HI.out.2.2.1.cell (p:=⟨kb,ko+j*4+1,none⟩) hkw).trans z1
    have q2:=(HI.out.2.2.1.cell (p:=⟨kb,ko+j*4+2,none⟩) hkw).trans z2
    have q3:=(HI.out.2.2.1.cell (p:=⟨kb,ko+j*4+3,none⟩) hkw).trans z3
    have CC:=Lib.hid (IH.out F s n k _ _ _ _ wr.drew p1 (fun i hi=>Nat.lt_of_lt_of_le (hF i hi) HI.out.2.2.1.size) p3 p2 hn hk (Reps.below HI.out.2.2.1 (fun _ h=>h) hrs).drew)
    have HK:=Lib.hid (shiftBs_take hs n k)
    have SX:Hid (∀ w',But (fun i=>(Value.slice ga j gc).ownBlock=some i) wr w'→w'.cell? ⟨w.heap.size+1+1,2,none⟩=some (.slice ga j gc)∧w'.cell? ⟨w.heap.size,2,none⟩=some (.slice (some ⟨kb,ko,none⟩) KS.length bc1)∧w'.cell? ⟨kb,ko+j*4,none⟩=some (str s1)∧w'.cell? ⟨kb,ko+j*4+1,none⟩=some (.int .i64 v1)∧w'.cell? ⟨kb,ko+j*4+2,none⟩=some (.slice p4 m4 d4)∧w'.cell? ⟨kb,ko+j*4+3,none⟩=some (.slice p5 m5 d5)):=by
     show ∀ w',_→_
     intro w' hb'
     have key:∀ {p:Addr} {u:Value},p.block<w.heap.size+1+1→wr.cell? p=some u→w'.cell? p=some u:=fun hp hu=>(hb'.cell (World.block_lt_of_cell? wr _ hu) (fun e=>by have h1:=HI.out.1.fr _ e;omega)).trans hu
     exact ⟨(hb'.cell (World.block_lt_of_cell? wr _ y2) HI.out.1.not).trans y2,key (show w.heap.size<_ by omega) m2,key (show kb<_ by omega) q0,key (show kb<_ by omega) q1,key (show kb<_ by omega) q2,key (show kb<_ by omega) q3⟩
    have hmx:j+1≤maxLen:=by unfold maxLen;omega
    have hby:(j+1)*72≤140737488355328:=by omega
    clear hrs hs hmem z0 z1 z2 z3 p1 p2 p3
    go_wp2_with fail
    refine wp_region_noPanic ?_
    refine wp_region_S (fun w'=>But (fun i=>(Value.slice ga j gc).ownBlock=some i) wr w') (fun i=>i == 13) (by kernel_rfl) ?_
    have hSd:(fun w'=>But (fun i=>(Value.slice ga j gc).ownBlock=some i) wr w') wr.drew:=(But.refl _ wr).drew
    refine tk [0,1,2,3,4,5,6,7,8] hSd ?_
    (intro d hd;simp [tkD] at hd;subst hd;simp only [tks,pQ,pZ,pS])
    iterate 9 (refine ⟨?_,?_,?_⟩;rotate_left;· (intro oi ho;simp at ho;subst ho;refine Or.inl ⟨by rfl,fun w' hw'=>?_⟩;obtain ⟨e0,e1,e2,e3,e4,e5⟩:=SX.out w' hw';go_simp;try with_reducible rfl))
    (refine on 9 ?_;intro o ho K' hK;simp at ho;subst ho;go_simp)
    go_at_call 26
    (with_reducible refine CC.out.mono ?_)
    rintro en6 w6 ⟨s6,v6,f1,u1,d1,f2,u2,d2,rfl,hb6,hr6⟩
    have hB6:Below wr.heap.size wr w6:=(Below.drew (Below.refl _ _)).trans hb6
    have HB6:Hid (But (fun i=>(Value.slice ga j gc).ownBlock=some i) wr w6):=But.ofBelow hB6
    have OWN6:=HI.out.1.own6 hB6 (.cells #[str s6,.int .i64 v6,.slice f1 u1 d1,.slice f2 u2 d2] 36)
    have H6:=Lib.hid (And.intro hB6 hr6);clear hb6 hr6 hB6
    (refine hK.out _ _ (fun _=>HB6.out) ?_;clear hK K';try simp only [pQ,pN,pZ,pS])
    (refine on 10 ?_;intro o ho K' hK;simp at ho;subst ho;go_simp)
    (refine hK.out _ _ (fun _=>HB6.out.alloc _) ?_;clear hK K';try simp only [pQ,pN,pZ,pS])
    (refine on 11 ?_;intro o ho K' hK;simp at ho;subst ho)
    refine step_append_gen (by rfl) _ _ _ (by rfl) 36 (.agg #[str [],.int .i64 0,.slice none 0 0,.slice none 0 0]) 4 72 Tryz.underlying34 Tryz.infoN rfl (by decide) (.slice ga j gc) j us (by rfl) OWN6 _ 1 [str s6,.int .i64 v6,.slice f1 u1 d1,.slice f2 u2 d2] (by rfl) (SrcSl.lit4 #[str s6,.int .i64 v6,.slice f1 u1 d1,.slice f2 u2 d2] rfl (by simp [str,Value.oneCell']) _ rfl) hmx hby ?_
    intro a' c' w7 ho7 hb7 hg7
    (refine hK.out _ _ (fun _=>(HB6.out.alloc _).trans hb7) ?_;clear hK K';try simp only [pQ,pN,pZ,pS])
    have hc7:=HI.out.1.cell7 H6.out.1 hb7
    have hc7':w7.cell? ⟨w.heap.size+1+1,2,none⟩=some (.slice ga j gc)∧w7.frozen? ⟨w.heap.size+1+1,2,none⟩=false:=⟨by simp [World.cell?,hc7],by simp [World.frozen?,hc7]⟩
    obtain ⟨hc8,hf8⟩:=hc7'
    have HC7:=Lib.hid hc7;clear hc7
    (refine on 12 ?_;intro o ho K' hK;simp at ho;subst ho;go_simp)
    (refine hK.out _ _ (fun _=>(HB6.out.alloc _).trans hb7) ?_;clear hK K';try simp only [pQ,pN,pZ,pS])
    (refine on 13 ?_;intro o ho K' hK;simp at ho;subst ho;go_simp)
    (refine hK.out _ _ (fun h=>by simp at h) ?_;clear hK K';try simp only [pQ,pN,pZ,pS])
    refine wpAnyS_done (by kernel_rfl) (NoPanic.normal ?_) _
    have hX:=HI.out.1.next (fun i h=>by have:=hF i h;omega) (w8:=w7.setCell ⟨w.heap.size+1+1,2,none⟩ (.slice a' (j+1) c')) H6.out.1 H6.out.2 ho7 hb7 hg7 (by rw [setCell_at HC7.out];rfl) (but_set _ _ _ _)
    have hX2:encNs (shiftBs (KS.take j) n k)++encN (shiftB s n k)=encNs (shiftBs (KS.take (j+1)) n k):=by rw [HK.out,encNs_append];simp [encNs]
    rw [hX2] at hX
    have HN:=Lib.hid hX
    clear hX hX2 ho7 hb7 hg7 hSd OWN6 hc8 hf8
    go_wp2_with fail
    go_roundw
    case rel=>exact ⟨j+1,_,_,by omega,by go_num,HN.out⟩
    case measure=>simp [intOf];omega
   ·obtain rfl:j=KS.length:=by omega
    have hsl:=HI.out.1.sl
    rw [List.take_length] at hsl
    have HK1:=Lib.hid hsl
    have HW2:=Lib.hid (And.intro HI.out.2.2.1 (And.intro HI.out.2.2.2 (And.intro ((HI.out.1.below.block _ (by omega)).trans HW1.out.2.2.1) HI.out.2.1)))
    have hzw:w.heap.size+1+1<wr.heap.size:=lt_of_heap HI.out.2.1
    obtain ⟨V,hV⟩:∃ V,V=wr:=⟨_,rfl⟩
    rw [← hV] at HK1 HW2 m2 m3 y2 y3 hzw ⊢
    clear hsl y0 y1 HI hV mm2 mm3
    go_wp2_with fail
    go_loopw [9] (fun i wr=>∃ (j:Nat) (sv:Value) (us:List Value),j≤YS.length∧i=.int .i64 j∧GrowF F V (w.heap.size+1+1) (fun sv=>.cells #[str A,.int .i64 ((L:Nat):Int),.slice ga KS.length gc,sv] 36 (0,0)) 36 4 j (encNs (shiftBs (YS.take j) n k)) sv us wr∧Keeps V (w.heap.size+1+1) sv wr) (fun i _=>YS.length-(intOf i).toNat)
    case atStart=>exact ⟨0,_,_,Nat.zero_le _,rfl,by simpa [shiftBs,encNs] using GrowF.start (F0:=F) (o:=fun sv=>.cells #[str A,.int .i64 ((L:Nat):Int),.slice ga KS.length gc,sv] 36 (0,0)) HW2.out.2.2.2,⟨⟨Nat.le_refl _,fun i x _ hx=>hx⟩,fun g hg=>by simp [Value.ownBlock] at hg⟩⟩
    case round =>
     rename_i wr
     clear m2 m3 y2 y3
     obtain ⟨j,sv,us,hj,rfl,hinv,hkeep⟩:=hrel
     obtain ⟨ja,jc,e⟩:=hinv.slice
     subst e
     have hblk:wr.heap[w.heap.size+1+1]? = some (.cells #[str A,.int .i64 ((L:Nat):Int),.slice ga KS.length gc,.slice ja j jc] 36 (0,0)):=hinv.blk
     have hbw:Below w.heap.size w wr:=HW2.out.1.trans (hinv.below.mono (by omega))
     obtain ⟨y0,y1,y2,y3⟩:=cells4 hblk
     have hnb:wr.heap[w.heap.size]? = some (.cells #[str A,.int .i64 (L:Nat),.slice ba1 KS.length bc1,.slice ba2 YS.length bc2] 36 (0,0)):=(hinv.below.block _ (by omega)).trans HW2.out.2.1
     obtain ⟨_,_,m2,m3⟩:=cells4 hnb
     have HI:=Lib.hid (And.intro hinv (And.intro hblk (And.intro hbw hnb)));clear hinv hblk hbw hnb
     have HKP:=Lib.hid hkeep;clear hkeep
     by_cases hlt:j<YS.length
     ·have hlt':(j:Int)<(YS.length:Int):=by omega
      obtain ⟨kb,ko,s1,v1,p4,m4,d4,p5,m5,d5,s,ek,hkw,hs,z0,z1,z2,z3,hrs⟩:=AY.out j hlt
      subst ek
      have hmem:s∈YS:=List.mem_of_getElem? hs
      obtain ⟨p1,p2,p3⟩:=HPK.out s (.inr hmem)
      have q0:=(HI.out.2.2.1.cell (p:=⟨kb,ko+j*4,none⟩) hkw).trans z0
      have q1:=(HI.out.2.2.1.cell (p:=⟨kb,ko+j*4+1,none⟩) hkw).trans z1
      have q2:=(HI.out.2.2.1.cell (p:=⟨kb,ko+j*4+2,none⟩) hkw).trans z2
      have q3:=(HI.out.2.2.1.cell (p:=⟨kb,ko+j*4+3,none⟩) hkw).trans z3
      have CC:=Lib.hid (IH.out F s n k _ _ _ _ wr.drew p1 (fun i hi=>Nat.lt_of_lt_of_le (hF i hi) HI.out.2.2.1.size) p3 p2 hn hk (Reps.below HI.out.2.2.1 (fun _ h=>h) hrs).drew)
      have HK:=Lib.hid (shiftBs_take hs n k)
      have SX:Hid (∀ w',But (fun i=>(Value.slice ja j jc).ownBlock=some i) wr w'→w'.cell? ⟨w.heap.size+1+1,3,none⟩=some (.slice ja j jc)∧w'.cell? ⟨w.heap.size,3,none⟩=some (.slice (some ⟨kb,ko,none⟩) YS.length bc2)∧w'.cell? ⟨kb,ko+j*4,none⟩=some (str s1)∧w'.cell? ⟨kb,ko+j*4+1,none⟩=some (.int .i64 v1)∧w'.cell? ⟨kb,ko+j*4+2,none⟩=some (.slice p4 m4 d4)∧w'.cell? ⟨kb,ko+j*4+3,none⟩=some (.slice p5 m5 d5)):=by
       show ∀ w',_→_
       intro w' hb'
       have key:∀ {p:Addr} {u:Value},p.block<w.heap.size+1+1→wr.cell? p=some u→w'.cell? p=some u:=fun hp hu=>(hb'.cell (World.block_lt_of_cell? wr _ hu) (fun e=>by have h1:=HI.out.1.fr _ e;omega)).trans hu
       exact ⟨(hb'.cell (World.block_lt_of_cell? wr _ y3) HI.out.1.not).trans y3,key (show w.heap.size<_ by omega) m3,key (show kb<_ by omega) q0,key (show kb<_ by omega) q1,key (show kb<_ by omega) q2,key (show kb<_ by omega) q3⟩
      have hmx:j+1≤maxLen:=by unfold maxLen;omega
      have hby:(j+1)*72≤140737488355328:=by omega
      clear hrs hs hmem z0 z1 z2 z3 p1 p2 p3
      go_wp2_with fail
      refine wp_region_noPanic ?_
      refine wp_region_S (fun w'=>But (fun i=>(Value.slice ja j jc).ownBlock=some i) wr w') (fun i=>i == 13) (by kernel_rfl) ?_
      have hSd:(fun w'=>But (fun i=>(Value.slice ja j jc).ownBlock=some i) wr w') wr.drew:=(But.refl _ wr).drew
      refine tk [0,1,2,3,4,5,6,7,8] hSd ?_
      (intro d hd;simp [tkD] at hd;subst hd;simp only [tks,pQ,pZ,pS])
      iterate 9 (refine ⟨?_,?_,?_⟩;rotate_left;· (intro oi ho;simp at ho;subst ho;refine Or.inl ⟨by rfl,fun w' hw'=>?_⟩;obtain ⟨e0,e1,e2,e3,e4,e5⟩:=SX.out w' hw';go_simp;try with_reducible rfl))
      (refine on 9 ?_;intro o ho K' hK;simp at ho;subst ho;go_simp)
      go_at_call 26
      (with_reducible refine CC.out.mono ?_)
      rintro en6 w6 ⟨s6,v6,f1,u1,d1,f2,u2,d2,rfl,hb6,hr6⟩
      have hB6:Below wr.heap.size wr w6:=(Below.drew (Below.refl _ _)).trans hb6
      have HB6:Hid (But (fun i=>(Value.slice ja j jc).ownBlock=some i) wr w6):=But.ofBelow hB6
      have OWN6:=HI.out.1.own6 hB6 (.cells #[str s6,.int .i64 v6,.slice f1 u1 d1,.slice f2 u2 d2] 36)
      have H6:=Lib.hid (And.intro hB6 hr6);clear hb6 hr6 hB6
      (refine hK.out _ _ (fun _=>HB6.out) ?_;clear hK K';try simp only [pQ,pN,pZ,pS])
      (refine on 10 ?_;intro o ho K' hK;simp at ho;subst ho;go_simp)
      (refine hK.out _ _ (fun _=>HB6.out.alloc _) ?_;clear hK K';try simp only [pQ,pN,pZ,pS])
      (refine on 11 ?_;intro o ho K' hK;simp at ho;subst ho)
      refine step_append_gen (by rfl) _ _ _ (by rfl) 36 (.agg #[str [],.int .i64 0,.slice none 0 0,.slice none 0 0]) 4 72 Tryz.underlying34 Tryz.infoN rfl (by decide) (.slice ja j jc) j us (by rfl) OWN6 _ 1 [str s6,.int .i64 v6,.slice f1 u1 d1,.slice f2 u2 d2] (by rfl) (SrcSl.lit4 #[str s6,.int .i64 v6,.slice f1 u1 d1,.slice f2 u2 d2] rfl (by simp [str,Value.oneCell']) _ rfl) hmx hby ?_
      intro a' c' w7 ho7 hb7 hg7
      (refine hK.out _ _ (fun _=>(HB6.out.alloc _).trans hb7) ?_;clear hK K';try simp only [pQ,pN,pZ,pS])
      have hc7:=HI.out.1.cell7 H6.out.1 hb7
      have hc7':w7.cell? ⟨w.heap.size+1+1,3,none⟩=some (.slice ja j jc)∧w7.frozen? ⟨w.heap.size+1+1,3,none⟩=false:=⟨by simp [World.cell?,hc7],by simp [World.frozen?,hc7]⟩
      obtain ⟨hc8,hf8⟩:=hc7'
      have HC7:=Lib.hid hc7;clear hc7
      (refine on 12 ?_;intro o ho K' hK;simp at ho;subst ho;go_simp)
      (refine hK.out _ _ (fun _=>(HB6.out.alloc _).trans hb7) ?_;clear hK K';try simp only [pQ,pN,pZ,pS])
      (refine on 13 ?_;intro o ho K' hK;simp at ho;subst ho;go_simp)
      (refine hK.out _ _ (fun h=>by simp at h) ?_;clear hK K';try simp only [pQ,pN,pZ,pS])
      refine wpAnyS_done (by kernel_rfl) (NoPanic.normal ?_) _
      have hX:=HI.out.1.next (fun i h=>by have:=hF i h;omega) (w8:=w7.setCell ⟨w.heap.size+1+1,3,none⟩ (.slice a' (j+1) c')) H6.out.1 H6.out.2 ho7 hb7 hg7 (by rw [setCell_at HC7.out];rfl) (but_set _ _ _ _)
      have hX2:encNs (shiftBs (YS.take j) n k)++encN (shiftB s n k)=encNs (shiftBs (YS.take (j+1)) n k):=by rw [HK.out,encNs_append];simp [encNs]
      rw [hX2] at hX
      have HN:=Lib.hid hX
      have HKP2:=Lib.hid (HKP.out.next (w8:=w7.setCell ⟨w.heap.size+1+1,3,none⟩ (.slice a' (j+1) c')) H6.out.1 hb7 hg7 (but_set _ _ _ _))
      clear hX hX2 ho7 hb7 hg7 hSd OWN6 hc8 hf8
      go_wp2_with fail
      go_roundw
      case rel=>exact ⟨j+1,_,_,by omega,by go_num,HN.out,HKP2.out⟩
      case measure=>simp [intOf];omega
     ·obtain rfl:j=YS.length:=by omega
      have NR:NewN (w.heap.size+1) 0 (.slice none 0 0) (.slice none 0 0) wr:=(HI.out.1.below.block _ (by omega)).trans HW2.out.2.2.1
      obtain ⟨k0,k1,k2,k3,_,kf⟩:=NR.cells
      have kf0:=kf 0;have kf1:=kf 1;have kf2:=kf 2;have kf3:=kf 3
      clear kf
      go_wp2_with fail
      obtain ⟨Z,hZ,s0',s1',s2',s3',hbZ,hkZ⟩:=NR.store (str A) (.int .i64 (((L:Nat):Int))) (.slice ga KS.length gc) (.slice ja YS.length jc)
      rw [← hZ]
      refine bodyPost_ret (v:=.agg #[str A,.int .i64 (((L:Nat):Int)),.slice ga KS.length gc,.slice ja YS.length jc]) (by simp [results,Tryz.results26,go_sem,s0',s1',s2',s3']) rfl ?_
      refine ⟨_,_,_,_,_,_,_,_,rfl,hbZ _ _ HI.out.2.2.1 (by omega),?_⟩
      have hsl:=HI.out.1.sl
      rw [List.take_length] at hsl
      rw [HE.out,if_neg (fun h=>hA0 h.1)]
      have hne:∀ i,(F i∨w.heap.size+1+1<i)→i≠w.heap.size+1:=fun i h=>by rcases h with h | h;have:=hF i h;omega;omega
      have hP:∀ i,(F i∨w.heap.size+1+1<i)→i≠w.heap.size+1+1:=fun i h=>by rcases h with h | h;have:=hF i h;omega;omega
      refine Reps_cons.2 ⟨_,_,rfl,Rep_val.2 rfl,Reps_cons.2 ⟨_,_,rfl,Rep_val.2 (by first | rfl | simp),Reps_cons.2 ⟨_,_,rfl,?_,Reps_cons.2 ⟨_,_,rfl,?_,Reps_nil.2 rfl⟩⟩⟩⟩
      ·exact (Rep.keep fun i x h hx=>⟨h.elim .inl (fun h=>.inr (by omega)),hkZ i x (hne i h) (HKP.out.keep.2 i x (hP i h) hx)⟩).1 _ _ HK1.out
      ·exact (Rep.keep fun i x h hx=>⟨h.elim .inl (fun h=>.inr (by omega)),hkZ i x (hne i h) hx⟩).1 _ _ hsl
theorem shift_any (M:Nat):ShSaid M:=by
 induction M with
 | zero=>exact fun F b n k b0 b1 b2 b3 w h=>by have:=sizeB_pos b;omega
 | succ M ih=>exact sh_step M ih
end Go.Proofs.YtapjaflnmklmeaaGreatDoor

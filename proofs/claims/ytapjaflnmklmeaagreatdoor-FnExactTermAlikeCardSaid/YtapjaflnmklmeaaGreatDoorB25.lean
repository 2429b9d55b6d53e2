import Derived.Test.YtapjaflnmklmeaaGreatDoorB21
import Derived.Test.YtapjaflnmklmeaaGreatDoorP36
import Derived.Test.YtapjaflnmklmeaaGreatDoorB12
/- The walk of the reference's l5Of at names, words and lam. -/
set_option linter.unusedVariables false
set_option linter.unusedSimpArgs false
namespace Go.Proofs.YtapjaflnmklmeaaGreatDoor
open Go.RowKit
def OfSaid (M:Nat):Prop:=∀ (F:Nat→Prop) (t:Tm) (ns:List Nm) (k:Ty) (nv tv s pv:Value) (w:World),sizeTm t≤M→KdPre F t ns nv tv s pv w→typeOf ns t=some k →
 Calls Tryz.prog 10 #[.agg #[nv,tv],.agg #[s,pv]] w (SAppPost F (meanOf ns t) w)
theorem of_fin {F:Nat→Prop} {w W0 Z W:World} {o:Option Bd} {s:Bs} {v:Int} {a1:Option Addr} {n1 c1:Nat} {a2:Option Addr} {n2 c2:Nat} (hF:∀ i,F i→i<w.heap.size) (h0:Below w.heap.size w W0) (hz:W0.heap.size=w.heap.size+1+1+1) (hb:Below W0.heap.size W0 Z) (hr:∀ x,o=some x→Reps (fun i=>F i∨W0.heap.size≤i) Z (encN x) [str s,.int .i64 v,.slice a1 n1 c1,.slice a2 n2 c2])
 (hbW:∀ B w0,Below B w0 Z→B≤w.heap.size+1+1→Below B w0 W) (hkW:∀ i x,i≠w.heap.size+1+1→Z.heap[i]? = some x→W.heap[i]? = some x):SAppPost F o w (.returned (.tuple #[.agg #[str s,.int .i64 v,.slice a1 n1 c1,.slice a2 n2 c2],.bool o.isSome])) W :=
 ⟨s,v,a1,n1,c1,a2,n2,c2,rfl,hbW _ _ (h0.trans (hb.mono h0.size)) (by omega),fun x hx=>(Rep.keep fun i u hi hu=>⟨hi.elim .inl (fun h=>.inr (by omega)),hkW i u (by rcases hi with h | h;have:=hF i h;omega;omega) hu⟩).2 _ _ (hr x hx)⟩
theorem heap4_set {w:World} {g c:Nat} {x:Obj} (h:w.heap[g]? = some x) (hg:g≠c) (u0 u1 u2 u3:Value):((((w.setCell ⟨c,0,none⟩ u0).setCell ⟨c,1,none⟩ u1).setCell ⟨c,2,none⟩ u2).setCell ⟨c,3,none⟩ u3).heap[g]? = some x:=by
 rw [Below.heap_setCell _ _ _ _ (by simpa using hg),Below.heap_setCell _ _ _ _ (by simpa using hg),Below.heap_setCell _ _ _ _ (by simpa using hg),Below.heap_setCell _ _ _ _ (by simpa using hg)];exact h
theorem Reps.weakS {F G:Nat→Prop} {w:World} {d:List DV} {v:List Value} (h:Reps F w d v) (k:∀ i,F i→G i):Reps G w d v:=(Rep.keep fun _ _ hf ho=>⟨k _ hf,ho⟩).2 _ _ h
set_option maxRecDepth 100000 in
set_option maxHeartbeats 4000000 in
theorem of_nm (F:Nat→Prop) (x:Bs) (ns:List Nm) (k0:Ty) (nv tv s pv:Value) (w:World) (hp:KdPre F (.nm x) ns nv tv s pv w) (hty:typeOf ns (.nm x)=some k0):Calls Tryz.prog 10 #[.agg #[nv,tv],.agg #[s,pv]] w (SAppPost F (meanOf ns (.nm x)) w):=by
 have hold:=hp.old
 obtain ⟨na,nc,rfl,_,_,hatN⟩:=Rep_sl1_open hp.rn
 obtain ⟨ka,kc,rfl,_,_,hatK⟩:=Rep_sl1_open hp.rk
 have hrt:=hp.rt
 rw [trTm] at hrt
 obtain ⟨qa,qc,e,hkids⟩:=encTr_open hrt
 simp only [atomTr,kidsTr,List.cons.injEq,and_true] at e hkids
 obtain ⟨rfl,rfl⟩:=e
 have hx0:x≠[]:=(name_sep hp.ok).1
 obtain ⟨W0,hW0⟩:∃ W,W=((w.alloc (.cells #[.slice na ns.length nc,.slice ka ns.length kc] 41)).alloc (.cells #[str x,.slice qa 0 qc] 28)).alloc (.cells #[str [],.int .i64 0,.slice none 0 0,.slice none 0 0] 36):=⟨_,rfl⟩
 obtain ⟨hb0,z0,bA,bB,bC⟩:=boxes3 w (.cells #[.slice na ns.length nc,.slice ka ns.length kc] 41) (.cells #[str x,.slice qa 0 qc] 28) (.cells #[str [],.int .i64 0,.slice none 0 0,.slice none 0 0] 36)
 rw [← hW0] at hb0 z0 bA bB bC
 have e0:W0.cell? ⟨w.heap.size,0,none⟩=some (.slice na ns.length nc):=by simp [World.cell?,bA]
 have e1:W0.cell? ⟨w.heap.size,1,none⟩=some (.slice ka ns.length kc):=by simp [World.cell?,bA]
 have t0:W0.cell? ⟨w.heap.size+1,0,none⟩=some (str x):=by simp [World.cell?,bB]
 have H0:=Lib.hid (And.intro hb0 (And.intro z0 bC))
 have hne:(x != [])=true:=by rw [bne_iff_ne];exact hx0
 have hne1:(!x.isEmpty)=true:=by cases x with | nil=>exact absurd rfl hx0 | cons a b=>rfl
 have hne2:x.isEmpty=false:=by cases x with | nil=>exact absurd rfl hx0 | cons a b=>rfl
 have AN:=Lib.hid hatN
 have AK:=Lib.hid hatK
 have hnl:ns.length≤100:=by have:=hp.room;omega
 have HP:=Lib.hid hp
 clear hatN hatK hb0 z0 bA bB bC hp
 go_enter Tryz.func10,Tryz.ntmps10
 go_wp2_with fail
 rw [← hW0]
 clear hW0
 go_loopw [7] (fun i wz=>∃ (k:Nat) (wr:World),wr=wz∧k≤ns.length∧i=.int .i64 ((k:Int)-1)∧FoundR ns x k∧Below W0.heap.size W0 wr) (fun i _=>(intOf i+1).toNat)
 case atStart=>exact ⟨ns.length,_,rfl,Nat.le_refl _,rfl,rfl,Below.refl _ _⟩
 case round =>
  obtain ⟨k,wr,ewr,hk,rfl,hf,hbr⟩:=hrel
  subst ewr
  have e0':=(hbr.cell (World.block_lt_of_cell? W0 _ e0)).trans e0
  have e1':=(hbr.cell (World.block_lt_of_cell? W0 _ e1)).trans e1
  have t0':=(hbr.cell (World.block_lt_of_cell? W0 _ t0)).trans t0
  have BR:NewN (w.heap.size+1+1) 0 (.slice none 0 0) (.slice none 0 0) wr:=NewN.below (B:=W0.heap.size) H0.out.2.2 hbr (lt_of_heap H0.out.2.2)
  have HBR:=Lib.hid BR
  have HB:=Lib.hid hbr
  have HB2:=Lib.hid (H0.out.1.trans (hbr.mono H0.out.1.size))
  clear hbr e0 e1 t0 BR
  cases k with
  | zero =>
    have hz:((0:Nat):Int)-1 = -1:=rfl
    rw [hz]
    have HN:=Lib.hid (show findN ns x=none from hf)
    clear hf hz
    exfalso
    rw [typeOf,HN.out] at hty
    simp at hty
  | succ j =>
    have hj:j<ns.length:=by omega
    rw [show ((j+1:Nat):Int)-1=(j:Int) from by omega]
    obtain ⟨nb,no,nu,nd,e,_,hnw,hnd,hnc,hnr⟩:=AN.out j hj
    subst e
    rw [List.getElem?_map,Option.map_eq_some_iff] at hnd
    obtain ⟨⟨y,t⟩,hy,rfl⟩:=hnd
    rw [Rep_val] at hnr
    subst hnr
    have q0:wr.cell? ⟨nb,no+j,none⟩=some (str y):=(HB2.out.cell (p:=⟨nb,no+j,none⟩) hnw).trans hnc
    have hjI:(j:Int)<(ns.length:Int):=by omega
    have hstep:findAt ns x (j+1)=if y=x then some j else findAt ns x j:=by
     rw [findAt,hy];simp
    by_cases hyx:y=x
    ·subst hyx
     have q:(y == y)=true:=by simp
     have HS:=Lib.hid (show findN ns y=some j by rw [show findN ns y=findAt ns y (j+1) from hf,hstep,if_pos rfl])
     obtain ⟨kb,ko,ku,kd,e,_,hkw,hkd,hkc,hkr⟩:=AK.out j hj
     subst e
     rw [encSs_at,Option.map_eq_some_iff] at hkd
     obtain ⟨t2,ht2,rfl⟩:=hkd
     have et:t2=t:=by rw [kinds_at hy] at ht2;exact (Option.some.inj ht2).symm
     subst et
     obtain ⟨xa,xc,rfl⟩:=encS_slice hkr
     have q1:wr.cell? ⟨kb,ko+j,none⟩=some (.slice xa t2.args.length xc):=(HB2.out.cell (p:=⟨kb,ko+j,none⟩) hkw).trans hkc
     have h15:=HP.out.n15 t2 (List.mem_of_getElem? (kinds_at hy))
     have CE:=Lib.hid (l4Eta_any 15 t2 h15 h15 F (.slice xa t2.args.length xc) j ns.length wr.drew (Rep.below HB2.out (fun _ h=>h) hkr).drew (by omega) (by omega))
     have HE:=Lib.hid (show meanOf ns (.nm y)=smallB (eta t2 j ns.length) by rw [meanOf,HS.out,Option.bind_some,hy];rfl)
     have hsz:sizeB (eta t2 j ns.length)≤1000000:=by have:=(eta_size t2 j ns.length).1;omega
     clear hf hstep hy hnc hkc hkr ht2 h15
     go_wp2_with fail
     go_region
     go_wp2_with fail
     (with_reducible refine CE.out.mono ?_)
     rintro en w3 ⟨s6,v6,f1,m1,d1,f2,m2,d2,rfl,hb3,hr3⟩
     have HB3:=Lib.hid (HB.out.trans ((Below.drew (Below.refl wr.heap.size wr)).trans hb3 |>.mono HB.out.size))
     have HR3:=Lib.hid (hr3.weakS (G:=fun i=>F i∨W0.heap.size≤i) (fun i h=>.inr (Nat.le_trans HB.out.size h)))
     clear hb3 hr3 CE q0 q1 e0' e1' t0'
     go_wp2_with fail
     obtain ⟨Y,hY⟩:∃ Y,w3.alloc (.cells #[str s6,.int .i64 v6,.slice f1 m1 d1,.slice f2 m2 d2] 36)=Y:=⟨_,rfl⟩
     rw [hY]
     have hbY:Below w3.heap.size w3 Y:=by rw [← hY];exact (Below.refl _ _).alloc (Nat.le_refl _) _
     have gB:Y.heap[w3.heap.size]? = some (.cells #[str s6,.int .i64 v6,.slice f1 m1 d1,.slice f2 m2 d2] 36 (0,0)):=by rw [← hY];exact heap_new _ _
     have HYB:Hid (Below W0.heap.size W0 Y):=HB3.out.trans (hbY.mono HB3.out.size)
     have HRY:=Lib.hid (Reps.below (F':=fun i=>F i∨W0.heap.size≤i) hbY (fun _ h=>h) HR3.out)
     have NRY:Hid (NewN (w.heap.size+1+1) 0 (.slice none 0 0) (.slice none 0 0) Y):=NewN.below (B:=W0.heap.size) H0.out.2.2 HYB.out (lt_of_heap H0.out.2.2)
     have gne:w3.heap.size≠w.heap.size+1+1:=by have:=HB3.out.size;have:=H0.out.2.1;omega
     obtain ⟨g8,hg8⟩:∃ g,w3.heap.size=g:=⟨_,rfl⟩
     rw [hg8] at gB gne ⊢
     clear hY hbY hg8
     have CS:=Lib.hid (fun wz (h:Below Y.heap.size Y wz)=>l3Size_any 1000000 (eta t2 j ns.length) hsz (by unfold Lim;omega) _ wz _ _ _ _ _ _ _ _ (Reps.below (F':=fun i=>F i∨W0.heap.size≤i) h (fun _ h=>h) (HRY.out)))
     have HSZ:=Lib.hid (show sizeB (eta t2 j ns.length)≤1000000 from hsz)
     obtain ⟨SZ,hSZ⟩:∃ x,x=sizeB (eta t2 j ns.length):=⟨_,rfl⟩
     rw [← hSZ] at CS HSZ
     have HSE:=Lib.hid hSZ
     clear hSZ
     by_cases h200:SZ≤200
     ·have h1:decide (((SZ:Nat):Int)≤200)=true:=decide_eq_true (by omega)
      have HEE:=Lib.hid (show meanOf ns (.nm y)=some (eta t2 j ns.length) by rw [HE.out,small_of (by rw [← HSE.out];exact h200)])
      clear h200
      refine wp_region_noPanic ?_
      refine wp_region_S (fun w'=>w'.heap[g8]? = some (.cells #[str s6,.int .i64 v6,.slice f1 m1 d1,.slice f2 m2 d2] 36 (0,0))) (fun _=>false) (by kernel_rfl) ?_
      have hSd:(fun w'=>w'.heap[g8]? = some (.cells #[str s6,.int .i64 v6,.slice f1 m1 d1,.slice f2 m2 d2] 36 (0,0))) Y.drew:=gB
      refine tk [0,1] hSd ?_
      (intro d hd;simp [tkD] at hd;subst hd;simp only [tks,pQ,pZ,pS])
      iterate 2 (refine ⟨?_,?_,?_⟩;rotate_left;· (intro oi ho;simp at ho;subst ho;refine Or.inl ⟨by rfl,fun w' hw'=>?_⟩;obtain ⟨e0,e1,e2,e3⟩:=cells4 hw';go_simp;try with_reducible rfl))
      (refine on 2 ?_;intro o ho K' hK;simp at ho;subst ho;go_simp)
      go_at_call 19
      (with_reducible refine (CS.out _ (Below.drew (Below.refl Y.heap.size Y))).mono ?_)
      rintro en x1 ⟨rfl,hb⟩
      have HX1:Hid (Below Y.heap.size Y x1):=(Below.drew (Below.refl Y.heap.size Y)).trans hb
      clear hb
      (refine hK.out _ _ (fun _=>(HX1.out.block _ (lt_of_heap gB)).trans gB) ?_;clear hK K';try simp only [pQ,pN,pZ,pS])
      have hS2:=(HX1.out.block _ (lt_of_heap gB)).trans gB
      have NR2:Hid (NewN (w.heap.size+1+1) 0 (.slice none 0 0) (.slice none 0 0) x1):=NewN.below NRY.out HX1.out (lt_of_heap NRY.out)
      obtain ⟨rc0,rc1,rc2,rc3,_,rff⟩:=NR2.out.cells
      have rf0:=rff 0;have rf1:=rff 1;have rf2:=rff 2;have rf3:=rff 3
      clear rff
      refine tk [3] hS2 ?_
      (intro d hd;simp [tkD] at hd;subst hd;simp only [tks,pQ,pZ,pS])
      (refine ⟨?_,?_,?_⟩;rotate_left;· (intro oi ho;simp at ho;subst ho;refine Or.inl ⟨by rfl,fun w' hw'=>?_⟩;go_simp;try with_reducible rfl))
      (refine on 4 ?_;intro o ho K' hK;simp at ho;subst ho;go_simp)
      (refine hK.out _ _ (fun _=>heap4_set hS2 gne _ _ _ _) ?_;clear hK K';try simp only [pQ,pN,pZ,pS])
      (refine on 5 ?_;intro o ho K' hK;simp at ho;subst ho;go_simp)
      (refine hK.out _ _ (fun _=>heap4_set hS2 gne _ _ _ _) ?_;clear hK K';try simp only [pQ,pN,pZ,pS])
      refine wpAnyS_done (by kernel_rfl) (NoPanic.normal ?_) _
      go_wp2_with fail
      obtain ⟨W,hW,s0',s1',s2',s3',hbW,hkW⟩:=NewN.store (NR2.out) (str s6) (.int .i64 v6) (.slice f1 m1 d1) (.slice f2 m2 d2)
      rw [← hW]
      refine bodyPost_ret (v:=.tuple #[.agg #[str s6,.int .i64 v6,.slice f1 m1 d1,.slice f2 m2 d2],.bool true]) (by simp [results,Tryz.results10,go_sem,s0',s1',s2',s3']) rfl ?_
      rw [HEE.out]
      exact of_fin (o:=some (eta t2 j ns.length)) HP.out.old H0.out.1 H0.out.2.1 (HYB.out.trans (HX1.out.mono (HYB.out).size)) (fun x hx=>by obtain rfl:=Option.some.inj hx;exact Reps.below (F':=fun i=>F i∨W0.heap.size≤i) HX1.out (fun _ h=>h) (HRY.out)) hbW hkW
     ·have h1:decide (((SZ:Nat):Int)≤200)=false:=decide_eq_false (by omega)
      have HEE:=Lib.hid (show meanOf ns (.nm y)=none by rw [HE.out];unfold smallB;rw [if_neg (by rw [← HSE.out];exact h200)])
      clear h200
      refine wp_region_noPanic ?_
      refine wp_region_S (fun w'=>w'.heap[g8]? = some (.cells #[str s6,.int .i64 v6,.slice f1 m1 d1,.slice f2 m2 d2] 36 (0,0))) (fun _=>false) (by kernel_rfl) ?_
      have hSd:(fun w'=>w'.heap[g8]? = some (.cells #[str s6,.int .i64 v6,.slice f1 m1 d1,.slice f2 m2 d2] 36 (0,0))) Y.drew:=gB
      refine tk [0,1] hSd ?_
      (intro d hd;simp [tkD] at hd;subst hd;simp only [tks,pQ,pZ,pS])
      iterate 2 (refine ⟨?_,?_,?_⟩;rotate_left;· (intro oi ho;simp at ho;subst ho;refine Or.inl ⟨by rfl,fun w' hw'=>?_⟩;obtain ⟨e0,e1,e2,e3⟩:=cells4 hw';go_simp;try with_reducible rfl))
      (refine on 2 ?_;intro o ho K' hK;simp at ho;subst ho;go_simp)
      go_at_call 19
      (with_reducible refine (CS.out _ (Below.drew (Below.refl Y.heap.size Y))).mono ?_)
      rintro en x1 ⟨rfl,hb⟩
      have HX1:Hid (Below Y.heap.size Y x1):=(Below.drew (Below.refl Y.heap.size Y)).trans hb
      clear hb
      (refine hK.out _ _ (fun _=>(HX1.out.block _ (lt_of_heap gB)).trans gB) ?_;clear hK K';try simp only [pQ,pN,pZ,pS])
      have hS2:=(HX1.out.block _ (lt_of_heap gB)).trans gB
      have NR2:Hid (NewN (w.heap.size+1+1) 0 (.slice none 0 0) (.slice none 0 0) x1):=NewN.below NRY.out HX1.out (lt_of_heap NRY.out)
      obtain ⟨rc0,rc1,rc2,rc3,_,rff⟩:=NR2.out.cells
      have rf0:=rff 0;have rf1:=rff 1;have rf2:=rff 2;have rf3:=rff 3
      clear rff
      refine tk [3] hS2 ?_
      (intro d hd;simp [tkD] at hd;subst hd;simp only [tks,pQ,pZ,pS])
      (refine ⟨?_,?_,?_⟩;rotate_left;· (intro oi ho;simp at ho;subst ho;refine Or.inl ⟨by rfl,fun w' hw'=>?_⟩;go_simp;try with_reducible rfl))
      (refine on 4 ?_;intro o ho K' hK;simp at ho;subst ho;go_simp)
      (refine hK.out _ _ (fun _=>heap4_set hS2 gne _ _ _ _) ?_;clear hK K';try simp only [pQ,pN,pZ,pS])
      (refine on 5 ?_;intro o ho K' hK;simp at ho;subst ho;go_simp)
      (refine hK.out _ _ (fun _=>heap4_set hS2 gne _ _ _ _) ?_;clear hK K';try simp only [pQ,pN,pZ,pS])
      refine wpAnyS_done (by kernel_rfl) (NoPanic.normal ?_) _
      go_wp2_with fail
      obtain ⟨W,hW,s0',s1',s2',s3',hbW,hkW⟩:=NewN.store (NR2.out) (str s6) (.int .i64 v6) (.slice f1 m1 d1) (.slice f2 m2 d2)
      rw [← hW]
      refine bodyPost_ret (v:=.tuple #[.agg #[str s6,.int .i64 v6,.slice f1 m1 d1,.slice f2 m2 d2],.bool false]) (by simp [results,Tryz.results10,go_sem,s0',s1',s2',s3']) rfl ?_
      rw [HEE.out]
      exact of_fin (o:=none) HP.out.old H0.out.1 H0.out.2.1 (HYB.out.trans (HX1.out.mono (HYB.out).size)) (fun x hx=>by simp at hx) hbW hkW
    ·have q:(y == x)=false:=by rw [beq_eq_false_iff_ne];exact hyx
     have HS:=Lib.hid (show findN ns x=findAt ns x j by rw [show findN ns x=findAt ns x (j+1) from hf,hstep,if_neg hyx])
     clear hf hstep hy hyx hnc
     go_wp2_with fail
     go_region
     go_wp2_with fail
     go_round
     case rel=>exact ⟨j,_,rfl,by omega,by go_num,HS.out,HB.out.drew⟩
     case measure=>simp only [intOf];omega
set_option maxRecDepth 100000 in
set_option maxHeartbeats 4000000 in
theorem of_wd (F:Nat→Prop) (x:Bs) (ns:List Nm) (k0:Ty) (nv tv s pv:Value) (w:World) (hp:KdPre F (.wd x) ns nv tv s pv w) (hty:typeOf ns (.wd x)=some k0):Calls Tryz.prog 10 #[.agg #[nv,tv],.agg #[s,pv]] w (SAppPost F (meanOf ns (.wd x)) w):=by
 have hold:=hp.old
 obtain ⟨na,nc,rfl,_,_,hatN⟩:=Rep_sl1_open hp.rn
 obtain ⟨ka,kc,rfl,_,_,hatK⟩:=Rep_sl1_open hp.rk
 have hrt:=hp.rt
 rw [trTm] at hrt
 obtain ⟨qa,qc,e,hkids⟩:=encTr_open hrt
 simp only [atomTr,kidsTr,List.cons.injEq,and_true] at e hkids
 obtain ⟨rfl,rfl⟩:=e
 have hx0:x≠[]:=(leaf_sep hp.ok).1
 have hl3:x=[116]∨x=[102]∨x=[117]:=by
  have h:leafW x=true:=hp.ok
  simp only [leafW,Bool.or_eq_true,beq_iff_eq] at h
  rcases h with (h | h) | h
  ·exact .inl h
  ·exact .inr (.inl h)
  ·exact .inr (.inr h)
 obtain ⟨W0,hW0⟩:∃ W,W=((w.alloc (.cells #[.slice na ns.length nc,.slice ka ns.length kc] 41)).alloc (.cells #[str x,.slice qa 0 qc] 28)).alloc (.cells #[str [],.int .i64 0,.slice none 0 0,.slice none 0 0] 36):=⟨_,rfl⟩
 obtain ⟨hb0,z0,bA,bB,bC⟩:=boxes3 w (.cells #[.slice na ns.length nc,.slice ka ns.length kc] 41) (.cells #[str x,.slice qa 0 qc] 28) (.cells #[str [],.int .i64 0,.slice none 0 0,.slice none 0 0] 36)
 rw [← hW0] at hb0 z0 bA bB bC
 have e0:W0.cell? ⟨w.heap.size,0,none⟩=some (.slice na ns.length nc):=by simp [World.cell?,bA]
 have e1:W0.cell? ⟨w.heap.size,1,none⟩=some (.slice ka ns.length kc):=by simp [World.cell?,bA]
 have t0:W0.cell? ⟨w.heap.size+1,0,none⟩=some (str x):=by simp [World.cell?,bB]
 have H0:=Lib.hid (And.intro hb0 (And.intro z0 bC))
 have hne:(x != [])=true:=by rw [bne_iff_ne];exact hx0
 have hne1:(!x.isEmpty)=true:=by cases x with | nil=>exact absurd rfl hx0 | cons a b=>rfl
 have hne2:x.isEmpty=false:=by cases x with | nil=>exact absurd rfl hx0 | cons a b=>rfl
 have AN:=Lib.hid hatN
 have AK:=Lib.hid hatK
 have hnl:ns.length≤100:=by have:=hp.room;omega
 have HP:=Lib.hid hp
 clear hatN hatK hb0 z0 bA bB bC hp
 go_enter Tryz.func10,Tryz.ntmps10
 go_wp2_with fail
 rw [← hW0]
 clear hW0
 go_loopw [7] (fun i wz=>∃ (k:Nat) (wr:World),wr=wz∧k≤ns.length∧i=.int .i64 ((k:Int)-1)∧FoundR ns x k∧Below W0.heap.size W0 wr) (fun i _=>(intOf i+1).toNat)
 case atStart=>exact ⟨ns.length,_,rfl,Nat.le_refl _,rfl,rfl,Below.refl _ _⟩
 case round =>
  obtain ⟨k,wr,ewr,hk,rfl,hf,hbr⟩:=hrel
  subst ewr
  have e0':=(hbr.cell (World.block_lt_of_cell? W0 _ e0)).trans e0
  have e1':=(hbr.cell (World.block_lt_of_cell? W0 _ e1)).trans e1
  have t0':=(hbr.cell (World.block_lt_of_cell? W0 _ t0)).trans t0
  have BR:NewN (w.heap.size+1+1) 0 (.slice none 0 0) (.slice none 0 0) wr:=NewN.below (B:=W0.heap.size) H0.out.2.2 hbr (lt_of_heap H0.out.2.2)
  have HBR:=Lib.hid BR
  have HB:=Lib.hid hbr
  have HB2:=Lib.hid (H0.out.1.trans (hbr.mono H0.out.1.size))
  clear hbr e0 e1 t0 BR
  cases k with
  | zero =>
    have hz:((0:Nat):Int)-1 = -1:=rfl
    rw [hz]
    have HN:=Lib.hid (show findN ns x=none from hf)
    clear hf hz
    clear hx0 hne hne1 hne2 HN
    rcases hl3 with rfl | rfl | rfl
    ·have HEE:=Lib.hid (show meanOf ns (.wd [116])=some (.leaf 116) by rw [meanOf];rfl)
     obtain ⟨rc0,rc1,rc2,rc3,_,rff⟩:=HBR.out.cells
     have rf0:=rff 0;have rf1:=rff 1;have rf2:=rff 2;have rf3:=rff 3
     clear rff
     go_wp2_with fail
     obtain ⟨W,hW,s0',s1',s2',s3',hbW,hkW⟩:=NewN.store (HBR.out) (str [116]) (.int .i64 0) (.slice none 0 0) (.slice none 0 0)
     rw [← hW]
     refine bodyPost_ret (v:=.tuple #[.agg #[str [116],.int .i64 0,.slice none 0 0,.slice none 0 0],.bool true]) (by simp [results,Tryz.results10,go_sem,s0',s1',s2',s3']) rfl ?_
     rw [HEE.out]
     exact of_fin (o:=some (.leaf 116)) HP.out.old H0.out.1 H0.out.2.1 HB.out (fun x hx=>by
      obtain rfl:=Option.some.inj hx
      rw [encN]
      exact Reps_cons.2 ⟨_,_,rfl,Rep_val.2 rfl,Reps_cons.2 ⟨_,_,rfl,Rep_val.2 rfl,Reps_cons.2 ⟨_,_,rfl,Rep_sl.2 ⟨rfl,none,0,rfl,Nat.le_refl _,fun _=>rfl,.inl rfl⟩,Reps_cons.2 ⟨_,_,rfl,Rep_sl.2 ⟨rfl,none,0,rfl,Nat.le_refl _,fun _=>rfl,.inl rfl⟩,Reps_nil.2 rfl⟩⟩⟩⟩) hbW hkW
    ·have HEE:=Lib.hid (show meanOf ns (.wd [102])=some (.leaf 102) by rw [meanOf];rfl)
     obtain ⟨rc0,rc1,rc2,rc3,_,rff⟩:=HBR.out.cells
     have rf0:=rff 0;have rf1:=rff 1;have rf2:=rff 2;have rf3:=rff 3
     clear rff
     go_wp2_with fail
     obtain ⟨W,hW,s0',s1',s2',s3',hbW,hkW⟩:=NewN.store (HBR.out) (str [102]) (.int .i64 0) (.slice none 0 0) (.slice none 0 0)
     rw [← hW]
     refine bodyPost_ret (v:=.tuple #[.agg #[str [102],.int .i64 0,.slice none 0 0,.slice none 0 0],.bool true]) (by simp [results,Tryz.results10,go_sem,s0',s1',s2',s3']) rfl ?_
     rw [HEE.out]
     exact of_fin (o:=some (.leaf 102)) HP.out.old H0.out.1 H0.out.2.1 HB.out (fun x hx=>by
      obtain rfl:=Option.some.inj hx
      rw [encN]
      exact Reps_cons.2 ⟨_,_,rfl,Rep_val.2 rfl,Reps_cons.2 ⟨_,_,rfl,Rep_val.2 rfl,Reps_cons.2 ⟨_,_,rfl,Rep_sl.2 ⟨rfl,none,0,rfl,Nat.le_refl _,fun _=>rfl,.inl rfl⟩,Reps_cons.2 ⟨_,_,rfl,Rep_sl.2 ⟨rfl,none,0,rfl,Nat.le_refl _,fun _=>rfl,.inl rfl⟩,Reps_nil.2 rfl⟩⟩⟩⟩) hbW hkW
    ·have HEE:=Lib.hid (show meanOf ns (.wd [117])=some (.leaf 117) by rw [meanOf];rfl)
     obtain ⟨rc0,rc1,rc2,rc3,_,rff⟩:=HBR.out.cells
     have rf0:=rff 0;have rf1:=rff 1;have rf2:=rff 2;have rf3:=rff 3
     clear rff
     go_wp2_with fail
     obtain ⟨W,hW,s0',s1',s2',s3',hbW,hkW⟩:=NewN.store (HBR.out) (str [117]) (.int .i64 0) (.slice none 0 0) (.slice none 0 0)
     rw [← hW]
     refine bodyPost_ret (v:=.tuple #[.agg #[str [117],.int .i64 0,.slice none 0 0,.slice none 0 0],.bool true]) (by simp [results,Tryz.results10,go_sem,s0',s1',s2',s3']) rfl ?_
     rw [HEE.out]
     exact of_fin (o:=some (.leaf 117)) HP.out.old H0.out.1 H0.out.2.1 HB.out (fun x hx=>by
      obtain rfl:=Option.some.inj hx
      rw [encN]
      exact Reps_cons.2 ⟨_,_,rfl,Rep_val.2 rfl,Reps_cons.2 ⟨_,_,rfl,Rep_val.2 rfl,Reps_cons.2 ⟨_,_,rfl,Rep_sl.2 ⟨rfl,none,0,rfl,Nat.le_refl _,fun _=>rfl,.inl rfl⟩,Reps_cons.2 ⟨_,_,rfl,Rep_sl.2 ⟨rfl,none,0,rfl,Nat.le_refl _,fun _=>rfl,.inl rfl⟩,Reps_nil.2 rfl⟩⟩⟩⟩) hbW hkW
  | succ j =>
    have hj:j<ns.length:=by omega
    rw [show ((j+1:Nat):Int)-1=(j:Int) from by omega]
    obtain ⟨nb,no,nu,nd,e,_,hnw,hnd,hnc,hnr⟩:=AN.out j hj
    subst e
    rw [List.getElem?_map,Option.map_eq_some_iff] at hnd
    obtain ⟨⟨y,t⟩,hy,rfl⟩:=hnd
    rw [Rep_val] at hnr
    subst hnr
    have q0:wr.cell? ⟨nb,no+j,none⟩=some (str y):=(HB2.out.cell (p:=⟨nb,no+j,none⟩) hnw).trans hnc
    have hjI:(j:Int)<(ns.length:Int):=by omega
    have hstep:findAt ns x (j+1)=if y=x then some j else findAt ns x j:=by
     rw [findAt,hy];simp
    have hyx:y≠x:=by
     rintro rfl
     have h1:=HP.out.nm (y,t) (List.mem_of_getElem? hy)
     have h2:=name_leaf (show leafW y=true from HP.out.ok)
     rw [show nameB y=true from h1] at h2;exact absurd h2 (by decide)
    have q:(y == x)=false:=by rw [beq_eq_false_iff_ne];exact hyx
    have HS:=Lib.hid (show findN ns x=findAt ns x j by rw [show findN ns x=findAt ns x (j+1) from hf,hstep,if_neg hyx])
    clear hf hstep hy hyx hnc
    go_wp2_with fail
    go_region
    go_wp2_with fail
    go_round
    case rel=>exact ⟨j,_,rfl,by omega,by go_num,HS.out,HB.out.drew⟩
    case measure=>simp only [intOf];omega
end Go.Proofs.YtapjaflnmklmeaaGreatDoor
namespace Go.Proofs.YtapjaflnmklmeaaGreatDoor
open Go.RowKit
set_option maxRecDepth 100000 in
set_option maxHeartbeats 4000000 in
theorem of_lam (M:Nat) (ih:OfSaid M) (F:Nat→Prop) (x:Bs) (k:Ty) (t:Tm) (ns:List Nm) (nv tv s pv:Value) (w:World) (kt:Ty) (hN:sizeTm (.lam x k t)≤M+1) (hp:KdPre F (.lam x k t) ns nv tv s pv w) (hty:typeOf ns (.lam x k t)=some kt):Calls Tryz.prog 10 #[.agg #[nv,tv],.agg #[s,pv]] w (SAppPost F (meanOf ns (.lam x k t)) w):=by
 have hold:=hp.old
 obtain ⟨na,nc,rfl,_,_,hatN⟩:=Rep_sl1_open hp.rn
 obtain ⟨ka,kc,rfl,_,_,hatK⟩:=Rep_sl1_open hp.rk
 have hrt:=hp.rt
 rw [trTm] at hrt
 obtain ⟨qa,qc,e,hkids⟩:=encTr_open hrt
 simp only [atomTr,kidsTr,List.cons.injEq,and_true] at e hkids
 obtain ⟨rfl,rfl⟩:=e
 obtain ⟨_,_,e,hat⟩:=AtTrs.of hkids
 simp only [Value.slice.injEq,true_and] at e
 obtain ⟨rfl,rfl⟩:=e
 obtain ⟨pb1,po1,s1,a1,n1,c1,d1,pe1,pw1,pq1,pc1,pd1,pr1,ps1,pn1⟩:=hat 1 (by simp)
 simp only [List.getElem?_cons_zero,List.getElem?_cons_succ,Option.some.injEq] at pq1
 subst pq1
 subst pe1
 obtain ⟨pb2,po2,s2,a2,n2,c2,d2,pe2,pw2,pq2,pc2,pd2,pr2,ps2,pn2⟩:=hat 2 (by simp)
 simp only [List.getElem?_cons_zero,List.getElem?_cons_succ,Option.some.injEq] at pq2
 subst pq2
 simp only [Option.some.injEq,Addr.mk.injEq,and_true] at pe2
 obtain ⟨rfl,rfl⟩:=pe2
 obtain ⟨pb3,po3,s3,a3,n3,c3,d3,pe3,pw3,pq3,pc3,pd3,pr3,ps3,pn3⟩:=hat 3 (by simp)
 simp only [List.getElem?_cons_zero,List.getElem?_cons_succ,Option.some.injEq] at pq3
 subst pq3
 simp only [Option.some.injEq,Addr.mk.injEq,and_true] at pe3
 obtain ⟨rfl,rfl⟩:=pe3
 simp only [atomTr] at ps1
 subst ps1
 have hroom:=hp.room
 have hok:=hp.ok
 have hsm:=hp.sm
 have hak:=atomsT_pos k
 rw [sizeTm] at hroom hN
 rw [smallTm,Bool.and_eq_true,decide_eq_true_eq] at hsm
 obtain ⟨W0,hW0⟩:∃ W,W=((w.alloc (.cells #[.slice na ns.length nc,.slice ka ns.length kc] 41)).alloc (.cells #[str [],.slice (some ⟨pb1,po1,none⟩) 4 qc] 28)).alloc (.cells #[str [],.int .i64 0,.slice none 0 0,.slice none 0 0] 36):=⟨_,rfl⟩
 obtain ⟨hb0,z0,bA,bB,bC⟩:=boxes3 w (.cells #[.slice na ns.length nc,.slice ka ns.length kc] 41) (.cells #[str [],.slice (some ⟨pb1,po1,none⟩) 4 qc] 28) (.cells #[str [],.int .i64 0,.slice none 0 0,.slice none 0 0] 36)
 rw [← hW0] at hb0 z0 bA bB bC
 have CH:=Lib.hid (show Calls Tryz.prog 20 #[.agg #[str [],.slice (some ⟨pb1,po1,none⟩) 4 qc]] W0 (fun en w'=>en=.returned (str (headW (trTm (.lam s1 k t))))∧Below W0.heap.size W0 w') from l5Head_any (trTm (.lam s1 k t)) (okTr_Tm _ hp.ok) F W0 _ _ (Reps.below hb0 (fun _ h=>h) hp.rt))
 have hHW:headW (trTm (.lam s1 k t))=[108,97,109]:=by rw [trTm];rfl
 rw [hHW] at CH
 have H0:=Lib.hid (And.intro hb0 (And.intro z0 (And.intro bA bC)))
 have e0:W0.cell? ⟨w.heap.size,0,none⟩=some (.slice na ns.length nc):=by simp [World.cell?,bA]
 have e1:W0.cell? ⟨w.heap.size,1,none⟩=some (.slice ka ns.length kc):=by simp [World.cell?,bA]
 have SX:Hid (∀ w',Below W0.heap.size W0 w'→w'.cell? ⟨w.heap.size,0,none⟩=some (.slice na ns.length nc)∧w'.cell? ⟨w.heap.size,1,none⟩=some (.slice ka ns.length kc)∧w'.cell? ⟨pb1,po1+2,none⟩=some (str s1)∧w'.cell? ⟨pb1,po1+4,none⟩=some (str s2)∧w'.cell? ⟨pb1,po1+5,none⟩=some (.slice a2 n2 c2)∧w'.cell? ⟨pb1,po1+6,none⟩=some (str s3)∧w'.cell? ⟨pb1,po1+7,none⟩=some (.slice a3 n3 c3)):=by
  show ∀ w',_→_
  intro w' hb'
  have hb0':=hb0.trans (hb'.mono hb0.size)
  exact ⟨(hb'.cell (World.block_lt_of_cell? W0 _ e0)).trans e0,(hb'.cell (World.block_lt_of_cell? W0 _ e1)).trans e1,(hb0'.cell (p:=⟨pb1,po1+2,none⟩) pw1).trans pc1,(hb0'.cell (p:=⟨pb1,po1+4,none⟩) pw1).trans pc2,(hb0'.cell (p:=⟨pb1,po1+5,none⟩) pw1).trans pd2,(hb0'.cell (p:=⟨pb1,po1+6,none⟩) pw1).trans pc3,(hb0'.cell (p:=⟨pb1,po1+7,none⟩) pw1).trans pd3⟩
 have hlx:=textT_length 15 k hsm.1
 have CX:Hid (∀ wz,Below w.heap.size w wz→Calls Tryz.prog 22 #[.agg #[str s2,.slice a2 n2 c2]] wz fun en w'=>en=.returned (str (textT k))∧Below wz.heap.size wz w'):=by
  show ∀ wz,_→_
  intro wz hz
  have h:=l5Text_any (textTr (trT k)).length (trT k) (Nat.le_refl _) (show _≤_ by rw [textTr_T];omega) (okTr_T k) F wz _ _ (Reps.below hz (fun _ h=>h) pr2)
  rw [textTr_T] at h
  exact h
 have CY:Hid (∀ wz,Calls Tryz.prog 21 #[str (textT k)] wz fun en w'=>∃ ta tc,en=.returned (.tuple #[.agg #[.slice ta k.args.length tc],.bool true])∧Below wz.heap.size wz w'∧Rep (wz.heap.size≤·) w' (encS k) (.slice ta k.args.length tc)):=by
  show ∀ wz,_
  intro wz
  refine (l1Type_any (textT k) (show _≤_ by omega) wz).mono ?_
  rintro en w' ⟨v,rfl,hb,hr⟩
  rw [specType_text hsm.1] at hr ⊢
  obtain ⟨ta,tc,rfl⟩:=encS_slice hr
  exact ⟨ta,tc,rfl,hb,hr⟩
 obtain ⟨X,hX⟩:∃ X,X=textT k:=⟨_,rfl⟩
 rw [← hX] at CX CY
 have HP:=Lib.hid (And.intro hp (And.intro hok (And.intro hsm (And.intro pr3 hN))))
 have IH:=Lib.hid ih
 have hlen:ns.length≤99:=by omega
 clear hatN hatK hkids hat hrt hp hok hsm ih hN hb0 z0 bA bB bC e0 e1 pr1 pc1 pd1 pn1 pr2 pc2 pd2 ps2 pn2 pr3 pc3 pd3 ps3 pn3 pw1 pw2 pw3 hX hlx
 go_enter Tryz.func10,Tryz.ntmps10
 go_wp2_with fail
 rw [← hW0]
 clear hW0
 (with_reducible refine CH.out.mono ?_)
 rintro en w1 ⟨rfl,hb1⟩
 have H1:=Lib.hid (And.intro hb1 (H0.out.1.trans (hb1.mono H0.out.1.size)))
 have CX1:=Lib.hid (CX.out w1 H1.out.2)
 obtain ⟨e0,e1,f1,f2,h2,f3,h3⟩:=SX.out w1 H1.out.1
 clear hb1 CH CX e0 e1 f1 f3 h3
 go_wp2_with fail
 (with_reducible refine CX1.out.mono ?_)
 rintro en w2 ⟨rfl,hb2⟩
 have H2:=Lib.hid (And.intro (H1.out.1.trans (hb2.mono H1.out.1.size)) (H1.out.2.trans (hb2.mono H1.out.2.size)))
 clear hb2 f2 h2 CX1
 go_wp2_with fail
 (with_reducible refine (CY.out w2).mono ?_)
 rintro en w3 ⟨ta,tc,rfl,hb3,hr3⟩
 have H3:=Lib.hid (And.intro (H2.out.1.trans (hb3.mono H2.out.1.size)) (And.intro (H2.out.2.trans (hb3.mono H2.out.2.size)) (hr3.weak (G:=fun i=>F i∨W0.heap.size≤i) (fun i h=>.inr (Nat.le_trans H2.out.1.size h)))))
 clear hb3 hr3 CY
 go_wp2_with fail
 obtain ⟨V,hV⟩:∃ V,w3.alloc (.cells #[.slice ta k.args.length tc] 31)=V:=⟨_,rfl⟩
 rw [hV]
 have hbV:Below w3.heap.size w3 V:=by rw [← hV];exact (Below.refl _ _).alloc (Nat.le_refl _) _
 obtain ⟨ga,hga⟩:∃ g,w3.heap.size=g:=⟨_,rfl⟩
 have bA8:V.cell? ⟨ga,0,none⟩=some (.slice ta k.args.length tc):=by rw [← hV,← hga];simp
 have HV:=Lib.hid (And.intro (H3.out.1.trans (hbV.mono H3.out.1.size)) (H3.out.2.1.trans (hbV.mono H3.out.2.1.size)))
 have TA:Hid (Rep (fun i=>i<V.heap.size∧(F i∨W0.heap.size≤i)) V (encS k) (.slice ta k.args.length tc)):=(Rep.keep fun i x h hx=>⟨⟨lt_of_heap hx,h⟩,hx⟩).1 _ _ (Rep.below (F':=fun i=>F i∨W0.heap.size≤i) hbV (fun _ h=>h) H3.out.2.2)
 rw [hga]
 have SV:Hid (∀ w',Below V.heap.size V w'→w'.cell? ⟨w.heap.size,0,none⟩=some (.slice na ns.length nc)∧w'.cell? ⟨w.heap.size,1,none⟩=some (.slice ka ns.length kc)∧w'.cell? ⟨pb1,po1+2,none⟩=some (str s1)∧w'.cell? ⟨pb1,po1+6,none⟩=some (str s3)∧w'.cell? ⟨pb1,po1+7,none⟩=some (.slice a3 n3 c3)∧w'.cell? ⟨ga,0,none⟩=some (.slice ta k.args.length tc)):=by
  show ∀ w',_→_
  intro w' h
  obtain ⟨e0,e1,f1,_,_,f3,h3⟩:=SX.out w' (HV.out.1.trans (h.mono HV.out.1.size))
  exact ⟨e0,e1,f1,f3,h3,(h.cell (World.block_lt_of_cell? _ _ bA8)).trans bA8⟩
 have oldV:Hid (∀ i,F i→i<V.heap.size):=fun i h=>Nat.lt_of_lt_of_le (HP.out.1.old i h) HV.out.2.size
 have CW:=Lib.hid (fun wz (hz:Below V.heap.size V wz)=>withNames (fun i=>i<V.heap.size∧(F i∨W0.heap.size≤i)) ns s1 k (.slice na ns.length nc) (.slice ka ns.length kc) ta tc wz ((Rep.keep fun i x (h:F i) hx=>⟨⟨oldV.out i h,.inl h⟩,hx⟩).1 _ _ (Rep.below (F':=F) (HV.out.2.trans (hz.mono HV.out.2.size)) (fun _ h=>h) HP.out.1.rn)) ((Rep.keep fun i x (h:F i) hx=>⟨⟨oldV.out i h,.inl h⟩,hx⟩).1 _ _ (Rep.below (F':=F) (HV.out.2.trans (hz.mono HV.out.2.size)) (fun _ h=>h) HP.out.1.rk)) (Rep.below (F':=fun i=>i<V.heap.size∧(F i∨W0.heap.size≤i)) hz (fun _ h=>h) TA.out) (by omega))
 obtain ⟨_,kb0,hkb0,_⟩:=type_lam hty
 have hML:meanOf ns (.lam s1 k t)=meanOf (ns++[(s1,k)]) t:=by rw [meanOf]
 obtain ⟨om,hom⟩:∃ x,x=meanOf (ns++[(s1,k)]) t:=⟨_,rfl⟩
 rw [← hom] at hML
 have CZ:Hid (∀ (A1:World) (a5 a6:Option Addr) (c5 c6:Nat),Below V.heap.size V A1 →
  Rep (fun i=>((i<V.heap.size∧(F i∨W0.heap.size≤i))∨V.heap.size≤i)∧i<A1.heap.size) A1 (.sl 9 1 (ns++[(s1,k)]).length ((ns++[(s1,k)]).map fun p=>DV.val (str p.1))) (.slice a5 (ns.length+1) c5) →
  Rep (fun i=>((i<V.heap.size∧(F i∨W0.heap.size≤i))∨V.heap.size≤i)∧i<A1.heap.size) A1 (.sl 31 1 (ns++[(s1,k)]).length (encSs (kinds (ns++[(s1,k)])))) (.slice a6 (ns.length+1) c6) →
  Calls Tryz.prog 10 #[.agg #[.slice a5 (ns.length+1) c5,.slice a6 (ns.length+1) c6],.agg #[str s3,.slice a3 n3 c3]] A1 (SAppPost (fun i=>((i<V.heap.size∧(F i∨W0.heap.size≤i))∨V.heap.size≤i)∧i<A1.heap.size) om A1)):=by
  show ∀ _,_
  intro A1 a5 a6 c5 c6 hz h5 h6
  have hwz:=HV.out.2.trans (hz.mono HV.out.2.size)
  have h:=IH.out (fun i=>((i<V.heap.size∧(F i∨W0.heap.size≤i))∨V.heap.size≤i)∧i<A1.heap.size) t (ns++[(s1,k)]) kb0 _ _ _ _ A1 (by have:=HP.out.2.2.2.2;omega) ⟨fun i h=>h.2,Reps.below hwz (fun i h=>⟨.inl ⟨oldV.out i h,.inl h⟩,Nat.lt_of_lt_of_le (oldV.out i h) hz.size⟩) HP.out.2.2.2.1,h5,h6,HP.out.2.1.2,HP.out.2.2.1.2,(fun p hm=>by
   rcases List.mem_append.1 hm with hm | hm
   ·exact HP.out.1.nm p hm
   ·simp at hm;subst hm;exact HP.out.2.1.1),(fun a ha=>by
   rw [kinds_snoc] at ha
   rcases List.mem_append.1 ha with ha | ha
   ·exact HP.out.1.n15 a ha
   ·simp at ha;subst ha;exact HP.out.2.2.1.1),by rw [List.length_append];simp;omega⟩ hkb0
  rw [← hom] at h
  exact h
 have HML:=Lib.hid hML
 clear hML hom H1 H2 H3 hbV hV IH SX hkb0
 refine wp_region_noPanic ?_
 refine wp_region_S (fun w'=>Below V.heap.size V w') (fun i=>i == 13 || i == 14) (by kernel_rfl) ?_
 have hSd:(fun w'=>Below V.heap.size V w') V.drew:=Below.drew (Below.refl _ _)
 refine tk [0,1,2,3,4,5,7,8,9] hSd ?_
 (intro d hd;simp [tkD] at hd;subst hd;simp only [tks,pQ,pZ,pS])
 iterate 9 (refine ⟨?_,?_,?_⟩;rotate_left;· (intro oi ho;simp at ho;subst ho;refine Or.inl ⟨by rfl,fun w' hw'=>?_⟩;obtain ⟨e0,e1,f1,f3,h3,e8⟩:=SV.out w' hw';go_simp;try with_reducible rfl))
 (refine on 6 ?_;intro o ho K' hK;simp at ho;subst ho;go_simp)
 go_at_call 23
 (with_reducible refine (CW.out _ hSd).mono ?_)
 rintro en y1 ⟨aq,cq,ar,cr,rfl,hbw,hq5,hq6⟩
 have hY1:Below V.heap.size V y1:=hSd.trans hbw
 (refine hK.out _ _ (fun _=>hY1) ?_;clear hK K';try simp only [pQ,pN,pZ,pS])
 have hS6:=hY1
 (refine on 10 ?_;intro o ho K' hK;simp at ho;subst ho)
 have hq5':Rep (fun i=>((i<V.heap.size∧(F i∨W0.heap.size≤i))∨V.heap.size≤i)∧i<y1.heap.size) y1 (.sl 9 1 (ns++[(s1,k)]).length ((ns++[(s1,k)]).map fun p=>DV.val (str p.1))) (.slice aq (ns.length+1) cq):=(Rep.keep fun i x hi hx=>⟨⟨hi,lt_of_heap hx⟩,hx⟩).1 _ _ hq5
 have hq6':Rep (fun i=>((i<V.heap.size∧(F i∨W0.heap.size≤i))∨V.heap.size≤i)∧i<y1.heap.size) y1 (.sl 31 1 (ns++[(s1,k)]).length (encSs (kinds (ns++[(s1,k)])))) (.slice ar (ns.length+1) cr):=(Rep.keep fun i x hi hx=>⟨⟨hi,lt_of_heap hx⟩,hx⟩).1 _ _ hq6
 have CZ1:=CZ.out y1 aq ar cq cr hY1 hq5' hq6'
 go_simp
 go_at_call 10
 (with_reducible refine CZ1.mono ?_)
 rintro en y2 ⟨ss,vv,aa,an,ac,ba,bn,bc,rfl,hbk,hrk⟩
 have hY2:Below V.heap.size V y2:=hY1.trans (hbk.mono hY1.size)
 (refine hK.out _ _ (fun _=>hY2) ?_;clear hK K';try simp only [pQ,pN,pZ,pS])
 have hS10:=hY2
 have HY2:Hid (Below W0.heap.size W0 y2):=HV.out.1.trans (hY2.mono HV.out.1.size)
 have NRY:Hid (NewN (w.heap.size+1+1) 0 (.slice none 0 0) (.slice none 0 0) y2):=NewN.below (B:=W0.heap.size) H0.out.2.2.2 HY2.out (lt_of_heap H0.out.2.2.2)
 have HRK:Hid (∀ x,om=some x→Reps (fun i=>F i∨W0.heap.size≤i) y2 (encN x) [str ss,.int .i64 vv,.slice aa an ac,.slice ba bn bc]):=fun x hx=>(hrk x hx).weakS fun i h=>by
  have z1:=HV.out.1.size
  have z2:=hY1.size
  rcases h with h | h
  ·rcases h.1 with h1 | h1
   ·exact h1.2
   ·exact .inr (by omega)
  ·exact .inr (by omega)
 obtain ⟨rc0,rc1,rc2,rc3,_,rff⟩:=NRY.out.cells
 have rf0:=rff 0;have rf1:=rff 1;have rf2:=rff 2;have rf3:=rff 3
 clear rff
 refine tk [11,12] hS10 ?_
 (intro d hd;simp [tkD] at hd;subst hd;simp only [tks,pQ,pZ,pS])
 iterate 2 (refine ⟨?_,?_,?_⟩;rotate_left;· (intro oi ho;simp at ho;subst ho;refine Or.inl ⟨by rfl,fun w' hw'=>?_⟩;go_simp;try with_reducible rfl))
 (refine on 13 ?_;intro o ho K' hK;simp at ho;subst ho;go_simp)
 (refine hK.out _ _ (fun h=>by simp at h) ?_;clear hK K';try simp only [pQ,pN,pZ,pS])
 (refine on 14 ?_;intro o ho K' hK;simp at ho;subst ho;go_simp)
 (refine hK.out _ _ (fun h=>by simp at h) ?_;clear hK K';try simp only [pQ,pN,pZ,pS])
 refine wpAnyS_done (by kernel_rfl) (NoPanic.normal ?_) _
 go_wp2_with fail
 obtain ⟨W,hW,s0',s1',s2',s3',hbW,hkW⟩:=NewN.store (NRY.out) (str ss) (.int .i64 vv) (.slice aa an ac) (.slice ba bn bc)
 rw [← hW]
 refine bodyPost_ret (v:=.tuple #[.agg #[str ss,.int .i64 vv,.slice aa an ac,.slice ba bn bc],.bool om.isSome]) (by simp [results,Tryz.results10,go_sem,s0',s1',s2',s3']) rfl ?_
 rw [HML.out]
 exact of_fin HP.out.1.old H0.out.1 H0.out.2.1 HY2.out HRK.out hbW hkW
end Go.Proofs.YtapjaflnmklmeaaGreatDoor
namespace Go.Proofs.YtapjaflnmklmeaaGreatDoor
open Go.RowKit
def dO:Option Bd→List DV
 | some x=>encN x
 | none=>[]
def vO:Option Bd→List Value→List Value
 | some _,vs=>vs
 | none,_=>[]
theorem repO {F:Nat→Prop} {w:World} {o:Option Bd} {vs:List Value} (h:∀ x,o=some x→Reps F w (encN x) vs):Reps F w (dO o) (vO o vs):=by
 cases o with
 | none=>exact Reps_nil.2 rfl
 | some x=>exact h x rfl
set_option maxRecDepth 100000 in
set_option maxHeartbeats 4000000 in
theorem of_app (M:Nat) (ih:OfSaid M) (F:Nat→Prop) (m n:Tm) (ns:List Nm) (nv tv s pv:Value) (w:World) (k0:Ty) (hN:sizeTm (.app m n)≤M+1) (hp:KdPre F (.app m n) ns nv tv s pv w) (hty:typeOf ns (.app m n)=some k0):Calls Tryz.prog 10 #[.agg #[nv,tv],.agg #[s,pv]] w (SAppPost F (meanOf ns (.app m n)) w):=by
 have hold:=hp.old
 obtain ⟨na,nc,rfl,_,_,hatN⟩:=Rep_sl1_open hp.rn
 obtain ⟨ka,kc,rfl,_,_,hatK⟩:=Rep_sl1_open hp.rk
 have hrt:=hp.rt
 rw [trTm] at hrt
 obtain ⟨qa,qc,e,hkids⟩:=encTr_open hrt
 simp only [atomTr,kidsTr,List.cons.injEq,and_true] at e hkids
 obtain ⟨rfl,rfl⟩:=e
 obtain ⟨_,_,e,hat⟩:=AtTrs.of hkids
 simp only [Value.slice.injEq,true_and] at e
 obtain ⟨rfl,rfl⟩:=e
 obtain ⟨pb1,po1,s1,a1,n1,c1,d1,pe1,pw1,pq1,pc1,pd1,pr1,ps1,pn1⟩:=hat 1 (by simp)
 simp only [List.getElem?_cons_zero,List.getElem?_cons_succ,Option.some.injEq] at pq1
 subst pq1
 subst pe1
 obtain ⟨pb2,po2,s2,a2,n2,c2,d2,pe2,pw2,pq2,pc2,pd2,pr2,ps2,pn2⟩:=hat 2 (by simp)
 simp only [List.getElem?_cons_zero,List.getElem?_cons_succ,Option.some.injEq] at pq2
 subst pq2
 simp only [Option.some.injEq,Addr.mk.injEq,and_true] at pe2
 obtain ⟨rfl,rfl⟩:=pe2
 have hroom:=hp.room
 have hok:=hp.ok
 have hsm:=hp.sm
 rw [sizeTm] at hroom hN
 rw [smallTm] at hsm
 simp only [Bool.and_eq_true] at hsm
 obtain ⟨KT,kc0,rest,tym,tyn,hts,_⟩:=type_app hty
 obtain ⟨W0,hW0⟩:∃ W,W=((w.alloc (.cells #[.slice na ns.length nc,.slice ka ns.length kc] 41)).alloc (.cells #[str [],.slice (some ⟨pb1,po1,none⟩) 3 qc] 28)).alloc (.cells #[str [],.int .i64 0,.slice none 0 0,.slice none 0 0] 36):=⟨_,rfl⟩
 obtain ⟨hb0,z0,bA,bB,bC⟩:=boxes3 w (.cells #[.slice na ns.length nc,.slice ka ns.length kc] 41) (.cells #[str [],.slice (some ⟨pb1,po1,none⟩) 3 qc] 28) (.cells #[str [],.int .i64 0,.slice none 0 0,.slice none 0 0] 36)
 rw [← hW0] at hb0 z0 bA bB bC
 have CH:=Lib.hid (show Calls Tryz.prog 20 #[.agg #[str [],.slice (some ⟨pb1,po1,none⟩) 3 qc]] W0 (fun en w'=>en=.returned (str (headW (trTm (.app m n))))∧Below W0.heap.size W0 w') from l5Head_any (trTm (.app m n)) (okTr_Tm _ hp.ok) F W0 _ _ (Reps.below hb0 (fun _ h=>h) hp.rt))
 have hHW:headW (trTm (.app m n))=[97,112,112]:=by rw [trTm];rfl
 rw [hHW] at CH
 have H0:=Lib.hid (And.intro hb0 (And.intro z0 (And.intro bA bC)))
 obtain ⟨om,hom⟩:∃ o,meanOf ns m=o:=⟨_,rfl⟩
 have Cm:Hid (∀ wz,Below w.heap.size w wz→Calls Tryz.prog 10 #[.agg #[.slice na ns.length nc,.slice ka ns.length kc],.agg #[str s1,.slice a1 n1 c1]] wz (SAppPost F om wz)):=by
  show ∀ wz,_→_
  intro wz hz
  have h:=ih F m ns _ _ _ _ _ wz (by omega) ⟨fun i h=>Nat.lt_of_lt_of_le (hp.old i h) hz.size,Reps.below hz (fun _ h=>h) pr1,Rep.below hz (fun _ h=>h) hp.rn,Rep.below hz (fun _ h=>h) hp.rk,hok.1,hsm.1,hp.nm,hp.n15,by omega⟩ tym
  rw [hom] at h
  exact h
 have CKK:Hid (∀ wz,Below w.heap.size w wz→Calls Tryz.prog 17 #[.agg #[.slice na ns.length nc,.slice ka ns.length kc],.agg #[str s1,.slice a1 n1 c1]] wz (KdPost F wz KT true)):=by
  show ∀ wz,_→_
  intro wz hz
  have h:=l5Kind_any (sizeTm m) F m ns _ _ _ _ wz (Nat.le_refl _) ⟨fun i h=>Nat.lt_of_lt_of_le (hp.old i h) hz.size,Reps.below hz (fun _ h=>h) pr1,Rep.below hz (fun _ h=>h) hp.rn,Rep.below hz (fun _ h=>h) hp.rk,hok.1,hsm.1,hp.nm,hp.n15,by omega⟩
  rw [kindR_of tym] at h
  exact h
 obtain ⟨oN,hon⟩:∃ o,meanOf ns n=o:=⟨_,rfl⟩
 have Cn:Hid (∀ wz,Below w.heap.size w wz→Calls Tryz.prog 10 #[.agg #[.slice na ns.length nc,.slice ka ns.length kc],.agg #[str s2,.slice a2 n2 c2]] wz (SAppPost F oN wz)):=by
  show ∀ wz,_→_
  intro wz hz
  have h:=ih F n ns _ _ _ _ _ wz (by omega) ⟨fun i h=>Nat.lt_of_lt_of_le (hp.old i h) hz.size,Reps.below hz (fun _ h=>h) pr2,Rep.below hz (fun _ h=>h) hp.rn,Rep.below hz (fun _ h=>h) hp.rk,hok.2,hsm.2,hp.nm,hp.n15,by omega⟩ tyn
  rw [hon] at h
  exact h
 have e0:W0.cell? ⟨w.heap.size,0,none⟩=some (.slice na ns.length nc):=by simp [World.cell?,bA]
 have e1:W0.cell? ⟨w.heap.size,1,none⟩=some (.slice ka ns.length kc):=by simp [World.cell?,bA]
 have SX:Hid (∀ w',Below W0.heap.size W0 w'→w'.cell? ⟨w.heap.size,0,none⟩=some (.slice na ns.length nc)∧w'.cell? ⟨w.heap.size,1,none⟩=some (.slice ka ns.length kc)∧w'.cell? ⟨pb1,po1+2,none⟩=some (str s1)∧w'.cell? ⟨pb1,po1+3,none⟩=some (.slice a1 n1 c1)∧w'.cell? ⟨pb1,po1+4,none⟩=some (str s2)∧w'.cell? ⟨pb1,po1+5,none⟩=some (.slice a2 n2 c2)):=by
  show ∀ w',_→_
  intro w' hb'
  have hb0':=hb0.trans (hb'.mono hb0.size)
  exact ⟨(hb'.cell (World.block_lt_of_cell? W0 _ e0)).trans e0,(hb'.cell (World.block_lt_of_cell? W0 _ e1)).trans e1,(hb0'.cell (p:=⟨pb1,po1+2,none⟩) pw1).trans pc1,(hb0'.cell (p:=⟨pb1,po1+3,none⟩) pw1).trans pd1,(hb0'.cell (p:=⟨pb1,po1+4,none⟩) pw1).trans pc2,(hb0'.cell (p:=⟨pb1,po1+5,none⟩) pw1).trans pd2⟩
 have HP:=Lib.hid (And.intro hp (And.intro hok hsm))
 have hlen:ns.length≤100:=by omega
 have HTY:=Lib.hid (And.intro tym (And.intro tyn (And.intro hts (And.intro hom (hon)))))
 clear tym tyn hts hom hon hty
 clear hatN hatK hkids hat hrt hp hok hsm ih hN hb0 z0 bA bB bC e0 e1 pr1 pc1 pd1 ps1 pn1 pw1 pr2 pc2 pd2 ps2 pn2 pw2
 go_enter Tryz.func10,Tryz.ntmps10
 go_wp2_with fail
 rw [← hW0]
 clear hW0
 (with_reducible refine CH.out.mono ?_)
 rintro en w1 ⟨rfl,hb1⟩
 have H1:=Lib.hid (And.intro hb1 (H0.out.1.trans (hb1.mono H0.out.1.size)))
 clear hb1 CH
 go_wp2_with fail
 have CRK:=Lib.hid (fun wz (hz:Below w1.heap.size w1 wz)=>CKK.out wz (H1.out.2.trans (hz.mono (H1.out.2).size)))
 have hFK:Hid (∀ i,F i→i<w1.heap.size):=fun i h=>Nat.lt_of_lt_of_le (HP.out.1.old i h) (H1.out.2).size
 refine cut_code (X:=Nat×Option Addr×Nat) (fun a x=>((((((((((a.put (some 92) (.agg #[.slice na ns.length nc,.slice ka ns.length kc])).put (some 93) (.slice (some ⟨pb1,po1,none⟩) 3 qc)).put (some 94) (.pointer (some ⟨pb1,po1+2,none⟩))).put (some 95) (.agg #[str s1,.slice a1 n1 c1])).put (some 96) (.tuple #[.agg #[.slice x.2.1 (KT).args.length x.2.2],.bool true])).put (some 91) (.tuple #[.agg #[.slice x.2.1 (KT).args.length x.2.2],.bool true])).put (some 97) (.agg #[.slice x.2.1 (KT).args.length x.2.2])).put (some 98) (.bool true)).put (some 12) (.pointer (some ⟨x.1,0,none⟩))).put (some 13) (.bool true))) (fun x w'=>BoxRes F w1 x.1 (.cells #[.slice x.2.1 (KT).args.length x.2.2] 31 (0,0)) [encS KT] [.slice x.2.1 (KT).args.length x.2.2] w') ?_ ?_
 ·refine wp_region_noPanic ?_
  refine wp_region_S (fun w'=>Below w1.heap.size w1 w') (fun _=>false) (by kernel_rfl) ?_
  have hSd:(fun w'=>Below w1.heap.size w1 w') w1.drew:=Below.drew (Below.refl _ _)
  refine tk [0,1,2,3] hSd ?_
  (intro d hd;simp [tkD] at hd;subst hd;simp only [tks,pQ,pZ,pS])
  iterate 4 (refine ⟨?_,?_,?_⟩;rotate_left;· (intro oi ho;simp at ho;subst ho;refine Or.inl ⟨by rfl,fun w' hw'=>?_⟩;obtain ⟨e0,e1,f1,h1,f2,h2⟩:=SX.out w' (H1.out.1.trans (hw'.mono (H1.out.1).size));go_simp;try with_reducible rfl))
  refine wpAnyS_two 4 8 (by kernel_rfl) ?_ ?_
  ·(intro o4 ho K' hK;simp at ho;subst ho)
   go_simp
   go_at_call 17
   (with_reducible refine (CRK.out w1.drew hSd).mono ?_)
   rintro en y1 ⟨xx,yy,rfl,hb,hr⟩
   have hY1:Below w1.heap.size w1 y1:=hSd.trans hb
   (refine hK.out _ _ (fun _=>hY1) ?_;clear hK K';try simp only [pQ,pN,pZ,pS])
   refine tk [5,6,7] hY1 ?_
   (intro d hd;simp [tkD] at hd;subst hd;simp only [tks,pQ,pZ,pS])
   iterate 3 (refine ⟨?_,?_,?_⟩;rotate_left;· (intro oi ho;simp at ho;subst ho;refine Or.inl ⟨by rfl,fun w' hw'=>?_⟩;go_simp;try with_reducible rfl))
   (refine on 8 ?_;intro o ho K' hK;simp at ho;subst ho;go_simp)
   (refine hK.out _ _ (fun _=>hY1.alloc (hY1).size _) ?_;clear hK K';try simp only [pQ,pN,pZ,pS])
   have bz:(y1.alloc (.cells #[.slice none 0 0] 31)).heap[y1.heap.size]? = some (.cells #[.slice none 0 0] 31 (0,0)):=heap_new _ _
   have zc0:=(show _=some _ from by simp only [World.cell?,bz];rfl:(y1.alloc (.cells #[.slice none 0 0] 31)).cell? ⟨y1.heap.size,0,none⟩=some (.slice none 0 0))
   have zf0:(y1.alloc (.cells #[.slice none 0 0] 31)).frozen? ⟨y1.heap.size,0,none⟩=false:=by simp only [World.frozen?,bz];rfl
   (refine on 9 ?_;intro o ho K' hK;simp at ho;subst ho;go_simp)
   (refine hK.out _ _ (fun _=>hY1.alloc hY1.size _) ?_;clear hK K';try simp only [pQ,pN,pZ,pS])
   (refine on 10 ?_;intro o ho K' hK;simp at ho;subst ho;go_simp)
   (refine hK.out _ _ (fun _=>hY1.alloc hY1.size _) ?_;clear hK K';try simp only [pQ,pN,pZ,pS])
   refine wpAnyS_done (by kernel_rfl) (NoPanic.normal ?_) _
   exact ⟨rfl,⟨y1.heap.size,xx,yy⟩,by rfl,BoxRes.fresh hY1 (Reps.one hr)⟩
  ·(intro o8 ho K' hK;simp at ho;subst ho)
   go_simp
   (refine hK.out _ _ (fun _=>hSd.alloc (Nat.le_refl _) _) ?_;clear hK K';try simp only [pQ,pN,pZ,pS])
   (refine on 4 ?_;intro o ho K' hK;simp at ho;subst ho;go_simp)
   go_at_call 17
   have hY0:Below w1.heap.size w1 (w1.alloc (.cells #[.slice none 0 0] 31)).drew:=hSd.alloc (Nat.le_refl _) _
   (with_reducible refine (CRK.out _ hY0).mono ?_)
   rintro en y1 ⟨xx,yy,rfl,hb,hr⟩
   have hY1:Below w1.heap.size w1 y1:=hY0.trans (hb.mono hY0.size)
   (refine hK.out _ _ (fun _=>hY1) ?_;clear hK K';try simp only [pQ,pN,pZ,pS])
   refine tk [5,6,7] hY1 ?_
   (intro d hd;simp [tkD] at hd;subst hd;simp only [tks,pQ,pZ,pS])
   iterate 3 (refine ⟨?_,?_,?_⟩;rotate_left;· (intro oi ho;simp at ho;subst ho;refine Or.inl ⟨by rfl,fun w' hw'=>?_⟩;go_simp;try with_reducible rfl))
   have bz:y1.heap[w1.heap.size]? = some (.cells #[.slice none 0 0] 31 (0,0)):=(hb.block _ (show _<_ from by simp)).trans (heap_new w1 (.cells #[.slice none 0 0] 31))
   have zc0:=(show _=some _ from by simp only [World.cell?,bz];rfl:(y1).cell? ⟨w1.heap.size,0,none⟩=some (.slice none 0 0))
   have zf0:(y1).frozen? ⟨w1.heap.size,0,none⟩=false:=by simp only [World.frozen?,bz];rfl
   (refine on 9 ?_;intro o ho K' hK;simp at ho;subst ho;go_simp)
   (refine hK.out _ _ (fun _=>(hY1.setCell (p:=⟨w1.heap.size,0,none⟩) (Nat.le_refl _) _)) ?_;clear hK K';try simp only [pQ,pN,pZ,pS])
   (refine on 10 ?_;intro o ho K' hK;simp at ho;subst ho;go_simp)
   (refine hK.out _ _ (fun _=>(hY1.setCell (p:=⟨w1.heap.size,0,none⟩) (Nat.le_refl _) _)) ?_;clear hK K';try simp only [pQ,pN,pZ,pS])
   refine wpAnyS_done (by kernel_rfl) (NoPanic.normal ?_) _
   exact ⟨rfl,⟨w1.heap.size,xx,yy⟩,by rfl,BoxRes.first hFK.out hY0 (by simp) hb (Reps.one hr) (but1 _ _ _) (by rw [setCell_at' bz];rfl)⟩
 rintro ⟨gk,xk,yk⟩ zk hR
 have Rk:Hid (BoxRes F w1 gk (.cells #[.slice xk (KT).args.length yk] 31 (0,0)) [encS KT] [.slice xk (KT).args.length yk] zk):=hR
 have HZk:Hid (Below W0.heap.size W0 zk∧Below w.heap.size w zk):=⟨H1.out.1.trans (Rk.out.below.mono (H1.out.1).size),H1.out.2.trans (Rk.out.below.mono (H1.out.2).size)⟩
 have HLk:Hid (W0.heap.size≤w1.heap.size):=(H1.out.1).size
 clear hR CRK
 simp only [Act.put,List.setIfInBounds_toArray,List.set_cons_zero,List.set_cons_succ]
 go_wp2_with fail
 have CRm:=Lib.hid (fun wz (hz:Below zk.heap.size zk wz)=>Cm.out wz (HZk.out.2.trans (hz.mono (HZk.out.2).size)))
 have hFm:Hid (∀ i,F i→i<zk.heap.size):=fun i h=>Nat.lt_of_lt_of_le (HP.out.1.old i h) (HZk.out.2).size
 refine cut_code (X:=Nat×Bs×Int×Option Addr×Nat×Nat×Option Addr×Nat×Nat) (fun a x=>((((((((((a.put (some 100) (.agg #[.slice na ns.length nc,.slice ka ns.length kc])).put (some 101) (.slice (some ⟨pb1,po1,none⟩) 3 qc)).put (some 102) (.pointer (some ⟨pb1,po1+2,none⟩))).put (some 103) (.agg #[str s1,.slice a1 n1 c1])).put (some 104) (.tuple #[.agg #[str x.2.1,.int .i64 x.2.2.1,.slice x.2.2.2.1 x.2.2.2.2.1 x.2.2.2.2.2.1,.slice x.2.2.2.2.2.2.1 x.2.2.2.2.2.2.2.1 x.2.2.2.2.2.2.2.2],.bool om.isSome])).put (some 99) (.tuple #[.agg #[str x.2.1,.int .i64 x.2.2.1,.slice x.2.2.2.1 x.2.2.2.2.1 x.2.2.2.2.2.1,.slice x.2.2.2.2.2.2.1 x.2.2.2.2.2.2.2.1 x.2.2.2.2.2.2.2.2],.bool om.isSome])).put (some 105) (.agg #[str x.2.1,.int .i64 x.2.2.1,.slice x.2.2.2.1 x.2.2.2.2.1 x.2.2.2.2.2.1,.slice x.2.2.2.2.2.2.1 x.2.2.2.2.2.2.2.1 x.2.2.2.2.2.2.2.2])).put (some 106) (.bool om.isSome)).put (some 14) (.pointer (some ⟨x.1,0,none⟩))).put (some 15) (.bool om.isSome))) (fun x w'=>BoxRes F zk x.1 (.cells #[str x.2.1,.int .i64 x.2.2.1,.slice x.2.2.2.1 x.2.2.2.2.1 x.2.2.2.2.2.1,.slice x.2.2.2.2.2.2.1 x.2.2.2.2.2.2.2.1 x.2.2.2.2.2.2.2.2] 36 (0,0)) (dO om) (vO om [str x.2.1,.int .i64 x.2.2.1,.slice x.2.2.2.1 x.2.2.2.2.1 x.2.2.2.2.2.1,.slice x.2.2.2.2.2.2.1 x.2.2.2.2.2.2.2.1 x.2.2.2.2.2.2.2.2]) w') ?_ ?_
 ·refine wp_region_noPanic ?_
  refine wp_region_S (fun w'=>Below zk.heap.size zk w') (fun _=>false) (by kernel_rfl) ?_
  have hSd:(fun w'=>Below zk.heap.size zk w') zk.drew:=Below.drew (Below.refl _ _)
  refine tk [0,1,2,3] hSd ?_
  (intro d hd;simp [tkD] at hd;subst hd;simp only [tks,pQ,pZ,pS])
  iterate 4 (refine ⟨?_,?_,?_⟩;rotate_left;· (intro oi ho;simp at ho;subst ho;refine Or.inl ⟨by rfl,fun w' hw'=>?_⟩;obtain ⟨e0,e1,f1,h1,f2,h2⟩:=SX.out w' (HZk.out.1.trans (hw'.mono (HZk.out.1).size));go_simp;try with_reducible rfl))
  refine wpAnyS_two 4 8 (by kernel_rfl) ?_ ?_
  ·(intro o4 ho K' hK;simp at ho;subst ho)
   go_simp
   go_at_call 10
   (with_reducible refine (CRm.out zk.drew hSd).mono ?_)
   rintro en y1 ⟨ss,vv,aa,an,ac,ba,bn,bc,rfl,hb,hr⟩
   have hY1:Below zk.heap.size zk y1:=hSd.trans hb
   (refine hK.out _ _ (fun _=>hY1) ?_;clear hK K';try simp only [pQ,pN,pZ,pS])
   refine tk [5,6,7] hY1 ?_
   (intro d hd;simp [tkD] at hd;subst hd;simp only [tks,pQ,pZ,pS])
   iterate 3 (refine ⟨?_,?_,?_⟩;rotate_left;· (intro oi ho;simp at ho;subst ho;refine Or.inl ⟨by rfl,fun w' hw'=>?_⟩;go_simp;try with_reducible rfl))
   (refine on 8 ?_;intro o ho K' hK;simp at ho;subst ho;go_simp)
   (refine hK.out _ _ (fun _=>hY1.alloc (hY1).size _) ?_;clear hK K';try simp only [pQ,pN,pZ,pS])
   have bz:(y1.alloc (.cells #[str [],.int .i64 0,.slice none 0 0,.slice none 0 0] 36)).heap[y1.heap.size]? = some (.cells #[str [],.int .i64 0,.slice none 0 0,.slice none 0 0] 36 (0,0)):=heap_new _ _
   have zc0:=(show _=some _ from by simp only [World.cell?,bz];rfl:(y1.alloc (.cells #[str [],.int .i64 0,.slice none 0 0,.slice none 0 0] 36)).cell? ⟨y1.heap.size,0,none⟩=some (str []))
   have zf0:(y1.alloc (.cells #[str [],.int .i64 0,.slice none 0 0,.slice none 0 0] 36)).frozen? ⟨y1.heap.size,0,none⟩=false:=by simp only [World.frozen?,bz];rfl
   have zc1:=(show _=some _ from by simp only [World.cell?,bz];rfl:(y1.alloc (.cells #[str [],.int .i64 0,.slice none 0 0,.slice none 0 0] 36)).cell? ⟨y1.heap.size,1,none⟩=some (.int .i64 0))
   have zf1:(y1.alloc (.cells #[str [],.int .i64 0,.slice none 0 0,.slice none 0 0] 36)).frozen? ⟨y1.heap.size,1,none⟩=false:=by simp only [World.frozen?,bz];rfl
   have zc2:=(show _=some _ from by simp only [World.cell?,bz];rfl:(y1.alloc (.cells #[str [],.int .i64 0,.slice none 0 0,.slice none 0 0] 36)).cell? ⟨y1.heap.size,2,none⟩=some (.slice none 0 0))
   have zf2:(y1.alloc (.cells #[str [],.int .i64 0,.slice none 0 0,.slice none 0 0] 36)).frozen? ⟨y1.heap.size,2,none⟩=false:=by simp only [World.frozen?,bz];rfl
   have zc3:=(show _=some _ from by simp only [World.cell?,bz];rfl:(y1.alloc (.cells #[str [],.int .i64 0,.slice none 0 0,.slice none 0 0] 36)).cell? ⟨y1.heap.size,3,none⟩=some (.slice none 0 0))
   have zf3:(y1.alloc (.cells #[str [],.int .i64 0,.slice none 0 0,.slice none 0 0] 36)).frozen? ⟨y1.heap.size,3,none⟩=false:=by simp only [World.frozen?,bz];rfl
   (refine on 9 ?_;intro o ho K' hK;simp at ho;subst ho;go_simp)
   (refine hK.out _ _ (fun _=>hY1.alloc hY1.size _) ?_;clear hK K';try simp only [pQ,pN,pZ,pS])
   (refine on 10 ?_;intro o ho K' hK;simp at ho;subst ho;go_simp)
   (refine hK.out _ _ (fun _=>hY1.alloc hY1.size _) ?_;clear hK K';try simp only [pQ,pN,pZ,pS])
   refine wpAnyS_done (by kernel_rfl) (NoPanic.normal ?_) _
   exact ⟨rfl,⟨y1.heap.size,ss,vv,aa,an,ac,ba,bn,bc⟩,by rfl,BoxRes.fresh hY1 (repO hr)⟩
  ·(intro o8 ho K' hK;simp at ho;subst ho)
   go_simp
   (refine hK.out _ _ (fun _=>hSd.alloc (Nat.le_refl _) _) ?_;clear hK K';try simp only [pQ,pN,pZ,pS])
   (refine on 4 ?_;intro o ho K' hK;simp at ho;subst ho;go_simp)
   go_at_call 10
   have hY0:Below zk.heap.size zk (zk.alloc (.cells #[str [],.int .i64 0,.slice none 0 0,.slice none 0 0] 36)).drew:=hSd.alloc (Nat.le_refl _) _
   (with_reducible refine (CRm.out _ hY0).mono ?_)
   rintro en y1 ⟨ss,vv,aa,an,ac,ba,bn,bc,rfl,hb,hr⟩
   have hY1:Below zk.heap.size zk y1:=hY0.trans (hb.mono hY0.size)
   (refine hK.out _ _ (fun _=>hY1) ?_;clear hK K';try simp only [pQ,pN,pZ,pS])
   refine tk [5,6,7] hY1 ?_
   (intro d hd;simp [tkD] at hd;subst hd;simp only [tks,pQ,pZ,pS])
   iterate 3 (refine ⟨?_,?_,?_⟩;rotate_left;· (intro oi ho;simp at ho;subst ho;refine Or.inl ⟨by rfl,fun w' hw'=>?_⟩;go_simp;try with_reducible rfl))
   have bz:y1.heap[zk.heap.size]? = some (.cells #[str [],.int .i64 0,.slice none 0 0,.slice none 0 0] 36 (0,0)):=(hb.block _ (show _<_ from by simp)).trans (heap_new zk (.cells #[str [],.int .i64 0,.slice none 0 0,.slice none 0 0] 36))
   have zc0:=(show _=some _ from by simp only [World.cell?,bz];rfl:(y1).cell? ⟨zk.heap.size,0,none⟩=some (str []))
   have zf0:(y1).frozen? ⟨zk.heap.size,0,none⟩=false:=by simp only [World.frozen?,bz];rfl
   have zc1:=(show _=some _ from by simp only [World.cell?,bz];rfl:(y1).cell? ⟨zk.heap.size,1,none⟩=some (.int .i64 0))
   have zf1:(y1).frozen? ⟨zk.heap.size,1,none⟩=false:=by simp only [World.frozen?,bz];rfl
   have zc2:=(show _=some _ from by simp only [World.cell?,bz];rfl:(y1).cell? ⟨zk.heap.size,2,none⟩=some (.slice none 0 0))
   have zf2:(y1).frozen? ⟨zk.heap.size,2,none⟩=false:=by simp only [World.frozen?,bz];rfl
   have zc3:=(show _=some _ from by simp only [World.cell?,bz];rfl:(y1).cell? ⟨zk.heap.size,3,none⟩=some (.slice none 0 0))
   have zf3:(y1).frozen? ⟨zk.heap.size,3,none⟩=false:=by simp only [World.frozen?,bz];rfl
   (refine on 9 ?_;intro o ho K' hK;simp at ho;subst ho;go_simp)
   (refine hK.out _ _ (fun _=>((((hY1.setCell (p:=⟨zk.heap.size,0,none⟩) (Nat.le_refl _) _).setCell (p:=⟨zk.heap.size,1,none⟩) (Nat.le_refl _) _).setCell (p:=⟨zk.heap.size,2,none⟩) (Nat.le_refl _) _).setCell (p:=⟨zk.heap.size,3,none⟩) (Nat.le_refl _) _)) ?_;clear hK K';try simp only [pQ,pN,pZ,pS])
   (refine on 10 ?_;intro o ho K' hK;simp at ho;subst ho;go_simp)
   (refine hK.out _ _ (fun _=>((((hY1.setCell (p:=⟨zk.heap.size,0,none⟩) (Nat.le_refl _) _).setCell (p:=⟨zk.heap.size,1,none⟩) (Nat.le_refl _) _).setCell (p:=⟨zk.heap.size,2,none⟩) (Nat.le_refl _) _).setCell (p:=⟨zk.heap.size,3,none⟩) (Nat.le_refl _) _)) ?_;clear hK K';try simp only [pQ,pN,pZ,pS])
   refine wpAnyS_done (by kernel_rfl) (NoPanic.normal ?_) _
   exact ⟨rfl,⟨zk.heap.size,ss,vv,aa,an,ac,ba,bn,bc⟩,by rfl,BoxRes.first hFm.out hY0 (by simp) hb (repO hr) (but4 _ _ _ _ _ _) (by rw [setCell_at' (setCell_at' (setCell_at' (setCell_at' bz)))];rfl)⟩
 rintro ⟨gm,ssm,vvm,aam,anm,acm,bam,bnm,bcm⟩ zm hR
 have Rm:Hid (BoxRes F zk gm (.cells #[str ssm,.int .i64 vvm,.slice aam anm acm,.slice bam bnm bcm] 36 (0,0)) (dO om) (vO om [str ssm,.int .i64 vvm,.slice aam anm acm,.slice bam bnm bcm]) zm):=hR
 have HZm:Hid (Below W0.heap.size W0 zm∧Below w.heap.size w zm):=⟨HZk.out.1.trans (Rm.out.below.mono (HZk.out.1).size),HZk.out.2.trans (Rm.out.below.mono (HZk.out.2).size)⟩
 have HLm:Hid (W0.heap.size≤zk.heap.size):=(HZk.out.1).size
 clear hR CRm
 simp only [Act.put,List.setIfInBounds_toArray,List.set_cons_zero,List.set_cons_succ]
 go_wp2_with fail
 have CRn:=Lib.hid (fun wz (hz:Below zm.heap.size zm wz)=>Cn.out wz (HZm.out.2.trans (hz.mono (HZm.out.2).size)))
 have hFn:Hid (∀ i,F i→i<zm.heap.size):=fun i h=>Nat.lt_of_lt_of_le (HP.out.1.old i h) (HZm.out.2).size
 refine cut_code (X:=Nat×Bs×Int×Option Addr×Nat×Nat×Option Addr×Nat×Nat) (fun a x=>((((((((((a.put (some 108) (.agg #[.slice na ns.length nc,.slice ka ns.length kc])).put (some 109) (.slice (some ⟨pb1,po1,none⟩) 3 qc)).put (some 110) (.pointer (some ⟨pb1,po1+4,none⟩))).put (some 111) (.agg #[str s2,.slice a2 n2 c2])).put (some 112) (.tuple #[.agg #[str x.2.1,.int .i64 x.2.2.1,.slice x.2.2.2.1 x.2.2.2.2.1 x.2.2.2.2.2.1,.slice x.2.2.2.2.2.2.1 x.2.2.2.2.2.2.2.1 x.2.2.2.2.2.2.2.2],.bool oN.isSome])).put (some 107) (.tuple #[.agg #[str x.2.1,.int .i64 x.2.2.1,.slice x.2.2.2.1 x.2.2.2.2.1 x.2.2.2.2.2.1,.slice x.2.2.2.2.2.2.1 x.2.2.2.2.2.2.2.1 x.2.2.2.2.2.2.2.2],.bool oN.isSome])).put (some 113) (.agg #[str x.2.1,.int .i64 x.2.2.1,.slice x.2.2.2.1 x.2.2.2.2.1 x.2.2.2.2.2.1,.slice x.2.2.2.2.2.2.1 x.2.2.2.2.2.2.2.1 x.2.2.2.2.2.2.2.2])).put (some 114) (.bool oN.isSome)).put (some 16) (.pointer (some ⟨x.1,0,none⟩))).put (some 17) (.bool oN.isSome))) (fun x w'=>BoxRes F zm x.1 (.cells #[str x.2.1,.int .i64 x.2.2.1,.slice x.2.2.2.1 x.2.2.2.2.1 x.2.2.2.2.2.1,.slice x.2.2.2.2.2.2.1 x.2.2.2.2.2.2.2.1 x.2.2.2.2.2.2.2.2] 36 (0,0)) (dO oN) (vO oN [str x.2.1,.int .i64 x.2.2.1,.slice x.2.2.2.1 x.2.2.2.2.1 x.2.2.2.2.2.1,.slice x.2.2.2.2.2.2.1 x.2.2.2.2.2.2.2.1 x.2.2.2.2.2.2.2.2]) w') ?_ ?_
 ·refine wp_region_noPanic ?_
  refine wp_region_S (fun w'=>Below zm.heap.size zm w') (fun _=>false) (by kernel_rfl) ?_
  have hSd:(fun w'=>Below zm.heap.size zm w') zm.drew:=Below.drew (Below.refl _ _)
  refine tk [0,1,2,3] hSd ?_
  (intro d hd;simp [tkD] at hd;subst hd;simp only [tks,pQ,pZ,pS])
  iterate 4 (refine ⟨?_,?_,?_⟩;rotate_left;· (intro oi ho;simp at ho;subst ho;refine Or.inl ⟨by rfl,fun w' hw'=>?_⟩;obtain ⟨e0,e1,f1,h1,f2,h2⟩:=SX.out w' (HZm.out.1.trans (hw'.mono (HZm.out.1).size));go_simp;try with_reducible rfl))
  refine wpAnyS_two 4 8 (by kernel_rfl) ?_ ?_
  ·(intro o4 ho K' hK;simp at ho;subst ho)
   go_simp
   go_at_call 10
   (with_reducible refine (CRn.out zm.drew hSd).mono ?_)
   rintro en y1 ⟨ss,vv,aa,an,ac,ba,bn,bc,rfl,hb,hr⟩
   have hY1:Below zm.heap.size zm y1:=hSd.trans hb
   (refine hK.out _ _ (fun _=>hY1) ?_;clear hK K';try simp only [pQ,pN,pZ,pS])
   refine tk [5,6,7] hY1 ?_
   (intro d hd;simp [tkD] at hd;subst hd;simp only [tks,pQ,pZ,pS])
   iterate 3 (refine ⟨?_,?_,?_⟩;rotate_left;· (intro oi ho;simp at ho;subst ho;refine Or.inl ⟨by rfl,fun w' hw'=>?_⟩;go_simp;try with_reducible rfl))
   (refine on 8 ?_;intro o ho K' hK;simp at ho;subst ho;go_simp)
   (refine hK.out _ _ (fun _=>hY1.alloc (hY1).size _) ?_;clear hK K';try simp only [pQ,pN,pZ,pS])
   have bz:(y1.alloc (.cells #[str [],.int .i64 0,.slice none 0 0,.slice none 0 0] 36)).heap[y1.heap.size]? = some (.cells #[str [],.int .i64 0,.slice none 0 0,.slice none 0 0] 36 (0,0)):=heap_new _ _
   have zc0:=(show _=some _ from by simp only [World.cell?,bz];rfl:(y1.alloc (.cells #[str [],.int .i64 0,.slice none 0 0,.slice none 0 0] 36)).cell? ⟨y1.heap.size,0,none⟩=some (str []))
   have zf0:(y1.alloc (.cells #[str [],.int .i64 0,.slice none 0 0,.slice none 0 0] 36)).frozen? ⟨y1.heap.size,0,none⟩=false:=by simp only [World.frozen?,bz];rfl
   have zc1:=(show _=some _ from by simp only [World.cell?,bz];rfl:(y1.alloc (.cells #[str [],.int .i64 0,.slice none 0 0,.slice none 0 0] 36)).cell? ⟨y1.heap.size,1,none⟩=some (.int .i64 0))
   have zf1:(y1.alloc (.cells #[str [],.int .i64 0,.slice none 0 0,.slice none 0 0] 36)).frozen? ⟨y1.heap.size,1,none⟩=false:=by simp only [World.frozen?,bz];rfl
   have zc2:=(show _=some _ from by simp only [World.cell?,bz];rfl:(y1.alloc (.cells #[str [],.int .i64 0,.slice none 0 0,.slice none 0 0] 36)).cell? ⟨y1.heap.size,2,none⟩=some (.slice none 0 0))
   have zf2:(y1.alloc (.cells #[str [],.int .i64 0,.slice none 0 0,.slice none 0 0] 36)).frozen? ⟨y1.heap.size,2,none⟩=false:=by simp only [World.frozen?,bz];rfl
   have zc3:=(show _=some _ from by simp only [World.cell?,bz];rfl:(y1.alloc (.cells #[str [],.int .i64 0,.slice none 0 0,.slice none 0 0] 36)).cell? ⟨y1.heap.size,3,none⟩=some (.slice none 0 0))
   have zf3:(y1.alloc (.cells #[str [],.int .i64 0,.slice none 0 0,.slice none 0 0] 36)).frozen? ⟨y1.heap.size,3,none⟩=false:=by simp only [World.frozen?,bz];rfl
   (refine on 9 ?_;intro o ho K' hK;simp at ho;subst ho;go_simp)
   (refine hK.out _ _ (fun _=>hY1.alloc hY1.size _) ?_;clear hK K';try simp only [pQ,pN,pZ,pS])
   (refine on 10 ?_;intro o ho K' hK;simp at ho;subst ho;go_simp)
   (refine hK.out _ _ (fun _=>hY1.alloc hY1.size _) ?_;clear hK K';try simp only [pQ,pN,pZ,pS])
   refine wpAnyS_done (by kernel_rfl) (NoPanic.normal ?_) _
   exact ⟨rfl,⟨y1.heap.size,ss,vv,aa,an,ac,ba,bn,bc⟩,by rfl,BoxRes.fresh hY1 (repO hr)⟩
  ·(intro o8 ho K' hK;simp at ho;subst ho)
   go_simp
   (refine hK.out _ _ (fun _=>hSd.alloc (Nat.le_refl _) _) ?_;clear hK K';try simp only [pQ,pN,pZ,pS])
   (refine on 4 ?_;intro o ho K' hK;simp at ho;subst ho;go_simp)
   go_at_call 10
   have hY0:Below zm.heap.size zm (zm.alloc (.cells #[str [],.int .i64 0,.slice none 0 0,.slice none 0 0] 36)).drew:=hSd.alloc (Nat.le_refl _) _
   (with_reducible refine (CRn.out _ hY0).mono ?_)
   rintro en y1 ⟨ss,vv,aa,an,ac,ba,bn,bc,rfl,hb,hr⟩
   have hY1:Below zm.heap.size zm y1:=hY0.trans (hb.mono hY0.size)
   (refine hK.out _ _ (fun _=>hY1) ?_;clear hK K';try simp only [pQ,pN,pZ,pS])
   refine tk [5,6,7] hY1 ?_
   (intro d hd;simp [tkD] at hd;subst hd;simp only [tks,pQ,pZ,pS])
   iterate 3 (refine ⟨?_,?_,?_⟩;rotate_left;· (intro oi ho;simp at ho;subst ho;refine Or.inl ⟨by rfl,fun w' hw'=>?_⟩;go_simp;try with_reducible rfl))
   have bz:y1.heap[zm.heap.size]? = some (.cells #[str [],.int .i64 0,.slice none 0 0,.slice none 0 0] 36 (0,0)):=(hb.block _ (show _<_ from by simp)).trans (heap_new zm (.cells #[str [],.int .i64 0,.slice none 0 0,.slice none 0 0] 36))
   have zc0:=(show _=some _ from by simp only [World.cell?,bz];rfl:(y1).cell? ⟨zm.heap.size,0,none⟩=some (str []))
   have zf0:(y1).frozen? ⟨zm.heap.size,0,none⟩=false:=by simp only [World.frozen?,bz];rfl
   have zc1:=(show _=some _ from by simp only [World.cell?,bz];rfl:(y1).cell? ⟨zm.heap.size,1,none⟩=some (.int .i64 0))
   have zf1:(y1).frozen? ⟨zm.heap.size,1,none⟩=false:=by simp only [World.frozen?,bz];rfl
   have zc2:=(show _=some _ from by simp only [World.cell?,bz];rfl:(y1).cell? ⟨zm.heap.size,2,none⟩=some (.slice none 0 0))
   have zf2:(y1).frozen? ⟨zm.heap.size,2,none⟩=false:=by simp only [World.frozen?,bz];rfl
   have zc3:=(show _=some _ from by simp only [World.cell?,bz];rfl:(y1).cell? ⟨zm.heap.size,3,none⟩=some (.slice none 0 0))
   have zf3:(y1).frozen? ⟨zm.heap.size,3,none⟩=false:=by simp only [World.frozen?,bz];rfl
   (refine on 9 ?_;intro o ho K' hK;simp at ho;subst ho;go_simp)
   (refine hK.out _ _ (fun _=>((((hY1.setCell (p:=⟨zm.heap.size,0,none⟩) (Nat.le_refl _) _).setCell (p:=⟨zm.heap.size,1,none⟩) (Nat.le_refl _) _).setCell (p:=⟨zm.heap.size,2,none⟩) (Nat.le_refl _) _).setCell (p:=⟨zm.heap.size,3,none⟩) (Nat.le_refl _) _)) ?_;clear hK K';try simp only [pQ,pN,pZ,pS])
   (refine on 10 ?_;intro o ho K' hK;simp at ho;subst ho;go_simp)
   (refine hK.out _ _ (fun _=>((((hY1.setCell (p:=⟨zm.heap.size,0,none⟩) (Nat.le_refl _) _).setCell (p:=⟨zm.heap.size,1,none⟩) (Nat.le_refl _) _).setCell (p:=⟨zm.heap.size,2,none⟩) (Nat.le_refl _) _).setCell (p:=⟨zm.heap.size,3,none⟩) (Nat.le_refl _) _)) ?_;clear hK K';try simp only [pQ,pN,pZ,pS])
   refine wpAnyS_done (by kernel_rfl) (NoPanic.normal ?_) _
   exact ⟨rfl,⟨zm.heap.size,ss,vv,aa,an,ac,ba,bn,bc⟩,by rfl,BoxRes.first hFn.out hY0 (by simp) hb (repO hr) (but4 _ _ _ _ _ _) (by rw [setCell_at' (setCell_at' (setCell_at' (setCell_at' bz)))];rfl)⟩
 rintro ⟨gn,ssn,vvn,aan,ann,acn,ban,bnn,bcn⟩ zn hR
 have Rn:Hid (BoxRes F zm gn (.cells #[str ssn,.int .i64 vvn,.slice aan ann acn,.slice ban bnn bcn] 36 (0,0)) (dO oN) (vO oN [str ssn,.int .i64 vvn,.slice aan ann acn,.slice ban bnn bcn]) zn):=hR
 have HZn:Hid (Below W0.heap.size W0 zn∧Below w.heap.size w zn):=⟨HZm.out.1.trans (Rn.out.below.mono (HZm.out.1).size),HZm.out.2.trans (Rn.out.below.mono (HZm.out.2).size)⟩
 have HLn:Hid (W0.heap.size≤zm.heap.size):=(HZm.out.1).size
 clear hR CRn
 simp only [Act.put,List.setIfInBounds_toArray,List.set_cons_zero,List.set_cons_succ]
 have Bk:zn.heap[gk]? = some (.cells #[.slice xk KT.args.length yk] 31 (0,0)):=(Rn.out.below.block _ (lt_of_heap ((Rm.out.below.block _ (lt_of_heap (Rk.out.blk))).trans (Rk.out.blk)))).trans ((Rm.out.below.block _ (lt_of_heap (Rk.out.blk))).trans (Rk.out.blk))
 have Tk:Hid (Rep (fun i=>F i∨W0.heap.size≤i) zn (encS (KT)) (.slice xk (KT).args.length yk)):=Rep.below (F':=fun i=>F i∨W0.heap.size≤i) Rn.out.below (fun _ h=>h) (Rep.below (F':=fun i=>F i∨W0.heap.size≤i) Rm.out.below (fun _ h=>h) ((Reps.get1 Rk.out.rep).weak (G:=fun i=>F i∨W0.heap.size≤i) (fun i h=>h.1.elim .inl (fun h=>.inr (Nat.le_trans HLk.out h)))))
 have Bm:zn.heap[gm]? = some (.cells #[str ssm,.int .i64 vvm,.slice aam anm acm,.slice bam bnm bcm] 36 (0,0)):=(Rn.out.below.block _ (lt_of_heap (Rm.out.blk))).trans (Rm.out.blk)
 have Tm:Hid (Reps (fun i=>F i∨W0.heap.size≤i) zn (dO om) (vO om [str ssm,.int .i64 vvm,.slice aam anm acm,.slice bam bnm bcm])):=Reps.below (F':=fun i=>F i∨W0.heap.size≤i) Rn.out.below (fun _ h=>h) ((Rm.out.rep.weakS (G:=fun i=>F i∨W0.heap.size≤i) (fun i h=>h.1.elim .inl (fun h=>.inr (Nat.le_trans HLm.out h)))))
 have Bn:zn.heap[gn]? = some (.cells #[str ssn,.int .i64 vvn,.slice aan ann acn,.slice ban bnn bcn] 36 (0,0)):=Rn.out.blk
 have Tn:Hid (Reps (fun i=>F i∨W0.heap.size≤i) zn (dO oN) (vO oN [str ssn,.int .i64 vvn,.slice aan ann acn,.slice ban bnn bcn])):=(Rn.out.rep.weakS (G:=fun i=>F i∨W0.heap.size≤i) (fun i h=>h.1.elim .inl (fun h=>.inr (Nat.le_trans HLn.out h))))
 have NRz:Hid (NewN (w.heap.size+1+1) 0 (.slice none 0 0) (.slice none 0 0) zn):=NewN.below (B:=W0.heap.size) H0.out.2.2.2 HZn.out.1 (lt_of_heap H0.out.2.2.2)
 clear Cm Cn CKK
 cases om with
 | none =>
   have HEE:=Lib.hid (show meanOf ns (.app m n)=none by rw [meanOf,HTY.out.2.2.2.1];rfl)
   obtain ⟨rc0,rc1,rc2,rc3,_,rff⟩:=NRz.out.cells
   have rf0:=rff 0;have rf1:=rff 1;have rf2:=rff 2;have rf3:=rff 3
   clear rff
   obtain ⟨q0,q1,q2,q3⟩:=cells4 Bm
   simp only [Option.isSome_none,Option.isSome_some]
   go_wp2_with fail
   obtain ⟨W,hW,s0',s1',s2',s3',hbW,hkW⟩:=NewN.store (NRz.out) (str ssm) (.int .i64 vvm) (.slice aam anm acm) (.slice bam bnm bcm)
   rw [← hW]
   refine bodyPost_ret (v:=.tuple #[.agg #[str ssm,.int .i64 vvm,.slice aam anm acm,.slice bam bnm bcm],.bool false]) (by simp [results,Tryz.results10,go_sem,s0',s1',s2',s3']) rfl ?_
   rw [HEE.out]
   exact of_fin (o:=none) HP.out.1.old H0.out.1 H0.out.2.1 HZn.out.1 (fun x hx=>by simp at hx) hbW hkW
 | some p =>
   cases oN with
   | none =>
     have HEE:=Lib.hid (show meanOf ns (.app m n)=none by rw [meanOf,HTY.out.2.2.2.1,HTY.out.2.2.2.2];rfl)
     obtain ⟨rc0,rc1,rc2,rc3,_,rff⟩:=NRz.out.cells
     have rf0:=rff 0;have rf1:=rff 1;have rf2:=rff 2;have rf3:=rff 3
     clear rff
     obtain ⟨q0,q1,q2,q3⟩:=cells4 Bm
     simp only [Option.isSome_none,Option.isSome_some]
     go_wp2_with fail
     obtain ⟨W,hW,s0',s1',s2',s3',hbW,hkW⟩:=NewN.store (NRz.out) (str ssm) (.int .i64 vvm) (.slice aam anm acm) (.slice bam bnm bcm)
     rw [← hW]
     refine bodyPost_ret (v:=.tuple #[.agg #[str ssm,.int .i64 vvm,.slice aam anm acm,.slice bam bnm bcm],.bool false]) (by simp [results,Tryz.results10,go_sem,s0',s1',s2',s3']) rfl ?_
     rw [HEE.out]
     exact of_fin (o:=none) HP.out.1.old H0.out.1 H0.out.2.1 HZn.out.1 (fun x hx=>by simp at hx) hbW hkW
   | some q =>
     obtain ⟨tym,tyn,hts,hom,hon⟩:=HTY.out
     obtain ⟨f1,w1',s1'⟩:=mean_good m ns KT p HP.out.2.1.1 HP.out.1.n15 tym hom
     obtain ⟨f2,w2',s2'⟩:=mean_good n ns kc0 q HP.out.2.1.2 HP.out.1.n15 tyn hon
     rw [hts] at f1
     have hfit:=between_fit f2 f1
     have ha15:=type_small m ns KT HP.out.1.n15 tym
     have hF':∀ i,((F i∨W0.heap.size≤i)∧i<zn.heap.size)→i<zn.heap.size:=fun i h=>h.2
     have CA:Hid (Calls Tryz.prog 24 #[.agg #[.slice xk KT.args.length yk],.agg #[str ssm,.int .i64 vvm,.slice aam anm acm,.slice bam bnm bcm],.agg #[str ssn,.int .i64 vvn,.slice aan ann acn,.slice ban bnn bcn],.slice ka ns.length kc] zn (SAppPost (fun i=>(F i∨W0.heap.size≤i)∧i<zn.heap.size) (become p (betweenEnv (kinds ns) kc0 q rest) (ns.length+rest.length)) zn)):=by
      have h:=l4Apply_any (fun i=>(F i∨W0.heap.size≤i)∧i<zn.heap.size) KT kc0 rest (kinds ns) p q (.slice xk KT.args.length yk) (.slice ka ns.length kc) ssm ssn vvm vvn aam bam aan ban anm acm bnm bcm ann acn bnn bcn zn
       { ts:=hts,t15:=ha15,bl:=(by rw [kinds_length];omega),b15:=HP.out.1.n15,fit:=hfit,wm:=w1',wn:=w2',
         rt:=(Rep.keep fun i x h hx=>⟨⟨h,lt_of_heap hx⟩,hx⟩).1 _ _ Tk.out,
         rm:=(Rep.keep fun i x h hx=>⟨⟨h,lt_of_heap hx⟩,hx⟩).2 _ _ Tm.out,
         rn:=(Rep.keep fun i x h hx=>⟨⟨h,lt_of_heap hx⟩,hx⟩).2 _ _ Tn.out,
         rb:=(by rw [kinds_length];exact (Rep.keep fun i x h hx=>⟨⟨.inl h,lt_of_heap hx⟩,hx⟩).1 _ _ (Rep.below (F':=F) HZn.out.2 (fun _ h=>h) HP.out.1.rk)),
         hF:=hF' }
      rw [become_writes,kinds_length] at h
      exact h
     have HEE:=Lib.hid (show meanOf ns (.app m n)=become p (betweenEnv (kinds ns) kc0 q rest) (ns.length+rest.length) by
      rw [meanOf,hom,hon,Option.bind_some,Option.bind_some,tym,Option.bind_some,hts])
     obtain ⟨R,hR⟩:∃ x,x=become p (betweenEnv (kinds ns) kc0 q rest) (ns.length+rest.length):=⟨_,rfl⟩
     rw [← hR] at CA HEE
     obtain ⟨qk,_⟩:zn.cell? ⟨gk,0,none⟩=some (.slice xk KT.args.length yk)∧True:=⟨by simp only [World.cell?,Bk];rfl,trivial⟩
     obtain ⟨q0,q1,q2,q3⟩:=cells4 Bm
     obtain ⟨p0,p1,p2,p3⟩:=cells4 Bn
     obtain ⟨e0,e1,_⟩:=SX.out zn HZn.out.1
     simp only [Option.isSome_some]
     clear hR f1 f2 w1' w2' s1' s2' hfit ha15 hts hF' tym tyn hom hon
     go_wp2_with fail
     (with_reducible refine CA.out.mono ?_)
     rintro en x1 ⟨ss,vv,aa,an,ac,ba,bn,bc,rfl,hb,hr⟩
     have HX1:Hid (Below W0.heap.size W0 x1):=HZn.out.1.trans (hb.mono HZn.out.1.size)
     have HR1:Hid (∀ x,R=some x→Reps (fun i=>F i∨W0.heap.size≤i) x1 (encN x) [str ss,.int .i64 vv,.slice aa an ac,.slice ba bn bc]):=fun x hx=>(hr x hx).weakS fun i h=>by
      rcases h with h | h
      ·exact h.1
      ·exact .inr (Nat.le_trans HZn.out.1.size h)
     have NR2:Hid (NewN (w.heap.size+1+1) 0 (.slice none 0 0) (.slice none 0 0) x1):=NewN.below NRz.out hb (lt_of_heap NRz.out)
     obtain ⟨rc0,rc1,rc2,rc3,_,rff⟩:=NR2.out.cells
     have rf0:=rff 0;have rf1:=rff 1;have rf2:=rff 2;have rf3:=rff 3
     clear rff
     clear hb hr q0 q1 q2 q3 p0 p1 p2 p3 e0 e1 qk
     go_wp2_with fail
     obtain ⟨W,hW,s0',s1',s2',s3',hbW,hkW⟩:=NewN.store (NR2.out) (str ss) (.int .i64 vv) (.slice aa an ac) (.slice ba bn bc)
     rw [← hW]
     refine bodyPost_ret (v:=.tuple #[.agg #[str ss,.int .i64 vv,.slice aa an ac,.slice ba bn bc],.bool R.isSome]) (by simp [results,Tryz.results10,go_sem,s0',s1',s2',s3']) rfl ?_
     rw [HEE.out]
     exact of_fin HP.out.1.old H0.out.1 H0.out.2.1 HX1.out HR1.out hbW hkW
end Go.Proofs.YtapjaflnmklmeaaGreatDoor
namespace Go.Proofs.YtapjaflnmklmeaaGreatDoor
open Go.RowKit
theorem lvBs_ofR:∀ xs:List Bd,(∀ b∈xs,lvB b)→lvBs xs
 | [],_=>by rw [lvBs];trivial
 | b::bs,h=>by rw [lvBs];exact ⟨h b (by simp),lvBs_ofR bs fun x hx=>h x (by simp [hx])⟩
theorem fit_lvR (n:Nat):∀ (b:Bd) (h:List Ty),sizeB b≤n→fitB h b→(∀ t∈h,atomsT t≤15)→h.length+15*n≤10000→lvB b:=by
 induction n with
 | zero=>intro b h hs;have:=sizeB_pos b;omega
 | succ n ih =>
   intro b h hs hf ha hl
   cases b with
   | leaf c=>rw [lvB];trivial
   | ask v ss y no =>
     rw [fitB] at hf
     obtain ⟨t,ht,f1,f2,f3⟩:=hf
     rw [sizeB] at hs
     have hy:=sizeB_pos y
     have hn:=sizeB_pos no
     have hv:=(List.getElem?_eq_some_iff.1 ht).1
     have ht15:=ha t (List.mem_of_getElem? ht)
     rw [lvB]
     refine ⟨by omega,lvBs_ofR ss fun b hb=>?_,ih y h (by omega) f2 ha (by omega),ih no h (by omega) f3 ha (by omega)⟩
     have hsz:=mem_sizeBs hb
     obtain ⟨k,hk⟩:=List.mem_iff_getElem?.1 hb
     obtain ⟨x,hx,hxf⟩:=fitBs_at _ _ f1 k b hk
     simp only [hands,List.getElem?_map,Option.map_eq_some_iff] at hx
     obtain ⟨a,haa,rfl⟩:=hx
     have ha15:=(args_atoms ht15).1 a (List.mem_of_getElem? haa)
     have hal:=args_atoms ha15
     refine ih b (h++a.args) (by omega) hxf (fun t ht=>?_) (by rw [List.length_append];omega)
     rcases List.mem_append.1 ht with h | h
     ·exact ha t h
     ·exact hal.1 t h
set_option maxRecDepth 100000 in
set_option maxHeartbeats 4000000 in
theorem of_ite (M:Nat) (ih:OfSaid M) (F:Nat→Prop) (l m n:Tm) (ns:List Nm) (nv tv s pv:Value) (w:World) (k0:Ty) (hN:sizeTm (.ite l m n)≤M+1) (hp:KdPre F (.ite l m n) ns nv tv s pv w) (hty:typeOf ns (.ite l m n)=some k0):Calls Tryz.prog 10 #[.agg #[nv,tv],.agg #[s,pv]] w (SAppPost F (meanOf ns (.ite l m n)) w):=by
 have hold:=hp.old
 obtain ⟨na,nc,rfl,_,_,hatN⟩:=Rep_sl1_open hp.rn
 obtain ⟨ka,kc,rfl,_,_,hatK⟩:=Rep_sl1_open hp.rk
 have hrt:=hp.rt
 rw [trTm] at hrt
 obtain ⟨qa,qc,e,hkids⟩:=encTr_open hrt
 simp only [atomTr,kidsTr,List.cons.injEq,and_true] at e hkids
 obtain ⟨rfl,rfl⟩:=e
 obtain ⟨_,_,e,hat⟩:=AtTrs.of hkids
 simp only [Value.slice.injEq,true_and] at e
 obtain ⟨rfl,rfl⟩:=e
 obtain ⟨pb1,po1,s1,a1,n1,c1,d1,pe1,pw1,pq1,pc1,pd1,pr1,ps1,pn1⟩:=hat 1 (by simp)
 simp only [List.getElem?_cons_zero,List.getElem?_cons_succ,Option.some.injEq] at pq1
 subst pq1
 subst pe1
 obtain ⟨pb2,po2,s2,a2,n2,c2,d2,pe2,pw2,pq2,pc2,pd2,pr2,ps2,pn2⟩:=hat 2 (by simp)
 simp only [List.getElem?_cons_zero,List.getElem?_cons_succ,Option.some.injEq] at pq2
 subst pq2
 simp only [Option.some.injEq,Addr.mk.injEq,and_true] at pe2
 obtain ⟨rfl,rfl⟩:=pe2
 obtain ⟨pb3,po3,s3,a3,n3,c3,d3,pe3,pw3,pq3,pc3,pd3,pr3,ps3,pn3⟩:=hat 3 (by simp)
 simp only [List.getElem?_cons_zero,List.getElem?_cons_succ,Option.some.injEq] at pq3
 subst pq3
 simp only [Option.some.injEq,Addr.mk.injEq,and_true] at pe3
 obtain ⟨rfl,rfl⟩:=pe3
 have hroom:=hp.room
 have hok:=hp.ok
 have hsm:=hp.sm
 rw [sizeTm] at hroom hN
 rw [smallTm] at hsm
 simp only [Bool.and_eq_true] at hsm
 obtain ⟨tyl,tym,tyn⟩:=type_ite hty
 obtain ⟨W0,hW0⟩:∃ W,W=((w.alloc (.cells #[.slice na ns.length nc,.slice ka ns.length kc] 41)).alloc (.cells #[str [],.slice (some ⟨pb1,po1,none⟩) 4 qc] 28)).alloc (.cells #[str [],.int .i64 0,.slice none 0 0,.slice none 0 0] 36):=⟨_,rfl⟩
 obtain ⟨hb0,z0,bA,bB,bC⟩:=boxes3 w (.cells #[.slice na ns.length nc,.slice ka ns.length kc] 41) (.cells #[str [],.slice (some ⟨pb1,po1,none⟩) 4 qc] 28) (.cells #[str [],.int .i64 0,.slice none 0 0,.slice none 0 0] 36)
 rw [← hW0] at hb0 z0 bA bB bC
 have CH:=Lib.hid (show Calls Tryz.prog 20 #[.agg #[str [],.slice (some ⟨pb1,po1,none⟩) 4 qc]] W0 (fun en w'=>en=.returned (str (headW (trTm (.ite l m n))))∧Below W0.heap.size W0 w') from l5Head_any (trTm (.ite l m n)) (okTr_Tm _ hp.ok) F W0 _ _ (Reps.below hb0 (fun _ h=>h) hp.rt))
 have hHW:headW (trTm (.ite l m n))=[105,102]:=by rw [trTm];rfl
 rw [hHW] at CH
 have H0:=Lib.hid (And.intro hb0 (And.intro z0 (And.intro bA bC)))
 obtain ⟨ol,hol⟩:∃ o,meanOf ns l=o:=⟨_,rfl⟩
 have Cl:Hid (∀ wz,Below w.heap.size w wz→Calls Tryz.prog 10 #[.agg #[.slice na ns.length nc,.slice ka ns.length kc],.agg #[str s1,.slice a1 n1 c1]] wz (SAppPost F ol wz)):=by
  show ∀ wz,_→_
  intro wz hz
  have h:=ih F l ns _ _ _ _ _ wz (by omega) ⟨fun i h=>Nat.lt_of_lt_of_le (hp.old i h) hz.size,Reps.below hz (fun _ h=>h) pr1,Rep.below hz (fun _ h=>h) hp.rn,Rep.below hz (fun _ h=>h) hp.rk,hok.1,hsm.1.1,hp.nm,hp.n15,by omega⟩ tyl
  rw [hol] at h
  exact h
 obtain ⟨om,hom⟩:∃ o,meanOf ns m=o:=⟨_,rfl⟩
 have Cm:Hid (∀ wz,Below w.heap.size w wz→Calls Tryz.prog 10 #[.agg #[.slice na ns.length nc,.slice ka ns.length kc],.agg #[str s2,.slice a2 n2 c2]] wz (SAppPost F om wz)):=by
  show ∀ wz,_→_
  intro wz hz
  have h:=ih F m ns _ _ _ _ _ wz (by omega) ⟨fun i h=>Nat.lt_of_lt_of_le (hp.old i h) hz.size,Reps.below hz (fun _ h=>h) pr2,Rep.below hz (fun _ h=>h) hp.rn,Rep.below hz (fun _ h=>h) hp.rk,hok.2.1,hsm.1.2,hp.nm,hp.n15,by omega⟩ tym
  rw [hom] at h
  exact h
 have CKK:Hid (∀ wz,Below w.heap.size w wz→Calls Tryz.prog 17 #[.agg #[.slice na ns.length nc,.slice ka ns.length kc],.agg #[str s2,.slice a2 n2 c2]] wz (KdPost F wz k0 true)):=by
  show ∀ wz,_→_
  intro wz hz
  have h:=l5Kind_any (sizeTm m) F m ns _ _ _ _ wz (Nat.le_refl _) ⟨fun i h=>Nat.lt_of_lt_of_le (hp.old i h) hz.size,Reps.below hz (fun _ h=>h) pr2,Rep.below hz (fun _ h=>h) hp.rn,Rep.below hz (fun _ h=>h) hp.rk,hok.2.1,hsm.1.2,hp.nm,hp.n15,by omega⟩
  rw [kindR_of tym] at h
  exact h
 obtain ⟨oN,hon⟩:∃ o,meanOf ns n=o:=⟨_,rfl⟩
 have Cn:Hid (∀ wz,Below w.heap.size w wz→Calls Tryz.prog 10 #[.agg #[.slice na ns.length nc,.slice ka ns.length kc],.agg #[str s3,.slice a3 n3 c3]] wz (SAppPost F oN wz)):=by
  show ∀ wz,_→_
  intro wz hz
  have h:=ih F n ns _ _ _ _ _ wz (by omega) ⟨fun i h=>Nat.lt_of_lt_of_le (hp.old i h) hz.size,Reps.below hz (fun _ h=>h) pr3,Rep.below hz (fun _ h=>h) hp.rn,Rep.below hz (fun _ h=>h) hp.rk,hok.2.2,hsm.2,hp.nm,hp.n15,by omega⟩ tyn
  rw [hon] at h
  exact h
 have e0:W0.cell? ⟨w.heap.size,0,none⟩=some (.slice na ns.length nc):=by simp [World.cell?,bA]
 have e1:W0.cell? ⟨w.heap.size,1,none⟩=some (.slice ka ns.length kc):=by simp [World.cell?,bA]
 have SX:Hid (∀ w',Below W0.heap.size W0 w'→w'.cell? ⟨w.heap.size,0,none⟩=some (.slice na ns.length nc)∧w'.cell? ⟨w.heap.size,1,none⟩=some (.slice ka ns.length kc)∧w'.cell? ⟨pb1,po1+2,none⟩=some (str s1)∧w'.cell? ⟨pb1,po1+3,none⟩=some (.slice a1 n1 c1)∧w'.cell? ⟨pb1,po1+4,none⟩=some (str s2)∧w'.cell? ⟨pb1,po1+5,none⟩=some (.slice a2 n2 c2)∧w'.cell? ⟨pb1,po1+6,none⟩=some (str s3)∧w'.cell? ⟨pb1,po1+7,none⟩=some (.slice a3 n3 c3)):=by
  show ∀ w',_→_
  intro w' hb'
  have hb0':=hb0.trans (hb'.mono hb0.size)
  exact ⟨(hb'.cell (World.block_lt_of_cell? W0 _ e0)).trans e0,(hb'.cell (World.block_lt_of_cell? W0 _ e1)).trans e1,(hb0'.cell (p:=⟨pb1,po1+2,none⟩) pw1).trans pc1,(hb0'.cell (p:=⟨pb1,po1+3,none⟩) pw1).trans pd1,(hb0'.cell (p:=⟨pb1,po1+4,none⟩) pw1).trans pc2,(hb0'.cell (p:=⟨pb1,po1+5,none⟩) pw1).trans pd2,(hb0'.cell (p:=⟨pb1,po1+6,none⟩) pw1).trans pc3,(hb0'.cell (p:=⟨pb1,po1+7,none⟩) pw1).trans pd3⟩
 have HP:=Lib.hid (And.intro hp (And.intro hok hsm))
 have hlen:ns.length≤100:=by omega
 have HTY:=Lib.hid (And.intro tyl (And.intro tym (And.intro tyn (And.intro hol (And.intro hom (hon))))))
 clear tyl tym tyn hol hom hon hty
 clear hatN hatK hkids hat hrt hp hok hsm ih hN hb0 z0 bA bB bC e0 e1 pr1 pc1 pd1 ps1 pn1 pw1 pr2 pc2 pd2 ps2 pn2 pw2 pr3 pc3 pd3 ps3 pn3 pw3
 go_enter Tryz.func10,Tryz.ntmps10
 go_wp2_with fail
 rw [← hW0]
 clear hW0
 (with_reducible refine CH.out.mono ?_)
 rintro en w1 ⟨rfl,hb1⟩
 have H1:=Lib.hid (And.intro hb1 (H0.out.1.trans (hb1.mono H0.out.1.size)))
 clear hb1 CH
 go_wp2_with fail
 have CRK:=Lib.hid (fun wz (hz:Below w1.heap.size w1 wz)=>CKK.out wz (H1.out.2.trans (hz.mono (H1.out.2).size)))
 have hFK:Hid (∀ i,F i→i<w1.heap.size):=fun i h=>Nat.lt_of_lt_of_le (HP.out.1.old i h) (H1.out.2).size
 refine cut_code (X:=Nat×Option Addr×Nat) (fun a x=>((((((((((a.put (some 131) (.agg #[.slice na ns.length nc,.slice ka ns.length kc])).put (some 132) (.slice (some ⟨pb1,po1,none⟩) 4 qc)).put (some 133) (.pointer (some ⟨pb1,po1+4,none⟩))).put (some 134) (.agg #[str s2,.slice a2 n2 c2])).put (some 135) (.tuple #[.agg #[.slice x.2.1 (k0).args.length x.2.2],.bool true])).put (some 130) (.tuple #[.agg #[.slice x.2.1 (k0).args.length x.2.2],.bool true])).put (some 136) (.agg #[.slice x.2.1 (k0).args.length x.2.2])).put (some 137) (.bool true)).put (some 18) (.pointer (some ⟨x.1,0,none⟩))).put (some 19) (.bool true))) (fun x w'=>BoxRes F w1 x.1 (.cells #[.slice x.2.1 (k0).args.length x.2.2] 31 (0,0)) [encS k0] [.slice x.2.1 (k0).args.length x.2.2] w') ?_ ?_
 ·refine wp_region_noPanic ?_
  refine wp_region_S (fun w'=>Below w1.heap.size w1 w') (fun _=>false) (by kernel_rfl) ?_
  have hSd:(fun w'=>Below w1.heap.size w1 w') w1.drew:=Below.drew (Below.refl _ _)
  refine tk [0,1,2,3] hSd ?_
  (intro d hd;simp [tkD] at hd;subst hd;simp only [tks,pQ,pZ,pS])
  iterate 4 (refine ⟨?_,?_,?_⟩;rotate_left;· (intro oi ho;simp at ho;subst ho;refine Or.inl ⟨by rfl,fun w' hw'=>?_⟩;obtain ⟨e0,e1,f1,h1,f2,h2,f3,h3⟩:=SX.out w' (H1.out.1.trans (hw'.mono (H1.out.1).size));go_simp;try with_reducible rfl))
  refine wpAnyS_two 4 8 (by kernel_rfl) ?_ ?_
  ·(intro o4 ho K' hK;simp at ho;subst ho)
   go_simp
   go_at_call 17
   (with_reducible refine (CRK.out w1.drew hSd).mono ?_)
   rintro en y1 ⟨xx,yy,rfl,hb,hr⟩
   have hY1:Below w1.heap.size w1 y1:=hSd.trans hb
   (refine hK.out _ _ (fun _=>hY1) ?_;clear hK K';try simp only [pQ,pN,pZ,pS])
   refine tk [5,6,7] hY1 ?_
   (intro d hd;simp [tkD] at hd;subst hd;simp only [tks,pQ,pZ,pS])
   iterate 3 (refine ⟨?_,?_,?_⟩;rotate_left;· (intro oi ho;simp at ho;subst ho;refine Or.inl ⟨by rfl,fun w' hw'=>?_⟩;go_simp;try with_reducible rfl))
   (refine on 8 ?_;intro o ho K' hK;simp at ho;subst ho;go_simp)
   (refine hK.out _ _ (fun _=>hY1.alloc (hY1).size _) ?_;clear hK K';try simp only [pQ,pN,pZ,pS])
   have bz:(y1.alloc (.cells #[.slice none 0 0] 31)).heap[y1.heap.size]? = some (.cells #[.slice none 0 0] 31 (0,0)):=heap_new _ _
   have zc0:=(show _=some _ from by simp only [World.cell?,bz];rfl:(y1.alloc (.cells #[.slice none 0 0] 31)).cell? ⟨y1.heap.size,0,none⟩=some (.slice none 0 0))
   have zf0:(y1.alloc (.cells #[.slice none 0 0] 31)).frozen? ⟨y1.heap.size,0,none⟩=false:=by simp only [World.frozen?,bz];rfl
   (refine on 9 ?_;intro o ho K' hK;simp at ho;subst ho;go_simp)
   (refine hK.out _ _ (fun _=>hY1.alloc hY1.size _) ?_;clear hK K';try simp only [pQ,pN,pZ,pS])
   (refine on 10 ?_;intro o ho K' hK;simp at ho;subst ho;go_simp)
   (refine hK.out _ _ (fun _=>hY1.alloc hY1.size _) ?_;clear hK K';try simp only [pQ,pN,pZ,pS])
   refine wpAnyS_done (by kernel_rfl) (NoPanic.normal ?_) _
   exact ⟨rfl,⟨y1.heap.size,xx,yy⟩,by rfl,BoxRes.fresh hY1 (Reps.one hr)⟩
  ·(intro o8 ho K' hK;simp at ho;subst ho)
   go_simp
   (refine hK.out _ _ (fun _=>hSd.alloc (Nat.le_refl _) _) ?_;clear hK K';try simp only [pQ,pN,pZ,pS])
   (refine on 4 ?_;intro o ho K' hK;simp at ho;subst ho;go_simp)
   go_at_call 17
   have hY0:Below w1.heap.size w1 (w1.alloc (.cells #[.slice none 0 0] 31)).drew:=hSd.alloc (Nat.le_refl _) _
   (with_reducible refine (CRK.out _ hY0).mono ?_)
   rintro en y1 ⟨xx,yy,rfl,hb,hr⟩
   have hY1:Below w1.heap.size w1 y1:=hY0.trans (hb.mono hY0.size)
   (refine hK.out _ _ (fun _=>hY1) ?_;clear hK K';try simp only [pQ,pN,pZ,pS])
   refine tk [5,6,7] hY1 ?_
   (intro d hd;simp [tkD] at hd;subst hd;simp only [tks,pQ,pZ,pS])
   iterate 3 (refine ⟨?_,?_,?_⟩;rotate_left;· (intro oi ho;simp at ho;subst ho;refine Or.inl ⟨by rfl,fun w' hw'=>?_⟩;go_simp;try with_reducible rfl))
   have bz:y1.heap[w1.heap.size]? = some (.cells #[.slice none 0 0] 31 (0,0)):=(hb.block _ (show _<_ from by simp)).trans (heap_new w1 (.cells #[.slice none 0 0] 31))
   have zc0:=(show _=some _ from by simp only [World.cell?,bz];rfl:(y1).cell? ⟨w1.heap.size,0,none⟩=some (.slice none 0 0))
   have zf0:(y1).frozen? ⟨w1.heap.size,0,none⟩=false:=by simp only [World.frozen?,bz];rfl
   (refine on 9 ?_;intro o ho K' hK;simp at ho;subst ho;go_simp)
   (refine hK.out _ _ (fun _=>(hY1.setCell (p:=⟨w1.heap.size,0,none⟩) (Nat.le_refl _) _)) ?_;clear hK K';try simp only [pQ,pN,pZ,pS])
   (refine on 10 ?_;intro o ho K' hK;simp at ho;subst ho;go_simp)
   (refine hK.out _ _ (fun _=>(hY1.setCell (p:=⟨w1.heap.size,0,none⟩) (Nat.le_refl _) _)) ?_;clear hK K';try simp only [pQ,pN,pZ,pS])
   refine wpAnyS_done (by kernel_rfl) (NoPanic.normal ?_) _
   exact ⟨rfl,⟨w1.heap.size,xx,yy⟩,by rfl,BoxRes.first hFK.out hY0 (by simp) hb (Reps.one hr) (but1 _ _ _) (by rw [setCell_at' bz];rfl)⟩
 rintro ⟨gk,xk,yk⟩ zk hR
 have Rk:Hid (BoxRes F w1 gk (.cells #[.slice xk (k0).args.length yk] 31 (0,0)) [encS k0] [.slice xk (k0).args.length yk] zk):=hR
 have HZk:Hid (Below W0.heap.size W0 zk∧Below w.heap.size w zk):=⟨H1.out.1.trans (Rk.out.below.mono (H1.out.1).size),H1.out.2.trans (Rk.out.below.mono (H1.out.2).size)⟩
 have HLk:Hid (W0.heap.size≤w1.heap.size):=(H1.out.1).size
 clear hR CRK
 simp only [Act.put,List.setIfInBounds_toArray,List.set_cons_zero,List.set_cons_succ]
 go_wp2_with fail
 have CRl:=Lib.hid (fun wz (hz:Below zk.heap.size zk wz)=>Cl.out wz (HZk.out.2.trans (hz.mono (HZk.out.2).size)))
 have hFl:Hid (∀ i,F i→i<zk.heap.size):=fun i h=>Nat.lt_of_lt_of_le (HP.out.1.old i h) (HZk.out.2).size
 refine cut_code (X:=Nat×Bs×Int×Option Addr×Nat×Nat×Option Addr×Nat×Nat) (fun a x=>((((((((((a.put (some 139) (.agg #[.slice na ns.length nc,.slice ka ns.length kc])).put (some 140) (.slice (some ⟨pb1,po1,none⟩) 4 qc)).put (some 141) (.pointer (some ⟨pb1,po1+2,none⟩))).put (some 142) (.agg #[str s1,.slice a1 n1 c1])).put (some 143) (.tuple #[.agg #[str x.2.1,.int .i64 x.2.2.1,.slice x.2.2.2.1 x.2.2.2.2.1 x.2.2.2.2.2.1,.slice x.2.2.2.2.2.2.1 x.2.2.2.2.2.2.2.1 x.2.2.2.2.2.2.2.2],.bool ol.isSome])).put (some 138) (.tuple #[.agg #[str x.2.1,.int .i64 x.2.2.1,.slice x.2.2.2.1 x.2.2.2.2.1 x.2.2.2.2.2.1,.slice x.2.2.2.2.2.2.1 x.2.2.2.2.2.2.2.1 x.2.2.2.2.2.2.2.2],.bool ol.isSome])).put (some 144) (.agg #[str x.2.1,.int .i64 x.2.2.1,.slice x.2.2.2.1 x.2.2.2.2.1 x.2.2.2.2.2.1,.slice x.2.2.2.2.2.2.1 x.2.2.2.2.2.2.2.1 x.2.2.2.2.2.2.2.2])).put (some 145) (.bool ol.isSome)).put (some 20) (.pointer (some ⟨x.1,0,none⟩))).put (some 21) (.bool ol.isSome))) (fun x w'=>BoxRes F zk x.1 (.cells #[str x.2.1,.int .i64 x.2.2.1,.slice x.2.2.2.1 x.2.2.2.2.1 x.2.2.2.2.2.1,.slice x.2.2.2.2.2.2.1 x.2.2.2.2.2.2.2.1 x.2.2.2.2.2.2.2.2] 36 (0,0)) (dO ol) (vO ol [str x.2.1,.int .i64 x.2.2.1,.slice x.2.2.2.1 x.2.2.2.2.1 x.2.2.2.2.2.1,.slice x.2.2.2.2.2.2.1 x.2.2.2.2.2.2.2.1 x.2.2.2.2.2.2.2.2]) w') ?_ ?_
 ·refine wp_region_noPanic ?_
  refine wp_region_S (fun w'=>Below zk.heap.size zk w') (fun _=>false) (by kernel_rfl) ?_
  have hSd:(fun w'=>Below zk.heap.size zk w') zk.drew:=Below.drew (Below.refl _ _)
  refine tk [0,1,2,3] hSd ?_
  (intro d hd;simp [tkD] at hd;subst hd;simp only [tks,pQ,pZ,pS])
  iterate 4 (refine ⟨?_,?_,?_⟩;rotate_left;· (intro oi ho;simp at ho;subst ho;refine Or.inl ⟨by rfl,fun w' hw'=>?_⟩;obtain ⟨e0,e1,f1,h1,f2,h2,f3,h3⟩:=SX.out w' (HZk.out.1.trans (hw'.mono (HZk.out.1).size));go_simp;try with_reducible rfl))
  refine wpAnyS_two 4 8 (by kernel_rfl) ?_ ?_
  ·(intro o4 ho K' hK;simp at ho;subst ho)
   go_simp
   go_at_call 10
   (with_reducible refine (CRl.out zk.drew hSd).mono ?_)
   rintro en y1 ⟨ss,vv,aa,an,ac,ba,bn,bc,rfl,hb,hr⟩
   have hY1:Below zk.heap.size zk y1:=hSd.trans hb
   (refine hK.out _ _ (fun _=>hY1) ?_;clear hK K';try simp only [pQ,pN,pZ,pS])
   refine tk [5,6,7] hY1 ?_
   (intro d hd;simp [tkD] at hd;subst hd;simp only [tks,pQ,pZ,pS])
   iterate 3 (refine ⟨?_,?_,?_⟩;rotate_left;· (intro oi ho;simp at ho;subst ho;refine Or.inl ⟨by rfl,fun w' hw'=>?_⟩;go_simp;try with_reducible rfl))
   (refine on 8 ?_;intro o ho K' hK;simp at ho;subst ho;go_simp)
   (refine hK.out _ _ (fun _=>hY1.alloc (hY1).size _) ?_;clear hK K';try simp only [pQ,pN,pZ,pS])
   have bz:(y1.alloc (.cells #[str [],.int .i64 0,.slice none 0 0,.slice none 0 0] 36)).heap[y1.heap.size]? = some (.cells #[str [],.int .i64 0,.slice none 0 0,.slice none 0 0] 36 (0,0)):=heap_new _ _
   have zc0:=(show _=some _ from by simp only [World.cell?,bz];rfl:(y1.alloc (.cells #[str [],.int .i64 0,.slice none 0 0,.slice none 0 0] 36)).cell? ⟨y1.heap.size,0,none⟩=some (str []))
   have zf0:(y1.alloc (.cells #[str [],.int .i64 0,.slice none 0 0,.slice none 0 0] 36)).frozen? ⟨y1.heap.size,0,none⟩=false:=by simp only [World.frozen?,bz];rfl
   have zc1:=(show _=some _ from by simp only [World.cell?,bz];rfl:(y1.alloc (.cells #[str [],.int .i64 0,.slice none 0 0,.slice none 0 0] 36)).cell? ⟨y1.heap.size,1,none⟩=some (.int .i64 0))
   have zf1:(y1.alloc (.cells #[str [],.int .i64 0,.slice none 0 0,.slice none 0 0] 36)).frozen? ⟨y1.heap.size,1,none⟩=false:=by simp only [World.frozen?,bz];rfl
   have zc2:=(show _=some _ from by simp only [World.cell?,bz];rfl:(y1.alloc (.cells #[str [],.int .i64 0,.slice none 0 0,.slice none 0 0] 36)).cell? ⟨y1.heap.size,2,none⟩=some (.slice none 0 0))
   have zf2:(y1.alloc (.cells #[str [],.int .i64 0,.slice none 0 0,.slice none 0 0] 36)).frozen? ⟨y1.heap.size,2,none⟩=false:=by simp only [World.frozen?,bz];rfl
   have zc3:=(show _=some _ from by simp only [World.cell?,bz];rfl:(y1.alloc (.cells #[str [],.int .i64 0,.slice none 0 0,.slice none 0 0] 36)).cell? ⟨y1.heap.size,3,none⟩=some (.slice none 0 0))
   have zf3:(y1.alloc (.cells #[str [],.int .i64 0,.slice none 0 0,.slice none 0 0] 36)).frozen? ⟨y1.heap.size,3,none⟩=false:=by simp only [World.frozen?,bz];rfl
   (refine on 9 ?_;intro o ho K' hK;simp at ho;subst ho;go_simp)
   (refine hK.out _ _ (fun _=>hY1.alloc hY1.size _) ?_;clear hK K';try simp only [pQ,pN,pZ,pS])
   (refine on 10 ?_;intro o ho K' hK;simp at ho;subst ho;go_simp)
   (refine hK.out _ _ (fun _=>hY1.alloc hY1.size _) ?_;clear hK K';try simp only [pQ,pN,pZ,pS])
   refine wpAnyS_done (by kernel_rfl) (NoPanic.normal ?_) _
   exact ⟨rfl,⟨y1.heap.size,ss,vv,aa,an,ac,ba,bn,bc⟩,by rfl,BoxRes.fresh hY1 (repO hr)⟩
  ·(intro o8 ho K' hK;simp at ho;subst ho)
   go_simp
   (refine hK.out _ _ (fun _=>hSd.alloc (Nat.le_refl _) _) ?_;clear hK K';try simp only [pQ,pN,pZ,pS])
   (refine on 4 ?_;intro o ho K' hK;simp at ho;subst ho;go_simp)
   go_at_call 10
   have hY0:Below zk.heap.size zk (zk.alloc (.cells #[str [],.int .i64 0,.slice none 0 0,.slice none 0 0] 36)).drew:=hSd.alloc (Nat.le_refl _) _
   (with_reducible refine (CRl.out _ hY0).mono ?_)
   rintro en y1 ⟨ss,vv,aa,an,ac,ba,bn,bc,rfl,hb,hr⟩
   have hY1:Below zk.heap.size zk y1:=hY0.trans (hb.mono hY0.size)
   (refine hK.out _ _ (fun _=>hY1) ?_;clear hK K';try simp only [pQ,pN,pZ,pS])
   refine tk [5,6,7] hY1 ?_
   (intro d hd;simp [tkD] at hd;subst hd;simp only [tks,pQ,pZ,pS])
   iterate 3 (refine ⟨?_,?_,?_⟩;rotate_left;· (intro oi ho;simp at ho;subst ho;refine Or.inl ⟨by rfl,fun w' hw'=>?_⟩;go_simp;try with_reducible rfl))
   have bz:y1.heap[zk.heap.size]? = some (.cells #[str [],.int .i64 0,.slice none 0 0,.slice none 0 0] 36 (0,0)):=(hb.block _ (show _<_ from by simp)).trans (heap_new zk (.cells #[str [],.int .i64 0,.slice none 0 0,.slice none 0 0] 36))
   have zc0:=(show _=some _ from by simp only [World.cell?,bz];rfl:(y1).cell? ⟨zk.heap.size,0,none⟩=some (str []))
   have zf0:(y1).frozen? ⟨zk.heap.size,0,none⟩=false:=by simp only [World.frozen?,bz];rfl
   have zc1:=(show _=some _ from by simp only [World.cell?,bz];rfl:(y1).cell? ⟨zk.heap.size,1,none⟩=some (.int .i64 0))
   have zf1:(y1).frozen? ⟨zk.heap.size,1,none⟩=false:=by simp only [World.frozen?,bz];rfl
   have zc2:=(show _=some _ from by simp only [World.cell?,bz];rfl:(y1).cell? ⟨zk.heap.size,2,none⟩=some (.slice none 0 0))
   have zf2:(y1).frozen? ⟨zk.heap.size,2,none⟩=false:=by simp only [World.frozen?,bz];rfl
   have zc3:=(show _=some _ from by simp only [World.cell?,bz];rfl:(y1).cell? ⟨zk.heap.size,3,none⟩=some (.slice none 0 0))
   have zf3:(y1).frozen? ⟨zk.heap.size,3,none⟩=false:=by simp only [World.frozen?,bz];rfl
   (refine on 9 ?_;intro o ho K' hK;simp at ho;subst ho;go_simp)
   (refine hK.out _ _ (fun _=>((((hY1.setCell (p:=⟨zk.heap.size,0,none⟩) (Nat.le_refl _) _).setCell (p:=⟨zk.heap.size,1,none⟩) (Nat.le_refl _) _).setCell (p:=⟨zk.heap.size,2,none⟩) (Nat.le_refl _) _).setCell (p:=⟨zk.heap.size,3,none⟩) (Nat.le_refl _) _)) ?_;clear hK K';try simp only [pQ,pN,pZ,pS])
   (refine on 10 ?_;intro o ho K' hK;simp at ho;subst ho;go_simp)
   (refine hK.out _ _ (fun _=>((((hY1.setCell (p:=⟨zk.heap.size,0,none⟩) (Nat.le_refl _) _).setCell (p:=⟨zk.heap.size,1,none⟩) (Nat.le_refl _) _).setCell (p:=⟨zk.heap.size,2,none⟩) (Nat.le_refl _) _).setCell (p:=⟨zk.heap.size,3,none⟩) (Nat.le_refl _) _)) ?_;clear hK K';try simp only [pQ,pN,pZ,pS])
   refine wpAnyS_done (by kernel_rfl) (NoPanic.normal ?_) _
   exact ⟨rfl,⟨zk.heap.size,ss,vv,aa,an,ac,ba,bn,bc⟩,by rfl,BoxRes.first hFl.out hY0 (by simp) hb (repO hr) (but4 _ _ _ _ _ _) (by rw [setCell_at' (setCell_at' (setCell_at' (setCell_at' bz)))];rfl)⟩
 rintro ⟨gl,ssl,vvl,aal,anl,acl,bal,bnl,bcl⟩ zl hR
 have Rl:Hid (BoxRes F zk gl (.cells #[str ssl,.int .i64 vvl,.slice aal anl acl,.slice bal bnl bcl] 36 (0,0)) (dO ol) (vO ol [str ssl,.int .i64 vvl,.slice aal anl acl,.slice bal bnl bcl]) zl):=hR
 have HZl:Hid (Below W0.heap.size W0 zl∧Below w.heap.size w zl):=⟨HZk.out.1.trans (Rl.out.below.mono (HZk.out.1).size),HZk.out.2.trans (Rl.out.below.mono (HZk.out.2).size)⟩
 have HLl:Hid (W0.heap.size≤zk.heap.size):=(HZk.out.1).size
 clear hR CRl
 simp only [Act.put,List.setIfInBounds_toArray,List.set_cons_zero,List.set_cons_succ]
 go_wp2_with fail
 have CRm:=Lib.hid (fun wz (hz:Below zl.heap.size zl wz)=>Cm.out wz (HZl.out.2.trans (hz.mono (HZl.out.2).size)))
 have hFm:Hid (∀ i,F i→i<zl.heap.size):=fun i h=>Nat.lt_of_lt_of_le (HP.out.1.old i h) (HZl.out.2).size
 refine cut_code (X:=Nat×Bs×Int×Option Addr×Nat×Nat×Option Addr×Nat×Nat) (fun a x=>((((((((((a.put (some 147) (.agg #[.slice na ns.length nc,.slice ka ns.length kc])).put (some 148) (.slice (some ⟨pb1,po1,none⟩) 4 qc)).put (some 149) (.pointer (some ⟨pb1,po1+4,none⟩))).put (some 150) (.agg #[str s2,.slice a2 n2 c2])).put (some 151) (.tuple #[.agg #[str x.2.1,.int .i64 x.2.2.1,.slice x.2.2.2.1 x.2.2.2.2.1 x.2.2.2.2.2.1,.slice x.2.2.2.2.2.2.1 x.2.2.2.2.2.2.2.1 x.2.2.2.2.2.2.2.2],.bool om.isSome])).put (some 146) (.tuple #[.agg #[str x.2.1,.int .i64 x.2.2.1,.slice x.2.2.2.1 x.2.2.2.2.1 x.2.2.2.2.2.1,.slice x.2.2.2.2.2.2.1 x.2.2.2.2.2.2.2.1 x.2.2.2.2.2.2.2.2],.bool om.isSome])).put (some 152) (.agg #[str x.2.1,.int .i64 x.2.2.1,.slice x.2.2.2.1 x.2.2.2.2.1 x.2.2.2.2.2.1,.slice x.2.2.2.2.2.2.1 x.2.2.2.2.2.2.2.1 x.2.2.2.2.2.2.2.2])).put (some 153) (.bool om.isSome)).put (some 22) (.pointer (some ⟨x.1,0,none⟩))).put (some 23) (.bool om.isSome))) (fun x w'=>BoxRes F zl x.1 (.cells #[str x.2.1,.int .i64 x.2.2.1,.slice x.2.2.2.1 x.2.2.2.2.1 x.2.2.2.2.2.1,.slice x.2.2.2.2.2.2.1 x.2.2.2.2.2.2.2.1 x.2.2.2.2.2.2.2.2] 36 (0,0)) (dO om) (vO om [str x.2.1,.int .i64 x.2.2.1,.slice x.2.2.2.1 x.2.2.2.2.1 x.2.2.2.2.2.1,.slice x.2.2.2.2.2.2.1 x.2.2.2.2.2.2.2.1 x.2.2.2.2.2.2.2.2]) w') ?_ ?_
 ·refine wp_region_noPanic ?_
  refine wp_region_S (fun w'=>Below zl.heap.size zl w') (fun _=>false) (by kernel_rfl) ?_
  have hSd:(fun w'=>Below zl.heap.size zl w') zl.drew:=Below.drew (Below.refl _ _)
  refine tk [0,1,2,3] hSd ?_
  (intro d hd;simp [tkD] at hd;subst hd;simp only [tks,pQ,pZ,pS])
  iterate 4 (refine ⟨?_,?_,?_⟩;rotate_left;· (intro oi ho;simp at ho;subst ho;refine Or.inl ⟨by rfl,fun w' hw'=>?_⟩;obtain ⟨e0,e1,f1,h1,f2,h2,f3,h3⟩:=SX.out w' (HZl.out.1.trans (hw'.mono (HZl.out.1).size));go_simp;try with_reducible rfl))
  refine wpAnyS_two 4 8 (by kernel_rfl) ?_ ?_
  ·(intro o4 ho K' hK;simp at ho;subst ho)
   go_simp
   go_at_call 10
   (with_reducible refine (CRm.out zl.drew hSd).mono ?_)
   rintro en y1 ⟨ss,vv,aa,an,ac,ba,bn,bc,rfl,hb,hr⟩
   have hY1:Below zl.heap.size zl y1:=hSd.trans hb
   (refine hK.out _ _ (fun _=>hY1) ?_;clear hK K';try simp only [pQ,pN,pZ,pS])
   refine tk [5,6,7] hY1 ?_
   (intro d hd;simp [tkD] at hd;subst hd;simp only [tks,pQ,pZ,pS])
   iterate 3 (refine ⟨?_,?_,?_⟩;rotate_left;· (intro oi ho;simp at ho;subst ho;refine Or.inl ⟨by rfl,fun w' hw'=>?_⟩;go_simp;try with_reducible rfl))
   (refine on 8 ?_;intro o ho K' hK;simp at ho;subst ho;go_simp)
   (refine hK.out _ _ (fun _=>hY1.alloc (hY1).size _) ?_;clear hK K';try simp only [pQ,pN,pZ,pS])
   have bz:(y1.alloc (.cells #[str [],.int .i64 0,.slice none 0 0,.slice none 0 0] 36)).heap[y1.heap.size]? = some (.cells #[str [],.int .i64 0,.slice none 0 0,.slice none 0 0] 36 (0,0)):=heap_new _ _
   have zc0:=(show _=some _ from by simp only [World.cell?,bz];rfl:(y1.alloc (.cells #[str [],.int .i64 0,.slice none 0 0,.slice none 0 0] 36)).cell? ⟨y1.heap.size,0,none⟩=some (str []))
   have zf0:(y1.alloc (.cells #[str [],.int .i64 0,.slice none 0 0,.slice none 0 0] 36)).frozen? ⟨y1.heap.size,0,none⟩=false:=by simp only [World.frozen?,bz];rfl
   have zc1:=(show _=some _ from by simp only [World.cell?,bz];rfl:(y1.alloc (.cells #[str [],.int .i64 0,.slice none 0 0,.slice none 0 0] 36)).cell? ⟨y1.heap.size,1,none⟩=some (.int .i64 0))
   have zf1:(y1.alloc (.cells #[str [],.int .i64 0,.slice none 0 0,.slice none 0 0] 36)).frozen? ⟨y1.heap.size,1,none⟩=false:=by simp only [World.frozen?,bz];rfl
   have zc2:=(show _=some _ from by simp only [World.cell?,bz];rfl:(y1.alloc (.cells #[str [],.int .i64 0,.slice none 0 0,.slice none 0 0] 36)).cell? ⟨y1.heap.size,2,none⟩=some (.slice none 0 0))
   have zf2:(y1.alloc (.cells #[str [],.int .i64 0,.slice none 0 0,.slice none 0 0] 36)).frozen? ⟨y1.heap.size,2,none⟩=false:=by simp only [World.frozen?,bz];rfl
   have zc3:=(show _=some _ from by simp only [World.cell?,bz];rfl:(y1.alloc (.cells #[str [],.int .i64 0,.slice none 0 0,.slice none 0 0] 36)).cell? ⟨y1.heap.size,3,none⟩=some (.slice none 0 0))
   have zf3:(y1.alloc (.cells #[str [],.int .i64 0,.slice none 0 0,.slice none 0 0] 36)).frozen? ⟨y1.heap.size,3,none⟩=false:=by simp only [World.frozen?,bz];rfl
   (refine on 9 ?_;intro o ho K' hK;simp at ho;subst ho;go_simp)
   (refine hK.out _ _ (fun _=>hY1.alloc hY1.size _) ?_;clear hK K';try simp only [pQ,pN,pZ,pS])
   (refine on 10 ?_;intro o ho K' hK;simp at ho;subst ho;go_simp)
   (refine hK.out _ _ (fun _=>hY1.alloc hY1.size _) ?_;clear hK K';try simp only [pQ,pN,pZ,pS])
   refine wpAnyS_done (by kernel_rfl) (NoPanic.normal ?_) _
   exact ⟨rfl,⟨y1.heap.size,ss,vv,aa,an,ac,ba,bn,bc⟩,by rfl,BoxRes.fresh hY1 (repO hr)⟩
  ·(intro o8 ho K' hK;simp at ho;subst ho)
   go_simp
   (refine hK.out _ _ (fun _=>hSd.alloc (Nat.le_refl _) _) ?_;clear hK K';try simp only [pQ,pN,pZ,pS])
   (refine on 4 ?_;intro o ho K' hK;simp at ho;subst ho;go_simp)
   go_at_call 10
   have hY0:Below zl.heap.size zl (zl.alloc (.cells #[str [],.int .i64 0,.slice none 0 0,.slice none 0 0] 36)).drew:=hSd.alloc (Nat.le_refl _) _
   (with_reducible refine (CRm.out _ hY0).mono ?_)
   rintro en y1 ⟨ss,vv,aa,an,ac,ba,bn,bc,rfl,hb,hr⟩
   have hY1:Below zl.heap.size zl y1:=hY0.trans (hb.mono hY0.size)
   (refine hK.out _ _ (fun _=>hY1) ?_;clear hK K';try simp only [pQ,pN,pZ,pS])
   refine tk [5,6,7] hY1 ?_
   (intro d hd;simp [tkD] at hd;subst hd;simp only [tks,pQ,pZ,pS])
   iterate 3 (refine ⟨?_,?_,?_⟩;rotate_left;· (intro oi ho;simp at ho;subst ho;refine Or.inl ⟨by rfl,fun w' hw'=>?_⟩;go_simp;try with_reducible rfl))
   have bz:y1.heap[zl.heap.size]? = some (.cells #[str [],.int .i64 0,.slice none 0 0,.slice none 0 0] 36 (0,0)):=(hb.block _ (show _<_ from by simp)).trans (heap_new zl (.cells #[str [],.int .i64 0,.slice none 0 0,.slice none 0 0] 36))
   have zc0:=(show _=some _ from by simp only [World.cell?,bz];rfl:(y1).cell? ⟨zl.heap.size,0,none⟩=some (str []))
   have zf0:(y1).frozen? ⟨zl.heap.size,0,none⟩=false:=by simp only [World.frozen?,bz];rfl
   have zc1:=(show _=some _ from by simp only [World.cell?,bz];rfl:(y1).cell? ⟨zl.heap.size,1,none⟩=some (.int .i64 0))
   have zf1:(y1).frozen? ⟨zl.heap.size,1,none⟩=false:=by simp only [World.frozen?,bz];rfl
   have zc2:=(show _=some _ from by simp only [World.cell?,bz];rfl:(y1).cell? ⟨zl.heap.size,2,none⟩=some (.slice none 0 0))
   have zf2:(y1).frozen? ⟨zl.heap.size,2,none⟩=false:=by simp only [World.frozen?,bz];rfl
   have zc3:=(show _=some _ from by simp only [World.cell?,bz];rfl:(y1).cell? ⟨zl.heap.size,3,none⟩=some (.slice none 0 0))
   have zf3:(y1).frozen? ⟨zl.heap.size,3,none⟩=false:=by simp only [World.frozen?,bz];rfl
   (refine on 9 ?_;intro o ho K' hK;simp at ho;subst ho;go_simp)
   (refine hK.out _ _ (fun _=>((((hY1.setCell (p:=⟨zl.heap.size,0,none⟩) (Nat.le_refl _) _).setCell (p:=⟨zl.heap.size,1,none⟩) (Nat.le_refl _) _).setCell (p:=⟨zl.heap.size,2,none⟩) (Nat.le_refl _) _).setCell (p:=⟨zl.heap.size,3,none⟩) (Nat.le_refl _) _)) ?_;clear hK K';try simp only [pQ,pN,pZ,pS])
   (refine on 10 ?_;intro o ho K' hK;simp at ho;subst ho;go_simp)
   (refine hK.out _ _ (fun _=>((((hY1.setCell (p:=⟨zl.heap.size,0,none⟩) (Nat.le_refl _) _).setCell (p:=⟨zl.heap.size,1,none⟩) (Nat.le_refl _) _).setCell (p:=⟨zl.heap.size,2,none⟩) (Nat.le_refl _) _).setCell (p:=⟨zl.heap.size,3,none⟩) (Nat.le_refl _) _)) ?_;clear hK K';try simp only [pQ,pN,pZ,pS])
   refine wpAnyS_done (by kernel_rfl) (NoPanic.normal ?_) _
   exact ⟨rfl,⟨zl.heap.size,ss,vv,aa,an,ac,ba,bn,bc⟩,by rfl,BoxRes.first hFm.out hY0 (by simp) hb (repO hr) (but4 _ _ _ _ _ _) (by rw [setCell_at' (setCell_at' (setCell_at' (setCell_at' bz)))];rfl)⟩
 rintro ⟨gm,ssm,vvm,aam,anm,acm,bam,bnm,bcm⟩ zm hR
 have Rm:Hid (BoxRes F zl gm (.cells #[str ssm,.int .i64 vvm,.slice aam anm acm,.slice bam bnm bcm] 36 (0,0)) (dO om) (vO om [str ssm,.int .i64 vvm,.slice aam anm acm,.slice bam bnm bcm]) zm):=hR
 have HZm:Hid (Below W0.heap.size W0 zm∧Below w.heap.size w zm):=⟨HZl.out.1.trans (Rm.out.below.mono (HZl.out.1).size),HZl.out.2.trans (Rm.out.below.mono (HZl.out.2).size)⟩
 have HLm:Hid (W0.heap.size≤zl.heap.size):=(HZl.out.1).size
 clear hR CRm
 simp only [Act.put,List.setIfInBounds_toArray,List.set_cons_zero,List.set_cons_succ]
 go_wp2_with fail
 have CRn:=Lib.hid (fun wz (hz:Below zm.heap.size zm wz)=>Cn.out wz (HZm.out.2.trans (hz.mono (HZm.out.2).size)))
 have hFn:Hid (∀ i,F i→i<zm.heap.size):=fun i h=>Nat.lt_of_lt_of_le (HP.out.1.old i h) (HZm.out.2).size
 refine cut_code (X:=Nat×Bs×Int×Option Addr×Nat×Nat×Option Addr×Nat×Nat) (fun a x=>((((((((((a.put (some 155) (.agg #[.slice na ns.length nc,.slice ka ns.length kc])).put (some 156) (.slice (some ⟨pb1,po1,none⟩) 4 qc)).put (some 157) (.pointer (some ⟨pb1,po1+6,none⟩))).put (some 158) (.agg #[str s3,.slice a3 n3 c3])).put (some 159) (.tuple #[.agg #[str x.2.1,.int .i64 x.2.2.1,.slice x.2.2.2.1 x.2.2.2.2.1 x.2.2.2.2.2.1,.slice x.2.2.2.2.2.2.1 x.2.2.2.2.2.2.2.1 x.2.2.2.2.2.2.2.2],.bool oN.isSome])).put (some 154) (.tuple #[.agg #[str x.2.1,.int .i64 x.2.2.1,.slice x.2.2.2.1 x.2.2.2.2.1 x.2.2.2.2.2.1,.slice x.2.2.2.2.2.2.1 x.2.2.2.2.2.2.2.1 x.2.2.2.2.2.2.2.2],.bool oN.isSome])).put (some 160) (.agg #[str x.2.1,.int .i64 x.2.2.1,.slice x.2.2.2.1 x.2.2.2.2.1 x.2.2.2.2.2.1,.slice x.2.2.2.2.2.2.1 x.2.2.2.2.2.2.2.1 x.2.2.2.2.2.2.2.2])).put (some 161) (.bool oN.isSome)).put (some 24) (.pointer (some ⟨x.1,0,none⟩))).put (some 25) (.bool oN.isSome))) (fun x w'=>BoxRes F zm x.1 (.cells #[str x.2.1,.int .i64 x.2.2.1,.slice x.2.2.2.1 x.2.2.2.2.1 x.2.2.2.2.2.1,.slice x.2.2.2.2.2.2.1 x.2.2.2.2.2.2.2.1 x.2.2.2.2.2.2.2.2] 36 (0,0)) (dO oN) (vO oN [str x.2.1,.int .i64 x.2.2.1,.slice x.2.2.2.1 x.2.2.2.2.1 x.2.2.2.2.2.1,.slice x.2.2.2.2.2.2.1 x.2.2.2.2.2.2.2.1 x.2.2.2.2.2.2.2.2]) w') ?_ ?_
 ·refine wp_region_noPanic ?_
  refine wp_region_S (fun w'=>Below zm.heap.size zm w') (fun _=>false) (by kernel_rfl) ?_
  have hSd:(fun w'=>Below zm.heap.size zm w') zm.drew:=Below.drew (Below.refl _ _)
  refine tk [0,1,2,3] hSd ?_
  (intro d hd;simp [tkD] at hd;subst hd;simp only [tks,pQ,pZ,pS])
  iterate 4 (refine ⟨?_,?_,?_⟩;rotate_left;· (intro oi ho;simp at ho;subst ho;refine Or.inl ⟨by rfl,fun w' hw'=>?_⟩;obtain ⟨e0,e1,f1,h1,f2,h2,f3,h3⟩:=SX.out w' (HZm.out.1.trans (hw'.mono (HZm.out.1).size));go_simp;try with_reducible rfl))
  refine wpAnyS_two 4 8 (by kernel_rfl) ?_ ?_
  ·(intro o4 ho K' hK;simp at ho;subst ho)
   go_simp
   go_at_call 10
   (with_reducible refine (CRn.out zm.drew hSd).mono ?_)
   rintro en y1 ⟨ss,vv,aa,an,ac,ba,bn,bc,rfl,hb,hr⟩
   have hY1:Below zm.heap.size zm y1:=hSd.trans hb
   (refine hK.out _ _ (fun _=>hY1) ?_;clear hK K';try simp only [pQ,pN,pZ,pS])
   refine tk [5,6,7] hY1 ?_
   (intro d hd;simp [tkD] at hd;subst hd;simp only [tks,pQ,pZ,pS])
   iterate 3 (refine ⟨?_,?_,?_⟩;rotate_left;· (intro oi ho;simp at ho;subst ho;refine Or.inl ⟨by rfl,fun w' hw'=>?_⟩;go_simp;try with_reducible rfl))
   (refine on 8 ?_;intro o ho K' hK;simp at ho;subst ho;go_simp)
   (refine hK.out _ _ (fun _=>hY1.alloc (hY1).size _) ?_;clear hK K';try simp only [pQ,pN,pZ,pS])
   have bz:(y1.alloc (.cells #[str [],.int .i64 0,.slice none 0 0,.slice none 0 0] 36)).heap[y1.heap.size]? = some (.cells #[str [],.int .i64 0,.slice none 0 0,.slice none 0 0] 36 (0,0)):=heap_new _ _
   have zc0:=(show _=some _ from by simp only [World.cell?,bz];rfl:(y1.alloc (.cells #[str [],.int .i64 0,.slice none 0 0,.slice none 0 0] 36)).cell? ⟨y1.heap.size,0,none⟩=some (str []))
   have zf0:(y1.alloc (.cells #[str [],.int .i64 0,.slice none 0 0,.slice none 0 0] 36)).frozen? ⟨y1.heap.size,0,none⟩=false:=by simp only [World.frozen?,bz];rfl
   have zc1:=(show _=some _ from by simp only [World.cell?,bz];rfl:(y1.alloc (.cells #[str [],.int .i64 0,.slice none 0 0,.slice none 0 0] 36)).cell? ⟨y1.heap.size,1,none⟩=some (.int .i64 0))
   have zf1:(y1.alloc (.cells #[str [],.int .i64 0,.slice none 0 0,.slice none 0 0] 36)).frozen? ⟨y1.heap.size,1,none⟩=false:=by simp only [World.frozen?,bz];rfl
   have zc2:=(show _=some _ from by simp only [World.cell?,bz];rfl:(y1.alloc (.cells #[str [],.int .i64 0,.slice none 0 0,.slice none 0 0] 36)).cell? ⟨y1.heap.size,2,none⟩=some (.slice none 0 0))
   have zf2:(y1.alloc (.cells #[str [],.int .i64 0,.slice none 0 0,.slice none 0 0] 36)).frozen? ⟨y1.heap.size,2,none⟩=false:=by simp only [World.frozen?,bz];rfl
   have zc3:=(show _=some _ from by simp only [World.cell?,bz];rfl:(y1.alloc (.cells #[str [],.int .i64 0,.slice none 0 0,.slice none 0 0] 36)).cell? ⟨y1.heap.size,3,none⟩=some (.slice none 0 0))
   have zf3:(y1.alloc (.cells #[str [],.int .i64 0,.slice none 0 0,.slice none 0 0] 36)).frozen? ⟨y1.heap.size,3,none⟩=false:=by simp only [World.frozen?,bz];rfl
   (refine on 9 ?_;intro o ho K' hK;simp at ho;subst ho;go_simp)
   (refine hK.out _ _ (fun _=>hY1.alloc hY1.size _) ?_;clear hK K';try simp only [pQ,pN,pZ,pS])
   (refine on 10 ?_;intro o ho K' hK;simp at ho;subst ho;go_simp)
   (refine hK.out _ _ (fun _=>hY1.alloc hY1.size _) ?_;clear hK K';try simp only [pQ,pN,pZ,pS])
   refine wpAnyS_done (by kernel_rfl) (NoPanic.normal ?_) _
   exact ⟨rfl,⟨y1.heap.size,ss,vv,aa,an,ac,ba,bn,bc⟩,by rfl,BoxRes.fresh hY1 (repO hr)⟩
  ·(intro o8 ho K' hK;simp at ho;subst ho)
   go_simp
   (refine hK.out _ _ (fun _=>hSd.alloc (Nat.le_refl _) _) ?_;clear hK K';try simp only [pQ,pN,pZ,pS])
   (refine on 4 ?_;intro o ho K' hK;simp at ho;subst ho;go_simp)
   go_at_call 10
   have hY0:Below zm.heap.size zm (zm.alloc (.cells #[str [],.int .i64 0,.slice none 0 0,.slice none 0 0] 36)).drew:=hSd.alloc (Nat.le_refl _) _
   (with_reducible refine (CRn.out _ hY0).mono ?_)
   rintro en y1 ⟨ss,vv,aa,an,ac,ba,bn,bc,rfl,hb,hr⟩
   have hY1:Below zm.heap.size zm y1:=hY0.trans (hb.mono hY0.size)
   (refine hK.out _ _ (fun _=>hY1) ?_;clear hK K';try simp only [pQ,pN,pZ,pS])
   refine tk [5,6,7] hY1 ?_
   (intro d hd;simp [tkD] at hd;subst hd;simp only [tks,pQ,pZ,pS])
   iterate 3 (refine ⟨?_,?_,?_⟩;rotate_left;· (intro oi ho;simp at ho;subst ho;refine Or.inl ⟨by rfl,fun w' hw'=>?_⟩;go_simp;try with_reducible rfl))
   have bz:y1.heap[zm.heap.size]? = some (.cells #[str [],.int .i64 0,.slice none 0 0,.slice none 0 0] 36 (0,0)):=(hb.block _ (show _<_ from by simp)).trans (heap_new zm (.cells #[str [],.int .i64 0,.slice none 0 0,.slice none 0 0] 36))
   have zc0:=(show _=some _ from by simp only [World.cell?,bz];rfl:(y1).cell? ⟨zm.heap.size,0,none⟩=some (str []))
   have zf0:(y1).frozen? ⟨zm.heap.size,0,none⟩=false:=by simp only [World.frozen?,bz];rfl
   have zc1:=(show _=some _ from by simp only [World.cell?,bz];rfl:(y1).cell? ⟨zm.heap.size,1,none⟩=some (.int .i64 0))
   have zf1:(y1).frozen? ⟨zm.heap.size,1,none⟩=false:=by simp only [World.frozen?,bz];rfl
   have zc2:=(show _=some _ from by simp only [World.cell?,bz];rfl:(y1).cell? ⟨zm.heap.size,2,none⟩=some (.slice none 0 0))
   have zf2:(y1).frozen? ⟨zm.heap.size,2,none⟩=false:=by simp only [World.frozen?,bz];rfl
   have zc3:=(show _=some _ from by simp only [World.cell?,bz];rfl:(y1).cell? ⟨zm.heap.size,3,none⟩=some (.slice none 0 0))
   have zf3:(y1).frozen? ⟨zm.heap.size,3,none⟩=false:=by simp only [World.frozen?,bz];rfl
   (refine on 9 ?_;intro o ho K' hK;simp at ho;subst ho;go_simp)
   (refine hK.out _ _ (fun _=>((((hY1.setCell (p:=⟨zm.heap.size,0,none⟩) (Nat.le_refl _) _).setCell (p:=⟨zm.heap.size,1,none⟩) (Nat.le_refl _) _).setCell (p:=⟨zm.heap.size,2,none⟩) (Nat.le_refl _) _).setCell (p:=⟨zm.heap.size,3,none⟩) (Nat.le_refl _) _)) ?_;clear hK K';try simp only [pQ,pN,pZ,pS])
   (refine on 10 ?_;intro o ho K' hK;simp at ho;subst ho;go_simp)
   (refine hK.out _ _ (fun _=>((((hY1.setCell (p:=⟨zm.heap.size,0,none⟩) (Nat.le_refl _) _).setCell (p:=⟨zm.heap.size,1,none⟩) (Nat.le_refl _) _).setCell (p:=⟨zm.heap.size,2,none⟩) (Nat.le_refl _) _).setCell (p:=⟨zm.heap.size,3,none⟩) (Nat.le_refl _) _)) ?_;clear hK K';try simp only [pQ,pN,pZ,pS])
   refine wpAnyS_done (by kernel_rfl) (NoPanic.normal ?_) _
   exact ⟨rfl,⟨zm.heap.size,ss,vv,aa,an,ac,ba,bn,bc⟩,by rfl,BoxRes.first hFn.out hY0 (by simp) hb (repO hr) (but4 _ _ _ _ _ _) (by rw [setCell_at' (setCell_at' (setCell_at' (setCell_at' bz)))];rfl)⟩
 rintro ⟨gn,ssn,vvn,aan,ann,acn,ban,bnn,bcn⟩ zn hR
 have Rn:Hid (BoxRes F zm gn (.cells #[str ssn,.int .i64 vvn,.slice aan ann acn,.slice ban bnn bcn] 36 (0,0)) (dO oN) (vO oN [str ssn,.int .i64 vvn,.slice aan ann acn,.slice ban bnn bcn]) zn):=hR
 have HZn:Hid (Below W0.heap.size W0 zn∧Below w.heap.size w zn):=⟨HZm.out.1.trans (Rn.out.below.mono (HZm.out.1).size),HZm.out.2.trans (Rn.out.below.mono (HZm.out.2).size)⟩
 have HLn:Hid (W0.heap.size≤zm.heap.size):=(HZm.out.1).size
 clear hR CRn
 simp only [Act.put,List.setIfInBounds_toArray,List.set_cons_zero,List.set_cons_succ]
 have Bk:zn.heap[gk]? = some (.cells #[.slice xk k0.args.length yk] 31 (0,0)):=(Rn.out.below.block _ (lt_of_heap ((Rm.out.below.block _ (lt_of_heap ((Rl.out.below.block _ (lt_of_heap (Rk.out.blk))).trans (Rk.out.blk)))).trans ((Rl.out.below.block _ (lt_of_heap (Rk.out.blk))).trans (Rk.out.blk))))).trans ((Rm.out.below.block _ (lt_of_heap ((Rl.out.below.block _ (lt_of_heap (Rk.out.blk))).trans (Rk.out.blk)))).trans ((Rl.out.below.block _ (lt_of_heap (Rk.out.blk))).trans (Rk.out.blk)))
 have Tk:Hid (Rep (fun i=>F i∨W0.heap.size≤i) zn (encS (k0)) (.slice xk (k0).args.length yk)):=Rep.below (F':=fun i=>F i∨W0.heap.size≤i) Rn.out.below (fun _ h=>h) (Rep.below (F':=fun i=>F i∨W0.heap.size≤i) Rm.out.below (fun _ h=>h) (Rep.below (F':=fun i=>F i∨W0.heap.size≤i) Rl.out.below (fun _ h=>h) ((Reps.get1 Rk.out.rep).weak (G:=fun i=>F i∨W0.heap.size≤i) (fun i h=>h.1.elim .inl (fun h=>.inr (Nat.le_trans HLk.out h))))))
 have Bl:zn.heap[gl]? = some (.cells #[str ssl,.int .i64 vvl,.slice aal anl acl,.slice bal bnl bcl] 36 (0,0)):=(Rn.out.below.block _ (lt_of_heap ((Rm.out.below.block _ (lt_of_heap (Rl.out.blk))).trans (Rl.out.blk)))).trans ((Rm.out.below.block _ (lt_of_heap (Rl.out.blk))).trans (Rl.out.blk))
 have Tl:Hid (Reps (fun i=>F i∨W0.heap.size≤i) zn (dO ol) (vO ol [str ssl,.int .i64 vvl,.slice aal anl acl,.slice bal bnl bcl])):=Reps.below (F':=fun i=>F i∨W0.heap.size≤i) Rn.out.below (fun _ h=>h) (Reps.below (F':=fun i=>F i∨W0.heap.size≤i) Rm.out.below (fun _ h=>h) ((Rl.out.rep.weakS (G:=fun i=>F i∨W0.heap.size≤i) (fun i h=>h.1.elim .inl (fun h=>.inr (Nat.le_trans HLl.out h))))))
 have Bm:zn.heap[gm]? = some (.cells #[str ssm,.int .i64 vvm,.slice aam anm acm,.slice bam bnm bcm] 36 (0,0)):=(Rn.out.below.block _ (lt_of_heap (Rm.out.blk))).trans (Rm.out.blk)
 have Tm:Hid (Reps (fun i=>F i∨W0.heap.size≤i) zn (dO om) (vO om [str ssm,.int .i64 vvm,.slice aam anm acm,.slice bam bnm bcm])):=Reps.below (F':=fun i=>F i∨W0.heap.size≤i) Rn.out.below (fun _ h=>h) ((Rm.out.rep.weakS (G:=fun i=>F i∨W0.heap.size≤i) (fun i h=>h.1.elim .inl (fun h=>.inr (Nat.le_trans HLm.out h)))))
 have Bn:zn.heap[gn]? = some (.cells #[str ssn,.int .i64 vvn,.slice aan ann acn,.slice ban bnn bcn] 36 (0,0)):=Rn.out.blk
 have Tn:Hid (Reps (fun i=>F i∨W0.heap.size≤i) zn (dO oN) (vO oN [str ssn,.int .i64 vvn,.slice aan ann acn,.slice ban bnn bcn])):=(Rn.out.rep.weakS (G:=fun i=>F i∨W0.heap.size≤i) (fun i h=>h.1.elim .inl (fun h=>.inr (Nat.le_trans HLn.out h))))
 have NRz:Hid (NewN (w.heap.size+1+1) 0 (.slice none 0 0) (.slice none 0 0) zn):=NewN.below (B:=W0.heap.size) H0.out.2.2.2 HZn.out.1 (lt_of_heap H0.out.2.2.2)
 clear Cl Cm Cn CKK
 cases ol with
 | none =>
   have HEE:=Lib.hid (show meanOf ns (.ite l m n)=none by rw [meanOf,HTY.out.2.2.2.1];rfl)
   obtain ⟨rc0,rc1,rc2,rc3,_,rff⟩:=NRz.out.cells
   have rf0:=rff 0;have rf1:=rff 1;have rf2:=rff 2;have rf3:=rff 3
   clear rff
   obtain ⟨q0,q1,q2,q3⟩:=cells4 Bl
   simp only [Option.isSome_none,Option.isSome_some]
   go_wp2_with fail
   obtain ⟨W,hW,s0',s1',s2',s3',hbW,hkW⟩:=NewN.store (NRz.out) (str ssl) (.int .i64 vvl) (.slice aal anl acl) (.slice bal bnl bcl)
   rw [← hW]
   refine bodyPost_ret (v:=.tuple #[.agg #[str ssl,.int .i64 vvl,.slice aal anl acl,.slice bal bnl bcl],.bool false]) (by simp [results,Tryz.results10,go_sem,s0',s1',s2',s3']) rfl ?_
   rw [HEE.out]
   exact of_fin (o:=none) HP.out.1.old H0.out.1 H0.out.2.1 HZn.out.1 (fun x hx=>by simp at hx) hbW hkW
 | some p =>
   cases om with
   | none =>
     have HEE:=Lib.hid (show meanOf ns (.ite l m n)=none by rw [meanOf,HTY.out.2.2.2.1,HTY.out.2.2.2.2.1];rfl)
     obtain ⟨rc0,rc1,rc2,rc3,_,rff⟩:=NRz.out.cells
     have rf0:=rff 0;have rf1:=rff 1;have rf2:=rff 2;have rf3:=rff 3
     clear rff
     obtain ⟨q0,q1,q2,q3⟩:=cells4 Bl
     simp only [Option.isSome_none,Option.isSome_some]
     go_wp2_with fail
     obtain ⟨W,hW,s0',s1',s2',s3',hbW,hkW⟩:=NewN.store (NRz.out) (str ssl) (.int .i64 vvl) (.slice aal anl acl) (.slice bal bnl bcl)
     rw [← hW]
     refine bodyPost_ret (v:=.tuple #[.agg #[str ssl,.int .i64 vvl,.slice aal anl acl,.slice bal bnl bcl],.bool false]) (by simp [results,Tryz.results10,go_sem,s0',s1',s2',s3']) rfl ?_
     rw [HEE.out]
     exact of_fin (o:=none) HP.out.1.old H0.out.1 H0.out.2.1 HZn.out.1 (fun x hx=>by simp at hx) hbW hkW
   | some q =>
     cases oN with
     | none =>
       have HEE:=Lib.hid (show meanOf ns (.ite l m n)=none by rw [meanOf,HTY.out.2.2.2.1,HTY.out.2.2.2.2.1,HTY.out.2.2.2.2.2];rfl)
       obtain ⟨rc0,rc1,rc2,rc3,_,rff⟩:=NRz.out.cells
       have rf0:=rff 0;have rf1:=rff 1;have rf2:=rff 2;have rf3:=rff 3
       clear rff
       obtain ⟨q0,q1,q2,q3⟩:=cells4 Bl
       simp only [Option.isSome_none,Option.isSome_some]
       go_wp2_with fail
       obtain ⟨W,hW,s0',s1',s2',s3',hbW,hkW⟩:=NewN.store (NRz.out) (str ssl) (.int .i64 vvl) (.slice aal anl acl) (.slice bal bnl bcl)
       rw [← hW]
       refine bodyPost_ret (v:=.tuple #[.agg #[str ssl,.int .i64 vvl,.slice aal anl acl,.slice bal bnl bcl],.bool false]) (by simp [results,Tryz.results10,go_sem,s0',s1',s2',s3']) rfl ?_
       rw [HEE.out]
       exact of_fin (o:=none) HP.out.1.old H0.out.1 H0.out.2.1 HZn.out.1 (fun x hx=>by simp at hx) hbW hkW
     | some r =>
       have HE:=Lib.hid (show meanOf ns (.ite l m n)=smallB (graftB (shiftB p ns.length k0.args.length) q r) by rw [meanOf,HTY.out.2.2.2.1,HTY.out.2.2.2.2.1,HTY.out.2.2.2.2.2,Option.bind_some,Option.bind_some,Option.bind_some,HTY.out.2.1,Option.bind_some])
       obtain ⟨f1,w1',s1'⟩:=mean_good l ns _ p HP.out.2.1.1 HP.out.1.n15 HTY.out.1 HTY.out.2.2.2.1
       have s2':=mean_small _ _ _ HTY.out.2.2.2.2.1
       have s3':=mean_small _ _ _ HTY.out.2.2.2.2.2
       have hk15:=type_small m ns k0 HP.out.1.n15 HTY.out.2.1
       have hkl:=arg_count hk15
       have hlv:lvB p:=fit_lvR 200 p (kinds ns++(Ty.mk []).args) s1' f1 (fun t ht=>by
        rcases List.mem_append.1 ht with ht | ht
        ·exact HP.out.1.n15 t ht
        ·simp [Ty.args] at ht) (by rw [List.length_append,kinds_length];simp [Ty.args];omega)
       have hsz:sizeB (graftB (shiftB p ns.length k0.args.length) q r)≤1000000:=by
        have h4:=graft_sizeB (shiftB p ns.length k0.args.length) q r
        rw [shift_sizeB] at h4
        have h5:sizeB p*(sizeB q+sizeB r)≤200*400:=Nat.mul_le_mul s1' (by omega)
        omega
       have SHC:=Lib.hid (fun wz (hz:Below zn.heap.size zn wz)=>shift_any (sizeB p) (fun i=>i<zn.heap.size∧(F i∨W0.heap.size≤i)) p ns.length k0.args.length _ _ _ _ wz (Nat.le_refl _) (fun i h=>Nat.lt_of_lt_of_le h.1 hz.size) (by omega) hlv (by omega) (by omega) (Reps.below (F':=(fun i=>i<zn.heap.size∧(F i∨W0.heap.size≤i))) hz (fun _ h=>h) ((Rep.keep fun i x h hx=>⟨⟨lt_of_heap hx,h⟩,hx⟩).2 _ _ Tl.out)))
       have GRC:Hid (∀ (A1:World) (E:Nat→Prop) (sq:Bs) (vq:Int) (aq:Option Addr) (nq cq:Nat) (bq:Option Addr) (mq dq:Nat),Below zn.heap.size zn A1→(∀ i,E i→i<A1.heap.size)→(∀ i,(i<zn.heap.size∧(F i∨W0.heap.size≤i))→E i)→Reps E A1 (encN (shiftB p ns.length k0.args.length)) [str sq,.int .i64 vq,.slice aq nq cq,.slice bq mq dq] →
        Calls Tryz.prog 25 #[.agg #[str sq,.int .i64 vq,.slice aq nq cq,.slice bq mq dq],.agg #[str ssm,.int .i64 vvm,.slice aam anm acm,.slice bam bnm bcm],.agg #[str ssn,.int .i64 vvn,.slice aan ann acn,.slice ban bnn bcn]] A1 (NdPost E A1 (graftB (shiftB p ns.length k0.args.length) q r))):=by
        show ∀ _,_
        intro A1 E sq vq aq nq cq bq mq dq hz hE hFE hr
        exact graft_any _ E (shiftB p ns.length k0.args.length) q r _ _ _ _ _ _ _ _ _ _ _ _ A1 (Nat.le_refl _) hE (shift_wf _ _ _ w1') hr (Reps.below hz hFE ((Rep.keep fun i x h hx=>⟨⟨lt_of_heap hx,h⟩,hx⟩).2 _ _ Tm.out)) (Reps.below hz hFE ((Rep.keep fun i x h hx=>⟨⟨lt_of_heap hx,h⟩,hx⟩).2 _ _ Tn.out))
       have SY:Hid (∀ w',Below zn.heap.size zn w'→(w'.cell? ⟨gl,0,none⟩=some (str ssl)∧w'.cell? ⟨gl,1,none⟩=some (.int .i64 vvl)∧w'.cell? ⟨gl,2,none⟩=some (.slice aal anl acl)∧w'.cell? ⟨gl,3,none⟩=some (.slice bal bnl bcl))∧(w'.cell? ⟨gm,0,none⟩=some (str ssm)∧w'.cell? ⟨gm,1,none⟩=some (.int .i64 vvm)∧w'.cell? ⟨gm,2,none⟩=some (.slice aam anm acm)∧w'.cell? ⟨gm,3,none⟩=some (.slice bam bnm bcm))∧(w'.cell? ⟨gn,0,none⟩=some (str ssn)∧w'.cell? ⟨gn,1,none⟩=some (.int .i64 vvn)∧w'.cell? ⟨gn,2,none⟩=some (.slice aan ann acn)∧w'.cell? ⟨gn,3,none⟩=some (.slice ban bnn bcn))∧w'.cell? ⟨gk,0,none⟩=some (.slice xk k0.args.length yk)):=by
        show ∀ w',_→_
        intro w' h
        exact ⟨cells4 ((h.block _ (lt_of_heap Bl)).trans Bl),cells4 ((h.block _ (lt_of_heap Bm)).trans Bm),cells4 ((h.block _ (lt_of_heap Bn)).trans Bn),by simp only [World.cell?,(h.block _ (lt_of_heap Bk)).trans Bk];rfl⟩
       simp only [Option.isSome_some]
       clear f1 w1' s1' s2' s3' hk15 hlv Bl Bm Bn Bk
       go_wp2_with fail
       refine cut_code (X:=Nat×Bs×Int×Option Addr×Nat×Nat×Option Addr×Nat×Nat×Bs×Int×Option Addr×Nat×Nat×Option Addr×Nat×Nat) (fun a x=>((((((((((a.put (some 173) (.agg #[str ssl,.int .i64 vvl,.slice aal anl acl,.slice bal bnl bcl])).put (some 174) (.int .i64 ((ns.length:Nat):Int))).put (some 175) (.pointer (some ⟨gk,0,none⟩))).put (some 176) (.slice xk k0.args.length yk)).put (some 177) (.int .i64 ((k0.args.length:Nat):Int))).put (some 178) (.agg #[str x.2.1,.int .i64 x.2.2.1,.slice x.2.2.2.1 x.2.2.2.2.1 x.2.2.2.2.2.1,.slice x.2.2.2.2.2.2.1 x.2.2.2.2.2.2.2.1 x.2.2.2.2.2.2.2.2.1])).put (some 179) (.agg #[str ssm,.int .i64 vvm,.slice aam anm acm,.slice bam bnm bcm])).put (some 180) (.agg #[str ssn,.int .i64 vvn,.slice aan ann acn,.slice ban bnn bcn])).put (some 181) (.agg #[str x.2.2.2.2.2.2.2.2.2.1,.int .i64 x.2.2.2.2.2.2.2.2.2.2.1,.slice x.2.2.2.2.2.2.2.2.2.2.2.1 x.2.2.2.2.2.2.2.2.2.2.2.2.1 x.2.2.2.2.2.2.2.2.2.2.2.2.2.1,.slice x.2.2.2.2.2.2.2.2.2.2.2.2.2.2.1 x.2.2.2.2.2.2.2.2.2.2.2.2.2.2.2.1 x.2.2.2.2.2.2.2.2.2.2.2.2.2.2.2.2])).put (some 26) (.pointer (some ⟨x.1,0,none⟩)))) (fun x w'=>BoxRes (fun i=>i<zn.heap.size∧(F i∨W0.heap.size≤i)) zn x.1 (.cells #[str x.2.2.2.2.2.2.2.2.2.1,.int .i64 x.2.2.2.2.2.2.2.2.2.2.1,.slice x.2.2.2.2.2.2.2.2.2.2.2.1 x.2.2.2.2.2.2.2.2.2.2.2.2.1 x.2.2.2.2.2.2.2.2.2.2.2.2.2.1,.slice x.2.2.2.2.2.2.2.2.2.2.2.2.2.2.1 x.2.2.2.2.2.2.2.2.2.2.2.2.2.2.2.1 x.2.2.2.2.2.2.2.2.2.2.2.2.2.2.2.2] 36 (0,0)) (encN (graftB (shiftB p ns.length k0.args.length) q r)) [str x.2.2.2.2.2.2.2.2.2.1,.int .i64 x.2.2.2.2.2.2.2.2.2.2.1,.slice x.2.2.2.2.2.2.2.2.2.2.2.1 x.2.2.2.2.2.2.2.2.2.2.2.2.1 x.2.2.2.2.2.2.2.2.2.2.2.2.2.1,.slice x.2.2.2.2.2.2.2.2.2.2.2.2.2.2.1 x.2.2.2.2.2.2.2.2.2.2.2.2.2.2.2.1 x.2.2.2.2.2.2.2.2.2.2.2.2.2.2.2.2] w') ?_ ?_
       ·refine wp_region_noPanic ?_
        refine wp_region_S (fun w'=>Below zn.heap.size zn w') (fun _=>false) (by kernel_rfl) ?_
        have hSd:(fun w'=>Below zn.heap.size zn w') zn.drew:=Below.drew (Below.refl _ _)
        refine tk [0,1,2,3,4,6,7] hSd ?_
        (intro d hd;simp [tkD] at hd;subst hd;simp only [tks,pQ,pZ,pS])
        iterate 7 (refine ⟨?_,?_,?_⟩;rotate_left;· (intro oi ho;simp at ho;subst ho;refine Or.inl ⟨by rfl,fun w' hw'=>?_⟩;obtain ⟨⟨l0,l1,l2,l3⟩,⟨m0,m1,m2,m3⟩,⟨n0,n1,n2,n3⟩,c0⟩:=SY.out w' hw';go_simp;try with_reducible rfl))
        refine wpAnyS_two 5 9 (by kernel_rfl) ?_ ?_
        ·(intro o5 ho K' hK;simp at ho;subst ho)
         go_simp
         go_at_call 26
         (with_reducible refine (SHC.out _ hSd).mono ?_)
         rintro en y1 ⟨sq,vq,aq,nq,cq,bq,mq,dq,rfl,hbw,hqr⟩
         have hY1:Below zn.heap.size zn y1:=hSd.trans (hbw.mono (hSd).size)
         (refine hK.out _ _ (fun _=>hY1) ?_;clear hK K';try simp only [pQ,pN,pZ,pS])
         have hq1:Reps (fun i=>((i<zn.heap.size∧(F i∨W0.heap.size≤i))∨zn.heap.size≤i)∧i<y1.heap.size) y1 (encN (shiftB p ns.length k0.args.length)) [str sq,.int .i64 vq,.slice aq nq cq,.slice bq mq dq]:=(Rep.keep fun i x hi hx=>⟨⟨hi,lt_of_heap hx⟩,hx⟩).2 _ _ hqr
         refine wpAnyS_two 8 9 (by kernel_rfl) ?_ ?_
         ·have CZ1:=GRC.out y1 (fun i=>((i<zn.heap.size∧(F i∨W0.heap.size≤i))∨zn.heap.size≤i)∧i<y1.heap.size) sq vq aq nq cq bq mq dq hY1 (fun i h=>h.2) (fun i h=>⟨.inl h,Nat.lt_of_lt_of_le h.1 hY1.size⟩) hq1
          (intro o8 ho K' hK;simp at ho;subst ho)
          go_simp
          go_at_call 25
          (with_reducible refine CZ1.mono ?_)
          rintro en y2 ⟨sr,vr,ar,nr,cr,br,mr,dr,rfl,hbk,hrk⟩
          have hY2:Below zn.heap.size zn y2:=hY1.trans (hbk.mono hY1.size)
          (refine hK.out _ _ (fun _=>hY2) ?_;clear hK K';try simp only [pQ,pN,pZ,pS])
          (refine on 9 ?_;intro o ho K' hK;simp at ho;subst ho;go_simp)
          (refine hK.out _ _ (fun _=>hY2.alloc hY2.size _) ?_;clear hK K';try simp only [pQ,pN,pZ,pS])
          (refine on 10 ?_;intro o ho K' hK;simp at ho;subst ho;go_simp)
          (refine hK.out _ _ (fun _=>hY2.alloc hY2.size _) ?_;clear hK K';try simp only [pQ,pN,pZ,pS])
          refine wpAnyS_done (by kernel_rfl) (NoPanic.normal ?_) _
          exact ⟨rfl,⟨y2.heap.size,sq,vq,aq,nq,cq,bq,mq,dq,sr,vr,ar,nr,cr,br,mr,dr⟩,by rfl,BoxRes.fresh hY2 (hrk.weakS fun i h=>by rcases h with h | h;exact h.1;exact .inr (Nat.le_trans hY1.size h))⟩
         ·(intro o9 ho K' hK;simp at ho;subst ho)
          go_simp
          (refine hK.out _ _ (fun _=>hY1.alloc hY1.size _) ?_;clear hK K';try simp only [pQ,pN,pZ,pS])
          have hA:Below zn.heap.size zn (y1.alloc (.cells #[str [],.int .i64 0,.slice none 0 0,.slice none 0 0] 36)):=hY1.alloc hY1.size _
          have lz:(y1.alloc (.cells #[str [],.int .i64 0,.slice none 0 0,.slice none 0 0] 36)).heap.size=y1.heap.size+1:=by simp
          have bz0:(y1.alloc (.cells #[str [],.int .i64 0,.slice none 0 0,.slice none 0 0] 36)).heap[y1.heap.size]? = some (.cells #[str [],.int .i64 0,.slice none 0 0,.slice none 0 0] 36 (0,0)):=heap_new _ _
          have hq2:Reps (fun i=>((i<zn.heap.size∧(F i∨W0.heap.size≤i))∨zn.heap.size≤i)∧i<y1.heap.size) (y1.alloc (.cells #[str [],.int .i64 0,.slice none 0 0,.slice none 0 0] 36)) (encN (shiftB p ns.length k0.args.length)) [str sq,.int .i64 vq,.slice aq nq cq,.slice bq mq dq]:=(Rep.keep fun i x hi hx=>⟨hi,heap_past hx⟩).2 _ _ hq1
          have CZ1:=GRC.out (y1.alloc (.cells #[str [],.int .i64 0,.slice none 0 0,.slice none 0 0] 36)) (fun i=>((i<zn.heap.size∧(F i∨W0.heap.size≤i))∨zn.heap.size≤i)∧i<y1.heap.size) sq vq aq nq cq bq mq dq hA (fun i h=>by rw [lz];have:=h.2;omega) (fun i h=>⟨.inl h,Nat.lt_of_lt_of_le h.1 hY1.size⟩) hq2
          (refine on 8 ?_;intro o ho K' hK;simp at ho;subst ho;go_simp)
          go_at_call 25
          (with_reducible refine CZ1.mono ?_)
          rintro en y2 ⟨sr,vr,ar,nr,cr,br,mr,dr,rfl,hbk,hrk⟩
          have hY2:Below zn.heap.size zn y2:=hA.trans (hbk.mono hA.size)
          have bz:y2.heap[y1.heap.size]? = some (.cells #[str [],.int .i64 0,.slice none 0 0,.slice none 0 0] 36 (0,0)):=(hbk.block _ (by rw [lz];omega)).trans bz0
          (refine hK.out _ _ (fun _=>hY2) ?_;clear hK K';try simp only [pQ,pN,pZ,pS])
          have zc0:(y2).cell? ⟨y1.heap.size,0,none⟩=some (str []):=by simp only [World.cell?,bz];rfl
          have zf0:(y2).frozen? ⟨y1.heap.size,0,none⟩=false:=by simp only [World.frozen?,bz];rfl
          have zc1:(y2).cell? ⟨y1.heap.size,1,none⟩=some (.int .i64 0):=by simp only [World.cell?,bz];rfl
          have zf1:(y2).frozen? ⟨y1.heap.size,1,none⟩=false:=by simp only [World.frozen?,bz];rfl
          have zc2:(y2).cell? ⟨y1.heap.size,2,none⟩=some (.slice none 0 0):=by simp only [World.cell?,bz];rfl
          have zf2:(y2).frozen? ⟨y1.heap.size,2,none⟩=false:=by simp only [World.frozen?,bz];rfl
          have zc3:(y2).cell? ⟨y1.heap.size,3,none⟩=some (.slice none 0 0):=by simp only [World.cell?,bz];rfl
          have zf3:(y2).frozen? ⟨y1.heap.size,3,none⟩=false:=by simp only [World.frozen?,bz];rfl
          (refine on 10 ?_;intro o ho K' hK;simp at ho;subst ho;go_simp)
          (refine hK.out _ _ (fun _=>((((hY2.setCell (p:=⟨y1.heap.size,0,none⟩) hY1.size _).setCell (p:=⟨y1.heap.size,1,none⟩) hY1.size _).setCell (p:=⟨y1.heap.size,2,none⟩) hY1.size _).setCell (p:=⟨y1.heap.size,3,none⟩) hY1.size _)) ?_;clear hK K';try simp only [pQ,pN,pZ,pS])
          refine wpAnyS_done (by kernel_rfl) (NoPanic.normal ?_) _
          exact ⟨rfl,⟨y1.heap.size,sq,vq,aq,nq,cq,bq,mq,dq,sr,vr,ar,nr,cr,br,mr,dr⟩,by rfl,((((hY2.setCell (p:=⟨y1.heap.size,0,none⟩) hY1.size _).setCell (p:=⟨y1.heap.size,1,none⟩) hY1.size _).setCell (p:=⟨y1.heap.size,2,none⟩) hY1.size _).setCell (p:=⟨y1.heap.size,3,none⟩) hY1.size _),hY1.size,(by rw [setCell_at' (setCell_at' (setCell_at' (setCell_at' bz)))];rfl),(Rep.keep fun i x hi hx=>by
           have hne:i≠y1.heap.size:=by rcases hi with h | h;have:=h.2;omega;rw [lz] at h;omega
           exact ⟨⟨by rcases hi with h | h;exact h.1;exact .inr (Nat.le_trans hA.size h),hne⟩,by rw [(but4 _ _ _ _ _ _).block i (lt_of_heap hx) hne];exact hx⟩).2 _ _ hrk⟩
        ·(intro o9 ho K' hK;simp at ho;subst ho)
         go_simp
         (refine hK.out _ _ (fun _=>hSd.alloc (Nat.le_refl _) _) ?_;clear hK K';try simp only [pQ,pN,pZ,pS])
         have hA:Below zn.heap.size zn (zn.alloc (.cells #[str [],.int .i64 0,.slice none 0 0,.slice none 0 0] 36)).drew:=hSd.alloc (Nat.le_refl _) _
         have lz:(zn.alloc (.cells #[str [],.int .i64 0,.slice none 0 0,.slice none 0 0] 36)).drew.heap.size=zn.heap.size+1:=by simp
         (refine on 5 ?_;intro o ho K' hK;simp at ho;subst ho;go_simp)
         go_at_call 26
         (with_reducible refine (SHC.out _ hA).mono ?_)
         rintro en y1 ⟨sq,vq,aq,nq,cq,bq,mq,dq,rfl,hbw,hqr⟩
         have hY1:Below zn.heap.size zn y1:=hA.trans (hbw.mono (hA).size)
         have bz0:y1.heap[zn.heap.size]? = some (.cells #[str [],.int .i64 0,.slice none 0 0,.slice none 0 0] 36 (0,0)):=(hbw.block _ (by rw [lz];omega)).trans (heap_new zn (.cells #[str [],.int .i64 0,.slice none 0 0,.slice none 0 0] 36))
         have ly1:zn.heap.size+1≤y1.heap.size:=by have:=hbw.size;rw [lz] at this;exact this
         (refine hK.out _ _ (fun _=>hY1) ?_;clear hK K';try simp only [pQ,pN,pZ,pS])
         have hq2:Reps (fun i=>((i<zn.heap.size∧(F i∨W0.heap.size≤i))∨zn.heap.size+1≤i)∧i<y1.heap.size) y1 (encN (shiftB p ns.length k0.args.length)) [str sq,.int .i64 vq,.slice aq nq cq,.slice bq mq dq]:=(Rep.keep fun i x hi hx=>⟨⟨hi.elim .inl (fun h=>.inr (by rw [lz] at h;exact h)),lt_of_heap hx⟩,hx⟩).2 _ _ hqr
         have CZ1:=GRC.out y1 (fun i=>((i<zn.heap.size∧(F i∨W0.heap.size≤i))∨zn.heap.size+1≤i)∧i<y1.heap.size) sq vq aq nq cq bq mq dq hY1 (fun i h=>h.2) (fun i h=>⟨.inl h,Nat.lt_of_lt_of_le h.1 hY1.size⟩) hq2
         (refine on 8 ?_;intro o ho K' hK;simp at ho;subst ho;go_simp)
         go_at_call 25
         (with_reducible refine CZ1.mono ?_)
         rintro en y2 ⟨sr,vr,ar,nr,cr,br,mr,dr,rfl,hbk,hrk⟩
         have hY2:Below zn.heap.size zn y2:=hY1.trans (hbk.mono hY1.size)
         have bz:y2.heap[zn.heap.size]? = some (.cells #[str [],.int .i64 0,.slice none 0 0,.slice none 0 0] 36 (0,0)):=(hbk.block _ (by omega)).trans bz0
         (refine hK.out _ _ (fun _=>hY2) ?_;clear hK K';try simp only [pQ,pN,pZ,pS])
         have zc0:(y2).cell? ⟨zn.heap.size,0,none⟩=some (str []):=by simp only [World.cell?,bz];rfl
         have zf0:(y2).frozen? ⟨zn.heap.size,0,none⟩=false:=by simp only [World.frozen?,bz];rfl
         have zc1:(y2).cell? ⟨zn.heap.size,1,none⟩=some (.int .i64 0):=by simp only [World.cell?,bz];rfl
         have zf1:(y2).frozen? ⟨zn.heap.size,1,none⟩=false:=by simp only [World.frozen?,bz];rfl
         have zc2:(y2).cell? ⟨zn.heap.size,2,none⟩=some (.slice none 0 0):=by simp only [World.cell?,bz];rfl
         have zf2:(y2).frozen? ⟨zn.heap.size,2,none⟩=false:=by simp only [World.frozen?,bz];rfl
         have zc3:(y2).cell? ⟨zn.heap.size,3,none⟩=some (.slice none 0 0):=by simp only [World.cell?,bz];rfl
         have zf3:(y2).frozen? ⟨zn.heap.size,3,none⟩=false:=by simp only [World.frozen?,bz];rfl
         (refine on 10 ?_;intro o ho K' hK;simp at ho;subst ho;go_simp)
         (refine hK.out _ _ (fun _=>((((hY2.setCell (p:=⟨zn.heap.size,0,none⟩) (Nat.le_refl _) _).setCell (p:=⟨zn.heap.size,1,none⟩) (Nat.le_refl _) _).setCell (p:=⟨zn.heap.size,2,none⟩) (Nat.le_refl _) _).setCell (p:=⟨zn.heap.size,3,none⟩) (Nat.le_refl _) _)) ?_;clear hK K';try simp only [pQ,pN,pZ,pS])
         refine wpAnyS_done (by kernel_rfl) (NoPanic.normal ?_) _
         exact ⟨rfl,⟨zn.heap.size,sq,vq,aq,nq,cq,bq,mq,dq,sr,vr,ar,nr,cr,br,mr,dr⟩,by rfl,((((hY2.setCell (p:=⟨zn.heap.size,0,none⟩) (Nat.le_refl _) _).setCell (p:=⟨zn.heap.size,1,none⟩) (Nat.le_refl _) _).setCell (p:=⟨zn.heap.size,2,none⟩) (Nat.le_refl _) _).setCell (p:=⟨zn.heap.size,3,none⟩) (Nat.le_refl _) _),Nat.le_refl _,(by rw [setCell_at' (setCell_at' (setCell_at' (setCell_at' bz)))];rfl),(Rep.keep fun i x hi hx=>by
          have hne:i≠zn.heap.size:=by rcases hi with h | h;rcases h.1 with h1 | h1;have:=h1.1;omega;omega;omega
          exact ⟨⟨by rcases hi with h | h;rcases h.1 with h1 | h1;exact .inl h1;exact .inr (by omega);exact .inr (by omega),hne⟩,by rw [(but4 _ _ _ _ _ _).block i (lt_of_heap hx) hne];exact hx⟩).2 _ _ hrk⟩
       rintro ⟨gq,sq,vq,aq,nq,cq,bq,mq,dq,sr,vr,ar,nr,cr,br,mr,dr⟩ Y hR
       have R:Hid (BoxRes (fun i=>i<zn.heap.size∧(F i∨W0.heap.size≤i)) zn gq (.cells #[str sr,.int .i64 vr,.slice ar nr cr,.slice br mr dr] 36 (0,0)) (encN (graftB (shiftB p ns.length k0.args.length) q r)) [str sr,.int .i64 vr,.slice ar nr cr,.slice br mr dr] Y):=hR
       have gB:Y.heap[gq]? = some (.cells #[str sr,.int .i64 vr,.slice ar nr cr,.slice br mr dr] 36 (0,0)):=R.out.blk
       have HYB:Hid (Below W0.heap.size W0 Y):=HZn.out.1.trans (R.out.below.mono HZn.out.1.size)
       have HRY:Hid (Reps (fun i=>F i∨W0.heap.size≤i) Y (encN (graftB (shiftB p ns.length k0.args.length) q r)) [str sr,.int .i64 vr,.slice ar nr cr,.slice br mr dr]):=R.out.rep.weakS fun i h=>by
        rcases h.1 with h1 | h1
        ·exact h1.2
        ·exact .inr (Nat.le_trans HZn.out.1.size h1)
       have NRY:Hid (NewN (w.heap.size+1+1) 0 (.slice none 0 0) (.slice none 0 0) Y):=NewN.below (B:=W0.heap.size) H0.out.2.2.2 HYB.out (lt_of_heap H0.out.2.2.2)
       have gne:gq≠w.heap.size+1+1:=by have:=R.out.new;have:=HZn.out.1.size;have:=H0.out.2.1;omega
       clear hR SHC GRC SY
       simp only [Act.put,List.setIfInBounds_toArray,List.set_cons_zero,List.set_cons_succ]
       go_wp2_with fail
       have CS:=Lib.hid (fun wz (h:Below Y.heap.size Y wz)=>l3Size_any 1000000 (graftB (shiftB p ns.length k0.args.length) q r) hsz (by unfold Lim;omega) _ wz _ _ _ _ _ _ _ _ (Reps.below (F':=fun i=>F i∨W0.heap.size≤i) h (fun _ h=>h) (HRY.out)))
       have HSZ:=Lib.hid (show sizeB (graftB (shiftB p ns.length k0.args.length) q r)≤1000000 from hsz)
       obtain ⟨SZ,hSZ⟩:∃ x,x=sizeB (graftB (shiftB p ns.length k0.args.length) q r):=⟨_,rfl⟩
       rw [← hSZ] at CS HSZ
       have HSE:=Lib.hid hSZ
       clear hSZ
       by_cases h200:SZ≤200
       ·have h1:decide (((SZ:Nat):Int)≤200)=true:=decide_eq_true (by omega)
        have HEE:=Lib.hid (show meanOf ns (.ite l m n)=some (graftB (shiftB p ns.length k0.args.length) q r) by rw [HE.out,small_of (by rw [← HSE.out];exact h200)])
        clear h200
        refine wp_region_noPanic ?_
        refine wp_region_S (fun w'=>w'.heap[gq]? = some (.cells #[str sr,.int .i64 vr,.slice ar nr cr,.slice br mr dr] 36 (0,0))) (fun _=>false) (by kernel_rfl) ?_
        have hSd:(fun w'=>w'.heap[gq]? = some (.cells #[str sr,.int .i64 vr,.slice ar nr cr,.slice br mr dr] 36 (0,0))) Y.drew:=gB
        refine tk [0,1] hSd ?_
        (intro d hd;simp [tkD] at hd;subst hd;simp only [tks,pQ,pZ,pS])
        iterate 2 (refine ⟨?_,?_,?_⟩;rotate_left;· (intro oi ho;simp at ho;subst ho;refine Or.inl ⟨by rfl,fun w' hw'=>?_⟩;obtain ⟨e0,e1,e2,e3⟩:=cells4 hw';go_simp;try with_reducible rfl))
        (refine on 2 ?_;intro o ho K' hK;simp at ho;subst ho;go_simp)
        go_at_call 19
        (with_reducible refine (CS.out _ (Below.drew (Below.refl Y.heap.size Y))).mono ?_)
        rintro en x1 ⟨rfl,hb⟩
        have HX1:Hid (Below Y.heap.size Y x1):=(Below.drew (Below.refl Y.heap.size Y)).trans hb
        clear hb
        (refine hK.out _ _ (fun _=>(HX1.out.block _ (lt_of_heap gB)).trans gB) ?_;clear hK K';try simp only [pQ,pN,pZ,pS])
        have hS2:=(HX1.out.block _ (lt_of_heap gB)).trans gB
        have NR2:Hid (NewN (w.heap.size+1+1) 0 (.slice none 0 0) (.slice none 0 0) x1):=NewN.below NRY.out HX1.out (lt_of_heap NRY.out)
        obtain ⟨rc0,rc1,rc2,rc3,_,rff⟩:=NR2.out.cells
        have rf0:=rff 0;have rf1:=rff 1;have rf2:=rff 2;have rf3:=rff 3
        clear rff
        refine tk [3] hS2 ?_
        (intro d hd;simp [tkD] at hd;subst hd;simp only [tks,pQ,pZ,pS])
        (refine ⟨?_,?_,?_⟩;rotate_left;· (intro oi ho;simp at ho;subst ho;refine Or.inl ⟨by rfl,fun w' hw'=>?_⟩;go_simp;try with_reducible rfl))
        (refine on 4 ?_;intro o ho K' hK;simp at ho;subst ho;go_simp)
        (refine hK.out _ _ (fun _=>heap4_set hS2 gne _ _ _ _) ?_;clear hK K';try simp only [pQ,pN,pZ,pS])
        (refine on 5 ?_;intro o ho K' hK;simp at ho;subst ho;go_simp)
        (refine hK.out _ _ (fun _=>heap4_set hS2 gne _ _ _ _) ?_;clear hK K';try simp only [pQ,pN,pZ,pS])
        refine wpAnyS_done (by kernel_rfl) (NoPanic.normal ?_) _
        go_wp2_with fail
        obtain ⟨W,hW,s0',s1',s2',s3',hbW,hkW⟩:=NewN.store (NR2.out) (str sr) (.int .i64 vr) (.slice ar nr cr) (.slice br mr dr)
        rw [← hW]
        refine bodyPost_ret (v:=.tuple #[.agg #[str sr,.int .i64 vr,.slice ar nr cr,.slice br mr dr],.bool true]) (by simp [results,Tryz.results10,go_sem,s0',s1',s2',s3']) rfl ?_
        rw [HEE.out]
        exact of_fin (o:=some (graftB (shiftB p ns.length k0.args.length) q r)) HP.out.1.old H0.out.1 H0.out.2.1 (HYB.out.trans (HX1.out.mono (HYB.out).size)) (fun x hx=>by obtain rfl:=Option.some.inj hx;exact Reps.below (F':=fun i=>F i∨W0.heap.size≤i) HX1.out (fun _ h=>h) (HRY.out)) hbW hkW
       ·have h1:decide (((SZ:Nat):Int)≤200)=false:=decide_eq_false (by omega)
        have HEE:=Lib.hid (show meanOf ns (.ite l m n)=none by rw [HE.out];unfold smallB;rw [if_neg (by rw [← HSE.out];exact h200)])
        clear h200
        refine wp_region_noPanic ?_
        refine wp_region_S (fun w'=>w'.heap[gq]? = some (.cells #[str sr,.int .i64 vr,.slice ar nr cr,.slice br mr dr] 36 (0,0))) (fun _=>false) (by kernel_rfl) ?_
        have hSd:(fun w'=>w'.heap[gq]? = some (.cells #[str sr,.int .i64 vr,.slice ar nr cr,.slice br mr dr] 36 (0,0))) Y.drew:=gB
        refine tk [0,1] hSd ?_
        (intro d hd;simp [tkD] at hd;subst hd;simp only [tks,pQ,pZ,pS])
        iterate 2 (refine ⟨?_,?_,?_⟩;rotate_left;· (intro oi ho;simp at ho;subst ho;refine Or.inl ⟨by rfl,fun w' hw'=>?_⟩;obtain ⟨e0,e1,e2,e3⟩:=cells4 hw';go_simp;try with_reducible rfl))
        (refine on 2 ?_;intro o ho K' hK;simp at ho;subst ho;go_simp)
        go_at_call 19
        (with_reducible refine (CS.out _ (Below.drew (Below.refl Y.heap.size Y))).mono ?_)
        rintro en x1 ⟨rfl,hb⟩
        have HX1:Hid (Below Y.heap.size Y x1):=(Below.drew (Below.refl Y.heap.size Y)).trans hb
        clear hb
        (refine hK.out _ _ (fun _=>(HX1.out.block _ (lt_of_heap gB)).trans gB) ?_;clear hK K';try simp only [pQ,pN,pZ,pS])
        have hS2:=(HX1.out.block _ (lt_of_heap gB)).trans gB
        have NR2:Hid (NewN (w.heap.size+1+1) 0 (.slice none 0 0) (.slice none 0 0) x1):=NewN.below NRY.out HX1.out (lt_of_heap NRY.out)
        obtain ⟨rc0,rc1,rc2,rc3,_,rff⟩:=NR2.out.cells
        have rf0:=rff 0;have rf1:=rff 1;have rf2:=rff 2;have rf3:=rff 3
        clear rff
        refine tk [3] hS2 ?_
        (intro d hd;simp [tkD] at hd;subst hd;simp only [tks,pQ,pZ,pS])
        (refine ⟨?_,?_,?_⟩;rotate_left;· (intro oi ho;simp at ho;subst ho;refine Or.inl ⟨by rfl,fun w' hw'=>?_⟩;go_simp;try with_reducible rfl))
        (refine on 4 ?_;intro o ho K' hK;simp at ho;subst ho;go_simp)
        (refine hK.out _ _ (fun _=>heap4_set hS2 gne _ _ _ _) ?_;clear hK K';try simp only [pQ,pN,pZ,pS])
        (refine on 5 ?_;intro o ho K' hK;simp at ho;subst ho;go_simp)
        (refine hK.out _ _ (fun _=>heap4_set hS2 gne _ _ _ _) ?_;clear hK K';try simp only [pQ,pN,pZ,pS])
        refine wpAnyS_done (by kernel_rfl) (NoPanic.normal ?_) _
        go_wp2_with fail
        obtain ⟨W,hW,s0',s1',s2',s3',hbW,hkW⟩:=NewN.store (NR2.out) (str sr) (.int .i64 vr) (.slice ar nr cr) (.slice br mr dr)
        rw [← hW]
        refine bodyPost_ret (v:=.tuple #[.agg #[str sr,.int .i64 vr,.slice ar nr cr,.slice br mr dr],.bool false]) (by simp [results,Tryz.results10,go_sem,s0',s1',s2',s3']) rfl ?_
        rw [HEE.out]
        exact of_fin (o:=none) HP.out.1.old H0.out.1 H0.out.2.1 (HYB.out.trans (HX1.out.mono (HYB.out).size)) (fun x hx=>by simp at hx) hbW hkW
theorem l5Of_any (M:Nat):OfSaid M:=by
 induction M with
 | zero=>exact fun F t ns k nv tv s pv w h=>by cases t <;> simp only [sizeTm] at h <;> omega
 | succ M ih =>
   intro F t ns k nv tv s pv w h hp hty
   cases t with
   | nm x=>exact of_nm F x ns k nv tv s pv w hp hty
   | wd u=>exact of_wd F u ns k nv tv s pv w hp hty
   | lam x k1 t=>exact of_lam M ih F x k1 t ns nv tv s pv w k h hp hty
   | app m n=>exact of_app M ih F m n ns nv tv s pv w k h hp hty
   | ite l m n=>exact of_ite M ih F l m n ns nv tv s pv w k h hp hty
end Go.Proofs.YtapjaflnmklmeaaGreatDoor

import Derived.Test.YtapjaflnmklmeaaGreatDoorS32
import Derived.Test.YtapjaflnmklmeaaGreatDoorS15
import Derived.Test.YtapjaflnmklmeaaGreatDoorP36
import Derived.Test.YtapjaflnmklmeaaGreatDoorP28
import Derived.Test.YtapjaflnmklmeaaGreatDoorT5
import Derived.Test.YtapjaflnmklmeaaGreatDoorT6
/- The walk of the reference's l5Kind. -/
set_option linter.unusedVariables false
set_option linter.unusedSimpArgs false
namespace Go.Proofs.YtapjaflnmklmeaaGreatDoor
open Go.RowKit
def KdPost (F:Nat→Prop) (w:World) (k:Ty) (q:Bool) (en:Ending) (w':World):Prop :=
 ∃ a c,en=.returned (.tuple #[.agg #[.slice a k.args.length c],.bool q])∧Below w.heap.size w w'∧Rep (fun i=>F i∨w.heap.size≤i) w' (encS k) (.slice a k.args.length c)
structure KdPre (F:Nat→Prop) (t:Tm) (ns:List Nm) (nv tv s pv:Value) (w:World):Prop where
 old:∀ i,F i→i<w.heap.size
 rt:Reps F w (encTr (trTm t)) [s,pv]
 rn:Rep F w (.sl 9 1 ns.length (ns.map fun p=>DV.val (str p.1))) nv
 rk:Rep F w (.sl 31 1 ns.length (encSs (kinds ns))) tv
 ok:okTm t
 sm:smallTm t=true
 nm:∀ p∈ns,nameB p.1=true
 n15:∀ a∈kinds ns,atomsT a≤15
 room:ns.length+sizeTm t≤100
def KdSaid (N:Nat):Prop:=∀ (F:Nat→Prop) (t:Tm) (ns:List Nm) (nv tv s pv:Value) (w:World),sizeTm t≤N→KdPre F t ns nv tv s pv w →
 Calls Tryz.prog 17 #[.agg #[nv,tv],.agg #[s,pv]] w (KdPost F w (kindR ns t).1 (kindR ns t).2)
theorem boxes3 (w:World) (A B C:Obj):Below w.heap.size w (((w.alloc A).alloc B).alloc C)∧(((w.alloc A).alloc B).alloc C).heap.size=w.heap.size+1+1+1∧(((w.alloc A).alloc B).alloc C).heap[w.heap.size]? = some A∧(((w.alloc A).alloc B).alloc C).heap[w.heap.size+1]? = some B∧(((w.alloc A).alloc B).alloc C).heap[w.heap.size+1+1]? = some C:=by
 refine ⟨(((Below.refl _ _).alloc (Nat.le_refl _) _).alloc (by rw [size_alloc];omega) _).alloc (by rw [size_alloc,size_alloc];omega) _,by rw [size_alloc,size_alloc,size_alloc],heap_past (heap_past (heap_new _ _)),?_,?_⟩
 ·have h:=heap_new (w.alloc A) B
  rw [size_alloc] at h
  exact heap_past h
 ·have h:=heap_new ((w.alloc A).alloc B) C
  rwa [size_alloc,size_alloc] at h
theorem kd_fin {F:Nat→Prop} {w W0 Z W:World} {k:Ty} {q:Bool} {a:Option Addr} {c:Nat} (hF:∀ i,F i→i<w.heap.size) (h0:Below w.heap.size w W0) (hz:W0.heap.size=w.heap.size+1+1+1) (hb:Below W0.heap.size W0 Z) (hr:Rep (fun i=>F i∨W0.heap.size≤i) Z (encS k) (.slice a k.args.length c))
 (hbW:∀ B w0,Below B w0 Z→B≤w.heap.size+1+1→Below B w0 W) (hkW:∀ i x,i≠w.heap.size+1+1→Z.heap[i]? = some x→W.heap[i]? = some x):KdPost F w k q (.returned (.tuple #[.agg #[.slice a k.args.length c],.bool q])) W :=
 ⟨a,c,rfl,hbW _ _ (h0.trans (hb.mono h0.size)) (by omega),(Rep.keep fun i x hi hx=>⟨hi.elim .inl (fun h=>.inr (by omega)),hkW i x (by rcases hi with h | h;have:=hF i h;omega;omega) hx⟩).1 _ _ hr⟩
theorem keep1_set {w:World} {b c o:Nat} {u v:Value} (h:w.cell? ⟨b,0,none⟩=some u) (hb:b≠c):(w.setCell ⟨c,o,none⟩ v).cell? ⟨b,0,none⟩=some u :=
 (World.cell?_of_block (Below.heap_setCell _ _ _ _ (by simpa using hb))).trans h
def FoundR (ns:List Nm) (x:Bs) (k:Nat):Prop:=findN ns x=findAt ns x k
set_option maxRecDepth 100000 in
set_option maxHeartbeats 4000000 in
theorem kd_nm (F:Nat→Prop) (x:Bs) (ns:List Nm) (nv tv s pv:Value) (w:World) (hp:KdPre F (.nm x) ns nv tv s pv w):Calls Tryz.prog 17 #[.agg #[nv,tv],.agg #[s,pv]] w (KdPost F w (kindR ns (.nm x)).1 (kindR ns (.nm x)).2):=by
 have hold:=hp.old
 obtain ⟨na,nc,rfl,_,_,hatN⟩:=Rep_sl1_open hp.rn
 obtain ⟨ka,kc,rfl,_,_,hatK⟩:=Rep_sl1_open hp.rk
 have hrt:=hp.rt
 rw [trTm] at hrt
 obtain ⟨qa,qc,e,hkids⟩:=encTr_open hrt
 simp only [atomTr,kidsTr,List.cons.injEq,and_true] at e hkids
 obtain ⟨rfl,rfl⟩:=e
 have hx0:x≠[]:=(name_sep hp.ok).1
 have hxt:(x == [116])=false:=by rw [beq_eq_false_iff_ne];rintro rfl;have h:=hp.ok;exact absurd (show nameB [116]=true from h) (by decide)
 have hxf:(x == [102])=false:=by rw [beq_eq_false_iff_ne];rintro rfl;have h:=hp.ok;exact absurd (show nameB [102]=true from h) (by decide)
 have hxu:(x == [117])=false:=by rw [beq_eq_false_iff_ne];rintro rfl;have h:=hp.ok;exact absurd (show nameB [117]=true from h) (by decide)
 obtain ⟨W0,hW0⟩:∃ W,W=((w.alloc (.cells #[.slice na ns.length nc,.slice ka ns.length kc] 41)).alloc (.cells #[str x,.slice qa 0 qc] 28)).alloc (.cells #[.slice none 0 0] 31):=⟨_,rfl⟩
 obtain ⟨hb0,z0,bA,bB,bC⟩:=boxes3 w (.cells #[.slice na ns.length nc,.slice ka ns.length kc] 41) (.cells #[str x,.slice qa 0 qc] 28) (.cells #[.slice none 0 0] 31)
 rw [← hW0] at hb0 z0 bA bB bC
 have e0:W0.cell? ⟨w.heap.size,0,none⟩=some (.slice na ns.length nc):=by simp [World.cell?,bA]
 have e1:W0.cell? ⟨w.heap.size,1,none⟩=some (.slice ka ns.length kc):=by simp [World.cell?,bA]
 have t0:W0.cell? ⟨w.heap.size+1,0,none⟩=some (str x):=by simp [World.cell?,bB]
 have H0:=Lib.hid (And.intro hb0 (And.intro z0 bC))
 have hne:(x != [])=true:=by rw [bne_iff_ne];exact hx0
 have hne1:(!x.isEmpty)=true:=by cases x with | nil=>exact absurd rfl hx0 | cons a b=>rfl
 have hne2:x.isEmpty=false:=by cases x with | nil=>exact absurd rfl hx0 | cons a b=>rfl
 have AN:=Lib.hid hatN
 have AK:=Lib.hid hatK
 have hnl:ns.length≤100:=by have:=hp.room;omega
 have HP:=Lib.hid hp
 clear hatN hatK hb0 z0 bA bB bC hp
 go_enter Tryz.func17,Tryz.ntmps17
 go_wp2_with fail
 rw [← hW0]
 clear hW0
 go_loopw [6] (fun i wz=>∃ (k:Nat) (wr:World),wr=wz∧k≤ns.length∧i=.int .i64 ((k:Int)-1)∧FoundR ns x k∧Below W0.heap.size W0 wr) (fun i _=>(intOf i+1).toNat)
 case atStart=>exact ⟨ns.length,_,rfl,Nat.le_refl _,rfl,rfl,Below.refl _ _⟩
 case round =>
  obtain ⟨k,wr,ewr,hk,rfl,hf,hbr⟩:=hrel
  subst ewr
  have e0':=(hbr.cell (World.block_lt_of_cell? W0 _ e0)).trans e0
  have e1':=(hbr.cell (World.block_lt_of_cell? W0 _ e1)).trans e1
  have t0':=(hbr.cell (World.block_lt_of_cell? W0 _ t0)).trans t0
  have BR:wr.heap[w.heap.size+1+1]? = some (.cells #[.slice none 0 0] 31 (0,0)):=(hbr.block _ (lt_of_heap H0.out.2.2)).trans H0.out.2.2
  have HBR:=Lib.hid BR
  have HB:=Lib.hid hbr
  have HB2:=Lib.hid (H0.out.1.trans (hbr.mono H0.out.1.size))
  have rf0:wr.frozen? ⟨w.heap.size+1+1,0,none⟩=false:=by simp only [World.frozen?,BR];rfl
  have rc0:wr.cell? ⟨w.heap.size+1+1,0,none⟩=some (.slice none 0 0):=by simp only [World.cell?,BR];rfl
  clear hbr e0 e1 t0 BR
  cases k with
  | zero =>
    have hz:((0:Nat):Int)-1 = -1:=rfl
    rw [hz]
    have HN:=Lib.hid (show findN ns x=none from hf)
    clear hf hz
    have HE:=Lib.hid (show kindR ns (.nm x)=(.mk [],false) by rw [kindR,HN.out];rfl)
    have rf1:wr.drew.frozen? ⟨w.heap.size+1+1,0,none⟩=false:=rf0
    have rc1:wr.drew.cell? ⟨w.heap.size+1+1,0,none⟩=some (.slice none 0 0):=rc0
    go_wp2_with fail
    refine wp_region_noPanic ?_
    refine wp_region_S (fun w'=>w'.cell? ⟨w.heap.size+1,0,none⟩=some (str x)) (fun _=>false) (by kernel_rfl) ?_
    have hSd:(fun w'=>w'.cell? ⟨w.heap.size+1,0,none⟩=some (str x)) wr.drew:=t0'
    refine tk [0,1,2,3,4,5,6,7,8,9,10,11,12,13] hSd ?_
    (intro d hd;simp [tkD] at hd;subst hd;simp only [tks,pQ,pZ,pS])
    iterate 14 (refine ⟨?_,?_,?_⟩;rotate_left;· (intro oi ho;simp at ho;subst ho;refine Or.inl ⟨by rfl,fun w' hw'=>?_⟩;have e2:=hw';go_simp;try with_reducible rfl))
    (refine on 14 ?_;intro o ho K' hK;simp at ho;subst ho;go_simp)
    (refine hK.out _ _ (fun _=>keep1_set hSd (by omega)) ?_;clear hK K';try simp only [pQ,pN,pZ,pS])
    (refine on 15 ?_;intro o ho K' hK;simp at ho;subst ho;go_simp)
    (refine hK.out _ _ (fun _=>keep1_set hSd (by omega)) ?_;clear hK K';try simp only [pQ,pN,pZ,pS])
    refine wpAnyS_done (by kernel_rfl) (NoPanic.normal ?_) _
    go_wp2_with fail
    obtain ⟨W,hW,s0,hbW,hkW⟩:=box1_store (HBR.out) (.slice none 0 0)
    rw [← hW]
    refine bodyPost_ret (v:=.tuple #[.agg #[.slice none 0 0],.bool false]) (by simp [results,Tryz.results17,go_sem,s0]) rfl ?_
    rw [HE.out]
    exact kd_fin (k:=.mk []) HP.out.old H0.out.1 H0.out.2.1 HB.out (Rep_sl.2 ⟨rfl,none,0,rfl,Nat.le_refl _,fun _=>rfl,.inl rfl⟩) (fun B w0 h hB=>(hbW B w0 h hB).drew) hkW
  | succ j =>
    have hj:j<ns.length:=by omega
    rw [show ((j+1:Nat):Int)-1=(j:Int) from by omega]
    obtain ⟨nb,no,nu,nd,e,_,hnw,hnd,hnc,hnr⟩:=AN.out j hj
    subst e
    rw [List.getElem?_map,Option.map_eq_some_iff] at hnd
    obtain ⟨⟨y,t⟩,hy,rfl⟩:=hnd
    rw [Rep_val] at hnr
    subst hnr
    have q0:wr.cell? ⟨nb,no+j,none⟩=some (str y):=(HB2.out.cell (p:=⟨nb,no+j,none⟩) hnw).trans hnc
    have hjI:(j:Int)<(ns.length:Int):=by omega
    have hstep:findAt ns x (j+1)=if y=x then some j else findAt ns x j:=by
     rw [findAt,hy];simp
    by_cases hyx:y=x
    ·subst hyx
     have q:(y == y)=true:=by simp
     have HS:=Lib.hid (show findN ns y=some j by rw [show findN ns y=findAt ns y (j+1) from hf,hstep,if_pos rfl])
     obtain ⟨kb,ko,ku,kd,e,_,hkw,hkd,hkc,hkr⟩:=AK.out j hj
     subst e
     rw [encSs_at,Option.map_eq_some_iff] at hkd
     obtain ⟨t2,ht2,rfl⟩:=hkd
     have et:t2=t:=by rw [kinds_at hy] at ht2;exact (Option.some.inj ht2).symm
     subst et
     obtain ⟨xa,xc,rfl⟩:=encS_slice hkr
     have q1:wr.cell? ⟨kb,ko+j,none⟩=some (.slice xa t2.args.length xc):=(HB2.out.cell (p:=⟨kb,ko+j,none⟩) hkw).trans hkc
     have HK:=Lib.hid hkr
     have HE:=Lib.hid (show kindR ns (.nm y)=(t2,true) by rw [kindR,HS.out,Option.bind_some,hy];rfl)
     clear hf hstep hy hnc hkc hkr ht2
     go_wp2_with fail
     go_region
     go_wp2_with fail
     obtain ⟨W,hW,s0,hbW,hkW⟩:=box1_store (HBR.out) (.slice xa t2.args.length xc)
     rw [← hW]
     refine bodyPost_ret (v:=.tuple #[.agg #[.slice xa t2.args.length xc],.bool true]) (by simp [results,Tryz.results17,go_sem,s0]) rfl ?_
     rw [HE.out]
     exact kd_fin HP.out.old H0.out.1 H0.out.2.1 HB.out (Rep.below HB2.out (fun _ h=>.inl h) HK.out) (fun B w0 h hB=>(hbW B w0 h hB).drew) hkW
    ·have q:(y == x)=false:=by rw [beq_eq_false_iff_ne];exact hyx
     have HS:=Lib.hid (show findN ns x=findAt ns x j by rw [show findN ns x=findAt ns x (j+1) from hf,hstep,if_neg hyx])
     clear hf hstep hy hyx hnc
     go_wp2_with fail
     go_region
     go_wp2_with fail
     go_round
     case rel=>exact ⟨j,_,rfl,by omega,by go_num,HS.out,HB.out.drew⟩
     case measure=>simp only [intOf];omega
set_option maxRecDepth 100000 in
set_option maxHeartbeats 4000000 in
theorem kd_wd (F:Nat→Prop) (x:Bs) (ns:List Nm) (nv tv s pv:Value) (w:World) (hp:KdPre F (.wd x) ns nv tv s pv w):Calls Tryz.prog 17 #[.agg #[nv,tv],.agg #[s,pv]] w (KdPost F w (kindR ns (.wd x)).1 (kindR ns (.wd x)).2):=by
 have hold:=hp.old
 obtain ⟨na,nc,rfl,_,_,hatN⟩:=Rep_sl1_open hp.rn
 obtain ⟨ka,kc,rfl,_,_,hatK⟩:=Rep_sl1_open hp.rk
 have hrt:=hp.rt
 rw [trTm] at hrt
 obtain ⟨qa,qc,e,hkids⟩:=encTr_open hrt
 simp only [atomTr,kidsTr,List.cons.injEq,and_true] at e hkids
 obtain ⟨rfl,rfl⟩:=e
 have hx0:x≠[]:=(leaf_sep hp.ok).1
 have hl3:x=[116]∨x=[102]∨x=[117]:=by
  have h:leafW x=true:=hp.ok
  simp only [leafW,Bool.or_eq_true,beq_iff_eq] at h
  rcases h with (h | h) | h
  ·exact .inl h
  ·exact .inr (.inl h)
  ·exact .inr (.inr h)
 obtain ⟨W0,hW0⟩:∃ W,W=((w.alloc (.cells #[.slice na ns.length nc,.slice ka ns.length kc] 41)).alloc (.cells #[str x,.slice qa 0 qc] 28)).alloc (.cells #[.slice none 0 0] 31):=⟨_,rfl⟩
 obtain ⟨hb0,z0,bA,bB,bC⟩:=boxes3 w (.cells #[.slice na ns.length nc,.slice ka ns.length kc] 41) (.cells #[str x,.slice qa 0 qc] 28) (.cells #[.slice none 0 0] 31)
 rw [← hW0] at hb0 z0 bA bB bC
 have e0:W0.cell? ⟨w.heap.size,0,none⟩=some (.slice na ns.length nc):=by simp [World.cell?,bA]
 have e1:W0.cell? ⟨w.heap.size,1,none⟩=some (.slice ka ns.length kc):=by simp [World.cell?,bA]
 have t0:W0.cell? ⟨w.heap.size+1,0,none⟩=some (str x):=by simp [World.cell?,bB]
 have H0:=Lib.hid (And.intro hb0 (And.intro z0 bC))
 have hne:(x != [])=true:=by rw [bne_iff_ne];exact hx0
 have hne1:(!x.isEmpty)=true:=by cases x with | nil=>exact absurd rfl hx0 | cons a b=>rfl
 have hne2:x.isEmpty=false:=by cases x with | nil=>exact absurd rfl hx0 | cons a b=>rfl
 have AN:=Lib.hid hatN
 have AK:=Lib.hid hatK
 have hnl:ns.length≤100:=by have:=hp.room;omega
 have HP:=Lib.hid hp
 clear hatN hatK hb0 z0 bA bB bC hp
 go_enter Tryz.func17,Tryz.ntmps17
 go_wp2_with fail
 rw [← hW0]
 clear hW0
 go_loopw [6] (fun i wz=>∃ (k:Nat) (wr:World),wr=wz∧k≤ns.length∧i=.int .i64 ((k:Int)-1)∧FoundR ns x k∧Below W0.heap.size W0 wr) (fun i _=>(intOf i+1).toNat)
 case atStart=>exact ⟨ns.length,_,rfl,Nat.le_refl _,rfl,rfl,Below.refl _ _⟩
 case round =>
  obtain ⟨k,wr,ewr,hk,rfl,hf,hbr⟩:=hrel
  subst ewr
  have e0':=(hbr.cell (World.block_lt_of_cell? W0 _ e0)).trans e0
  have e1':=(hbr.cell (World.block_lt_of_cell? W0 _ e1)).trans e1
  have t0':=(hbr.cell (World.block_lt_of_cell? W0 _ t0)).trans t0
  have BR:wr.heap[w.heap.size+1+1]? = some (.cells #[.slice none 0 0] 31 (0,0)):=(hbr.block _ (lt_of_heap H0.out.2.2)).trans H0.out.2.2
  have HBR:=Lib.hid BR
  have HB:=Lib.hid hbr
  have HB2:=Lib.hid (H0.out.1.trans (hbr.mono H0.out.1.size))
  have rf0:wr.frozen? ⟨w.heap.size+1+1,0,none⟩=false:=by simp only [World.frozen?,BR];rfl
  have rc0:wr.cell? ⟨w.heap.size+1+1,0,none⟩=some (.slice none 0 0):=by simp only [World.cell?,BR];rfl
  clear hbr e0 e1 t0 BR
  cases k with
  | zero =>
    have hz:((0:Nat):Int)-1 = -1:=rfl
    rw [hz]
    have HN:=Lib.hid (show findN ns x=none from hf)
    clear hf hz
    have HE:=Lib.hid (show kindR ns (.wd x)=(.mk [],true) by rw [kindR])
    clear hx0 hne hne1 hne2 HN
    rcases hl3 with rfl | rfl | rfl
    ·have rf1:wr.drew.frozen? ⟨w.heap.size+1+1,0,none⟩=false:=rf0
     have rc1:wr.drew.cell? ⟨w.heap.size+1+1,0,none⟩=some (.slice none 0 0):=rc0
     go_wp2_with fail
     refine wp_region_noPanic ?_
     refine wp_region_S (fun w'=>w'.cell? ⟨w.heap.size+1,0,none⟩=some (str [116])) (fun _=>false) (by kernel_rfl) ?_
     have hSd:(fun w'=>w'.cell? ⟨w.heap.size+1,0,none⟩=some (str [116])) wr.drew:=t0'
     refine tk [0,1,2,3,4,5,6,7,8,9,10,11,12,13] hSd ?_
     (intro d hd;simp [tkD] at hd;subst hd;simp only [tks,pQ,pZ,pS])
     iterate 14 (refine ⟨?_,?_,?_⟩;rotate_left;· (intro oi ho;simp at ho;subst ho;first | (refine Or.inr ⟨by rfl,?_⟩;with_reducible rfl) | (refine Or.inl ⟨by rfl,fun w' hw'=>?_⟩;have e2:=hw';go_simp;try with_reducible rfl)))
     (refine on 14 ?_;intro o ho K' hK;simp at ho;subst ho;go_simp)
     (refine hK.out _ _ (fun _=>keep1_set hSd (by omega)) ?_;clear hK K';try simp only [pQ,pN,pZ,pS])
     (refine on 15 ?_;intro o ho K' hK;simp at ho;subst ho;go_simp)
     (refine hK.out _ _ (fun _=>keep1_set hSd (by omega)) ?_;clear hK K';try simp only [pQ,pN,pZ,pS])
     refine wpAnyS_done (by kernel_rfl) (NoPanic.normal ?_) _
     go_wp2_with fail
     obtain ⟨W,hW,s0,hbW,hkW⟩:=box1_store (HBR.out) (.slice none 0 0)
     rw [← hW]
     refine bodyPost_ret (v:=.tuple #[.agg #[.slice none 0 0],.bool true]) (by simp [results,Tryz.results17,go_sem,s0]) rfl ?_
     rw [HE.out]
     exact kd_fin (k:=.mk []) HP.out.old H0.out.1 H0.out.2.1 HB.out (Rep_sl.2 ⟨rfl,none,0,rfl,Nat.le_refl _,fun _=>rfl,.inl rfl⟩) (fun B w0 h hB=>(hbW B w0 h hB).drew) hkW
    ·have rf1:wr.drew.frozen? ⟨w.heap.size+1+1,0,none⟩=false:=rf0
     have rc1:wr.drew.cell? ⟨w.heap.size+1+1,0,none⟩=some (.slice none 0 0):=rc0
     go_wp2_with fail
     refine wp_region_noPanic ?_
     refine wp_region_S (fun w'=>w'.cell? ⟨w.heap.size+1,0,none⟩=some (str [102])) (fun _=>false) (by kernel_rfl) ?_
     have hSd:(fun w'=>w'.cell? ⟨w.heap.size+1,0,none⟩=some (str [102])) wr.drew:=t0'
     refine tk [0,1,2,3,4,5,6,7,8,9,10,11,12,13] hSd ?_
     (intro d hd;simp [tkD] at hd;subst hd;simp only [tks,pQ,pZ,pS])
     iterate 14 (refine ⟨?_,?_,?_⟩;rotate_left;· (intro oi ho;simp at ho;subst ho;first | (refine Or.inr ⟨by rfl,?_⟩;with_reducible rfl) | (refine Or.inl ⟨by rfl,fun w' hw'=>?_⟩;have e2:=hw';go_simp;try with_reducible rfl)))
     (refine on 14 ?_;intro o ho K' hK;simp at ho;subst ho;go_simp)
     (refine hK.out _ _ (fun _=>keep1_set hSd (by omega)) ?_;clear hK K';try simp only [pQ,pN,pZ,pS])
     (refine on 15 ?_;intro o ho K' hK;simp at ho;subst ho;go_simp)
     (refine hK.out _ _ (fun _=>keep1_set hSd (by omega)) ?_;clear hK K';try simp only [pQ,pN,pZ,pS])
     refine wpAnyS_done (by kernel_rfl) (NoPanic.normal ?_) _
     go_wp2_with fail
     obtain ⟨W,hW,s0,hbW,hkW⟩:=box1_store (HBR.out) (.slice none 0 0)
     rw [← hW]
     refine bodyPost_ret (v:=.tuple #[.agg #[.slice none 0 0],.bool true]) (by simp [results,Tryz.results17,go_sem,s0]) rfl ?_
     rw [HE.out]
     exact kd_fin (k:=.mk []) HP.out.old H0.out.1 H0.out.2.1 HB.out (Rep_sl.2 ⟨rfl,none,0,rfl,Nat.le_refl _,fun _=>rfl,.inl rfl⟩) (fun B w0 h hB=>(hbW B w0 h hB).drew) hkW
    ·have rf1:wr.drew.frozen? ⟨w.heap.size+1+1,0,none⟩=false:=rf0
     have rc1:wr.drew.cell? ⟨w.heap.size+1+1,0,none⟩=some (.slice none 0 0):=rc0
     go_wp2_with fail
     refine wp_region_noPanic ?_
     refine wp_region_S (fun w'=>w'.cell? ⟨w.heap.size+1,0,none⟩=some (str [117])) (fun _=>false) (by kernel_rfl) ?_
     have hSd:(fun w'=>w'.cell? ⟨w.heap.size+1,0,none⟩=some (str [117])) wr.drew:=t0'
     refine tk [0,1,2,3,4,5,6,7,8,9,10,11,12,13] hSd ?_
     (intro d hd;simp [tkD] at hd;subst hd;simp only [tks,pQ,pZ,pS])
     iterate 14 (refine ⟨?_,?_,?_⟩;rotate_left;· (intro oi ho;simp at ho;subst ho;refine Or.inl ⟨by rfl,fun w' hw'=>?_⟩;have e2:=hw';go_simp;try with_reducible rfl))
     (refine on 14 ?_;intro o ho K' hK;simp at ho;subst ho;go_simp)
     (refine hK.out _ _ (fun _=>keep1_set hSd (by omega)) ?_;clear hK K';try simp only [pQ,pN,pZ,pS])
     (refine on 15 ?_;intro o ho K' hK;simp at ho;subst ho;go_simp)
     (refine hK.out _ _ (fun _=>keep1_set hSd (by omega)) ?_;clear hK K';try simp only [pQ,pN,pZ,pS])
     refine wpAnyS_done (by kernel_rfl) (NoPanic.normal ?_) _
     go_wp2_with fail
     obtain ⟨W,hW,s0,hbW,hkW⟩:=box1_store (HBR.out) (.slice none 0 0)
     rw [← hW]
     refine bodyPost_ret (v:=.tuple #[.agg #[.slice none 0 0],.bool true]) (by simp [results,Tryz.results17,go_sem,s0]) rfl ?_
     rw [HE.out]
     exact kd_fin (k:=.mk []) HP.out.old H0.out.1 H0.out.2.1 HB.out (Rep_sl.2 ⟨rfl,none,0,rfl,Nat.le_refl _,fun _=>rfl,.inl rfl⟩) (fun B w0 h hB=>(hbW B w0 h hB).drew) hkW
  | succ j =>
    have hj:j<ns.length:=by omega
    rw [show ((j+1:Nat):Int)-1=(j:Int) from by omega]
    obtain ⟨nb,no,nu,nd,e,_,hnw,hnd,hnc,hnr⟩:=AN.out j hj
    subst e
    rw [List.getElem?_map,Option.map_eq_some_iff] at hnd
    obtain ⟨⟨y,t⟩,hy,rfl⟩:=hnd
    rw [Rep_val] at hnr
    subst hnr
    have q0:wr.cell? ⟨nb,no+j,none⟩=some (str y):=(HB2.out.cell (p:=⟨nb,no+j,none⟩) hnw).trans hnc
    have hjI:(j:Int)<(ns.length:Int):=by omega
    have hstep:findAt ns x (j+1)=if y=x then some j else findAt ns x j:=by
     rw [findAt,hy];simp
    have hyx:y≠x:=by
     rintro rfl
     have h1:=HP.out.nm (y,t) (List.mem_of_getElem? hy)
     have h2:=name_leaf (show leafW y=true from HP.out.ok)
     rw [show nameB y=true from h1] at h2;exact absurd h2 (by decide)
    have q:(y == x)=false:=by rw [beq_eq_false_iff_ne];exact hyx
    have HS:=Lib.hid (show findN ns x=findAt ns x j by rw [show findN ns x=findAt ns x (j+1) from hf,hstep,if_neg hyx])
    clear hf hstep hy hyx hnc
    go_wp2_with fail
    go_region
    go_wp2_with fail
    go_round
    case rel=>exact ⟨j,_,rfl,by omega,by go_num,HS.out,HB.out.drew⟩
    case measure=>simp only [intOf];omega
end Go.Proofs.YtapjaflnmklmeaaGreatDoor
namespace Go.Proofs.YtapjaflnmklmeaaGreatDoor
open Go.RowKit
theorem Reps.get1 {F:Nat→Prop} {w:World} {d:DV} {v:Value} (h:Reps F w [d] [v]):Rep F w d v:=by
 obtain ⟨_,_,e,h1,_⟩:=Reps_cons.1 h
 simp only [List.cons.injEq] at e
 rw [e.1];exact h1
theorem Rep_sl1_tailR {F:Nat→Prop} {w:World} {e:TypeId} {n b o cap:Nat} {d:DV} {ds:List DV} (h:Rep F w (.sl e 1 (n+1) (d::ds)) (.slice (some ⟨b,o,none⟩) (n+1) cap)) :
 Rep F w (.sl e 1 n ds) (.slice (some ⟨b,o+1,none⟩) n (cap-1)):=by
 rw [Rep_sl] at h ⊢
 obtain ⟨hl,a,c,e1,hn,hz,h⟩:=h
 simp only [Value.slice.injEq] at e1
 obtain ⟨rfl,_,rfl⟩:=e1
 refine ⟨by simpa using hl,_,_,rfl,by omega,fun h=>by simp at h,.inr ?_⟩
 rcases h with h0 | ⟨b',o',cs,fr,e2,hb,hcs,hr⟩
 ·omega
 simp only [Option.some.injEq,Addr.mk.injEq,and_true] at e2
 obtain ⟨rfl,rfl⟩:=e2
 refine ⟨_,_,cs,fr,rfl,hb,hcs,?_⟩
 have h2:=hr
 rw [Reps_cons] at h2
 obtain ⟨v,vs,e3,_,h4⟩:=h2
 have:vs=List.take (n*1) (List.drop (o+1) cs.toList):=by
  have h5:=congrArg (List.drop 1) e3
  rw [List.drop_take,List.drop_drop] at h5
  simpa using h5.symm
 rw [← this];exact h4
theorem encS_tail {F:Nat→Prop} {w:World} {c:Ty} {cs:List Ty} {b o cap:Nat} (h:Rep F w (.sl 31 1 (cs.length+1) (encSs (c::cs))) (.slice (some ⟨b,o,none⟩) (cs.length+1) cap)):Rep F w (encS (.mk cs)) (.slice (some ⟨b,o+1,none⟩) cs.length (cap-1)):=by
 rw [encS_eq]
 exact Rep_sl1_tailR (d:=encS c) h
set_option maxRecDepth 100000 in
set_option maxHeartbeats 4000000 in
theorem kd_app (N:Nat) (ih:KdSaid N) (F:Nat→Prop) (m n:Tm) (ns:List Nm) (nv tv s pv:Value) (w:World) (hN:sizeTm (.app m n)≤N+1) (hp:KdPre F (.app m n) ns nv tv s pv w):Calls Tryz.prog 17 #[.agg #[nv,tv],.agg #[s,pv]] w (KdPost F w (kindR ns (.app m n)).1 (kindR ns (.app m n)).2):=by
 have hold:=hp.old
 obtain ⟨na,nc,rfl,_,_,hatN⟩:=Rep_sl1_open hp.rn
 obtain ⟨ka,kc,rfl,_,_,hatK⟩:=Rep_sl1_open hp.rk
 have hrt:=hp.rt
 rw [trTm] at hrt
 obtain ⟨qa,qc,e,hkids⟩:=encTr_open hrt
 simp only [atomTr,kidsTr,List.cons.injEq,and_true] at e hkids
 obtain ⟨rfl,rfl⟩:=e
 obtain ⟨_,_,e,hat⟩:=AtTrs.of hkids
 simp only [Value.slice.injEq,true_and] at e
 obtain ⟨rfl,rfl⟩:=e
 obtain ⟨pb1,po1,s1,a1,n1,c1,d1,pe1,pw1,pq1,pc1,pd1,pr1,ps1,pn1⟩:=hat 1 (by simp)
 simp only [List.getElem?_cons_zero,List.getElem?_cons_succ,Option.some.injEq] at pq1
 subst pq1
 subst pe1
 obtain ⟨pb2,po2,s2,a2,n2,c2,d2,pe2,pw2,pq2,pc2,pd2,pr2,ps2,pn2⟩:=hat 2 (by simp)
 simp only [List.getElem?_cons_zero,List.getElem?_cons_succ,Option.some.injEq] at pq2
 subst pq2
 simp only [Option.some.injEq,Addr.mk.injEq,and_true] at pe2
 obtain ⟨rfl,rfl⟩:=pe2
 have hroom:=hp.room
 have hok:=hp.ok
 have hsm:=hp.sm
 rw [sizeTm] at hroom hN
 rw [smallTm] at hsm
 simp only [Bool.and_eq_true] at hsm
 obtain ⟨W0,hW0⟩:∃ W,W=((w.alloc (.cells #[.slice na ns.length nc,.slice ka ns.length kc] 41)).alloc (.cells #[str [],.slice (some ⟨pb1,po1,none⟩) 3 qc] 28)).alloc (.cells #[.slice none 0 0] 31):=⟨_,rfl⟩
 obtain ⟨hb0,z0,bA,bB,bC⟩:=boxes3 w (.cells #[.slice na ns.length nc,.slice ka ns.length kc] 41) (.cells #[str [],.slice (some ⟨pb1,po1,none⟩) 3 qc] 28) (.cells #[.slice none 0 0] 31)
 rw [← hW0] at hb0 z0 bA bB bC
 have CH:=Lib.hid (show Calls Tryz.prog 20 #[.agg #[str [],.slice (some ⟨pb1,po1,none⟩) 3 qc]] W0 (fun en w'=>en=.returned (str (headW (trTm (.app m n))))∧Below W0.heap.size W0 w') from l5Head_any (trTm (.app m n)) (okTr_Tm _ hp.ok) F W0 _ _ (Reps.below hb0 (fun _ h=>h) hp.rt))
 have hHW:headW (trTm (.app m n))=[97,112,112]:=by rw [trTm];rfl
 rw [hHW] at CH
 have H0:=Lib.hid (And.intro hb0 (And.intro z0 (And.intro bA bC)))
 obtain ⟨km,qm,hkm⟩:∃ k q,kindR ns m=(k,q):=⟨_,_,rfl⟩
 have Cm:Hid (∀ wz,Below w.heap.size w wz→Calls Tryz.prog 17 #[.agg #[.slice na ns.length nc,.slice ka ns.length kc],.agg #[str s1,.slice a1 n1 c1]] wz (KdPost F wz km qm)):=by
  show ∀ wz,_→_
  intro wz hz
  have h:=ih F m ns _ _ _ _ wz (by omega) ⟨fun i h=>Nat.lt_of_lt_of_le (hp.old i h) hz.size,Reps.below hz (fun _ h=>h) pr1,Rep.below hz (fun _ h=>h) hp.rn,Rep.below hz (fun _ h=>h) hp.rk,hok.1,hsm.1,hp.nm,hp.n15,by omega⟩
  rw [hkm] at h
  exact h
 obtain ⟨kn,qn,hkn⟩:∃ k q,kindR ns n=(k,q):=⟨_,_,rfl⟩
 have Cn:Hid (∀ wz,Below w.heap.size w wz→Calls Tryz.prog 17 #[.agg #[.slice na ns.length nc,.slice ka ns.length kc],.agg #[str s2,.slice a2 n2 c2]] wz (KdPost F wz kn qn)):=by
  show ∀ wz,_→_
  intro wz hz
  have h:=ih F n ns _ _ _ _ wz (by omega) ⟨fun i h=>Nat.lt_of_lt_of_le (hp.old i h) hz.size,Reps.below hz (fun _ h=>h) pr2,Rep.below hz (fun _ h=>h) hp.rn,Rep.below hz (fun _ h=>h) hp.rk,hok.2,hsm.2,hp.nm,hp.n15,by omega⟩
  rw [hkn] at h
  exact h
 have e0:W0.cell? ⟨w.heap.size,0,none⟩=some (.slice na ns.length nc):=by simp [World.cell?,bA]
 have e1:W0.cell? ⟨w.heap.size,1,none⟩=some (.slice ka ns.length kc):=by simp [World.cell?,bA]
 have SX:Hid (∀ w',Below W0.heap.size W0 w'→w'.cell? ⟨w.heap.size,0,none⟩=some (.slice na ns.length nc)∧w'.cell? ⟨w.heap.size,1,none⟩=some (.slice ka ns.length kc)∧w'.cell? ⟨pb1,po1+2,none⟩=some (str s1)∧w'.cell? ⟨pb1,po1+3,none⟩=some (.slice a1 n1 c1)∧w'.cell? ⟨pb1,po1+4,none⟩=some (str s2)∧w'.cell? ⟨pb1,po1+5,none⟩=some (.slice a2 n2 c2)):=by
  show ∀ w',_→_
  intro w' hb'
  have hb0':=hb0.trans (hb'.mono hb0.size)
  exact ⟨(hb'.cell (World.block_lt_of_cell? W0 _ e0)).trans e0,(hb'.cell (World.block_lt_of_cell? W0 _ e1)).trans e1,(hb0'.cell (p:=⟨pb1,po1+2,none⟩) pw1).trans pc1,(hb0'.cell (p:=⟨pb1,po1+3,none⟩) pw1).trans pd1,(hb0'.cell (p:=⟨pb1,po1+4,none⟩) pw1).trans pc2,(hb0'.cell (p:=⟨pb1,po1+5,none⟩) pw1).trans pd2⟩
 have HP:=Lib.hid (And.intro hp (And.intro hok hsm))
 clear hatN hatK hkids hat hrt hp hok hsm ih hN hb0 z0 bA bB bC e0 e1 pr1 pc1 pd1 ps1 pn1 pr2 pc2 pd2 ps2 pn2
 clear pw1
 clear pw2
 go_enter Tryz.func17,Tryz.ntmps17
 go_wp2_with fail
 rw [← hW0]
 clear hW0
 (with_reducible refine CH.out.mono ?_)
 rintro en w1 ⟨rfl,hb1⟩
 have H1:=Lib.hid (And.intro hb1 (H0.out.1.trans (hb1.mono H0.out.1.size)))
 clear hb1 CH
 go_wp2_with fail
 have HLm:=H1
 have CRm:=Lib.hid (fun wz (hz:Below w1.heap.size w1 wz)=>Cm.out wz (H1.out.2.trans (hz.mono (H1.out.2).size)))
 have hFm:Hid (∀ i,F i→i<w1.heap.size):=fun i h=>Nat.lt_of_lt_of_le (HP.out.1.old i h) (H1.out.2).size
 refine cut_code (X:=Nat×Option Addr×Nat) (fun a x=>((((((((((a.put (some 105) (.agg #[.slice na ns.length nc,.slice ka ns.length kc])).put (some 106) (.slice (some ⟨pb1,po1,none⟩) 3 qc)).put (some 107) (.pointer (some ⟨pb1,po1+2,none⟩))).put (some 108) (.agg #[str s1,.slice a1 n1 c1])).put (some 109) (.tuple #[.agg #[.slice x.2.1 km.args.length x.2.2],.bool qm])).put (some 104) (.tuple #[.agg #[.slice x.2.1 km.args.length x.2.2],.bool qm])).put (some 110) (.agg #[.slice x.2.1 km.args.length x.2.2])).put (some 111) (.bool qm)).put (some 13) (.pointer (some ⟨x.1,0,none⟩))).put (some 14) (.bool qm))) (fun x w'=>BoxRes F w1 x.1 (.cells #[.slice x.2.1 km.args.length x.2.2] 31 (0,0)) [encS km] [.slice x.2.1 km.args.length x.2.2] w') ?_ ?_
 ·refine wp_region_noPanic ?_
  refine wp_region_S (fun w'=>Below w1.heap.size w1 w') (fun _=>false) (by kernel_rfl) ?_
  have hSd:(fun w'=>Below w1.heap.size w1 w') w1.drew:=Below.drew (Below.refl _ _)
  refine tk [0,1,2,3] hSd ?_
  (intro d hd;simp [tkD] at hd;subst hd;simp only [tks,pQ,pZ,pS])
  iterate 4 (refine ⟨?_,?_,?_⟩;rotate_left;· (intro oi ho;simp at ho;subst ho;refine Or.inl ⟨by rfl,fun w' hw'=>?_⟩;obtain ⟨e0,e1,f1,h1,f2,h2⟩:=SX.out w' (H1.out.1.trans (hw'.mono (H1.out.1).size));go_simp;try with_reducible rfl))
  refine wpAnyS_two 4 8 (by kernel_rfl) ?_ ?_
  ·(intro o4 ho K' hK;simp at ho;subst ho)
   go_simp
   go_at_call 17
   (with_reducible refine (CRm.out w1.drew hSd).mono ?_)
   rintro en y1 ⟨xx,yy,rfl,hb,hr⟩
   have hY1:Below w1.heap.size w1 y1:=hSd.trans hb
   (refine hK.out _ _ (fun _=>hY1) ?_;clear hK K';try simp only [pQ,pN,pZ,pS])
   refine tk [5,6,7] hY1 ?_
   (intro d hd;simp [tkD] at hd;subst hd;simp only [tks,pQ,pZ,pS])
   iterate 3 (refine ⟨?_,?_,?_⟩;rotate_left;· (intro oi ho;simp at ho;subst ho;refine Or.inl ⟨by rfl,fun w' hw'=>?_⟩;go_simp;try with_reducible rfl))
   (refine on 8 ?_;intro o ho K' hK;simp at ho;subst ho;go_simp)
   (refine hK.out _ _ (fun _=>hY1.alloc (hY1).size _) ?_;clear hK K';try simp only [pQ,pN,pZ,pS])
   have bz:(y1.alloc (.cells #[.slice none 0 0] 31)).heap[y1.heap.size]? = some (.cells #[.slice none 0 0] 31 (0,0)):=heap_new _ _
   have zc0:=(show _=some _ from by simp only [World.cell?,bz];rfl:(y1.alloc (.cells #[.slice none 0 0] 31)).cell? ⟨y1.heap.size,0,none⟩=some (.slice none 0 0))
   have zf0:(y1.alloc (.cells #[.slice none 0 0] 31)).frozen? ⟨y1.heap.size,0,none⟩=false:=by simp only [World.frozen?,bz];rfl
   (refine on 9 ?_;intro o ho K' hK;simp at ho;subst ho;go_simp)
   (refine hK.out _ _ (fun _=>hY1.alloc hY1.size _) ?_;clear hK K';try simp only [pQ,pN,pZ,pS])
   (refine on 10 ?_;intro o ho K' hK;simp at ho;subst ho;go_simp)
   (refine hK.out _ _ (fun _=>hY1.alloc hY1.size _) ?_;clear hK K';try simp only [pQ,pN,pZ,pS])
   refine wpAnyS_done (by kernel_rfl) (NoPanic.normal ?_) _
   exact ⟨rfl,⟨y1.heap.size,xx,yy⟩,by rfl,BoxRes.fresh hY1 (Reps.one hr)⟩
  ·(intro o8 ho K' hK;simp at ho;subst ho)
   go_simp
   (refine hK.out _ _ (fun _=>hSd.alloc (Nat.le_refl _) _) ?_;clear hK K';try simp only [pQ,pN,pZ,pS])
   (refine on 4 ?_;intro o ho K' hK;simp at ho;subst ho;go_simp)
   go_at_call 17
   have hY0:Below w1.heap.size w1 (w1.alloc (.cells #[.slice none 0 0] 31)).drew:=hSd.alloc (Nat.le_refl _) _
   (with_reducible refine (CRm.out _ hY0).mono ?_)
   rintro en y1 ⟨xx,yy,rfl,hb,hr⟩
   have hY1:Below w1.heap.size w1 y1:=hY0.trans (hb.mono hY0.size)
   (refine hK.out _ _ (fun _=>hY1) ?_;clear hK K';try simp only [pQ,pN,pZ,pS])
   refine tk [5,6,7] hY1 ?_
   (intro d hd;simp [tkD] at hd;subst hd;simp only [tks,pQ,pZ,pS])
   iterate 3 (refine ⟨?_,?_,?_⟩;rotate_left;· (intro oi ho;simp at ho;subst ho;refine Or.inl ⟨by rfl,fun w' hw'=>?_⟩;go_simp;try with_reducible rfl))
   have bz:y1.heap[w1.heap.size]? = some (.cells #[.slice none 0 0] 31 (0,0)):=(hb.block _ (show _<_ from by simp)).trans (heap_new w1 (.cells #[.slice none 0 0] 31))
   have zc0:=(show _=some _ from by simp only [World.cell?,bz];rfl:(y1).cell? ⟨w1.heap.size,0,none⟩=some (.slice none 0 0))
   have zf0:(y1).frozen? ⟨w1.heap.size,0,none⟩=false:=by simp only [World.frozen?,bz];rfl
   (refine on 9 ?_;intro o ho K' hK;simp at ho;subst ho;go_simp)
   (refine hK.out _ _ (fun _=>(hY1.setCell (p:=⟨w1.heap.size,0,none⟩) (Nat.le_refl _) _)) ?_;clear hK K';try simp only [pQ,pN,pZ,pS])
   (refine on 10 ?_;intro o ho K' hK;simp at ho;subst ho;go_simp)
   (refine hK.out _ _ (fun _=>(hY1.setCell (p:=⟨w1.heap.size,0,none⟩) (Nat.le_refl _) _)) ?_;clear hK K';try simp only [pQ,pN,pZ,pS])
   refine wpAnyS_done (by kernel_rfl) (NoPanic.normal ?_) _
   exact ⟨rfl,⟨w1.heap.size,xx,yy⟩,by rfl,BoxRes.first hFm.out hY0 (by simp) hb (Reps.one hr) (but1 _ _ _) (by rw [setCell_at' bz];rfl)⟩
 rintro ⟨gm,xm,ym⟩ zm hR
 have Rm:Hid (BoxRes F w1 gm (.cells #[.slice xm km.args.length ym] 31 (0,0)) [encS km] [.slice xm km.args.length ym] zm):=hR
 have HZm:Hid (Below W0.heap.size W0 zm∧Below w.heap.size w zm):=⟨H1.out.1.trans (Rm.out.below.mono (H1.out.1).size),H1.out.2.trans (Rm.out.below.mono (H1.out.2).size)⟩
 clear hR CRm
 simp only [Act.put,List.setIfInBounds_toArray,List.set_cons_zero,List.set_cons_succ]
 go_wp2_with fail
 have HLn:=HZm
 have CRn:=Lib.hid (fun wz (hz:Below zm.heap.size zm wz)=>Cn.out wz (HZm.out.2.trans (hz.mono (HZm.out.2).size)))
 have hFn:Hid (∀ i,F i→i<zm.heap.size):=fun i h=>Nat.lt_of_lt_of_le (HP.out.1.old i h) (HZm.out.2).size
 refine cut_code (X:=Nat×Option Addr×Nat) (fun a x=>((((((((((a.put (some 113) (.agg #[.slice na ns.length nc,.slice ka ns.length kc])).put (some 114) (.slice (some ⟨pb1,po1,none⟩) 3 qc)).put (some 115) (.pointer (some ⟨pb1,po1+4,none⟩))).put (some 116) (.agg #[str s2,.slice a2 n2 c2])).put (some 117) (.tuple #[.agg #[.slice x.2.1 kn.args.length x.2.2],.bool qn])).put (some 112) (.tuple #[.agg #[.slice x.2.1 kn.args.length x.2.2],.bool qn])).put (some 118) (.agg #[.slice x.2.1 kn.args.length x.2.2])).put (some 119) (.bool qn)).put (some 15) (.pointer (some ⟨x.1,0,none⟩))).put (some 16) (.bool qn))) (fun x w'=>BoxRes F zm x.1 (.cells #[.slice x.2.1 kn.args.length x.2.2] 31 (0,0)) [encS kn] [.slice x.2.1 kn.args.length x.2.2] w') ?_ ?_
 ·refine wp_region_noPanic ?_
  refine wp_region_S (fun w'=>Below zm.heap.size zm w') (fun _=>false) (by kernel_rfl) ?_
  have hSd:(fun w'=>Below zm.heap.size zm w') zm.drew:=Below.drew (Below.refl _ _)
  refine tk [0,1,2,3] hSd ?_
  (intro d hd;simp [tkD] at hd;subst hd;simp only [tks,pQ,pZ,pS])
  iterate 4 (refine ⟨?_,?_,?_⟩;rotate_left;· (intro oi ho;simp at ho;subst ho;refine Or.inl ⟨by rfl,fun w' hw'=>?_⟩;obtain ⟨e0,e1,f1,h1,f2,h2⟩:=SX.out w' (HZm.out.1.trans (hw'.mono (HZm.out.1).size));go_simp;try with_reducible rfl))
  refine wpAnyS_two 4 8 (by kernel_rfl) ?_ ?_
  ·(intro o4 ho K' hK;simp at ho;subst ho)
   go_simp
   go_at_call 17
   (with_reducible refine (CRn.out zm.drew hSd).mono ?_)
   rintro en y1 ⟨xx,yy,rfl,hb,hr⟩
   have hY1:Below zm.heap.size zm y1:=hSd.trans hb
   (refine hK.out _ _ (fun _=>hY1) ?_;clear hK K';try simp only [pQ,pN,pZ,pS])
   refine tk [5,6,7] hY1 ?_
   (intro d hd;simp [tkD] at hd;subst hd;simp only [tks,pQ,pZ,pS])
   iterate 3 (refine ⟨?_,?_,?_⟩;rotate_left;· (intro oi ho;simp at ho;subst ho;refine Or.inl ⟨by rfl,fun w' hw'=>?_⟩;go_simp;try with_reducible rfl))
   (refine on 8 ?_;intro o ho K' hK;simp at ho;subst ho;go_simp)
   (refine hK.out _ _ (fun _=>hY1.alloc (hY1).size _) ?_;clear hK K';try simp only [pQ,pN,pZ,pS])
   have bz:(y1.alloc (.cells #[.slice none 0 0] 31)).heap[y1.heap.size]? = some (.cells #[.slice none 0 0] 31 (0,0)):=heap_new _ _
   have zc0:=(show _=some _ from by simp only [World.cell?,bz];rfl:(y1.alloc (.cells #[.slice none 0 0] 31)).cell? ⟨y1.heap.size,0,none⟩=some (.slice none 0 0))
   have zf0:(y1.alloc (.cells #[.slice none 0 0] 31)).frozen? ⟨y1.heap.size,0,none⟩=false:=by simp only [World.frozen?,bz];rfl
   (refine on 9 ?_;intro o ho K' hK;simp at ho;subst ho;go_simp)
   (refine hK.out _ _ (fun _=>hY1.alloc hY1.size _) ?_;clear hK K';try simp only [pQ,pN,pZ,pS])
   (refine on 10 ?_;intro o ho K' hK;simp at ho;subst ho;go_simp)
   (refine hK.out _ _ (fun _=>hY1.alloc hY1.size _) ?_;clear hK K';try simp only [pQ,pN,pZ,pS])
   refine wpAnyS_done (by kernel_rfl) (NoPanic.normal ?_) _
   exact ⟨rfl,⟨y1.heap.size,xx,yy⟩,by rfl,BoxRes.fresh hY1 (Reps.one hr)⟩
  ·(intro o8 ho K' hK;simp at ho;subst ho)
   go_simp
   (refine hK.out _ _ (fun _=>hSd.alloc (Nat.le_refl _) _) ?_;clear hK K';try simp only [pQ,pN,pZ,pS])
   (refine on 4 ?_;intro o ho K' hK;simp at ho;subst ho;go_simp)
   go_at_call 17
   have hY0:Below zm.heap.size zm (zm.alloc (.cells #[.slice none 0 0] 31)).drew:=hSd.alloc (Nat.le_refl _) _
   (with_reducible refine (CRn.out _ hY0).mono ?_)
   rintro en y1 ⟨xx,yy,rfl,hb,hr⟩
   have hY1:Below zm.heap.size zm y1:=hY0.trans (hb.mono hY0.size)
   (refine hK.out _ _ (fun _=>hY1) ?_;clear hK K';try simp only [pQ,pN,pZ,pS])
   refine tk [5,6,7] hY1 ?_
   (intro d hd;simp [tkD] at hd;subst hd;simp only [tks,pQ,pZ,pS])
   iterate 3 (refine ⟨?_,?_,?_⟩;rotate_left;· (intro oi ho;simp at ho;subst ho;refine Or.inl ⟨by rfl,fun w' hw'=>?_⟩;go_simp;try with_reducible rfl))
   have bz:y1.heap[zm.heap.size]? = some (.cells #[.slice none 0 0] 31 (0,0)):=(hb.block _ (show _<_ from by simp)).trans (heap_new zm (.cells #[.slice none 0 0] 31))
   have zc0:=(show _=some _ from by simp only [World.cell?,bz];rfl:(y1).cell? ⟨zm.heap.size,0,none⟩=some (.slice none 0 0))
   have zf0:(y1).frozen? ⟨zm.heap.size,0,none⟩=false:=by simp only [World.frozen?,bz];rfl
   (refine on 9 ?_;intro o ho K' hK;simp at ho;subst ho;go_simp)
   (refine hK.out _ _ (fun _=>(hY1.setCell (p:=⟨zm.heap.size,0,none⟩) (Nat.le_refl _) _)) ?_;clear hK K';try simp only [pQ,pN,pZ,pS])
   (refine on 10 ?_;intro o ho K' hK;simp at ho;subst ho;go_simp)
   (refine hK.out _ _ (fun _=>(hY1.setCell (p:=⟨zm.heap.size,0,none⟩) (Nat.le_refl _) _)) ?_;clear hK K';try simp only [pQ,pN,pZ,pS])
   refine wpAnyS_done (by kernel_rfl) (NoPanic.normal ?_) _
   exact ⟨rfl,⟨zm.heap.size,xx,yy⟩,by rfl,BoxRes.first hFn.out hY0 (by simp) hb (Reps.one hr) (but1 _ _ _) (by rw [setCell_at' bz];rfl)⟩
 rintro ⟨gn,xn,yn⟩ zn hR
 have Rn:Hid (BoxRes F zm gn (.cells #[.slice xn kn.args.length yn] 31 (0,0)) [encS kn] [.slice xn kn.args.length yn] zn):=hR
 have HZn:Hid (Below W0.heap.size W0 zn∧Below w.heap.size w zn):=⟨HZm.out.1.trans (Rn.out.below.mono (HZm.out.1).size),HZm.out.2.trans (Rn.out.below.mono (HZm.out.2).size)⟩
 clear hR CRn
 simp only [Act.put,List.setIfInBounds_toArray,List.set_cons_zero,List.set_cons_succ]
 go_wp2_with fail
 have bm:zn.cell? ⟨gm,0,none⟩=some (.slice xm km.args.length ym):=(Rn.out.below.cell (World.block_lt_of_cell? _ _ (Rm.out.cell0))).trans (Rm.out.cell0)
 have Tm:Hid (Rep (fun i=>F i∨W0.heap.size≤i) zn (encS km) (.slice xm km.args.length ym)):=Rep.below (F':=fun i=>F i∨W0.heap.size≤i) Rn.out.below (fun _ h=>h) ((Reps.get1 Rm.out.rep).weak (G:=fun i=>F i∨W0.heap.size≤i) (fun i h=>h.1.elim .inl (fun h=>.inr (Nat.le_trans (HLm.out.1).size h))))
 have bn:zn.cell? ⟨gn,0,none⟩=some (.slice xn kn.args.length yn):=Rn.out.cell0
 have Tn:Hid (Rep (fun i=>F i∨W0.heap.size≤i) zn (encS kn) (.slice xn kn.args.length yn)):=(Reps.get1 Rn.out.rep).weak (G:=fun i=>F i∨W0.heap.size≤i) (fun i h=>h.1.elim .inl (fun h=>.inr (Nat.le_trans (HLn.out.1).size h)))
 have BR:Hid (zn.heap[w.heap.size+1+1]? = some (.cells #[.slice none 0 0] 31 (0,0))):=(HZn.out.1.block _ (lt_of_heap H0.out.2.2.2)).trans H0.out.2.2.2
 have rf0:zn.frozen? ⟨w.heap.size+1+1,0,none⟩=false:=by simp only [World.frozen?,BR.out];rfl
 have rc0:zn.cell? ⟨w.heap.size+1+1,0,none⟩=some (.slice none 0 0):=by simp only [World.cell?,BR.out];rfl
 have HE:=Lib.hid (show kindR ns (.app m n)=if qm=false∨qn=false then (km,false) else match km.args with
  | []=>(km,false)
  | c::cs=>if textT c=textT kn then (.mk cs,true) else (km,false) by rw [kindR,hkm,hkn];rfl)
 have HSM:=Lib.hid (And.intro hkm hkn)
 clear hkm hkn Cm Cn
 cases qm with
 | false =>
   go_region
   go_wp2_with fail
   have HEE:=Lib.hid (show kindR ns (.app m n)=(km,false) by rw [HE.out];simp)
   obtain ⟨W,hW,s0,hbW,hkW⟩:=box1_store (BR.out) (.slice xm km.args.length ym)
   rw [← hW]
   refine bodyPost_ret (v:=.tuple #[.agg #[.slice xm km.args.length ym],.bool false]) (by simp [results,Tryz.results17,go_sem,s0]) rfl ?_
   rw [HEE.out]
   exact kd_fin (k:=km) HP.out.1.old H0.out.1 H0.out.2.1 HZn.out.1 Tm.out (fun B w0 h hB=>(hbW B w0 h hB).drew) hkW
 | true =>
   cases qn with
   | false =>
     go_region
     go_wp2_with fail
     have HEE:=Lib.hid (show kindR ns (.app m n)=(km,false) by rw [HE.out];simp)
     obtain ⟨W,hW,s0,hbW,hkW⟩:=box1_store (BR.out) (.slice xm km.args.length ym)
     rw [← hW]
     refine bodyPost_ret (v:=.tuple #[.agg #[.slice xm km.args.length ym],.bool false]) (by simp [results,Tryz.results17,go_sem,s0]) rfl ?_
     rw [HEE.out]
     exact kd_fin (k:=km) HP.out.1.old H0.out.1 H0.out.2.1 HZn.out.1 Tm.out (fun B w0 h hB=>(hbW B w0 h hB).drew) hkW
   | true =>
     have HE2:=Lib.hid (show kindR ns (.app m n)=match km.args with
      | []=>(km,false)
      | c::cs=>if textT c=textT kn then (.mk cs,true) else (km,false) by rw [HE.out];simp)
     have hr:=Tm.out
     rw [encS_eq] at hr
     obtain ⟨_,_,e,hyl,_,hat⟩:=Rep_sl1_open hr
     simp only [Value.slice.injEq,true_and] at e
     obtain ⟨rfl,rfl⟩:=e
     have hm15:=type_small m ns km HP.out.1.n15 (by have:=kindR_some (t:=m) (ns:=ns) HP.out.2.2.1 (by rw [HSM.out.1]);rwa [HSM.out.1] at this)
     have hn15:=type_small n ns kn HP.out.1.n15 (by have:=kindR_some (t:=n) (ns:=ns) HP.out.2.2.2 (by rw [HSM.out.2]);rwa [HSM.out.2] at this)
     have HRR:=Lib.hid hr
     cases hts:km.args with
     | nil =>
       have hz0:(((km.args.length:Nat):Int) == 0)=true:=by rw [hts];rfl
       have HEE:=Lib.hid (show kindR ns (.app m n)=(km,false) by rw [HE2.out,hts])
       clear hr hat hts hyl
       generalize hL:km.args.length=L at *
       go_region
       go_wp2_with fail
       subst hL
       obtain ⟨W,hW,s0,hbW,hkW⟩:=box1_store (BR.out) (.slice xm km.args.length ym)
       rw [← hW]
       refine bodyPost_ret (v:=.tuple #[.agg #[.slice xm km.args.length ym],.bool false]) (by simp [results,Tryz.results17,go_sem,s0]) rfl ?_
       rw [HEE.out]
       exact kd_fin (k:=km) HP.out.1.old H0.out.1 H0.out.2.1 HZn.out.1 Tm.out (fun B w0 h hB=>(hbW B w0 h hB).drew) hkW
     | cons c cs =>
       obtain ⟨ab,ao,au,ad,ea,_,haw,had,hac,har⟩:=hat 0 (by rw [hts];simp)
       subst ea
       rw [hts] at had hyl
       simp only [encSs,List.getElem?_cons_zero,Option.some.injEq] at had
       subst had
       obtain ⟨ca,cc,rfl⟩:=encS_slice har
       have hc15:atomsT c≤15:=arg_small hm15 c (by rw [hts];simp)
       have hz0:(((km.args.length:Nat):Int) == 0)=false:=by rw [hts,beq_eq_false_iff_ne];simp;omega
       have hz1:(0:Int)<((km.args.length:Nat):Int):=by rw [hts];simp
       have hz2:0<km.args.length:=by rw [hts];simp
       have hac':zn.cell? ⟨ab,ao,none⟩=some (.slice ca c.args.length cc):=hac
       have CT1:=Lib.hid (fun wz (h:Below zn.heap.size zn wz)=>l1Text_any 15 c hc15 (by omega) _ wz _ (Rep.below (F':=fun i=>F i∨W0.heap.size≤i) h (fun _ h=>h) har))
       have CT2:=Lib.hid (fun wz (h:Below zn.heap.size zn wz)=>l1Text_any 15 kn hn15 (by omega) _ wz _ (Rep.below (F':=fun i=>F i∨W0.heap.size≤i) h (fun _ h=>h) Tn.out))
       have SY:Hid (∀ w',Below zn.heap.size zn w'→w'.cell? ⟨gm,0,none⟩=some (.slice (some ⟨ab,ao,none⟩) km.args.length ym)∧w'.cell? ⟨gn,0,none⟩=some (.slice xn kn.args.length yn)∧w'.cell? ⟨ab,ao,none⟩=some (.slice ca c.args.length cc)):=by
        show ∀ w',_→_
        intro w' h
        exact ⟨(h.cell (World.block_lt_of_cell? _ _ bm)).trans bm,(h.cell (World.block_lt_of_cell? _ _ bn)).trans bn,(h.cell (World.block_lt_of_cell? _ _ hac')).trans hac'⟩
       have hcl:cs.length≤14:=by have:=arg_count hm15;rw [hts] at this;simp at this;omega
       have HTS:=Lib.hid hts
       have HE3:=Lib.hid (show kindR ns (.app m n)=if textT c=textT kn then (.mk cs,true) else (km,false) by rw [HE2.out,hts])
       have hyl':cs.length+1≤ym:=by simpa using hyl
       have hLc:=Lib.hid (show km.args.length=cs.length+1 by rw [hts];rfl)
       clear hr hat hts hyl hac hac' har hc15 hm15 hn15 HE2 HE
       by_cases heq:textT c=textT kn
       ·have q0:(textT c != textT kn)=false:=by rw [heq];simp
        have HEE:=Lib.hid (show kindR ns (.app m n)=(.mk cs,true) by rw [HE3.out,if_pos heq])
        clear heq
        obtain ⟨X1,hX1⟩:∃ x,x=textT c:=⟨_,rfl⟩
        obtain ⟨X2,hX2⟩:∃ x,x=textT kn:=⟨_,rfl⟩
        rw [← hX1] at CT1 q0;rw [← hX2] at CT2 q0
        have q1:(X1 == X2)=true:=by first | (rw [beq_iff_eq];simpa using q0) | (rw [beq_eq_false_iff_ne];simpa using q0)
        have q2:(!(X1 == X2)) = !true:=by rw [q1]
        simp only [Bool.not_true,Bool.not_false] at q2
        clear hX1 hX2
        refine wp_region_noPanic ?_
        refine wp_region_S (fun w'=>Below zn.heap.size zn w') (fun _=>false) (by kernel_rfl) ?_
        have hSd:(fun w'=>Below zn.heap.size zn w') zn.drew:=Below.drew (Below.refl _ _)
        refine tk [0,1,2,3,4,5,6,7,8,9,10,11,12,13,14,15,16,18] hSd ?_
        (intro d hd;simp [tkD] at hd;subst hd;simp only [tks,pQ,pZ,pS])
        iterate 18 (refine ⟨?_,?_,?_⟩;rotate_left;· (intro oi ho;simp at ho;subst ho;refine Or.inl ⟨by rfl,fun w' hw'=>?_⟩;obtain ⟨e0,e1,e2⟩:=SY.out w' hw';go_simp;try with_reducible rfl))
        (refine on 17 ?_;intro o ho K' hK;simp at ho;subst ho;go_simp)
        go_at_call 29
        (with_reducible refine (CT1.out _ hSd).mono ?_)
        rintro en v1 ⟨rfl,hb⟩
        have HV1:Hid (Below zn.heap.size zn v1):=hSd.trans hb
        clear hb
        (refine hK.out _ _ (fun _=>HV1.out) ?_;clear hK K';try simp only [pQ,pN,pZ,pS])
        have hS17:=HV1.out
        (refine on 19 ?_;intro o ho K' hK;simp at ho;subst ho;go_simp)
        go_at_call 29
        (with_reducible refine (CT2.out _ HV1.out).mono ?_)
        rintro en v2 ⟨rfl,hb⟩
        have HV2:Hid (Below zn.heap.size zn v2):=HV1.out.trans (hb.mono HV1.out.size)
        clear hb
        (refine hK.out _ _ (fun _=>HV2.out) ?_;clear hK K';try simp only [pQ,pN,pZ,pS])
        have hS19:=HV2.out
        refine tk [20,21] hS19 ?_
        (intro d hd;simp [tkD] at hd;subst hd;simp only [tks,pQ,pZ,pS])
        iterate 2 (refine ⟨?_,?_,?_⟩;rotate_left;· (intro oi ho;simp at ho;subst ho;refine Or.inl ⟨by rfl,fun w' hw'=>?_⟩;go_simp;try with_reducible rfl))
        refine wpAnyS_done (by kernel_rfl) (NoPanic.normal ?_) _
        obtain ⟨e0,e1,e2⟩:=SY.out v2 HV2.out
        have BR2:Hid (v2.heap[w.heap.size+1+1]? = some (.cells #[.slice none 0 0] 31 (0,0))):=(HV2.out.block _ (lt_of_heap BR.out)).trans BR.out
        have rf2:v2.frozen? ⟨w.heap.size+1+1,0,none⟩=false:=by simp only [World.frozen?,BR2.out];rfl
        have rc2:v2.cell? ⟨w.heap.size+1+1,0,none⟩=some (.slice none 0 0):=by simp only [World.cell?,BR2.out];rfl
        have HZ2:Hid (Below W0.heap.size W0 v2):=HZn.out.1.trans (HV2.out.mono HZn.out.1.size)
        have T2:Hid (Rep (fun i=>F i∨W0.heap.size≤i) v2 (encS km) (.slice (some ⟨ab,ao,none⟩) km.args.length ym)):=Rep.below HV2.out (fun _ h=>h) Tm.out
        clear rf0 rc0 bm bn
        have HT:Hid (Rep (fun i=>F i∨W0.heap.size≤i) v2 (.sl 31 1 (cs.length+1) (encSs (c::cs))) (.slice (some ⟨ab,ao,none⟩) (cs.length+1) ym)):=by
         have h:=T2.out
         rw [encS_eq,HTS.out] at h
         exact h
        rw [hLc.out] at e0
        clear hz0 hz1
        by_cases hy1:ym=1
        ·subst hy1
         have hcs:cs.length=0:=by omega
         obtain rfl:=List.eq_nil_of_length_eq_zero hcs
         clear hcs hyl' hcl
         go_wp2_with fail
         obtain ⟨W,hW,s0,hbW,hkW⟩:=box1_store (BR2.out) (.slice (some ⟨ab,ao,none⟩) 0 0)
         rw [← hW]
         refine bodyPost_ret (v:=.tuple #[.agg #[.slice (some ⟨ab,ao,none⟩) 0 0],.bool true]) (by simp [results,Tryz.results17,go_sem,s0]) rfl ?_
         rw [HEE.out]
         exact kd_fin (k:=.mk []) HP.out.1.old H0.out.1 H0.out.2.1 HZ2.out (Rep_sl.2 ⟨rfl,_,_,rfl,Nat.le_refl _,fun h=>by simp at h,.inl rfl⟩) hbW hkW
        ·go_wp2_with fail
         obtain ⟨W,hW,s0,hbW,hkW⟩:=box1_store (BR2.out) (.slice (some ⟨ab,ao+1,none⟩) cs.length (ym-1))
         rw [← hW]
         refine bodyPost_ret (v:=.tuple #[.agg #[.slice (some ⟨ab,ao+1,none⟩) cs.length (ym-1)],.bool true]) (by simp [results,Tryz.results17,go_sem,s0]) rfl ?_
         rw [HEE.out]
         exact kd_fin (k:=.mk cs) HP.out.1.old H0.out.1 H0.out.2.1 HZ2.out (encS_tail HT.out) hbW hkW
       ·have q0:(textT c != textT kn)=true:=by rw [bne_iff_ne];exact heq
        have HEE:=Lib.hid (show kindR ns (.app m n)=(km,false) by rw [HE3.out,if_neg heq])
        clear heq
        obtain ⟨X1,hX1⟩:∃ x,x=textT c:=⟨_,rfl⟩
        obtain ⟨X2,hX2⟩:∃ x,x=textT kn:=⟨_,rfl⟩
        rw [← hX1] at CT1 q0;rw [← hX2] at CT2 q0
        have q1:(X1 == X2)=false:=by first | (rw [beq_iff_eq];simpa using q0) | (rw [beq_eq_false_iff_ne];simpa using q0)
        have q2:(!(X1 == X2)) = !false:=by rw [q1]
        simp only [Bool.not_true,Bool.not_false] at q2
        clear hX1 hX2
        refine wp_region_noPanic ?_
        refine wp_region_S (fun w'=>Below zn.heap.size zn w') (fun _=>false) (by kernel_rfl) ?_
        have hSd:(fun w'=>Below zn.heap.size zn w') zn.drew:=Below.drew (Below.refl _ _)
        refine tk [0,1,2,3,4,5,6,7,8,9,10,11,12,13,14,15,16,18] hSd ?_
        (intro d hd;simp [tkD] at hd;subst hd;simp only [tks,pQ,pZ,pS])
        iterate 18 (refine ⟨?_,?_,?_⟩;rotate_left;· (intro oi ho;simp at ho;subst ho;refine Or.inl ⟨by rfl,fun w' hw'=>?_⟩;obtain ⟨e0,e1,e2⟩:=SY.out w' hw';go_simp;try with_reducible rfl))
        (refine on 17 ?_;intro o ho K' hK;simp at ho;subst ho;go_simp)
        go_at_call 29
        (with_reducible refine (CT1.out _ hSd).mono ?_)
        rintro en v1 ⟨rfl,hb⟩
        have HV1:Hid (Below zn.heap.size zn v1):=hSd.trans hb
        clear hb
        (refine hK.out _ _ (fun _=>HV1.out) ?_;clear hK K';try simp only [pQ,pN,pZ,pS])
        have hS17:=HV1.out
        (refine on 19 ?_;intro o ho K' hK;simp at ho;subst ho;go_simp)
        go_at_call 29
        (with_reducible refine (CT2.out _ HV1.out).mono ?_)
        rintro en v2 ⟨rfl,hb⟩
        have HV2:Hid (Below zn.heap.size zn v2):=HV1.out.trans (hb.mono HV1.out.size)
        clear hb
        (refine hK.out _ _ (fun _=>HV2.out) ?_;clear hK K';try simp only [pQ,pN,pZ,pS])
        have hS19:=HV2.out
        refine tk [20,21] hS19 ?_
        (intro d hd;simp [tkD] at hd;subst hd;simp only [tks,pQ,pZ,pS])
        iterate 2 (refine ⟨?_,?_,?_⟩;rotate_left;· (intro oi ho;simp at ho;subst ho;refine Or.inl ⟨by rfl,fun w' hw'=>?_⟩;go_simp;try with_reducible rfl))
        refine wpAnyS_done (by kernel_rfl) (NoPanic.normal ?_) _
        obtain ⟨e0,e1,e2⟩:=SY.out v2 HV2.out
        have BR2:Hid (v2.heap[w.heap.size+1+1]? = some (.cells #[.slice none 0 0] 31 (0,0))):=(HV2.out.block _ (lt_of_heap BR.out)).trans BR.out
        have rf2:v2.frozen? ⟨w.heap.size+1+1,0,none⟩=false:=by simp only [World.frozen?,BR2.out];rfl
        have rc2:v2.cell? ⟨w.heap.size+1+1,0,none⟩=some (.slice none 0 0):=by simp only [World.cell?,BR2.out];rfl
        have HZ2:Hid (Below W0.heap.size W0 v2):=HZn.out.1.trans (HV2.out.mono HZn.out.1.size)
        have T2:Hid (Rep (fun i=>F i∨W0.heap.size≤i) v2 (encS km) (.slice (some ⟨ab,ao,none⟩) km.args.length ym)):=Rep.below HV2.out (fun _ h=>h) Tm.out
        clear rf0 rc0 bm bn
        clear hz0 hz1
        go_wp2_with fail
        obtain ⟨W,hW,s0,hbW,hkW⟩:=box1_store (BR2.out) (.slice (some ⟨ab,ao,none⟩) km.args.length ym)
        rw [← hW]
        refine bodyPost_ret (v:=.tuple #[.agg #[.slice (some ⟨ab,ao,none⟩) km.args.length ym],.bool false]) (by simp [results,Tryz.results17,go_sem,s0]) rfl ?_
        rw [HEE.out]
        exact kd_fin (k:=km) HP.out.1.old H0.out.1 H0.out.2.1 HZ2.out T2.out hbW hkW
end Go.Proofs.YtapjaflnmklmeaaGreatDoor
namespace Go.Proofs.YtapjaflnmklmeaaGreatDoor
open Go.RowKit
set_option maxRecDepth 100000 in
set_option maxHeartbeats 4000000 in
theorem kd_ite (N:Nat) (ih:KdSaid N) (F:Nat→Prop) (l m n:Tm) (ns:List Nm) (nv tv s pv:Value) (w:World) (hN:sizeTm (.ite l m n)≤N+1) (hp:KdPre F (.ite l m n) ns nv tv s pv w):Calls Tryz.prog 17 #[.agg #[nv,tv],.agg #[s,pv]] w (KdPost F w (kindR ns (.ite l m n)).1 (kindR ns (.ite l m n)).2):=by
 have hold:=hp.old
 obtain ⟨na,nc,rfl,_,_,hatN⟩:=Rep_sl1_open hp.rn
 obtain ⟨ka,kc,rfl,_,_,hatK⟩:=Rep_sl1_open hp.rk
 have hrt:=hp.rt
 rw [trTm] at hrt
 obtain ⟨qa,qc,e,hkids⟩:=encTr_open hrt
 simp only [atomTr,kidsTr,List.cons.injEq,and_true] at e hkids
 obtain ⟨rfl,rfl⟩:=e
 obtain ⟨_,_,e,hat⟩:=AtTrs.of hkids
 simp only [Value.slice.injEq,true_and] at e
 obtain ⟨rfl,rfl⟩:=e
 obtain ⟨pb1,po1,s1,a1,n1,c1,d1,pe1,pw1,pq1,pc1,pd1,pr1,ps1,pn1⟩:=hat 1 (by simp)
 simp only [List.getElem?_cons_zero,List.getElem?_cons_succ,Option.some.injEq] at pq1
 subst pq1
 subst pe1
 obtain ⟨pb2,po2,s2,a2,n2,c2,d2,pe2,pw2,pq2,pc2,pd2,pr2,ps2,pn2⟩:=hat 2 (by simp)
 simp only [List.getElem?_cons_zero,List.getElem?_cons_succ,Option.some.injEq] at pq2
 subst pq2
 simp only [Option.some.injEq,Addr.mk.injEq,and_true] at pe2
 obtain ⟨rfl,rfl⟩:=pe2
 obtain ⟨pb3,po3,s3,a3,n3,c3,d3,pe3,pw3,pq3,pc3,pd3,pr3,ps3,pn3⟩:=hat 3 (by simp)
 simp only [List.getElem?_cons_zero,List.getElem?_cons_succ,Option.some.injEq] at pq3
 subst pq3
 simp only [Option.some.injEq,Addr.mk.injEq,and_true] at pe3
 obtain ⟨rfl,rfl⟩:=pe3
 have hroom:=hp.room
 have hok:=hp.ok
 have hsm:=hp.sm
 rw [sizeTm] at hroom hN
 rw [smallTm] at hsm
 simp only [Bool.and_eq_true] at hsm
 obtain ⟨W0,hW0⟩:∃ W,W=((w.alloc (.cells #[.slice na ns.length nc,.slice ka ns.length kc] 41)).alloc (.cells #[str [],.slice (some ⟨pb1,po1,none⟩) 4 qc] 28)).alloc (.cells #[.slice none 0 0] 31):=⟨_,rfl⟩
 obtain ⟨hb0,z0,bA,bB,bC⟩:=boxes3 w (.cells #[.slice na ns.length nc,.slice ka ns.length kc] 41) (.cells #[str [],.slice (some ⟨pb1,po1,none⟩) 4 qc] 28) (.cells #[.slice none 0 0] 31)
 rw [← hW0] at hb0 z0 bA bB bC
 have CH:=Lib.hid (show Calls Tryz.prog 20 #[.agg #[str [],.slice (some ⟨pb1,po1,none⟩) 4 qc]] W0 (fun en w'=>en=.returned (str (headW (trTm (.ite l m n))))∧Below W0.heap.size W0 w') from l5Head_any (trTm (.ite l m n)) (okTr_Tm _ hp.ok) F W0 _ _ (Reps.below hb0 (fun _ h=>h) hp.rt))
 have hHW:headW (trTm (.ite l m n))=[105,102]:=by rw [trTm];rfl
 rw [hHW] at CH
 have H0:=Lib.hid (And.intro hb0 (And.intro z0 (And.intro bA bC)))
 obtain ⟨kl,ql,hkl⟩:∃ k q,kindR ns l=(k,q):=⟨_,_,rfl⟩
 have Cl:Hid (∀ wz,Below w.heap.size w wz→Calls Tryz.prog 17 #[.agg #[.slice na ns.length nc,.slice ka ns.length kc],.agg #[str s1,.slice a1 n1 c1]] wz (KdPost F wz kl ql)):=by
  show ∀ wz,_→_
  intro wz hz
  have h:=ih F l ns _ _ _ _ wz (by omega) ⟨fun i h=>Nat.lt_of_lt_of_le (hp.old i h) hz.size,Reps.below hz (fun _ h=>h) pr1,Rep.below hz (fun _ h=>h) hp.rn,Rep.below hz (fun _ h=>h) hp.rk,hok.1,hsm.1.1,hp.nm,hp.n15,by omega⟩
  rw [hkl] at h
  exact h
 obtain ⟨km,qm,hkm⟩:∃ k q,kindR ns m=(k,q):=⟨_,_,rfl⟩
 have Cm:Hid (∀ wz,Below w.heap.size w wz→Calls Tryz.prog 17 #[.agg #[.slice na ns.length nc,.slice ka ns.length kc],.agg #[str s2,.slice a2 n2 c2]] wz (KdPost F wz km qm)):=by
  show ∀ wz,_→_
  intro wz hz
  have h:=ih F m ns _ _ _ _ wz (by omega) ⟨fun i h=>Nat.lt_of_lt_of_le (hp.old i h) hz.size,Reps.below hz (fun _ h=>h) pr2,Rep.below hz (fun _ h=>h) hp.rn,Rep.below hz (fun _ h=>h) hp.rk,hok.2.1,hsm.1.2,hp.nm,hp.n15,by omega⟩
  rw [hkm] at h
  exact h
 obtain ⟨kn,qn,hkn⟩:∃ k q,kindR ns n=(k,q):=⟨_,_,rfl⟩
 have Cn:Hid (∀ wz,Below w.heap.size w wz→Calls Tryz.prog 17 #[.agg #[.slice na ns.length nc,.slice ka ns.length kc],.agg #[str s3,.slice a3 n3 c3]] wz (KdPost F wz kn qn)):=by
  show ∀ wz,_→_
  intro wz hz
  have h:=ih F n ns _ _ _ _ wz (by omega) ⟨fun i h=>Nat.lt_of_lt_of_le (hp.old i h) hz.size,Reps.below hz (fun _ h=>h) pr3,Rep.below hz (fun _ h=>h) hp.rn,Rep.below hz (fun _ h=>h) hp.rk,hok.2.2,hsm.2,hp.nm,hp.n15,by omega⟩
  rw [hkn] at h
  exact h
 have e0:W0.cell? ⟨w.heap.size,0,none⟩=some (.slice na ns.length nc):=by simp [World.cell?,bA]
 have e1:W0.cell? ⟨w.heap.size,1,none⟩=some (.slice ka ns.length kc):=by simp [World.cell?,bA]
 have SX:Hid (∀ w',Below W0.heap.size W0 w'→w'.cell? ⟨w.heap.size,0,none⟩=some (.slice na ns.length nc)∧w'.cell? ⟨w.heap.size,1,none⟩=some (.slice ka ns.length kc)∧w'.cell? ⟨pb1,po1+2,none⟩=some (str s1)∧w'.cell? ⟨pb1,po1+3,none⟩=some (.slice a1 n1 c1)∧w'.cell? ⟨pb1,po1+4,none⟩=some (str s2)∧w'.cell? ⟨pb1,po1+5,none⟩=some (.slice a2 n2 c2)∧w'.cell? ⟨pb1,po1+6,none⟩=some (str s3)∧w'.cell? ⟨pb1,po1+7,none⟩=some (.slice a3 n3 c3)):=by
  show ∀ w',_→_
  intro w' hb'
  have hb0':=hb0.trans (hb'.mono hb0.size)
  exact ⟨(hb'.cell (World.block_lt_of_cell? W0 _ e0)).trans e0,(hb'.cell (World.block_lt_of_cell? W0 _ e1)).trans e1,(hb0'.cell (p:=⟨pb1,po1+2,none⟩) pw1).trans pc1,(hb0'.cell (p:=⟨pb1,po1+3,none⟩) pw1).trans pd1,(hb0'.cell (p:=⟨pb1,po1+4,none⟩) pw1).trans pc2,(hb0'.cell (p:=⟨pb1,po1+5,none⟩) pw1).trans pd2,(hb0'.cell (p:=⟨pb1,po1+6,none⟩) pw1).trans pc3,(hb0'.cell (p:=⟨pb1,po1+7,none⟩) pw1).trans pd3⟩
 have HP:=Lib.hid (And.intro hp (And.intro hok hsm))
 clear hatN hatK hkids hat hrt hp hok hsm ih hN hb0 z0 bA bB bC e0 e1 pr1 pc1 pd1 ps1 pn1 pr2 pc2 pd2 ps2 pn2 pr3 pc3 pd3 ps3 pn3
 clear pw1
 clear pw2
 clear pw3
 go_enter Tryz.func17,Tryz.ntmps17
 go_wp2_with fail
 rw [← hW0]
 clear hW0
 (with_reducible refine CH.out.mono ?_)
 rintro en w1 ⟨rfl,hb1⟩
 have H1:=Lib.hid (And.intro hb1 (H0.out.1.trans (hb1.mono H0.out.1.size)))
 clear hb1 CH
 go_wp2_with fail
 have HLl:=H1
 have CRl:=Lib.hid (fun wz (hz:Below w1.heap.size w1 wz)=>Cl.out wz (H1.out.2.trans (hz.mono (H1.out.2).size)))
 have hFl:Hid (∀ i,F i→i<w1.heap.size):=fun i h=>Nat.lt_of_lt_of_le (HP.out.1.old i h) (H1.out.2).size
 refine cut_code (X:=Nat×Option Addr×Nat) (fun a x=>((((((((((a.put (some 148) (.agg #[.slice na ns.length nc,.slice ka ns.length kc])).put (some 149) (.slice (some ⟨pb1,po1,none⟩) 4 qc)).put (some 150) (.pointer (some ⟨pb1,po1+2,none⟩))).put (some 151) (.agg #[str s1,.slice a1 n1 c1])).put (some 152) (.tuple #[.agg #[.slice x.2.1 kl.args.length x.2.2],.bool ql])).put (some 147) (.tuple #[.agg #[.slice x.2.1 kl.args.length x.2.2],.bool ql])).put (some 153) (.agg #[.slice x.2.1 kl.args.length x.2.2])).put (some 154) (.bool ql)).put (some 17) (.pointer (some ⟨x.1,0,none⟩))).put (some 18) (.bool ql))) (fun x w'=>BoxRes F w1 x.1 (.cells #[.slice x.2.1 kl.args.length x.2.2] 31 (0,0)) [encS kl] [.slice x.2.1 kl.args.length x.2.2] w') ?_ ?_
 ·refine wp_region_noPanic ?_
  refine wp_region_S (fun w'=>Below w1.heap.size w1 w') (fun _=>false) (by kernel_rfl) ?_
  have hSd:(fun w'=>Below w1.heap.size w1 w') w1.drew:=Below.drew (Below.refl _ _)
  refine tk [0,1,2,3] hSd ?_
  (intro d hd;simp [tkD] at hd;subst hd;simp only [tks,pQ,pZ,pS])
  iterate 4 (refine ⟨?_,?_,?_⟩;rotate_left;· (intro oi ho;simp at ho;subst ho;refine Or.inl ⟨by rfl,fun w' hw'=>?_⟩;obtain ⟨e0,e1,f1,h1,f2,h2,f3,h3⟩:=SX.out w' (H1.out.1.trans (hw'.mono (H1.out.1).size));go_simp;try with_reducible rfl))
  refine wpAnyS_two 4 8 (by kernel_rfl) ?_ ?_
  ·(intro o4 ho K' hK;simp at ho;subst ho)
   go_simp
   go_at_call 17
   (with_reducible refine (CRl.out w1.drew hSd).mono ?_)
   rintro en y1 ⟨xx,yy,rfl,hb,hr⟩
   have hY1:Below w1.heap.size w1 y1:=hSd.trans hb
   (refine hK.out _ _ (fun _=>hY1) ?_;clear hK K';try simp only [pQ,pN,pZ,pS])
   refine tk [5,6,7] hY1 ?_
   (intro d hd;simp [tkD] at hd;subst hd;simp only [tks,pQ,pZ,pS])
   iterate 3 (refine ⟨?_,?_,?_⟩;rotate_left;· (intro oi ho;simp at ho;subst ho;refine Or.inl ⟨by rfl,fun w' hw'=>?_⟩;go_simp;try with_reducible rfl))
   (refine on 8 ?_;intro o ho K' hK;simp at ho;subst ho;go_simp)
   (refine hK.out _ _ (fun _=>hY1.alloc (hY1).size _) ?_;clear hK K';try simp only [pQ,pN,pZ,pS])
   have bz:(y1.alloc (.cells #[.slice none 0 0] 31)).heap[y1.heap.size]? = some (.cells #[.slice none 0 0] 31 (0,0)):=heap_new _ _
   have zc0:=(show _=some _ from by simp only [World.cell?,bz];rfl:(y1.alloc (.cells #[.slice none 0 0] 31)).cell? ⟨y1.heap.size,0,none⟩=some (.slice none 0 0))
   have zf0:(y1.alloc (.cells #[.slice none 0 0] 31)).frozen? ⟨y1.heap.size,0,none⟩=false:=by simp only [World.frozen?,bz];rfl
   (refine on 9 ?_;intro o ho K' hK;simp at ho;subst ho;go_simp)
   (refine hK.out _ _ (fun _=>hY1.alloc hY1.size _) ?_;clear hK K';try simp only [pQ,pN,pZ,pS])
   (refine on 10 ?_;intro o ho K' hK;simp at ho;subst ho;go_simp)
   (refine hK.out _ _ (fun _=>hY1.alloc hY1.size _) ?_;clear hK K';try simp only [pQ,pN,pZ,pS])
   refine wpAnyS_done (by kernel_rfl) (NoPanic.normal ?_) _
   exact ⟨rfl,⟨y1.heap.size,xx,yy⟩,by rfl,BoxRes.fresh hY1 (Reps.one hr)⟩
  ·(intro o8 ho K' hK;simp at ho;subst ho)
   go_simp
   (refine hK.out _ _ (fun _=>hSd.alloc (Nat.le_refl _) _) ?_;clear hK K';try simp only [pQ,pN,pZ,pS])
   (refine on 4 ?_;intro o ho K' hK;simp at ho;subst ho;go_simp)
   go_at_call 17
   have hY0:Below w1.heap.size w1 (w1.alloc (.cells #[.slice none 0 0] 31)).drew:=hSd.alloc (Nat.le_refl _) _
   (with_reducible refine (CRl.out _ hY0).mono ?_)
   rintro en y1 ⟨xx,yy,rfl,hb,hr⟩
   have hY1:Below w1.heap.size w1 y1:=hY0.trans (hb.mono hY0.size)
   (refine hK.out _ _ (fun _=>hY1) ?_;clear hK K';try simp only [pQ,pN,pZ,pS])
   refine tk [5,6,7] hY1 ?_
   (intro d hd;simp [tkD] at hd;subst hd;simp only [tks,pQ,pZ,pS])
   iterate 3 (refine ⟨?_,?_,?_⟩;rotate_left;· (intro oi ho;simp at ho;subst ho;refine Or.inl ⟨by rfl,fun w' hw'=>?_⟩;go_simp;try with_reducible rfl))
   have bz:y1.heap[w1.heap.size]? = some (.cells #[.slice none 0 0] 31 (0,0)):=(hb.block _ (show _<_ from by simp)).trans (heap_new w1 (.cells #[.slice none 0 0] 31))
   have zc0:=(show _=some _ from by simp only [World.cell?,bz];rfl:(y1).cell? ⟨w1.heap.size,0,none⟩=some (.slice none 0 0))
   have zf0:(y1).frozen? ⟨w1.heap.size,0,none⟩=false:=by simp only [World.frozen?,bz];rfl
   (refine on 9 ?_;intro o ho K' hK;simp at ho;subst ho;go_simp)
   (refine hK.out _ _ (fun _=>(hY1.setCell (p:=⟨w1.heap.size,0,none⟩) (Nat.le_refl _) _)) ?_;clear hK K';try simp only [pQ,pN,pZ,pS])
   (refine on 10 ?_;intro o ho K' hK;simp at ho;subst ho;go_simp)
   (refine hK.out _ _ (fun _=>(hY1.setCell (p:=⟨w1.heap.size,0,none⟩) (Nat.le_refl _) _)) ?_;clear hK K';try simp only [pQ,pN,pZ,pS])
   refine wpAnyS_done (by kernel_rfl) (NoPanic.normal ?_) _
   exact ⟨rfl,⟨w1.heap.size,xx,yy⟩,by rfl,BoxRes.first hFl.out hY0 (by simp) hb (Reps.one hr) (but1 _ _ _) (by rw [setCell_at' bz];rfl)⟩
 rintro ⟨gl,xl,yl⟩ zl hR
 have Rl:Hid (BoxRes F w1 gl (.cells #[.slice xl kl.args.length yl] 31 (0,0)) [encS kl] [.slice xl kl.args.length yl] zl):=hR
 have HZl:Hid (Below W0.heap.size W0 zl∧Below w.heap.size w zl):=⟨H1.out.1.trans (Rl.out.below.mono (H1.out.1).size),H1.out.2.trans (Rl.out.below.mono (H1.out.2).size)⟩
 clear hR CRl
 simp only [Act.put,List.setIfInBounds_toArray,List.set_cons_zero,List.set_cons_succ]
 go_wp2_with fail
 have HLm:=HZl
 have CRm:=Lib.hid (fun wz (hz:Below zl.heap.size zl wz)=>Cm.out wz (HZl.out.2.trans (hz.mono (HZl.out.2).size)))
 have hFm:Hid (∀ i,F i→i<zl.heap.size):=fun i h=>Nat.lt_of_lt_of_le (HP.out.1.old i h) (HZl.out.2).size
 refine cut_code (X:=Nat×Option Addr×Nat) (fun a x=>((((((((((a.put (some 156) (.agg #[.slice na ns.length nc,.slice ka ns.length kc])).put (some 157) (.slice (some ⟨pb1,po1,none⟩) 4 qc)).put (some 158) (.pointer (some ⟨pb1,po1+4,none⟩))).put (some 159) (.agg #[str s2,.slice a2 n2 c2])).put (some 160) (.tuple #[.agg #[.slice x.2.1 km.args.length x.2.2],.bool qm])).put (some 155) (.tuple #[.agg #[.slice x.2.1 km.args.length x.2.2],.bool qm])).put (some 161) (.agg #[.slice x.2.1 km.args.length x.2.2])).put (some 162) (.bool qm)).put (some 19) (.pointer (some ⟨x.1,0,none⟩))).put (some 20) (.bool qm))) (fun x w'=>BoxRes F zl x.1 (.cells #[.slice x.2.1 km.args.length x.2.2] 31 (0,0)) [encS km] [.slice x.2.1 km.args.length x.2.2] w') ?_ ?_
 ·refine wp_region_noPanic ?_
  refine wp_region_S (fun w'=>Below zl.heap.size zl w') (fun _=>false) (by kernel_rfl) ?_
  have hSd:(fun w'=>Below zl.heap.size zl w') zl.drew:=Below.drew (Below.refl _ _)
  refine tk [0,1,2,3] hSd ?_
  (intro d hd;simp [tkD] at hd;subst hd;simp only [tks,pQ,pZ,pS])
  iterate 4 (refine ⟨?_,?_,?_⟩;rotate_left;· (intro oi ho;simp at ho;subst ho;refine Or.inl ⟨by rfl,fun w' hw'=>?_⟩;obtain ⟨e0,e1,f1,h1,f2,h2,f3,h3⟩:=SX.out w' (HZl.out.1.trans (hw'.mono (HZl.out.1).size));go_simp;try with_reducible rfl))
  refine wpAnyS_two 4 8 (by kernel_rfl) ?_ ?_
  ·(intro o4 ho K' hK;simp at ho;subst ho)
   go_simp
   go_at_call 17
   (with_reducible refine (CRm.out zl.drew hSd).mono ?_)
   rintro en y1 ⟨xx,yy,rfl,hb,hr⟩
   have hY1:Below zl.heap.size zl y1:=hSd.trans hb
   (refine hK.out _ _ (fun _=>hY1) ?_;clear hK K';try simp only [pQ,pN,pZ,pS])
   refine tk [5,6,7] hY1 ?_
   (intro d hd;simp [tkD] at hd;subst hd;simp only [tks,pQ,pZ,pS])
   iterate 3 (refine ⟨?_,?_,?_⟩;rotate_left;· (intro oi ho;simp at ho;subst ho;refine Or.inl ⟨by rfl,fun w' hw'=>?_⟩;go_simp;try with_reducible rfl))
   (refine on 8 ?_;intro o ho K' hK;simp at ho;subst ho;go_simp)
   (refine hK.out _ _ (fun _=>hY1.alloc (hY1).size _) ?_;clear hK K';try simp only [pQ,pN,pZ,pS])
   have bz:(y1.alloc (.cells #[.slice none 0 0] 31)).heap[y1.heap.size]? = some (.cells #[.slice none 0 0] 31 (0,0)):=heap_new _ _
   have zc0:=(show _=some _ from by simp only [World.cell?,bz];rfl:(y1.alloc (.cells #[.slice none 0 0] 31)).cell? ⟨y1.heap.size,0,none⟩=some (.slice none 0 0))
   have zf0:(y1.alloc (.cells #[.slice none 0 0] 31)).frozen? ⟨y1.heap.size,0,none⟩=false:=by simp only [World.frozen?,bz];rfl
   (refine on 9 ?_;intro o ho K' hK;simp at ho;subst ho;go_simp)
   (refine hK.out _ _ (fun _=>hY1.alloc hY1.size _) ?_;clear hK K';try simp only [pQ,pN,pZ,pS])
   (refine on 10 ?_;intro o ho K' hK;simp at ho;subst ho;go_simp)
   (refine hK.out _ _ (fun _=>hY1.alloc hY1.size _) ?_;clear hK K';try simp only [pQ,pN,pZ,pS])
   refine wpAnyS_done (by kernel_rfl) (NoPanic.normal ?_) _
   exact ⟨rfl,⟨y1.heap.size,xx,yy⟩,by rfl,BoxRes.fresh hY1 (Reps.one hr)⟩
  ·(intro o8 ho K' hK;simp at ho;subst ho)
   go_simp
   (refine hK.out _ _ (fun _=>hSd.alloc (Nat.le_refl _) _) ?_;clear hK K';try simp only [pQ,pN,pZ,pS])
   (refine on 4 ?_;intro o ho K' hK;simp at ho;subst ho;go_simp)
   go_at_call 17
   have hY0:Below zl.heap.size zl (zl.alloc (.cells #[.slice none 0 0] 31)).drew:=hSd.alloc (Nat.le_refl _) _
   (with_reducible refine (CRm.out _ hY0).mono ?_)
   rintro en y1 ⟨xx,yy,rfl,hb,hr⟩
   have hY1:Below zl.heap.size zl y1:=hY0.trans (hb.mono hY0.size)
   (refine hK.out _ _ (fun _=>hY1) ?_;clear hK K';try simp only [pQ,pN,pZ,pS])
   refine tk [5,6,7] hY1 ?_
   (intro d hd;simp [tkD] at hd;subst hd;simp only [tks,pQ,pZ,pS])
   iterate 3 (refine ⟨?_,?_,?_⟩;rotate_left;· (intro oi ho;simp at ho;subst ho;refine Or.inl ⟨by rfl,fun w' hw'=>?_⟩;go_simp;try with_reducible rfl))
   have bz:y1.heap[zl.heap.size]? = some (.cells #[.slice none 0 0] 31 (0,0)):=(hb.block _ (show _<_ from by simp)).trans (heap_new zl (.cells #[.slice none 0 0] 31))
   have zc0:=(show _=some _ from by simp only [World.cell?,bz];rfl:(y1).cell? ⟨zl.heap.size,0,none⟩=some (.slice none 0 0))
   have zf0:(y1).frozen? ⟨zl.heap.size,0,none⟩=false:=by simp only [World.frozen?,bz];rfl
   (refine on 9 ?_;intro o ho K' hK;simp at ho;subst ho;go_simp)
   (refine hK.out _ _ (fun _=>(hY1.setCell (p:=⟨zl.heap.size,0,none⟩) (Nat.le_refl _) _)) ?_;clear hK K';try simp only [pQ,pN,pZ,pS])
   (refine on 10 ?_;intro o ho K' hK;simp at ho;subst ho;go_simp)
   (refine hK.out _ _ (fun _=>(hY1.setCell (p:=⟨zl.heap.size,0,none⟩) (Nat.le_refl _) _)) ?_;clear hK K';try simp only [pQ,pN,pZ,pS])
   refine wpAnyS_done (by kernel_rfl) (NoPanic.normal ?_) _
   exact ⟨rfl,⟨zl.heap.size,xx,yy⟩,by rfl,BoxRes.first hFm.out hY0 (by simp) hb (Reps.one hr) (but1 _ _ _) (by rw [setCell_at' bz];rfl)⟩
 rintro ⟨gm,xm,ym⟩ zm hR
 have Rm:Hid (BoxRes F zl gm (.cells #[.slice xm km.args.length ym] 31 (0,0)) [encS km] [.slice xm km.args.length ym] zm):=hR
 have HZm:Hid (Below W0.heap.size W0 zm∧Below w.heap.size w zm):=⟨HZl.out.1.trans (Rm.out.below.mono (HZl.out.1).size),HZl.out.2.trans (Rm.out.below.mono (HZl.out.2).size)⟩
 clear hR CRm
 simp only [Act.put,List.setIfInBounds_toArray,List.set_cons_zero,List.set_cons_succ]
 go_wp2_with fail
 have HLn:=HZm
 have CRn:=Lib.hid (fun wz (hz:Below zm.heap.size zm wz)=>Cn.out wz (HZm.out.2.trans (hz.mono (HZm.out.2).size)))
 have hFn:Hid (∀ i,F i→i<zm.heap.size):=fun i h=>Nat.lt_of_lt_of_le (HP.out.1.old i h) (HZm.out.2).size
 refine cut_code (X:=Nat×Option Addr×Nat) (fun a x=>((((((((((a.put (some 164) (.agg #[.slice na ns.length nc,.slice ka ns.length kc])).put (some 165) (.slice (some ⟨pb1,po1,none⟩) 4 qc)).put (some 166) (.pointer (some ⟨pb1,po1+6,none⟩))).put (some 167) (.agg #[str s3,.slice a3 n3 c3])).put (some 168) (.tuple #[.agg #[.slice x.2.1 kn.args.length x.2.2],.bool qn])).put (some 163) (.tuple #[.agg #[.slice x.2.1 kn.args.length x.2.2],.bool qn])).put (some 169) (.agg #[.slice x.2.1 kn.args.length x.2.2])).put (some 170) (.bool qn)).put (some 21) (.pointer (some ⟨x.1,0,none⟩))).put (some 22) (.bool qn))) (fun x w'=>BoxRes F zm x.1 (.cells #[.slice x.2.1 kn.args.length x.2.2] 31 (0,0)) [encS kn] [.slice x.2.1 kn.args.length x.2.2] w') ?_ ?_
 ·refine wp_region_noPanic ?_
  refine wp_region_S (fun w'=>Below zm.heap.size zm w') (fun _=>false) (by kernel_rfl) ?_
  have hSd:(fun w'=>Below zm.heap.size zm w') zm.drew:=Below.drew (Below.refl _ _)
  refine tk [0,1,2,3] hSd ?_
  (intro d hd;simp [tkD] at hd;subst hd;simp only [tks,pQ,pZ,pS])
  iterate 4 (refine ⟨?_,?_,?_⟩;rotate_left;· (intro oi ho;simp at ho;subst ho;refine Or.inl ⟨by rfl,fun w' hw'=>?_⟩;obtain ⟨e0,e1,f1,h1,f2,h2,f3,h3⟩:=SX.out w' (HZm.out.1.trans (hw'.mono (HZm.out.1).size));go_simp;try with_reducible rfl))
  refine wpAnyS_two 4 8 (by kernel_rfl) ?_ ?_
  ·(intro o4 ho K' hK;simp at ho;subst ho)
   go_simp
   go_at_call 17
   (with_reducible refine (CRn.out zm.drew hSd).mono ?_)
   rintro en y1 ⟨xx,yy,rfl,hb,hr⟩
   have hY1:Below zm.heap.size zm y1:=hSd.trans hb
   (refine hK.out _ _ (fun _=>hY1) ?_;clear hK K';try simp only [pQ,pN,pZ,pS])
   refine tk [5,6,7] hY1 ?_
   (intro d hd;simp [tkD] at hd;subst hd;simp only [tks,pQ,pZ,pS])
   iterate 3 (refine ⟨?_,?_,?_⟩;rotate_left;· (intro oi ho;simp at ho;subst ho;refine Or.inl ⟨by rfl,fun w' hw'=>?_⟩;go_simp;try with_reducible rfl))
   (refine on 8 ?_;intro o ho K' hK;simp at ho;subst ho;go_simp)
   (refine hK.out _ _ (fun _=>hY1.alloc (hY1).size _) ?_;clear hK K';try simp only [pQ,pN,pZ,pS])
   have bz:(y1.alloc (.cells #[.slice none 0 0] 31)).heap[y1.heap.size]? = some (.cells #[.slice none 0 0] 31 (0,0)):=heap_new _ _
   have zc0:=(show _=some _ from by simp only [World.cell?,bz];rfl:(y1.alloc (.cells #[.slice none 0 0] 31)).cell? ⟨y1.heap.size,0,none⟩=some (.slice none 0 0))
   have zf0:(y1.alloc (.cells #[.slice none 0 0] 31)).frozen? ⟨y1.heap.size,0,none⟩=false:=by simp only [World.frozen?,bz];rfl
   (refine on 9 ?_;intro o ho K' hK;simp at ho;subst ho;go_simp)
   (refine hK.out _ _ (fun _=>hY1.alloc hY1.size _) ?_;clear hK K';try simp only [pQ,pN,pZ,pS])
   (refine on 10 ?_;intro o ho K' hK;simp at ho;subst ho;go_simp)
   (refine hK.out _ _ (fun _=>hY1.alloc hY1.size _) ?_;clear hK K';try simp only [pQ,pN,pZ,pS])
   refine wpAnyS_done (by kernel_rfl) (NoPanic.normal ?_) _
   exact ⟨rfl,⟨y1.heap.size,xx,yy⟩,by rfl,BoxRes.fresh hY1 (Reps.one hr)⟩
  ·(intro o8 ho K' hK;simp at ho;subst ho)
   go_simp
   (refine hK.out _ _ (fun _=>hSd.alloc (Nat.le_refl _) _) ?_;clear hK K';try simp only [pQ,pN,pZ,pS])
   (refine on 4 ?_;intro o ho K' hK;simp at ho;subst ho;go_simp)
   go_at_call 17
   have hY0:Below zm.heap.size zm (zm.alloc (.cells #[.slice none 0 0] 31)).drew:=hSd.alloc (Nat.le_refl _) _
   (with_reducible refine (CRn.out _ hY0).mono ?_)
   rintro en y1 ⟨xx,yy,rfl,hb,hr⟩
   have hY1:Below zm.heap.size zm y1:=hY0.trans (hb.mono hY0.size)
   (refine hK.out _ _ (fun _=>hY1) ?_;clear hK K';try simp only [pQ,pN,pZ,pS])
   refine tk [5,6,7] hY1 ?_
   (intro d hd;simp [tkD] at hd;subst hd;simp only [tks,pQ,pZ,pS])
   iterate 3 (refine ⟨?_,?_,?_⟩;rotate_left;· (intro oi ho;simp at ho;subst ho;refine Or.inl ⟨by rfl,fun w' hw'=>?_⟩;go_simp;try with_reducible rfl))
   have bz:y1.heap[zm.heap.size]? = some (.cells #[.slice none 0 0] 31 (0,0)):=(hb.block _ (show _<_ from by simp)).trans (heap_new zm (.cells #[.slice none 0 0] 31))
   have zc0:=(show _=some _ from by simp only [World.cell?,bz];rfl:(y1).cell? ⟨zm.heap.size,0,none⟩=some (.slice none 0 0))
   have zf0:(y1).frozen? ⟨zm.heap.size,0,none⟩=false:=by simp only [World.frozen?,bz];rfl
   (refine on 9 ?_;intro o ho K' hK;simp at ho;subst ho;go_simp)
   (refine hK.out _ _ (fun _=>(hY1.setCell (p:=⟨zm.heap.size,0,none⟩) (Nat.le_refl _) _)) ?_;clear hK K';try simp only [pQ,pN,pZ,pS])
   (refine on 10 ?_;intro o ho K' hK;simp at ho;subst ho;go_simp)
   (refine hK.out _ _ (fun _=>(hY1.setCell (p:=⟨zm.heap.size,0,none⟩) (Nat.le_refl _) _)) ?_;clear hK K';try simp only [pQ,pN,pZ,pS])
   refine wpAnyS_done (by kernel_rfl) (NoPanic.normal ?_) _
   exact ⟨rfl,⟨zm.heap.size,xx,yy⟩,by rfl,BoxRes.first hFn.out hY0 (by simp) hb (Reps.one hr) (but1 _ _ _) (by rw [setCell_at' bz];rfl)⟩
 rintro ⟨gn,xn,yn⟩ zn hR
 have Rn:Hid (BoxRes F zm gn (.cells #[.slice xn kn.args.length yn] 31 (0,0)) [encS kn] [.slice xn kn.args.length yn] zn):=hR
 have HZn:Hid (Below W0.heap.size W0 zn∧Below w.heap.size w zn):=⟨HZm.out.1.trans (Rn.out.below.mono (HZm.out.1).size),HZm.out.2.trans (Rn.out.below.mono (HZm.out.2).size)⟩
 clear hR CRn
 simp only [Act.put,List.setIfInBounds_toArray,List.set_cons_zero,List.set_cons_succ]
 go_wp2_with fail
 have bl:zn.cell? ⟨gl,0,none⟩=some (.slice xl kl.args.length yl):=(Rn.out.below.cell (World.block_lt_of_cell? _ _ ((Rm.out.below.cell (World.block_lt_of_cell? _ _ (Rl.out.cell0))).trans (Rl.out.cell0)))).trans ((Rm.out.below.cell (World.block_lt_of_cell? _ _ (Rl.out.cell0))).trans (Rl.out.cell0))
 have Tl:Hid (Rep (fun i=>F i∨W0.heap.size≤i) zn (encS kl) (.slice xl kl.args.length yl)):=Rep.below (F':=fun i=>F i∨W0.heap.size≤i) Rn.out.below (fun _ h=>h) (Rep.below (F':=fun i=>F i∨W0.heap.size≤i) Rm.out.below (fun _ h=>h) ((Reps.get1 Rl.out.rep).weak (G:=fun i=>F i∨W0.heap.size≤i) (fun i h=>h.1.elim .inl (fun h=>.inr (Nat.le_trans (HLl.out.1).size h)))))
 have bm:zn.cell? ⟨gm,0,none⟩=some (.slice xm km.args.length ym):=(Rn.out.below.cell (World.block_lt_of_cell? _ _ (Rm.out.cell0))).trans (Rm.out.cell0)
 have Tm:Hid (Rep (fun i=>F i∨W0.heap.size≤i) zn (encS km) (.slice xm km.args.length ym)):=Rep.below (F':=fun i=>F i∨W0.heap.size≤i) Rn.out.below (fun _ h=>h) ((Reps.get1 Rm.out.rep).weak (G:=fun i=>F i∨W0.heap.size≤i) (fun i h=>h.1.elim .inl (fun h=>.inr (Nat.le_trans (HLm.out.1).size h))))
 have bn:zn.cell? ⟨gn,0,none⟩=some (.slice xn kn.args.length yn):=Rn.out.cell0
 have Tn:Hid (Rep (fun i=>F i∨W0.heap.size≤i) zn (encS kn) (.slice xn kn.args.length yn)):=(Reps.get1 Rn.out.rep).weak (G:=fun i=>F i∨W0.heap.size≤i) (fun i h=>h.1.elim .inl (fun h=>.inr (Nat.le_trans (HLn.out.1).size h)))
 have BR:Hid (zn.heap[w.heap.size+1+1]? = some (.cells #[.slice none 0 0] 31 (0,0))):=(HZn.out.1.block _ (lt_of_heap H0.out.2.2.2)).trans H0.out.2.2.2
 have rf0:zn.frozen? ⟨w.heap.size+1+1,0,none⟩=false:=by simp only [World.frozen?,BR.out];rfl
 have rc0:zn.cell? ⟨w.heap.size+1+1,0,none⟩=some (.slice none 0 0):=by simp only [World.cell?,BR.out];rfl
 have HE:=Lib.hid (show kindR ns (.ite l m n)=(km,ql && qm && qn && decide (kl.args=[]) && decide (textT km=textT kn)) by rw [kindR,hkl,hkm,hkn])
 have HSM:=Lib.hid (And.intro hkl (And.intro hkm hkn))
 have rg:∀ g,W0.heap.size≤g→g≠w.heap.size+1+1:=fun g h e=>by have:=H0.out.2.1;omega
 have nl:gl≠w.heap.size+1+1:=rg _ (Nat.le_trans H1.out.1.size Rl.out.new)
 have nm:gm≠w.heap.size+1+1:=rg _ (Nat.le_trans HZl.out.1.size Rm.out.new)
 have nn:gn≠w.heap.size+1+1:=rg _ (Nat.le_trans HZm.out.1.size Rn.out.new)
 have rf1:zn.drew.frozen? ⟨w.heap.size+1+1,0,none⟩=false:=rf0
 have rc1:zn.drew.cell? ⟨w.heap.size+1+1,0,none⟩=some (.slice none 0 0):=rc0
 have SBL:Hid (∀ w',Below zn.heap.size zn w'→w'.cell? ⟨gl,0,none⟩=some (.slice xl kl.args.length yl)∧w'.cell? ⟨gm,0,none⟩=some (.slice xm km.args.length ym)∧w'.cell? ⟨gn,0,none⟩=some (.slice xn kn.args.length yn)):=by
  show ∀ w',_→_
  intro w' h
  exact ⟨(h.cell (World.block_lt_of_cell? _ _ bl)).trans bl,(h.cell (World.block_lt_of_cell? _ _ bm)).trans bm,(h.cell (World.block_lt_of_cell? _ _ bn)).trans bn⟩
 clear hkl hkm hkn Cl Cm Cn rg bl bm bn
 cases ql with
 | false =>
   have HEE:=Lib.hid (show kindR ns (.ite l m n)=(km,false) by rw [HE.out];simp)
   refine wp_region_noPanic ?_
   refine wp_region_S (fun w'=>w'.cell? ⟨gl,0,none⟩=some (.slice xl kl.args.length yl)∧w'.cell? ⟨gm,0,none⟩=some (.slice xm km.args.length ym)∧w'.cell? ⟨gn,0,none⟩=some (.slice xn kn.args.length yn)) (fun _=>false) (by kernel_rfl) ?_
   have hSd:(fun w'=>w'.cell? ⟨gl,0,none⟩=some (.slice xl kl.args.length yl)∧w'.cell? ⟨gm,0,none⟩=some (.slice xm km.args.length ym)∧w'.cell? ⟨gn,0,none⟩=some (.slice xn kn.args.length yn)) zn.drew:=SBL.out zn.drew (Below.drew (Below.refl _ _))
   refine tk [0,1,2,3,4,5,6,7,8,9,10,11,12,13,14,15,16,17,18,19,20] hSd ?_
   (intro d hd;simp [tkD] at hd;subst hd;simp only [tks,pQ,pZ,pS])
   iterate 21 (refine ⟨?_,?_,?_⟩;rotate_left;· (intro oi ho;simp at ho;subst ho;first | (refine Or.inr ⟨by rfl,?_⟩;with_reducible rfl) | (refine Or.inl ⟨by rfl,fun w' hw'=>?_⟩;obtain ⟨e0,e1,e2⟩:=hw';go_simp;try with_reducible rfl)))
   (refine on 21 ?_;intro o ho K' hK;simp at ho;subst ho;go_simp)
   (refine hK.out _ _ (fun _=>⟨keep1_set (hSd).1 nl,keep1_set (hSd).2.1 nm,keep1_set (hSd).2.2 nn⟩) ?_;clear hK K';try simp only [pQ,pN,pZ,pS])
   (refine on 22 ?_;intro o ho K' hK;simp at ho;subst ho;go_simp)
   (refine hK.out _ _ (fun _=>⟨keep1_set (hSd).1 nl,keep1_set (hSd).2.1 nm,keep1_set (hSd).2.2 nn⟩) ?_;clear hK K';try simp only [pQ,pN,pZ,pS])
   refine wpAnyS_done (by kernel_rfl) (NoPanic.normal ?_) _
   go_wp2_with fail
   obtain ⟨W,hW,s0,hbW,hkW⟩:=box1_store (BR.out) (.slice xm km.args.length ym)
   rw [← hW]
   refine bodyPost_ret (v:=.tuple #[.agg #[.slice xm km.args.length ym],.bool false]) (by simp [results,Tryz.results17,go_sem,s0]) rfl ?_
   rw [HEE.out]
   exact kd_fin (k:=km) HP.out.1.old H0.out.1 H0.out.2.1 HZn.out.1 Tm.out (fun B w0 h hB=>(hbW B w0 h hB).drew) hkW
 | true =>
   cases qm with
   | false =>
     have HEE:=Lib.hid (show kindR ns (.ite l m n)=(km,false) by rw [HE.out];simp)
     refine wp_region_noPanic ?_
     refine wp_region_S (fun w'=>w'.cell? ⟨gl,0,none⟩=some (.slice xl kl.args.length yl)∧w'.cell? ⟨gm,0,none⟩=some (.slice xm km.args.length ym)∧w'.cell? ⟨gn,0,none⟩=some (.slice xn kn.args.length yn)) (fun _=>false) (by kernel_rfl) ?_
     have hSd:(fun w'=>w'.cell? ⟨gl,0,none⟩=some (.slice xl kl.args.length yl)∧w'.cell? ⟨gm,0,none⟩=some (.slice xm km.args.length ym)∧w'.cell? ⟨gn,0,none⟩=some (.slice xn kn.args.length yn)) zn.drew:=SBL.out zn.drew (Below.drew (Below.refl _ _))
     refine tk [0,1,2,3,4,5,6,7,8,9,10,11,12,13,14,15,16,17,18,19,20] hSd ?_
     (intro d hd;simp [tkD] at hd;subst hd;simp only [tks,pQ,pZ,pS])
     iterate 21 (refine ⟨?_,?_,?_⟩;rotate_left;· (intro oi ho;simp at ho;subst ho;first | (refine Or.inr ⟨by rfl,?_⟩;with_reducible rfl) | (refine Or.inl ⟨by rfl,fun w' hw'=>?_⟩;obtain ⟨e0,e1,e2⟩:=hw';go_simp;try with_reducible rfl)))
     (refine on 21 ?_;intro o ho K' hK;simp at ho;subst ho;go_simp)
     (refine hK.out _ _ (fun _=>⟨keep1_set (hSd).1 nl,keep1_set (hSd).2.1 nm,keep1_set (hSd).2.2 nn⟩) ?_;clear hK K';try simp only [pQ,pN,pZ,pS])
     (refine on 22 ?_;intro o ho K' hK;simp at ho;subst ho;go_simp)
     (refine hK.out _ _ (fun _=>⟨keep1_set (hSd).1 nl,keep1_set (hSd).2.1 nm,keep1_set (hSd).2.2 nn⟩) ?_;clear hK K';try simp only [pQ,pN,pZ,pS])
     refine wpAnyS_done (by kernel_rfl) (NoPanic.normal ?_) _
     go_wp2_with fail
     obtain ⟨W,hW,s0,hbW,hkW⟩:=box1_store (BR.out) (.slice xm km.args.length ym)
     rw [← hW]
     refine bodyPost_ret (v:=.tuple #[.agg #[.slice xm km.args.length ym],.bool false]) (by simp [results,Tryz.results17,go_sem,s0]) rfl ?_
     rw [HEE.out]
     exact kd_fin (k:=km) HP.out.1.old H0.out.1 H0.out.2.1 HZn.out.1 Tm.out (fun B w0 h hB=>(hbW B w0 h hB).drew) hkW
   | true =>
     cases qn with
     | false =>
       have HEE:=Lib.hid (show kindR ns (.ite l m n)=(km,false) by rw [HE.out];simp)
       refine wp_region_noPanic ?_
       refine wp_region_S (fun w'=>w'.cell? ⟨gl,0,none⟩=some (.slice xl kl.args.length yl)∧w'.cell? ⟨gm,0,none⟩=some (.slice xm km.args.length ym)∧w'.cell? ⟨gn,0,none⟩=some (.slice xn kn.args.length yn)) (fun _=>false) (by kernel_rfl) ?_
       have hSd:(fun w'=>w'.cell? ⟨gl,0,none⟩=some (.slice xl kl.args.length yl)∧w'.cell? ⟨gm,0,none⟩=some (.slice xm km.args.length ym)∧w'.cell? ⟨gn,0,none⟩=some (.slice xn kn.args.length yn)) zn.drew:=SBL.out zn.drew (Below.drew (Below.refl _ _))
       refine tk [0,1,2,3,4,5,6,7,8,9,10,11,12,13,14,15,16,17,18,19,20] hSd ?_
       (intro d hd;simp [tkD] at hd;subst hd;simp only [tks,pQ,pZ,pS])
       iterate 21 (refine ⟨?_,?_,?_⟩;rotate_left;· (intro oi ho;simp at ho;subst ho;first | (refine Or.inr ⟨by rfl,?_⟩;with_reducible rfl) | (refine Or.inl ⟨by rfl,fun w' hw'=>?_⟩;obtain ⟨e0,e1,e2⟩:=hw';go_simp;try with_reducible rfl)))
       (refine on 21 ?_;intro o ho K' hK;simp at ho;subst ho;go_simp)
       (refine hK.out _ _ (fun _=>⟨keep1_set (hSd).1 nl,keep1_set (hSd).2.1 nm,keep1_set (hSd).2.2 nn⟩) ?_;clear hK K';try simp only [pQ,pN,pZ,pS])
       (refine on 22 ?_;intro o ho K' hK;simp at ho;subst ho;go_simp)
       (refine hK.out _ _ (fun _=>⟨keep1_set (hSd).1 nl,keep1_set (hSd).2.1 nm,keep1_set (hSd).2.2 nn⟩) ?_;clear hK K';try simp only [pQ,pN,pZ,pS])
       refine wpAnyS_done (by kernel_rfl) (NoPanic.normal ?_) _
       go_wp2_with fail
       obtain ⟨W,hW,s0,hbW,hkW⟩:=box1_store (BR.out) (.slice xm km.args.length ym)
       rw [← hW]
       refine bodyPost_ret (v:=.tuple #[.agg #[.slice xm km.args.length ym],.bool false]) (by simp [results,Tryz.results17,go_sem,s0]) rfl ?_
       rw [HEE.out]
       exact kd_fin (k:=km) HP.out.1.old H0.out.1 H0.out.2.1 HZn.out.1 Tm.out (fun B w0 h hB=>(hbW B w0 h hB).drew) hkW
     | true =>
       have hm15:=type_small m ns km HP.out.1.n15 (by have:=kindR_some (t:=m) (ns:=ns) HP.out.2.2.1.2 (by rw [HSM.out.2.1]);rwa [HSM.out.2.1] at this)
       have hn15:=type_small n ns kn HP.out.1.n15 (by have:=kindR_some (t:=n) (ns:=ns) HP.out.2.2.2 (by rw [HSM.out.2.2]);rwa [HSM.out.2.2] at this)
       by_cases hnil:kl.args=[]
       ·have hz0:(((kl.args.length:Nat):Int) == 0)=true:=by rw [hnil];rfl
        have HE2:=Lib.hid (show kindR ns (.ite l m n)=(km,decide (textT km=textT kn)) by rw [HE.out,hnil];simp)
        have CT1:=Lib.hid (fun wz (h:Below zn.heap.size zn wz)=>l1Text_any 15 km hm15 (by omega) _ wz _ (Rep.below (F':=fun i=>F i∨W0.heap.size≤i) h (fun _ h=>h) Tm.out))
        have CT2:=Lib.hid (fun wz (h:Below zn.heap.size zn wz)=>l1Text_any 15 kn hn15 (by omega) _ wz _ (Rep.below (F':=fun i=>F i∨W0.heap.size≤i) h (fun _ h=>h) Tn.out))
        clear hnil hm15 hn15
        by_cases heq:textT km=textT kn
        ·have HEE:=Lib.hid (show kindR ns (.ite l m n)=(km,true) by rw [HE2.out,decide_eq_true heq])
         have q1:(textT km == textT kn)=true:=by rw [beq_iff_eq];exact heq
         clear heq
         obtain ⟨X1,hX1⟩:∃ x,x=textT km:=⟨_,rfl⟩
         obtain ⟨X2,hX2⟩:∃ x,x=textT kn:=⟨_,rfl⟩
         rw [← hX1] at CT1 q1;rw [← hX2] at CT2 q1
         clear hX1 hX2 rf1 rc1
         refine wp_region_noPanic ?_
         refine wp_region_S (fun w'=>w'.cell? ⟨gl,0,none⟩=some (.slice xl kl.args.length yl)∧w'.cell? ⟨gm,0,none⟩=some (.slice xm km.args.length ym)∧w'.cell? ⟨gn,0,none⟩=some (.slice xn kn.args.length yn)) (fun _=>false) (by kernel_rfl) ?_
         have hSd:(fun w'=>w'.cell? ⟨gl,0,none⟩=some (.slice xl kl.args.length yl)∧w'.cell? ⟨gm,0,none⟩=some (.slice xm km.args.length ym)∧w'.cell? ⟨gn,0,none⟩=some (.slice xn kn.args.length yn)) zn.drew:=SBL.out zn.drew (Below.drew (Below.refl _ _))
         refine tk [0,1,2,3,4,5,6,7,8,9,10,11,12,13,14,15,17] hSd ?_
         (intro d hd;simp [tkD] at hd;subst hd;simp only [tks,pQ,pZ,pS])
         iterate 17 (refine ⟨?_,?_,?_⟩;rotate_left;· (intro oi ho;simp at ho;subst ho;refine Or.inl ⟨by rfl,fun w' hw'=>?_⟩;obtain ⟨e0,e1,e2⟩:=hw';go_simp;try with_reducible rfl))
         (refine on 16 ?_;intro o ho K' hK;simp at ho;subst ho;go_simp)
         go_at_call 29
         (with_reducible refine (CT1.out _ (Below.drew (Below.refl zn.heap.size zn))).mono ?_)
         rintro en v1 ⟨rfl,hb⟩
         have HV1:Hid (Below zn.heap.size zn v1):=(Below.drew (Below.refl zn.heap.size zn)).trans hb
         clear hb
         (refine hK.out _ _ (fun _=>SBL.out v1 HV1.out) ?_;clear hK K';try simp only [pQ,pN,pZ,pS])
         have hS16:=SBL.out v1 HV1.out
         (refine on 18 ?_;intro o ho K' hK;simp at ho;subst ho;go_simp)
         go_at_call 29
         (with_reducible refine (CT2.out _ HV1.out).mono ?_)
         rintro en v2 ⟨rfl,hb⟩
         have HV2:Hid (Below zn.heap.size zn v2):=HV1.out.trans (hb.mono HV1.out.size)
         clear hb
         (refine hK.out _ _ (fun _=>SBL.out v2 HV2.out) ?_;clear hK K';try simp only [pQ,pN,pZ,pS])
         have hS18:=SBL.out v2 HV2.out
         have BR2:Hid (v2.heap[w.heap.size+1+1]? = some (.cells #[.slice none 0 0] 31 (0,0))):=(HV2.out.block _ (lt_of_heap BR.out)).trans BR.out
         have rf2:v2.frozen? ⟨w.heap.size+1+1,0,none⟩=false:=by simp only [World.frozen?,BR2.out];rfl
         have rc2:v2.cell? ⟨w.heap.size+1+1,0,none⟩=some (.slice none 0 0):=by simp only [World.cell?,BR2.out];rfl
         have hS2:=SBL.out v2 HV2.out
         refine tk [19,20] hS18 ?_
         (intro d hd;simp [tkD] at hd;subst hd;simp only [tks,pQ,pZ,pS])
         iterate 2 (refine ⟨?_,?_,?_⟩;rotate_left;· (intro oi ho;simp at ho;subst ho;refine Or.inl ⟨by rfl,fun w' hw'=>?_⟩;go_simp;try with_reducible rfl))
         (refine on 21 ?_;intro o ho K' hK;simp at ho;subst ho;go_simp)
         (refine hK.out _ _ (fun _=>⟨keep1_set (hS2).1 nl,keep1_set (hS2).2.1 nm,keep1_set (hS2).2.2 nn⟩) ?_;clear hK K';try simp only [pQ,pN,pZ,pS])
         (refine on 22 ?_;intro o ho K' hK;simp at ho;subst ho;go_simp)
         (refine hK.out _ _ (fun _=>⟨keep1_set (hS2).1 nl,keep1_set (hS2).2.1 nm,keep1_set (hS2).2.2 nn⟩) ?_;clear hK K';try simp only [pQ,pN,pZ,pS])
         refine wpAnyS_done (by kernel_rfl) (NoPanic.normal ?_) _
         have HZ2:Hid (Below W0.heap.size W0 v2):=HZn.out.1.trans (HV2.out.mono HZn.out.1.size)
         have T2:Hid (Rep (fun i=>F i∨W0.heap.size≤i) v2 (encS km) (.slice xm km.args.length ym)):=Rep.below HV2.out (fun _ h=>h) Tm.out
         go_wp2_with fail
         obtain ⟨W,hW,s0,hbW,hkW⟩:=box1_store (BR2.out) (.slice xm km.args.length ym)
         rw [← hW]
         refine bodyPost_ret (v:=.tuple #[.agg #[.slice xm km.args.length ym],.bool true]) (by simp [results,Tryz.results17,go_sem,s0]) rfl ?_
         rw [HEE.out]
         exact kd_fin (k:=km) HP.out.1.old H0.out.1 H0.out.2.1 HZ2.out T2.out hbW hkW
        ·have HEE:=Lib.hid (show kindR ns (.ite l m n)=(km,false) by rw [HE2.out,decide_eq_false heq])
         have q1:(textT km == textT kn)=false:=by rw [beq_eq_false_iff_ne];exact heq
         clear heq
         obtain ⟨X1,hX1⟩:∃ x,x=textT km:=⟨_,rfl⟩
         obtain ⟨X2,hX2⟩:∃ x,x=textT kn:=⟨_,rfl⟩
         rw [← hX1] at CT1 q1;rw [← hX2] at CT2 q1
         clear hX1 hX2 rf1 rc1
         refine wp_region_noPanic ?_
         refine wp_region_S (fun w'=>w'.cell? ⟨gl,0,none⟩=some (.slice xl kl.args.length yl)∧w'.cell? ⟨gm,0,none⟩=some (.slice xm km.args.length ym)∧w'.cell? ⟨gn,0,none⟩=some (.slice xn kn.args.length yn)) (fun _=>false) (by kernel_rfl) ?_
         have hSd:(fun w'=>w'.cell? ⟨gl,0,none⟩=some (.slice xl kl.args.length yl)∧w'.cell? ⟨gm,0,none⟩=some (.slice xm km.args.length ym)∧w'.cell? ⟨gn,0,none⟩=some (.slice xn kn.args.length yn)) zn.drew:=SBL.out zn.drew (Below.drew (Below.refl _ _))
         refine tk [0,1,2,3,4,5,6,7,8,9,10,11,12,13,14,15,17] hSd ?_
         (intro d hd;simp [tkD] at hd;subst hd;simp only [tks,pQ,pZ,pS])
         iterate 17 (refine ⟨?_,?_,?_⟩;rotate_left;· (intro oi ho;simp at ho;subst ho;refine Or.inl ⟨by rfl,fun w' hw'=>?_⟩;obtain ⟨e0,e1,e2⟩:=hw';go_simp;try with_reducible rfl))
         (refine on 16 ?_;intro o ho K' hK;simp at ho;subst ho;go_simp)
         go_at_call 29
         (with_reducible refine (CT1.out _ (Below.drew (Below.refl zn.heap.size zn))).mono ?_)
         rintro en v1 ⟨rfl,hb⟩
         have HV1:Hid (Below zn.heap.size zn v1):=(Below.drew (Below.refl zn.heap.size zn)).trans hb
         clear hb
         (refine hK.out _ _ (fun _=>SBL.out v1 HV1.out) ?_;clear hK K';try simp only [pQ,pN,pZ,pS])
         have hS16:=SBL.out v1 HV1.out
         (refine on 18 ?_;intro o ho K' hK;simp at ho;subst ho;go_simp)
         go_at_call 29
         (with_reducible refine (CT2.out _ HV1.out).mono ?_)
         rintro en v2 ⟨rfl,hb⟩
         have HV2:Hid (Below zn.heap.size zn v2):=HV1.out.trans (hb.mono HV1.out.size)
         clear hb
         (refine hK.out _ _ (fun _=>SBL.out v2 HV2.out) ?_;clear hK K';try simp only [pQ,pN,pZ,pS])
         have hS18:=SBL.out v2 HV2.out
         have BR2:Hid (v2.heap[w.heap.size+1+1]? = some (.cells #[.slice none 0 0] 31 (0,0))):=(HV2.out.block _ (lt_of_heap BR.out)).trans BR.out
         have rf2:v2.frozen? ⟨w.heap.size+1+1,0,none⟩=false:=by simp only [World.frozen?,BR2.out];rfl
         have rc2:v2.cell? ⟨w.heap.size+1+1,0,none⟩=some (.slice none 0 0):=by simp only [World.cell?,BR2.out];rfl
         have hS2:=SBL.out v2 HV2.out
         refine tk [19,20] hS18 ?_
         (intro d hd;simp [tkD] at hd;subst hd;simp only [tks,pQ,pZ,pS])
         iterate 2 (refine ⟨?_,?_,?_⟩;rotate_left;· (intro oi ho;simp at ho;subst ho;refine Or.inl ⟨by rfl,fun w' hw'=>?_⟩;go_simp;try with_reducible rfl))
         (refine on 21 ?_;intro o ho K' hK;simp at ho;subst ho;go_simp)
         (refine hK.out _ _ (fun _=>⟨keep1_set (hS2).1 nl,keep1_set (hS2).2.1 nm,keep1_set (hS2).2.2 nn⟩) ?_;clear hK K';try simp only [pQ,pN,pZ,pS])
         (refine on 22 ?_;intro o ho K' hK;simp at ho;subst ho;go_simp)
         (refine hK.out _ _ (fun _=>⟨keep1_set (hS2).1 nl,keep1_set (hS2).2.1 nm,keep1_set (hS2).2.2 nn⟩) ?_;clear hK K';try simp only [pQ,pN,pZ,pS])
         refine wpAnyS_done (by kernel_rfl) (NoPanic.normal ?_) _
         have HZ2:Hid (Below W0.heap.size W0 v2):=HZn.out.1.trans (HV2.out.mono HZn.out.1.size)
         have T2:Hid (Rep (fun i=>F i∨W0.heap.size≤i) v2 (encS km) (.slice xm km.args.length ym)):=Rep.below HV2.out (fun _ h=>h) Tm.out
         go_wp2_with fail
         obtain ⟨W,hW,s0,hbW,hkW⟩:=box1_store (BR2.out) (.slice xm km.args.length ym)
         rw [← hW]
         refine bodyPost_ret (v:=.tuple #[.agg #[.slice xm km.args.length ym],.bool false]) (by simp [results,Tryz.results17,go_sem,s0]) rfl ?_
         rw [HEE.out]
         exact kd_fin (k:=km) HP.out.1.old H0.out.1 H0.out.2.1 HZ2.out T2.out hbW hkW
       ·have hz0:(((kl.args.length:Nat):Int) == 0)=false:=by
         rw [beq_eq_false_iff_ne]
         cases hc:kl.args with
         | nil=>exact absurd hc hnil
         | cons a b=>simp;omega
        have HE2:=Lib.hid hnil
        clear hnil
        have HEE:=Lib.hid (show kindR ns (.ite l m n)=(km,false) by rw [HE.out,decide_eq_false HE2.out];simp)
        refine wp_region_noPanic ?_
        refine wp_region_S (fun w'=>w'.cell? ⟨gl,0,none⟩=some (.slice xl kl.args.length yl)∧w'.cell? ⟨gm,0,none⟩=some (.slice xm km.args.length ym)∧w'.cell? ⟨gn,0,none⟩=some (.slice xn kn.args.length yn)) (fun _=>false) (by kernel_rfl) ?_
        have hSd:(fun w'=>w'.cell? ⟨gl,0,none⟩=some (.slice xl kl.args.length yl)∧w'.cell? ⟨gm,0,none⟩=some (.slice xm km.args.length ym)∧w'.cell? ⟨gn,0,none⟩=some (.slice xn kn.args.length yn)) zn.drew:=SBL.out zn.drew (Below.drew (Below.refl _ _))
        refine tk [0,1,2,3,4,5,6,7,8,9,10,11,12,13,14,15,16,17,18,19,20] hSd ?_
        (intro d hd;simp [tkD] at hd;subst hd;simp only [tks,pQ,pZ,pS])
        iterate 21 (refine ⟨?_,?_,?_⟩;rotate_left;· (intro oi ho;simp at ho;subst ho;first | (refine Or.inr ⟨by rfl,?_⟩;with_reducible rfl) | (refine Or.inl ⟨by rfl,fun w' hw'=>?_⟩;obtain ⟨e0,e1,e2⟩:=hw';go_simp;try with_reducible rfl)))
        (refine on 21 ?_;intro o ho K' hK;simp at ho;subst ho;go_simp)
        (refine hK.out _ _ (fun _=>⟨keep1_set (hSd).1 nl,keep1_set (hSd).2.1 nm,keep1_set (hSd).2.2 nn⟩) ?_;clear hK K';try simp only [pQ,pN,pZ,pS])
        (refine on 22 ?_;intro o ho K' hK;simp at ho;subst ho;go_simp)
        (refine hK.out _ _ (fun _=>⟨keep1_set (hSd).1 nl,keep1_set (hSd).2.1 nm,keep1_set (hSd).2.2 nn⟩) ?_;clear hK K';try simp only [pQ,pN,pZ,pS])
        refine wpAnyS_done (by kernel_rfl) (NoPanic.normal ?_) _
        go_wp2_with fail
        obtain ⟨W,hW,s0,hbW,hkW⟩:=box1_store (BR.out) (.slice xm km.args.length ym)
        rw [← hW]
        refine bodyPost_ret (v:=.tuple #[.agg #[.slice xm km.args.length ym],.bool false]) (by simp [results,Tryz.results17,go_sem,s0]) rfl ?_
        rw [HEE.out]
        exact kd_fin (k:=km) HP.out.1.old H0.out.1 H0.out.2.1 HZn.out.1 Tm.out (fun B w0 h hB=>(hbW B w0 h hB).drew) hkW
end Go.Proofs.YtapjaflnmklmeaaGreatDoor
namespace Go.Proofs.YtapjaflnmklmeaaGreatDoor
open Go.RowKit
theorem withNames (F:Nat→Prop) (ns:List Nm) (x:Bs) (k:Ty) (nv tv:Value) (ta:Option Addr) (tc:Nat) (w:World) (rn:Rep F w (.sl 9 1 ns.length (ns.map fun p=>DV.val (str p.1))) nv) (rk:Rep F w (.sl 31 1 ns.length (encSs (kinds ns))) tv) (ra:Rep F w (encS k) (.slice ta k.args.length tc)) (hn:ns.length≤1000) :
 Calls Tryz.prog 23 #[.agg #[nv,tv],str x,.agg #[.slice ta k.args.length tc]] w fun en w'=>∃ a5 c5 a6 c6,en=.returned (.agg #[.slice a5 (ns.length+1) c5,.slice a6 (ns.length+1) c6])∧Below w.heap.size w w' ∧
  Rep (fun i=>F i∨w.heap.size≤i) w' (.sl 9 1 (ns++[(x,k)]).length ((ns++[(x,k)]).map fun p=>DV.val (str p.1))) (.slice a5 (ns.length+1) c5)∧Rep (fun i=>F i∨w.heap.size≤i) w' (.sl 31 1 (ns++[(x,k)]).length (encSs (kinds (ns++[(x,k)])))) (.slice a6 (ns.length+1) c6):=by
 obtain ⟨xs,hxs,hsx⟩:=SrcSl.ofRep rn (fun us hu u hm=>by
  obtain ⟨j,hj⟩:=List.mem_iff_getElem?.1 hm
  have hjl:=(List.getElem?_eq_some_iff.1 hj).1
  have hlen:=hu.length
  rw [List.length_map] at hlen
  have hd:(ns.map fun p=>DV.val (str p.1))[j]? = some (.val (str (ns[j]'(by omega)).1)):=by rw [List.getElem?_map,List.getElem?_eq_getElem (by omega)];rfl
  obtain ⟨v,hv,hr⟩:=Reps.at hu hd
  rw [hj] at hv
  obtain rfl:=Option.some.inj hv
  rw [Rep_val] at hr
  subst hr
  simp [str,Value.oneCell'])
 obtain ⟨ys,hys,hsy⟩:=SrcSl.ofRep rk (oneCell_encSs _)
 refine (l5With_any ns.length ns.length nv tv xs ys x ta k.args.length tc w hsx hsy (by omega) (by omega)).mono ?_
 rintro en w' ⟨a5,c5,a6,c6,rfl,hb,ho5,ho6,hg5,hg6⟩
 refine ⟨a5,c5,a6,c6,rfl,hb,?_,?_⟩
 ·rw [List.length_append,List.map_append]
  exact ho5.rep (fun g hg=>.inr (hg5 g hg)) ((Reps.below hb (fun _ h=>.inl h) hxs).append (Reps_cons.2 ⟨_,_,rfl,Rep_val.2 rfl,Reps_nil.2 rfl⟩))
 ·rw [List.length_append,kinds_snoc,encSs_append]
  refine ho6.rep (fun g hg=>.inr (hg6 g hg)) ((Reps.below hb (fun _ h=>.inl h) hys).append ?_)
  rw [encSs,encSs]
  exact Reps_cons.2 ⟨_,_,rfl,Rep.below hb (fun _ h=>.inl h) ra,Reps_nil.2 rfl⟩
set_option maxRecDepth 100000 in
set_option maxHeartbeats 4000000 in
theorem kd_lam (N:Nat) (ih:KdSaid N) (F:Nat→Prop) (x:Bs) (k:Ty) (t:Tm) (ns:List Nm) (nv tv s pv:Value) (w:World) (hN:sizeTm (.lam x k t)≤N+1) (hp:KdPre F (.lam x k t) ns nv tv s pv w):Calls Tryz.prog 17 #[.agg #[nv,tv],.agg #[s,pv]] w (KdPost F w (kindR ns (.lam x k t)).1 (kindR ns (.lam x k t)).2):=by
 have hold:=hp.old
 obtain ⟨na,nc,rfl,_,_,hatN⟩:=Rep_sl1_open hp.rn
 obtain ⟨ka,kc,rfl,_,_,hatK⟩:=Rep_sl1_open hp.rk
 have hrt:=hp.rt
 rw [trTm] at hrt
 obtain ⟨qa,qc,e,hkids⟩:=encTr_open hrt
 simp only [atomTr,kidsTr,List.cons.injEq,and_true] at e hkids
 obtain ⟨rfl,rfl⟩:=e
 obtain ⟨_,_,e,hat⟩:=AtTrs.of hkids
 simp only [Value.slice.injEq,true_and] at e
 obtain ⟨rfl,rfl⟩:=e
 obtain ⟨pb1,po1,s1,a1,n1,c1,d1,pe1,pw1,pq1,pc1,pd1,pr1,ps1,pn1⟩:=hat 1 (by simp)
 simp only [List.getElem?_cons_zero,List.getElem?_cons_succ,Option.some.injEq] at pq1
 subst pq1
 subst pe1
 obtain ⟨pb2,po2,s2,a2,n2,c2,d2,pe2,pw2,pq2,pc2,pd2,pr2,ps2,pn2⟩:=hat 2 (by simp)
 simp only [List.getElem?_cons_zero,List.getElem?_cons_succ,Option.some.injEq] at pq2
 subst pq2
 simp only [Option.some.injEq,Addr.mk.injEq,and_true] at pe2
 obtain ⟨rfl,rfl⟩:=pe2
 obtain ⟨pb3,po3,s3,a3,n3,c3,d3,pe3,pw3,pq3,pc3,pd3,pr3,ps3,pn3⟩:=hat 3 (by simp)
 simp only [List.getElem?_cons_zero,List.getElem?_cons_succ,Option.some.injEq] at pq3
 subst pq3
 simp only [Option.some.injEq,Addr.mk.injEq,and_true] at pe3
 obtain ⟨rfl,rfl⟩:=pe3
 simp only [atomTr] at ps1
 subst ps1
 have hroom:=hp.room
 have hok:=hp.ok
 have hsm:=hp.sm
 have hak:=atomsT_pos k
 rw [sizeTm] at hroom hN
 rw [smallTm,Bool.and_eq_true,decide_eq_true_eq] at hsm
 obtain ⟨W0,hW0⟩:∃ W,W=((w.alloc (.cells #[.slice na ns.length nc,.slice ka ns.length kc] 41)).alloc (.cells #[str [],.slice (some ⟨pb1,po1,none⟩) 4 qc] 28)).alloc (.cells #[.slice none 0 0] 31):=⟨_,rfl⟩
 obtain ⟨hb0,z0,bA,bB,bC⟩:=boxes3 w (.cells #[.slice na ns.length nc,.slice ka ns.length kc] 41) (.cells #[str [],.slice (some ⟨pb1,po1,none⟩) 4 qc] 28) (.cells #[.slice none 0 0] 31)
 rw [← hW0] at hb0 z0 bA bB bC
 have CH:=Lib.hid (show Calls Tryz.prog 20 #[.agg #[str [],.slice (some ⟨pb1,po1,none⟩) 4 qc]] W0 (fun en w'=>en=.returned (str (headW (trTm (.lam s1 k t))))∧Below W0.heap.size W0 w') from l5Head_any (trTm (.lam s1 k t)) (okTr_Tm _ hp.ok) F W0 _ _ (Reps.below hb0 (fun _ h=>h) hp.rt))
 have hHW:headW (trTm (.lam s1 k t))=[108,97,109]:=by rw [trTm];rfl
 rw [hHW] at CH
 have H0:=Lib.hid (And.intro hb0 (And.intro z0 (And.intro bA bC)))
 have e0:W0.cell? ⟨w.heap.size,0,none⟩=some (.slice na ns.length nc):=by simp [World.cell?,bA]
 have e1:W0.cell? ⟨w.heap.size,1,none⟩=some (.slice ka ns.length kc):=by simp [World.cell?,bA]
 have SX:Hid (∀ w',Below W0.heap.size W0 w'→w'.cell? ⟨w.heap.size,0,none⟩=some (.slice na ns.length nc)∧w'.cell? ⟨w.heap.size,1,none⟩=some (.slice ka ns.length kc)∧w'.cell? ⟨pb1,po1+2,none⟩=some (str s1)∧w'.cell? ⟨pb1,po1+4,none⟩=some (str s2)∧w'.cell? ⟨pb1,po1+5,none⟩=some (.slice a2 n2 c2)∧w'.cell? ⟨pb1,po1+6,none⟩=some (str s3)∧w'.cell? ⟨pb1,po1+7,none⟩=some (.slice a3 n3 c3)):=by
  show ∀ w',_→_
  intro w' hb'
  have hb0':=hb0.trans (hb'.mono hb0.size)
  exact ⟨(hb'.cell (World.block_lt_of_cell? W0 _ e0)).trans e0,(hb'.cell (World.block_lt_of_cell? W0 _ e1)).trans e1,(hb0'.cell (p:=⟨pb1,po1+2,none⟩) pw1).trans pc1,(hb0'.cell (p:=⟨pb1,po1+4,none⟩) pw1).trans pc2,(hb0'.cell (p:=⟨pb1,po1+5,none⟩) pw1).trans pd2,(hb0'.cell (p:=⟨pb1,po1+6,none⟩) pw1).trans pc3,(hb0'.cell (p:=⟨pb1,po1+7,none⟩) pw1).trans pd3⟩
 have hlx:=textT_length 15 k hsm.1
 have CX:Hid (∀ wz,Below w.heap.size w wz→Calls Tryz.prog 22 #[.agg #[str s2,.slice a2 n2 c2]] wz fun en w'=>en=.returned (str (textT k))∧Below wz.heap.size wz w'):=by
  show ∀ wz,_→_
  intro wz hz
  have h:=l5Text_any (textTr (trT k)).length (trT k) (Nat.le_refl _) (show _≤_ by rw [textTr_T];omega) (okTr_T k) F wz _ _ (Reps.below hz (fun _ h=>h) pr2)
  rw [textTr_T] at h
  exact h
 have CY:Hid (∀ wz,Calls Tryz.prog 21 #[str (textT k)] wz fun en w'=>∃ ta tc,en=.returned (.tuple #[.agg #[.slice ta k.args.length tc],.bool true])∧Below wz.heap.size wz w'∧Rep (wz.heap.size≤·) w' (encS k) (.slice ta k.args.length tc)):=by
  show ∀ wz,_
  intro wz
  refine (l1Type_any (textT k) (show _≤_ by omega) wz).mono ?_
  rintro en w' ⟨v,rfl,hb,hr⟩
  rw [specType_text hsm.1] at hr ⊢
  obtain ⟨ta,tc,rfl⟩:=encS_slice hr
  exact ⟨ta,tc,rfl,hb,hr⟩
 obtain ⟨X,hX⟩:∃ X,X=textT k:=⟨_,rfl⟩
 rw [← hX] at CX CY
 have HP:=Lib.hid (And.intro hp (And.intro hok (And.intro hsm (And.intro pr3 hN))))
 have IH:=Lib.hid ih
 have hlen:ns.length≤99:=by omega
 clear hatN hatK hkids hat hrt hp hok hsm ih hN hb0 z0 bA bB bC e0 e1 pr1 pc1 pd1 pn1 pr2 pc2 pd2 ps2 pn2 pr3 pc3 pd3 ps3 pn3 pw1 pw2 pw3 hX hlx
 go_enter Tryz.func17,Tryz.ntmps17
 go_wp2_with fail
 rw [← hW0]
 clear hW0
 (with_reducible refine CH.out.mono ?_)
 rintro en w1 ⟨rfl,hb1⟩
 have H1:=Lib.hid (And.intro hb1 (H0.out.1.trans (hb1.mono H0.out.1.size)))
 have CX1:=Lib.hid (CX.out w1 H1.out.2)
 obtain ⟨e0,e1,f1,f2,h2,f3,h3⟩:=SX.out w1 H1.out.1
 clear hb1 CH CX e0 e1 f1 f3 h3
 go_wp2_with fail
 (with_reducible refine CX1.out.mono ?_)
 rintro en w2 ⟨rfl,hb2⟩
 have H2:=Lib.hid (And.intro (H1.out.1.trans (hb2.mono H1.out.1.size)) (H1.out.2.trans (hb2.mono H1.out.2.size)))
 clear hb2 f2 h2 CX1
 go_wp2_with fail
 (with_reducible refine (CY.out w2).mono ?_)
 rintro en w3 ⟨ta,tc,rfl,hb3,hr3⟩
 have H3:=Lib.hid (And.intro (H2.out.1.trans (hb3.mono H2.out.1.size)) (And.intro (H2.out.2.trans (hb3.mono H2.out.2.size)) (hr3.weak (G:=fun i=>F i∨W0.heap.size≤i) (fun i h=>.inr (Nat.le_trans H2.out.1.size h)))))
 clear hb3 hr3 CY
 go_wp2_with fail
 obtain ⟨V,hV⟩:∃ V,w3.alloc (.cells #[.slice ta k.args.length tc] 31)=V:=⟨_,rfl⟩
 rw [hV]
 have hbV:Below w3.heap.size w3 V:=by rw [← hV];exact (Below.refl _ _).alloc (Nat.le_refl _) _
 obtain ⟨ga,hga⟩:∃ g,w3.heap.size=g:=⟨_,rfl⟩
 have bA8:V.cell? ⟨ga,0,none⟩=some (.slice ta k.args.length tc):=by rw [← hV,← hga];simp
 have HV:=Lib.hid (And.intro (H3.out.1.trans (hbV.mono H3.out.1.size)) (H3.out.2.1.trans (hbV.mono H3.out.2.1.size)))
 have TA:Hid (Rep (fun i=>i<V.heap.size∧(F i∨W0.heap.size≤i)) V (encS k) (.slice ta k.args.length tc)):=(Rep.keep fun i x h hx=>⟨⟨lt_of_heap hx,h⟩,hx⟩).1 _ _ (Rep.below (F':=fun i=>F i∨W0.heap.size≤i) hbV (fun _ h=>h) H3.out.2.2)
 rw [hga]
 have SV:Hid (∀ w',Below V.heap.size V w'→w'.cell? ⟨w.heap.size,0,none⟩=some (.slice na ns.length nc)∧w'.cell? ⟨w.heap.size,1,none⟩=some (.slice ka ns.length kc)∧w'.cell? ⟨pb1,po1+2,none⟩=some (str s1)∧w'.cell? ⟨pb1,po1+6,none⟩=some (str s3)∧w'.cell? ⟨pb1,po1+7,none⟩=some (.slice a3 n3 c3)∧w'.cell? ⟨ga,0,none⟩=some (.slice ta k.args.length tc)):=by
  show ∀ w',_→_
  intro w' h
  obtain ⟨e0,e1,f1,_,_,f3,h3⟩:=SX.out w' (HV.out.1.trans (h.mono HV.out.1.size))
  exact ⟨e0,e1,f1,f3,h3,(h.cell (World.block_lt_of_cell? _ _ bA8)).trans bA8⟩
 have oldV:Hid (∀ i,F i→i<V.heap.size):=fun i h=>Nat.lt_of_lt_of_le (HP.out.1.old i h) HV.out.2.size
 have CW:=Lib.hid (fun wz (hz:Below V.heap.size V wz)=>withNames (fun i=>i<V.heap.size∧(F i∨W0.heap.size≤i)) ns s1 k (.slice na ns.length nc) (.slice ka ns.length kc) ta tc wz ((Rep.keep fun i x (h:F i) hx=>⟨⟨oldV.out i h,.inl h⟩,hx⟩).1 _ _ (Rep.below (F':=F) (HV.out.2.trans (hz.mono HV.out.2.size)) (fun _ h=>h) HP.out.1.rn)) ((Rep.keep fun i x (h:F i) hx=>⟨⟨oldV.out i h,.inl h⟩,hx⟩).1 _ _ (Rep.below (F':=F) (HV.out.2.trans (hz.mono HV.out.2.size)) (fun _ h=>h) HP.out.1.rk)) (Rep.below (F':=fun i=>i<V.heap.size∧(F i∨W0.heap.size≤i)) hz (fun _ h=>h) TA.out) (by omega))
 obtain ⟨kt,qt,hkt⟩:∃ a b,kindR (ns++[(s1,k)]) t=(a,b):=⟨_,_,rfl⟩
 have CZ:Hid (∀ (B:Nat) (A1:World) (a5 a6:Option Addr) (c5 c6:Nat),V.heap.size≤B→Below V.heap.size V A1 →
  Rep (fun i=>((i<V.heap.size∧(F i∨W0.heap.size≤i))∨B≤i)∧i<A1.heap.size) A1 (.sl 9 1 (ns++[(s1,k)]).length ((ns++[(s1,k)]).map fun p=>DV.val (str p.1))) (.slice a5 (ns.length+1) c5) →
  Rep (fun i=>((i<V.heap.size∧(F i∨W0.heap.size≤i))∨B≤i)∧i<A1.heap.size) A1 (.sl 31 1 (ns++[(s1,k)]).length (encSs (kinds (ns++[(s1,k)])))) (.slice a6 (ns.length+1) c6)→∀ (E:Nat→Prop),(∀ i,F i→E i)→(∀ i,(((i<V.heap.size∧(F i∨W0.heap.size≤i))∨B≤i)∧i<A1.heap.size)→∀ x,A1.heap[i]? = some x→E i)→(∀ i,E i→i<A1.heap.size) →
  Calls Tryz.prog 17 #[.agg #[.slice a5 (ns.length+1) c5,.slice a6 (ns.length+1) c6],.agg #[str s3,.slice a3 n3 c3]] A1 (KdPost E A1 kt qt)):=by
  show ∀ _,_
  intro B A1 a5 a6 c5 c6 hB hz h5 h6 E hFE hE hEl
  have hwz:=HV.out.2.trans (hz.mono HV.out.2.size)
  have h:=IH.out E t (ns++[(s1,k)]) _ _ _ _ A1 (by have:=HP.out.2.2.2.2;omega) ⟨hEl,Reps.below hwz hFE HP.out.2.2.2.1,(Rep.keep fun i x hi hx=>⟨hE i hi x hx,hx⟩).1 _ _ h5,(Rep.keep fun i x hi hx=>⟨hE i hi x hx,hx⟩).1 _ _ h6,HP.out.2.1.2,HP.out.2.2.1.2,(fun p hm=>by
   rcases List.mem_append.1 hm with hm | hm
   ·exact HP.out.1.nm p hm
   ·simp at hm;subst hm;exact HP.out.2.1.1),(fun a ha=>by
   rw [kinds_snoc] at ha
   rcases List.mem_append.1 ha with ha | ha
   ·exact HP.out.1.n15 a ha
   ·simp at ha;subst ha;exact HP.out.2.2.1.1),by rw [List.length_append];simp;omega⟩
  rw [hkt] at h
  exact h
 have CK2:Hid (∀ (A1:World) (a5 a6:Option Addr) (c5 c6 y:Nat),Below V.heap.size V A1→y≤A1.heap.size→V.heap.size≤y →
  Rep (fun i=>((i<V.heap.size∧(F i∨W0.heap.size≤i))∨V.heap.size≤i)∧i<y) A1 (.sl 9 1 (ns++[(s1,k)]).length ((ns++[(s1,k)]).map fun p=>DV.val (str p.1))) (.slice a5 (ns.length+1) c5) →
  Rep (fun i=>((i<V.heap.size∧(F i∨W0.heap.size≤i))∨V.heap.size≤i)∧i<y) A1 (.sl 31 1 (ns++[(s1,k)]).length (encSs (kinds (ns++[(s1,k)])))) (.slice a6 (ns.length+1) c6) →
  Calls Tryz.prog 17 #[.agg #[.slice a5 (ns.length+1) c5,.slice a6 (ns.length+1) c6],.agg #[str s3,.slice a3 n3 c3]] A1 (KdPost (fun i=>((i<V.heap.size∧(F i∨W0.heap.size≤i))∨V.heap.size≤i)∧i<y) A1 kt qt)):=by
  show ∀ _,_
  intro A1 a5 a6 c5 c6 y hz hy hVy h5 h6
  have hwz:=HV.out.2.trans (hz.mono HV.out.2.size)
  have h:=IH.out (fun i=>((i<V.heap.size∧(F i∨W0.heap.size≤i))∨V.heap.size≤i)∧i<y) t (ns++[(s1,k)]) _ _ _ _ A1 (by have:=HP.out.2.2.2.2;omega) ⟨fun i h=>by have:=h.2;omega,Reps.below hwz (fun i h=>⟨.inl ⟨oldV.out i h,.inl h⟩,Nat.lt_of_lt_of_le (oldV.out i h) hVy⟩) HP.out.2.2.2.1,h5,h6,HP.out.2.1.2,HP.out.2.2.1.2,(fun p hm=>by
   rcases List.mem_append.1 hm with hm | hm
   ·exact HP.out.1.nm p hm
   ·simp at hm;subst hm;exact HP.out.2.1.1),(fun a ha=>by
   rw [kinds_snoc] at ha
   rcases List.mem_append.1 ha with ha | ha
   ·exact HP.out.1.n15 a ha
   ·simp at ha;subst ha;exact HP.out.2.2.1.1),by rw [List.length_append];simp;omega⟩
  rw [hkt] at h
  exact h
 have HKT:=Lib.hid hkt
 clear hkt H1 H2 H3 hbV hV IH SX
 refine cut_code (X:=Nat×Option Addr×Nat×Option Addr×Nat×Option Addr×Nat) (fun a x=>((((((((((((((((a.put (some 76) (.agg #[.slice na ns.length nc,.slice ka ns.length kc])).put (some 77) (.slice (some ⟨pb1,po1,none⟩) 4 qc)).put (some 78) (.pointer (some ⟨pb1,po1+2,none⟩))).put (some 79) (.pointer (some ⟨pb1,po1+2,none⟩))).put (some 80) (str s1)).put (some 81) (.agg #[.slice ta k.args.length tc])).put (some 82) (.agg #[.slice x.2.1 (ns.length+1) x.2.2.1,.slice x.2.2.2.1 (ns.length+1) x.2.2.2.2.1])).put (some 83) (.slice (some ⟨pb1,po1,none⟩) 4 qc)).put (some 84) (.pointer (some ⟨pb1,po1+6,none⟩))).put (some 85) (.agg #[str s3,.slice a3 n3 c3])).put (some 86) (.tuple #[.agg #[.slice x.2.2.2.2.2.1 kt.args.length x.2.2.2.2.2.2],.bool qt])).put (some 75) (.tuple #[.agg #[.slice x.2.2.2.2.2.1 kt.args.length x.2.2.2.2.2.2],.bool qt])).put (some 87) (.agg #[.slice x.2.2.2.2.2.1 kt.args.length x.2.2.2.2.2.2])).put (some 88) (.bool qt)).put (some 10) (.pointer (some ⟨x.1,0,none⟩))).put (some 11) (.bool qt))) (fun x w'=>BoxRes (fun i=>i<V.heap.size∧(F i∨W0.heap.size≤i)) V x.1 (.cells #[.slice x.2.2.2.2.2.1 kt.args.length x.2.2.2.2.2.2] 31 (0,0)) [encS kt] [.slice x.2.2.2.2.2.1 kt.args.length x.2.2.2.2.2.2] w') ?_ ?_
 ·refine wp_region_noPanic ?_
  refine wp_region_S (fun w'=>Below V.heap.size V w') (fun _=>false) (by kernel_rfl) ?_
  have hSd:(fun w'=>Below V.heap.size V w') V.drew:=Below.drew (Below.refl _ _)
  refine tk [0,1,2,3,4,5,7,8,9] hSd ?_
  (intro d hd;simp [tkD] at hd;subst hd;simp only [tks,pQ,pZ,pS])
  iterate 9 (refine ⟨?_,?_,?_⟩;rotate_left;· (intro oi ho;simp at ho;subst ho;refine Or.inl ⟨by rfl,fun w' hw'=>?_⟩;obtain ⟨e0,e1,f1,f3,h3,e8⟩:=SV.out w' hw';go_simp;try with_reducible rfl))
  refine wpAnyS_two 6 14 (by kernel_rfl) ?_ ?_
  ·(intro o6 ho K' hK;simp at ho;subst ho)
   go_simp
   go_at_call 23
   (with_reducible refine (CW.out _ hSd).mono ?_)
   rintro en y1 ⟨aq,cq,ar,cr,rfl,hbw,hq5,hq6⟩
   have hY1:Below V.heap.size V y1:=hSd.trans (hbw.mono (hSd).size)
   (refine hK.out _ _ (fun _=>hY1) ?_;clear hK K';try simp only [pQ,pN,pZ,pS])
   refine wpAnyS_two 10 14 (by kernel_rfl) ?_ ?_
   ·have hq5':Rep (fun i=>((i<V.heap.size∧(F i∨W0.heap.size≤i))∨V.heap.size≤i)∧i<y1.heap.size) y1 (.sl 9 1 (ns++[(s1,k)]).length ((ns++[(s1,k)]).map fun p=>DV.val (str p.1))) (.slice aq (ns.length+1) cq):=(Rep.keep fun i x hi hx=>⟨⟨hi,lt_of_heap hx⟩,hx⟩).1 _ _ hq5
    have hq6':Rep (fun i=>((i<V.heap.size∧(F i∨W0.heap.size≤i))∨V.heap.size≤i)∧i<y1.heap.size) y1 (.sl 31 1 (ns++[(s1,k)]).length (encSs (kinds (ns++[(s1,k)])))) (.slice ar (ns.length+1) cr):=(Rep.keep fun i x hi hx=>⟨⟨hi,lt_of_heap hx⟩,hx⟩).1 _ _ hq6
    have CZ1:=CZ.out V.heap.size y1 aq ar cq cr (Nat.le_refl _) hY1 hq5' hq6' (fun i=>((i<V.heap.size∧(F i∨W0.heap.size≤i))∨V.heap.size≤i)∧i<y1.heap.size) (fun i h=>⟨.inl ⟨oldV.out i h,.inl h⟩,Nat.lt_of_lt_of_le (oldV.out i h) hY1.size⟩) (fun i h _ _=>h) (fun i h=>h.2)
    (intro o10 ho K' hK;simp at ho;subst ho)
    go_simp
    go_at_call 17
    (with_reducible refine CZ1.mono ?_)
    rintro en y2 ⟨xx,yy,rfl,hbk,hrk⟩
    have hY2:Below V.heap.size V y2:=hY1.trans (hbk.mono hY1.size)
    (refine hK.out _ _ (fun _=>hY2) ?_;clear hK K';try simp only [pQ,pN,pZ,pS])
    refine tk [11,12,13] hY2 ?_
    (intro d hd;simp [tkD] at hd;subst hd;simp only [tks,pQ,pZ,pS])
    iterate 3 (refine ⟨?_,?_,?_⟩;rotate_left;· (intro oi ho;simp at ho;subst ho;refine Or.inl ⟨by rfl,fun w' hw'=>?_⟩;go_simp;try with_reducible rfl))
    (refine on 14 ?_;intro o ho K' hK;simp at ho;subst ho;go_simp)
    (refine hK.out _ _ (fun _=>hY2.alloc hY2.size _) ?_;clear hK K';try simp only [pQ,pN,pZ,pS])
    (refine on 15 ?_;intro o ho K' hK;simp at ho;subst ho;go_simp)
    (refine hK.out _ _ (fun _=>hY2.alloc hY2.size _) ?_;clear hK K';try simp only [pQ,pN,pZ,pS])
    (refine on 16 ?_;intro o ho K' hK;simp at ho;subst ho;go_simp)
    (refine hK.out _ _ (fun _=>hY2.alloc hY2.size _) ?_;clear hK K';try simp only [pQ,pN,pZ,pS])
    refine wpAnyS_done (by kernel_rfl) (NoPanic.normal ?_) _
    exact ⟨rfl,⟨y2.heap.size,aq,cq,ar,cr,xx,yy⟩,by rfl,BoxRes.fresh hY2 (Reps.one (hrk.weak fun i h=>by rcases h with h | h;exact h.1;exact .inr (Nat.le_trans hY1.size h)))⟩
   ·(intro o14 ho K' hK;simp at ho;subst ho)
    go_simp
    (refine hK.out _ _ (fun _=>hY1.alloc hY1.size _) ?_;clear hK K';try simp only [pQ,pN,pZ,pS])
    have hA:Below V.heap.size V (y1.alloc (.cells #[.slice none 0 0] 31)):=hY1.alloc hY1.size _
    have lz:(y1.alloc (.cells #[.slice none 0 0] 31)).heap.size=y1.heap.size+1:=by simp
    have bz0:(y1.alloc (.cells #[.slice none 0 0] 31)).heap[y1.heap.size]? = some (.cells #[.slice none 0 0] 31 (0,0)):=heap_new _ _
    refine wpAnyS_one 10 (by kernel_rfl) ?_
    have hq5':Rep (fun i=>((i<V.heap.size∧(F i∨W0.heap.size≤i))∨V.heap.size≤i)∧i<y1.heap.size) (y1.alloc (.cells #[.slice none 0 0] 31)) (.sl 9 1 (ns++[(s1,k)]).length ((ns++[(s1,k)]).map fun p=>DV.val (str p.1))) (.slice aq (ns.length+1) cq):=(Rep.keep fun i x hi hx=>⟨⟨hi,lt_of_heap hx⟩,heap_past hx⟩).1 _ _ hq5
    have hq6':Rep (fun i=>((i<V.heap.size∧(F i∨W0.heap.size≤i))∨V.heap.size≤i)∧i<y1.heap.size) (y1.alloc (.cells #[.slice none 0 0] 31)) (.sl 31 1 (ns++[(s1,k)]).length (encSs (kinds (ns++[(s1,k)])))) (.slice ar (ns.length+1) cr):=(Rep.keep fun i x hi hx=>⟨⟨hi,lt_of_heap hx⟩,heap_past hx⟩).1 _ _ hq6
    have CZ1:=CK2.out (y1.alloc (.cells #[.slice none 0 0] 31)) aq ar cq cr y1.heap.size hA (by rw [lz];omega) hY1.size hq5' hq6'
    (intro o10 ho K' hK;simp at ho;subst ho)
    go_simp
    go_at_call 17
    (with_reducible refine CZ1.mono ?_)
    rintro en y2 ⟨xx,yy,rfl,hbk,hrk⟩
    have hY2:Below V.heap.size V y2:=hA.trans (hbk.mono hA.size)
    have bz:y2.heap[y1.heap.size]? = some (.cells #[.slice none 0 0] 31 (0,0)):=(hbk.block _ (by rw [lz];omega)).trans bz0
    (refine hK.out _ _ (fun _=>hY2) ?_;clear hK K';try simp only [pQ,pN,pZ,pS])
    refine tk [11,12,13] hY2 ?_
    (intro d hd;simp [tkD] at hd;subst hd;simp only [tks,pQ,pZ,pS])
    iterate 3 (refine ⟨?_,?_,?_⟩;rotate_left;· (intro oi ho;simp at ho;subst ho;refine Or.inl ⟨by rfl,fun w' hw'=>?_⟩;go_simp;try with_reducible rfl))
    have zc0:(y2).cell? ⟨y1.heap.size,0,none⟩=some (.slice none 0 0):=by simp only [World.cell?,bz];rfl
    have zf0:(y2).frozen? ⟨y1.heap.size,0,none⟩=false:=by simp only [World.frozen?,bz];rfl
    (refine on 15 ?_;intro o ho K' hK;simp at ho;subst ho;go_simp)
    (refine hK.out _ _ (fun _=>(hY2.setCell (p:=⟨y1.heap.size,0,none⟩) hY1.size _)) ?_;clear hK K';try simp only [pQ,pN,pZ,pS])
    (refine on 16 ?_;intro o ho K' hK;simp at ho;subst ho;go_simp)
    (refine hK.out _ _ (fun _=>(hY2.setCell (p:=⟨y1.heap.size,0,none⟩) hY1.size _)) ?_;clear hK K';try simp only [pQ,pN,pZ,pS])
    refine wpAnyS_done (by kernel_rfl) (NoPanic.normal ?_) _
    exact ⟨rfl,⟨y1.heap.size,aq,cq,ar,cr,xx,yy⟩,by rfl,hY2.setCell (p:=⟨y1.heap.size,0,none⟩) hY1.size _,hY1.size,(by rw [setCell_at' bz];rfl),(Rep.keep fun i x hi hx=>by
     have hne:i≠y1.heap.size:=by rcases hi with h | h;have:=h.2;omega;rw [lz] at h;omega
     exact ⟨⟨by rcases hi with h | h;exact h.1;exact .inr (Nat.le_trans hA.size h),hne⟩,by rw [(but1 _ _ _).block i (lt_of_heap hx) hne];exact hx⟩).2 _ _ (Reps.one hrk)⟩
  ·(intro o14 ho K' hK;simp at ho;subst ho)
   go_simp
   (refine hK.out _ _ (fun _=>hSd.alloc (Nat.le_refl _) _) ?_;clear hK K';try simp only [pQ,pN,pZ,pS])
   have hA:Below V.heap.size V (V.alloc (.cells #[.slice none 0 0] 31)).drew:=hSd.alloc (Nat.le_refl _) _
   have lz:(V.alloc (.cells #[.slice none 0 0] 31)).drew.heap.size=V.heap.size+1:=by simp
   (refine on 6 ?_;intro o ho K' hK;simp at ho;subst ho;go_simp)
   go_at_call 23
   (with_reducible refine (CW.out _ hA).mono ?_)
   rintro en y1 ⟨aq,cq,ar,cr,rfl,hbw,hq5,hq6⟩
   have hY1:Below V.heap.size V y1:=hA.trans (hbw.mono (hA).size)
   have bz0:y1.heap[V.heap.size]? = some (.cells #[.slice none 0 0] 31 (0,0)):=(hbw.block _ (by rw [lz];omega)).trans (heap_new V (.cells #[.slice none 0 0] 31))
   (refine hK.out _ _ (fun _=>hY1) ?_;clear hK K';try simp only [pQ,pN,pZ,pS])
   refine wpAnyS_one 10 (by kernel_rfl) ?_
   have hq5':Rep (fun i=>((i<V.heap.size∧(F i∨W0.heap.size≤i))∨V.heap.size+1≤i)∧i<y1.heap.size) y1 (.sl 9 1 (ns++[(s1,k)]).length ((ns++[(s1,k)]).map fun p=>DV.val (str p.1))) (.slice aq (ns.length+1) cq):=(Rep.keep fun i x hi hx=>⟨⟨hi.elim .inl (fun h=>.inr (by rw [lz] at h;exact h)),lt_of_heap hx⟩,hx⟩).1 _ _ hq5
   have hq6':Rep (fun i=>((i<V.heap.size∧(F i∨W0.heap.size≤i))∨V.heap.size+1≤i)∧i<y1.heap.size) y1 (.sl 31 1 (ns++[(s1,k)]).length (encSs (kinds (ns++[(s1,k)])))) (.slice ar (ns.length+1) cr):=(Rep.keep fun i x hi hx=>⟨⟨hi.elim .inl (fun h=>.inr (by rw [lz] at h;exact h)),lt_of_heap hx⟩,hx⟩).1 _ _ hq6
   have CZ1:=CZ.out (V.heap.size+1) y1 aq ar cq cr (by omega) hY1 hq5' hq6' (fun i=>((i<V.heap.size∧(F i∨W0.heap.size≤i))∨V.heap.size+1≤i)∧i<y1.heap.size) (fun i h=>⟨.inl ⟨oldV.out i h,.inl h⟩,Nat.lt_of_lt_of_le (oldV.out i h) hY1.size⟩) (fun i h _ _=>h) (fun i h=>h.2)
   (intro o10 ho K' hK;simp at ho;subst ho)
   go_simp
   go_at_call 17
   (with_reducible refine CZ1.mono ?_)
   rintro en y2 ⟨xx,yy,rfl,hbk,hrk⟩
   have hY2:Below V.heap.size V y2:=hY1.trans (hbk.mono hY1.size)
   have ly1:V.heap.size+1≤y1.heap.size:=by have:=hbw.size;rw [lz] at this;exact this
   have bz:y2.heap[V.heap.size]? = some (.cells #[.slice none 0 0] 31 (0,0)):=(hbk.block _ (by omega)).trans bz0
   (refine hK.out _ _ (fun _=>hY2) ?_;clear hK K';try simp only [pQ,pN,pZ,pS])
   refine tk [11,12,13] hY2 ?_
   (intro d hd;simp [tkD] at hd;subst hd;simp only [tks,pQ,pZ,pS])
   iterate 3 (refine ⟨?_,?_,?_⟩;rotate_left;· (intro oi ho;simp at ho;subst ho;refine Or.inl ⟨by rfl,fun w' hw'=>?_⟩;go_simp;try with_reducible rfl))
   have zc0:(y2).cell? ⟨V.heap.size,0,none⟩=some (.slice none 0 0):=by simp only [World.cell?,bz];rfl
   have zf0:(y2).frozen? ⟨V.heap.size,0,none⟩=false:=by simp only [World.frozen?,bz];rfl
   (refine on 15 ?_;intro o ho K' hK;simp at ho;subst ho;go_simp)
   (refine hK.out _ _ (fun _=>(hY2.setCell (p:=⟨V.heap.size,0,none⟩) (Nat.le_refl _) _)) ?_;clear hK K';try simp only [pQ,pN,pZ,pS])
   (refine on 16 ?_;intro o ho K' hK;simp at ho;subst ho;go_simp)
   (refine hK.out _ _ (fun _=>(hY2.setCell (p:=⟨V.heap.size,0,none⟩) (Nat.le_refl _) _)) ?_;clear hK K';try simp only [pQ,pN,pZ,pS])
   refine wpAnyS_done (by kernel_rfl) (NoPanic.normal ?_) _
   exact ⟨rfl,⟨V.heap.size,aq,cq,ar,cr,xx,yy⟩,by rfl,hY2.setCell (p:=⟨V.heap.size,0,none⟩) (Nat.le_refl _) _,Nat.le_refl _,(by rw [setCell_at' bz];rfl),(Rep.keep fun i x hi hx=>by
    have hne:i≠V.heap.size:=by rcases hi with h | h;rcases h.1 with h1 | h1;have:=h1.1;omega;omega;omega
    exact ⟨⟨by rcases hi with h | h;rcases h.1 with h1 | h1;exact .inl h1;exact .inr (by omega);exact .inr (by omega),hne⟩,by rw [(but1 _ _ _).block i (lt_of_heap hx) hne];exact hx⟩).2 _ _ (Reps.one hrk)⟩
 rintro ⟨gg,aq,cq,ar,cr,xx,yy⟩ z hR
 have R:Hid (BoxRes (fun i=>i<V.heap.size∧(F i∨W0.heap.size≤i)) V gg (.cells #[.slice xx kt.args.length yy] 31 (0,0)) [encS kt] [.slice xx kt.args.length yy] z):=hR
 have HZ:Hid (Below W0.heap.size W0 z∧Below w.heap.size w z):=⟨HV.out.1.trans (R.out.below.mono HV.out.1.size),HV.out.2.trans (R.out.below.mono HV.out.2.size)⟩
 have g0:z.cell? ⟨gg,0,none⟩=some (.slice xx kt.args.length yy):=R.out.cell0
 have a8:z.cell? ⟨ga,0,none⟩=some (.slice ta k.args.length tc):=(R.out.below.cell (World.block_lt_of_cell? _ _ bA8)).trans bA8
 have TT:Hid (Rep (fun i=>F i∨W0.heap.size≤i) z (encS kt) (.slice xx kt.args.length yy)):=(Reps.get1 R.out.rep).weak fun i h=>by rcases h.1 with h | h;exact h.2;exact .inr (Nat.le_trans HV.out.1.size h)
 have TA2:Hid (Rep (fun i=>F i∨W0.heap.size≤i) z (encS k) (.slice ta k.args.length tc)):=(Rep.below (F':=fun i=>i<V.heap.size∧(F i∨W0.heap.size≤i)) R.out.below (fun _ h=>h) TA.out).weak fun i h=>h.2
 have hktl:kt.args.length≤200:=by
  have h:=kindR_len t (ns++[(s1,k)]) (fun a ha=>by
   rw [kinds_snoc] at ha
   rcases List.mem_append.1 ha with ha | ha
   ·have:=arg_count (HP.out.1.n15 a ha);omega
   ·simp at ha;subst ha;have:=arg_count HP.out.2.2.1.1;omega) HP.out.2.2.1.2
  rw [HKT.out] at h
  simp only at h
  omega
 have hrS:=TT.out
 rw [encS_eq] at hrS
 obtain ⟨news,hnews,hsrc⟩:=SrcSl.ofRep hrS (oneCell_encSs _)
 have HN:=Lib.hid hnews;have HSR:=Lib.hid hsrc
 have HE:=Lib.hid (show kindR ns (.lam s1 k t)=(arrowT k kt,qt && decide (atomsT (arrowT k kt)≤15)) by rw [kindR,HKT.out])
 have g0':(z.alloc (.cells #[.slice ta k.args.length tc] 31)).cell? ⟨gg,0,none⟩=some (.slice xx kt.args.length yy):=cell_alloc g0
 clear hR CW CZ CK2 SV hrS hnews hsrc bA8
 simp only [Act.put,List.setIfInBounds_toArray,List.set_cons_zero,List.set_cons_succ]
 go_wp2_with (at_builtin;refine wpList_append_gen rfl _ _ 29 rfl 31 (.agg #[.slice none 0 0]) 1 24 Tryz.underlying29 Tryz.infoS rfl (by decide) _ 1 [.slice ta k.args.length tc] rfl ?c1 _ kt.args.length news rfl ?c2 ?c3 ?c4 ?_)
 case c1=>exact Own.litAt #[.slice ta k.args.length tc] 1 _ (by simp) (by decide) rfl
 case c2=>exact HSR.out.alloc _
 case c3=>unfold maxLen;omega
 case c4=>omega
 intro a' c' w' ho hb hg
 have hbz:Below z.heap.size z w':=((Below.refl _ _).alloc (Nat.le_refl _) _).trans (hb.toBelow (by simp) fun i hi e=>by simp [Value.ownBlock] at e;omega)
 have hge:∀ g,(Value.slice a' (1+kt.args.length) c').ownBlock=some g→z.heap.size≤g:=fun g h=>by
  rcases hg g h with e | e
  ·simp [Value.ownBlock] at e;omega
  ·rw [e];simp
 have hsz:=HZ.out.1.size
 have HA:Hid (Rep (fun i=>F i∨W0.heap.size≤i) w' (encS (arrowT k kt)) (.slice a' (1+kt.args.length) c')):=by
  show Rep _ _ _ _
  rw [encS_eq,show (arrowT k kt).args.length=1+kt.args.length from by simp [arrowT,Ty.args,Nat.add_comm]]
  refine ho.rep (fun g h=>.inr (Nat.le_trans hsz (hge g h))) ?_
  show Reps _ _ (encS k::encSs kt.args) _
  exact Reps_cons.2 ⟨_,_,rfl,Rep.below hbz (fun _ h=>h) TA2.out,Reps.below hbz (fun _ h=>h) HN.out⟩
 have HW':Hid (Below W0.heap.size W0 w'):=HZ.out.1.trans (hbz.mono HZ.out.1.size)
 clear ho hb hg hbz hge g0 g0' a8
 go_wp2_with fail
 obtain ⟨Y,hY⟩:∃ Y,w'.alloc (.cells #[.slice a' (1+kt.args.length) c'] 31)=Y:=⟨_,rfl⟩
 rw [hY]
 have hbY:Below w'.heap.size w' Y:=by rw [← hY];exact (Below.refl _ _).alloc (Nat.le_refl _) _
 obtain ⟨gO,hgO⟩:∃ g,w'.heap.size=g:=⟨_,rfl⟩
 have o0:Y.cell? ⟨gO,0,none⟩=some (.slice a' (1+kt.args.length) c'):=by rw [← hY,← hgO];simp
 rw [hgO]
 have hlo:W0.heap.size≤gO:=by rw [← hgO];exact HW'.out.size
 have HYB:Hid (Below W0.heap.size W0 Y):=HW'.out.trans (hbY.mono HW'.out.size)
 have HYA:Hid (Rep (fun i=>F i∨W0.heap.size≤i) Y (encS (arrowT k kt)) (.slice a' (1+kt.args.length) c')):=Rep.below hbY (fun _ h=>h) HA.out
 have BR:Hid (Y.heap[w.heap.size+1+1]? = some (.cells #[.slice none 0 0] 31 (0,0))):=(HYB.out.block _ (lt_of_heap H0.out.2.2.2)).trans H0.out.2.2.2
 have rf1:Y.drew.frozen? ⟨w.heap.size+1+1,0,none⟩=false:=by show Y.frozen? _=_;simp only [World.frozen?,BR.out];rfl
 have rc1:Y.drew.cell? ⟨w.heap.size+1+1,0,none⟩=some (.slice none 0 0):=by show Y.cell? _=_;simp only [World.cell?,BR.out];rfl
 have ne0:gO≠w.heap.size+1+1:=by have:=H0.out.2.1;omega
 have eL:1+kt.args.length=(arrowT k kt).args.length:=by simp [arrowT,Ty.args,Nat.add_comm]
 have HEL:=Lib.hid eL
 clear hY hbY hgO HA HW' eL
 have HYA':Hid (Rep (fun i=>F i∨W0.heap.size≤i) Y (encS (arrowT k kt)) (.slice a' (arrowT k kt).args.length c')):=by
  have h:=HYA.out
  rw [HEL.out] at h
  exact h
 cases qt with
 | false =>
   have HEE:=Lib.hid (show kindR ns (.lam s1 k t)=(arrowT k kt,false) by rw [HE.out];rfl)
   refine wp_region_noPanic ?_
   refine wp_region_S (fun w'=>w'.cell? ⟨gO,0,none⟩=some (.slice a' (1+kt.args.length) c')) (fun _=>false) (by kernel_rfl) ?_
   have hSd:(fun w'=>w'.cell? ⟨gO,0,none⟩=some (.slice a' (1+kt.args.length) c')) Y.drew:=o0
   refine tk [0,1,2,3,4,5,6] hSd ?_
   (intro d hd;simp [tkD] at hd;subst hd;simp only [tks,pQ,pZ,pS])
   iterate 7 (refine ⟨?_,?_,?_⟩;rotate_left;· (intro oi ho;simp at ho;subst ho;first | (refine Or.inr ⟨by rfl,?_⟩;with_reducible rfl) | (refine Or.inl ⟨by rfl,fun w' hw'=>?_⟩;have e0:=hw';go_simp;try with_reducible rfl)))
   (refine on 7 ?_;intro o ho K' hK;simp at ho;subst ho;go_simp)
   (refine hK.out _ _ (fun _=>keep1_set hSd ne0) ?_;clear hK K';try simp only [pQ,pN,pZ,pS])
   (refine on 8 ?_;intro o ho K' hK;simp at ho;subst ho;go_simp)
   (refine hK.out _ _ (fun _=>keep1_set hSd ne0) ?_;clear hK K';try simp only [pQ,pN,pZ,pS])
   refine wpAnyS_done (by kernel_rfl) (NoPanic.normal ?_) _
   go_wp2_with fail
   obtain ⟨W,hW,s0,hbW,hkW⟩:=box1_store (BR.out) (.slice a' (1+kt.args.length) c')
   rw [← hW]
   refine bodyPost_ret (v:=.tuple #[.agg #[.slice a' (1+kt.args.length) c'],.bool false]) (by simp [results,Tryz.results17,go_sem,s0]) rfl ?_
   rw [HEE.out,HEL.out]
   exact kd_fin (k:=arrowT k kt) HP.out.1.old H0.out.1 H0.out.2.1 HYB.out HYA'.out (fun B w0 h hB=>(hbW B w0 h hB).drew) hkW
 | true =>
   have ht15:=type_small t (ns++[(s1,k)]) kt (fun a ha=>by
    rw [kinds_snoc] at ha
    rcases List.mem_append.1 ha with ha | ha
    ·exact HP.out.1.n15 a ha
    ·simp at ha;subst ha;exact HP.out.2.2.1.1) (by have:=kindR_some (t:=t) (ns:=ns++[(s1,k)]) HP.out.2.2.1.2 (by rw [HKT.out]);rwa [HKT.out] at this)
   have haa:atomsT (arrowT k kt)≤1000:=by have h1:=HP.out.2.2.1.1;have:=atomsT_arrow k kt;omega
   have CS:=Lib.hid (fun wz (h:Below Y.heap.size Y wz)=>l1Size_any 1000 (arrowT k kt) haa (by unfold Lim;omega) _ wz _ (Rep.below (F':=fun i=>F i∨W0.heap.size≤i) h (fun _ h=>h) HYA.out))
   clear rf1 rc1
   by_cases h15:atomsT (arrowT k kt)≤15
   ·have HEE:=Lib.hid (show kindR ns (.lam s1 k t)=(arrowT k kt,true) by rw [HE.out,decide_eq_true h15];rfl)
    have h1:decide (((atomsT (arrowT k kt):Nat):Int)≤15)=true:=decide_eq_true (by omega)
    clear h15 haa ht15
    obtain ⟨A,hA⟩:∃ A,A=atomsT (arrowT k kt):=⟨_,rfl⟩
    rw [← hA] at h1 CS
    clear hA
    refine wp_region_noPanic ?_
    refine wp_region_S (fun w'=>w'.cell? ⟨gO,0,none⟩=some (.slice a' (1+kt.args.length) c')) (fun _=>false) (by kernel_rfl) ?_
    have hSd:(fun w'=>w'.cell? ⟨gO,0,none⟩=some (.slice a' (1+kt.args.length) c')) Y.drew:=o0
    refine tk [0,1,2,3] hSd ?_
    (intro d hd;simp [tkD] at hd;subst hd;simp only [tks,pQ,pZ,pS])
    iterate 4 (refine ⟨?_,?_,?_⟩;rotate_left;· (intro oi ho;simp at ho;subst ho;refine Or.inl ⟨by rfl,fun w' hw'=>?_⟩;have e0:=hw';go_simp;try with_reducible rfl))
    (refine on 4 ?_;intro o ho K' hK;simp at ho;subst ho;go_simp)
    go_at_call 41
    (with_reducible refine (CS.out _ (Below.drew (Below.refl Y.heap.size Y))).mono ?_)
    rintro en v1 ⟨rfl,hb⟩
    have HV1:Hid (Below Y.heap.size Y v1):=(Below.drew (Below.refl Y.heap.size Y)).trans hb
    clear hb
    (refine hK.out _ _ (fun _=>(HV1.out.cell (World.block_lt_of_cell? _ _ o0)).trans o0) ?_;clear hK K';try simp only [pQ,pN,pZ,pS])
    have hS4:=(HV1.out.cell (World.block_lt_of_cell? _ _ o0)).trans o0
    have BR2:Hid (v1.heap[w.heap.size+1+1]? = some (.cells #[.slice none 0 0] 31 (0,0))):=(HV1.out.block _ (lt_of_heap BR.out)).trans BR.out
    have rf2:v1.frozen? ⟨w.heap.size+1+1,0,none⟩=false:=by simp only [World.frozen?,BR2.out];rfl
    have rc2:v1.cell? ⟨w.heap.size+1+1,0,none⟩=some (.slice none 0 0):=by simp only [World.cell?,BR2.out];rfl
    have hS2:=(HV1.out.cell (World.block_lt_of_cell? _ _ o0)).trans o0
    refine tk [5,6] hS4 ?_
    (intro d hd;simp [tkD] at hd;subst hd;simp only [tks,pQ,pZ,pS])
    iterate 2 (refine ⟨?_,?_,?_⟩;rotate_left;· (intro oi ho;simp at ho;subst ho;refine Or.inl ⟨by rfl,fun w' hw'=>?_⟩;go_simp;try with_reducible rfl))
    (refine on 7 ?_;intro o ho K' hK;simp at ho;subst ho;go_simp)
    (refine hK.out _ _ (fun _=>keep1_set hS2 ne0) ?_;clear hK K';try simp only [pQ,pN,pZ,pS])
    (refine on 8 ?_;intro o ho K' hK;simp at ho;subst ho;go_simp)
    (refine hK.out _ _ (fun _=>keep1_set hS2 ne0) ?_;clear hK K';try simp only [pQ,pN,pZ,pS])
    refine wpAnyS_done (by kernel_rfl) (NoPanic.normal ?_) _
    have HZ2:Hid (Below W0.heap.size W0 v1):=HYB.out.trans (HV1.out.mono HYB.out.size)
    have T2:Hid (Rep (fun i=>F i∨W0.heap.size≤i) v1 (encS (arrowT k kt)) (.slice a' (arrowT k kt).args.length c')):=Rep.below HV1.out (fun _ h=>h) HYA'.out
    go_wp2_with fail
    obtain ⟨W,hW,s0,hbW,hkW⟩:=box1_store (BR2.out) (.slice a' (1+kt.args.length) c')
    rw [← hW]
    refine bodyPost_ret (v:=.tuple #[.agg #[.slice a' (1+kt.args.length) c'],.bool true]) (by simp [results,Tryz.results17,go_sem,s0]) rfl ?_
    rw [HEE.out,HEL.out]
    exact kd_fin (k:=arrowT k kt) HP.out.1.old H0.out.1 H0.out.2.1 HZ2.out T2.out hbW hkW
   ·have HEE:=Lib.hid (show kindR ns (.lam s1 k t)=(arrowT k kt,false) by rw [HE.out,decide_eq_false h15];rfl)
    have h1:decide (((atomsT (arrowT k kt):Nat):Int)≤15)=false:=decide_eq_false (by omega)
    clear h15 haa ht15
    obtain ⟨A,hA⟩:∃ A,A=atomsT (arrowT k kt):=⟨_,rfl⟩
    rw [← hA] at h1 CS
    clear hA
    refine wp_region_noPanic ?_
    refine wp_region_S (fun w'=>w'.cell? ⟨gO,0,none⟩=some (.slice a' (1+kt.args.length) c')) (fun _=>false) (by kernel_rfl) ?_
    have hSd:(fun w'=>w'.cell? ⟨gO,0,none⟩=some (.slice a' (1+kt.args.length) c')) Y.drew:=o0
    refine tk [0,1,2,3] hSd ?_
    (intro d hd;simp [tkD] at hd;subst hd;simp only [tks,pQ,pZ,pS])
    iterate 4 (refine ⟨?_,?_,?_⟩;rotate_left;· (intro oi ho;simp at ho;subst ho;refine Or.inl ⟨by rfl,fun w' hw'=>?_⟩;have e0:=hw';go_simp;try with_reducible rfl))
    (refine on 4 ?_;intro o ho K' hK;simp at ho;subst ho;go_simp)
    go_at_call 41
    (with_reducible refine (CS.out _ (Below.drew (Below.refl Y.heap.size Y))).mono ?_)
    rintro en v1 ⟨rfl,hb⟩
    have HV1:Hid (Below Y.heap.size Y v1):=(Below.drew (Below.refl Y.heap.size Y)).trans hb
    clear hb
    (refine hK.out _ _ (fun _=>(HV1.out.cell (World.block_lt_of_cell? _ _ o0)).trans o0) ?_;clear hK K';try simp only [pQ,pN,pZ,pS])
    have hS4:=(HV1.out.cell (World.block_lt_of_cell? _ _ o0)).trans o0
    have BR2:Hid (v1.heap[w.heap.size+1+1]? = some (.cells #[.slice none 0 0] 31 (0,0))):=(HV1.out.block _ (lt_of_heap BR.out)).trans BR.out
    have rf2:v1.frozen? ⟨w.heap.size+1+1,0,none⟩=false:=by simp only [World.frozen?,BR2.out];rfl
    have rc2:v1.cell? ⟨w.heap.size+1+1,0,none⟩=some (.slice none 0 0):=by simp only [World.cell?,BR2.out];rfl
    have hS2:=(HV1.out.cell (World.block_lt_of_cell? _ _ o0)).trans o0
    refine tk [5,6] hS4 ?_
    (intro d hd;simp [tkD] at hd;subst hd;simp only [tks,pQ,pZ,pS])
    iterate 2 (refine ⟨?_,?_,?_⟩;rotate_left;· (intro oi ho;simp at ho;subst ho;refine Or.inl ⟨by rfl,fun w' hw'=>?_⟩;go_simp;try with_reducible rfl))
    (refine on 7 ?_;intro o ho K' hK;simp at ho;subst ho;go_simp)
    (refine hK.out _ _ (fun _=>keep1_set hS2 ne0) ?_;clear hK K';try simp only [pQ,pN,pZ,pS])
    (refine on 8 ?_;intro o ho K' hK;simp at ho;subst ho;go_simp)
    (refine hK.out _ _ (fun _=>keep1_set hS2 ne0) ?_;clear hK K';try simp only [pQ,pN,pZ,pS])
    refine wpAnyS_done (by kernel_rfl) (NoPanic.normal ?_) _
    have HZ2:Hid (Below W0.heap.size W0 v1):=HYB.out.trans (HV1.out.mono HYB.out.size)
    have T2:Hid (Rep (fun i=>F i∨W0.heap.size≤i) v1 (encS (arrowT k kt)) (.slice a' (arrowT k kt).args.length c')):=Rep.below HV1.out (fun _ h=>h) HYA'.out
    go_wp2_with fail
    obtain ⟨W,hW,s0,hbW,hkW⟩:=box1_store (BR2.out) (.slice a' (1+kt.args.length) c')
    rw [← hW]
    refine bodyPost_ret (v:=.tuple #[.agg #[.slice a' (1+kt.args.length) c'],.bool false]) (by simp [results,Tryz.results17,go_sem,s0]) rfl ?_
    rw [HEE.out,HEL.out]
    exact kd_fin (k:=arrowT k kt) HP.out.1.old H0.out.1 H0.out.2.1 HZ2.out T2.out hbW hkW
theorem l5Kind_any (N:Nat):KdSaid N:=by
 induction N with
 | zero=>exact fun F t ns nv tv s pv w h=>by cases t <;> simp only [sizeTm] at h <;> omega
 | succ N ih =>
   intro F t ns nv tv s pv w h hp
   cases t with
   | nm x=>exact kd_nm F x ns nv tv s pv w hp
   | wd u=>exact kd_wd F u ns nv tv s pv w hp
   | lam x k t=>exact kd_lam N ih F x k t ns nv tv s pv w h hp
   | app m n=>exact kd_app N ih F m n ns nv tv s pv w h hp
   | ite l m n=>exact kd_ite N ih F l m n ns nv tv s pv w h hp
end Go.Proofs.YtapjaflnmklmeaaGreatDoor

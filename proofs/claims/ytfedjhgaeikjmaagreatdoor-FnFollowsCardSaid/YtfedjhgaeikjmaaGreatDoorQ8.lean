/- Walks of functions that the statement reaches, and plain words. No conditions. -/
import Derived.Test.YtfedjhgaeikjmaaGreatDoorQ7
set_option linter.unusedVariables false
set_option linter.unusedSimpArgs false
set_option maxHeartbeats 8000000
namespace Go.Proofs.YtfedjhgaeikjmaaGreatDoor
open Go.RowKit
set_option maxRecDepth 100000 in
theorem bracketed_any (F:Nat->Prop) (t:Ty) (v:Pl) (mv pt:Value) (w:World) (h:vU F t v mv pt w) :
 Calls Tryz.prog 80 #[.agg #[mv,pt]] w fun en w'=>en=.returned (.bool (brP v))/\Below w.heap.size w w':=by
 have ci:=ze h.ok
 obtain ⟨ma,mc,rfl,cH⟩:=h.m.cells
 obtain ⟨pa,pc,rfl,cw⟩:=h.p.cells
 obtain ⟨W,hW,bM,hz,b0⟩:=kJ w (.cells #[.slice ma v.length mc,.slice pa v.length pc] 33)
 obtain ⟨c0,c1,_,_⟩:=zJ b0
 have HH:=bU (bY cH (bY cw (bY bM (h.below bM))))
 have HW:=bU hW
 clear h cH cw hz b0 bM hW
 go_enter Tryz.func80,Tryz.ntmps80
 go_upto_region 1 with (fail)
 rw [HW.out]
 go_wp2_with fail
 go_loopw [8] (fun i wr=>∃ (wz:World) (k:Nat),wz=wr/\k<=v.length/\i=.int .i64 k/\jL (yk v) k=true/\Below W.heap.size W wz) (fun i _=>v.length-(intOf i).toNat)
 case atStart=>exact ⟨_,0,rfl,Nat.zero_le _,rfl,rfl,bP _ _⟩
 case round =>
  obtain ⟨wr,k,rfl,hk,rfl,be,hB⟩:=hrel
  have d0:=(hB.cell (bW _ _ c0)).trans c0
  have d1:=(hB.cell (bW _ _ c1)).trans c1
  clear c0 c1
  have HB:=bU (bY hB (zzT HH.out.2.2.1 hB))
  clear hB
  by_cases bA:k<v.length
  ·have cT:(k:Int)<(v.length:Int):=by omega
   obtain ⟨x,p,z,bi,b4⟩:=kV HH.out.2.2.2.ok bA
   obtain ⟨mb,mo,rfl,_,cr,cf⟩:=HH.out.1 k _ bi
   obtain ⟨pb,po,rfl,_,cd,dZ⟩:=HH.out.2.1 k _ bi
   have m0:=(HB.out.2.cell (p:=⟨mb,mo+k,none⟩) cr).trans cf
   have p0:=(HB.out.2.cell (p:=⟨pb,po+k,none⟩) cd).trans dZ
   have PLR:=bU (fun (y:World) (hy:Below wr.heap.size wr y)=>(HH.out.2.2.2.below HB.out.1).below hy)
   have VK:=xt bi
   have CB:=bU (ju x p)
   obtain ⟨q,hq⟩:=zzN (isQ (x::p))
   obtain ⟨M,hM⟩:=zzM (x::p)
   obtain ⟨cn,eO⟩:=zzN (yk v k)
   rw [hq] at VK CB
   rw [eO] at VK
   rw [<- hM] at m0 CB
   have CV:=bU (fun (y:World) (hy:Below wr.heap.size wr y)=>pending_any F t v k _ _ y (PLR.out y hy).m (PLR.out y hy).p HH.out.2.2.2.ok (by omega))
   have KEY:=bU (fun (y:World) (hy:Below wr.heap.size wr y)=>(show y.cell? ⟨w.heap.size,0,none⟩=some (.slice (some ⟨mb,mo,none⟩) v.length mc)/\y.cell? ⟨w.heap.size,1,none⟩=some (.slice (some ⟨pb,po,none⟩) v.length pc)/\y.cell? ⟨pb,po+k,none⟩=some (.int .i64 z) from
    ⟨(hy.cell (bW _ _ d0)).trans d0,(hy.cell (bW _ _ d1)).trans d1,(hy.cell (bW _ _ p0)).trans p0⟩))
   have HV:=bU (bY eO (bY be bA))
   generalize mu:kL v k []=pe at *
   clear bi b4 cr cf cd dZ hq eO be mu hM
   cases q with
   | true =>
     obtain rfl:cn=true:=by rw [VK];rfl
     clear VK
     go_upto_region 4 with (fail)
     clear d0 d1 m0 p0
     refine wp_region_noPanic ?_
     refine zX (fun w'=>Below wr.heap.size wr w') (fun _=>false) (by kernel_rfl) ?_
     have bS:(fun w'=>Below wr.heap.size wr w') wr.drew:=Below.drew (bP _ _)
     refine tk [0] bS ?_
     (intro d hd;simp [tkD] at hd;subst hd;simp only [tks,pQ,pZ,pS])
     (refine ⟨?_,?_,?_⟩;rotate_left;· (intro oi ho;simp at ho;subst ho;refine Or.inl ⟨by rfl,fun w' bR=>?_⟩;go_simp;try with_reducible rfl))
     (refine on 1 ?_;intro o ho K' hK;simp at ho;subst ho;go_simp)
     go_at_call 114
     (with_reducible refine (CB.out _).mono ?_)
     rintro en x1 ⟨rfl,e⟩
     subst x1
     (refine hK.out _ _ (fun _=>bS) ?_;clear hK K';try simp only [pQ,pN,pZ,pS])
     refine tk [2,3,4,5,6,7,8,9,10,11,12,13] bS ?_
     (intro d hd;simp [tkD] at hd;subst hd;simp only [tks,pQ,pZ,pS])
     iterate 12 (refine ⟨?_,?_,?_⟩;rotate_left;· (intro oi ho;simp at ho;subst ho;first | (refine Or.inr ⟨by rfl,?_⟩;with_reducible rfl) | (refine Or.inl ⟨by rfl,fun w' bR=>?_⟩;go_simp;try with_reducible rfl)))
     refine zU (by kernel_rfl) (NoPanic.normal ?_) _
     have E:=bU (show jL (yk v) (k+1)=true by rw [jL,HV.out.2.1,HV.out.1];rfl)
     clear KEY CV CB PLR bS
     go_wp2_with fail
     go_roundw
     case rel=>exact ⟨_,k+1,rfl,by omega,by go_num,E.out,HB.out.1.drew⟩
     case measure=>simp [intOf];omega
   | false =>
     rw [Bool.false_or] at VK
     go_upto_region 4 with (fail)
     clear d0 d1 m0 p0
     refine wp_region_noPanic ?_
     refine zX (fun w'=>Below wr.heap.size wr w') (fun _=>false) (by kernel_rfl) ?_
     have bS:(fun w'=>Below wr.heap.size wr w') wr.drew:=Below.drew (bP _ _)
     refine tk [0] bS ?_
     (intro d hd;simp [tkD] at hd;subst hd;simp only [tks,pQ,pZ,pS])
     (refine ⟨?_,?_,?_⟩;rotate_left;· (intro oi ho;simp at ho;subst ho;refine Or.inl ⟨by rfl,fun w' bR=>?_⟩;go_simp;try with_reducible rfl))
     (refine on 1 ?_;intro o ho K' hK;simp at ho;subst ho;go_simp)
     go_at_call 114
     (with_reducible refine (CB.out _).mono ?_)
     rintro en x1 ⟨rfl,e⟩
     subst x1
     (refine hK.out _ _ (fun _=>bS) ?_;clear hK K';try simp only [pQ,pN,pZ,pS])
     refine tk [2,3,4,5,6,7] bS ?_
     (intro d hd;simp [tkD] at hd;subst hd;simp only [tks,pQ,pZ,pS])
     iterate 6 (refine ⟨?_,?_,?_⟩;rotate_left;· (intro oi ho;simp at ho;subst ho;refine Or.inl ⟨by rfl,fun w' bR=>?_⟩;have e0:=(KEY.out w' bR).2.1;go_simp;try with_reducible rfl))
     refine tk [8] bS ?_
     (intro d hd;simp [tkD] at hd;subst hd;simp only [tks,pQ,pZ,pS])
     (refine ⟨?_,?_,?_⟩;rotate_left;· (intro oi ho;simp at ho;subst ho;refine Or.inl ⟨by rfl,fun w' bR=>?_⟩;have e0:=(KEY.out w' bR).2.2;go_simp;try with_reducible rfl))
     refine tk [9,10] bS ?_
     (intro d hd;simp [tkD] at hd;subst hd;simp only [tks,pQ,pZ,pS])
     iterate 2 (refine ⟨?_,?_,?_⟩;rotate_left;· (intro oi ho;simp at ho;subst ho;refine Or.inl ⟨by rfl,fun w' bR=>?_⟩;have e0:=(KEY.out w' bR).1;have e1:=(KEY.out w' bR).2.1;go_simp;try with_reducible rfl))
     (refine on 11 ?_;intro o ho K' hK;simp at ho;subst ho;go_simp)
     go_at_call 115
     (with_reducible refine (CV.out _ bS).mono ?_)
     rintro en n7 ⟨rfl,m8⟩
     have dh:Below wr.heap.size wr n7:=zzT bS m8
     (refine hK.out _ _ (fun _=>dh) ?_;clear hK K';try simp only [pQ,pN,pZ,pS])
     have ij:=dh
     refine tk [12,13] ij ?_
     (intro d hd;simp [tkD] at hd;subst hd;simp only [tks,pQ,pZ,pS])
     iterate 2 (refine ⟨?_,?_,?_⟩;rotate_left;· (intro oi ho;simp at ho;subst ho;refine Or.inl ⟨by rfl,fun w' bR=>?_⟩;go_simp;try with_reducible rfl))
     refine zU (by kernel_rfl) (NoPanic.normal ?_) _
     have t_:=bU dh
     clear KEY CV CB PLR bS dh ij m8
     cases cn with
     | true =>
       have bm:(z != pe)=false:=by rw [bne,<- VK];rfl
       clear VK
       have E:=bU (show jL (yk v) (k+1)=true by rw [jL,HV.out.2.1,HV.out.1];rfl)
       go_wp2_with fail
       go_roundw
       case rel=>exact ⟨_,k+1,rfl,by omega,by go_num,E.out,zzT HB.out.1 t_.out⟩
       case measure=>simp [intOf];omega
     | false =>
       have bm:(z != pe)=true:=by rw [bne,<- VK];rfl
       clear VK
       have E:=bU (show brP v=false from pj HV.out.1 HV.out.2.2)
       go_wp2_with fail
       go_ret
       exact ⟨by rw [E.out];rfl,zzT HB.out.2 t_.out⟩
  ·obtain rfl:k=v.length:=by omega
   have E:=bU (show brP v=true from be)
   clear be
   go_wp2_with fail
   go_ret
   exact ⟨by rw [E.out];rfl,HB.out.2⟩
set_option maxRecDepth 100000 in
theorem legal_any (F:Nat->Prop) (t:Ty) (v:Pl) (mv pt:Value) (w:World) (h:vU F t v mv pt w) :
 Calls Tryz.prog 44 #[.agg #[mv,pt]] w fun en w'=>en=.returned (.bool (qd v))/\Below w.heap.size w w':=by
 obtain ⟨ma,mc,rfl,cH⟩:=h.m.cells
 obtain ⟨pa,pc,rfl,cw⟩:=h.p.cells
 obtain ⟨W,hW,bM,hz,b0⟩:=kJ w (.cells #[.slice ma v.length mc,.slice pa v.length pc] 33)
 have C1:=bU (visible_any F t v _ _ W (h.below bM))
 have C2:=bU (fun (y:World) (hy:Below W.heap.size W y)=>bracketed_any F t v _ _ y ((h.below bM).below hy))
 have HL:Hid (qd v=(xY v && brP v)):=bU rfl
 have HW:=bU (bY hW (bY bM b0))
 generalize xY v=b1 at *
 generalize brP v=b2 at *
 obtain ⟨c0,c1,_,_⟩:=zJ b0
 clear h cH cw hz b0 bM hW
 go_enter Tryz.func44,Tryz.ntmps44
 go_upto_region 1 with (fail)
 rw [HW.out.1]
 go_wp2_with fail
 (with_reducible refine C1.out.mono ?_)
 rintro en w1 ⟨rfl,bE⟩
 cases b1 with
 | false =>
   have HB:=bU (zzT HW.out.2.1 bE)
   clear bE c0 c1
   go_wp2_with fail
   go_ret
   exact ⟨by rw [HL.out];rfl,HB.out⟩
 | true =>
   have d0:=(bE.cell (bW _ _ c0)).trans c0
   have d1:=(bE.cell (bW _ _ c1)).trans c1
   have E0:=bU (C2.out w1 bE)
   have HB:=bU (zzT HW.out.2.1 bE)
   clear bE c0 c1 C2
   go_wp2_with fail
   (with_reducible refine E0.out.mono ?_)
   rintro en w2 ⟨rfl,bN⟩
   have b6:=bU (zzT HB.out bN)
   clear bN
   go_wp2_with fail
   go_ret
   exact ⟨by rw [HL.out,Bool.true_and];rfl,b6.out⟩
def kO (s:Bs) (ms:List Bs) (ps:List Int):Bool:=kt s ms ps && qd (ms.zip ps)
theorem vD {s:Bs} {ms:List Bs} {ps:List Int} (h:kt s ms ps=true):ps.length=ms.length/\zv (zV s).1 (ms.zip ps)=true/\zW (zV s).1<=15:=by
 unfold kt qE at h
 simp only [Bool.and_eq_true,decide_eq_true_eq] at h
 obtain ⟨h1,h2,h3,h4⟩:=h
 refine ⟨h3,?_,(jq h1).2⟩
 unfold zv
 rw [h4,Bool.and_true]
 simp only [decide_eq_true_eq]
 rw [List.length_zip];omega
theorem vE {F:Nat->Prop} {s:Bs} {ms:List Bs} {ps:List Int} {mv pt:Value} {w:World} (hm:jz F w ms mv) (hp:jO F w ps pt) (hl:∀ x∈ms,Lim x.length) (h:kt s ms ps=true):vU F (zV s).1 (ms.zip ps) mv pt w:=by
 obtain ⟨h1,h2,_⟩:=vD h
 exact ⟨hm.zip h1,hp.zip h1,h2,fun x hx=>(hl _ (List.of_mem_zip hx).1).le⟩
set_option maxRecDepth 100000 in
theorem jy (F:Nat->Prop) (s:Bs) (mv pt:Value) (ms:List Bs) (ps:List Int) (w:World) (hs:Lim s.length) (hm:jz F w ms mv) (hp:jO F w ps pt) (hl:∀ x∈ms,Lim x.length) :
 Calls Tryz.prog 18 #[str s,.agg #[mv,pt]] w fun en w'=>en=.returned (.bool (kO s ms ps))/\Below w.heap.size w w':=by
 obtain ⟨ma,mc,rfl⟩:=hm.slice
 obtain ⟨pa,pc,rfl⟩:=hp.slice
 obtain ⟨W,hW,bM,hz,b0⟩:=kJ w (.cells #[.slice ma ms.length mc,.slice pa ps.length pc] 33)
 obtain ⟨c0,c1,_,_⟩:=zJ b0
 have lD:=hm.below bM (fun _ h=>h)
 have sX:=hp.below bM (fun _ h=>h)
 have C1:=bU (xy F s _ _ ms ps W hs lD sX hl)
 have C2:=bU (fun (y:World) (hy:Below W.heap.size W y) (h:kt s ms ps=true)=>legal_any F _ _ _ _ y ((vE lD sX hl h).below hy))
 have HL:Hid (kO s ms ps=(kt s ms ps && qd (ms.zip ps))):=bU rfl
 have HW:=bU (bY hW (bY bM b0))
 generalize kt s ms ps=b1 at *
 generalize qd (ms.zip ps)=b2 at *
 clear hm hp hz b0 bM hW lD sX hl hs
 go_enter Tryz.func18,Tryz.ntmps18
 go_upto_region 1 with (fail)
 rw [HW.out.1]
 go_wp2_with fail
 (with_reducible refine C1.out.mono ?_)
 rintro en w1 ⟨rfl,bE⟩
 cases b1 with
 | false =>
   have HB:=bU (zzT HW.out.2.1 bE)
   clear bE c0 c1
   go_wp2_with fail
   go_ret
   exact ⟨by rw [HL.out];rfl,HB.out⟩
 | true =>
   have d0:=(bE.cell (bW _ _ c0)).trans c0
   have d1:=(bE.cell (bW _ _ c1)).trans c1
   have E0:=bU (C2.out w1 bE rfl)
   have HB:=bU (zzT HW.out.2.1 bE)
   clear bE c0 c1 C2
   go_wp2_with fail
   (with_reducible refine E0.out.mono ?_)
   rintro en w2 ⟨rfl,bN⟩
   have b6:=bU (zzT HB.out bN)
   clear bN
   go_wp2_with fail
   go_ret
   exact ⟨by rw [HL.out,Bool.true_and];rfl,b6.out⟩
set_option maxRecDepth 100000 in
theorem l2Visible_any (F:Nat->Prop) (t:Ty) (v:Pl) (mv pt:Value) (w:World) (h:vU F t v mv pt w) :
 Calls Tryz.prog 87 #[.agg #[mv,pt]] w fun en w'=>en=.returned (.bool (xY v))/\Below w.heap.size w w':=by
 have ci:=ze h.ok
 obtain ⟨ma,mc,rfl,cH⟩:=h.m.cells
 obtain ⟨pa,pc,rfl,cw⟩:=h.p.cells
 obtain ⟨W,hW,bM,hz,b0⟩:=kJ w (.cells #[.slice ma v.length mc,.slice pa v.length pc] 33)
 obtain ⟨c0,c1,_,_⟩:=zJ b0
 have HH:=bU (bY cH (bY cw (bY bM (h.below bM))))
 have HW:=bU hW
 clear h cH cw hz b0 bM hW
 go_enter Tryz.func87,Tryz.ntmps87
 go_upto_region 1 with (fail)
 rw [HW.out]
 go_wp2_with fail
 go_loopw [3] (fun i wr=>∃ (wz:World) (k:Nat),wz=wr/\1<=k/\k<=v.length+1/\i=.int .i64 k/\jL (vk v) k=true/\Below W.heap.size W wz) (fun i _=>v.length+1-(intOf i).toNat)
 case atStart=>exact ⟨_,1,rfl,bX _,by omega,rfl,rfl,bP _ _⟩
 case round =>
  obtain ⟨wr,k,rfl,hk1,hk,rfl,be,hB⟩:=hrel
  have d0:=(hB.cell (bW _ _ c0)).trans c0
  have d1:=(hB.cell (bW _ _ c1)).trans c1
  clear c0 c1
  have HB:=bU (bY hB (zzT HH.out.2.2.1 hB))
  clear hB
  by_cases bA:k<v.length
  ·have cT:(k:Int)<(v.length:Int):=by omega
   obtain ⟨x,p,z,bi,b4⟩:=kV HH.out.2.2.2.ok bA
   obtain ⟨pb,po,rfl,_,cd,dZ⟩:=HH.out.2.1 k _ bi
   have p0:=(HB.out.2.cell (p:=⟨pb,po+k,none⟩) cd).trans dZ
   have PLR:=bU (fun (y:World) (hy:Below wr.heap.size wr y)=>(HH.out.2.2.2.below HB.out.1).below hy)
   have VK:=xX bi (by omega)
   obtain ⟨kk,hkk⟩:=zzM (k % 2)
   have hr:(k:Int).tmod 2=(kk:Int):=by rw [Int.tmod_eq_emod_of_nonneg (by omega)];omega
   have hw:pX (kC (x::p))=kk:=by
    rw [b4.opp,hkk]
    unfold pX
    rcases Nat.mod_two_eq_zero_or_one k with h | h <;> rw [h] <;> rfl
   obtain ⟨bo,dq⟩:=zzN (kC (x::p))
   rw [dq] at VK hw
   obtain ⟨cn,eO⟩:=zzN (vk v k)
   rw [eO] at VK
   have CV:=bU (fun (y:World) (hy:Below wr.heap.size wr y)=>yi F t v bo k _ _ y (PLR.out y hy).m (PLR.out y hy).p HH.out.2.2.2.ok (by omega) (by omega) HH.out.2.2.2.l)
   rw [hw] at CV
   have HV:=bU (bY VK (bY eO (bY be bA)))
   have KEY:=bU (fun (y:World) (hy:Below wr.heap.size wr y)=>(show y.cell? ⟨w.heap.size,0,none⟩=some (.slice ma v.length mc)/\y.cell? ⟨w.heap.size,1,none⟩=some (.slice (some ⟨pb,po,none⟩) v.length pc)/\y.cell? ⟨pb,po+k,none⟩=some (.int .i64 z) from
    ⟨(hy.cell (bW _ _ d0)).trans d0,(hy.cell (bW _ _ d1)).trans d1,(hy.cell (bW _ _ p0)).trans p0⟩))
   clear bi b4 cd dZ dq eO VK be hkk hw
   go_upto_region 4 with (fail)
   clear d0 d1 p0
   refine wp_region_noPanic ?_
   refine zX (fun w'=>Below wr.heap.size wr w') (fun _=>false) (by kernel_rfl) ?_
   have bS:(fun w'=>Below wr.heap.size wr w') wr.drew:=Below.drew (bP _ _)
   refine tk [0,1,2,3,5] bS ?_
   (intro d hd;simp [tkD] at hd;subst hd;simp only [tks,pQ,pZ,pS])
   iterate 5 (refine ⟨?_,?_,?_⟩;rotate_left;· (intro oi ho;simp at ho;subst ho;refine Or.inl ⟨by rfl,fun w' bR=>?_⟩;have e0:=(KEY.out w' bR).1;have e1:=(KEY.out w' bR).2.1;go_simp;try with_reducible rfl))
   refine tk [6,7,8] bS ?_
   (intro d hd;simp [tkD] at hd;subst hd;simp only [tks,pQ,pZ,pS])
   iterate 3 (refine ⟨?_,?_,?_⟩;rotate_left;· (intro oi ho;simp at ho;subst ho;refine Or.inl ⟨by rfl,fun w' bR=>?_⟩;have e0:=(KEY.out w' bR).2.1;go_simp;try with_reducible rfl))
   refine tk [9] bS ?_
   (intro d hd;simp [tkD] at hd;subst hd;simp only [tks,pQ,pZ,pS])
   (refine ⟨?_,?_,?_⟩;rotate_left;· (intro oi ho;simp at ho;subst ho;refine Or.inl ⟨by rfl,fun w' bR=>?_⟩;have e0:=(KEY.out w' bR).2.2;go_simp;try with_reducible rfl))
   (refine on 4 ?_;intro o ho K' hK;simp at ho;subst ho;go_simp)
   go_at_call 126
   (with_reducible refine (CV.out _ bS).mono ?_)
   rintro en x8 ⟨xv,rfl,dg,CU⟩
   have dh:Below wr.heap.size wr x8:=zzT bS dg
   have CC:=wM _ z _ x8 CU.ints (by rw [List.length_map];have:=wQ v bo k;omega)
   rw [<- HV.out.1] at CC
   (refine hK.out _ _ (fun _=>dh) ?_;clear hK K';try simp only [pQ,pN,pZ,pS])
   (refine on 10 ?_;intro o ho K' hK;simp at ho;subst ho;go_simp)
   go_at_call 125
   (with_reducible refine CC.mono ?_)
   rintro en oK ⟨rfl,e⟩
   subst oK
   clear CC
   (refine hK.out _ _ (fun _=>dh) ?_;clear hK K';try simp only [pQ,pN,pZ,pS])
   have r9:=dh
   refine tk [11] r9 ?_
   (intro d hd;simp [tkD] at hd;subst hd;simp only [tks,pQ,pZ,pS])
   (refine ⟨?_,?_,?_⟩;rotate_left;· (intro oi ho;simp at ho;subst ho;refine Or.inl ⟨by rfl,fun w' bR=>?_⟩;go_simp;try with_reducible rfl))
   refine zU (by kernel_rfl) (NoPanic.normal ?_) _
   have t_:=bU dh
   clear dh dg CU bS r9 KEY CV PLR
   cases cn with
   | true =>
     have E:=bU (show jL (vk v) (k+1)=true by rw [jL,HV.out.2.2.1,HV.out.2.1];rfl)
     go_wp2_with fail
     go_roundw
     case rel=>exact ⟨_,k+1,rfl,by omega,by omega,by go_num,E.out,zzT HB.out.1 t_.out⟩
     case measure=>simp [intOf];omega
   | false =>
     have E:=bU (show xY v=false from pj HV.out.2.1 HV.out.2.2.2)
     go_wp2_with fail
     go_ret
     exact ⟨by rw [E.out];rfl,zzT HB.out.2 t_.out⟩
  ·have E:=bU (show xY v=true from allP_le be (by omega))
   have cT:¬ (k:Int)<(v.length:Int):=by omega
   clear be
   go_wp2_with fail
   go_ret
   exact ⟨by rw [E.out];rfl,HB.out.2⟩
set_option maxRecDepth 100000 in
theorem pD (F:Nat->Prop) (t:Ty) (v:Pl) (mv pt:Value) (w:World) (h:vU F t v mv pt w) :
 Calls Tryz.prog 88 #[.agg #[mv,pt]] w fun en w'=>en=.returned (.bool (brP v))/\Below w.heap.size w w':=by
 have ci:=ze h.ok
 obtain ⟨ma,mc,rfl,cH⟩:=h.m.cells
 obtain ⟨pa,pc,rfl,cw⟩:=h.p.cells
 obtain ⟨W,hW,bM,hz,b0⟩:=kJ w (.cells #[.slice ma v.length mc,.slice pa v.length pc] 33)
 obtain ⟨c0,c1,_,_⟩:=zJ b0
 have HH:=bU (bY cH (bY cw (bY bM (h.below bM))))
 have HW:=bU hW
 clear h cH cw hz b0 bM hW
 go_enter Tryz.func88,Tryz.ntmps88
 go_upto_region 1 with (fail)
 rw [HW.out]
 go_wp2_with fail
 go_loopw [3] (fun i wr=>∃ (wz:World) (k:Nat),wz=wr/\k<=v.length/\i=.int .i64 k/\jL (yk v) k=true/\Below W.heap.size W wz) (fun i _=>v.length-(intOf i).toNat)
 case atStart=>exact ⟨_,0,rfl,Nat.zero_le _,rfl,rfl,bP _ _⟩
 case round =>
  obtain ⟨wr,k,rfl,hk,rfl,be,hB⟩:=hrel
  have d0:=(hB.cell (bW _ _ c0)).trans c0
  have d1:=(hB.cell (bW _ _ c1)).trans c1
  clear c0 c1
  have HB:=bU (bY hB (zzT HH.out.2.2.1 hB))
  clear hB
  by_cases bA:k<v.length
  ·have cT:(k:Int)<(v.length:Int):=by omega
   obtain ⟨x,p,z,bi,b4⟩:=kV HH.out.2.2.2.ok bA
   obtain ⟨mb,mo,rfl,_,cr,cf⟩:=HH.out.1 k _ bi
   obtain ⟨pb,po,rfl,_,cd,dZ⟩:=HH.out.2.1 k _ bi
   have m0:=(HB.out.2.cell (p:=⟨mb,mo+k,none⟩) cr).trans cf
   have p0:=(HB.out.2.cell (p:=⟨pb,po+k,none⟩) cd).trans dZ
   have PLR:=bU (fun (y:World) (hy:Below wr.heap.size wr y)=>(HH.out.2.2.2.below HB.out.1).below hy)
   have VK:=xt bi
   have aX:=q_ne x p
   obtain ⟨q,hq⟩:=zzN (isQ (x::p))
   obtain ⟨M,hM⟩:=zzM (x::p)
   have dS:0<M.length:=by rw [hM];simp
   have nJ:(0:Int)<(M.length:Int):=by omega
   have B0:((((⟨M.toArray⟩:ByteArray)[0]'(kY dS)).toNat:Int))=(x.toNat:Int):=by rw [kh dS];subst hM;rfl
   obtain ⟨cn,eO⟩:=zzN (yk v k)
   rw [hq] at VK aX
   rw [eO] at VK
   rw [<- hM] at m0
   have CV:=bU (fun (y:World) (hy:Below wr.heap.size wr y)=>yw F t v k _ _ y (PLR.out y hy).m (PLR.out y hy).p HH.out.2.2.2.ok (by omega) HH.out.2.2.2.l)
   have KEY:=bU (fun (y:World) (hy:Below wr.heap.size wr y)=>(show y.cell? ⟨w.heap.size,0,none⟩=some (.slice (some ⟨mb,mo,none⟩) v.length mc)/\y.cell? ⟨w.heap.size,1,none⟩=some (.slice (some ⟨pb,po,none⟩) v.length pc)/\y.cell? ⟨mb,mo+k,none⟩=some (str M)/\y.cell? ⟨pb,po+k,none⟩=some (.int .i64 z) from
    ⟨(hy.cell (bW _ _ d0)).trans d0,(hy.cell (bW _ _ d1)).trans d1,(hy.cell (bW _ _ m0)).trans m0,(hy.cell (bW _ _ p0)).trans p0⟩))
   have HV:=bU (bY eO (bY be bA))
   generalize mu:kL v k []=pe at *
   clear bi b4 cr cf cd dZ hq eO be mu hM
   cases q with
   | true =>
     obtain rfl:cn=true:=by rw [VK];rfl
     clear VK
     have hqn':((x.toNat:Int) != 113)=false:=aX
     clear aX
     go_upto_region 4 with (fail)
     clear d0 d1 m0 p0
     refine wp_region_noPanic ?_
     refine zX (fun w'=>Below wr.heap.size wr w') (fun _=>false) (by kernel_rfl) ?_
     have bS:(fun w'=>Below wr.heap.size wr w') wr.drew:=Below.drew (bP _ _)
     refine tk [0,1,2,3] bS ?_
     (intro d hd;simp [tkD] at hd;subst hd;simp only [tks,pQ,pZ,pS])
     iterate 4 (refine ⟨?_,?_,?_⟩;rotate_left;· (intro oi ho;simp at ho;subst ho;refine Or.inl ⟨by rfl,fun w' bR=>?_⟩;have e0:=(KEY.out w' bR).1;go_simp;try with_reducible rfl))
     refine tk [4,5,6,7,8,9,10,11,12,13,14,15,16,17] bS ?_
     (intro d hd;simp [tkD] at hd;subst hd;simp only [tks,pQ,pZ,pS])
     iterate 14 (refine ⟨?_,?_,?_⟩;rotate_left;· (intro oi ho;simp at ho;subst ho;first | (refine Or.inr ⟨by rfl,?_⟩;with_reducible rfl) | (refine Or.inl ⟨by rfl,fun w' bR=>?_⟩;have e0:=(KEY.out w' bR).2.2.1;go_simp;try with_reducible rfl)))
     refine zU (by kernel_rfl) (NoPanic.normal ?_) _
     have E:=bU (show jL (yk v) (k+1)=true by rw [jL,HV.out.2.1,HV.out.1];rfl)
     clear KEY CV PLR bS
     go_wp2_with fail
     go_roundw
     case rel=>exact ⟨_,k+1,rfl,by omega,by go_num,E.out,HB.out.1.drew⟩
     case measure=>simp [intOf];omega
   | false =>
     rw [Bool.false_or] at VK
     have hqn':((x.toNat:Int) != 113)=true:=aX
     clear aX
     go_upto_region 4 with (fail)
     clear d0 d1 m0 p0
     refine wp_region_noPanic ?_
     refine zX (fun w'=>Below wr.heap.size wr w') (fun _=>false) (by kernel_rfl) ?_
     have bS:(fun w'=>Below wr.heap.size wr w') wr.drew:=Below.drew (bP _ _)
     refine tk [0,1,2,3] bS ?_
     (intro d hd;simp [tkD] at hd;subst hd;simp only [tks,pQ,pZ,pS])
     iterate 4 (refine ⟨?_,?_,?_⟩;rotate_left;· (intro oi ho;simp at ho;subst ho;refine Or.inl ⟨by rfl,fun w' bR=>?_⟩;have e0:=(KEY.out w' bR).1;go_simp;try with_reducible rfl))
     refine tk [4,5,6,7,8] bS ?_
     (intro d hd;simp [tkD] at hd;subst hd;simp only [tks,pQ,pZ,pS])
     iterate 5 (refine ⟨?_,?_,?_⟩;rotate_left;· (intro oi ho;simp at ho;subst ho;refine Or.inl ⟨by rfl,fun w' bR=>?_⟩;have e0:=(KEY.out w' bR).2.2.1;go_simp;try with_reducible rfl))
     refine tk [9,10,11] bS ?_
     (intro d hd;simp [tkD] at hd;subst hd;simp only [tks,pQ,pZ,pS])
     iterate 3 (refine ⟨?_,?_,?_⟩;rotate_left;· (intro oi ho;simp at ho;subst ho;refine Or.inl ⟨by rfl,fun w' bR=>?_⟩;have e0:=(KEY.out w' bR).2.1;go_simp;try with_reducible rfl))
     refine tk [12] bS ?_
     (intro d hd;simp [tkD] at hd;subst hd;simp only [tks,pQ,pZ,pS])
     (refine ⟨?_,?_,?_⟩;rotate_left;· (intro oi ho;simp at ho;subst ho;refine Or.inl ⟨by rfl,fun w' bR=>?_⟩;have e0:=(KEY.out w' bR).2.2.2;go_simp;try with_reducible rfl))
     refine tk [13,14] bS ?_
     (intro d hd;simp [tkD] at hd;subst hd;simp only [tks,pQ,pZ,pS])
     iterate 2 (refine ⟨?_,?_,?_⟩;rotate_left;· (intro oi ho;simp at ho;subst ho;refine Or.inl ⟨by rfl,fun w' bR=>?_⟩;have e0:=(KEY.out w' bR).1;have e1:=(KEY.out w' bR).2.1;go_simp;try with_reducible rfl))
     (refine on 15 ?_;intro o ho K' hK;simp at ho;subst ho;go_simp)
     go_at_call 127
     (with_reducible refine (CV.out _ bS).mono ?_)
     rintro en n7 ⟨rfl,m8⟩
     have dh:Below wr.heap.size wr n7:=zzT bS m8
     (refine hK.out _ _ (fun _=>dh) ?_;clear hK K';try simp only [pQ,pN,pZ,pS])
     have Ax:=dh
     refine tk [16,17] Ax ?_
     (intro d hd;simp [tkD] at hd;subst hd;simp only [tks,pQ,pZ,pS])
     iterate 2 (refine ⟨?_,?_,?_⟩;rotate_left;· (intro oi ho;simp at ho;subst ho;refine Or.inl ⟨by rfl,fun w' bR=>?_⟩;go_simp;try with_reducible rfl))
     refine zU (by kernel_rfl) (NoPanic.normal ?_) _
     have t_:=bU dh
     clear KEY CV PLR bS dh Ax m8
     cases cn with
     | true =>
       have bm:(z != pe)=false:=by rw [bne,<- VK];rfl
       clear VK
       have E:=bU (show jL (yk v) (k+1)=true by rw [jL,HV.out.2.1,HV.out.1];rfl)
       go_wp2_with fail
       go_roundw
       case rel=>exact ⟨_,k+1,rfl,by omega,by go_num,E.out,zzT HB.out.1 t_.out⟩
       case measure=>simp [intOf];omega
     | false =>
       have bm:(z != pe)=true:=by rw [bne,<- VK];rfl
       clear VK
       have E:=bU (show brP v=false from pj HV.out.1 HV.out.2.2)
       go_wp2_with fail
       go_ret
       exact ⟨by rw [E.out];rfl,zzT HB.out.2 t_.out⟩
  ·obtain rfl:k=v.length:=by omega
   have E:=bU (show brP v=true from be)
   clear be
   go_wp2_with fail
   go_ret
   exact ⟨by rw [E.out];rfl,HB.out.2⟩
set_option maxRecDepth 100000 in
theorem vj (F:Nat->Prop) (s:Bs) (mv pt:Value) (ms:List Bs) (ps:List Int) (w:World) (hs:Lim s.length) (hm:jz F w ms mv) (hp:jO F w ps pt) (hl:∀ x∈ms,Lim x.length) :
 Calls Tryz.prog 49 #[str s,.agg #[mv,pt]] w fun en w'=>en=.returned (.bool (kO s ms ps))/\Below w.heap.size w w':=by
 obtain ⟨ma,mc,rfl⟩:=hm.slice
 obtain ⟨pa,pc,rfl⟩:=hp.slice
 obtain ⟨W,hW,bM,hz,b0⟩:=kJ w (.cells #[.slice ma ms.length mc,.slice pa ps.length pc] 33)
 obtain ⟨c0,c1,_,_⟩:=zJ b0
 have lD:=hm.below bM (fun _ h=>h)
 have sX:=hp.below bM (fun _ h=>h)
 have C1:=bU (xB F s _ _ ms ps W hs lD sX hl)
 have C2:=bU (fun (y:World) (hy:Below W.heap.size W y) (h:kt s ms ps=true)=>l2Visible_any F _ _ _ _ y ((vE lD sX hl h).below hy))
 have C3:=bU (fun (y:World) (hy:Below W.heap.size W y) (h:kt s ms ps=true)=>pD F _ _ _ _ y ((vE lD sX hl h).below hy))
 have HL:Hid (kO s ms ps=(kt s ms ps && (xY (ms.zip ps) && brP (ms.zip ps)))):=bU rfl
 have HW:=bU (bY hW (bY bM b0))
 generalize kt s ms ps=b1 at *
 generalize xY (ms.zip ps)=b2 at *
 generalize brP (ms.zip ps)=b3 at *
 clear hm hp hz b0 bM hW lD sX hl hs
 go_enter Tryz.func49,Tryz.ntmps49
 go_upto_region 1 with (fail)
 rw [HW.out.1]
 go_wp2_with fail
 (with_reducible refine C1.out.mono ?_)
 rintro en w1 ⟨rfl,bE⟩
 cases b1 with
 | false =>
   have HB:=bU (zzT HW.out.2.1 bE)
   clear bE c0 c1
   go_wp2_with fail
   go_ret
   exact ⟨by rw [HL.out];rfl,HB.out⟩
 | true =>
   have d0:=(bE.cell (bW _ _ c0)).trans c0
   have d1:=(bE.cell (bW _ _ c1)).trans c1
   have E0:=bU (C2.out w1 bE rfl)
   have HB:=bU (bY bE (zzT HW.out.2.1 bE))
   clear bE c0 c1 C2
   go_wp2_with fail
   (with_reducible refine E0.out.mono ?_)
   rintro en w2 ⟨rfl,bN⟩
   have b6:=bU (bY (zzT HB.out.1 bN) (zzT HB.out.2 bN))
   cases b2 with
   | false =>
     clear bN d0 d1
     go_wp2_with fail
     go_ret
     exact ⟨by rw [HL.out];rfl,b6.out.2⟩
   | true =>
     have e0:=(bN.cell (bW _ _ d0)).trans d0
     have e1:=(bN.cell (bW _ _ d1)).trans d1
     have C3':=bU (C3.out w2 b6.out.1 (by first | trivial | rfl))
     clear bN d0 d1 C3
     go_wp2_with fail
     (with_reducible refine C3'.out.mono ?_)
     rintro en w3 ⟨rfl,bp⟩
     have cF:=bU (zzT b6.out.2 bp)
     clear bp
     go_wp2_with fail
     go_ret
     exact ⟨by rw [HL.out,Bool.true_and,Bool.true_and];rfl,cF.out⟩
def uj (F:Nat->Prop) (w:World) (s:St) (bv lsl:Value):Prop:=Rep F w (qm s.1) bv/\jM F w s.2.1 lsl
theorem uj.keep {F F':Nat->Prop} {w w':World} {s:St} {bv lsl:Value} (h:uj F w s bv lsl) (hk:∀ b o,F b->w.heap[b]? = some o->F' b/\w'.heap[b]? = some o):uj F' w' s bv lsl:=⟨(Rep.keep hk).1 _ _ h.1,(Rep.keep hk).1 _ _ h.2⟩
def BehS (s':St) (F:Nat->Prop) (w:World) (en:Ending) (w':World):Prop :=
 ∃ ba la lc,en=.returned (.agg #[.pointer (some ⟨ba,0,none⟩),.slice la s'.2.1.length lc,.int .i64 (s'.2.2.1:Nat),str s'.2.2.2])/\Below w.heap.size w w'/\uj F w' s' (.pointer (some ⟨ba,0,none⟩)) (.slice la s'.2.1.length lc)
theorem behind_step {t:Ty} {hand:List Ty} {s:St} {l:Nat} {ss:List Bd} {y n:Bd} {a:Ty} {pl:zg} {c:UInt8} {p:Bs} {z:Nat} (k:Nat) (F:Nat->Prop) (bv kv lsl:Value) (w:World)
 (hd:StepD t hand s l ss y n a pl c p) (hs:uv t hand s z) (bL:zW t<=15) (hz:z<=100) (hg:qr w) (hk:Rep F w (jD t) kv) (hr:uj F w s bv lsl) (hF:∀ b,w.heap.size<=b->F b) :
 ∃ s',xH t s (c::p) k=some s'/\Calls Tryz.prog 104 #[.agg #[bv,lsl,.int .i64 (s.2.2.1:Nat),str s.2.2.2],kv,str (c::p),.int .i64 (k:Nat)] w (BehS s' F w):=by
 have aN:=qP _ _ _ hd.hat
 have d_:=kd a
 have dm:=hs.ll
 have bI:=hd.len
 obtain ⟨b,lv,bg⟩:=s
 have d9:b=.ask l ss y n:=hd.body
 subst d9
 obtain ⟨hb,dy⟩:=hr
 have eS:jM F w lv lsl:=dy
 have cL:Rep F w (qm (.ask l ss y n)) bv:=hb
 have tJ:lv.length<=8*z:=dm
 unfold xH
 simp only
 rcases hd.mv with ⟨rfl,j,aj,sb,hp,hj,lq,fM,hat,lR⟩ | ⟨hc,hp⟩
 ·rw [if_pos rfl,lR,fM]
  have e0:qo t p=aj.args.length:=by unfold qo;rw [hat]
  have e1:=qP _ _ _ hat
  have iG:0<p.length:=by rw [hp,List.length_append];simp
  refine ⟨_,rfl,(behind_q F t aj l j ss sb y n bv kv lsl lv bg p k w hg cL hk eS bL fM hj iG (by omega) ?_ hat (by omega) (by omega)).mono ?_⟩
  ·subst hp;simp
  ·rintro en w' ⟨ba,la,lc,rfl,fT,rb,rl⟩
   refine ⟨ba,la,lc,?_,fT,Rep.below fT (fun _ h=>h) rb,?_⟩
   ·show _=Ending.returned (.agg #[_,.slice la (lv++zh (qo t p) k p).length lc,_,_])
    rw [e0]
   ·show jM F w' (lv++zh (qo t p) k p) (.slice la (lv++zh (qo t p) k p).length lc)
    rw [e0]
    exact (Rep.keep fun i o hi ho=>⟨hF i hi,ho⟩).1 _ _ rl
 ·have rG:¬ c=113:=by rcases hc with h | h <;> rw [h] <;> decide
  rw [if_neg rG]
  obtain ⟨la,lc,rfl,_⟩:=eS.open
  obtain ⟨kb,ks,rfl,_⟩:=zc hk
  refine ⟨_,rfl,(behind_ans c hc F l ss y n bv (.pointer (some ⟨kb,0,none⟩)) la lv.length lc bg (c::p) k w cL (by simp) rfl ⟨_,rfl⟩).mono ?_⟩
  rintro en w' ⟨ba,rfl,fT,rb⟩
  refine ⟨ba,la,lc,rfl,fT,?_,Rep.below fT (fun _ h=>h) eS⟩
  show Rep F w' (qm (if c=102 then n else y)) _
  have:(if c=102 then n else y)=(if c=116 then y else n):=by rcases hc with h | h <;> rw [h] <;> rfl
  rw [this]
  exact Rep.below fT (fun _ h=>h) rb
theorem behind_step2 {t:Ty} {hand:List Ty} {s s':St} {l:Nat} {ss:List Bd} {y n:Bd} {a:Ty} {pl:zg} {c:UInt8} {p:Bs} {z k:Nat} (dB:xH t s (c::p) k=some s') (F:Nat->Prop) (bv kv lsl:Value) (w:World)
 (hd:StepD t hand s l ss y n a pl c p) (hs:uv t hand s z) (bL:zW t<=15) (hz:z<=100) (hg:qr w) (hk:Rep F w (jD t) kv) (hr:uj F w s bv lsl) (hF:∀ b,w.heap.size<=b->F b) :
 Calls Tryz.prog 104 #[.agg #[bv,lsl,.int .i64 (s.2.2.1:Nat),str s.2.2.2],kv,str (c::p),.int .i64 (k:Nat)] w (BehS s' F w):=by
 obtain ⟨s2,h2,h3⟩:=behind_step k F bv kv lsl w hd hs bL hz hg hk hr hF
 rw [dB] at h2
 obtain rfl:=Option.some.inj h2
 exact h3
def StandQ (s:St) (w:World) (en:Ending) (w':World):Prop :=
 ∃ bv lsl,en=.returned (.agg #[bv,lsl,.int .i64 (s.2.2.1:Nat),str s.2.2.2])/\Below w.heap.size w w'/\uj (fun _=>True) w' s bv lsl
set_option maxRecDepth 100000 in
theorem wm (F:Nat->Prop) (t:Ty) (b:Bd) (v:Pl) (k n:Nat) (hnk:n=k+1) (s0:St) (kv bv mv pt:Value) (w:World) (hg:qr w) (hk:Rep F w (jD t) kv) (hb:Rep F w (qm b) bv) (hm:vU F t v mv pt w)
 (bL:zW t<=15) (hf:kB t.args b) (hw:wfB b) (rP:k<v.length) (eT:k % 2=0) (dY:zI t b v k) (c_:k7 t b v (k+1)=some s0) :
 Calls Tryz.prog 66 #[kv,bv,.agg #[mv,pt],.int .i64 (n:Nat)] w (StandQ s0 w):=by
 have ci:=ze hm.ok
 have VC:=bU (pr hm.ok k rP eT)
 have PF:=bU (fun e (he:e<=k) (rr:e % 2=0)=>jS bL hf hw hm.ok e (by omega) rr (fun i hi h=>dY i (by omega) h))
 have FO:=bU (bY dY c_)
 have FIT:=bU (uG (b:=b) bL hf hw)
 have cS:0<n:=by omega
 have di:n<=v.length:=by omega
 have HK:=bU hnk;clear hnk
 obtain ⟨ba,rfl⟩:=qI hb
 obtain ⟨kb,ks,rfl,_⟩:=zc hk
 obtain ⟨ma,mc,rfl,cH⟩:=hm.m.cells
 obtain ⟨pa,pc,rfl,cw⟩:=hm.p.cells
 obtain ⟨W,hW,bM,hz,b0,b1⟩:=kH w (.cells #[.slice ma v.length mc,.slice pa v.length pc] 33) (.cells #[.pointer none,.slice none 0 0,.int .i64 0,str []] 117)
 obtain ⟨c0,c1,_,_⟩:=zJ b0
 have CV:=bU (view_any F t v false n _ _ W (hm.below bM).m (hm.below bM).p hm.ok cS di hm.l)
 have HI:=bU (bY hg (bY hk (bY hb (bY cH (bY bL (bY hm.ok hm))))))
 have HW:=bU (bY hW (bY bM (bY hz (bY b0 b1))))
 clear hW bM hz b0 b1 hg hk hb hm bL cH cw hf hw dY c_
 go_enter Tryz.func66,Tryz.ntmps66
 go_upto_region 1 with (fail)
 rw [HW.out.1]
 go_wp2_with fail
 (with_reducible refine CV.out.mono ?_)
 rintro en w2 ⟨vv,rfl,bN,lw⟩
 rw [HK.out] at lw
 generalize nR:kW v false (k+1)=vw at *
 obtain ⟨vb,vo,vc,rfl,mS,sO⟩:=lw
 obtain ⟨z0,fq⟩:∃ z0:Nat,z0=0:=⟨_,rfl⟩
 have h0:w2.cell? ⟨vb,vo,none⟩=some (.int .i64 (z0:Nat)):=by rw [fq];exact sO 0 0 VC.out.zero
 have HZ:=bU fq
 have hvp:0<vw.length:=(List.getElem?_eq_some_iff.1 VC.out.zero).1
 have hvpI:(0:Int)<(vw.length:Int):=by omega
 have mt:=(HI.out.1.below HW.out.2.1).below bN
 have aD:=(HI.out.2.1.below HW.out.2.1 (fun _ h=>h)).below bN (fun _ h=>h)
 have CS:=bU (standOf_any F t (.pointer (some ⟨kb,0,none⟩)) (.pointer (some ⟨ba,0,none⟩)) z0 w2 mt aD HI.out.2.2.2.2.1 ⟨_,rfl⟩)
 have H2:=bU (bY bN (bY mS sO))
 clear fq mt aD bN mS sO c0 c1 CV nR
 go_wp2_with fail
 (with_reducible refine CS.out.mono ?_)
 rintro en w3 ⟨la,lc,rfl,bp,dy⟩
 clear h0 CS
 obtain ⟨Y,hY,fF,hzY,y0⟩:=kJ w3 (.cells #[.pointer (some ⟨ba,0,none⟩),.slice la (zh t.args.length z0 []).length lc,.int .i64 (z0:Nat),str []] 117)
 have dO:=HW.out.2.2.1
 have dC:=H2.out.1.size
 have fN:=bp.size
 have As:Below w2.heap.size w2 Y:=zzT bp fF
 have Al:Below W.heap.size W Y:=zzT H2.out.1 As
 have Ak:Below w.heap.size w Y:=zzT HW.out.2.1 Al
 have eh:=bU (show uj (fun g=>g≠w3.heap.size/\g≠w.heap.size+1) Y (uH t b) (.pointer (some ⟨ba,0,none⟩)) (.slice la (zh t.args.length z0 []).length lc) by
  constructor
  ·refine (Rep.keep fun i o _ ho=>⟨?_,?_⟩).1 _ _ HI.out.2.2.1
   ·have:=zZ ho;omega
   ·rw [Ak.block _ (zZ ho)];exact ho
  ·rw [HZ.out] at dy ⊢
   refine (Rep.keep fun i o hi ho=>⟨?_,?_⟩).1 _ _ dy
   ·have:=zZ ho
    have h9:w2.heap.size<=i:=hi
    omega
   ·rw [fF.block _ (zZ ho)];exact ho)
 have HY:=bU (bY hY (bY Ak (bY Al (bY As (bY y0 hzY)))))
 have nX:=bU (bY dO (bY dC fN))
 clear hY fF hzY y0 dO dC fN As Al Ak dy bp
 go_wp2_with fail
 rw [HY.out.1]
 generalize fM:w3.heap.size=sb at *
 go_loopw [11] (fun i wr=>∃ (wz:World) (j e:Nat) (s:St) (hand:List Ty) (xv lsl:Value),wz=wr/\i=.int .i64 ((2*j+2:Nat):Int)/\vw[2*j]? = some e/\k7 t b v (e+1)=some s/\uv t hand s (e+1)/\wz.heap[sb]? = some (.cells #[xv,lsl,.int .i64 (s.2.2.1:Nat),str s.2.2.2] 117 (0,0))/\uj (fun g=>g≠sb/\g≠w.heap.size+1) wz s xv lsl/\But (fun g=>g=sb) Y wz) (fun i _=>vw.length+2-(intOf i).toNat)
 case atStart =>
  refine ⟨_,0,0,uH t b,t.args,_,_,rfl,rfl,VC.out.zero,jr t b v,?_,?_,eh.out,But.refl _ _⟩
  ·exact FIT.out
  ·have fq:=HZ.out
   subst fq
   exact HY.out.2.2.2.2.1
 case round =>
  obtain ⟨wr,j,e,s,hand,xv,lsl,rfl,rfl,rA,bw,cJ,mY,dB,hB⟩:=hrel
  obtain ⟨xa,rfl⟩:=qI dB.1
  obtain ⟨lsa,lsc,rfl,_⟩:=jM.open dB.2
  obtain ⟨q0,q1,q2,q3⟩:=zl mY
  have hsbY:sb<Y.heap.size:=zZ HY.out.2.2.2.2.1
  have hek:=VC.out.all _ _ rA
  have Dk:=(List.getElem?_eq_some_iff.1 rA).1
  have bi:=VC.out.len
  obtain ⟨i2,nE⟩:=zzM (2*j+2)
  rw [<- nE]
  have iQ:Below w.heap.size w wr:=HY.out.2.1.trans (hB.toBelow (by have:=HY.out.2.1.size;omega) fun i hi e1=>by have h1:=nX.out;omega)
  have HB:=bU (bY hB iQ)
  have eZ:=bU (bY dB (bY mY (bY cJ bw)))
  clear hB iQ dB mY
  by_cases bA:i2<vw.length
  ·have cT:(i2:Int)<(vw.length:Int):=by omega
   obtain ⟨e1,e',c,p,h1,h2,h3,h4,h5,h6,h7⟩:=VC.out.step j (by omega)
   obtain rfl:e1=e:=Option.some.inj (h1.symm.trans rA)
   have hr:=FO.out.1 (e1+1) (by have:=h6.lt;omega) h6.odd
   obtain ⟨x,hx,rS⟩:=h6.en
   unfold kZ at hr
   rw [bw,Option.bind_some,hx] at hr
   obtain ⟨l,ss,y,nn,a,pl,hd⟩:=yF HI.out.2.2.2.2.1 cJ h7 h4 rS hr
   obtain ⟨s',dR,cD,dC⟩:=hd.next (k:=e') cJ (by have:=h6.lt;omega) (by omega) HI.out.2.2.2.2.1
   have mZ:k7 t b v (e'+1)=some s':=by rw [j9 HI.out.2.2.2.2.2.1 b (by omega) h4 h6,bw,Option.bind_some,cD]
   have he'v:(e':Int)<(v.length:Int):=by omega
   obtain ⟨mb,mo,rfl,_,cr,cf⟩:=HI.out.2.2.2.1 e' _ h6.at'
   have CB:=bU (fun (y:World) (hy:Below wr.heap.size wr y)=>behind_step2 cD (fun g=>g≠sb/\g≠w.heap.size+1) (.pointer (some ⟨xa,0,none⟩)) (.pointer (some ⟨kb,0,none⟩)) (.slice lsa s.2.1.length lsc) y hd cJ HI.out.2.2.2.2.1 (by omega) ((HI.out.1.below HB.out.2).below hy)
    ((Rep.keep fun i o _ ho=>⟨by have:=zZ ho;have h1:=nX.out;omega,by rw [hy.block i (by have:=zZ ho;have:=HB.out.2.size;omega),HB.out.2.block i (zZ ho)];exact ho⟩).1 _ _ HI.out.2.1)
    (eZ.out.1.keep fun i o hi ho=>⟨hi,by rw [hy.block i (zZ ho)];exact ho⟩) (fun i hi=>by have h9:wr.heap.size<=i:=bC hy.size hi;have h1:=nX.out;have h2:=HB.out.1.size;omega))
   have HN:=bU (bY mZ (bY dC (bY (show vw[2*(j+1)]? = some e' from h2) (show i2+2=2*(j+1)+2 by omega))))
   obtain ⟨M,hM⟩:=zzM (c::p)
   rw [<- hM] at CB cf
   have KEY:=bU (fun (y:World) (hy:Below wr.heap.size wr y)=>(show (y.cell? ⟨sb,0,none⟩=some (.pointer (some ⟨xa,0,none⟩))/\y.cell? ⟨sb,1,none⟩=some (.slice lsa s.2.1.length lsc)/\y.cell? ⟨sb,2,none⟩=some (.int .i64 (s.2.2.1:Nat))/\y.cell? ⟨sb,3,none⟩=some (str s.2.2.2))/\y.cell? ⟨w.heap.size,0,none⟩=some (.slice (some ⟨mb,mo,none⟩) v.length mc)/\y.cell? ⟨vb,vo+i2,none⟩=some (.int .i64 (e':Nat))/\y.cell? ⟨mb,mo+e',none⟩=some (str M) from by
    have hk:∀ (a:Addr) (u:Value),wr.cell? a=some u->y.cell? a=some u:=fun a u h=>(hy.cell (bW _ _ h)).trans h
    have i_:∀ (a:Addr) (u:Value),w.cell? a=some u->y.cell? a=some u:=fun a u h=>hk a u ((HB.out.2.cell (bW _ _ h)).trans h)
    obtain ⟨k0,_⟩:=zJ HW.out.2.2.2.1
    have hY0:∀ (a:Addr) (u:Value),a.block≠sb->a.block<Y.heap.size->Y.cell? a=some u->y.cell? a=some u:=fun a u bm hl h=>hk a u ((HB.out.1.cell hl bm).trans h)
    have h1:=nX.out
    refine ⟨⟨hk _ _ q0,hk _ _ q1,hk _ _ q2,hk _ _ q3⟩,hY0 _ _ (by show w.heap.size≠sb;omega) (by show w.heap.size<_;omega) ((HY.out.2.2.1.cell (bW _ _ k0)).trans k0),?_,i_ _ _ cf⟩
    have sU:vw[i2]? = some e':=by rw [nE];exact h2
    exact hY0 _ _ (by show vb≠sb;have:=H2.out.2.1;omega) (by show vb<_;have:=H2.out.2.1;omega) ((HY.out.2.2.2.1.cell (p:=⟨vb,vo+i2,none⟩) H2.out.2.1).trans (H2.out.2.2 i2 e' sU))))
   have rQ:IntKind.i64.wrap ((i2:Int)+2)=((i2+2:Nat):Int):=by rw [qD _ (by omega) (by omega)];omega
   clear q0 q1 q2 q3 hr hx rS hd cD dC mZ h1 h2 h3 h4 h5 h6 h7 cr cf rA bw cJ nE hM hek Dk bi
   go_upto_region 6 with (fail)
   refine wp_region_noPanic ?_
   refine zX (fun w'=>Below wr.heap.size wr w') (fun i=>i=15) (by kernel_rfl) ?_
   have bS:(fun w'=>Below wr.heap.size wr w') wr.drew:=Below.drew (bP _ _)
   refine tk [0,1,2] bS ?_
   (intro d hd;simp [tkD] at hd;subst hd;simp only [tks,pQ,pZ,pS])
   iterate 3 (refine ⟨?_,?_,?_⟩;rotate_left;· (intro oi ho;simp at ho;subst ho;refine Or.inl ⟨by rfl,fun w' bR=>?_⟩;obtain ⟨e0,e1,e2,e3⟩:=(KEY.out w' bR).1;go_simp;try with_reducible rfl))
   refine tk [3,4,5,6] bS ?_
   (intro d hd;simp [tkD] at hd;subst hd;simp only [tks,pQ,pZ,pS])
   iterate 4 (refine ⟨?_,?_,?_⟩;rotate_left;· (intro oi ho;simp at ho;subst ho;refine Or.inl ⟨by rfl,fun w' bR=>?_⟩;have e0:=(KEY.out w' bR).2.1;go_simp;try with_reducible rfl))
   refine tk [7,8] bS ?_
   (intro d hd;simp [tkD] at hd;subst hd;simp only [tks,pQ,pZ,pS])
   iterate 2 (refine ⟨?_,?_,?_⟩;rotate_left;· (intro oi ho;simp at ho;subst ho;refine Or.inl ⟨by rfl,fun w' bR=>?_⟩;have e0:=(KEY.out w' bR).2.2.1;go_simp;try with_reducible rfl))
   refine tk [9,10,11,12] bS ?_
   (intro d hd;simp [tkD] at hd;subst hd;simp only [tks,pQ,pZ,pS])
   iterate 4 (refine ⟨?_,?_,?_⟩;rotate_left;· (intro oi ho;simp at ho;subst ho;refine Or.inl ⟨by rfl,fun w' bR=>?_⟩;have e0:=(KEY.out w' bR).2.2.2;go_simp;try with_reducible rfl))
   refine tk [13] bS ?_
   (intro d hd;simp [tkD] at hd;subst hd;simp only [tks,pQ,pZ,pS])
   (refine ⟨?_,?_,?_⟩;rotate_left;· (intro oi ho;simp at ho;subst ho;refine Or.inl ⟨by rfl,fun w' bR=>?_⟩;have e0:=(KEY.out w' bR).2.2.1;go_simp;try with_reducible rfl))
   (refine on 14 ?_;intro o ho K' hK;simp at ho;subst ho;go_simp)
   go_at_call 104
   (with_reducible refine (CB.out _ bS).mono ?_)
   rintro en oK ⟨b2,l2,c2,rfl,D4,Cd⟩
   have tj:Below wr.heap.size wr oK:=zzT bS D4
   have xx:=(tj.block _ (zZ eZ.out.2.1)).trans eZ.out.2.1
   (refine hK.out _ _ (fun _=>tj) ?_;clear hK K';try simp only [pQ,pN,pZ,pS])
   have iq:=tj
   (refine on 15 ?_;intro o ho K' hK;simp at ho;subst ho)
   have f0:=zH xx 0;have f1:=zH xx 1;have f2:=zH xx 2;have f3:=zH xx 3
   obtain ⟨e0,e1,e2,e3⟩:=zl xx
   go_simp
   (refine hK.out _ _ (fun h=>by simp at h) ?_;clear hK K';try simp only [pQ,pN,pZ,pS])
   refine zU (by kernel_rfl) (NoPanic.normal ?_) _
   obtain ⟨fC,cj⟩:=zzN (((((oK.setCell ⟨sb,0,none⟩ (.pointer (some ⟨b2,0,none⟩))).setCell ⟨sb,1,none⟩ (.slice l2 s'.2.1.length c2)).setCell ⟨sb,2,none⟩ (.int .i64 (s'.2.2.1:Nat))).setCell ⟨sb,3,none⟩ (str s'.2.2.2)))
   rw [cj]
   have lz:fC.heap[sb]? = some (.cells #[.pointer (some ⟨b2,0,none⟩),.slice l2 s'.2.1.length c2,.int .i64 (s'.2.2.1:Nat),str s'.2.2.2] 117 (0,0)):=by rw [<- cj];exact v7 xx _ _ _ _
   have cG:∀ g,g≠sb->fC.heap[g]? = oK.heap[g]?:=fun g hg=>by
    rw [<- cj,bG _ _ _ _ (by show g≠sb;exact hg),bG _ _ _ _ (by show g≠sb;exact hg),bG _ _ _ _ (by show g≠sb;exact hg),bG _ _ _ _ (by show g≠sb;exact hg)]
   have fB:But (fun g=>g=sb) Y fC:=by
    rw [<- cj]
    exact ((((HB.out.1.trans (But.ofBelow tj)).setCell (p:=⟨sb,0,none⟩) (.inl rfl) _).setCell (p:=⟨sb,1,none⟩) (.inl rfl) _).setCell (p:=⟨sb,2,none⟩) (.inl rfl) _).setCell (p:=⟨sb,3,none⟩) (.inl rfl) _
   have n6:=bU (bY lz (bY fB (Cd.keep (F':=fun g=>g≠sb/\g≠w.heap.size+1) (w':=fC) fun i o hi ho=>⟨hi,by rw [cG i hi.1];exact ho⟩)))
   clear lz cG fB Cd cj xx tj D4 iq bS KEY CB
   go_wp2_with fail
   go_roundw
   case rel=>exact ⟨_,j+1,e',s',dR,_,_,rfl,by rw [<- HN.out.2.2.2];rfl,HN.out.2.2.1,HN.out.1,HN.out.2.1,n6.out.1,n6.out.2.2,n6.out.2.1⟩
   case measure=>simp [intOf];omega
  ·have cT:¬ (i2:Int)<(vw.length:Int):=by omega
   have mx:=VC.out.odd
   have dx:=VC.out.last
   have h1:=nX.out
   rw [show vw.length-1=2*j from by omega,rA] at dx
   obtain rfl:=Option.some.inj dx
   obtain rfl:s=s0:=Option.some.inj (bw.symm.trans FO.out.2)
   have b1:wr.heap[w.heap.size+1]? = some (.cells #[.pointer none,.slice none 0 0,.int .i64 0,str []] 117 (0,0)):=by
    rw [HB.out.1.block _ (by omega) (by omega),HY.out.2.2.1.block _ (by omega)];exact HW.out.2.2.2.2
   have f0:=zH b1 0;have f1:=zH b1 1;have f2:=zH b1 2;have f3:=zH b1 3
   obtain ⟨z0',z1',z2',z3'⟩:=zl b1
   have HS:=bU (bY b1 h1)
   clear rA bw cJ hek bi dx mx b1 h1 Dk
   go_wp2_with fail
   have hV:=v7 HS.out.1 (.pointer (some ⟨xa,0,none⟩)) (.slice lsa s.2.1.length lsc) (.int .i64 (s.2.2.1:Nat)) (str s.2.2.2)
   obtain ⟨mR,mN,BI,BH⟩:=zl hV
   have cG:∀ g,g≠w.heap.size+1->((((wr.setCell ⟨w.heap.size+1,0,none⟩ (.pointer (some ⟨xa,0,none⟩))).setCell ⟨w.heap.size+1,1,none⟩ (.slice lsa s.2.1.length lsc)).setCell ⟨w.heap.size+1,2,none⟩ (.int .i64 (s.2.2.1:Nat))).setCell ⟨w.heap.size+1,3,none⟩ (str s.2.2.2)).heap[g]? = wr.heap[g]?:=fun g hg=>by
    rw [bG _ _ _ _ (by show g≠w.heap.size+1;exact hg),bG _ _ _ _ (by show g≠w.heap.size+1;exact hg),bG _ _ _ _ (by show g≠w.heap.size+1;exact hg),bG _ _ _ _ (by show g≠w.heap.size+1;exact hg)]
   have eQ:=(((HB.out.2.setCell (p:=⟨w.heap.size+1,0,none⟩) (Nat.le_succ _) (.pointer (some ⟨xa,0,none⟩))).setCell (p:=⟨w.heap.size+1,1,none⟩) (Nat.le_succ _) (.slice lsa s.2.1.length lsc)).setCell (p:=⟨w.heap.size+1,2,none⟩) (Nat.le_succ _) (.int .i64 (s.2.2.1:Nat))).setCell (p:=⟨w.heap.size+1,3,none⟩) (Nat.le_succ _) (str s.2.2.2)
   refine bodyPost_ret (v:=.agg #[(.pointer (some ⟨xa,0,none⟩)),(.slice lsa s.2.1.length lsc),.int .i64 (s.2.2.1:Nat),str s.2.2.2]) (by simp [results,Tryz.results66,go_sem,mR,mN,BI,BH]) rfl ?_
   exact ⟨_,_,rfl,eQ,eZ.out.1.keep fun i o hi ho=>⟨trivial,by rw [cG i hi.2];exact ho⟩⟩
set_option maxRecDepth 100000 in
theorem tells_u (F:Nat->Prop) (bv lsl:Value) (bg:zg) (w:World) (hb:Rep F w (qm (.leaf 117)) bv) :
 Calls Tryz.prog 67 #[.agg #[bv,lsl,.int .i64 (bg.1:Nat),str bg.2]] w fun en w'=>en=.returned (.tuple #[str [],.int .i64 (-1)])/\Below w.heap.size w w':=by
 have C:=bU (fun wz (h:Below w.heap.size w wz)=>w_ F wz 117 bv (hb.below h (fun _ h=>h)))
 obtain ⟨b,sl,rfl,_,hc,_⟩:=wE hb
 obtain ⟨W,hW,bM,hz,bx⟩:=kJ w (.cells #[.pointer (some ⟨b,0,none⟩),lsl,.int .i64 (bg.1:Nat),str bg.2] 117)
 have CW:=bU (C.out W bM)
 obtain ⟨e0,e1,e2,e3⟩:=zl bx
 have c1:W.cell? ⟨b,0,none⟩=some (.string ⟨#[117]⟩):=(bM.cell (by exact zZ hc)).trans (by simp [World.cell?,hc])
 have HW:=bU (bY hW bM)
 clear hW bM hz bx hc hb C e1
 go_enter Tryz.func67,Tryz.ntmps67
 go_upto_region 1 with (fail)
 rw [HW.out.1]
 go_wp2_with fail
 (with_reducible refine CW.out.mono ?_)
 rintro en w1 ⟨rfl,ew⟩
 subst ew
 go_wp2_with fail
 go_ret2
 exact ⟨rfl,HW.out.2⟩
def vW (s:St):Bs×Int:=(qj s).getD ([],-1)
theorem tells_any {t:Ty} {hand:List Ty} {s:St} {n:Nat} (F:Nat->Prop) (bv lsl:Value) (w:World) (hs:uv t hand s n) (bL:zW t<=15) (hn:n<=100) (hr:uj F w s bv lsl) :
 Calls Tryz.prog 67 #[.agg #[bv,lsl,.int .i64 (s.2.2.1:Nat),str s.2.2.2]] w fun en w'=>en=.returned (.tuple #[str (vW s).1,.int .i64 (vW s).2])/\Below w.heap.size w w':=by
 obtain ⟨ta,A4⟩:=hs.bgt
 have fT:=qP _ _ _ A4
 have dm:=hs.ll
 obtain ⟨b,lv,bg⟩:=s
 cases b with
 | leaf c =>
   by_cases hc:c=117
   ·subst hc;exact tells_u F bv lsl bg w hr.1
   ·refine (tells_leaf F c bv lsl bg w hr.1 hc (by have:bg.2.length<=100:=by { show ((Bd.leaf c,lv,bg):St).2.2.2.length<=100;omega };omega)).mono ?_
    rintro en w' ⟨rfl,hb⟩
    refine ⟨?_,hb⟩
    unfold vW qj
    simp only [if_neg hc,Option.getD_some]
 | ask l ss y nn =>
   have hf:=hs.fit
   rw [show ((Bd.ask l ss y nn,lv,bg):St).1=.ask l ss y nn from rfl,kB] at hf
   obtain ⟨a,h1,_⟩:=hf
   obtain ⟨pl,hl,hat,_⟩:=hs.pf.each l a h1
   have dz:lv[l]? = some pl:=hl
   have bw:=qP _ _ _ hat
   have tJ:lv.length<=8*n:=dm
   refine (tells_ask F l ss y nn bv lsl lv bg pl w hr.1 hr.2 dz (by omega) (by omega)).mono ?_
   rintro en w' ⟨rfl,hb⟩
   refine ⟨?_,hb⟩
   unfold vW qj
   simp only [dz,Option.map_some,Option.getD_some]
theorem tellV_eq {s:St} {c:UInt8} {p:Bs} {z:Int}:qj s=some (c::p,z)↔((vW s).1=c::p/\(vW s).2=z):=by
 unfold vW
 cases h:qj s with
 | none=>simp
 | some x=>obtain ⟨m,y⟩:=x;simp
set_option maxRecDepth 100000 in
theorem pK (F:Nat->Prop) (t:Ty) (b:Bd) (v:Pl) (kv bv mv pt:Value) (w:World) (hg:qr w) (hk:Rep F w (jD t) kv) (hb:Rep F w (qm b) bv) (hm:vU F t v mv pt w)
 (bL:zW t<=15) (hf:kB t.args b) (hw:wfB b) :
 Calls Tryz.prog 36 #[kv,bv,.agg #[mv,pt]] w fun en w'=>en=.returned (.bool (decide (zI t b v v.length)))/\Below w.heap.size w w':=by
 have ci:=ze hm.ok
 obtain ⟨ba,rfl⟩:=qI hb
 obtain ⟨kb,ks,rfl,_⟩:=zc hk
 obtain ⟨ma,mc,rfl,cH⟩:=hm.m.cells
 obtain ⟨pa,pc,rfl,cw⟩:=hm.p.cells
 obtain ⟨W,hW,bM,hz,b0⟩:=kJ w (.cells #[.slice ma v.length mc,.slice pa v.length pc] 33)
 obtain ⟨c0,c1,_,_⟩:=zJ b0
 have PF:=bU (fun e (he:e<v.length) (rr:e % 2=0)=>jS bL hf hw hm.ok e he rr)
 have SIN:=bU (fun (y:World) (hy:Below W.heap.size W y) (k n:Nat) (hnk:n=k+1) (s0:St) (rP:k<v.length) (eT:k % 2=0) (dY:zI t b v k) (c_:k7 t b v (k+1)=some s0) =>
  wm F t b v k n hnk s0 _ _ _ _ y ((hg.below bM).below hy) ((hk.below bM fun _ h=>h).below hy fun _ h=>h) ((hb.below bM fun _ h=>h).below hy fun _ h=>h) ((hm.below bM).below hy) bL hf hw rP eT dY c_)
 have HH:=bU (bY cH (bY cw (bY bM (bY hm.ok bL))))
 have HW:=bU hW
 clear hm cH cw hz b0 bM hW hg hk hb bL hf hw
 go_enter Tryz.func36,Tryz.ntmps36
 go_upto_region 1 with (fail)
 rw [HW.out]
 go_wp2_with fail
 go_loopw [7] (fun i wr=>∃ (wz:World) (k n:Nat),wz=wr/\n=k+1/\k % 2=0/\k<=v.length+1/\i=.int .i64 (n:Nat)/\zI t b v n/\Below W.heap.size W wz) (fun i _=>v.length+5-(intOf i).toNat)
 case atStart=>exact ⟨_,0,1,rfl,rfl,rfl,by omega,rfl,fun i hi h=>by omega,bP _ _⟩
 case round =>
  obtain ⟨wr,k,n,rfl,hnk,eT,iE,rfl,dY,hB⟩:=hrel
  have d0:=(hB.cell (bW _ _ c0)).trans c0
  have d1:=(hB.cell (bW _ _ c1)).trans c1
  clear c0 c1
  have HB:=bU (bY hB (zzT HH.out.2.2.1 hB))
  clear hB
  by_cases bA:n<v.length
  ·have cT:(n:Int)<(v.length:Int):=by omega
   obtain ⟨x,p,z,bi,b4⟩:=kV HH.out.2.2.2.1 bA
   obtain ⟨mb,mo,rfl,_,cr,cf⟩:=HH.out.1 n _ bi
   obtain ⟨pb,po,rfl,_,cd,dZ⟩:=HH.out.2.1 n _ bi
   obtain ⟨s,hand,c_,cJ⟩:=PF.out k (by omega) eT (fun i hi h=>dY i (by omega) h)
   have CS:=bU (SIN.out wr HB.out.1 k n hnk s (by omega) eT (fun i hi h=>dY i (by omega) h) c_)
   have f_:kZ t b v n=qj s:=by unfold kZ;rw [hnk,c_];rfl
   have HQ:Hid ((vW s).1=x::p/\(vW s).2=z↔kZ t b v n=v[n]?):=bU (by rw [f_,bi];exact tellV_eq.symm)
   have CT:=bU (fun (y:World) (xv lv:Value) (hr:uj (fun _=>True) y s xv lv)=>tells_any (fun _=>True) xv lv y cJ HH.out.2.2.2.2 (by omega) hr)
   have KEY:=bU (fun (y:World) (hy:Below wr.heap.size wr y)=>(show y.cell? ⟨w.heap.size,0,none⟩=some (.slice (some ⟨mb,mo,none⟩) v.length mc)/\y.cell? ⟨w.heap.size,1,none⟩=some (.slice (some ⟨pb,po,none⟩) v.length pc)/\y.cell? ⟨mb,mo+n,none⟩=some (str (x::p))/\y.cell? ⟨pb,po+n,none⟩=some (.int .i64 z) from by
    have hk:∀ (a:Addr) (u:Value),wr.cell? a=some u->y.cell? a=some u:=fun a u h=>(hy.cell (bW _ _ h)).trans h
    exact ⟨hk _ _ d0,hk _ _ d1,hk _ _ ((HB.out.2.cell (p:=⟨mb,mo+n,none⟩) cr).trans cf),hk _ _ ((HB.out.2.cell (p:=⟨pb,po+n,none⟩) cd).trans dZ)⟩))
   have HF:=bU (bY dY (bY hnk (bY eT (bY iE bA))))
   obtain ⟨M,hM⟩:=zzM (x::p)
   obtain ⟨tm,htm⟩:=zzN ((vW s).1)
   obtain ⟨tz,htz⟩:=zzN ((vW s).2)
   rw [<- hM] at KEY HQ
   rw [htm,htz] at HQ CT
   clear bi b4 cr cf cd dZ c_ cJ f_ dY hnk eT iE hM htm htz SIN PF
   go_wp2_with fail
   (with_reducible refine CS.out.mono ?_)
   rintro en w1 ⟨xv,lv,rfl,bE,dV⟩
   have sV:=bU (CT.out w1 xv lv dV)
   clear CS CT dV
   go_wp2_with fail
   (with_reducible refine sV.out.mono ?_)
   rintro en w2 ⟨rfl,bN⟩
   have b7:=zzT bE bN
   obtain ⟨e0,e1,m0,p0⟩:=KEY.out w2 b7
   have b6:=bU (bY (zzT HB.out.1 b7) (zzT HB.out.2 b7))
   have rQ:IntKind.i64.wrap ((n:Int)+2)=((n+2:Nat):Int):=by rw [qD _ (by omega) (by omega)];omega
   clear bE bN b7 d0 d1 KEY sV
   by_cases hm:tm=M
   ·have lB:(tm == M)=true:=by simp [hm]
    have ox:(tm != M)=false:=by simp [hm]
    by_cases hz:tz=z
    ·have hzz:(tz != z)=false:=by simp [hz]
     have E:=bU (show zI t b v (n+2) from fun i hi h=>by
      have h1:=HF.out.2.1;have h2:=HF.out.2.2.1
      rcases Nat.lt_or_ge i n with h3 | h3
      ·exact HF.out.1 i h3 h
      ·obtain rfl:i=n:=by omega
       exact HQ.out.1 ⟨hm,hz⟩)
     have HE:=bU (show n+2=(n+1)+1/\(n+1) % 2=0/\n+1<=v.length+1 by
      have h1:=HF.out.2.1;have h2:=HF.out.2.2.1;have h3:=HF.out.2.2.2.2;omega)
     clear hm hz
     go_wp2_with fail
     go_roundw
     case rel=>exact ⟨_,n+1,n+2,rfl,rfl,HE.out.2.1,HE.out.2.2,rfl,E.out,b6.out.1⟩
     case measure=>simp [intOf];omega
    ·have hzz:(tz != z)=true:=by simp [hz]
     have E:=bU (show decide (zI t b v v.length)=false by
      rw [decide_eq_false_iff_not]
      intro h
      have h1:=HF.out.2.1;have h2:=HF.out.2.2.1
      exact hz (HQ.out.2 (h n HF.out.2.2.2.2 (by omega))).2)
     clear hm hz
     go_wp2_with fail
     go_ret
     exact ⟨by rw [E.out];rfl,b6.out.2⟩
   ·have lB:(tm == M)=false:=by simp [hm]
    have ox:(tm != M)=true:=by simp [hm]
    have E:=bU (show decide (zI t b v v.length)=false by
     rw [decide_eq_false_iff_not]
     intro h
     have h1:=HF.out.2.1;have h2:=HF.out.2.2.1
     exact hm (HQ.out.2 (h n HF.out.2.2.2.2 (by omega))).1)
    clear hm
    go_wp2_with fail
    go_ret
    exact ⟨by rw [E.out];rfl,b6.out.2⟩
  ·have cT:¬ (n:Int)<(v.length:Int):=by omega
   have E:=bU (show decide (zI t b v v.length)=true from decide_eq_true fun i hi h=>dY i (by omega) h)
   clear dY hnk
   go_wp2_with fail
   go_ret
   exact ⟨by rw [E.out];rfl,HB.out.2⟩
def qY (s text:Bs) (ms:List Bs) (ps:List Int):Bool:=match zM s text with
 | none=>false
 | some b=>kO s ms ps && decide (zI (zV s).1 b (ms.zip ps) (ms.zip ps).length)
theorem followOk_none {s text:Bs} (h:xN s text=none) (ms:List Bs) (ps:List Int):qY s text ms ps=false:=by
 rw [pL,Option.map_eq_none_iff] at h
 unfold qY;rw [h]
theorem followOk_some {s text:Bs} {t:Ty} {b:Bd} (h:xN s text=some (t,b)) (ms:List Bs) (ps:List Int):qY s text ms ps=(kO s ms ps && decide (zI t b (ms.zip ps) (ms.zip ps).length))/\t=(zV s).1/\Good t b:=by
 rw [pL,Option.map_eq_some_iff] at h
 obtain ⟨b',h,e⟩:=h
 simp at e;obtain ⟨rfl,rfl⟩:=e
 refine ⟨?_,rfl,(qS h).1⟩
 unfold qY;rw [h]
theorem vN {s:Bs} {ms:List Bs} {ps:List Int} (h:kO s ms ps=true):kt s ms ps=true:=by
 unfold kO at h;rw [Bool.and_eq_true] at h;exact h.1
set_option maxRecDepth 100000 in
theorem uZ (F:Nat->Prop) (s text:Bs) (mv pt:Value) (ms:List Bs) (ps:List Int) (w:World) (hg:qr w) (hs:Lim s.length) (ht:Lim text.length) (hm:jz F w ms mv) (hp:jO F w ps pt) (hl:∀ x∈ms,Lim x.length) :
 Calls Tryz.prog 12 #[str s,str text,.agg #[mv,pt]] w fun en w'=>en=.returned (.bool (qY s text ms ps))/\Below w.heap.size w w':=by
 obtain ⟨ma,mc,rfl⟩:=hm.slice
 obtain ⟨pa,pc,rfl⟩:=hp.slice
 obtain ⟨W,hW,bM,hz,b0⟩:=kJ w (.cells #[.slice ma ms.length mc,.slice pa ps.length pc] 33)
 have C:=bU (xG s text W (hg.below bM) hs ht)
 have CL:=bU (fun (y:World) (hy:Below W.heap.size W y)=>jy F s _ _ ms ps y hs ((hm.below bM fun _ h=>h).below hy fun _ h=>h) ((hp.below bM fun _ h=>h).below hy fun _ h=>h) hl)
 have HP:=bU (fun (y:World) (hy:Below W.heap.size W y) (h:kt s ms ps=true)=>(vE (hm.below bM fun _ h=>h) (hp.below bM fun _ h=>h) hl h).below hy)
 have HG:=bU (fun (y:World) (hy:Below W.heap.size W y)=>(hg.below bM).below hy)
 have HW:=bU (bY hW (bY bM b0))
 clear hW bM hz b0 hg hs ht hm hp hl
 go_enter Tryz.func12,Tryz.ntmps12
 go_upto_region 1 with (fail)
 rw [HW.out.1]
 go_wp2_with fail
 (with_reducible refine C.out.mono ?_)
 rintro en w1 ⟨kv,bv,rfl,bE,cS,dW⟩
 clear C
 obtain ⟨c0,c1,_,_⟩:=zJ HW.out.2.2
 have d0:=(bE.cell (bW _ _ c0)).trans c0
 have d1:=(bE.cell (bW _ _ c1)).trans c1
 clear c0 c1
 have HB:=bU (bY bE (zzT HW.out.2.1 bE))
 cases hq:xN s text with
 | none =>
   obtain rfl:=cS hq
   have E:=bU (followOk_none hq ms ps)
   clear cS dW hq bE
   go_wp2_with fail
   go_ret
   exact ⟨by rw [E.out];rfl,HB.out.2⟩
 | some tb =>
   obtain ⟨t,b⟩:=tb
   obtain ⟨rk,rb⟩:=dW t b hq
   obtain ⟨E,et,dn⟩:=followOk_some hq ms ps
   obtain ⟨ka,ks,rfl,_⟩:=zc rk
   obtain ⟨ba,rfl⟩:=qI rb
   have E:=bU E
   have HR:=bU (bY rk (bY rb (bY et dn)))
   have C1:=bU (CL.out w1 bE)
   clear cS dW hq bE rk rb et dn CL
   cases dF:kO s ms ps with
   | false =>
     rw [dF] at E C1
     clear dF
     go_wp2_with fail
     (with_reducible refine C1.out.mono ?_)
     rintro en w2 ⟨rfl,bN⟩
     have b6:=bU (zzT HB.out.2 bN)
     clear bN d0 d1
     go_wp2_with fail
     go_ret
     exact ⟨by rw [E.out];rfl,b6.out⟩
   | true =>
     rw [dF,Bool.true_and] at E
     rw [dF] at C1
     have n5:=bU (vN dF)
     clear dF
     go_wp2_with fail
     (with_reducible refine C1.out.mono ?_)
     rintro en w2 ⟨rfl,bN⟩
     have b7:=zzT HB.out.1 bN
     have e0:=(bN.cell (bW _ _ d0)).trans d0
     have e1:=(bN.cell (bW _ _ d1)).trans d1
     have bw:=HP.out w2 b7 n5.out
     rw [<- HR.out.2.2.1] at bw
     have C2:=bU (pK (fun _=>True) t b (ms.zip ps) (.pointer (some ⟨ka,0,none⟩)) (.pointer (some ⟨ba,0,none⟩)) _ _ w2 (HG.out w2 b7)
      ((Rep.below bN fun _ _=>trivial) HR.out.1) ((Rep.below bN fun _ _=>trivial) HR.out.2.1) ⟨(Rep.keep fun b o _ ho=>⟨trivial,ho⟩).1 _ _ bw.m,(Rep.keep fun b o _ ho=>⟨trivial,ho⟩).1 _ _ bw.p,bw.ok,bw.l⟩ HR.out.2.2.2.atoms HR.out.2.2.2.fit HR.out.2.2.2.wf)
     have b6:=bU (zzT HB.out.2 bN)
     obtain ⟨r,hr⟩:=zzN (decide (zI t b (ms.zip ps) (ms.zip ps).length))
     rw [hr] at C2 E
     clear bN d0 d1 b7 bw C1 HP HG hr
     go_wp2_with fail
     (with_reducible refine C2.out.mono ?_)
     rintro en w3 ⟨rfl,bp⟩
     have cF:=bU (zzT b6.out bp)
     clear bp
     go_wp2_with fail
     go_ret
     exact ⟨by rw [E.out];rfl,cF.out⟩
end Go.Proofs.YtfedjhgaeikjmaaGreatDoor

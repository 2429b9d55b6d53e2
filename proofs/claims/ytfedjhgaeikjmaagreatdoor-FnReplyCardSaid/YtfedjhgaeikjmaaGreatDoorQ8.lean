/- Walks of functions that the statement reaches, and plain words. No conditions. -/
import Derived.Test.YtfedjhgaeikjmaaGreatDoorQ7
set_option linter.unusedVariables false
set_option linter.unusedSimpArgs false
set_option maxHeartbeats 8000000
namespace Go.Proofs.YtfedjhgaeikjmaaGreatDoor
open Go.RowKit
set_option maxRecDepth 100000 in
theorem bracketed_any (F:Nat->Prop) (t:Ty) (v:Pl) (mv pt:Value) (w:World) (h:vK F t v mv pt w) :
 Calls Tryz.prog 80 #[.agg #[mv,pt]] w fun en w'=>en=.returned (.bool (brP v))/\Below w.heap.size w w':=by
 have dE:=za h.ok
 obtain ⟨ma,mc,rfl,cb⟩:=h.m.cells
 obtain ⟨pa,pc,rfl,dP⟩:=h.p.cells
 obtain ⟨W,hW,b9,hz,b0⟩:=kV w (.cells #[.slice ma v.length mc,.slice pa v.length pc] 33)
 obtain ⟨c0,c1,_,_⟩:=zJ b0
 have HH:=bz (bj cb (bj dP (bj b9 (h.below b9))))
 have HW:=bz hW
 clear h cb dP hz b0 b9 hW
 go_enter Tryz.func80,Tryz.ntmps80
 go_upto_region 1 with (fail)
 rw [HW.out]
 go_wp2_with fail
 go_loopw [8] (fun i wr=>∃ (wz:World) (k:Nat),wz=wr/\k<=v.length/\i=.int .i64 k/\ju (y_ v) k=true/\Below W.heap.size W wz) (fun i _=>v.length-(intOf i).toNat)
 case atStart=>exact ⟨_,0,rfl,Nat.zero_le _,rfl,rfl,bh _ _⟩
 case round =>
  obtain ⟨wr,k,rfl,hk,rfl,cF,hB⟩:=hrel
  have d0:=(hB.cell (bp _ _ c0)).trans c0
  have d1:=(hB.cell (bp _ _ c1)).trans c1
  clear c0 c1
  have HB:=bz (bj hB (zzT HH.out.2.2.1 hB))
  clear hB
  by_cases cQ:k<v.length
  ·have dU:(k:Int)<(v.length:Int):=by omega
   obtain ⟨x,p,z,cS,cD⟩:=kQ HH.out.2.2.2.ok cQ
   obtain ⟨mb,mo,rfl,_,dD,dC⟩:=HH.out.1 k _ cS
   obtain ⟨pb,po,rfl,_,dB,dN⟩:=HH.out.2.1 k _ cS
   have m0:=(HB.out.2.cell (p:=⟨mb,mo+k,none⟩) dD).trans dC
   have p0:=(HB.out.2.cell (p:=⟨pb,po+k,none⟩) dB).trans dN
   have PLR:=bz (fun (y:World) (hy:Below wr.heap.size wr y)=>(HH.out.2.2.2.below HB.out.1).below hy)
   have VK:=yh cS
   have CB:=bz (jd x p)
   obtain ⟨q,hq⟩:=zzN (isQ (x::p))
   obtain ⟨M,hM⟩:=zzM (x::p)
   obtain ⟨cn,fE⟩:=zzN (y_ v k)
   rw [hq] at VK CB
   rw [fE] at VK
   rw [<- hM] at m0 CB
   have CV:=bz (fun (y:World) (hy:Below wr.heap.size wr y)=>pending_any F t v k _ _ y (PLR.out y hy).m (PLR.out y hy).p HH.out.2.2.2.ok (by omega))
   have KEY:=bz (fun (y:World) (hy:Below wr.heap.size wr y)=>(show y.cell? ⟨w.heap.size,0,none⟩=some (.slice (some ⟨mb,mo,none⟩) v.length mc)/\y.cell? ⟨w.heap.size,1,none⟩=some (.slice (some ⟨pb,po,none⟩) v.length pc)/\y.cell? ⟨pb,po+k,none⟩=some (.int .i64 z) from
    ⟨(hy.cell (bp _ _ d0)).trans d0,(hy.cell (bp _ _ d1)).trans d1,(hy.cell (bp _ _ p0)).trans p0⟩))
   have HV:=bz (bj fE (bj cF cQ))
   generalize nS:kj v k []=pe at *
   clear cS cD dD dC dB dN hq fE cF nS hM
   cases q with
   | true =>
     obtain rfl:cn=true:=by rw [VK];rfl
     clear VK
     go_upto_region 4 with (fail)
     clear d0 d1 m0 p0
     refine wp_region_noPanic ?_
     refine zW (fun w'=>Below wr.heap.size wr w') (fun _=>false) (by kernel_rfl) ?_
     have cZ:(fun w'=>Below wr.heap.size wr w') wr.drew:=Below.drew (bh _ _)
     refine tk [0] cZ ?_
     (intro d hd;simp [tkD] at hd;subst hd;simp only [tks,pQ,pZ,pS])
     (refine ⟨?_,?_,?_⟩;rotate_left;· (intro oi ho;simp at ho;subst ho;refine Or.inl ⟨by rfl,fun w' b_=>?_⟩;go_simp;try with_reducible rfl))
     (refine on 1 ?_;intro o ho K' hK;simp at ho;subst ho;go_simp)
     go_at_call 114
     (with_reducible refine (CB.out _).mono ?_)
     rintro en x1 ⟨rfl,e⟩
     subst x1
     (refine hK.out _ _ (fun _=>cZ) ?_;clear hK K';try simp only [pQ,pN,pZ,pS])
     refine tk [2,3,4,5,6,7,8,9,10,11,12,13] cZ ?_
     (intro d hd;simp [tkD] at hd;subst hd;simp only [tks,pQ,pZ,pS])
     iterate 12 (refine ⟨?_,?_,?_⟩;rotate_left;· (intro oi ho;simp at ho;subst ho;first | (refine Or.inr ⟨by rfl,?_⟩;with_reducible rfl) | (refine Or.inl ⟨by rfl,fun w' b_=>?_⟩;go_simp;try with_reducible rfl)))
     refine zU (by kernel_rfl) (NoPanic.normal ?_) _
     have E:=bz (show ju (y_ v) (k+1)=true by rw [ju,HV.out.2.1,HV.out.1];rfl)
     clear KEY CV CB PLR cZ
     go_wp2_with fail
     go_roundw
     case rel=>exact ⟨_,k+1,rfl,by omega,by go_num,E.out,HB.out.1.drew⟩
     case measure=>simp [intOf];omega
   | false =>
     rw [Bool.false_or] at VK
     go_upto_region 4 with (fail)
     clear d0 d1 m0 p0
     refine wp_region_noPanic ?_
     refine zW (fun w'=>Below wr.heap.size wr w') (fun _=>false) (by kernel_rfl) ?_
     have cZ:(fun w'=>Below wr.heap.size wr w') wr.drew:=Below.drew (bh _ _)
     refine tk [0] cZ ?_
     (intro d hd;simp [tkD] at hd;subst hd;simp only [tks,pQ,pZ,pS])
     (refine ⟨?_,?_,?_⟩;rotate_left;· (intro oi ho;simp at ho;subst ho;refine Or.inl ⟨by rfl,fun w' b_=>?_⟩;go_simp;try with_reducible rfl))
     (refine on 1 ?_;intro o ho K' hK;simp at ho;subst ho;go_simp)
     go_at_call 114
     (with_reducible refine (CB.out _).mono ?_)
     rintro en x1 ⟨rfl,e⟩
     subst x1
     (refine hK.out _ _ (fun _=>cZ) ?_;clear hK K';try simp only [pQ,pN,pZ,pS])
     refine tk [2,3,4,5,6,7] cZ ?_
     (intro d hd;simp [tkD] at hd;subst hd;simp only [tks,pQ,pZ,pS])
     iterate 6 (refine ⟨?_,?_,?_⟩;rotate_left;· (intro oi ho;simp at ho;subst ho;refine Or.inl ⟨by rfl,fun w' b_=>?_⟩;have e0:=(KEY.out w' b_).2.1;go_simp;try with_reducible rfl))
     refine tk [8] cZ ?_
     (intro d hd;simp [tkD] at hd;subst hd;simp only [tks,pQ,pZ,pS])
     (refine ⟨?_,?_,?_⟩;rotate_left;· (intro oi ho;simp at ho;subst ho;refine Or.inl ⟨by rfl,fun w' b_=>?_⟩;have e0:=(KEY.out w' b_).2.2;go_simp;try with_reducible rfl))
     refine tk [9,10] cZ ?_
     (intro d hd;simp [tkD] at hd;subst hd;simp only [tks,pQ,pZ,pS])
     iterate 2 (refine ⟨?_,?_,?_⟩;rotate_left;· (intro oi ho;simp at ho;subst ho;refine Or.inl ⟨by rfl,fun w' b_=>?_⟩;have e0:=(KEY.out w' b_).1;have e1:=(KEY.out w' b_).2.1;go_simp;try with_reducible rfl))
     (refine on 11 ?_;intro o ho K' hK;simp at ho;subst ho;go_simp)
     go_at_call 115
     (with_reducible refine (CV.out _ cZ).mono ?_)
     rintro en ry ⟨rfl,mZ⟩
     have eP:Below wr.heap.size wr ry:=zzT cZ mZ
     (refine hK.out _ _ (fun _=>eP) ?_;clear hK K';try simp only [pQ,pN,pZ,pS])
     have lu:=eP
     refine tk [12,13] lu ?_
     (intro d hd;simp [tkD] at hd;subst hd;simp only [tks,pQ,pZ,pS])
     iterate 2 (refine ⟨?_,?_,?_⟩;rotate_left;· (intro oi ho;simp at ho;subst ho;refine Or.inl ⟨by rfl,fun w' b_=>?_⟩;go_simp;try with_reducible rfl))
     refine zU (by kernel_rfl) (NoPanic.normal ?_) _
     have rW:=bz eP
     clear KEY CV CB PLR cZ eP lu mZ
     cases cn with
     | true =>
       have cE:(z != pe)=false:=by rw [bne,<- VK];rfl
       clear VK
       have E:=bz (show ju (y_ v) (k+1)=true by rw [ju,HV.out.2.1,HV.out.1];rfl)
       go_wp2_with fail
       go_roundw
       case rel=>exact ⟨_,k+1,rfl,by omega,by go_num,E.out,zzT HB.out.1 rW.out⟩
       case measure=>simp [intOf];omega
     | false =>
       have cE:(z != pe)=true:=by rw [bne,<- VK];rfl
       clear VK
       have E:=bz (show brP v=false from gU HV.out.1 HV.out.2.2)
       go_wp2_with fail
       go_ret
       exact ⟨by rw [E.out];rfl,zzT HB.out.2 rW.out⟩
  ·obtain rfl:k=v.length:=by omega
   have E:=bz (show brP v=true from cF)
   clear cF
   go_wp2_with fail
   go_ret
   exact ⟨by rw [E.out];rfl,HB.out.2⟩
set_option maxRecDepth 100000 in
theorem legal_any (F:Nat->Prop) (t:Ty) (v:Pl) (mv pt:Value) (w:World) (h:vK F t v mv pt w) :
 Calls Tryz.prog 44 #[.agg #[mv,pt]] w fun en w'=>en=.returned (.bool (qO v))/\Below w.heap.size w w':=by
 obtain ⟨ma,mc,rfl,cb⟩:=h.m.cells
 obtain ⟨pa,pc,rfl,dP⟩:=h.p.cells
 obtain ⟨W,hW,b9,hz,b0⟩:=kV w (.cells #[.slice ma v.length mc,.slice pa v.length pc] 33)
 have C1:=bz (pW F t v _ _ W (h.below b9))
 have C2:=bz (fun (y:World) (hy:Below W.heap.size W y)=>bracketed_any F t v _ _ y ((h.below b9).below hy))
 have HL:Hid (qO v=(ym v && brP v)):=bz rfl
 have HW:=bz (bj hW (bj b9 b0))
 generalize ym v=b1 at *
 generalize brP v=b2 at *
 obtain ⟨c0,c1,_,_⟩:=zJ b0
 clear h cb dP hz b0 b9 hW
 go_enter Tryz.func44,Tryz.ntmps44
 go_upto_region 1 with (fail)
 rw [HW.out.1]
 go_wp2_with fail
 (with_reducible refine C1.out.mono ?_)
 rintro en w1 ⟨rfl,bi⟩
 cases b1 with
 | false =>
   have HB:=bz (zzT HW.out.2.1 bi)
   clear bi c0 c1
   go_wp2_with fail
   go_ret
   exact ⟨by rw [HL.out];rfl,HB.out⟩
 | true =>
   have d0:=(bi.cell (bp _ _ c0)).trans c0
   have d1:=(bi.cell (bp _ _ c1)).trans c1
   have BF:=bz (C2.out w1 bi)
   have HB:=bz (zzT HW.out.2.1 bi)
   clear bi c0 c1 C2
   go_wp2_with fail
   (with_reducible refine BF.out.mono ?_)
   rintro en w2 ⟨rfl,cK⟩
   have cj:=bz (zzT HB.out cK)
   clear cK
   go_wp2_with fail
   go_ret
   exact ⟨by rw [HL.out,Bool.true_and];rfl,cj.out⟩
def ke (s:Bs) (ms:List Bs) (ps:List Int):Bool:=kO s ms ps && qO (ms.zip ps)
theorem jt {s:Bs} {ms:List Bs} {ps:List Int} (h:kO s ms ps=true):ps.length=ms.length/\zO (zV s).1 (ms.zip ps)=true/\zP (zV s).1<=15:=by
 unfold kO qF at h
 simp only [Bool.and_eq_true,decide_eq_true_eq] at h
 obtain ⟨h1,h2,h3,h4⟩:=h
 refine ⟨h3,?_,(jh h1).2⟩
 unfold zO
 rw [h4,Bool.and_true]
 simp only [decide_eq_true_eq]
 rw [List.length_zip];omega
theorem vk {F:Nat->Prop} {s:Bs} {ms:List Bs} {ps:List Int} {mv pt:Value} {w:World} (hm:jp F w ms mv) (hp:jw F w ps pt) (hl:∀ x∈ms,Lim x.length) (h:kO s ms ps=true):vK F (zV s).1 (ms.zip ps) mv pt w:=by
 obtain ⟨h1,h2,_⟩:=jt h
 exact ⟨hm.zip h1,hp.zip h1,h2,fun x hx=>(hl _ (List.of_mem_zip hx).1).le⟩
set_option maxRecDepth 100000 in
theorem jf (F:Nat->Prop) (s:Bs) (mv pt:Value) (ms:List Bs) (ps:List Int) (w:World) (hs:Lim s.length) (hm:jp F w ms mv) (hp:jw F w ps pt) (hl:∀ x∈ms,Lim x.length) :
 Calls Tryz.prog 18 #[str s,.agg #[mv,pt]] w fun en w'=>en=.returned (.bool (ke s ms ps))/\Below w.heap.size w w':=by
 obtain ⟨ma,mc,rfl⟩:=hm.slice
 obtain ⟨pa,pc,rfl⟩:=hp.slice
 obtain ⟨W,hW,b9,hz,b0⟩:=kV w (.cells #[.slice ma ms.length mc,.slice pa ps.length pc] 33)
 obtain ⟨c0,c1,_,_⟩:=zJ b0
 have tK:=hm.below b9 (fun _ h=>h)
 have nX:=hp.below b9 (fun _ h=>h)
 have C1:=bz (v8 F s _ _ ms ps W hs tK nX hl)
 have C2:=bz (fun (y:World) (hy:Below W.heap.size W y) (h:kO s ms ps=true)=>legal_any F _ _ _ _ y ((vk tK nX hl h).below hy))
 have HL:Hid (ke s ms ps=(kO s ms ps && qO (ms.zip ps))):=bz rfl
 have HW:=bz (bj hW (bj b9 b0))
 generalize kO s ms ps=b1 at *
 generalize qO (ms.zip ps)=b2 at *
 clear hm hp hz b0 b9 hW tK nX hl hs
 go_enter Tryz.func18,Tryz.ntmps18
 go_upto_region 1 with (fail)
 rw [HW.out.1]
 go_wp2_with fail
 (with_reducible refine C1.out.mono ?_)
 rintro en w1 ⟨rfl,bi⟩
 cases b1 with
 | false =>
   have HB:=bz (zzT HW.out.2.1 bi)
   clear bi c0 c1
   go_wp2_with fail
   go_ret
   exact ⟨by rw [HL.out];rfl,HB.out⟩
 | true =>
   have d0:=(bi.cell (bp _ _ c0)).trans c0
   have d1:=(bi.cell (bp _ _ c1)).trans c1
   have BF:=bz (C2.out w1 bi rfl)
   have HB:=bz (zzT HW.out.2.1 bi)
   clear bi c0 c1 C2
   go_wp2_with fail
   (with_reducible refine BF.out.mono ?_)
   rintro en w2 ⟨rfl,cK⟩
   have cj:=bz (zzT HB.out cK)
   clear cK
   go_wp2_with fail
   go_ret
   exact ⟨by rw [HL.out,Bool.true_and];rfl,cj.out⟩
set_option maxRecDepth 100000 in
theorem l2Visible_any (F:Nat->Prop) (t:Ty) (v:Pl) (mv pt:Value) (w:World) (h:vK F t v mv pt w) :
 Calls Tryz.prog 87 #[.agg #[mv,pt]] w fun en w'=>en=.returned (.bool (ym v))/\Below w.heap.size w w':=by
 have dE:=za h.ok
 obtain ⟨ma,mc,rfl,cb⟩:=h.m.cells
 obtain ⟨pa,pc,rfl,dP⟩:=h.p.cells
 obtain ⟨W,hW,b9,hz,b0⟩:=kV w (.cells #[.slice ma v.length mc,.slice pa v.length pc] 33)
 obtain ⟨c0,c1,_,_⟩:=zJ b0
 have HH:=bz (bj cb (bj dP (bj b9 (h.below b9))))
 have HW:=bz hW
 clear h cb dP hz b0 b9 hW
 go_enter Tryz.func87,Tryz.ntmps87
 go_upto_region 1 with (fail)
 rw [HW.out]
 go_wp2_with fail
 go_loopw [3] (fun i wr=>∃ (wz:World) (k:Nat),wz=wr/\1<=k/\k<=v.length+1/\i=.int .i64 k/\ju (vN v) k=true/\Below W.heap.size W wz) (fun i _=>v.length+1-(intOf i).toNat)
 case atStart=>exact ⟨_,1,rfl,bw _,by omega,rfl,rfl,bh _ _⟩
 case round =>
  obtain ⟨wr,k,rfl,hk1,hk,rfl,cF,hB⟩:=hrel
  have d0:=(hB.cell (bp _ _ c0)).trans c0
  have d1:=(hB.cell (bp _ _ c1)).trans c1
  clear c0 c1
  have HB:=bz (bj hB (zzT HH.out.2.2.1 hB))
  clear hB
  by_cases cQ:k<v.length
  ·have dU:(k:Int)<(v.length:Int):=by omega
   obtain ⟨x,p,z,cS,cD⟩:=kQ HH.out.2.2.2.ok cQ
   obtain ⟨pb,po,rfl,_,dB,dN⟩:=HH.out.2.1 k _ cS
   have p0:=(HB.out.2.cell (p:=⟨pb,po+k,none⟩) dB).trans dN
   have PLR:=bz (fun (y:World) (hy:Below wr.heap.size wr y)=>(HH.out.2.2.2.below HB.out.1).below hy)
   have VK:=uU cS (by omega)
   obtain ⟨kk,hkk⟩:=zzM (k % 2)
   have hr:(k:Int).tmod 2=(kk:Int):=by rw [Int.tmod_eq_emod_of_nonneg (by omega)];omega
   have hw:pz (kG (x::p))=kk:=by
    rw [cD.opp,hkk]
    unfold pz
    rcases Nat.mod_two_eq_zero_or_one k with h | h <;> rw [h] <;> rfl
   obtain ⟨bo,eJ⟩:=zzN (kG (x::p))
   rw [eJ] at VK hw
   obtain ⟨cn,fE⟩:=zzN (vN v k)
   rw [fE] at VK
   have CV:=bz (fun (y:World) (hy:Below wr.heap.size wr y)=>xF F t v bo k _ _ y (PLR.out y hy).m (PLR.out y hy).p HH.out.2.2.2.ok (by omega) (by omega) HH.out.2.2.2.l)
   rw [hw] at CV
   have HV:=bz (bj VK (bj fE (bj cF cQ)))
   have KEY:=bz (fun (y:World) (hy:Below wr.heap.size wr y)=>(show y.cell? ⟨w.heap.size,0,none⟩=some (.slice ma v.length mc)/\y.cell? ⟨w.heap.size,1,none⟩=some (.slice (some ⟨pb,po,none⟩) v.length pc)/\y.cell? ⟨pb,po+k,none⟩=some (.int .i64 z) from
    ⟨(hy.cell (bp _ _ d0)).trans d0,(hy.cell (bp _ _ d1)).trans d1,(hy.cell (bp _ _ p0)).trans p0⟩))
   clear cS cD dB dN eJ fE VK cF hkk hw
   go_upto_region 4 with (fail)
   clear d0 d1 p0
   refine wp_region_noPanic ?_
   refine zW (fun w'=>Below wr.heap.size wr w') (fun _=>false) (by kernel_rfl) ?_
   have cZ:(fun w'=>Below wr.heap.size wr w') wr.drew:=Below.drew (bh _ _)
   refine tk [0,1,2,3,5] cZ ?_
   (intro d hd;simp [tkD] at hd;subst hd;simp only [tks,pQ,pZ,pS])
   iterate 5 (refine ⟨?_,?_,?_⟩;rotate_left;· (intro oi ho;simp at ho;subst ho;refine Or.inl ⟨by rfl,fun w' b_=>?_⟩;have e0:=(KEY.out w' b_).1;have e1:=(KEY.out w' b_).2.1;go_simp;try with_reducible rfl))
   refine tk [6,7,8] cZ ?_
   (intro d hd;simp [tkD] at hd;subst hd;simp only [tks,pQ,pZ,pS])
   iterate 3 (refine ⟨?_,?_,?_⟩;rotate_left;· (intro oi ho;simp at ho;subst ho;refine Or.inl ⟨by rfl,fun w' b_=>?_⟩;have e0:=(KEY.out w' b_).2.1;go_simp;try with_reducible rfl))
   refine tk [9] cZ ?_
   (intro d hd;simp [tkD] at hd;subst hd;simp only [tks,pQ,pZ,pS])
   (refine ⟨?_,?_,?_⟩;rotate_left;· (intro oi ho;simp at ho;subst ho;refine Or.inl ⟨by rfl,fun w' b_=>?_⟩;have e0:=(KEY.out w' b_).2.2;go_simp;try with_reducible rfl))
   (refine on 4 ?_;intro o ho K' hK;simp at ho;subst ho;go_simp)
   go_at_call 126
   (with_reducible refine (CV.out _ cZ).mono ?_)
   rintro en x8 ⟨xv,rfl,em,D7⟩
   have eP:Below wr.heap.size wr x8:=zzT cZ em
   have CC:=wb _ z _ x8 D7.ints (by rw [List.length_map];have:=wM v bo k;omega)
   rw [<- HV.out.1] at CC
   (refine hK.out _ _ (fun _=>eP) ?_;clear hK K';try simp only [pQ,pN,pZ,pS])
   (refine on 10 ?_;intro o ho K' hK;simp at ho;subst ho;go_simp)
   go_at_call 125
   (with_reducible refine CC.mono ?_)
   rintro en Ag ⟨rfl,e⟩
   subst Ag
   clear CC
   (refine hK.out _ _ (fun _=>eP) ?_;clear hK K';try simp only [pQ,pN,pZ,pS])
   have sy:=eP
   refine tk [11] sy ?_
   (intro d hd;simp [tkD] at hd;subst hd;simp only [tks,pQ,pZ,pS])
   (refine ⟨?_,?_,?_⟩;rotate_left;· (intro oi ho;simp at ho;subst ho;refine Or.inl ⟨by rfl,fun w' b_=>?_⟩;go_simp;try with_reducible rfl))
   refine zU (by kernel_rfl) (NoPanic.normal ?_) _
   have rW:=bz eP
   clear eP em D7 cZ sy KEY CV PLR
   cases cn with
   | true =>
     have E:=bz (show ju (vN v) (k+1)=true by rw [ju,HV.out.2.2.1,HV.out.2.1];rfl)
     go_wp2_with fail
     go_roundw
     case rel=>exact ⟨_,k+1,rfl,by omega,by omega,by go_num,E.out,zzT HB.out.1 rW.out⟩
     case measure=>simp [intOf];omega
   | false =>
     have E:=bz (show ym v=false from gU HV.out.2.1 HV.out.2.2.2)
     go_wp2_with fail
     go_ret
     exact ⟨by rw [E.out];rfl,zzT HB.out.2 rW.out⟩
  ·have E:=bz (show ym v=true from allP_le cF (by omega))
   have dU:¬ (k:Int)<(v.length:Int):=by omega
   clear cF
   go_wp2_with fail
   go_ret
   exact ⟨by rw [E.out];rfl,HB.out.2⟩
set_option maxRecDepth 100000 in
theorem pd (F:Nat->Prop) (t:Ty) (v:Pl) (mv pt:Value) (w:World) (h:vK F t v mv pt w) :
 Calls Tryz.prog 88 #[.agg #[mv,pt]] w fun en w'=>en=.returned (.bool (brP v))/\Below w.heap.size w w':=by
 have dE:=za h.ok
 obtain ⟨ma,mc,rfl,cb⟩:=h.m.cells
 obtain ⟨pa,pc,rfl,dP⟩:=h.p.cells
 obtain ⟨W,hW,b9,hz,b0⟩:=kV w (.cells #[.slice ma v.length mc,.slice pa v.length pc] 33)
 obtain ⟨c0,c1,_,_⟩:=zJ b0
 have HH:=bz (bj cb (bj dP (bj b9 (h.below b9))))
 have HW:=bz hW
 clear h cb dP hz b0 b9 hW
 go_enter Tryz.func88,Tryz.ntmps88
 go_upto_region 1 with (fail)
 rw [HW.out]
 go_wp2_with fail
 go_loopw [3] (fun i wr=>∃ (wz:World) (k:Nat),wz=wr/\k<=v.length/\i=.int .i64 k/\ju (y_ v) k=true/\Below W.heap.size W wz) (fun i _=>v.length-(intOf i).toNat)
 case atStart=>exact ⟨_,0,rfl,Nat.zero_le _,rfl,rfl,bh _ _⟩
 case round =>
  obtain ⟨wr,k,rfl,hk,rfl,cF,hB⟩:=hrel
  have d0:=(hB.cell (bp _ _ c0)).trans c0
  have d1:=(hB.cell (bp _ _ c1)).trans c1
  clear c0 c1
  have HB:=bz (bj hB (zzT HH.out.2.2.1 hB))
  clear hB
  by_cases cQ:k<v.length
  ·have dU:(k:Int)<(v.length:Int):=by omega
   obtain ⟨x,p,z,cS,cD⟩:=kQ HH.out.2.2.2.ok cQ
   obtain ⟨mb,mo,rfl,_,dD,dC⟩:=HH.out.1 k _ cS
   obtain ⟨pb,po,rfl,_,dB,dN⟩:=HH.out.2.1 k _ cS
   have m0:=(HB.out.2.cell (p:=⟨mb,mo+k,none⟩) dD).trans dC
   have p0:=(HB.out.2.cell (p:=⟨pb,po+k,none⟩) dB).trans dN
   have PLR:=bz (fun (y:World) (hy:Below wr.heap.size wr y)=>(HH.out.2.2.2.below HB.out.1).below hy)
   have VK:=yh cS
   have iF:=q_ne x p
   obtain ⟨q,hq⟩:=zzN (isQ (x::p))
   obtain ⟨M,hM⟩:=zzM (x::p)
   have d_:0<M.length:=by rw [hM];simp
   have nc:(0:Int)<(M.length:Int):=by omega
   have B0:((((⟨M.toArray⟩:ByteArray)[0]'(kP d_)).toNat:Int))=(x.toNat:Int):=by rw [kr d_];subst hM;rfl
   obtain ⟨cn,fE⟩:=zzN (y_ v k)
   rw [hq] at VK iF
   rw [fE] at VK
   rw [<- hM] at m0
   have CV:=bz (fun (y:World) (hy:Below wr.heap.size wr y)=>xJ F t v k _ _ y (PLR.out y hy).m (PLR.out y hy).p HH.out.2.2.2.ok (by omega) HH.out.2.2.2.l)
   have KEY:=bz (fun (y:World) (hy:Below wr.heap.size wr y)=>(show y.cell? ⟨w.heap.size,0,none⟩=some (.slice (some ⟨mb,mo,none⟩) v.length mc)/\y.cell? ⟨w.heap.size,1,none⟩=some (.slice (some ⟨pb,po,none⟩) v.length pc)/\y.cell? ⟨mb,mo+k,none⟩=some (str M)/\y.cell? ⟨pb,po+k,none⟩=some (.int .i64 z) from
    ⟨(hy.cell (bp _ _ d0)).trans d0,(hy.cell (bp _ _ d1)).trans d1,(hy.cell (bp _ _ m0)).trans m0,(hy.cell (bp _ _ p0)).trans p0⟩))
   have HV:=bz (bj fE (bj cF cQ))
   generalize nS:kj v k []=pe at *
   clear cS cD dD dC dB dN hq fE cF nS hM
   cases q with
   | true =>
     obtain rfl:cn=true:=by rw [VK];rfl
     clear VK
     have hqn':((x.toNat:Int) != 113)=false:=iF
     clear iF
     go_upto_region 4 with (fail)
     clear d0 d1 m0 p0
     refine wp_region_noPanic ?_
     refine zW (fun w'=>Below wr.heap.size wr w') (fun _=>false) (by kernel_rfl) ?_
     have cZ:(fun w'=>Below wr.heap.size wr w') wr.drew:=Below.drew (bh _ _)
     refine tk [0,1,2,3] cZ ?_
     (intro d hd;simp [tkD] at hd;subst hd;simp only [tks,pQ,pZ,pS])
     iterate 4 (refine ⟨?_,?_,?_⟩;rotate_left;· (intro oi ho;simp at ho;subst ho;refine Or.inl ⟨by rfl,fun w' b_=>?_⟩;have e0:=(KEY.out w' b_).1;go_simp;try with_reducible rfl))
     refine tk [4,5,6,7,8,9,10,11,12,13,14,15,16,17] cZ ?_
     (intro d hd;simp [tkD] at hd;subst hd;simp only [tks,pQ,pZ,pS])
     iterate 14 (refine ⟨?_,?_,?_⟩;rotate_left;· (intro oi ho;simp at ho;subst ho;first | (refine Or.inr ⟨by rfl,?_⟩;with_reducible rfl) | (refine Or.inl ⟨by rfl,fun w' b_=>?_⟩;have e0:=(KEY.out w' b_).2.2.1;go_simp;try with_reducible rfl)))
     refine zU (by kernel_rfl) (NoPanic.normal ?_) _
     have E:=bz (show ju (y_ v) (k+1)=true by rw [ju,HV.out.2.1,HV.out.1];rfl)
     clear KEY CV PLR cZ
     go_wp2_with fail
     go_roundw
     case rel=>exact ⟨_,k+1,rfl,by omega,by go_num,E.out,HB.out.1.drew⟩
     case measure=>simp [intOf];omega
   | false =>
     rw [Bool.false_or] at VK
     have hqn':((x.toNat:Int) != 113)=true:=iF
     clear iF
     go_upto_region 4 with (fail)
     clear d0 d1 m0 p0
     refine wp_region_noPanic ?_
     refine zW (fun w'=>Below wr.heap.size wr w') (fun _=>false) (by kernel_rfl) ?_
     have cZ:(fun w'=>Below wr.heap.size wr w') wr.drew:=Below.drew (bh _ _)
     refine tk [0,1,2,3] cZ ?_
     (intro d hd;simp [tkD] at hd;subst hd;simp only [tks,pQ,pZ,pS])
     iterate 4 (refine ⟨?_,?_,?_⟩;rotate_left;· (intro oi ho;simp at ho;subst ho;refine Or.inl ⟨by rfl,fun w' b_=>?_⟩;have e0:=(KEY.out w' b_).1;go_simp;try with_reducible rfl))
     refine tk [4,5,6,7,8] cZ ?_
     (intro d hd;simp [tkD] at hd;subst hd;simp only [tks,pQ,pZ,pS])
     iterate 5 (refine ⟨?_,?_,?_⟩;rotate_left;· (intro oi ho;simp at ho;subst ho;refine Or.inl ⟨by rfl,fun w' b_=>?_⟩;have e0:=(KEY.out w' b_).2.2.1;go_simp;try with_reducible rfl))
     refine tk [9,10,11] cZ ?_
     (intro d hd;simp [tkD] at hd;subst hd;simp only [tks,pQ,pZ,pS])
     iterate 3 (refine ⟨?_,?_,?_⟩;rotate_left;· (intro oi ho;simp at ho;subst ho;refine Or.inl ⟨by rfl,fun w' b_=>?_⟩;have e0:=(KEY.out w' b_).2.1;go_simp;try with_reducible rfl))
     refine tk [12] cZ ?_
     (intro d hd;simp [tkD] at hd;subst hd;simp only [tks,pQ,pZ,pS])
     (refine ⟨?_,?_,?_⟩;rotate_left;· (intro oi ho;simp at ho;subst ho;refine Or.inl ⟨by rfl,fun w' b_=>?_⟩;have e0:=(KEY.out w' b_).2.2.2;go_simp;try with_reducible rfl))
     refine tk [13,14] cZ ?_
     (intro d hd;simp [tkD] at hd;subst hd;simp only [tks,pQ,pZ,pS])
     iterate 2 (refine ⟨?_,?_,?_⟩;rotate_left;· (intro oi ho;simp at ho;subst ho;refine Or.inl ⟨by rfl,fun w' b_=>?_⟩;have e0:=(KEY.out w' b_).1;have e1:=(KEY.out w' b_).2.1;go_simp;try with_reducible rfl))
     (refine on 15 ?_;intro o ho K' hK;simp at ho;subst ho;go_simp)
     go_at_call 127
     (with_reducible refine (CV.out _ cZ).mono ?_)
     rintro en ry ⟨rfl,mZ⟩
     have eP:Below wr.heap.size wr ry:=zzT cZ mZ
     (refine hK.out _ _ (fun _=>eP) ?_;clear hK K';try simp only [pQ,pN,pZ,pS])
     have Bg:=eP
     refine tk [16,17] Bg ?_
     (intro d hd;simp [tkD] at hd;subst hd;simp only [tks,pQ,pZ,pS])
     iterate 2 (refine ⟨?_,?_,?_⟩;rotate_left;· (intro oi ho;simp at ho;subst ho;refine Or.inl ⟨by rfl,fun w' b_=>?_⟩;go_simp;try with_reducible rfl))
     refine zU (by kernel_rfl) (NoPanic.normal ?_) _
     have rW:=bz eP
     clear KEY CV PLR cZ eP Bg mZ
     cases cn with
     | true =>
       have cE:(z != pe)=false:=by rw [bne,<- VK];rfl
       clear VK
       have E:=bz (show ju (y_ v) (k+1)=true by rw [ju,HV.out.2.1,HV.out.1];rfl)
       go_wp2_with fail
       go_roundw
       case rel=>exact ⟨_,k+1,rfl,by omega,by go_num,E.out,zzT HB.out.1 rW.out⟩
       case measure=>simp [intOf];omega
     | false =>
       have cE:(z != pe)=true:=by rw [bne,<- VK];rfl
       clear VK
       have E:=bz (show brP v=false from gU HV.out.1 HV.out.2.2)
       go_wp2_with fail
       go_ret
       exact ⟨by rw [E.out];rfl,zzT HB.out.2 rW.out⟩
  ·obtain rfl:k=v.length:=by omega
   have E:=bz (show brP v=true from cF)
   clear cF
   go_wp2_with fail
   go_ret
   exact ⟨by rw [E.out];rfl,HB.out.2⟩
set_option maxRecDepth 100000 in
theorem xj (F:Nat->Prop) (s:Bs) (mv pt:Value) (ms:List Bs) (ps:List Int) (w:World) (hs:Lim s.length) (hm:jp F w ms mv) (hp:jw F w ps pt) (hl:∀ x∈ms,Lim x.length) :
 Calls Tryz.prog 49 #[str s,.agg #[mv,pt]] w fun en w'=>en=.returned (.bool (ke s ms ps))/\Below w.heap.size w w':=by
 obtain ⟨ma,mc,rfl⟩:=hm.slice
 obtain ⟨pa,pc,rfl⟩:=hp.slice
 obtain ⟨W,hW,b9,hz,b0⟩:=kV w (.cells #[.slice ma ms.length mc,.slice pa ps.length pc] 33)
 obtain ⟨c0,c1,_,_⟩:=zJ b0
 have tK:=hm.below b9 (fun _ h=>h)
 have nX:=hp.below b9 (fun _ h=>h)
 have C1:=bz (xk F s _ _ ms ps W hs tK nX hl)
 have C2:=bz (fun (y:World) (hy:Below W.heap.size W y) (h:kO s ms ps=true)=>l2Visible_any F _ _ _ _ y ((vk tK nX hl h).below hy))
 have C3:=bz (fun (y:World) (hy:Below W.heap.size W y) (h:kO s ms ps=true)=>pd F _ _ _ _ y ((vk tK nX hl h).below hy))
 have HL:Hid (ke s ms ps=(kO s ms ps && (ym (ms.zip ps) && brP (ms.zip ps)))):=bz rfl
 have HW:=bz (bj hW (bj b9 b0))
 generalize kO s ms ps=b1 at *
 generalize ym (ms.zip ps)=b2 at *
 generalize brP (ms.zip ps)=b3 at *
 clear hm hp hz b0 b9 hW tK nX hl hs
 go_enter Tryz.func49,Tryz.ntmps49
 go_upto_region 1 with (fail)
 rw [HW.out.1]
 go_wp2_with fail
 (with_reducible refine C1.out.mono ?_)
 rintro en w1 ⟨rfl,bi⟩
 cases b1 with
 | false =>
   have HB:=bz (zzT HW.out.2.1 bi)
   clear bi c0 c1
   go_wp2_with fail
   go_ret
   exact ⟨by rw [HL.out];rfl,HB.out⟩
 | true =>
   have d0:=(bi.cell (bp _ _ c0)).trans c0
   have d1:=(bi.cell (bp _ _ c1)).trans c1
   have BF:=bz (C2.out w1 bi rfl)
   have HB:=bz (bj bi (zzT HW.out.2.1 bi))
   clear bi c0 c1 C2
   go_wp2_with fail
   (with_reducible refine BF.out.mono ?_)
   rintro en w2 ⟨rfl,cK⟩
   have cj:=bz (bj (zzT HB.out.1 cK) (zzT HB.out.2 cK))
   cases b2 with
   | false =>
     clear cK d0 d1
     go_wp2_with fail
     go_ret
     exact ⟨by rw [HL.out];rfl,cj.out.2⟩
   | true =>
     have e0:=(cK.cell (bp _ _ d0)).trans d0
     have e1:=(cK.cell (bp _ _ d1)).trans d1
     have C3':=bz (C3.out w2 cj.out.1 (by first | trivial | rfl))
     clear cK d0 d1 C3
     go_wp2_with fail
     (with_reducible refine C3'.out.mono ?_)
     rintro en w3 ⟨rfl,cH⟩
     have dY:=bz (zzT cj.out.2 cH)
     clear cH
     go_wp2_with fail
     go_ret
     exact ⟨by rw [HL.out,Bool.true_and,Bool.true_and];rfl,dY.out⟩
def ub (F:Nat->Prop) (w:World) (s:St) (bv lsl:Value):Prop:=Rep F w (qa s.1) bv/\jO F w s.2.1 lsl
theorem ub.keep {F F':Nat->Prop} {w w':World} {s:St} {bv lsl:Value} (h:ub F w s bv lsl) (hk:∀ b o,F b->w.heap[b]? = some o->F' b/\w'.heap[b]? = some o):ub F' w' s bv lsl:=⟨(Rep.keep hk).1 _ _ h.1,(Rep.keep hk).1 _ _ h.2⟩
def BehS (s':St) (F:Nat->Prop) (w:World) (en:Ending) (w':World):Prop :=
 ∃ ba la lc,en=.returned (.agg #[.pointer (some ⟨ba,0,none⟩),.slice la s'.2.1.length lc,.int .i64 (s'.2.2.1:Nat),str s'.2.2.2])/\Below w.heap.size w w'/\ub F w' s' (.pointer (some ⟨ba,0,none⟩)) (.slice la s'.2.1.length lc)
theorem behind_step {t:Ty} {hand:List Ty} {s:St} {l:Nat} {ss:List Bd} {y n:Bd} {a:Ty} {pl:zc} {c:UInt8} {p:Bs} {z:Nat} (k:Nat) (F:Nat->Prop) (bv kv lsl:Value) (w:World)
 (hd:StepD t hand s l ss y n a pl c p) (hs:ue t hand s z) (cJ:zP t<=15) (hz:z<=100) (hg:jD w) (hk:Rep F w (jA t) kv) (hr:ub F w s bv lsl) (hF:∀ b,w.heap.size<=b->F b) :
 ∃ s',vr t s (c::p) k=some s'/\Calls Tryz.prog 104 #[.agg #[bv,lsl,.int .i64 (s.2.2.1:Nat),str s.2.2.2],kv,str (c::p),.int .i64 (k:Nat)] w (BehS s' F w):=by
 have iq:=qH _ _ _ hd.hat
 have eO:=kt a
 have eC:=hs.ll
 have cU:=hd.len
 obtain ⟨b,lv,bg⟩:=s
 have eI:b=.ask l ss y n:=hd.body
 subst eI
 obtain ⟨hb,dT⟩:=hr
 have fG:jO F w lv lsl:=dT
 have dK:Rep F w (qa (.ask l ss y n)) bv:=hb
 have aJ:lv.length<=8*z:=eC
 unfold vr
 simp only
 rcases hd.mv with ⟨rfl,j,aj,sb,hp,hj,og,mW,hat,oI⟩ | ⟨hc,hp⟩
 ·rw [if_pos rfl,oI,mW]
  have e0:jV t p=aj.args.length:=by unfold jV;rw [hat]
  have e1:=qH _ _ _ hat
  have lY:0<p.length:=by rw [hp,List.length_append];simp
  refine ⟨_,rfl,(behind_q F t aj l j ss sb y n bv kv lsl lv bg p k w hg dK hk fG cJ mW hj lY (by omega) ?_ hat (by omega) (by omega)).mono ?_⟩
  ·subst hp;simp
  ·rintro en w' ⟨ba,la,lc,rfl,eD,rb,rl⟩
   refine ⟨ba,la,lc,?_,eD,Rep.below eD (fun _ h=>h) rb,?_⟩
   ·show _=Ending.returned (.agg #[_,.slice la (lv++zh (jV t p) k p).length lc,_,_])
    rw [e0]
   ·show jO F w' (lv++zh (jV t p) k p) (.slice la (lv++zh (jV t p) k p).length lc)
    rw [e0]
    exact (Rep.keep fun i o hi ho=>⟨hF i hi,ho⟩).1 _ _ rl
 ·have sJ:¬ c=113:=by rcases hc with h | h <;> rw [h] <;> decide
  rw [if_neg sJ]
  obtain ⟨la,lc,rfl,_⟩:=fG.open
  obtain ⟨kb,ks,rfl,_⟩:=zf hk
  refine ⟨_,rfl,(behind_ans c hc F l ss y n bv (.pointer (some ⟨kb,0,none⟩)) la lv.length lc bg (c::p) k w dK (by simp) rfl ⟨_,rfl⟩).mono ?_⟩
  rintro en w' ⟨ba,rfl,eD,rb⟩
  refine ⟨ba,la,lc,rfl,eD,?_,Rep.below eD (fun _ h=>h) fG⟩
  show Rep F w' (qa (if c=102 then n else y)) _
  have:(if c=102 then n else y)=(if c=116 then y else n):=by rcases hc with h | h <;> rw [h] <;> rfl
  rw [this]
  exact Rep.below eD (fun _ h=>h) rb
theorem behind_step2 {t:Ty} {hand:List Ty} {s s':St} {l:Nat} {ss:List Bd} {y n:Bd} {a:Ty} {pl:zc} {c:UInt8} {p:Bs} {z k:Nat} (dw:vr t s (c::p) k=some s') (F:Nat->Prop) (bv kv lsl:Value) (w:World)
 (hd:StepD t hand s l ss y n a pl c p) (hs:ue t hand s z) (cJ:zP t<=15) (hz:z<=100) (hg:jD w) (hk:Rep F w (jA t) kv) (hr:ub F w s bv lsl) (hF:∀ b,w.heap.size<=b->F b) :
 Calls Tryz.prog 104 #[.agg #[bv,lsl,.int .i64 (s.2.2.1:Nat),str s.2.2.2],kv,str (c::p),.int .i64 (k:Nat)] w (BehS s' F w):=by
 obtain ⟨s2,h2,h3⟩:=behind_step k F bv kv lsl w hd hs cJ hz hg hk hr hF
 rw [dw] at h2
 obtain rfl:=Option.some.inj h2
 exact h3
def StandQ (s:St) (w:World) (en:Ending) (w':World):Prop :=
 ∃ bv lsl,en=.returned (.agg #[bv,lsl,.int .i64 (s.2.2.1:Nat),str s.2.2.2])/\Below w.heap.size w w'/\ub (fun _=>True) w' s bv lsl
set_option maxRecDepth 100000 in
theorem pG (F:Nat->Prop) (t:Ty) (b:Bd) (v:Pl) (k n:Nat) (hnk:n=k+1) (s0:St) (kv bv mv pt:Value) (w:World) (hg:jD w) (hk:Rep F w (jA t) kv) (hb:Rep F w (qa b) bv) (hm:vK F t v mv pt w)
 (cJ:zP t<=15) (hf:kE t.args b) (hw:wfB b) (sK:k<v.length) (fH:k % 2=0) (dF:zj t b v k) (dz:kN t b v (k+1)=some s0) :
 Calls Tryz.prog 66 #[kv,bv,.agg #[mv,pt],.int .i64 (n:Nat)] w (StandQ s0 w):=by
 have dE:=za hm.ok
 have VC:=bz (gE hm.ok k sK fH)
 have PF:=bz (fun e (he:e<=k) (sq:e % 2=0)=>jq cJ hf hw hm.ok e (by omega) sq (fun i hi h=>dF i (by omega) h))
 have FO:=bz (bj dF dz)
 have FIT:=bz (uA (b:=b) cJ hf hw)
 have dX:0<n:=by omega
 have fP:n<=v.length:=by omega
 have HK:=bz hnk;clear hnk
 obtain ⟨ba,rfl⟩:=qk hb
 obtain ⟨kb,ks,rfl,_⟩:=zf hk
 obtain ⟨ma,mc,rfl,cb⟩:=hm.m.cells
 obtain ⟨pa,pc,rfl,dP⟩:=hm.p.cells
 obtain ⟨W,hW,b9,hz,b0,b1⟩:=kD w (.cells #[.slice ma v.length mc,.slice pa v.length pc] 33) (.cells #[.pointer none,.slice none 0 0,.int .i64 0,str []] 117)
 obtain ⟨c0,c1,_,_⟩:=zJ b0
 have CV:=bz (gF F t v false n _ _ W (hm.below b9).m (hm.below b9).p hm.ok dX fP hm.l)
 have HI:=bz (bj hg (bj hk (bj hb (bj cb (bj cJ (bj hm.ok hm))))))
 have HW:=bz (bj hW (bj b9 (bj hz (bj b0 b1))))
 clear hW b9 hz b0 b1 hg hk hb hm cJ cb dP hf hw dF dz
 go_enter Tryz.func66,Tryz.ntmps66
 go_upto_region 1 with (fail)
 rw [HW.out.1]
 go_wp2_with fail
 (with_reducible refine CV.out.mono ?_)
 rintro en w2 ⟨vv,rfl,cK,ot⟩
 rw [HK.out] at ot
 generalize fp:zd v false (k+1)=vw at *
 obtain ⟨vb,vo,vc,rfl,fv,tF⟩:=ot
 obtain ⟨z0,mN⟩:∃ z0:Nat,z0=0:=⟨_,rfl⟩
 have h0:w2.cell? ⟨vb,vo,none⟩=some (.int .i64 (z0:Nat)):=by rw [mN];exact tF 0 0 VC.out.zero
 have HZ:=bz mN
 have hvp:0<vw.length:=(List.getElem?_eq_some_iff.1 VC.out.zero).1
 have hvpI:(0:Int)<(vw.length:Int):=by omega
 have nO:=(HI.out.1.below HW.out.2.1).below cK
 have iL:=(HI.out.2.1.below HW.out.2.1 (fun _ h=>h)).below cK (fun _ h=>h)
 have CS:=bz (standOf_any F t (.pointer (some ⟨kb,0,none⟩)) (.pointer (some ⟨ba,0,none⟩)) z0 w2 nO iL HI.out.2.2.2.2.1 ⟨_,rfl⟩)
 have H2:=bz (bj cK (bj fv tF))
 clear mN nO iL cK fv tF c0 c1 CV fp
 go_wp2_with fail
 (with_reducible refine CS.out.mono ?_)
 rintro en w3 ⟨la,lc,rfl,cH,dT⟩
 clear h0 CS
 obtain ⟨Y,hY,mU,hzY,y0⟩:=kV w3 (.cells #[.pointer (some ⟨ba,0,none⟩),.slice la (zh t.args.length z0 []).length lc,.int .i64 (z0:Nat),str []] 117)
 have eQ:=HW.out.2.2.1
 have dt:=H2.out.1.size
 have mP:=cH.size
 have Ba:Below w2.heap.size w2 Y:=zzT cH mU
 have A1:Below W.heap.size W Y:=zzT H2.out.1 Ba
 have A0:Below w.heap.size w Y:=zzT HW.out.2.1 A1
 have fS:=bz (show ub (fun g=>g≠w3.heap.size/\g≠w.heap.size+1) Y (vL t b) (.pointer (some ⟨ba,0,none⟩)) (.slice la (zh t.args.length z0 []).length lc) by
  constructor
  ·refine (Rep.keep fun i o _ ho=>⟨?_,?_⟩).1 _ _ HI.out.2.2.1
   ·have:=zZ ho;omega
   ·rw [A0.block _ (zZ ho)];exact ho
  ·rw [HZ.out] at dT ⊢
   refine (Rep.keep fun i o hi ho=>⟨?_,?_⟩).1 _ _ dT
   ·have:=zZ ho
    have h9:w2.heap.size<=i:=hi
    omega
   ·rw [mU.block _ (zZ ho)];exact ho)
 have HY:=bz (bj hY (bj A0 (bj A1 (bj Ba (bj y0 hzY)))))
 have n5:=bz (bj eQ (bj dt mP))
 clear hY mU hzY y0 eQ dt mP Ba A1 A0 dT cH
 go_wp2_with fail
 rw [HY.out.1]
 generalize mW:w3.heap.size=sb at *
 go_loopw [11] (fun i wr=>∃ (wz:World) (j e:Nat) (s:St) (hand:List Ty) (xv lsl:Value),wz=wr/\i=.int .i64 ((2*j+2:Nat):Int)/\vw[2*j]? = some e/\kN t b v (e+1)=some s/\ue t hand s (e+1)/\wz.heap[sb]? = some (.cells #[xv,lsl,.int .i64 (s.2.2.1:Nat),str s.2.2.2] 117 (0,0))/\ub (fun g=>g≠sb/\g≠w.heap.size+1) wz s xv lsl/\But (fun g=>g=sb) Y wz) (fun i _=>vw.length+2-(intOf i).toNat)
 case atStart =>
  refine ⟨_,0,0,vL t b,t.args,_,_,rfl,rfl,VC.out.zero,qb t b v,?_,?_,fS.out,But.refl _ _⟩
  ·exact FIT.out
  ·have mN:=HZ.out
   subst mN
   exact HY.out.2.2.2.2.1
 case round =>
  obtain ⟨wr,j,e,s,hand,xv,lsl,rfl,rfl,sC,cG,cd,fF,dw,hB⟩:=hrel
  obtain ⟨xa,rfl⟩:=qk dw.1
  obtain ⟨lsa,lsc,rfl,_⟩:=jO.open dw.2
  obtain ⟨q0,q1,q2,q3⟩:=kK fF
  have hsbY:sb<Y.heap.size:=zZ HY.out.2.2.2.2.1
  have hek:=VC.out.all _ _ sC
  have El:=(List.getElem?_eq_some_iff.1 sC).1
  have cS:=VC.out.len
  obtain ⟨i2,rV⟩:=zzM (2*j+2)
  rw [<- rV]
  have i8:Below w.heap.size w wr:=HY.out.2.1.trans (hB.toBelow (by have:=HY.out.2.1.size;omega) fun i hi e1=>by have h1:=n5.out;omega)
  have HB:=bz (bj hB i8)
  have eg:=bz (bj dw (bj fF (bj cd cG)))
  clear hB i8 dw fF
  by_cases cQ:i2<vw.length
  ·have dU:(i2:Int)<(vw.length:Int):=by omega
   obtain ⟨e1,e',c,p,h1,h2,h3,h4,h5,h6,h7⟩:=VC.out.step j (by omega)
   obtain rfl:e1=e:=Option.some.inj (h1.symm.trans sC)
   have hr:=FO.out.1 (e1+1) (by have:=h6.lt;omega) h6.odd
   obtain ⟨x,hx,rZ⟩:=h6.en
   unfold z_ at hr
   rw [cG,Option.bind_some,hx] at hr
   obtain ⟨l,ss,y,nn,a,pl,hd⟩:=yu HI.out.2.2.2.2.1 cd h7 h4 rZ hr
   obtain ⟨s',dy,dQ,dt⟩:=hd.next (k:=e') cd (by have:=h6.lt;omega) (by omega) HI.out.2.2.2.2.1
   have ml:kN t b v (e'+1)=some s':=by rw [jP HI.out.2.2.2.2.2.1 b (by omega) h4 h6,cG,Option.bind_some,dQ]
   have he'v:(e':Int)<(v.length:Int):=by omega
   obtain ⟨mb,mo,rfl,_,dD,dC⟩:=HI.out.2.2.2.1 e' _ h6.at'
   have CB:=bz (fun (y:World) (hy:Below wr.heap.size wr y)=>behind_step2 dQ (fun g=>g≠sb/\g≠w.heap.size+1) (.pointer (some ⟨xa,0,none⟩)) (.pointer (some ⟨kb,0,none⟩)) (.slice lsa s.2.1.length lsc) y hd cd HI.out.2.2.2.2.1 (by omega) ((HI.out.1.below HB.out.2).below hy)
    ((Rep.keep fun i o _ ho=>⟨by have:=zZ ho;have h1:=n5.out;omega,by rw [hy.block i (by have:=zZ ho;have:=HB.out.2.size;omega),HB.out.2.block i (zZ ho)];exact ho⟩).1 _ _ HI.out.2.1)
    (eg.out.1.keep fun i o hi ho=>⟨hi,by rw [hy.block i (zZ ho)];exact ho⟩) (fun i hi=>by have h9:wr.heap.size<=i:=br hy.size hi;have h1:=n5.out;have h2:=HB.out.1.size;omega))
   have HN:=bz (bj ml (bj dt (bj (show vw[2*(j+1)]? = some e' from h2) (show i2+2=2*(j+1)+2 by omega))))
   obtain ⟨M,hM⟩:=zzM (c::p)
   rw [<- hM] at CB dC
   have KEY:=bz (fun (y:World) (hy:Below wr.heap.size wr y)=>(show (y.cell? ⟨sb,0,none⟩=some (.pointer (some ⟨xa,0,none⟩))/\y.cell? ⟨sb,1,none⟩=some (.slice lsa s.2.1.length lsc)/\y.cell? ⟨sb,2,none⟩=some (.int .i64 (s.2.2.1:Nat))/\y.cell? ⟨sb,3,none⟩=some (str s.2.2.2))/\y.cell? ⟨w.heap.size,0,none⟩=some (.slice (some ⟨mb,mo,none⟩) v.length mc)/\y.cell? ⟨vb,vo+i2,none⟩=some (.int .i64 (e':Nat))/\y.cell? ⟨mb,mo+e',none⟩=some (str M) from by
    have hk:∀ (a:Addr) (u:Value),wr.cell? a=some u->y.cell? a=some u:=fun a u h=>(hy.cell (bp _ _ h)).trans h
    have oP:∀ (a:Addr) (u:Value),w.cell? a=some u->y.cell? a=some u:=fun a u h=>hk a u ((HB.out.2.cell (bp _ _ h)).trans h)
    obtain ⟨k0,_⟩:=zJ HW.out.2.2.2.1
    have hY0:∀ (a:Addr) (u:Value),a.block≠sb->a.block<Y.heap.size->Y.cell? a=some u->y.cell? a=some u:=fun a u cE hl h=>hk a u ((HB.out.1.cell hl cE).trans h)
    have h1:=n5.out
    refine ⟨⟨hk _ _ q0,hk _ _ q1,hk _ _ q2,hk _ _ q3⟩,hY0 _ _ (by show w.heap.size≠sb;omega) (by show w.heap.size<_;omega) ((HY.out.2.2.1.cell (bp _ _ k0)).trans k0),?_,oP _ _ dC⟩
    have mY:vw[i2]? = some e':=by rw [rV];exact h2
    exact hY0 _ _ (by show vb≠sb;have:=H2.out.2.1;omega) (by show vb<_;have:=H2.out.2.1;omega) ((HY.out.2.2.2.1.cell (p:=⟨vb,vo+i2,none⟩) H2.out.2.1).trans (H2.out.2.2 i2 e' mY))))
   have rh:IntKind.i64.wrap ((i2:Int)+2)=((i2+2:Nat):Int):=by rw [qV _ (by omega) (by omega)];omega
   clear q0 q1 q2 q3 hr hx rZ hd dQ dt ml h1 h2 h3 h4 h5 h6 h7 dD dC sC cG cd rV hM hek El cS
   go_upto_region 6 with (fail)
   refine wp_region_noPanic ?_
   refine zW (fun w'=>Below wr.heap.size wr w') (fun i=>i=15) (by kernel_rfl) ?_
   have cZ:(fun w'=>Below wr.heap.size wr w') wr.drew:=Below.drew (bh _ _)
   refine tk [0,1,2] cZ ?_
   (intro d hd;simp [tkD] at hd;subst hd;simp only [tks,pQ,pZ,pS])
   iterate 3 (refine ⟨?_,?_,?_⟩;rotate_left;· (intro oi ho;simp at ho;subst ho;refine Or.inl ⟨by rfl,fun w' b_=>?_⟩;obtain ⟨e0,e1,e2,e3⟩:=(KEY.out w' b_).1;go_simp;try with_reducible rfl))
   refine tk [3,4,5,6] cZ ?_
   (intro d hd;simp [tkD] at hd;subst hd;simp only [tks,pQ,pZ,pS])
   iterate 4 (refine ⟨?_,?_,?_⟩;rotate_left;· (intro oi ho;simp at ho;subst ho;refine Or.inl ⟨by rfl,fun w' b_=>?_⟩;have e0:=(KEY.out w' b_).2.1;go_simp;try with_reducible rfl))
   refine tk [7,8] cZ ?_
   (intro d hd;simp [tkD] at hd;subst hd;simp only [tks,pQ,pZ,pS])
   iterate 2 (refine ⟨?_,?_,?_⟩;rotate_left;· (intro oi ho;simp at ho;subst ho;refine Or.inl ⟨by rfl,fun w' b_=>?_⟩;have e0:=(KEY.out w' b_).2.2.1;go_simp;try with_reducible rfl))
   refine tk [9,10,11,12] cZ ?_
   (intro d hd;simp [tkD] at hd;subst hd;simp only [tks,pQ,pZ,pS])
   iterate 4 (refine ⟨?_,?_,?_⟩;rotate_left;· (intro oi ho;simp at ho;subst ho;refine Or.inl ⟨by rfl,fun w' b_=>?_⟩;have e0:=(KEY.out w' b_).2.2.2;go_simp;try with_reducible rfl))
   refine tk [13] cZ ?_
   (intro d hd;simp [tkD] at hd;subst hd;simp only [tks,pQ,pZ,pS])
   (refine ⟨?_,?_,?_⟩;rotate_left;· (intro oi ho;simp at ho;subst ho;refine Or.inl ⟨by rfl,fun w' b_=>?_⟩;have e0:=(KEY.out w' b_).2.2.1;go_simp;try with_reducible rfl))
   (refine on 14 ?_;intro o ho K' hK;simp at ho;subst ho;go_simp)
   go_at_call 104
   (with_reducible refine (CB.out _ cZ).mono ?_)
   rintro en Ag ⟨b2,l2,c2,rfl,Fd,DG⟩
   have ai:Below wr.heap.size wr Ag:=zzT cZ Fd
   have xx:=(ai.block _ (zZ eg.out.2.1)).trans eg.out.2.1
   (refine hK.out _ _ (fun _=>ai) ?_;clear hK K';try simp only [pQ,pN,pZ,pS])
   have lj:=ai
   (refine on 15 ?_;intro o ho K' hK;simp at ho;subst ho)
   have f0:=zB xx 0;have f1:=zB xx 1;have f2:=zB xx 2;have f3:=zB xx 3
   obtain ⟨e0,e1,e2,e3⟩:=kK xx
   go_simp
   (refine hK.out _ _ (fun h=>by simp at h) ?_;clear hK K';try simp only [pQ,pN,pZ,pS])
   refine zU (by kernel_rfl) (NoPanic.normal ?_) _
   obtain ⟨dA,dV⟩:=zzN (((((Ag.setCell ⟨sb,0,none⟩ (.pointer (some ⟨b2,0,none⟩))).setCell ⟨sb,1,none⟩ (.slice l2 s'.2.1.length c2)).setCell ⟨sb,2,none⟩ (.int .i64 (s'.2.2.1:Nat))).setCell ⟨sb,3,none⟩ (str s'.2.2.2)))
   rw [dV]
   have ow:dA.heap[sb]? = some (.cells #[.pointer (some ⟨b2,0,none⟩),.slice l2 s'.2.1.length c2,.int .i64 (s'.2.2.1:Nat),str s'.2.2.2] 117 (0,0)):=by rw [<- dV];exact uW xx _ _ _ _
   have cf:∀ g,g≠sb->dA.heap[g]? = Ag.heap[g]?:=fun g hg=>by
    rw [<- dV,bf _ _ _ _ (by show g≠sb;exact hg),bf _ _ _ _ (by show g≠sb;exact hg),bf _ _ _ _ (by show g≠sb;exact hg),bf _ _ _ _ (by show g≠sb;exact hg)]
   have mK:But (fun g=>g=sb) Y dA:=by
    rw [<- dV]
    exact ((((HB.out.1.trans (But.ofBelow ai)).setCell (p:=⟨sb,0,none⟩) (.inl rfl) _).setCell (p:=⟨sb,1,none⟩) (.inl rfl) _).setCell (p:=⟨sb,2,none⟩) (.inl rfl) _).setCell (p:=⟨sb,3,none⟩) (.inl rfl) _
   have ru:=bz (bj ow (bj mK (DG.keep (F':=fun g=>g≠sb/\g≠w.heap.size+1) (w':=dA) fun i o hi ho=>⟨hi,by rw [cf i hi.1];exact ho⟩)))
   clear ow cf mK DG dV xx ai Fd lj cZ KEY CB
   go_wp2_with fail
   go_roundw
   case rel=>exact ⟨_,j+1,e',s',dy,_,_,rfl,by rw [<- HN.out.2.2.2];rfl,HN.out.2.2.1,HN.out.1,HN.out.2.1,ru.out.1,ru.out.2.2,ru.out.2.1⟩
   case measure=>simp [intOf];omega
  ·have dU:¬ (i2:Int)<(vw.length:Int):=by omega
   have eN:=VC.out.odd
   have eY:=VC.out.last
   have h1:=n5.out
   rw [show vw.length-1=2*j from by omega,sC] at eY
   obtain rfl:=Option.some.inj eY
   obtain rfl:s=s0:=Option.some.inj (cG.symm.trans FO.out.2)
   have b1:wr.heap[w.heap.size+1]? = some (.cells #[.pointer none,.slice none 0 0,.int .i64 0,str []] 117 (0,0)):=by
    rw [HB.out.1.block _ (by omega) (by omega),HY.out.2.2.1.block _ (by omega)];exact HW.out.2.2.2.2
   have f0:=zB b1 0;have f1:=zB b1 1;have f2:=zB b1 2;have f3:=zB b1 3
   obtain ⟨z0',z1',z2',z3'⟩:=kK b1
   have HS:=bz (bj b1 h1)
   clear sC cG cd hek cS eY eN b1 h1 El
   go_wp2_with fail
   have hV:=uW HS.out.1 (.pointer (some ⟨xa,0,none⟩)) (.slice lsa s.2.1.length lsc) (.int .i64 (s.2.2.1:Nat)) (str s.2.2.2)
   obtain ⟨nD,nC,C9,C0⟩:=kK hV
   have cf:∀ g,g≠w.heap.size+1->((((wr.setCell ⟨w.heap.size+1,0,none⟩ (.pointer (some ⟨xa,0,none⟩))).setCell ⟨w.heap.size+1,1,none⟩ (.slice lsa s.2.1.length lsc)).setCell ⟨w.heap.size+1,2,none⟩ (.int .i64 (s.2.2.1:Nat))).setCell ⟨w.heap.size+1,3,none⟩ (str s.2.2.2)).heap[g]? = wr.heap[g]?:=fun g hg=>by
    rw [bf _ _ _ _ (by show g≠w.heap.size+1;exact hg),bf _ _ _ _ (by show g≠w.heap.size+1;exact hg),bf _ _ _ _ (by show g≠w.heap.size+1;exact hg),bf _ _ _ _ (by show g≠w.heap.size+1;exact hg)]
   have ef:=(((HB.out.2.setCell (p:=⟨w.heap.size+1,0,none⟩) (Nat.le_succ _) (.pointer (some ⟨xa,0,none⟩))).setCell (p:=⟨w.heap.size+1,1,none⟩) (Nat.le_succ _) (.slice lsa s.2.1.length lsc)).setCell (p:=⟨w.heap.size+1,2,none⟩) (Nat.le_succ _) (.int .i64 (s.2.2.1:Nat))).setCell (p:=⟨w.heap.size+1,3,none⟩) (Nat.le_succ _) (str s.2.2.2)
   refine bodyPost_ret (v:=.agg #[(.pointer (some ⟨xa,0,none⟩)),(.slice lsa s.2.1.length lsc),.int .i64 (s.2.2.1:Nat),str s.2.2.2]) (by simp [results,Tryz.results66,go_sem,nD,nC,C9,C0]) rfl ?_
   exact ⟨_,_,rfl,ef,eg.out.1.keep fun i o hi ho=>⟨trivial,by rw [cf i hi.2];exact ho⟩⟩
set_option maxRecDepth 100000 in
theorem tells_u (F:Nat->Prop) (bv lsl:Value) (bg:zc) (w:World) (hb:Rep F w (qa (.leaf 117)) bv) :
 Calls Tryz.prog 67 #[.agg #[bv,lsl,.int .i64 (bg.1:Nat),str bg.2]] w fun en w'=>en=.returned (.tuple #[str [],.int .i64 (-1)])/\Below w.heap.size w w':=by
 have C:=bz (fun wz (h:Below w.heap.size w wz)=>pR F wz 117 bv (hb.below h (fun _ h=>h)))
 obtain ⟨b,sl,rfl,_,hc,_⟩:=wm hb
 obtain ⟨W,hW,b9,hz,bx⟩:=kV w (.cells #[.pointer (some ⟨b,0,none⟩),lsl,.int .i64 (bg.1:Nat),str bg.2] 117)
 have CW:=bz (C.out W b9)
 obtain ⟨e0,e1,e2,e3⟩:=kK bx
 have c1:W.cell? ⟨b,0,none⟩=some (.string ⟨#[117]⟩):=(b9.cell (by exact zZ hc)).trans (by simp [World.cell?,hc])
 have HW:=bz (bj hW b9)
 clear hW b9 hz bx hc hb C e1
 go_enter Tryz.func67,Tryz.ntmps67
 go_upto_region 1 with (fail)
 rw [HW.out.1]
 go_wp2_with fail
 (with_reducible refine CW.out.mono ?_)
 rintro en w1 ⟨rfl,ew⟩
 subst ew
 go_wp2_with fail
 go_ret2
 exact ⟨rfl,HW.out.2⟩
def vS (s:St):Bs×Int:=(qM s).getD ([],-1)
theorem tells_any {t:Ty} {hand:List Ty} {s:St} {n:Nat} (F:Nat->Prop) (bv lsl:Value) (w:World) (hs:ue t hand s n) (cJ:zP t<=15) (hn:n<=100) (hr:ub F w s bv lsl) :
 Calls Tryz.prog 67 #[.agg #[bv,lsl,.int .i64 (s.2.2.1:Nat),str s.2.2.2]] w fun en w'=>en=.returned (.tuple #[str (vS s).1,.int .i64 (vS s).2])/\Below w.heap.size w w':=by
 obtain ⟨ta,BZ⟩:=hs.bgt
 have eD:=qH _ _ _ BZ
 have eC:=hs.ll
 obtain ⟨b,lv,bg⟩:=s
 cases b with
 | leaf c =>
   by_cases hc:c=117
   ·subst hc;exact tells_u F bv lsl bg w hr.1
   ·refine (tells_leaf F c bv lsl bg w hr.1 hc (by have:bg.2.length<=100:=by { show ((Bd.leaf c,lv,bg):St).2.2.2.length<=100;omega };omega)).mono ?_
    rintro en w' ⟨rfl,hb⟩
    refine ⟨?_,hb⟩
    unfold vS qM
    simp only [if_neg hc,Option.getD_some]
 | ask l ss y nn =>
   have hf:=hs.fit
   rw [show ((Bd.ask l ss y nn,lv,bg):St).1=.ask l ss y nn from rfl,kE] at hf
   obtain ⟨a,h1,_⟩:=hf
   obtain ⟨pl,hl,hat,_⟩:=hs.pf.each l a h1
   have dd:lv[l]? = some pl:=hl
   have cG:=qH _ _ _ hat
   have aJ:lv.length<=8*n:=eC
   refine (tells_ask F l ss y nn bv lsl lv bg pl w hr.1 hr.2 dd (by omega) (by omega)).mono ?_
   rintro en w' ⟨rfl,hb⟩
   refine ⟨?_,hb⟩
   unfold vS qM
   simp only [dd,Option.map_some,Option.getD_some]
theorem tellV_eq {s:St} {c:UInt8} {p:Bs} {z:Int}:qM s=some (c::p,z)↔((vS s).1=c::p/\(vS s).2=z):=by
 unfold vS
 cases h:qM s with
 | none=>simp
 | some x=>obtain ⟨m,y⟩:=x;simp
set_option maxRecDepth 100000 in
theorem pT (F:Nat->Prop) (t:Ty) (b:Bd) (v:Pl) (kv bv mv pt:Value) (w:World) (hg:jD w) (hk:Rep F w (jA t) kv) (hb:Rep F w (qa b) bv) (hm:vK F t v mv pt w)
 (cJ:zP t<=15) (hf:kE t.args b) (hw:wfB b) :
 Calls Tryz.prog 36 #[kv,bv,.agg #[mv,pt]] w fun en w'=>en=.returned (.bool (decide (zj t b v v.length)))/\Below w.heap.size w w':=by
 have dE:=za hm.ok
 obtain ⟨ba,rfl⟩:=qk hb
 obtain ⟨kb,ks,rfl,_⟩:=zf hk
 obtain ⟨ma,mc,rfl,cb⟩:=hm.m.cells
 obtain ⟨pa,pc,rfl,dP⟩:=hm.p.cells
 obtain ⟨W,hW,b9,hz,b0⟩:=kV w (.cells #[.slice ma v.length mc,.slice pa v.length pc] 33)
 obtain ⟨c0,c1,_,_⟩:=zJ b0
 have PF:=bz (fun e (he:e<v.length) (sq:e % 2=0)=>jq cJ hf hw hm.ok e he sq)
 have SIN:=bz (fun (y:World) (hy:Below W.heap.size W y) (k n:Nat) (hnk:n=k+1) (s0:St) (sK:k<v.length) (fH:k % 2=0) (dF:zj t b v k) (dz:kN t b v (k+1)=some s0) =>
  pG F t b v k n hnk s0 _ _ _ _ y ((hg.below b9).below hy) ((hk.below b9 fun _ h=>h).below hy fun _ h=>h) ((hb.below b9 fun _ h=>h).below hy fun _ h=>h) ((hm.below b9).below hy) cJ hf hw sK fH dF dz)
 have HH:=bz (bj cb (bj dP (bj b9 (bj hm.ok cJ))))
 have HW:=bz hW
 clear hm cb dP hz b0 b9 hW hg hk hb cJ hf hw
 go_enter Tryz.func36,Tryz.ntmps36
 go_upto_region 1 with (fail)
 rw [HW.out]
 go_wp2_with fail
 go_loopw [7] (fun i wr=>∃ (wz:World) (k n:Nat),wz=wr/\n=k+1/\k % 2=0/\k<=v.length+1/\i=.int .i64 (n:Nat)/\zj t b v n/\Below W.heap.size W wz) (fun i _=>v.length+5-(intOf i).toNat)
 case atStart=>exact ⟨_,0,1,rfl,rfl,rfl,by omega,rfl,fun i hi h=>by omega,bh _ _⟩
 case round =>
  obtain ⟨wr,k,n,rfl,hnk,fH,lB,rfl,dF,hB⟩:=hrel
  have d0:=(hB.cell (bp _ _ c0)).trans c0
  have d1:=(hB.cell (bp _ _ c1)).trans c1
  clear c0 c1
  have HB:=bz (bj hB (zzT HH.out.2.2.1 hB))
  clear hB
  by_cases cQ:n<v.length
  ·have dU:(n:Int)<(v.length:Int):=by omega
   obtain ⟨x,p,z,cS,cD⟩:=kQ HH.out.2.2.2.1 cQ
   obtain ⟨mb,mo,rfl,_,dD,dC⟩:=HH.out.1 n _ cS
   obtain ⟨pb,po,rfl,_,dB,dN⟩:=HH.out.2.1 n _ cS
   obtain ⟨s,hand,dz,cd⟩:=PF.out k (by omega) fH (fun i hi h=>dF i (by omega) h)
   have CS:=bz (SIN.out wr HB.out.1 k n hnk s (by omega) fH (fun i hi h=>dF i (by omega) h) dz)
   have fd:z_ t b v n=qM s:=by unfold z_;rw [hnk,dz];rfl
   have HQ:Hid ((vS s).1=x::p/\(vS s).2=z↔z_ t b v n=v[n]?):=bz (by rw [fd,cS];exact tellV_eq.symm)
   have CT:=bz (fun (y:World) (xv lv:Value) (hr:ub (fun _=>True) y s xv lv)=>tells_any (fun _=>True) xv lv y cd HH.out.2.2.2.2 (by omega) hr)
   have KEY:=bz (fun (y:World) (hy:Below wr.heap.size wr y)=>(show y.cell? ⟨w.heap.size,0,none⟩=some (.slice (some ⟨mb,mo,none⟩) v.length mc)/\y.cell? ⟨w.heap.size,1,none⟩=some (.slice (some ⟨pb,po,none⟩) v.length pc)/\y.cell? ⟨mb,mo+n,none⟩=some (str (x::p))/\y.cell? ⟨pb,po+n,none⟩=some (.int .i64 z) from by
    have hk:∀ (a:Addr) (u:Value),wr.cell? a=some u->y.cell? a=some u:=fun a u h=>(hy.cell (bp _ _ h)).trans h
    exact ⟨hk _ _ d0,hk _ _ d1,hk _ _ ((HB.out.2.cell (p:=⟨mb,mo+n,none⟩) dD).trans dC),hk _ _ ((HB.out.2.cell (p:=⟨pb,po+n,none⟩) dB).trans dN)⟩))
   have HF:=bz (bj dF (bj hnk (bj fH (bj lB cQ))))
   obtain ⟨M,hM⟩:=zzM (x::p)
   obtain ⟨tm,htm⟩:=zzN ((vS s).1)
   obtain ⟨tz,htz⟩:=zzN ((vS s).2)
   rw [<- hM] at KEY HQ
   rw [htm,htz] at HQ CT
   clear cS cD dD dC dB dN dz cd fd dF hnk fH lB hM htm htz SIN PF
   go_wp2_with fail
   (with_reducible refine CS.out.mono ?_)
   rintro en w1 ⟨xv,lv,rfl,bi,dj⟩
   have sn:=bz (CT.out w1 xv lv dj)
   clear CS CT dj
   go_wp2_with fail
   (with_reducible refine sn.out.mono ?_)
   rintro en w2 ⟨rfl,cK⟩
   have cT:=zzT bi cK
   obtain ⟨e0,e1,m0,p0⟩:=KEY.out w2 cT
   have cj:=bz (bj (zzT HB.out.1 cT) (zzT HB.out.2 cT))
   have rh:IntKind.i64.wrap ((n:Int)+2)=((n+2:Nat):Int):=by rw [qV _ (by omega) (by omega)];omega
   clear bi cK cT d0 d1 KEY sn
   by_cases hm:tm=M
   ·have tr:(tm == M)=true:=by simp [hm]
    have AJ:(tm != M)=false:=by simp [hm]
    by_cases hz:tz=z
    ·have BS:(tz != z)=false:=by simp [hz]
     have E:=bz (show zj t b v (n+2) from fun i hi h=>by
      have h1:=HF.out.2.1;have h2:=HF.out.2.2.1
      rcases Nat.lt_or_ge i n with h3 | h3
      ·exact HF.out.1 i h3 h
      ·obtain rfl:i=n:=by omega
       exact HQ.out.1 ⟨hm,hz⟩)
     have HE:=bz (show n+2=(n+1)+1/\(n+1) % 2=0/\n+1<=v.length+1 by
      have h1:=HF.out.2.1;have h2:=HF.out.2.2.1;have h3:=HF.out.2.2.2.2;omega)
     clear hm hz
     go_wp2_with fail
     go_roundw
     case rel=>exact ⟨_,n+1,n+2,rfl,rfl,HE.out.2.1,HE.out.2.2,rfl,E.out,cj.out.1⟩
     case measure=>simp [intOf];omega
    ·have BS:(tz != z)=true:=by simp [hz]
     have E:=bz (show decide (zj t b v v.length)=false by
      rw [decide_eq_false_iff_not]
      intro h
      have h1:=HF.out.2.1;have h2:=HF.out.2.2.1
      exact hz (HQ.out.2 (h n HF.out.2.2.2.2 (by omega))).2)
     clear hm hz
     go_wp2_with fail
     go_ret
     exact ⟨by rw [E.out];rfl,cj.out.2⟩
   ·have tr:(tm == M)=false:=by simp [hm]
    have AJ:(tm != M)=true:=by simp [hm]
    have E:=bz (show decide (zj t b v v.length)=false by
     rw [decide_eq_false_iff_not]
     intro h
     have h1:=HF.out.2.1;have h2:=HF.out.2.2.1
     exact hm (HQ.out.2 (h n HF.out.2.2.2.2 (by omega))).1)
    clear hm
    go_wp2_with fail
    go_ret
    exact ⟨by rw [E.out];rfl,cj.out.2⟩
  ·have dU:¬ (n:Int)<(v.length:Int):=by omega
   have E:=bz (show decide (zj t b v v.length)=true from decide_eq_true fun i hi h=>dF i (by omega) h)
   clear dF hnk
   go_wp2_with fail
   go_ret
   exact ⟨by rw [E.out];rfl,HB.out.2⟩
def jT (s text:Bs) (ms:List Bs) (ps:List Int):Bool:=match zN s text with
 | none=>false
 | some b=>ke s ms ps && decide (zj (zV s).1 b (ms.zip ps) (ms.zip ps).length)
theorem followOk_none {s text:Bs} (h:xh s text=none) (ms:List Bs) (ps:List Int):jT s text ms ps=false:=by
 rw [p_,Option.map_eq_none_iff] at h
 unfold jT;rw [h]
theorem followOk_some {s text:Bs} {t:Ty} {b:Bd} (h:xh s text=some (t,b)) (ms:List Bs) (ps:List Int):jT s text ms ps=(ke s ms ps && decide (zj t b (ms.zip ps) (ms.zip ps).length))/\t=(zV s).1/\Good t b:=by
 rw [p_,Option.map_eq_some_iff] at h
 obtain ⟨b',h,e⟩:=h
 simp at e;obtain ⟨rfl,rfl⟩:=e
 refine ⟨?_,rfl,(qL h).1⟩
 unfold jT;rw [h]
theorem vy {s:Bs} {ms:List Bs} {ps:List Int} (h:ke s ms ps=true):kO s ms ps=true:=by
 unfold ke at h;rw [Bool.and_eq_true] at h;exact h.1
set_option maxRecDepth 100000 in
theorem uH (F:Nat->Prop) (s text:Bs) (mv pt:Value) (ms:List Bs) (ps:List Int) (w:World) (hg:jD w) (hs:Lim s.length) (ht:Lim text.length) (hm:jp F w ms mv) (hp:jw F w ps pt) (hl:∀ x∈ms,Lim x.length) :
 Calls Tryz.prog 12 #[str s,str text,.agg #[mv,pt]] w fun en w'=>en=.returned (.bool (jT s text ms ps))/\Below w.heap.size w w':=by
 obtain ⟨ma,mc,rfl⟩:=hm.slice
 obtain ⟨pa,pc,rfl⟩:=hp.slice
 obtain ⟨W,hW,b9,hz,b0⟩:=kV w (.cells #[.slice ma ms.length mc,.slice pa ps.length pc] 33)
 have C:=bz (xz s text W (hg.below b9) hs ht)
 have CL:=bz (fun (y:World) (hy:Below W.heap.size W y)=>jf F s _ _ ms ps y hs ((hm.below b9 fun _ h=>h).below hy fun _ h=>h) ((hp.below b9 fun _ h=>h).below hy fun _ h=>h) hl)
 have HP:=bz (fun (y:World) (hy:Below W.heap.size W y) (h:kO s ms ps=true)=>(vk (hm.below b9 fun _ h=>h) (hp.below b9 fun _ h=>h) hl h).below hy)
 have HG:=bz (fun (y:World) (hy:Below W.heap.size W y)=>(hg.below b9).below hy)
 have HW:=bz (bj hW (bj b9 b0))
 clear hW b9 hz b0 hg hs ht hm hp hl
 go_enter Tryz.func12,Tryz.ntmps12
 go_upto_region 1 with (fail)
 rw [HW.out.1]
 go_wp2_with fail
 (with_reducible refine C.out.mono ?_)
 rintro en w1 ⟨kv,bv,rfl,bi,dX,dx⟩
 clear C
 obtain ⟨c0,c1,_,_⟩:=zJ HW.out.2.2
 have d0:=(bi.cell (bp _ _ c0)).trans c0
 have d1:=(bi.cell (bp _ _ c1)).trans c1
 clear c0 c1
 have HB:=bz (bj bi (zzT HW.out.2.1 bi))
 cases hq:xh s text with
 | none =>
   obtain rfl:=dX hq
   have E:=bz (followOk_none hq ms ps)
   clear dX dx hq bi
   go_wp2_with fail
   go_ret
   exact ⟨by rw [E.out];rfl,HB.out.2⟩
 | some tb =>
   obtain ⟨t,b⟩:=tb
   obtain ⟨rk,rb⟩:=dx t b hq
   obtain ⟨E,et,fC⟩:=followOk_some hq ms ps
   obtain ⟨ka,ks,rfl,_⟩:=zf rk
   obtain ⟨ba,rfl⟩:=qk rb
   have E:=bz E
   have HR:=bz (bj rk (bj rb (bj et fC)))
   have C1:=bz (CL.out w1 bi)
   clear dX dx hq bi rk rb et fC CL
   cases ec:ke s ms ps with
   | false =>
     rw [ec] at E C1
     clear ec
     go_wp2_with fail
     (with_reducible refine C1.out.mono ?_)
     rintro en w2 ⟨rfl,cK⟩
     have cj:=bz (zzT HB.out.2 cK)
     clear cK d0 d1
     go_wp2_with fail
     go_ret
     exact ⟨by rw [E.out];rfl,cj.out⟩
   | true =>
     rw [ec,Bool.true_and] at E
     rw [ec] at C1
     have sm:=bz (vy ec)
     clear ec
     go_wp2_with fail
     (with_reducible refine C1.out.mono ?_)
     rintro en w2 ⟨rfl,cK⟩
     have cT:=zzT HB.out.1 cK
     have e0:=(cK.cell (bp _ _ d0)).trans d0
     have e1:=(cK.cell (bp _ _ d1)).trans d1
     have cG:=HP.out w2 cT sm.out
     rw [<- HR.out.2.2.1] at cG
     have C2:=bz (pT (fun _=>True) t b (ms.zip ps) (.pointer (some ⟨ka,0,none⟩)) (.pointer (some ⟨ba,0,none⟩)) _ _ w2 (HG.out w2 cT)
      ((Rep.below cK fun _ _=>trivial) HR.out.1) ((Rep.below cK fun _ _=>trivial) HR.out.2.1) ⟨(Rep.keep fun b o _ ho=>⟨trivial,ho⟩).1 _ _ cG.m,(Rep.keep fun b o _ ho=>⟨trivial,ho⟩).1 _ _ cG.p,cG.ok,cG.l⟩ HR.out.2.2.2.atoms HR.out.2.2.2.fit HR.out.2.2.2.wf)
     have cj:=bz (zzT HB.out.2 cK)
     obtain ⟨r,hr⟩:=zzN (decide (zj t b (ms.zip ps) (ms.zip ps).length))
     rw [hr] at C2 E
     clear cK d0 d1 cT cG C1 HP HG hr
     go_wp2_with fail
     (with_reducible refine C2.out.mono ?_)
     rintro en w3 ⟨rfl,cH⟩
     have dY:=bz (zzT cj.out cH)
     clear cH
     go_wp2_with fail
     go_ret
     exact ⟨by rw [E.out];rfl,dY.out⟩
end Go.Proofs.YtfedjhgaeikjmaaGreatDoor

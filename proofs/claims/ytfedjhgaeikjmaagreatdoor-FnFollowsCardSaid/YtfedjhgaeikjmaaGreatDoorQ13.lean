/- Walks of functions that the statement reaches, and plain words. No conditions. -/
import Derived.Test.YtfedjhgaeikjmaaGreatDoorQ12
set_option linter.unusedVariables false
set_option linter.unusedSimpArgs false
set_option maxHeartbeats 16000000
namespace Go.Proofs.YtfedjhgaeikjmaaGreatDoor
open Go.RowKit
def FolD (B rd:Nat) (w:World) (en:Ending) (w':World):Prop :=
 ∃ (s text:Bs) (l:Pl) (a1:Option Addr) (c1:Nat) (a2:Option Addr) (c2:Nat),en=.returned (.tuple #[str s,str text,.agg #[.slice a1 l.length c1,.slice a2 l.length c2]])/\s.length<=100/\text.length<=100000/\But (· = rd) w w'/\zC w' l (.slice a1 l.length c1) (.slice a2 l.length c2)/\l.length<=60/\(∀ x∈l,Lim x.1.length) /\
   ∀ g,(Value.slice a1 l.length c1).ownBlock=some g\/(Value.slice a2 l.length c2).ownBlock=some g->B<=g
theorem yR {s text:Bs} {w W wz:World} {rd:Nat} {l:Pl} {ap aq:Option Addr} {cp cq:Nat} (hs:s.length<=100) (ht:text.length<=100000) (bM:Below w.heap.size w W) (hB:But (· = rd) W wz)
 (hx:wz.heap[w.heap.size]? = some (.cells #[.slice none 0 0,.slice none 0 0] 33 (0,0))) (bw:zC wz l (.slice ap l.length cp) (.slice aq l.length cq)) (hl:l.length<=60) (iD:∀ x∈l,Lim x.1.length)
 (hg:∀ g,(Value.slice ap l.length cp).ownBlock=some g\/(Value.slice aq l.length cq).ownBlock=some g->w.heap.size<=g) :
 FolD w.heap.size rd w (.returned (.tuple #[str s,str text,.agg #[.slice ap l.length cp,.slice aq l.length cq]])) ((wz.setCell ⟨w.heap.size,0,none⟩ (.slice ap l.length cp)).setCell ⟨w.heap.size,1,none⟩ (.slice aq l.length cq)):=by
 have bf:But (fun b=>b=w.heap.size) wz ((wz.setCell ⟨w.heap.size,0,none⟩ (.slice ap l.length cp)).setCell ⟨w.heap.size,1,none⟩ (.slice aq l.length cq)):=((But.refl (fun b=>b=w.heap.size) wz).setCell (p:=⟨w.heap.size,0,none⟩) (.inl rfl) _).setCell (p:=⟨w.heap.size,1,none⟩) (.inl rfl) _
 refine ⟨s,text,l,ap,cp,aq,cq,rfl,hs,ht,?_,bw.but bf (fun g cb=>bw.notBox hx (by decide) (by decide) g cb),hl,iD,hg⟩
 exact ((But.ofBelow bM).trans hB).trans' bf (fun i hi hm=>by omega)
theorem plays_in {s text:Bs} {n:Int} {L:List Pl} (h:qR s text n=some L):0<L.length/\L.length<=300/\∃ b,zM s text=some b/\zW (zV s).1<=15/\kB (zV s).1.args b/\wfB b/\∀ u∈L,yD (zV s).1 b u:=by
 obtain ⟨b,hb,h0,h8,rfl,tu⟩:=playsOf_some h
 have hg:=(qS hb).1
 exact ⟨outAt_pos _ _ _,tu,b,hb,hg.atoms,hg.fit,hg.wf,fun u hu=>(out_in hg.atoms hg.fit hg.wf ((n.toNat+1) / 2) (by omega) u hu).1⟩
theorem reply_in {s text:Bs} {b:Bd} {u r:Pl} (hb:zM s text=some b) (bL:zW (zV s).1<=15) (hf:kB (zV s).1.args b) (hw:wfB b) (hu:yD (zV s).1 b u)
 (hr:kX s text (u.map (·.1)) (u.map (·.2))=some r):yD (zV s).1 b r:=by
 unfold kX at hr
 rw [hb] at hr
 simp only at hr
 rw [vY] at hr
 unfold qx at hr
 split at hr
 ·rename_i hc
  simp only [Bool.and_eq_true,decide_eq_true_eq,List.length_map] at hc
  unfold qN at hr
  split at hr
  ·simp at hr
  ·rename_i ci
   rw [Option.map_eq_some_iff] at hr
   obtain ⟨x,hx,rfl⟩:=hr
   have:=ze hu.ok
   exact ue bL hf hw hu hc.1.2 (by omega) hx
 ·simp at hr
set_option maxRecDepth 100000 in
theorem pC (rd P odd:Nat) (w:World) (h:kq w rd P) (hP:P+20000<=1099511627776) :
 Calls Tryz.prog 47 #[.pointer (some ⟨rd,0,none⟩),.int .i64 (odd:Nat)] w (FolD w.heap.size rd w):=by
 obtain ⟨W,hW,bM,hz,b0⟩:=kJ w (.cells #[.slice none 0 0,.slice none 0 0] 33)
 have C1:=bU (l91Given_any rd P W (h.below bM) (by omega))
 have fd:=bU (bY h.lt hP)
 have HW:=bU (bY hW (bY bM b0))
 clear hW bM hz b0 h hP
 go_enter Tryz.func47,Tryz.ntmps47
 go_upto_region 1 with (fail)
 rw [HW.out.1]
 go_wp2_with fail
 (with_reducible refine C1.out.mono ?_)
 rintro en w1 ⟨s,text,rfl,hs,ht,bE,dV⟩
 have eh:=bU (bY hs ht)
 have CP:=bU (qA rd _ 3 w1 dV (by omega) (by omega) (by have:=fd.out;omega))
 have cO:=bU bE
 clear hs ht bE dV C1
 go_wp2_with fail
 refine CP.out.mono ?_
 rintro en w2 ⟨v,rfl,hv,bN,dJ⟩
 have oW:IntKind.i64.wrap (2*(v:Int))=2*(v:Int):=qD _ (by omega) (by omega)
 have rQ:IntKind.i64.wrap (1+2*(v:Int))=1+2*(v:Int):=qD _ (by omega) (by omega)
 have CS:=bU (ux s text (1+2*(v:Int)) w2 (bC eh.out.1 (by decide)) (bC eh.out.2 (by decide)))
 have ir:=bU (fun L (h:qR s text (1+2*(v:Int))=some L)=>plays_in h)
 have H2:=bU (bY (cO.out.trans bN) dJ)
 have tf:=bU (show rd<w2.heap.size by have h1:=fd.out.1;have h2:=HW.out.2.1.size;have h3:=H2.out.1.size;omega)
 clear bN dJ CP cO
 go_wp2_with fail
 (with_reducible refine CS.out.mono ?_)
 rintro en w3 ⟨a,nl,c,us,rfl,bp,hN⟩
 have HZ:=bU (bY (H2.out.1.trans (But.ofBelow bp)) (H2.out.2.below bp))
 have W2S:=bU (show w.heap.size<=w2.heap.size by have h2:=HW.out.2.1.size;have h3:=H2.out.1.size;omega)
 cases ho:qR s text (1+2*(v:Int)) with
 | none =>
   clear oW rQ hN bp ho ir CS H2
   go_simp
   obtain ⟨hbz,B6⟩:=HZ.out
   have CT:=bU (vp rd _ w3 B6 (by have:=fd.out;omega))
   clear hbz B6
   go_wp2_with fail
   (with_reducible refine CT.out.mono ?_)
   rintro en wT ⟨sT,B5,rfl,DZ,Cc⟩
   obtain ⟨sj,oG⟩:=xP B5
   have CL:=bU (xI rd _ sT sj oG wT Cc (by have:=fd.out;omega))
   have HT:=bU (HZ.out.1.trans DZ)
   clear DZ Cc sj oG B5 CT
   go_wp2_with fail
   (with_reducible refine CL.out.mono ?_)
   rintro en wL ⟨l,a1,c1,a2,c2,rfl,Aq,_,Ch,tU,mf,iR⟩
   have iK:=((HT.out.trans Aq).block _ (zZ HW.out.2.2) (fun e=>by have:=fd.out;omega)).trans HW.out.2.2
   obtain ⟨q0,q1,q2,q3⟩:=zJ iK
   obtain ⟨r0,r1,_,_⟩:=zJ (qy iK (.slice a1 l.length c1) (.slice a2 l.length c2))
   have HE:=bU (yR eh.out.1 eh.out.2 HW.out.2.1 (HT.out.trans Aq) iK Ch tU (fun x hx=>bC (mf x hx) (by decide)) (fun g hg=>bC (bC HW.out.2.1.size HT.out.size) (iR g hg)))
   clear Aq Ch tU mf iR iK HT CL
   go_wp2_with fail
   refine bodyPost_ret (v:=.tuple #[str s,str text,.agg #[.slice a1 l.length c1,.slice a2 l.length c2]]) (by simp [results,Tryz.results47,go_sem,r0,r1]) rfl ?_
   exact HE.out
 | some L =>
   obtain ⟨hL0,hL3,b,fM,bL,hfb,hwb,cC⟩:=ir.out L ho
   rw [ho] at hN
   have HN:=bU (show NxR w2.heap.size L a nl c us w3 from hN)
   have AP:=bU (bY fM (bY bL (bY hfb (bY hwb cC))))
   have hnl:0<nl/\nl<=300:=by have:=hN.len;simp at this;omega
   have hnlI:¬ (nl:Int)=0:=by omega
   have hnlB:((nl:Int) == 0)=false:=by simpa using hnlI
   have CP:=bU (qA rd _ 10 w3 HZ.out.2 (by omega) (by omega) (by have:=fd.out;omega))
   have cF:=bU bp
   clear oW rQ hN bp ho ir CS fM bL hfb hwb cC
   go_wp2_with fail
   refine CP.out.mono ?_
   rintro en w4 ⟨v4,rfl,hv4,cV,rV⟩
   by_cases dL:v4=0
   ·subst dL
    have HZ:=bU (bY (HZ.out.1.trans cV) rV)
    clear cV rV CP H2
    obtain ⟨hbz,B6⟩:=HZ.out
    have CT:=bU (vp rd _ w4 B6 (by have:=fd.out;omega))
    clear hbz B6
    go_wp2_with fail
    (with_reducible refine CT.out.mono ?_)
    rintro en wT ⟨sT,B5,rfl,DZ,Cc⟩
    obtain ⟨sj,oG⟩:=xP B5
    have CL:=bU (xI rd _ sT sj oG wT Cc (by have:=fd.out;omega))
    have HT:=bU (HZ.out.1.trans DZ)
    clear DZ Cc sj oG B5 CT
    go_wp2_with fail
    (with_reducible refine CL.out.mono ?_)
    rintro en wL ⟨l,a1,c1,a2,c2,rfl,Aq,_,Ch,tU,mf,iR⟩
    have iK:=((HT.out.trans Aq).block _ (zZ HW.out.2.2) (fun e=>by have:=fd.out;omega)).trans HW.out.2.2
    obtain ⟨q0,q1,q2,q3⟩:=zJ iK
    obtain ⟨r0,r1,_,_⟩:=zJ (qy iK (.slice a1 l.length c1) (.slice a2 l.length c2))
    have HE:=bU (yR eh.out.1 eh.out.2 HW.out.2.1 (HT.out.trans Aq) iK Ch tU (fun x hx=>bC (mf x hx) (by decide)) (fun g hg=>bC (bC HW.out.2.1.size HT.out.size) (iR g hg)))
    clear Aq Ch tU mf iR iK HT CL
    go_wp2_with fail
    refine bodyPost_ret (v:=.tuple #[str s,str text,.agg #[.slice a1 l.length c1,.slice a2 l.length c2]]) (by simp [results,Tryz.results47,go_sem,r0,r1]) rfl ?_
    exact HE.out
   ·have h40I:¬ (v4:Int)=0:=by omega
    have h40B:((v4:Int) == 0)=false:=by simpa using h40I
    have H4:=bU (bY cV (bY (HZ.out.1.trans cV) rV))
    clear cV rV CP H2
    obtain ⟨mm,lB⟩:=zzN (min 250 nl)
    have C_:0<mm/\mm<=nl/\mm<=250:=by omega
    have HMI:=bU (show min 250 (nl:Int)=(mm:Int) by omega)
    have EW:=bU (qA rd _ mm w4 H4.out.2.2 C_.1 (by omega) (by have:=fd.out;omega))
    clear lB
    go_wp2_with fail
    rw [HMI.out]
    refine EW.out.mono ?_
    rintro en w5 ⟨vi,rfl,sU,b_,fR⟩
    have hviI:(vi:Int)<(nl:Int):=by omega
    have rn:=H4.out.1.trans b_
    have fa:=HN.out.rd.ul
    have dm:=HN.out.len
    have oE:=tf.out
    have Ex:=cF.out.size
    have h35:=rn.size
    obtain ⟨u,hu⟩:∃ u,us[vi]? = some u:=⟨_,List.getElem?_eq_getElem (by omega)⟩
    obtain ⟨l2,nq⟩:∃ x,L[vi]? = some x:=⟨_,List.getElem?_eq_getElem (by omega)⟩
    have sF:NxR w2.heap.size L a nl c us w5:=⟨dm,jE.but HN.out.pls rn (fun b hb e=>by have h1:=HN.out.new b hb;omega),HN.out.new⟩
    obtain ⟨gl,cl,el,k1,k2⟩:=jE.cells sF.pls hu
    have mC:=sF.rd.each vi u l2 hu nq
    have bD:=fun g (hg:u.1.ownBlock=some g\/u.2.ownBlock=some g)=>sF.new g (.inr ⟨u,List.mem_of_getElem? hu,hg⟩)
    have iM:=AP.out.2.2.2.2 l2 (List.mem_of_getElem? nq)
    simp only [Value.slice.injEq] at el
    obtain ⟨rfl,_,rfl⟩:=el
    obtain ⟨mv,pt⟩:=u
    obtain ⟨a8,c8,e8⟩:=mC.1.slice
    obtain ⟨a9,c9,e9⟩:=mC.2.slice
    change mv=_ at e8
    change pt=_ at e9
    subst e8;subst e9
    obtain ⟨W6,hW6,Ar,_,n7⟩:=kJ w5 (.cells #[.slice a8 l2.length c8,.slice a9 l2.length c9] 33)
    have Bp:But (· = rd) W W6:=(H4.out.2.1.trans b_).trans (But.ofBelow Ar)
    have x6:=(Bp.block _ (zZ HW.out.2.2) (fun e=>by have:=fd.out;omega)).trans HW.out.2.2
    have ci:=ze iM.ok
    have hlim:=yN AP.out.2.1 iM.ok
    have hww:w.heap.size<=w2.heap.size:=by have h2:=HW.out.2.1.size;have h3:=H4.out.2.1.size;have h4:=W2S.out;omega
    have H6:=bU (bY Bp (bY x6 (bY n7 (bY (mC.below Ar) (bY ci (bY hlim (bY (fun g hg=>bC hww (bD g hg)) (bY hW6 iM))))))))
    clear b_ fR rn fa dm oE Ex h35 hu nq sF mC bD iM Ar n7 Bp x6 ci hlim hww EW hW6 HN HZ cF H4
    go_upto_region 6 with (fail)
    rw [H6.out.2.2.2.2.2.2.2.1]
    obtain ⟨s0,s1,_,_⟩:=zJ H6.out.2.2.1
    by_cases hod:odd=1
    ·have sn:(odd:Int)=1:=by omega
     have hodB:((odd:Int) == 1)=true:=by simpa using sn
     clear hod sn s0 s1
     obtain ⟨q0,q1,q2,q3⟩:=zJ (show W6.drew.heap[w.heap.size]? = _ from H6.out.2.1)
     obtain ⟨p0,p1,_,_⟩:=zJ (show W6.drew.heap[w5.heap.size]? = _ from H6.out.2.2.1)
     obtain ⟨r0,r1,_,_⟩:=zJ (qy (show W6.drew.heap[w.heap.size]? = _ from H6.out.2.1) (.slice a8 l2.length c8) (.slice a9 l2.length c9))
     have HE:=bU (yR eh.out.1 eh.out.2 HW.out.2.1 (H6.out.1).drew (show W6.drew.heap[w.heap.size]? = _ from H6.out.2.1) (show zC W6.drew l2 _ _ from H6.out.2.2.2.1) H6.out.2.2.2.2.1 H6.out.2.2.2.2.2.1 H6.out.2.2.2.2.2.2.1)
     obtain ⟨y0,cM⟩:=zzN (W6.drew)
     rw [cM] at q0 q1 q2 q3 p0 p1 r0 r1 HE
     go_upto_region 7 with (fail)
     refine wp_region_noPanic ?_
     refine zX (fun w'=>w'=y0) (fun i=>decide (5<=i)) (by kernel_rfl) ?_
     have bS:(fun w'=>w'=y0) W6.drew:=cM
     refine tk [0,1,2] bS ?_
     (intro d hd;simp [tkD] at hd;subst hd;simp only [tks,pQ,pZ,pS])
     iterate 3 (refine ⟨?_,?_,?_⟩;rotate_left;· (intro oi ho;simp at ho;subst ho;refine Or.inl ⟨by rfl,fun w' bR=>?_⟩;obtain rfl:w'=y0:=bR;go_simp;try with_reducible rfl))
     (refine on 3 ?_;intro o ho K' hK;simp at ho;subst ho;go_simp)
     (refine hK.out _ _ (fun _=>rfl) ?_;clear hK K';try simp only [pQ,pN,pZ,pS])
     (refine on 4 ?_;intro o ho K' hK;simp at ho;subst ho;go_simp)
     (refine hK.out _ _ (fun _=>rfl) ?_;clear hK K';try simp only [pQ,pN,pZ,pS])
     (refine on 5 ?_;intro o ho K' hK;simp at ho;subst ho;go_simp)
     (refine hK.out _ _ (fun h=>by simp at h) ?_;clear hK K';try simp only [pQ,pN,pZ,pS])
     refine zU (by kernel_rfl) (NoPanic.normal ?_) _
     go_wp2_with fail
     refine bodyPost_ret (v:=.tuple #[str s,str text,.agg #[.slice a8 l2.length c8,.slice a9 l2.length c9]]) (by simp [results,Tryz.results47,go_sem,r0,r1]) rfl ?_
     exact HE.out
    ·have sn:¬ (odd:Int)=1:=by omega
     have hodB:((odd:Int) == 1)=false:=by simpa using sn
     by_cases h0:l2.length=0
     ·have h0B:((l2.length:Int) == 0)=true:=by rw [h0];rfl
      have HH0:=bU h0
      clear h0
      obtain ⟨q0,q1,q2,q3⟩:=zJ (show W6.drew.heap[w.heap.size]? = _ from H6.out.2.1)
      obtain ⟨p0,p1,_,_⟩:=zJ (show W6.drew.heap[w5.heap.size]? = _ from H6.out.2.2.1)
      obtain ⟨r0,r1,_,_⟩:=zJ (qy (show W6.drew.heap[w.heap.size]? = _ from H6.out.2.1) (.slice a8 l2.length c8) (.slice a9 l2.length c9))
      have HE:=bU (yR eh.out.1 eh.out.2 HW.out.2.1 (H6.out.1).drew (show W6.drew.heap[w.heap.size]? = _ from H6.out.2.1) (show zC W6.drew l2 _ _ from H6.out.2.2.2.1) H6.out.2.2.2.2.1 H6.out.2.2.2.2.2.1 H6.out.2.2.2.2.2.2.1)
      obtain ⟨y0,cM⟩:=zzN (W6.drew)
      rw [cM] at q0 q1 q2 q3 p0 p1 r0 r1 HE
      go_upto_region 7 with (fail)
      refine wp_region_noPanic ?_
      refine zX (fun w'=>w'=y0) (fun i=>decide (5<=i)) (by kernel_rfl) ?_
      have bS:(fun w'=>w'=y0) W6.drew:=cM
      refine tk [0,1,2] bS ?_
      (intro d hd;simp [tkD] at hd;subst hd;simp only [tks,pQ,pZ,pS])
      iterate 3 (refine ⟨?_,?_,?_⟩;rotate_left;· (intro oi ho;simp at ho;subst ho;refine Or.inl ⟨by rfl,fun w' bR=>?_⟩;obtain rfl:w'=y0:=bR;go_simp;try with_reducible rfl))
      (refine on 3 ?_;intro o ho K' hK;simp at ho;subst ho;go_simp)
      (refine hK.out _ _ (fun _=>rfl) ?_;clear hK K';try simp only [pQ,pN,pZ,pS])
      (refine on 4 ?_;intro o ho K' hK;simp at ho;subst ho;go_simp)
      (refine hK.out _ _ (fun _=>rfl) ?_;clear hK K';try simp only [pQ,pN,pZ,pS])
      (refine on 5 ?_;intro o ho K' hK;simp at ho;subst ho;go_simp)
      (refine hK.out _ _ (fun h=>by simp at h) ?_;clear hK K';try simp only [pQ,pN,pZ,pS])
      refine zU (by kernel_rfl) (NoPanic.normal ?_) _
      go_wp2_with fail
      refine bodyPost_ret (v:=.tuple #[str s,str text,.agg #[.slice a8 l2.length c8,.slice a9 l2.length c9]]) (by simp [results,Tryz.results47,go_sem,r0,r1]) rfl ?_
      exact HE.out
     ·have iw:¬ (l2.length:Int)=0:=by omega
      have h0B:((l2.length:Int) == 0)=false:=by simpa using iw
      have CR:=bU (uy (fun _=>True) s text _ _ (l2.map (·.1)) (l2.map (·.2)) W6 (bC eh.out.1 (by decide)) (bC eh.out.2 (by decide)) (zC.mv (F:=fun _=>True) H6.out.2.2.2.1 (fun _ _=>trivial)).1.ms (zC.mv (F:=fun _=>True) H6.out.2.2.2.1 (fun _ _=>trivial)).2.ps (fun x hx=>by
       obtain ⟨y,hy,rfl⟩:=List.mem_map.1 hx
       exact H6.out.2.2.2.2.2.1 y hy))
      obtain ⟨r,hr⟩:=zzN ((kX s text (l2.map (·.1)) (l2.map (·.2))).getD [])
      obtain ⟨q,hq⟩:=zzN ((kX s text (l2.map (·.1)) (l2.map (·.2))).isSome)
      have HRI:Hid (q=true->r.length<=60/\∀ x∈r,Lim x.1.length):=bU fun hqt=>by
       cases hro:kX s text (l2.map (·.1)) (l2.map (·.2)) with
       | none=>rw [hro] at hq;subst hqt;simp at hq
       | some r' =>
         rw [hro] at hr
         obtain rfl:r'=r:=hr
         have h1:=reply_in AP.out.1 AP.out.2.1 AP.out.2.2.1 AP.out.2.2.2.1 H6.out.2.2.2.2.2.2.2.2 hro
         exact ⟨ze h1.ok,yN AP.out.2.1 h1.ok⟩
      unfold PlQ at CR
      rw [hr,hq] at CR
      clear hr hq
      go_upto_region 8 with (fail)
      go_wp2_with fail
      (with_reducible refine CR.out.mono ?_)
      rintro en w7 ⟨b1,d1,b2,d2,rfl,bh,lG,cU⟩
      obtain ⟨W8,ik,ri,_,aI⟩:=kJ w7 (.cells #[.slice b1 r.length d1,.slice b2 r.length d2] 33)
      have tN:=zzT bh ri
      have H8:=bU (bY (H6.out.1.trans (But.ofBelow tN)) (bY ((tN.block _ (zZ H6.out.2.1)).trans H6.out.2.1) (bY ((tN.block _ (zZ H6.out.2.2.1)).trans H6.out.2.2.1) (bY (H6.out.2.2.2.1.below tN) (bY aI (bY (lG.below ri) (bY (fun g hg=>(show w.heap.size<=g from bC (show w.heap.size<=W6.heap.size by have h2:=HW.out.2.1.size;have h3:=H6.out.1.size;omega) (cU g hg))) ik)))))))
      clear bh lG cU ri aI tN ik s0 s1 CR h0 iw hod sn
      go_upto_region 9 with (fail)
      rw [H8.out.2.2.2.2.2.2.2]
      cases q with
      | true =>
        have hri:=HRI.out rfl
        have HRR:=bU hri
        clear hri
        obtain ⟨q0,q1,q2,q3⟩:=zJ (show W8.drew.heap[w.heap.size]? = _ from H8.out.2.1)
        obtain ⟨p0,p1,_,_⟩:=zJ (show W8.drew.heap[w7.heap.size]? = _ from H8.out.2.2.2.2.1)
        obtain ⟨r0,r1,_,_⟩:=zJ (qy (show W8.drew.heap[w.heap.size]? = _ from H8.out.2.1) (.slice b1 r.length d1) (.slice b2 r.length d2))
        have HE:=bU (yR eh.out.1 eh.out.2 HW.out.2.1 (H8.out.1).drew (show W8.drew.heap[w.heap.size]? = _ from H8.out.2.1) (show zC W8.drew r _ _ from H8.out.2.2.2.2.2.1) HRR.out.1 HRR.out.2 H8.out.2.2.2.2.2.2.1)
        obtain ⟨y0,cM⟩:=zzN (W8.drew)
        rw [cM] at q0 q1 q2 q3 p0 p1 r0 r1 HE
        go_upto_region 10 with (fail)
        refine wp_region_noPanic ?_
        refine zX (fun w'=>w'=y0) (fun i=>decide (5<=i)) (by kernel_rfl) ?_
        have bS:(fun w'=>w'=y0) W8.drew:=cM
        refine tk [0,1,2] bS ?_
        (intro d hd;simp [tkD] at hd;subst hd;simp only [tks,pQ,pZ,pS])
        iterate 3 (refine ⟨?_,?_,?_⟩;rotate_left;· (intro oi ho;simp at ho;subst ho;refine Or.inl ⟨by rfl,fun w' bR=>?_⟩;obtain rfl:w'=y0:=bR;go_simp;try with_reducible rfl))
        (refine on 3 ?_;intro o ho K' hK;simp at ho;subst ho;go_simp)
        (refine hK.out _ _ (fun _=>rfl) ?_;clear hK K';try simp only [pQ,pN,pZ,pS])
        (refine on 4 ?_;intro o ho K' hK;simp at ho;subst ho;go_simp)
        (refine hK.out _ _ (fun _=>rfl) ?_;clear hK K';try simp only [pQ,pN,pZ,pS])
        (refine on 5 ?_;intro o ho K' hK;simp at ho;subst ho;go_simp)
        (refine hK.out _ _ (fun h=>by simp at h) ?_;clear hK K';try simp only [pQ,pN,pZ,pS])
        refine zU (by kernel_rfl) (NoPanic.normal ?_) _
        go_wp2_with fail
        refine bodyPost_ret (v:=.tuple #[str s,str text,.agg #[.slice b1 r.length d1,.slice b2 r.length d2]]) (by simp [results,Tryz.results47,go_sem,r0,r1]) rfl ?_
        exact HE.out
      | false =>
        obtain ⟨q0,q1,q2,q3⟩:=zJ (show W8.drew.heap[w.heap.size]? = _ from H8.out.2.1)
        obtain ⟨p0,p1,_,_⟩:=zJ (show W8.drew.heap[w5.heap.size]? = _ from H8.out.2.2.1)
        obtain ⟨r0,r1,_,_⟩:=zJ (qy (show W8.drew.heap[w.heap.size]? = _ from H8.out.2.1) (.slice a8 l2.length c8) (.slice a9 l2.length c9))
        have HE:=bU (yR eh.out.1 eh.out.2 HW.out.2.1 (H8.out.1).drew (show W8.drew.heap[w.heap.size]? = _ from H8.out.2.1) (show zC W8.drew l2 _ _ from H8.out.2.2.2.1) H6.out.2.2.2.2.1 H6.out.2.2.2.2.2.1 H6.out.2.2.2.2.2.2.1)
        obtain ⟨y0,cM⟩:=zzN (W8.drew)
        rw [cM] at q0 q1 q2 q3 p0 p1 r0 r1 HE
        go_upto_region 11 with (fail)
        refine wp_region_noPanic ?_
        refine zX (fun w'=>w'=y0) (fun i=>decide (5<=i)) (by kernel_rfl) ?_
        have bS:(fun w'=>w'=y0) W8.drew:=cM
        refine tk [0,1,2] bS ?_
        (intro d hd;simp [tkD] at hd;subst hd;simp only [tks,pQ,pZ,pS])
        iterate 3 (refine ⟨?_,?_,?_⟩;rotate_left;· (intro oi ho;simp at ho;subst ho;refine Or.inl ⟨by rfl,fun w' bR=>?_⟩;obtain rfl:w'=y0:=bR;go_simp;try with_reducible rfl))
        (refine on 3 ?_;intro o ho K' hK;simp at ho;subst ho;go_simp)
        (refine hK.out _ _ (fun _=>rfl) ?_;clear hK K';try simp only [pQ,pN,pZ,pS])
        (refine on 4 ?_;intro o ho K' hK;simp at ho;subst ho;go_simp)
        (refine hK.out _ _ (fun _=>rfl) ?_;clear hK K';try simp only [pQ,pN,pZ,pS])
        (refine on 5 ?_;intro o ho K' hK;simp at ho;subst ho;go_simp)
        (refine hK.out _ _ (fun h=>by simp at h) ?_;clear hK K';try simp only [pQ,pN,pZ,pS])
        refine zU (by kernel_rfl) (NoPanic.normal ?_) _
        go_wp2_with fail
        refine bodyPost_ret (v:=.tuple #[str s,str text,.agg #[.slice a8 l2.length c8,.slice a9 l2.length c9]]) (by simp [results,Tryz.results47,go_sem,r0,r1]) rfl ?_
        exact HE.out
theorem own_cap {w:World} {e:TypeId} {n:Nat} {g:Nat} {c:Nat} {xs:List Value} (h:Own w e 1 (.slice (some ⟨g,0,none⟩) n c) n xs):n<=c:=by
 obtain ⟨_,⟨e,_⟩ | ⟨g',cap,cur,e,_,_,hc,_⟩⟩:=h
 ·simp at e
 ·simp only [Value.slice.injEq,true_and] at e
  obtain ⟨_,rfl⟩:=e
  exact hc
theorem own_src {w:World} {e:TypeId} {m n:Nat} {g:Nat} {c:Nat} {xs:List Value} (h:Own w e 1 (.slice (some ⟨g,0,none⟩) m c) m xs) (hn:n<=m) (hc:∀ u∈xs,u.oneCell'=true):zR 1 (.slice (some ⟨g,0,none⟩) n c) n (xs.take n) w:=by
 refine ⟨?_,fun u hu=>hc u (List.mem_of_mem_take hu),.inl ⟨_,c,rfl,fun j u hj=>?_⟩⟩
 ·have:=h.1;rw [List.length_take];omega
 ·rw [List.getElem?_take] at hj
  split at hj
  ·obtain ⟨g',c',e,k⟩:=h.at hj
   simp only [Value.slice.injEq,Option.some.injEq,Addr.mk.injEq,true_and] at e
   obtain ⟨⟨rfl,_⟩,_⟩:=e
   unfold Addr.add
   split
   ·subst j;exact k
   ·simpa using k
  ·simp at hj
set_option maxRecDepth 100000 in
theorem cutPlay_any (l:Pl) (n:Nat) (mv pt:Value) (w:World) (h:zC w l mv pt) (hn:n<=l.length) (h0:0<l.length) (hl:l.length<=1000) :
 Calls Tryz.prog 22 #[.agg #[mv,pt],.int .i64 (n:Nat)] w (CopyP (l.take n) w):=by
 obtain ⟨gm,cm,rfl,hca⟩:=h.1.at (List.getElem?_eq_getElem (show 0<(k_ l).length by unfold k_;rw [List.length_map];exact h0))
 obtain ⟨gp,cp,rfl,lI⟩:=h.2.at (List.getElem?_eq_getElem (show 0<(qM l).length by unfold qM;rw [List.length_map];exact h0))
 obtain ⟨W,hW,bM,hz,p0,p1⟩:=kH w (.cells #[.slice (some ⟨gm,0,none⟩) l.length cm,.slice (some ⟨gp,0,none⟩) l.length cp] 33) (.cells #[.slice none 0 0,.slice none 0 0] 33)
 have k1:=own_cap h.1
 have k2:=own_cap h.2
 have h1I:(n:Int)<=(cm:Int):=by omega
 have h2I:(n:Int)<=(cp:Int):=by omega
 have ry:n<=1000:=by omega
 have HL:=bU (show (l.take n).length=n by rw [List.length_take];omega)
 have SA:=bU (fun (y:World) (hy:Below W.heap.size W y)=>(show zR 1 (.slice (some ⟨gm,0,none⟩) n cm) n (k_ (l.take n)) y from by
  have:=own_src ((h.below (zzT bM hy)).1) hn (fun u hu=>by unfold k_ at hu;obtain ⟨x,_,rfl⟩:=List.mem_map.1 hu;simp [str,Value.oneCell'])
  unfold k_ at this ⊢
  rwa [List.map_take]))
 have SB:=bU (fun (y:World) (hy:Below W.heap.size W y)=>(show zR 1 (.slice (some ⟨gp,0,none⟩) n cp) n (qM (l.take n)) y from by
  have:=own_src ((h.below (zzT bM hy)).2) hn (fun u hu=>by unfold qM at hu;obtain ⟨x,_,rfl⟩:=List.mem_map.1 hu;simp [Value.oneCell'])
  unfold qM at this ⊢
  rwa [List.map_take]))
 have BM:=bU (fun (x:World) (hx:Below W.heap.size W x)=>(show Below (w.heap.size+1) W x from hx.mono (by omega)))
 have KEY:=bU (fun (y:World) (hy:Below (w.heap.size+1) W y)=>(show y.cell? ⟨w.heap.size,0,none⟩=some (.slice (some ⟨gm,0,none⟩) l.length cm)/\y.cell? ⟨w.heap.size,1,none⟩=some (.slice (some ⟨gp,0,none⟩) l.length cp) from by
  obtain ⟨c0,c1,_,_⟩:=zJ ((hy.block _ (Nat.lt_succ_self _)).trans p0)
  exact ⟨c0,c1⟩))
 have HW:=bU (bY hW (bY bM (bY hz (bY p0 p1))))
 clear hW bM hz p0 p1 hca lI h k1 k2 hn h0 hl
 go_enter Tryz.func22,Tryz.ntmps22
 go_upto_region 1 with (fail)
 rw [HW.out.1]
 refine wp_region_noPanic ?_
 refine zX (fun w'=>Below (w.heap.size+1) W w') (fun _=>false) (by kernel_rfl) ?_
 obtain ⟨y0,cM⟩:=zzN (W.drew)
 rw [cM]
 have bO:Below W.heap.size W y0:=by rw [<- cM];exact Below.drew (bP _ _)
 obtain ⟨dr,dH⟩:∃ x:Nat->Nat,x=fun _=>0:=⟨_,rfl⟩
 clear cM dH
 refine tk [1,2,3,4,7,8,9,10] (BM.out _ bO) ?_
 (intro d hd;simp [tkD] at hd;subst hd;simp only [tks,pQ,pZ,pS])
 iterate 8 (refine ⟨?_,?_,?_⟩;rotate_left;· (intro oi ho;simp at ho;subst ho;refine Or.inl ⟨by rfl,fun w' bR=>?_⟩;obtain ⟨e0,e1⟩:=KEY.out w' bR;go_simp;try with_reducible rfl))
 refine kK 0 6 (by kernel_rfl) ?_ ?_
 ·(intro o0 ho K' hK;simp at ho;subst ho)
  go_simp
  (refine hK.out _ _ (fun _=>BM.out _ (bO.alloc bO.size _)) ?_;clear hK K';try simp only [pQ,pN,pZ,pS])
  obtain ⟨y1,bD⟩:=zzN (y0.alloc (.cells #[] 9))
  obtain ⟨gA,cQ⟩:=zzN (y0.heap.size)
  rw [bD,cQ]
  have bj:Below W.heap.size W y1:=by rw [<- bD];exact bO.alloc bO.size _
  obtain ⟨tg1,bT⟩:=zzN (zF dr gA 1)
  have RA:Hid (Res W.heap.size tg1 1 y1 9 (.slice (some ⟨gA,0,none⟩) 0 0) 0 []):=by rw [<- bD,<- bT,<- cQ];exact Res.lit dr 1 bO.size 9 #[] 0 (by unfold maxLen;omega) rfl
  clear bD cQ bT
  refine kK 5 6 (by kernel_rfl) ?_ ?_
  ·(intro o5 ho K' hK;simp at ho;subst ho)
   refine zE (by rfl) _ _ _ (by rfl) 9 (str []) 1 16 Tryz.underlying30 Tryz.infoStr2 rfl (by decide) (.slice (some ⟨gA,0,none⟩) 0 0) 0 [] (by rfl) RA.out.1 _ n (k_ (l.take n)) (by rfl) (SA.out y1 bj) (by unfold maxLen;omega) (by omega) ?_
   intro aA cA y2 eJ cz cQ
   simp only [Nat.zero_add,List.nil_append] at eJ cQ ⊢
   have cK:Below W.heap.size W y2:=bj.trans (cz.toBelow bj.size fun i hi e=>by have:=(RA.out.2 i e).2;omega)
   (refine hK.out _ _ (fun _=>BM.out _ (cK)) ?_;clear hK K';try simp only [pQ,pN,pZ,pS])
   obtain ⟨fZ,bT⟩:=zzN (zF tg1 y1.heap.size 1)
   have RA:Hid (Res W.heap.size fZ 1 y2 9 (.slice aA (n) cA) (n) (k_ (l.take n))):=by rw [<- bT];exact RA.out.app bj.size eJ cQ
   clear eJ cz cQ bT
   (refine on 6 ?_;intro o ho K' hK;simp at ho;subst ho;go_simp)
   (refine hK.out _ _ (fun _=>BM.out _ (cK.alloc cK.size _)) ?_;clear hK K';try simp only [pQ,pN,pZ,pS])
   obtain ⟨y3,bD⟩:=zzN (y2.alloc (.cells #[] 3))
   obtain ⟨gB,cX⟩:=zzN (y2.heap.size)
   rw [bD,cX]
   have ce:Below W.heap.size W y3:=by rw [<- bD];exact cK.alloc cK.size _
   obtain ⟨sR,bT⟩:=zzN (zF fZ gB 2)
   have RA:Hid (Res W.heap.size sR 1 y3 9 (.slice aA (n) cA) n (k_ (l.take n))):=by rw [<- bD,<- bT,<- cX];exact RA.out.alloc _ 2
   have RB:Hid (Res W.heap.size sR 2 y3 3 (.slice (some ⟨gB,0,none⟩) 0 0) 0 []):=by rw [<- bD,<- bT,<- cX];exact Res.lit fZ 2 cK.size 3 #[] 0 (by unfold maxLen;omega) rfl
   clear bD cX bT
   (refine on 11 ?_;intro o ho K' hK;simp at ho;subst ho)
   refine zE (by rfl) _ _ _ (by rfl) 3 (.int .i64 0) 1 8 Tryz.underlying31 Tryz.infoInt2 rfl (by decide) (.slice (some ⟨gB,0,none⟩) 0 0) 0 [] (by rfl) RB.out.1 _ n (qM (l.take n)) (by rfl) (SB.out y3 ce) (by unfold maxLen;omega) (by omega) ?_
   intro aB cB y4 mK dN cX
   simp only [Nat.zero_add,List.nil_append] at mK cX ⊢
   have dj:Below W.heap.size W y4:=ce.trans (dN.toBelow ce.size fun i hi e=>by have:=(RB.out.2 i e).2;omega)
   (refine hK.out _ _ (fun _=>BM.out _ (dj)) ?_;clear hK K';try simp only [pQ,pN,pZ,pS])
   obtain ⟨oQ,bT⟩:=zzN (zF sR y3.heap.size 2)
   have RA:Hid (Res W.heap.size oQ 1 y4 9 (.slice aA (n) cA) n (k_ (l.take n))):=by rw [<- bT];exact RA.out.but dN (fun g hg=>by rw [(RB.out.2 g hg).1];decide) 2
   have RB:Hid (Res W.heap.size oQ 2 y4 3 (.slice aB (n) cB) (n) (qM (l.take n))):=by rw [<- bT];exact RB.out.app ce.size mK cX
   clear mK dN cX bT
   refine tk [12] (BM.out _ dj) ?_
   (intro d hd;simp [tkD] at hd;subst hd;simp only [tks,pQ,pZ,pS])
   (refine ⟨?_,?_,?_⟩;rotate_left;· (intro oi ho;simp at ho;subst ho;refine Or.inl ⟨by rfl,fun w' bR=>?_⟩;go_simp;try with_reducible rfl))
   (refine on 13 ?_;intro o ho K' hK;simp at ho;subst ho)
   have rK:=(dj.block _ (zZ HW.out.2.2.2.2)).trans HW.out.2.2.2.2
   obtain ⟨q0,q1,q2,q3⟩:=zJ rK
   obtain ⟨r0,r1,_,_⟩:=zJ (qy rK (.slice aA n cA) (.slice aB n cB))
   go_simp
   have bw:zC y4 (l.take n) (.slice aA n cA) (.slice aB n cB):=by unfold zC;rw [HL.out];exact ⟨RA.out.1,RB.out.1⟩
   have bf:But (fun b=>b=w.heap.size+1) y4 ((y4.setCell ⟨w.heap.size+1,0,none⟩ (.slice aA n cA)).setCell ⟨w.heap.size+1,1,none⟩ (.slice aB n cB)):=((But.refl (fun b=>b=w.heap.size+1) y4).setCell (p:=⟨w.heap.size+1,0,none⟩) (.inl rfl) _).setCell (p:=⟨w.heap.size+1,1,none⟩) (.inl rfl) _
   have dT:=((BM.out _ dj).setCell (p:=⟨w.heap.size+1,0,none⟩) (bX _) (.slice aA n cA)).setCell (p:=⟨w.heap.size+1,1,none⟩) (bX _) (.slice aB n cB)
   have HF:=bU (bY (bw.but bf (fun g hg=>bw.notBox rK (by decide) (by decide) g hg)) (bY ((zzT HW.out.2.1 dj).trans (bf.toBelow (bC HW.out.2.1.size dj.size) fun i hi e=>by omega)) (fun g (hg:(Value.slice aA n cA).ownBlock=some g\/(Value.slice aB n cB).ownBlock=some g)=>(show w.heap.size<=g from bC HW.out.2.1.size (hg.elim (fun h=>(RA.out.2 g h).2) (fun h=>(RB.out.2 g h).2))))))
   clear bw bf rK
   (refine hK.out _ _ (fun _=>dT) ?_;clear hK K';try simp only [pQ,pN,pZ,pS])
   refine zU (by kernel_rfl) (NoPanic.normal ?_) _
   go_wp2_with fail
   refine bodyPost_ret (v:=.agg #[.slice aA n cA,.slice aB n cB]) (by simp [results,Tryz.results22,go_sem,r0,r1]) rfl ?_
   exact ⟨_,_,rfl,HF.out.1,HF.out.2.1,HF.out.2.2⟩
  ·(intro o6 ho K' hK;simp at ho;subst ho)
   go_simp
   (refine hK.out _ _ (fun _=>BM.out _ (bj.alloc bj.size _)) ?_;clear hK K';try simp only [pQ,pN,pZ,pS])
   obtain ⟨y6,bD⟩:=zzN (y1.alloc (.cells #[] 3))
   obtain ⟨gB,cX⟩:=zzN (y1.heap.size)
   rw [bD,cX]
   have cP:Below W.heap.size W y6:=by rw [<- bD];exact bj.alloc bj.size _
   obtain ⟨rC,bT⟩:=zzN (zF tg1 gB 2)
   have RA:Hid (Res W.heap.size rC 1 y6 9 (.slice (some ⟨gA,0,none⟩) 0 0) 0 []):=by rw [<- bD,<- bT,<- cX];exact RA.out.alloc _ 2
   have RB:Hid (Res W.heap.size rC 2 y6 3 (.slice (some ⟨gB,0,none⟩) 0 0) 0 []):=by rw [<- bD,<- bT,<- cX];exact Res.lit tg1 2 bj.size 3 #[] 0 (by unfold maxLen;omega) rfl
   clear bD cX bT
   (refine on 5 ?_;intro o ho K' hK;simp at ho;subst ho)
   refine zE (by rfl) _ _ _ (by rfl) 9 (str []) 1 16 Tryz.underlying30 Tryz.infoStr2 rfl (by decide) (.slice (some ⟨gA,0,none⟩) 0 0) 0 [] (by rfl) RA.out.1 _ n (k_ (l.take n)) (by rfl) (SA.out y6 cP) (by unfold maxLen;omega) (by omega) ?_
   intro aA cA y7 eJ cz cQ
   simp only [Nat.zero_add,List.nil_append] at eJ cQ ⊢
   have cI:Below W.heap.size W y7:=cP.trans (cz.toBelow cP.size fun i hi e=>by have:=(RA.out.2 i e).2;omega)
   (refine hK.out _ _ (fun _=>BM.out _ (cI)) ?_;clear hK K';try simp only [pQ,pN,pZ,pS])
   obtain ⟨tg7,bT⟩:=zzN (zF rC y6.heap.size 1)
   have RB:Hid (Res W.heap.size tg7 2 y7 3 (.slice (some ⟨gB,0,none⟩) 0 0) 0 []):=by rw [<- bT];exact RB.out.but cz (fun g hg=>by rw [(RA.out.2 g hg).1];decide) 1
   have RA:Hid (Res W.heap.size tg7 1 y7 9 (.slice aA (n) cA) (n) (k_ (l.take n))):=by rw [<- bT];exact RA.out.app cP.size eJ cQ
   clear eJ cz cQ bT
   (refine on 11 ?_;intro o ho K' hK;simp at ho;subst ho)
   refine zE (by rfl) _ _ _ (by rfl) 3 (.int .i64 0) 1 8 Tryz.underlying31 Tryz.infoInt2 rfl (by decide) (.slice (some ⟨gB,0,none⟩) 0 0) 0 [] (by rfl) RB.out.1 _ n (qM (l.take n)) (by rfl) (SB.out y7 cI) (by unfold maxLen;omega) (by omega) ?_
   intro aB cB y8 mK dN cX
   simp only [Nat.zero_add,List.nil_append] at mK cX ⊢
   have eg:Below W.heap.size W y8:=cI.trans (dN.toBelow cI.size fun i hi e=>by have:=(RB.out.2 i e).2;omega)
   (refine hK.out _ _ (fun _=>BM.out _ (eg)) ?_;clear hK K';try simp only [pQ,pN,pZ,pS])
   obtain ⟨tg8,bT⟩:=zzN (zF tg7 y7.heap.size 2)
   have RA:Hid (Res W.heap.size tg8 1 y8 9 (.slice aA (n) cA) n (k_ (l.take n))):=by rw [<- bT];exact RA.out.but dN (fun g hg=>by rw [(RB.out.2 g hg).1];decide) 2
   have RB:Hid (Res W.heap.size tg8 2 y8 3 (.slice aB (n) cB) (n) (qM (l.take n))):=by rw [<- bT];exact RB.out.app cI.size mK cX
   clear mK dN cX bT
   refine tk [12] (BM.out _ eg) ?_
   (intro d hd;simp [tkD] at hd;subst hd;simp only [tks,pQ,pZ,pS])
   (refine ⟨?_,?_,?_⟩;rotate_left;· (intro oi ho;simp at ho;subst ho;refine Or.inl ⟨by rfl,fun w' bR=>?_⟩;go_simp;try with_reducible rfl))
   (refine on 13 ?_;intro o ho K' hK;simp at ho;subst ho)
   have rK:=(eg.block _ (zZ HW.out.2.2.2.2)).trans HW.out.2.2.2.2
   obtain ⟨q0,q1,q2,q3⟩:=zJ rK
   obtain ⟨r0,r1,_,_⟩:=zJ (qy rK (.slice aA n cA) (.slice aB n cB))
   go_simp
   have bw:zC y8 (l.take n) (.slice aA n cA) (.slice aB n cB):=by unfold zC;rw [HL.out];exact ⟨RA.out.1,RB.out.1⟩
   have bf:But (fun b=>b=w.heap.size+1) y8 ((y8.setCell ⟨w.heap.size+1,0,none⟩ (.slice aA n cA)).setCell ⟨w.heap.size+1,1,none⟩ (.slice aB n cB)):=((But.refl (fun b=>b=w.heap.size+1) y8).setCell (p:=⟨w.heap.size+1,0,none⟩) (.inl rfl) _).setCell (p:=⟨w.heap.size+1,1,none⟩) (.inl rfl) _
   have hBy9:=((BM.out _ eg).setCell (p:=⟨w.heap.size+1,0,none⟩) (bX _) (.slice aA n cA)).setCell (p:=⟨w.heap.size+1,1,none⟩) (bX _) (.slice aB n cB)
   have HF:=bU (bY (bw.but bf (fun g hg=>bw.notBox rK (by decide) (by decide) g hg)) (bY ((zzT HW.out.2.1 eg).trans (bf.toBelow (bC HW.out.2.1.size eg.size) fun i hi e=>by omega)) (fun g (hg:(Value.slice aA n cA).ownBlock=some g\/(Value.slice aB n cB).ownBlock=some g)=>(show w.heap.size<=g from bC HW.out.2.1.size (hg.elim (fun h=>(RA.out.2 g h).2) (fun h=>(RB.out.2 g h).2))))))
   clear bw bf rK
   (refine hK.out _ _ (fun _=>hBy9) ?_;clear hK K';try simp only [pQ,pN,pZ,pS])
   refine zU (by kernel_rfl) (NoPanic.normal ?_) _
   go_wp2_with fail
   refine bodyPost_ret (v:=.agg #[.slice aA n cA,.slice aB n cB]) (by simp [results,Tryz.results22,go_sem,r0,r1]) rfl ?_
   exact ⟨_,_,rfl,HF.out.1,HF.out.2.1,HF.out.2.2⟩
 ·(intro o6 ho K' hK;simp at ho;subst ho)
  go_simp
  (refine hK.out _ _ (fun _=>BM.out _ (bO.alloc bO.size _)) ?_;clear hK K';try simp only [pQ,pN,pZ,pS])
  obtain ⟨aQ,bD⟩:=zzN (y0.alloc (.cells #[] 3))
  obtain ⟨gB,cX⟩:=zzN (y0.heap.size)
  rw [bD,cX]
  have dA:Below W.heap.size W aQ:=by rw [<- bD];exact bO.alloc bO.size _
  obtain ⟨dc,bT⟩:=zzN (zF dr gB 2)
  have RB:Hid (Res W.heap.size dc 2 aQ 3 (.slice (some ⟨gB,0,none⟩) 0 0) 0 []):=by rw [<- bD,<- bT,<- cX];exact Res.lit dr 2 bO.size 3 #[] 0 (by unfold maxLen;omega) rfl
  clear bD cX bT
  (refine on 0 ?_;intro o ho K' hK;simp at ho;subst ho;go_simp)
  (refine hK.out _ _ (fun _=>BM.out _ (dA.alloc dA.size _)) ?_;clear hK K';try simp only [pQ,pN,pZ,pS])
  obtain ⟨sN,bD⟩:=zzN (aQ.alloc (.cells #[] 9))
  obtain ⟨gA,cQ⟩:=zzN (aQ.heap.size)
  rw [bD,cQ]
  have ct:Below W.heap.size W sN:=by rw [<- bD];exact dA.alloc dA.size _
  obtain ⟨oV,bT⟩:=zzN (zF dc gA 1)
  have RB:Hid (Res W.heap.size oV 2 sN 3 (.slice (some ⟨gB,0,none⟩) 0 0) 0 []):=by rw [<- bD,<- bT,<- cQ];exact RB.out.alloc _ 1
  have RA:Hid (Res W.heap.size oV 1 sN 9 (.slice (some ⟨gA,0,none⟩) 0 0) 0 []):=by rw [<- bD,<- bT,<- cQ];exact Res.lit dc 1 dA.size 9 #[] 0 (by unfold maxLen;omega) rfl
  clear bD cQ bT
  (refine on 5 ?_;intro o ho K' hK;simp at ho;subst ho)
  refine zE (by rfl) _ _ _ (by rfl) 9 (str []) 1 16 Tryz.underlying30 Tryz.infoStr2 rfl (by decide) (.slice (some ⟨gA,0,none⟩) 0 0) 0 [] (by rfl) RA.out.1 _ n (k_ (l.take n)) (by rfl) (SA.out sN ct) (by unfold maxLen;omega) (by omega) ?_
  intro aA cA eY eJ cz cQ
  simp only [Nat.zero_add,List.nil_append] at eJ cQ ⊢
  have cv:Below W.heap.size W eY:=ct.trans (cz.toBelow ct.size fun i hi e=>by have:=(RA.out.2 i e).2;omega)
  (refine hK.out _ _ (fun _=>BM.out _ (cv)) ?_;clear hK K';try simp only [pQ,pN,pZ,pS])
  obtain ⟨oJ,bT⟩:=zzN (zF oV sN.heap.size 1)
  have RB:Hid (Res W.heap.size oJ 2 eY 3 (.slice (some ⟨gB,0,none⟩) 0 0) 0 []):=by rw [<- bT];exact RB.out.but cz (fun g hg=>by rw [(RA.out.2 g hg).1];decide) 1
  have RA:Hid (Res W.heap.size oJ 1 eY 9 (.slice aA (n) cA) (n) (k_ (l.take n))):=by rw [<- bT];exact RA.out.app ct.size eJ cQ
  clear eJ cz cQ bT
  (refine on 11 ?_;intro o ho K' hK;simp at ho;subst ho)
  refine zE (by rfl) _ _ _ (by rfl) 3 (.int .i64 0) 1 8 Tryz.underlying31 Tryz.infoInt2 rfl (by decide) (.slice (some ⟨gB,0,none⟩) 0 0) 0 [] (by rfl) RB.out.1 _ n (qM (l.take n)) (by rfl) (SB.out eY cv) (by unfold maxLen;omega) (by omega) ?_
  intro aB cB nH mK dN cX
  simp only [Nat.zero_add,List.nil_append] at mK cX ⊢
  have dX:Below W.heap.size W nH:=cv.trans (dN.toBelow cv.size fun i hi e=>by have:=(RB.out.2 i e).2;omega)
  (refine hK.out _ _ (fun _=>BM.out _ (dX)) ?_;clear hK K';try simp only [pQ,pN,pZ,pS])
  obtain ⟨BE,bT⟩:=zzN (zF oJ eY.heap.size 2)
  have RA:Hid (Res W.heap.size BE 1 nH 9 (.slice aA (n) cA) n (k_ (l.take n))):=by rw [<- bT];exact RA.out.but dN (fun g hg=>by rw [(RB.out.2 g hg).1];decide) 2
  have RB:Hid (Res W.heap.size BE 2 nH 3 (.slice aB (n) cB) (n) (qM (l.take n))):=by rw [<- bT];exact RB.out.app cv.size mK cX
  clear mK dN cX bT
  refine tk [12] (BM.out _ dX) ?_
  (intro d hd;simp [tkD] at hd;subst hd;simp only [tks,pQ,pZ,pS])
  (refine ⟨?_,?_,?_⟩;rotate_left;· (intro oi ho;simp at ho;subst ho;refine Or.inl ⟨by rfl,fun w' bR=>?_⟩;go_simp;try with_reducible rfl))
  (refine on 13 ?_;intro o ho K' hK;simp at ho;subst ho)
  have rK:=(dX.block _ (zZ HW.out.2.2.2.2)).trans HW.out.2.2.2.2
  obtain ⟨q0,q1,q2,q3⟩:=zJ rK
  obtain ⟨r0,r1,_,_⟩:=zJ (qy rK (.slice aA n cA) (.slice aB n cB))
  go_simp
  have bw:zC nH (l.take n) (.slice aA n cA) (.slice aB n cB):=by unfold zC;rw [HL.out];exact ⟨RA.out.1,RB.out.1⟩
  have bf:But (fun b=>b=w.heap.size+1) nH ((nH.setCell ⟨w.heap.size+1,0,none⟩ (.slice aA n cA)).setCell ⟨w.heap.size+1,1,none⟩ (.slice aB n cB)):=((But.refl (fun b=>b=w.heap.size+1) nH).setCell (p:=⟨w.heap.size+1,0,none⟩) (.inl rfl) _).setCell (p:=⟨w.heap.size+1,1,none⟩) (.inl rfl) _
  have Et:=((BM.out _ dX).setCell (p:=⟨w.heap.size+1,0,none⟩) (bX _) (.slice aA n cA)).setCell (p:=⟨w.heap.size+1,1,none⟩) (bX _) (.slice aB n cB)
  have HF:=bU (bY (bw.but bf (fun g hg=>bw.notBox rK (by decide) (by decide) g hg)) (bY ((zzT HW.out.2.1 dX).trans (bf.toBelow (bC HW.out.2.1.size dX.size) fun i hi e=>by omega)) (fun g (hg:(Value.slice aA n cA).ownBlock=some g\/(Value.slice aB n cB).ownBlock=some g)=>(show w.heap.size<=g from bC HW.out.2.1.size (hg.elim (fun h=>(RA.out.2 g h).2) (fun h=>(RB.out.2 g h).2))))))
  clear bw bf rK
  (refine hK.out _ _ (fun _=>Et) ?_;clear hK K';try simp only [pQ,pN,pZ,pS])
  refine zU (by kernel_rfl) (NoPanic.normal ?_) _
  go_wp2_with fail
  refine bodyPost_ret (v:=.agg #[.slice aA n cA,.slice aB n cB]) (by simp [results,Tryz.results22,go_sem,r0,r1]) rfl ?_
  exact ⟨_,_,rfl,HF.out.1,HF.out.2.1,HF.out.2.2⟩
theorem vZ {s text:Bs} {u:Pl} (h:qY s text (u.map (·.1)) (u.map (·.2))=true):∃ b,zM s text=some b/\yD (zV s).1 b u/\kO s (u.map (·.1)) (u.map (·.2))=true:=by
 unfold qY at h
 cases hb:zM s text with
 | none=>rw [hb] at h;simp at h
 | some b =>
   rw [hb] at h
   simp only [Bool.and_eq_true,decide_eq_true_eq,vY] at h
   have h1:=(vD (vN h.1)).2.1
   have h2:=h.1
   unfold kO at h2
   rw [Bool.and_eq_true,vY] at h2
   rw [vY] at h1
   exact ⟨b,rfl,⟨h1,h2.2,h.2⟩,h.1⟩
theorem in_init {t:Ty} {b:Bd} {v:Pl} {x:Bs×Int} (h:yD t b (v++[x])):yD t b v/\(v.length % 2=1->kZ t b v v.length=some x):=by
 have bI:(v++[x]).length=v.length+1:=by rw [List.length_append];rfl
 have b4:=h.ok
 unfold zv at b4
 rw [Bool.and_eq_true,decide_eq_true_eq,bI] at b4
 have hv:zv t v=true:=by
  unfold zv
  rw [Bool.and_eq_true,decide_eq_true_eq]
  exact ⟨by omega,xn fun i hi=>by rw [<- okAt_snoc t v x hi];exact uY b4.2 (by omega)⟩
 have dF:=h.lg
 unfold qd xY brP at dF
 rw [Bool.and_eq_true,bI] at dF
 have key:∀ i,i<=v.length->kZ t b (v++[x]) i=kZ t b v i:=fun i hi=>by
  have h1:=jv h.ok b (n:=v.length) (m:=i) (by omega) (by omega)
  rw [List.take_left' rfl] at h1
  unfold kZ
  rw [<- h1]
 refine ⟨⟨hv,?_,fun i hi ho=>?_⟩,fun ho=>?_⟩
 ·unfold qd xY brP
  rw [Bool.and_eq_true]
  exact ⟨yI fun i hi=>by rw [<- pm hv x hi];exact vh dF.1 (by omega),yI fun i hi=>by rw [<- brAt_snoc v x hi];exact vh dF.2 (by omega)⟩
 ·have h2:=h.fo i (by omega) ho
  rw [key i (by omega),vu hi] at h2
  exact h2
 ·have h2:=h.fo v.length (by omega) ho
  rw [key _ (bX _)] at h2
  rw [h2];simp
theorem follow_last {s text:Bs} {u:Pl} (h:qY s text (u.map (·.1)) (u.map (·.2))=true) (h0:0<u.length) :
 qY s text ((u.take (u.length-1)).map (·.1)) ((u.take (u.length-1)).map (·.2))=true/\(u.length % 2=0->kX s text ((u.take (u.length-1)).map (·.1)) ((u.take (u.length-1)).map (·.2))=some u):=by
 rcases List.eq_nil_or_concat u with rfl | ⟨v,x,rfl⟩
 ·simp at h0
 rw [List.concat_eq_append] at *
 have bI:(v++[x]).length=v.length+1:=by rw [List.length_append];rfl
 rw [bI,Nat.add_sub_cancel,List.take_left' rfl]
 obtain ⟨b,hb,cC,_⟩:=vZ h
 obtain ⟨hv,hr⟩:=in_init cC
 have hf:=follow_in hb hv
 refine ⟨hf,fun ho=>?_⟩
 obtain ⟨b',cL,_,hlo⟩:=vZ hf
 have ci:=ze cC.ok
 unfold kX
 rw [hb]
 simp only
 unfold qx
 rw [hlo,vY,List.length_map,decide_eq_true (show v.length % 2=1 by omega),decide_eq_true hv.fo,if_pos (show (true && true && true)=true from rfl)]
 unfold qN
 rw [if_neg (by omega),hr (by omega)]
 rfl
theorem row8_below {w w':World} {a:Option Addr} {len cap:Nat} {zs:List Int} (h:Row8 w a len cap zs) (hb:Below w.heap.size w w'):Row8 w' a len cap zs:=by
 rcases h with h | ⟨x,h1,h2,h3,h4,h5,h6⟩
 ·exact .inl h
 ·exact .inr ⟨x,h1,h2,h3,h4,fun i hi=>(hb.cell (bW _ _ (h5 i hi))).trans (h5 i hi),h6⟩
set_option maxRecDepth 100000 in
theorem pE (a:Option Addr) (len cap:Nat) (zs:List Int) (w:World) (h:Row8 w a len cap zs) (hl:len<=1048576) :
 Calls Tryz.prog 20 #[.slice a len cap] w fun en w'=>∃ (s text:Bs) (l:Pl) (a1:Option Addr) (c1:Nat) (a2:Option Addr) (c2:Nat),en=.returned (.tuple #[str s,str text,.agg #[.slice a1 l.length c1,.slice a2 l.length c2]])/\s.length<=100/\text.length<=100000/\Below w.heap.size w w'/\zC w' l (.slice a1 l.length c1) (.slice a2 l.length c2)/\l.length<=60/\∀ x∈l,Lim x.1.length:=by
 obtain ⟨W,hW,bM,hz,b0⟩:=kJ w (.cells #[.slice none 0 0,.slice none 0 0] 33)
 have CO:=bU (l6Open_any a len cap zs W (row8_below h bM) hl)
 have HW:=bU (bY hW (bY bM b0))
 clear hW bM hz b0 h hl
 go_enter Tryz.func20,Tryz.ntmps20
 go_upto_region 1 with (fail)
 rw [HW.out.1]
 go_wp2_with fail
 refine CO.out.mono ?_
 rintro en w1 ⟨rfl,bE,dV,_⟩
 have cO:=bU (bY bE dV)
 clear bE dV CO
 go_wp2_with fail
 refine (qA W.heap.size 0 2 w1 cO.out.2 (by omega) (by omega) (by omega)).mono ?_
 rintro en w2 ⟨v,rfl,hv,bN,dJ⟩
 have CF:=bU (pC W.heap.size _ v w2 dJ (by omega))
 have b6:=bU (but_new cO.out.1 (bX _) bN)
 clear bN dJ cO
 go_wp2_with fail
 refine CF.out.mono ?_
 rintro en w3 ⟨s,text,l,a1,c1,a2,c2,rfl,hs,ht,bp,hp,ci,hlim,_⟩
 have AD:=but_new b6.out (bX _) bp
 have hx:=(AD.block _ (zZ HW.out.2.2)).trans HW.out.2.2
 obtain ⟨q0,q1,q2,q3⟩:=zJ hx
 obtain ⟨r0,r1,_,_⟩:=zJ (qy hx (.slice a1 l.length c1) (.slice a2 l.length c2))
 have bf:But (fun b=>b=w.heap.size) w3 ((w3.setCell ⟨w.heap.size,0,none⟩ (.slice a1 l.length c1)).setCell ⟨w.heap.size,1,none⟩ (.slice a2 l.length c2)):=((But.refl (fun b=>b=w.heap.size) w3).setCell (p:=⟨w.heap.size,0,none⟩) (.inl rfl) _).setCell (p:=⟨w.heap.size,1,none⟩) (.inl rfl) _
 have HF:=bU (bY ((zzT HW.out.2.1 AD).trans (bf.toBelow (bC HW.out.2.1.size AD.size) fun i hi e=>by omega)) (bY (hp.but bf (fun g hg=>hp.notBox hx (by decide) (by decide) g hg)) (bY hs (bY ht (bY ci hlim)))))
 clear hs ht bp hp ci hlim AD hx bf CF b6
 go_wp2_with fail
 refine bodyPost_ret (v:=.tuple #[str s,str text,.agg #[.slice a1 l.length c1,.slice a2 l.length c2]]) (by simp [results,Tryz.results20,go_sem,r0,r1]) rfl ?_
 exact ⟨s,text,l,a1,c1,a2,c2,rfl,HF.out.2.2.1,HF.out.2.2.2.1,HF.out.1,HF.out.2.1,HF.out.2.2.2.2.1,HF.out.2.2.2.2.2⟩
set_option maxRecDepth 100000 in
theorem fnFollows_any (a0:Option Addr) (len cap:Nat) (zs:List Int) (w:World) (h8:Row8 w a0 len cap zs) (hg:qr w) :
 Calls Tryz.prog 6 #[.slice a0 len cap] w fun en w'=>en=.returned (.bool true)/\Below w.heap.size w w':=by
 by_cases hl:1048576<len
 ·have dz:(1048576:Int)<(len:Int):=by omega
  go_enter Tryz.func6,Tryz.ntmps6
  go_wp2_with fail
  go_ret
  exact ⟨rfl,bP _ _⟩
 have dz:¬ (1048576:Int)<(len:Int):=by omega
 have CD:=bU (pE a0 len cap zs w h8 (by omega))
 have HG:=bU hg
 clear h8 hg hl
 go_enter Tryz.func6,Tryz.ntmps6
 go_wp2_with fail
 (with_reducible refine CD.out.mono ?_)
 rintro en w1 ⟨s,text,l,a1,c1,a2,c2,rfl,hs,ht,bE,nI,ci,hlim⟩
 have ls:Lim s.length:=show _<=_ by omega
 have lt:Lim text.length:=show _<=_ by omega
 obtain ⟨W,hW,bM,_,x5⟩:=kJ w1 (.cells #[.slice a1 l.length c1,.slice a2 l.length c2] 33)
 have rH:=zzT bE bM
 have sX:=nI.below bM
 have hgW:=HG.out.below rH
 have KEY:=bU (fun (y:World) (hy:Below W.heap.size W y)=>(show (y.cell? ⟨w1.heap.size,0,none⟩=some (.slice a1 l.length c1)/\y.cell? ⟨w1.heap.size,1,none⟩=some (.slice a2 l.length c2))/\zC y l (.slice a1 l.length c1) (.slice a2 l.length c2)/\qr y/\Below w.heap.size w y from by
  obtain ⟨k0,k1,_,_⟩:=zJ ((hy.block _ (zZ x5)).trans x5)
  exact ⟨⟨k0,k1⟩,sX.below hy,hgW.below hy,zzT rH hy⟩))
 have CF:=bU (fun (y:World) (hy:qr y) (u:Pl) (mv pt:Value) (hp:zC y u mv pt) (dm:∀ x∈u,Lim x.1.length)=>uZ (fun _=>True) s text mv pt (u.map (·.1)) (u.map (·.2)) y hy ls lt (zC.mv (F:=fun _=>True) hp (fun _ _=>trivial)).1.ms (zC.mv (F:=fun _=>True) hp (fun _ _=>trivial)).2.ps (fun x hx=>by
  obtain ⟨z,hz,rfl⟩:=List.mem_map.1 hx
  exact dm z hz))
 have CS:=bU (fun (y:World) (u:Pl) (mv pt:Value) (hp:zC y u mv pt) (dm:∀ x∈u,Lim x.1.length)=>v3 (fun _=>True) s text mv pt (u.map (·.1)) (u.map (·.2)) y ls lt (zC.mv (F:=fun _=>True) hp (fun _ _=>trivial)).1.ms (zC.mv (F:=fun _=>True) hp (fun _ _=>trivial)).2.ps (fun x hx=>by
  obtain ⟨z,hz,rfl⟩:=List.mem_map.1 hx
  exact dm z hz))
 have CL:=bU (fun (y:World) (u:Pl) (mv pt:Value) (hp:zC y u mv pt) (dm:∀ x∈u,Lim x.1.length)=>jy (fun _=>True) s mv pt (u.map (·.1)) (u.map (·.2)) y ls (zC.mv (F:=fun _=>True) hp (fun _ _=>trivial)).1.ms (zC.mv (F:=fun _=>True) hp (fun _ _=>trivial)).2.ps (fun x hx=>by
  obtain ⟨z,hz,rfl⟩:=List.mem_map.1 hx
  exact dm z hz))
 have CR:=bU (fun (y:World) (hy:qr y) (u:Pl) (mv pt:Value) (hp:zC y u mv pt) (dm:∀ x∈u,Lim x.1.length)=>up (fun _=>True) s text mv pt (u.map (·.1)) (u.map (·.2)) y hy ls lt (zC.mv (F:=fun _=>True) hp (fun _ _=>trivial)).1.ms (zC.mv (F:=fun _=>True) hp (fun _ _=>trivial)).2.ps (fun x hx=>by
  obtain ⟨z,hz,rfl⟩:=List.mem_map.1 hx
  exact dm z hz))
 have HLM:=bU hlim
 have HW:=bU hW
 have C1:=bU (CF.out W hgW l _ _ sX hlim)
 obtain ⟨f,hf⟩:=zzN (qY s text (l.map (·.1)) (l.map (·.2)))
 rw [hf] at C1
 have nN:=bU hf
 clear hs ht bE nI hlim ls lt hW bM x5 rH sX hgW CD hf
 go_upto_region 4 with (fail)
 rw [HW.out]
 obtain ⟨⟨e0,e1⟩,_,_,_⟩:=KEY.out W (bP _ _)
 go_wp2_with fail
 (with_reducible refine C1.out.mono ?_)
 rintro en w2 ⟨rfl,bN⟩
 have H2:=bU bN
 clear bN C1 e0 e1
 obtain ⟨⟨e0,e1⟩,mC,_,_⟩:=KEY.out w2 H2.out
 have C2:=bU (CS.out w2 l _ _ mC HLM.out)
 rw [nN.out] at C2
 clear mC CS
 go_wp2_with fail
 (with_reducible refine C2.out.mono ?_)
 rintro en w3 ⟨rfl,bp⟩
 have H3:=bU (zzT H2.out bp)
 clear bp C2 e0 e1
 obtain ⟨⟨e0,e1⟩,iH,mr,AD⟩:=KEY.out w3 H3.out
 have cF:=bU AD
 clear AD
 cases f with
 | false =>
   clear iH mr
   go_wp2_with fail
   go_ret
   exact ⟨rfl,cF.out⟩
 | true =>
   by_cases h0:l.length=0
   ·have iw:(l.length:Int)=0:=by omega
    have h0B:((l.length:Int) == 0)=true:=by simpa using iw
    have C4:=bU (CL.out w3 l _ _ iH HLM.out)
    rw [(vZ nN.out).choose_spec.2.2] at C4
    clear iH mr h0 iw
    go_wp2_with fail
    (with_reducible refine C4.out.mono ?_)
    rintro en w4 ⟨rfl,cV⟩
    have H4:=bU (zzT cF.out cV)
    clear cV
    go_wp2_with fail
    go_ret
    exact ⟨rfl,H4.out⟩
   ·have iw:¬ (l.length:Int)=0:=by omega
    have h0B:((l.length:Int) == 0)=false:=by simpa using iw
    have oY:IntKind.i64.wrap ((l.length:Int)-1)=((l.length-1:Nat):Int):=by rw [qD _ (by omega) (by omega)];omega
    have C4:=bU (cutPlay_any l (l.length-1) _ _ w3 iH (by omega) (by omega) (by omega))
    have HLA:=bU (follow_last nN.out (by omega))
    have HAL:=bU (fun x (hx:x∈l.take (l.length-1))=>HLM.out x (List.mem_of_mem_take hx))
    have HLE:=bU (vZ nN.out).choose_spec.2.2
    clear iH mr h0
    go_wp2_with fail
    refine C4.out.mono ?_
    rintro en w4 ⟨mv,pt,rfl,Ci,cV,hf4⟩
    obtain ⟨ah,hah⟩:=zzN (l.take (l.length-1))
    rw [hah] at Ci HLA HAL
    obtain ⟨a3,c3,e3⟩:=Ci.1.slice
    obtain ⟨a4,c4,e4⟩:=Ci.2.slice
    subst e3;subst e4
    obtain ⟨W5,ly,An,_,x9⟩:=kJ w4 (.cells #[.slice a3 ah.length c3,.slice a4 ah.length c4] 33)
    have rn:=zzT cV An
    have tF:=zzT H3.out rn
    have mB:=Ci.below An
    have K5:=bU (fun (y:World) (hy:Below W5.heap.size W5 y)=>(show (y.cell? ⟨w4.heap.size,0,none⟩=some (.slice a3 ah.length c3)/\y.cell? ⟨w4.heap.size,1,none⟩=some (.slice a4 ah.length c4))/\zC y ah (.slice a3 ah.length c3) (.slice a4 ah.length c4)/\Below W.heap.size W y from by
     obtain ⟨k0,k1,_,_⟩:=zJ ((hy.block _ (zZ x9)).trans x9)
     exact ⟨⟨k0,k1⟩,mB.below hy,zzT tF hy⟩))
    have HW5:=bU ly
    clear Ci cV hf4 hah ly An x9 rn tF mB C4 H3 e0 e1 oY
    obtain ⟨_,_,hBW⟩:=K5.out W5 (bP _ _)
    obtain ⟨⟨e0,e1⟩,mB,Ab,_⟩:=KEY.out W5 hBW
    have C5:=bU (CL.out W5 l _ _ mB HLM.out)
    rw [HLE.out] at C5
    clear mB Ab hBW
    go_upto_region 12 with (fail)
    rw [HW5.out]
    go_wp2_with fail
    (with_reducible refine C5.out.mono ?_)
    rintro en w6 ⟨rfl,b9⟩
    have H6:=bU b9
    clear b9 C5 e0 e1
    obtain ⟨⟨d0,d1⟩,hp6,Bp⟩:=K5.out w6 H6.out
    have C6:=bU (CF.out w6 (KEY.out w6 Bp).2.2.1 ah _ _ hp6 HAL.out)
    rw [HLA.out.1] at C6
    clear hp6 Bp
    go_wp2_with fail
    (with_reducible refine C6.out.mono ?_)
    rintro en w7 ⟨rfl,bh⟩
    have H7:=bU (zzT H6.out bh)
    clear bh C6 d0 d1
    obtain ⟨⟨d0,d1⟩,lG,dK⟩:=K5.out w7 H7.out
    have C7:=bU (CR.out w7 (KEY.out w7 dK).2.2.1 ah _ _ lG HAL.out)
    clear lG dK
    obtain ⟨r,hr⟩:=zzN (kX s text (ah.map (·.1)) (ah.map (·.2)))
    unfold PlQ at C7
    rw [hr] at C7
    have HR:=bU hr
    obtain ⟨u,hu⟩:=zzN (r.getD [])
    obtain ⟨q,hq⟩:=zzN (r.isSome)
    rw [hu,hq] at C7
    have HUQ:=bU (bY hu hq)
    clear hr hu hq
    go_wp2_with fail
    (with_reducible refine C7.out.mono ?_)
    rintro en w8 ⟨b1,d1',b2,d2',rfl,dg,hp8,rc⟩
    obtain ⟨W9,Bm,Am,_,x10⟩:=kJ w8 (.cells #[.slice b1 u.length d1',.slice b2 u.length d2'] 33)
    have D0:=zzT dg Am
    have H9:=bU (zzT H7.out D0)
    have HP9:=bU (hp8.below Am)
    have HW9:=bU Bm
    obtain ⟨g0,g1,_,_⟩:=zJ x10
    clear dg hp8 rc Bm Am x10 D0 C7 d0 d1
    obtain ⟨_,_,lr⟩:=K5.out W9 H9.out
    obtain ⟨⟨e0,e1⟩,hp9,_,Bk⟩:=KEY.out W9 lr
    have ET:=bU Bk
    clear lr Bk
    go_upto_region 15 with (fail)
    rw [HW9.out]
    have hmt:(l.length:Int).tmod 2=((l.length % 2:Nat):Int):=by rw [Int.tmod_eq_emod_of_nonneg (by omega)];omega
    obtain ⟨n2,di⟩:=zzN (l.length % 2)
    rw [di] at hmt
    rcases Nat.mod_two_eq_zero_or_one l.length with hev | hod
    ·obtain rfl:n2=0:=by omega
     have hrr:=HLA.out.2 hev
     rw [HR.out] at hrr
     subst hrr
     obtain ⟨hu,hq⟩:=HUQ.out
     have fa:l=u:=hu
     have hqt:q=true:=hq.symm
     subst hqt
     have C9:=bU (samePlay_any l _ _ _ _ W9 (by rw [fa];exact HP9.out) hp9 (by omega))
     clear hp9 hu hq fa hev di
     go_wp2_with fail
     (with_reducible refine C9.out.mono ?_)
     rintro en wa ⟨rfl,DX⟩
     have HA:=bU (zzT ET.out DX)
     clear DX
     go_wp2_with fail
     go_ret
     exact ⟨rfl,HA.out⟩
    ·obtain rfl:n2=1:=by omega
     clear hp9 hod di
     go_wp2_with fail
     go_ret
     exact ⟨rfl,ET.out⟩
end Go.Proofs.YtfedjhgaeikjmaaGreatDoor

/- Walks of functions that the statement reaches, and plain words. No conditions. -/
import Derived.Test.YtfedjhgaeikjmaaGreatDoorQ12
set_option linter.unusedVariables false
set_option linter.unusedSimpArgs false
set_option maxHeartbeats 16000000
namespace Go.Proofs.YtfedjhgaeikjmaaGreatDoor
open Go.RowKit
def FolD (B rd:Nat) (w:World) (en:Ending) (w':World):Prop :=
 ∃ (s text:Bs) (l:Pl) (a1:Option Addr) (c1:Nat) (a2:Option Addr) (c2:Nat),en=.returned (.tuple #[str s,str text,.agg #[.slice a1 l.length c1,.slice a2 l.length c2]])/\s.length<=100/\text.length<=100000/\But (· = rd) w w'/\zE w' l (.slice a1 l.length c1) (.slice a2 l.length c2)/\l.length<=60/\(∀ x∈l,Lim x.1.length) /\
   ∀ g,(Value.slice a1 l.length c1).ownBlock=some g\/(Value.slice a2 l.length c2).ownBlock=some g->B<=g
theorem yx {s text:Bs} {w W wz:World} {rd:Nat} {l:Pl} {ap aq:Option Addr} {cp cq:Nat} (hs:s.length<=100) (ht:text.length<=100000) (b9:Below w.heap.size w W) (hB:But (· = rd) W wz)
 (hx:wz.heap[w.heap.size]? = some (.cells #[.slice none 0 0,.slice none 0 0] 33 (0,0))) (cG:zE wz l (.slice ap l.length cp) (.slice aq l.length cq)) (hl:l.length<=60) (lH:∀ x∈l,Lim x.1.length)
 (hg:∀ g,(Value.slice ap l.length cp).ownBlock=some g\/(Value.slice aq l.length cq).ownBlock=some g->w.heap.size<=g) :
 FolD w.heap.size rd w (.returned (.tuple #[str s,str text,.agg #[.slice ap l.length cp,.slice aq l.length cq]])) ((wz.setCell ⟨w.heap.size,0,none⟩ (.slice ap l.length cp)).setCell ⟨w.heap.size,1,none⟩ (.slice aq l.length cq)):=by
 have cR:But (fun b=>b=w.heap.size) wz ((wz.setCell ⟨w.heap.size,0,none⟩ (.slice ap l.length cp)).setCell ⟨w.heap.size,1,none⟩ (.slice aq l.length cq)):=((But.refl (fun b=>b=w.heap.size) wz).setCell (p:=⟨w.heap.size,0,none⟩) (.inl rfl) _).setCell (p:=⟨w.heap.size,1,none⟩) (.inl rfl) _
 refine ⟨s,text,l,ap,cp,aq,cq,rfl,hs,ht,?_,cG.but cR (fun g dR=>cG.notBox hx (by decide) (by decide) g dR),hl,lH,hg⟩
 exact ((But.ofBelow b9).trans hB).trans' cR (fun i hi hm=>by omega)
theorem plays_in {s text:Bs} {n:Int} {L:List Pl} (h:qA s text n=some L):0<L.length/\L.length<=300/\∃ b,zN s text=some b/\zP (zV s).1<=15/\kE (zV s).1.args b/\wfB b/\∀ u∈L,uN (zV s).1 b u:=by
 obtain ⟨b,hb,h0,h8,rfl,al⟩:=playsOf_some h
 have hg:=(qL hb).1
 exact ⟨outAt_pos _ _ _,al,b,hb,hg.atoms,hg.fit,hg.wf,fun u hu=>(out_in hg.atoms hg.fit hg.wf ((n.toNat+1) / 2) (by omega) u hu).1⟩
theorem reply_in {s text:Bs} {b:Bd} {u r:Pl} (hb:zN s text=some b) (cJ:zP (zV s).1<=15) (hf:kE (zV s).1.args b) (hw:wfB b) (hu:uN (zV s).1 b u)
 (hr:kY s text (u.map (·.1)) (u.map (·.2))=some r):uN (zV s).1 b r:=by
 unfold kY at hr
 rw [hb] at hr
 simp only at hr
 rw [jZ] at hr
 unfold qT at hr
 split at hr
 ·rename_i hc
  simp only [Bool.and_eq_true,decide_eq_true_eq,List.length_map] at hc
  unfold qR at hr
  split at hr
  ·simp at hr
  ·rename_i dE
   rw [Option.map_eq_some_iff] at hr
   obtain ⟨x,hx,rfl⟩:=hr
   have:=za hu.ok
   exact j7 cJ hf hw hu hc.1.2 (by omega) hx
 ·simp at hr
set_option maxRecDepth 100000 in
theorem ph (rd P odd:Nat) (w:World) (h:kg w rd P) (hP:P+20000<=1099511627776) :
 Calls Tryz.prog 47 #[.pointer (some ⟨rd,0,none⟩),.int .i64 (odd:Nat)] w (FolD w.heap.size rd w):=by
 obtain ⟨W,hW,b9,hz,b0⟩:=kV w (.cells #[.slice none 0 0,.slice none 0 0] 33)
 have C1:=bz (l91Given_any rd P W (h.below b9) (by omega))
 have mj:=bz (bj h.lt hP)
 have HW:=bz (bj hW (bj b9 b0))
 clear hW b9 hz b0 h hP
 go_enter Tryz.func47,Tryz.ntmps47
 go_upto_region 1 with (fail)
 rw [HW.out.1]
 go_wp2_with fail
 (with_reducible refine C1.out.mono ?_)
 rintro en w1 ⟨s,text,rfl,hs,ht,bi,dj⟩
 have fS:=bz (bj hs ht)
 have CP:=bz (qd rd _ 3 w1 dj (by omega) (by omega) (by have:=mj.out;omega))
 have co:=bz bi
 clear hs ht bi dj C1
 go_wp2_with fail
 refine CP.out.mono ?_
 rintro en w2 ⟨v,rfl,hv,cK,de⟩
 have Ak:IntKind.i64.wrap (2*(v:Int))=2*(v:Int):=qV _ (by omega) (by omega)
 have rh:IntKind.i64.wrap (1+2*(v:Int))=1+2*(v:Int):=qV _ (by omega) (by omega)
 have CS:=bz (ui s text (1+2*(v:Int)) w2 (br fS.out.1 (by decide)) (br fS.out.2 (by decide)))
 have l5:=bz (fun L (h:qA s text (1+2*(v:Int))=some L)=>plays_in h)
 have H2:=bz (bj (co.out.trans cK) de)
 have iV:=bz (show rd<w2.heap.size by have h1:=mj.out.1;have h2:=HW.out.2.1.size;have h3:=H2.out.1.size;omega)
 clear cK de CP co
 go_wp2_with fail
 (with_reducible refine CS.out.mono ?_)
 rintro en w3 ⟨a,nl,c,us,rfl,cH,hN⟩
 have HZ:=bz (bj (H2.out.1.trans (But.ofBelow cH)) (H2.out.2.below cH))
 have W2S:=bz (show w.heap.size<=w2.heap.size by have h2:=HW.out.2.1.size;have h3:=H2.out.1.size;omega)
 cases ho:qA s text (1+2*(v:Int)) with
 | none =>
   clear Ak rh hN cH ho l5 CS H2
   go_simp
   obtain ⟨hbz,Dy⟩:=HZ.out
   have CT:=bz (v5 rd _ w3 Dy (by have:=mj.out;omega))
   clear hbz Dy
   go_wp2_with fail
   (with_reducible refine CT.out.mono ?_)
   rintro en wT ⟨sT,Dx,rfl,E_,DF⟩
   obtain ⟨tN,Am⟩:=xO Dx
   have CL:=bz (xe rd _ sT tN Am wT DF (by have:=mj.out;omega))
   have HT:=bz (HZ.out.1.trans E_)
   clear E_ DF tN Am Dx CT
   go_wp2_with fail
   (with_reducible refine CL.out.mono ?_)
   rintro en wL ⟨l,a1,c1,a2,c2,rfl,A7,_,DL,m7,nI,lN⟩
   have i7:=((HT.out.trans A7).block _ (zZ HW.out.2.2) (fun e=>by have:=mj.out;omega)).trans HW.out.2.2
   obtain ⟨q0,q1,q2,q3⟩:=zJ i7
   obtain ⟨r0,r1,_,_⟩:=zJ (qe i7 (.slice a1 l.length c1) (.slice a2 l.length c2))
   have HE:=bz (yx fS.out.1 fS.out.2 HW.out.2.1 (HT.out.trans A7) i7 DL m7 (fun x hx=>br (nI x hx) (by decide)) (fun g hg=>br (br HW.out.2.1.size HT.out.size) (lN g hg)))
   clear A7 DL m7 nI lN i7 HT CL
   go_wp2_with fail
   refine bodyPost_ret (v:=.tuple #[str s,str text,.agg #[.slice a1 l.length c1,.slice a2 l.length c2]]) (by simp [results,Tryz.results47,go_sem,r0,r1]) rfl ?_
   exact HE.out
 | some L =>
   obtain ⟨hL0,hL3,b,mW,cJ,hfb,hwb,cr⟩:=l5.out L ho
   rw [ho] at hN
   have HN:=bz (show NxR w2.heap.size L a nl c us w3 from hN)
   have BB:=bz (bj mW (bj cJ (bj hfb (bj hwb cr))))
   have iS:0<nl/\nl<=300:=by have:=hN.len;simp at this;omega
   have D0:¬ (nl:Int)=0:=by omega
   have hnlB:((nl:Int) == 0)=false:=by simpa using D0
   have CP:=bz (qd rd _ 10 w3 HZ.out.2 (by omega) (by omega) (by have:=mj.out;omega))
   have dY:=bz cH
   clear Ak rh hN cH ho l5 CS mW cJ hfb hwb cr
   go_wp2_with fail
   refine CP.out.mono ?_
   rintro en w4 ⟨v4,rfl,hv4,cm,rr⟩
   by_cases eZ:v4=0
   ·subst eZ
    have HZ:=bz (bj (HZ.out.1.trans cm) rr)
    clear cm rr CP H2
    obtain ⟨hbz,Dy⟩:=HZ.out
    have CT:=bz (v5 rd _ w4 Dy (by have:=mj.out;omega))
    clear hbz Dy
    go_wp2_with fail
    (with_reducible refine CT.out.mono ?_)
    rintro en wT ⟨sT,Dx,rfl,E_,DF⟩
    obtain ⟨tN,Am⟩:=xO Dx
    have CL:=bz (xe rd _ sT tN Am wT DF (by have:=mj.out;omega))
    have HT:=bz (HZ.out.1.trans E_)
    clear E_ DF tN Am Dx CT
    go_wp2_with fail
    (with_reducible refine CL.out.mono ?_)
    rintro en wL ⟨l,a1,c1,a2,c2,rfl,A7,_,DL,m7,nI,lN⟩
    have i7:=((HT.out.trans A7).block _ (zZ HW.out.2.2) (fun e=>by have:=mj.out;omega)).trans HW.out.2.2
    obtain ⟨q0,q1,q2,q3⟩:=zJ i7
    obtain ⟨r0,r1,_,_⟩:=zJ (qe i7 (.slice a1 l.length c1) (.slice a2 l.length c2))
    have HE:=bz (yx fS.out.1 fS.out.2 HW.out.2.1 (HT.out.trans A7) i7 DL m7 (fun x hx=>br (nI x hx) (by decide)) (fun g hg=>br (br HW.out.2.1.size HT.out.size) (lN g hg)))
    clear A7 DL m7 nI lN i7 HT CL
    go_wp2_with fail
    refine bodyPost_ret (v:=.tuple #[str s,str text,.agg #[.slice a1 l.length c1,.slice a2 l.length c2]]) (by simp [results,Tryz.results47,go_sem,r0,r1]) rfl ?_
    exact HE.out
   ·have h40I:¬ (v4:Int)=0:=by omega
    have h40B:((v4:Int) == 0)=false:=by simpa using h40I
    have H4:=bz (bj cm (bj (HZ.out.1.trans cm) rr))
    clear cm rr CP H2
    obtain ⟨mm,tr⟩:=zzN (min 250 nl)
    have Ec:0<mm/\mm<=nl/\mm<=250:=by omega
    have HMI:=bz (show min 250 (nl:Int)=(mm:Int) by omega)
    have F9:=bz (qd rd _ mm w4 H4.out.2.2 Ec.1 (by omega) (by have:=mj.out;omega))
    clear tr
    go_wp2_with fail
    rw [HMI.out]
    refine F9.out.mono ?_
    rintro en w5 ⟨vi,rfl,mY,cz,mG⟩
    have hviI:(vi:Int)<(nl:Int):=by omega
    have A_:=H4.out.1.trans cz
    have fg:=HN.out.rd.ul
    have eC:=HN.out.len
    have Ar:=iV.out
    have FJ:=dY.out.size
    have h35:=A_.size
    obtain ⟨u,hu⟩:∃ u,us[vi]? = some u:=⟨_,List.getElem?_eq_getElem (by omega)⟩
    obtain ⟨l2,rN⟩:∃ x,L[vi]? = some x:=⟨_,List.getElem?_eq_getElem (by omega)⟩
    have tP:NxR w2.heap.size L a nl c us w5:=⟨eC,jL.but HN.out.pls A_ (fun b hb e=>by have h1:=HN.out.new b hb;omega),HN.out.new⟩
    obtain ⟨gl,cl,el,k1,k2⟩:=jL.cells tP.pls hu
    have nW:=tP.rd.each vi u l2 hu rN
    have be:=fun g (hg:u.1.ownBlock=some g\/u.2.ownBlock=some g)=>tP.new g (.inr ⟨u,List.mem_of_getElem? hu,hg⟩)
    have lD:=BB.out.2.2.2.2 l2 (List.mem_of_getElem? rN)
    simp only [Value.slice.injEq] at el
    obtain ⟨rfl,_,rfl⟩:=el
    obtain ⟨mv,pt⟩:=u
    obtain ⟨a8,c8,e8⟩:=nW.1.slice
    obtain ⟨a9,c9,e9⟩:=nW.2.slice
    change mv=_ at e8
    change pt=_ at e9
    subst e8;subst e9
    obtain ⟨W6,hW6,A9,_,ry⟩:=kV w5 (.cells #[.slice a8 l2.length c8,.slice a9 l2.length c9] 33)
    have Bn:But (· = rd) W W6:=(H4.out.2.1.trans cz).trans (But.ofBelow A9)
    have x6:=(Bn.block _ (zZ HW.out.2.2) (fun e=>by have:=mj.out;omega)).trans HW.out.2.2
    have dE:=za lD.ok
    have hlim:=vM BB.out.2.1 lD.ok
    have hww:w.heap.size<=w2.heap.size:=by have h2:=HW.out.2.1.size;have h3:=H4.out.2.1.size;have h4:=W2S.out;omega
    have H6:=bz (bj Bn (bj x6 (bj ry (bj (nW.below A9) (bj dE (bj hlim (bj (fun g hg=>br hww (be g hg)) (bj hW6 lD))))))))
    clear cz mG A_ fg eC Ar FJ h35 hu rN tP nW be lD A9 ry Bn x6 dE hlim hww F9 hW6 HN HZ dY H4
    go_upto_region 6 with (fail)
    rw [H6.out.2.2.2.2.2.2.2.1]
    obtain ⟨s0,s1,_,_⟩:=zJ H6.out.2.2.1
    by_cases hod:odd=1
    ·have tp:(odd:Int)=1:=by omega
     have hodB:((odd:Int) == 1)=true:=by simpa using tp
     clear hod tp s0 s1
     obtain ⟨q0,q1,q2,q3⟩:=zJ (show W6.drew.heap[w.heap.size]? = _ from H6.out.2.1)
     obtain ⟨p0,p1,_,_⟩:=zJ (show W6.drew.heap[w5.heap.size]? = _ from H6.out.2.2.1)
     obtain ⟨r0,r1,_,_⟩:=zJ (qe (show W6.drew.heap[w.heap.size]? = _ from H6.out.2.1) (.slice a8 l2.length c8) (.slice a9 l2.length c9))
     have HE:=bz (yx fS.out.1 fS.out.2 HW.out.2.1 (H6.out.1).drew (show W6.drew.heap[w.heap.size]? = _ from H6.out.2.1) (show zE W6.drew l2 _ _ from H6.out.2.2.2.1) H6.out.2.2.2.2.1 H6.out.2.2.2.2.2.1 H6.out.2.2.2.2.2.2.1)
     obtain ⟨y0,dH⟩:=zzN (W6.drew)
     rw [dH] at q0 q1 q2 q3 p0 p1 r0 r1 HE
     go_upto_region 7 with (fail)
     refine wp_region_noPanic ?_
     refine zW (fun w'=>w'=y0) (fun i=>decide (5<=i)) (by kernel_rfl) ?_
     have cZ:(fun w'=>w'=y0) W6.drew:=dH
     refine tk [0,1,2] cZ ?_
     (intro d hd;simp [tkD] at hd;subst hd;simp only [tks,pQ,pZ,pS])
     iterate 3 (refine ⟨?_,?_,?_⟩;rotate_left;· (intro oi ho;simp at ho;subst ho;refine Or.inl ⟨by rfl,fun w' b_=>?_⟩;obtain rfl:w'=y0:=b_;go_simp;try with_reducible rfl))
     (refine on 3 ?_;intro o ho K' hK;simp at ho;subst ho;go_simp)
     (refine hK.out _ _ (fun _=>rfl) ?_;clear hK K';try simp only [pQ,pN,pZ,pS])
     (refine on 4 ?_;intro o ho K' hK;simp at ho;subst ho;go_simp)
     (refine hK.out _ _ (fun _=>rfl) ?_;clear hK K';try simp only [pQ,pN,pZ,pS])
     (refine on 5 ?_;intro o ho K' hK;simp at ho;subst ho;go_simp)
     (refine hK.out _ _ (fun h=>by simp at h) ?_;clear hK K';try simp only [pQ,pN,pZ,pS])
     refine zU (by kernel_rfl) (NoPanic.normal ?_) _
     go_wp2_with fail
     refine bodyPost_ret (v:=.tuple #[str s,str text,.agg #[.slice a8 l2.length c8,.slice a9 l2.length c9]]) (by simp [results,Tryz.results47,go_sem,r0,r1]) rfl ?_
     exact HE.out
    ·have tp:¬ (odd:Int)=1:=by omega
     have hodB:((odd:Int) == 1)=false:=by simpa using tp
     by_cases h0:l2.length=0
     ·have h0B:((l2.length:Int) == 0)=true:=by rw [h0];rfl
      have HH0:=bz h0
      clear h0
      obtain ⟨q0,q1,q2,q3⟩:=zJ (show W6.drew.heap[w.heap.size]? = _ from H6.out.2.1)
      obtain ⟨p0,p1,_,_⟩:=zJ (show W6.drew.heap[w5.heap.size]? = _ from H6.out.2.2.1)
      obtain ⟨r0,r1,_,_⟩:=zJ (qe (show W6.drew.heap[w.heap.size]? = _ from H6.out.2.1) (.slice a8 l2.length c8) (.slice a9 l2.length c9))
      have HE:=bz (yx fS.out.1 fS.out.2 HW.out.2.1 (H6.out.1).drew (show W6.drew.heap[w.heap.size]? = _ from H6.out.2.1) (show zE W6.drew l2 _ _ from H6.out.2.2.2.1) H6.out.2.2.2.2.1 H6.out.2.2.2.2.2.1 H6.out.2.2.2.2.2.2.1)
      obtain ⟨y0,dH⟩:=zzN (W6.drew)
      rw [dH] at q0 q1 q2 q3 p0 p1 r0 r1 HE
      go_upto_region 7 with (fail)
      refine wp_region_noPanic ?_
      refine zW (fun w'=>w'=y0) (fun i=>decide (5<=i)) (by kernel_rfl) ?_
      have cZ:(fun w'=>w'=y0) W6.drew:=dH
      refine tk [0,1,2] cZ ?_
      (intro d hd;simp [tkD] at hd;subst hd;simp only [tks,pQ,pZ,pS])
      iterate 3 (refine ⟨?_,?_,?_⟩;rotate_left;· (intro oi ho;simp at ho;subst ho;refine Or.inl ⟨by rfl,fun w' b_=>?_⟩;obtain rfl:w'=y0:=b_;go_simp;try with_reducible rfl))
      (refine on 3 ?_;intro o ho K' hK;simp at ho;subst ho;go_simp)
      (refine hK.out _ _ (fun _=>rfl) ?_;clear hK K';try simp only [pQ,pN,pZ,pS])
      (refine on 4 ?_;intro o ho K' hK;simp at ho;subst ho;go_simp)
      (refine hK.out _ _ (fun _=>rfl) ?_;clear hK K';try simp only [pQ,pN,pZ,pS])
      (refine on 5 ?_;intro o ho K' hK;simp at ho;subst ho;go_simp)
      (refine hK.out _ _ (fun h=>by simp at h) ?_;clear hK K';try simp only [pQ,pN,pZ,pS])
      refine zU (by kernel_rfl) (NoPanic.normal ?_) _
      go_wp2_with fail
      refine bodyPost_ret (v:=.tuple #[str s,str text,.agg #[.slice a8 l2.length c8,.slice a9 l2.length c9]]) (by simp [results,Tryz.results47,go_sem,r0,r1]) rfl ?_
      exact HE.out
     ·have h0I:¬ (l2.length:Int)=0:=by omega
      have h0B:((l2.length:Int) == 0)=false:=by simpa using h0I
      have CR:=bz (jr (fun _=>True) s text _ _ (l2.map (·.1)) (l2.map (·.2)) W6 (br fS.out.1 (by decide)) (br fS.out.2 (by decide)) (zE.mv (F:=fun _=>True) H6.out.2.2.2.1 (fun _ _=>trivial)).1.ms (zE.mv (F:=fun _=>True) H6.out.2.2.2.1 (fun _ _=>trivial)).2.ps (fun x hx=>by
       obtain ⟨y,hy,rfl⟩:=List.mem_map.1 hx
       exact H6.out.2.2.2.2.2.1 y hy))
      obtain ⟨r,hr⟩:=zzN ((kY s text (l2.map (·.1)) (l2.map (·.2))).getD [])
      obtain ⟨q,hq⟩:=zzN ((kY s text (l2.map (·.1)) (l2.map (·.2))).isSome)
      have HRI:Hid (q=true->r.length<=60/\∀ x∈r,Lim x.1.length):=bz fun hqt=>by
       cases hro:kY s text (l2.map (·.1)) (l2.map (·.2)) with
       | none=>rw [hro] at hq;subst hqt;simp at hq
       | some r' =>
         rw [hro] at hr
         obtain rfl:r'=r:=hr
         have h1:=reply_in BB.out.1 BB.out.2.1 BB.out.2.2.1 BB.out.2.2.2.1 H6.out.2.2.2.2.2.2.2.2 hro
         exact ⟨za h1.ok,vM BB.out.2.1 h1.ok⟩
      unfold PlQ at CR
      rw [hr,hq] at CR
      clear hr hq
      go_upto_region 8 with (fail)
      go_wp2_with fail
      (with_reducible refine CR.out.mono ?_)
      rintro en w7 ⟨b1,d1,b2,d2,rfl,cP,oM,ch⟩
      obtain ⟨W8,rq,fl,_,iw⟩:=kV w7 (.cells #[.slice b1 r.length d1,.slice b2 r.length d2] 33)
      have aL:=zzT cP fl
      have H8:=bz (bj (H6.out.1.trans (But.ofBelow aL)) (bj ((aL.block _ (zZ H6.out.2.1)).trans H6.out.2.1) (bj ((aL.block _ (zZ H6.out.2.2.1)).trans H6.out.2.2.1) (bj (H6.out.2.2.2.1.below aL) (bj iw (bj (oM.below fl) (bj (fun g hg=>(show w.heap.size<=g from br (show w.heap.size<=W6.heap.size by have h2:=HW.out.2.1.size;have h3:=H6.out.1.size;omega) (ch g hg))) rq)))))))
      clear cP oM ch fl iw aL rq s0 s1 CR h0 h0I hod tp
      go_upto_region 9 with (fail)
      rw [H8.out.2.2.2.2.2.2.2]
      cases q with
      | true =>
        have hri:=HRI.out rfl
        have HRR:=bz hri
        clear hri
        obtain ⟨q0,q1,q2,q3⟩:=zJ (show W8.drew.heap[w.heap.size]? = _ from H8.out.2.1)
        obtain ⟨p0,p1,_,_⟩:=zJ (show W8.drew.heap[w7.heap.size]? = _ from H8.out.2.2.2.2.1)
        obtain ⟨r0,r1,_,_⟩:=zJ (qe (show W8.drew.heap[w.heap.size]? = _ from H8.out.2.1) (.slice b1 r.length d1) (.slice b2 r.length d2))
        have HE:=bz (yx fS.out.1 fS.out.2 HW.out.2.1 (H8.out.1).drew (show W8.drew.heap[w.heap.size]? = _ from H8.out.2.1) (show zE W8.drew r _ _ from H8.out.2.2.2.2.2.1) HRR.out.1 HRR.out.2 H8.out.2.2.2.2.2.2.1)
        obtain ⟨y0,dH⟩:=zzN (W8.drew)
        rw [dH] at q0 q1 q2 q3 p0 p1 r0 r1 HE
        go_upto_region 10 with (fail)
        refine wp_region_noPanic ?_
        refine zW (fun w'=>w'=y0) (fun i=>decide (5<=i)) (by kernel_rfl) ?_
        have cZ:(fun w'=>w'=y0) W8.drew:=dH
        refine tk [0,1,2] cZ ?_
        (intro d hd;simp [tkD] at hd;subst hd;simp only [tks,pQ,pZ,pS])
        iterate 3 (refine ⟨?_,?_,?_⟩;rotate_left;· (intro oi ho;simp at ho;subst ho;refine Or.inl ⟨by rfl,fun w' b_=>?_⟩;obtain rfl:w'=y0:=b_;go_simp;try with_reducible rfl))
        (refine on 3 ?_;intro o ho K' hK;simp at ho;subst ho;go_simp)
        (refine hK.out _ _ (fun _=>rfl) ?_;clear hK K';try simp only [pQ,pN,pZ,pS])
        (refine on 4 ?_;intro o ho K' hK;simp at ho;subst ho;go_simp)
        (refine hK.out _ _ (fun _=>rfl) ?_;clear hK K';try simp only [pQ,pN,pZ,pS])
        (refine on 5 ?_;intro o ho K' hK;simp at ho;subst ho;go_simp)
        (refine hK.out _ _ (fun h=>by simp at h) ?_;clear hK K';try simp only [pQ,pN,pZ,pS])
        refine zU (by kernel_rfl) (NoPanic.normal ?_) _
        go_wp2_with fail
        refine bodyPost_ret (v:=.tuple #[str s,str text,.agg #[.slice b1 r.length d1,.slice b2 r.length d2]]) (by simp [results,Tryz.results47,go_sem,r0,r1]) rfl ?_
        exact HE.out
      | false =>
        obtain ⟨q0,q1,q2,q3⟩:=zJ (show W8.drew.heap[w.heap.size]? = _ from H8.out.2.1)
        obtain ⟨p0,p1,_,_⟩:=zJ (show W8.drew.heap[w5.heap.size]? = _ from H8.out.2.2.1)
        obtain ⟨r0,r1,_,_⟩:=zJ (qe (show W8.drew.heap[w.heap.size]? = _ from H8.out.2.1) (.slice a8 l2.length c8) (.slice a9 l2.length c9))
        have HE:=bz (yx fS.out.1 fS.out.2 HW.out.2.1 (H8.out.1).drew (show W8.drew.heap[w.heap.size]? = _ from H8.out.2.1) (show zE W8.drew l2 _ _ from H8.out.2.2.2.1) H6.out.2.2.2.2.1 H6.out.2.2.2.2.2.1 H6.out.2.2.2.2.2.2.1)
        obtain ⟨y0,dH⟩:=zzN (W8.drew)
        rw [dH] at q0 q1 q2 q3 p0 p1 r0 r1 HE
        go_upto_region 11 with (fail)
        refine wp_region_noPanic ?_
        refine zW (fun w'=>w'=y0) (fun i=>decide (5<=i)) (by kernel_rfl) ?_
        have cZ:(fun w'=>w'=y0) W8.drew:=dH
        refine tk [0,1,2] cZ ?_
        (intro d hd;simp [tkD] at hd;subst hd;simp only [tks,pQ,pZ,pS])
        iterate 3 (refine ⟨?_,?_,?_⟩;rotate_left;· (intro oi ho;simp at ho;subst ho;refine Or.inl ⟨by rfl,fun w' b_=>?_⟩;obtain rfl:w'=y0:=b_;go_simp;try with_reducible rfl))
        (refine on 3 ?_;intro o ho K' hK;simp at ho;subst ho;go_simp)
        (refine hK.out _ _ (fun _=>rfl) ?_;clear hK K';try simp only [pQ,pN,pZ,pS])
        (refine on 4 ?_;intro o ho K' hK;simp at ho;subst ho;go_simp)
        (refine hK.out _ _ (fun _=>rfl) ?_;clear hK K';try simp only [pQ,pN,pZ,pS])
        (refine on 5 ?_;intro o ho K' hK;simp at ho;subst ho;go_simp)
        (refine hK.out _ _ (fun h=>by simp at h) ?_;clear hK K';try simp only [pQ,pN,pZ,pS])
        refine zU (by kernel_rfl) (NoPanic.normal ?_) _
        go_wp2_with fail
        refine bodyPost_ret (v:=.tuple #[str s,str text,.agg #[.slice a8 l2.length c8,.slice a9 l2.length c9]]) (by simp [results,Tryz.results47,go_sem,r0,r1]) rfl ?_
        exact HE.out

theorem wZ {s text:Bs} {u:Pl} (h:jT s text (u.map (·.1)) (u.map (·.2))=true):∃ b,zN s text=some b/\uN (zV s).1 b u/\ke s (u.map (·.1)) (u.map (·.2))=true:=by
 unfold jT at h
 cases hb:zN s text with
 | none=>rw [hb] at h;simp at h
 | some b =>
   rw [hb] at h
   simp only [Bool.and_eq_true,decide_eq_true_eq,jZ] at h
   have h1:=(jt (vy h.1)).2.1
   have h2:=h.1
   unfold ke at h2
   rw [Bool.and_eq_true,jZ] at h2
   rw [jZ] at h1
   exact ⟨b,rfl,⟨h1,h2.2,h.2⟩,h.1⟩
theorem row8_below {w w':World} {a:Option Addr} {len cap:Nat} {zs:List Int} (h:Row8 w a len cap zs) (hb:Below w.heap.size w w'):Row8 w' a len cap zs:=by
 rcases h with h | ⟨x,h1,h2,h3,h4,h5,h6⟩
 ·exact .inl h
 ·exact .inr ⟨x,h1,h2,h3,h4,fun i hi=>(hb.cell (bp _ _ (h5 i hi))).trans (h5 i hi),h6⟩
def yi:Nat->List Nat->Int->Int
 | _,[],_=>-1
 | k,n::l,z=>if (n:Int)=z then (k:Int) else yi (k+1) l z
def y9 (l:List Nat) (z:Int):Int:=yi 0 l z
def idxN (l:List Nat) (n:Nat):Nat:=(y9 l n).toNat
theorem idxG_app:∀ (xs ys:List Nat) (k:Nat) (z:Int),(∀ e∈ys,(e:Int)≠z)->yi k (xs++ys) z=yi k xs z
 | [],ys,k,z,h=>by
   rw [List.nil_append,yi]
   induction ys generalizing k with
   | nil=>rfl
   | cons y ys ih=>rw [yi,if_neg (h y (by simp)),ih (k+1) (fun e he=>h e (by simp [he]))]
 | x::xs,ys,k,z,h=>by
   rw [List.cons_append,yi,yi,idxG_app xs ys (k+1) z h]
theorem h_ {xs ys:List Nat} {z:Int} (h:∀ e∈ys,(e:Int)≠z):y9 (xs++ys) z=y9 xs z:=idxG_app xs ys 0 z h
theorem idxG_new:∀ (xs ys:List Nat) (k n:Nat),n ∉ xs->yi k (xs++n::ys) (n:Int)=((k+xs.length:Nat):Int)
 | [],ys,k,n,_=>by rw [List.nil_append,yi,if_pos rfl];simp
 | x::xs,ys,k,n,h=>by
   rw [List.cons_append,yi,if_neg (fun e=>h (by rw [Int.ofNat.inj e];simp)),idxG_new xs ys (k+1) n (fun e=>h (by simp [e])),List.length_cons]
   congr 1;omega
theorem idxF_new {xs ys:List Nat} {n:Nat} (h:n ∉ xs):y9 (xs++n::ys) (n:Int)=(xs.length:Int):=by
 unfold y9;rw [idxG_new xs ys 0 n h,Nat.zero_add]
theorem idxG_mem:∀ (xs:List Nat) (k n:Nat),n∈xs->∃ i,yi k xs (n:Int)=((k+i:Nat):Int)/\i<xs.length
 | [],_,_,h=>by simp at h
 | x::xs,k,n,h=>by
   rw [yi]
   by_cases e:(x:Int)=(n:Int)
   ·rw [if_pos e];exact ⟨0,rfl,by simp⟩
   ·rw [if_neg e]
    have h':n∈xs:=by
     rcases List.mem_cons.1 h with h | h
     ·exact absurd (by rw [h]) e
     ·exact h
    obtain ⟨i,h1,h2⟩:=idxG_mem xs (k+1) n h'
    exact ⟨i+1,by rw [h1];congr 1;omega,by rw [List.length_cons];omega⟩
theorem idxF_mem {xs:List Nat} {n:Nat} (h:n∈xs):∃ i:Nat,y9 xs (n:Int)=(i:Int)/\i<xs.length:=by
 obtain ⟨i,h1,h2⟩:=idxG_mem xs 0 n h
 exact ⟨i,by unfold y9;rw [h1,Nat.zero_add],h2⟩
def vu (v:Pl) (l:List Nat) (i:Nat):Bs×Int:=match v[i]? with
 | some x=>(x.1,y9 l x.2)
 | none=>([],-1)
def kX (v:Pl) (l:List Nat):Pl:=l.map (vu v l)
theorem jy {v:Pl} {l:List Nat} {i:Nat} {x:Bs×Int} (h:v[i]? = some x):vu v l i=(x.1,y9 l x.2):=by unfold vu;rw [h]
def pD (f:Nat->Nat) (s:St):St:=(s.1,s.2.1.map fun pl=>(f pl.1,pl.2),(f s.2.2.1,s.2.2.2))
theorem told_map (f:Nat->Nat) (s:St):qM (pD f s)=(qM s).map fun x=>(x.1,((f x.2.toNat:Nat):Int)):=by
 obtain ⟨b,lv,bg⟩:=s
 cases b with
 | leaf c =>
   simp only [qM,pD]
   split
   ·rfl
   ·simp
 | ask l ss y n =>
   simp only [qM,pD,List.getElem?_map,Option.map_map]
   cases lv[l]? with
   | none=>rfl
   | some pl=>simp
theorem gg (f:Nat->Nat) (m b:Nat) (p:Bs):(zh m b p).map (fun pl=>(f pl.1,pl.2))=zh m (f b) p:=by
 simp [zh,Function.comp_def]
theorem step_map {t:Ty} {s s':St} {m:Bs} {k:Nat} {f g:Nat->Nat} (h:vr t s m k=some s') (hl:∀ pl∈s.2.1,g pl.1=f pl.1) (hb:g s.2.2.1=f s.2.2.1):vr t (pD f s) m (g k)=some (pD g s'):=by
 obtain ⟨b,lv,bg⟩:=s
 have dd:lv.map (fun pl=>(f pl.1,pl.2))=lv.map (fun pl=>(g pl.1,pl.2)):=List.map_congr_left fun pl hp=>by rw [hl pl hp]
 have hb:g bg.1=f bg.1:=hb
 cases b with
 | leaf c=>simp [vr] at h
 | ask l ss y n=>cases m with
   | nil=>simp [vr] at h
   | cons c p =>
     simp only [vr,pD] at h ⊢
     by_cases hc:c=113
     ·rw [if_pos hc] at h ⊢
      rw [Option.map_eq_some_iff] at h
      obtain ⟨d,hd,rfl⟩:=h
      rw [hd,Option.map_some]
      simp only [List.map_append,gg,dd]
     ·rw [if_neg hc] at h ⊢
      obtain rfl:=Option.some.inj h
      simp only [dd,hb]
theorem view_last (v:Pl) (o:Bool) (n:Nat):n∈zd v o (n+1):=by
 unfold zd
 rw [kB,List.mem_reverse]
 exact List.mem_cons_self
theorem viewD_lt (v:Pl) (o:Bool) {t:Ty} (hv:zO t v=true):∀ (f n:Nat),n<=v.length->∀ i∈qS v o f n,i<n
 | 0,n,_,i,h=>by rw [qS] at h;simp at h
 | f+1,0,_,i,h=>by rw [jK] at h;simp at h
 | f+1,n+1,hn,i,h=>by
   rw [kB] at h
   have hb:=wo hv o (n:=n) (by omega)
   rcases List.mem_cons.1 h with h | h
   ·omega
   ·have:=viewD_lt v o hv f _ (by omega) i h;omega
theorem view_lt {t:Ty} {v:Pl} (hv:zO t v=true) {o:Bool} {n:Nat} (hn:n<=v.length) {i:Nat} (h:i∈zd v o n):i<n:=by
 unfold zd at h
 exact viewD_lt v o hv n n hn i (List.mem_reverse.1 h)
structure PartIn (t:Ty) (b:Bd) (v:Pl) (k:Nat) (s:St):Prop where
 pl:kN t b v (k+1)=some s
 odd:(zd v false (k+1)).length % 2=1
 len:(zd v false (k+1)).length<=k+1
 ins:uN t b (kX v (zd v false (k+1)))
 at':kN t b (kX v (zd v false (k+1))) (zd v false (k+1)).length=some (pD (idxN (zd v false (k+1))) s)
theorem ja (v:Pl) (l:List Nat):(kX v l).length=l.length:=by simp [kX]
theorem part_in {t:Ty} {b:Bd} {v:Pl} (cJ:zP t<=15) (hf:kE t.args b) (hw:wfB b) (hv:zO t v=true) (hl:qO v=true) (k:Nat):k<v.length->k % 2=0->zj t b v k->∃ s,PartIn t b v k s:=by
 induction k using Nat.strongRecOn with
 | _ k ih =>
   intro hk he dF
   rcases Nat.eq_zero_or_pos k with h0 | h0
   ·subst h0
    obtain ⟨c,p,z,nE,ho⟩:=kQ hv hk
    obtain ⟨rfl,rfl,rfl⟩:=ho.zero rfl
    have fp:=yZ hv hk
    have hu:kX v [0]=[([113],-1)]:=by
     unfold kX
     rw [List.map_cons,jy nE]
     rfl
    have cD:q_ t [([113],-1)] 0=true:=by
     unfold q_
     show (qm t [113] && (kG [113] == decide (0 % 2=0)) && _)=true
     have:qm t [113]=true:=by simp [qm,jk]
     rw [this]
     rfl
    have dr:zO t [([113],-1)]=true:=by
     unfold zO
     show (decide (1<=60) && (qQ t _ 0 && q_ t _ 0))=true
     rw [cD];rfl
    refine ⟨vL t b,qb t b v,by rw [fp];rfl,by rw [fp];exact bw 1,?_,?_⟩
    ·rw [fp,hu]
     refine ⟨dr,rfl,fun i hi ho=>?_⟩
     have hi:i<1:=hi
     omega
    ·rw [fp,hu]
     show kN t b _ 1=_
     rw [qb]
     have e:idxN [0] 0=0:=rfl
     unfold pD vL
     simp only [gg,e]
   ·obtain ⟨c,p,z',ho,cD⟩:=opp_mv hv hk he h0
    have cQ:=ho.lt
    have eN:=ho.odd
    obtain ⟨z,rfl⟩:∃ z,z'=z+1:=⟨z'-1,by omega⟩
    obtain ⟨s0,hP⟩:=ih z (by omega) (by omega) (by omega) (fun i hi h=>dF i (by omega) h)
    obtain ⟨s,hand,iM,_,cr⟩:=gc cJ hf hw hv hl z (by omega) (by omega) (fun i hi h=>dF i (by omega) h)
    obtain rfl:s0=s:=Option.some.inj (hP.pl.symm.trans iM)
    clear iM
    obtain ⟨s',dy,DI,hst',_⟩:=gc cJ hf hw hv hl k hk he dF
    have dE:=za hv
    obtain ⟨x,hx,rZ⟩:=ho.en
    have hr:=dF (z+1) (by omega) eN
    have lU:=hr
    unfold z_ at hr
    rw [hP.pl,Option.bind_some,hx] at hr
    obtain ⟨m1,p1⟩:=x
    obtain ⟨c1,q1,z1,mX,oR⟩:=kQ hv (show z+1<v.length by omega)
    rw [hx] at mX
    simp only [Option.some.injEq,Prod.mk.injEq] at mX
    obtain ⟨e1,rfl⟩:=mX
    obtain ⟨n1,rfl⟩:∃ n:Nat,p1=(n:Int):=⟨p1.toNat,by have:=(oR.pos (by omega)).1;omega⟩
    have hxq:m1=qt (c::p):=rZ
    have nZ:kG m1=false:=by rw [e1,oR.opp];exact decide_eq_false (by omega)
    have rM:n1∈zd v false (z+1):=by
     have h1:=visP_at hl (show z+1<v.length by omega)
     rw [uU hx (by omega),nZ,List.contains_iff_mem,List.mem_map] at h1
     obtain ⟨j,hj,e⟩:=h1
     obtain rfl:j=n1:=by omega
     exact hj
    obtain ⟨j1,hj1,hj1l⟩:=idxF_mem rM
    have dL:=xW hv hk ho (by rw [cD.opp];simp [he])
    obtain ⟨vw,fp⟩:=zzM (zd v false (z+1))
    have dT:∀ i∈vw,i<z+1:=fun i hi=>by rw [fp] at hi;exact view_lt hv (by omega) hi
    obtain ⟨hP1,hP2,hP3,hP4,hP5⟩:=hP
    rw [<- fp] at rM hj1 hj1l dL hP2 hP3 hP4 hP5
    have hu0:=ja v vw
    have Dw:∀ i∈vw,vu v (vw++[z+1,k]) i=vu v vw i:=fun i hi=>by
     have oq:=dT i hi
     obtain ⟨ci,pi,zi,mY,hoi⟩:=kQ hv (show i<v.length by omega)
     rw [jy mY,jy mY,h_ fun e he=>?_]
     have:zi<(i:Int)\/zi = -1:=by
      rcases Nat.eq_zero_or_pos i with h | h
      ·exact .inr (hoi.zero h).2.2
      ·exact .inl (hoi.pos h).2.1
     simp only [List.mem_cons,List.not_mem_nil,or_false] at he
     rcases he with rfl | rfl <;> omega
    have hz1n:z+1 ∉ vw:=fun h=>by have:=dT _ h;omega
    have tJ:k ∉ vw++[z+1]:=fun h=>by
     rcases List.mem_append.1 h with h | h
     ·have:=dT _ h;omega
     ·simp at h;omega
    have hpz:vu v (vw++[z+1,k]) (z+1)=(m1,(j1:Int)):=by
     rw [jy hx,h_ fun e he=>?_,hj1]
     have:=dT _ rM
     simp only [List.mem_cons,List.not_mem_nil,or_false] at he
     rcases he with rfl | rfl <;> omega
    have dN:vu v (vw++[z+1,k]) k=(c::p,(vw.length:Int)):=by
     rw [jy ho.at']
     show (c::p,y9 (vw++(z+1)::[k]) ((z+1:Nat):Int))=_
     rw [idxF_new hz1n]
    have hu:kX v (vw++[z+1,k])=kX v vw++[(m1,(j1:Int))]++[(c::p,(vw.length:Int))]:=by
     have e0:vw.map (vu v (vw++[z+1,k]))=vw.map (vu v vw):=List.map_congr_left Dw
     unfold kX
     rw [List.map_append,List.map_cons,List.map_cons,List.map_nil,hpz,dN,e0]
     simp
    obtain ⟨u0,hU0⟩:=zzM (kX v vw)
    rw [<- hU0] at hP4 hP5 hu hu0
    have fd:z_ t b u0 u0.length=some (m1,(j1:Int)):=by
     unfold z_
     rw [hu0,hP5,Option.bind_some,told_map,hr,Option.map_some,Int.toNat_natCast]
     unfold idxN
     rw [hj1,Int.toNat_natCast]
    have Co:=j7 cJ hf hw hP4 (by omega) (by omega) fd
    obtain ⟨u1,Cl⟩:=zzM (u0++[(m1,(j1:Int))])
    have iE:u1.length=vw.length+1:=by rw [Cl,List.length_append,List.length_singleton,hu0]
    have oS:u1[vw.length]? = some (m1,(j1:Int)):=by rw [Cl,<- hu0];exact uX u0 _
    rw [<- Cl] at Co hu
    have r8:=uX u1 (c::p,(vw.length:Int))
    have aI:(u1++[(c::p,(vw.length:Int))])[vw.length]? = some (m1,(j1:Int)):=by rw [vt (by omega)];exact oS
    obtain ⟨_,_,cE,_⟩:=cD.pos h0
    have tw:kG (c::p)=true:=by rw [cD.opp];exact decide_eq_true he
    have hok2:q_ t (u1++[(c::p,(vw.length:Int))]) u1.length=true:=by
     unfold q_
     rw [r8]
     simp only
     obtain ⟨a,hat⟩:=cD.hp
     rw [if_neg (by omega),tw,show qm t (c::p)=true from by
      simp only [qm,hat];rcases cD.hc with h | h | h <;> rw [h] <;> rfl,Int.toNat_natCast,aI]
     have e1:decide (u1.length % 2=0)=true:=decide_eq_true (by omega)
     have e2:((c::p) == [113])=false:=by
      cases hh:((c::p) == [113]) with
      | false=>rfl
      | true=>exact absurd (by simpa using hh) cE
     have e3:decide ((0:Int)<=(vw.length:Int))=true:=decide_eq_true (by omega)
     have e4:decide ((vw.length:Int)<(u1.length:Int))=true:=decide_eq_true (by omega)
     rw [e1,e2,e3,e4,hxq]
     simp
    have dr:zO t (u1++[(c::p,(vw.length:Int))])=true:=by
     rw [xP Co.ok,hok2,decide_eq_true (by omega)];rfl
    have hI2:uN t b (u1++[(c::p,(vw.length:Int))]):=by
     refine ⟨dr,?_,?_⟩
     ·rw [xE Co.ok Co.lg,uU r8 (by omega),yh r8,uS Co.ok _ _ (bw _),jb u1 _ _ _ (bw _),tw,Bool.and_eq_true]
      refine ⟨?_,?_⟩
      ·rw [List.contains_iff_mem,List.mem_map]
       exact ⟨vw.length,by rw [iE];exact view_last u1 true _,rfl⟩
      ·cases hq:isQ (c::p) with
       | true=>rfl
       | false =>
         have hq1:isQ m1=true:=by
          rw [hxq];unfold qt;rw [if_neg cE,hq,if_neg (by simp)];rfl
         rw [iE,vj oS,hq1]
         simp
     ·rw [List.length_append,List.length_singleton]
      intro j hj Em
      have h1:=uv dr u1.length (bw _) Co.fo
      exact h1 j (by omega) Em
    have cG:=DI
    rw [jP hv b hk h0 ho,hP1,Option.bind_some] at cG
    have hidk:idxN (vw++[z+1,k]) k=u1.length:=by
     unfold idxN
     rw [show vw++[z+1,k]=(vw++[z+1])++k::[] from by simp,idxF_new tJ,Int.toNat_natCast,List.length_append,iE];rfl
    have Eo:∀ n,n<z+1->idxN (vw++[z+1,k]) n=idxN vw n:=fun n hn=>by
     unfold idxN
     rw [h_ fun e he=>?_]
     simp only [List.mem_cons,List.not_mem_nil,or_false] at he
     rcases he with rfl | rfl <;> omega
    have dw:=step_map (f:=idxN vw) (g:=idxN (vw++[z+1,k])) cG (fun pl hp=>by
     obtain ⟨i,hi⟩:=List.mem_iff_getElem?.1 hp
     exact Eo _ (cr.lv i pl hi).2.1) (Eo _ cr.bg.2.1)
    have aU:(vw++[z+1,k]).length=u1.length+1:=by rw [List.length_append,iE];rfl
    refine ⟨s',DI,by rw [dL,aU,iE];omega,by rw [dL,aU,iE];omega,by rw [dL,hu];exact hI2,?_⟩
    rw [dL,hu,aU]
    have lX:OppMv t (u1++[(c::p,(vw.length:Int))]) u1.length (c::p) vw.length:=⟨r8,by omega,by omega,⟨_,aI,rZ⟩⟩
    rw [jP dr b (by rw [List.length_append,List.length_singleton];omega) (by omega) lX]
    have mV:=jc dr b (n:=u0.length) (m:=vw.length) (by omega) (by rw [List.length_append,List.length_singleton];omega)
    rw [Cl,List.append_assoc,List.take_left' rfl,hP5] at mV
    rw [Cl,List.append_assoc,<- mV,Option.bind_some,<- dw,hidk,Cl]
theorem part_reply {t:Ty} {b:Bd} {v:Pl} (cJ:zP t<=15) (hf:kE t.args b) (hw:wfB b) (h:uN t b v) (ho:v.length % 2=1) {x:Bs×Int} (hx:z_ t b v v.length=some x) :
 uN t b (kX v (zd v false v.length))/\(kX v (zd v false v.length)).length % 2=1/\∃ z,z_ t b (kX v (zd v false v.length)) (kX v (zd v false v.length)).length=some (x.1,z):=by
 obtain ⟨k,hk⟩:∃ k,v.length=k+1:=⟨v.length-1,by omega⟩
 obtain ⟨s,hP⟩:=part_in cJ hf hw h.ok h.lg k (by omega) (by omega) (fun i hi ho=>h.fo i (by omega) ho)
 rw [hk] at hx ⊢
 refine ⟨hP.ins,by rw [ja];exact hP.odd,?_⟩
 unfold z_ at hx ⊢
 rw [hP.pl,Option.bind_some] at hx
 rw [ja,hP.at',Option.bind_some,told_map,hx]
 exact ⟨_,rfl⟩
theorem idxG_from:∀ (l:List Nat) (k:Nat) (z:Int),yi k l z=Lib.idxFrom (l.map fun n=>((n:Nat):Int)) z k
 | [],k,z=>by rw [yi];rfl
 | n::l,k,z=>by
   rw [yi,List.map_cons,Lib.idxFrom,idxG_from l (k+1) z]
theorem index_any {w:World} {ns:List Nat} {b o c:Nat} (h:∀ (i n:Nat),ns[i]? = some n->w.cell? ⟨b,o+i,none⟩=some (.int .i64 (n:Nat))) (hn:ns.length<=1000) (z:Int) :
 Calls Tryz.prog 93 #[.slice (some ⟨b,o,none⟩) ns.length c,.int .i64 z] w fun en w'=>en=.returned (.int .i64 (y9 ns z))/\w'=w:=by
 refine (Tryz.slices_Index_int b o ns.length c (ns.map fun n=>((n:Nat):Int)) z w (by simp) (by omega) (fun j hj=>?_)).mono ?_
 ·rw [List.length_map] at hj
  rw [h j ns[j] (List.getElem?_eq_getElem hj),List.getD_eq_getElem?_getD,List.getElem?_map,List.getElem?_eq_getElem hj];rfl
 ·rintro en w' ⟨rfl,e⟩
  rw [List.take_of_length_le (by simp)]
  refine ⟨?_,e⟩
  unfold y9
  rw [idxG_from];rfl
structure PtI (X:World) (g:Nat) (u:Pl) (k:Nat) (a5:Option Addr) (c5:Nat) (a6:Option Addr) (c6:Nat) (wr:World):Prop where
 below:Below X.heap.size X wr
 box:wr.heap[g]? = some (.cells #[.slice a5 k c5,.slice a6 k c6] 33 (0,0))
 o5:Own wr 9 1 (.slice a5 k c5) k (qg u)
 o6:Own wr 3 1 (.slice a6 k c6) k (qy u)
 gw:X.heap.size<g
 f5:∀ i,(Value.slice a5 k c5).ownBlock=some i->X.heap.size<i/\i≠g
 f6:∀ i,(Value.slice a6 k c6).ownBlock=some i->X.heap.size<i/\i≠g
 ap:∀ i,(Value.slice a5 k c5).ownBlock=some i->(Value.slice a6 k c6).ownBlock≠some i
 res:wr.heap[X.heap.size]? = some (.cells #[.slice none 0 0,.slice none 0 0] 33 (0,0))
theorem but_drewA {m:Nat->Prop} {w w':World} {o:Obj} (h:But m (w.drew.alloc o) w'):But m (w.alloc o) w':=⟨h.os,h.tape,h.output,h.size,h.block⟩
theorem PtI.half {X:World} {g:Nat} {u:Pl} {k:Nat} {a5:Option Addr} {c5:Nat} {a6:Option Addr} {c6:Nat} {wr:World} (h:PtI X g u k a5 c5 a6 c6 wr) {s:Bs}
 {a7:Option Addr} {c7:Nat} {w7:World} {o:Obj} (ho:Own w7 9 1 (.slice a7 (k+1) c7) (k+1) (qg u++[str s])) (hb:But (fun b=>(Value.slice a5 k c5).ownBlock=some b) (wr.alloc o) w7)
 (hg:∀ i,(Value.slice a7 (k+1) c7).ownBlock=some i->(Value.slice a5 k c5).ownBlock=some i\/i=wr.heap.size+1) :
 ∃ W7,w7.setCell ⟨g,0,none⟩ (.slice a7 (k+1) c7)=W7/\Below X.heap.size X W7/\W7.heap[g]? = some (.cells #[.slice a7 (k+1) c7,.slice a6 k c6] 33 (0,0)) /\
   Own W7 9 1 (.slice a7 (k+1) c7) (k+1) (qg u++[str s])/\Own W7 3 1 (.slice a6 k c6) k (qy u) /\
   (∀ i,(Value.slice a7 (k+1) c7).ownBlock=some i->X.heap.size<i/\i≠g)/\(∀ i,(Value.slice a7 (k+1) c7).ownBlock=some i->(Value.slice a6 k c6).ownBlock≠some i)/\W7.heap[X.heap.size]? = some (.cells #[.slice none 0 0,.slice none 0 0] 33 (0,0)):=by
 have hz:=h.below.size
 have ou:=zZ h.box
 have lE:=h.gw
 have B4:=zZ h.res
 have aZ:∀ i,(Value.slice a6 k c6).ownBlock=some i->i<wr.heap.size:=fun i hi=>h.o6.lt hi
 have sQ:∀ i,(Value.slice a7 (k+1) c7).ownBlock=some i->X.heap.size<i/\i≠g:=fun i hi=>by
  rcases hg i hi with e | e
  ·exact h.f5 i e
  ·omega
 have aM:w7.heap[g]? = some (.cells #[.slice a5 k c5,.slice a6 k c6] 33 (0,0)) :=
  (hb.block g (by rw [zK];omega) (fun e=>(h.f5 g e).2 rfl)).trans (zD h.box)
 refine ⟨_,rfl,?_,?_,?_,?_,sQ,fun i hi=>?_,?_⟩
 ·exact ((h.below.alloc hz o).trans (hb.toBelow (by rw [zK];omega) fun i hi e=>by have:=(h.f5 i e).1;omega)).setCell (p:=⟨g,0,none⟩) (Nat.le_of_lt lE) _
 ·rw [zQ aM];rfl
 ·exact ho.keep fun i x hi hx=>by rw [bf _ _ _ _ (by show i≠g;exact (sQ i hi).2)];exact hx
 ·exact h.o6.keep fun i x hi hx=>by
   rw [bf _ _ _ _ (by show i≠g;exact (h.f6 i hi).2),hb.block i (by rw [zK];have:=aZ i hi;omega) (fun e=>h.ap i e hi)];exact zD hx
 ·rcases hg i hi with e | e
  ·exact h.ap i e
  ·intro e6;have:=aZ i e6;omega
 ·rw [bf _ _ _ _ (by show X.heap.size≠g;omega),hb.block _ (by rw [zK];omega) (fun e=>by have:=(h.f5 _ e).1;omega)];exact zD h.res
theorem PtI.next {X:World} {g:Nat} {u:Pl} {k:Nat} {a7:Option Addr} {c7:Nat} {a6:Option Addr} {c6:Nat} {wr:World} {s:Bs} {z:Int} (eD:Below X.heap.size X wr) (lE:X.heap.size<g)
 (fF:wr.heap[g]? = some (.cells #[.slice a7 (k+1) c7,.slice a6 k c6] 33 (0,0)))
 (o5:Own wr 9 1 (.slice a7 (k+1) c7) (k+1) (qg u++[str s])) (o6:Own wr 3 1 (.slice a6 k c6) k (qy u))
 (f5:∀ i,(Value.slice a7 (k+1) c7).ownBlock=some i->X.heap.size<i/\i≠g) (f6:∀ i,(Value.slice a6 k c6).ownBlock=some i->X.heap.size<i/\i≠g) (ap:∀ i,(Value.slice a7 (k+1) c7).ownBlock=some i->(Value.slice a6 k c6).ownBlock≠some i)
 (res:wr.heap[X.heap.size]? = some (.cells #[.slice none 0 0,.slice none 0 0] 33 (0,0)))
 {a8:Option Addr} {c8:Nat} {w8:World} {o:Obj} (ho:Own w8 3 1 (.slice a8 (k+1) c8) (k+1) (qy u++[.int .i64 z])) (hb:But (fun b=>(Value.slice a6 k c6).ownBlock=some b) (wr.alloc o) w8)
 (hg:∀ i,(Value.slice a8 (k+1) c8).ownBlock=some i->(Value.slice a6 k c6).ownBlock=some i\/i=wr.heap.size+1) :
 PtI X g (u++[(s,z)]) (k+1) a7 c7 a8 c8 (w8.setCell ⟨g,1,none⟩ (.slice a8 (k+1) c8)):=by
 have hz:=eD.size
 have ou:=zZ fF
 have B4:=zZ res
 have t_:∀ i,(Value.slice a7 (k+1) c7).ownBlock=some i->i<wr.heap.size:=fun i hi=>o5.lt hi
 have Ew:∀ i,(Value.slice a8 (k+1) c8).ownBlock=some i->X.heap.size<i/\i≠g:=fun i hi=>by
  rcases hg i hi with e | e
  ·exact f6 i e
  ·omega
 have d9:w8.heap[g]? = some (.cells #[.slice a7 (k+1) c7,.slice a6 k c6] 33 (0,0)) :=
  (hb.block g (by rw [zK];omega) (fun e=>(f6 g e).2 rfl)).trans (zD fF)
 refine ⟨?_,?_,?_,?_,lE,f5,Ew,fun i hi e8=>?_,?_⟩
 ·exact ((eD.alloc hz o).trans (hb.toBelow (by rw [zK];omega) fun i hi e=>by have:=(f6 i e).1;omega)).setCell (p:=⟨g,1,none⟩) (Nat.le_of_lt lE) _
 ·rw [zQ d9];rfl
 ·rw [logM_snoc]
  exact o5.keep fun i x hi hx=>by
   rw [bf _ _ _ _ (by show i≠g;exact (f5 i hi).2),hb.block i (by rw [zK];have:=t_ i hi;omega) (fun e=>ap i hi e)];exact zD hx
 ·have e:qy (u++[(s,z)])=qy u++[.int .i64 z]:=by simp [qy]
  rw [e]
  exact ho.keep fun i x hi hx=>by rw [bf _ _ _ _ (by show i≠g;exact (Ew i hi).2)];exact hx
 ·rcases hg i e8 with e | e
  ·exact ap i hi e
  ·have:=t_ i hi;omega
 ·rw [bf _ _ _ _ (by show X.heap.size≠g;omega),hb.block _ (by rw [zK];omega) (fun e=>by have:=(f6 _ e).1;omega)];exact zD res
theorem own_drew {w:World} {e:TypeId} {sz n:Nat} {v:Value} {xs:List Value} (h:Own w e sz v n xs):Own w.drew e sz v n xs:=h.keep fun _ _ _ hx=>hx
theorem partOf_take {v:Pl} {l:List Nat} {k i:Nat} (h:l[k]? = some i):(kX v l).take (k+1)=(kX v l).take k++[vu v l i]:=by
 rw [List.take_add_one]
 congr 1
 simp [kX,h]
set_option maxRecDepth 100000 in
theorem partPl_any (F:Nat->Prop) (t:Ty) (v:Pl) (mv pt x:Value) (l:List Nat) (w:World) (hm:vK F t v mv pt w) (hx:v9 w l x) (dT:∀ i∈l,i<v.length) (hl:l.length<=60) :
 Calls Tryz.prog 53 #[.agg #[mv,pt],x] w (CopyP (kX v l) w):=by
 obtain ⟨ma,mc,rfl,cb⟩:=hm.m.cells
 obtain ⟨pa,pc,rfl,dP⟩:=hm.p.cells
 obtain ⟨xb,xo,xc,rfl,hxl,hxc⟩:=hx
 obtain ⟨X,hX,eW,tH,b0⟩:=kV w (.cells #[.slice ma v.length mc,.slice pa v.length pc] 33)
 obtain ⟨W,hW,b9,iB,x0,x1⟩:=kD X (.cells #[.slice none 0 0,.slice none 0 0] 33) (.cells #[.slice none 0 0,.slice none 0 0] 33)
 have KEY:Hid (∀ y,Below X.heap.size X y->y.cell? ⟨w.heap.size,0,none⟩=some (.slice ma v.length mc)/\y.cell? ⟨w.heap.size,1,none⟩=some (.slice pa v.length pc)/\∀ (k n:Nat),l[k]? = some n->y.cell? ⟨xb,xo+k,none⟩=some (.int .i64 (n:Nat))):=bz (fun y hy=>by
  obtain ⟨c0,c1,_,_⟩:=zJ b0
  have hwy:=eW.trans (hy.mono (by omega))
  exact ⟨(hy.cell (bp _ _ c0)).trans c0,(hy.cell (bp _ _ c1)).trans c1,fun k n h=>(hwy.cell (p:=⟨xb,xo+k,none⟩) hxl).trans (hxc k n h)⟩)
 have HM:=bz (fun y (hy:Below X.heap.size X y) k n (h:v[k]? = some n)=>by
  have hwy:=eW.trans (hy.mono (by omega))
  obtain ⟨mb,mo,e1,_,dD,dC⟩:=cb k n h
  obtain ⟨pb,po,e2,_,dB,dN⟩:=dP k n h
  exact (⟨mb,mo,pb,po,e1,e2,(hwy.cell (p:=⟨mb,mo+k,none⟩) dD).trans dC,(hwy.cell (p:=⟨pb,po+k,none⟩) dB).trans dN⟩:∃ mb mo pb po,ma=some ⟨mb,mo,none⟩/\pa=some ⟨pb,po,none⟩/\y.cell? ⟨mb,mo+k,none⟩=some (str n.1)/\y.cell? ⟨pb,po+k,none⟩=some (.int .i64 n.2)))
 have h0:PtI X (X.heap.size+1) ((kX v l).take 0) 0 none 0 none 0 W:=⟨b9,x1,World.ownsRow_nil _ _ _ _,World.ownsRow_nil _ _ _ _,by omega,fun i h=>by simp [Value.ownBlock] at h,fun i h=>by simp [Value.ownBlock] at h,fun i h=>by simp [Value.ownBlock] at h,x0⟩
 have BS:(((w.alloc (.cells #[.slice ma v.length mc,.slice pa v.length pc] 33)).alloc (.cells #[.slice none 0 0,.slice none 0 0] 33)).alloc (.cells #[.slice none 0 0,.slice none 0 0] 33))=W:=by rw [hX,hW]
 rw [tH] at h0
 have HW:=bz (bj BS (bj eW (bj tH h0)))
 have HLV:=bz dT
 clear hX eW tH b0 hW b9 iB x0 x1 cb dP hxc hm BS h0 dT hxl
 go_enter Tryz.func53,Tryz.ntmps53
 go_upto_region 2 with (fail)
 rw [HW.out.1]
 go_wp2_with fail
 go_loopw [10] (fun i wr=>∃ (k:Nat) (a5:Option Addr) (c5:Nat) (a6:Option Addr) (c6:Nat),k<=l.length/\i=.int .i64 k/\PtI X (w.heap.size+1+1) ((kX v l).take k) k a5 c5 a6 c6 wr) (fun i _=>l.length-(intOf i).toNat)
 case atStart=>exact ⟨0,none,0,none,0,Nat.zero_le _,rfl,HW.out.2.2.2⟩
 case round =>
  rename_i wr
  obtain ⟨k,a5,c5,a6,c6,hk,rfl,hI⟩:=hrel
  have zX:=HW.out.2.2.1
  obtain ⟨t0,t1,tl⟩:=KEY.out wr hI.below
  obtain ⟨q0,q1,BK,BJ⟩:=zJ hI.box
  have HI:=bz hI
  clear hI
  by_cases cQ:k<l.length
  ·have dU:(k:Int)<(l.length:Int):=by omega
   have r_:l[k]? = some l[k]:=List.getElem?_eq_getElem cQ
   obtain ⟨i,hi⟩:=zzN (l[k])
   rw [hi] at r_
   have hiv:=HLV.out i (List.mem_of_getElem? r_)
   have mY:v[i]? = some v[i]:=List.getElem?_eq_getElem hiv
   obtain ⟨⟨m,z⟩,hmz⟩:∃ y,v[i]=y:=⟨_,rfl⟩
   rw [hmz] at mY
   have HPA:=bz (show vu v l i=(m,y9 l z) from jy mY)
   have Ct:=bz (partOf_take (v:=v) r_)
   have tk:=tl k i r_
   have hivI:(i:Int)<(v.length:Int):=by omega
   obtain ⟨mb,mo,pb,po,rfl,rfl,_,_⟩:=HM.out wr HI.out.below i (m,z) mY
   have HMW:=bz (fun y (hy:Below X.heap.size X y)=>by
    obtain ⟨mb',mo',pb',po',e1,e2,h1,h2⟩:=HM.out y hy i (m,z) mY
    simp only [Option.some.injEq,Addr.mk.injEq,and_true] at e1 e2
    obtain ⟨rfl,rfl⟩:=e1
    obtain ⟨rfl,rfl⟩:=e2
    exact (bj h1 h2:y.cell? ⟨mb,mo+i,none⟩=some (str m)/\y.cell? ⟨pb,po+i,none⟩=some (.int .i64 z)))
   have SX:Hid (∀ w',But (fun j=>(Value.slice a5 k c5).ownBlock=some j) wr w'->w'.cell? ⟨w.heap.size+1+1,0,none⟩=some (.slice a5 k c5)/\w'.cell? ⟨w.heap.size,0,none⟩=some (.slice (some ⟨mb,mo,none⟩) v.length mc)/\w'.cell? ⟨mb,mo+i,none⟩=some (str m)/\w'.frozen? ⟨w.heap.size+1+1,0,none⟩=false):=bz (fun w' dK=>by
    have eD:Below X.heap.size X w':=HI.out.below.trans (dK.toBelow (HI.out.below.size) fun j hj e=>by have:=(HI.out.f5 j e).1;omega)
    have ed:=(dK.block _ (zZ HI.out.box) (fun e=>(HI.out.f5 _ e).2 rfl)).trans HI.out.box
    obtain ⟨s0,s1,sf,_⟩:=zJ ed
    exact ⟨s0,(KEY.out w' eD).1,(HMW.out w' eD).1,sf⟩)
   have hmx:k+1<=maxLen:=by unfold maxLen;omega
   have nZ:(k+1)*16<=140737488355328:=by omega
   have AZ:(k+1)*8<=140737488355328:=by omega
   clear r_ hi mY hmz tl q1 BJ t1 hiv
   go_upto_region 5 with (fail)
   clear tk t0 q0 BK
   refine wp_region_noPanic ?_
   refine zW (fun w'=>But (fun j=>(Value.slice a5 k c5).ownBlock=some j) wr w') (fun i=>i == 10) (by kernel_rfl) ?_
   have cZ:(fun w'=>But (fun j=>(Value.slice a5 k c5).ownBlock=some j) wr w') wr.drew:=(But.refl _ wr).drew
   refine tk [0,1,2,3,4,5,6] cZ ?_
   (intro d hd;simp [tkD] at hd;subst hd;simp only [tks,pQ,pZ,pS])
   iterate 7 (refine ⟨?_,?_,?_⟩;rotate_left;· (intro oi ho;simp at ho;subst ho;refine Or.inl ⟨by rfl,fun w' b_=>?_⟩;obtain ⟨e0,e1,e2,e3⟩:=SX.out w' b_;go_simp;try with_reducible rfl))
   (refine on 7 ?_;intro o ho K' hK;simp at ho;subst ho;go_simp)
   (refine hK.out _ _ (fun _=>cZ.alloc _) ?_;clear hK K';try simp only [pQ,pN,pZ,pS])
   (refine on 8 ?_;intro o ho K' hK;simp at ho;subst ho)
   refine zq (by rfl) _ _ _ (by rfl) 9 (str []) 1 16 Tryz.underlying30 Tryz.infoStr rfl (by decide) (.slice a5 k c5) k (qg ((kX v l).take k)) (by rfl) ((own_drew HI.out.o5).alloc _) _ 1 [str m] (by rfl) (zM.litk #[str m] rfl (by simp [str,Value.oneCell']) _ (by rfl)) hmx nZ ?_
   intro a' c' w7 dO cP ch
   (refine hK.out _ _ (fun _=>(cZ.alloc _).trans cP) ?_;clear hK K';try simp only [pQ,pN,pZ,pS])
   obtain ⟨EO,_,_,sQ⟩:=SX.out w7 ((cZ.alloc _).trans cP)
   (refine on 9 ?_;intro o ho K' hK;simp at ho;subst ho;go_simp)
   (refine hK.out _ _ (fun _=>(cZ.alloc _).trans cP) ?_;clear hK K';try simp only [pQ,pN,pZ,pS])
   (refine on 10 ?_;intro o ho K' hK;simp at ho;subst ho;go_simp)
   (refine hK.out _ _ (fun h=>by simp at h) ?_;clear hK K';try simp only [pQ,pN,pZ,pS])
   refine zU (by kernel_rfl) (NoPanic.normal ?_) _
   obtain ⟨W8,rq,aN,d9,Dd,Dc,FN,FU,C_⟩:=HI.out.half dO (but_drewA cP) (fun i hi=>(ch i hi).imp id fun e=>e.trans (by show (World.alloc _ _).heap.size=_;exact zK _ _))
   have H8:=bz (bj aN (bj d9 (bj Dd (bj Dc (bj FN (bj FU C_))))))
   rw [rq]
   obtain ⟨_,p1,_,p1f⟩:=zJ d9
   have SY:Hid (∀ w',But (fun j=>(Value.slice a6 k c6).ownBlock=some j) W8 w'->w'.cell? ⟨w.heap.size+1+1,1,none⟩=some (.slice a6 k c6)/\w'.cell? ⟨w.heap.size,1,none⟩=some (.slice (some ⟨pb,po,none⟩) v.length pc)/\w'.cell? ⟨pb,po+i,none⟩=some (.int .i64 z)/\w'.frozen? ⟨w.heap.size+1+1,1,none⟩=false):=bz (fun w' dK=>by
    have eD:Below X.heap.size X w':=H8.out.1.trans (dK.toBelow (H8.out.1.size) fun j hj e=>by have:=(HI.out.f6 j e).1;omega)
    have ed:=(dK.block _ (zZ H8.out.2.1) (fun e=>(HI.out.f6 _ e).2 rfl)).trans H8.out.2.1
    obtain ⟨s0,s1,_,sf⟩:=zJ ed
    exact ⟨s1,(KEY.out w' eD).2.1,(HMW.out w' eD).2,sf⟩)
   have CI:=bz (index_any (w:=W8.drew) (ns:=l) (b:=xb) (o:=xo) (c:=xc) (fun j n hj=>(KEY.out W8 H8.out.1).2.2 j n hj) (by omega) z)
   clear dO cP ch rq aN d9 Dd Dc FN FU C_ cZ p1 p1f EO sQ
   go_upto_region 6 with (fail)
   refine wp_region_noPanic ?_
   refine zW (fun w'=>But (fun j=>(Value.slice a6 k c6).ownBlock=some j) W8 w') (fun i=>i == 12) (by kernel_rfl) ?_
   have cZ:(fun w'=>But (fun j=>(Value.slice a6 k c6).ownBlock=some j) W8 w') W8.drew:=(But.refl _ W8).drew
   refine tk [0,1,2,3,4,5,6,7] cZ ?_
   (intro d hd;simp [tkD] at hd;subst hd;simp only [tks,pQ,pZ,pS])
   iterate 8 (refine ⟨?_,?_,?_⟩;rotate_left;· (intro oi ho;simp at ho;subst ho;refine Or.inl ⟨by rfl,fun w' b_=>?_⟩;obtain ⟨e0,e1,e2,e3⟩:=SY.out w' b_;go_simp;try with_reducible rfl))
   (refine on 8 ?_;intro o ho K' hK;simp at ho;subst ho;go_simp)
   go_at_call 93
   (with_reducible refine CI.out.mono ?_)
   rintro en w1 ⟨rfl,e⟩
   subst w1
   (refine hK.out _ _ (fun _=>cZ) ?_;clear hK K';try simp only [pQ,pN,pZ,pS])
   (refine on 9 ?_;intro o ho K' hK;simp at ho;subst ho;go_simp)
   (refine hK.out _ _ (fun _=>cZ.alloc _) ?_;clear hK K';try simp only [pQ,pN,pZ,pS])
   (refine on 10 ?_;intro o ho K' hK;simp at ho;subst ho)
   refine zq (by rfl) _ _ _ (by rfl) 3 (.int .i64 0) 1 8 Tryz.underlying31 Tryz.infoInt2 rfl (by decide) (.slice a6 k c6) k (qy ((kX v l).take k)) (by rfl) ((own_drew H8.out.2.2.2.1).alloc _) _ 1 [.int .i64 (y9 l z)] (by rfl) (zM.litk #[.int .i64 (y9 l z)] rfl (by simp [str,Value.oneCell']) _ (by rfl)) hmx AZ ?_
   intro a' c' w7 dO cP ch
   (refine hK.out _ _ (fun _=>(cZ.alloc _).trans cP) ?_;clear hK K';try simp only [pQ,pN,pZ,pS])
   obtain ⟨EO,_,_,sQ⟩:=SY.out w7 ((cZ.alloc _).trans cP)
   (refine on 11 ?_;intro o ho K' hK;simp at ho;subst ho;go_simp)
   (refine hK.out _ _ (fun _=>(cZ.alloc _).trans cP) ?_;clear hK K';try simp only [pQ,pN,pZ,pS])
   (refine on 12 ?_;intro o ho K' hK;simp at ho;subst ho;go_simp)
   (refine hK.out _ _ (fun h=>by simp at h) ?_;clear hK K';try simp only [pQ,pN,pZ,pS])
   refine zU (by kernel_rfl) (NoPanic.normal ?_) _
   have Bj:=PtI.next (s:=m) (z:=y9 l z) H8.out.1 HI.out.gw H8.out.2.1 H8.out.2.2.1 H8.out.2.2.2.1 H8.out.2.2.2.2.1 HI.out.f6 H8.out.2.2.2.2.2.1 H8.out.2.2.2.2.2.2 dO (but_drewA cP) (fun i hi=>(ch i hi).imp id fun e=>e.trans (by show (World.alloc _ _).heap.size=_;exact zK _ _))
   rw [<- HPA.out,<- Ct.out] at Bj
   have HI9:=bz Bj
   clear dO cP ch Bj cZ EO sQ
   go_wp2_with fail
   go_roundw
   case rel=>exact ⟨k+1,_,_,_,_,by omega,by go_num,HI9.out⟩
   case measure=>simp [intOf];omega
  ·obtain rfl:k=l.length:=by omega
   have iS:¬ ((l.length:Int)<(l.length:Int)):=by omega
   have dI:=HI.out.res
   rw [zX] at dI
   obtain ⟨r0,r1,s5,ig⟩:=zJ dI
   have HR:=bz dI
   clear dI tl t0 t1 BK BJ
   go_wp2_with fail
   have hV:=qe HR.out (.slice a5 l.length c5) (.slice a6 l.length c6)
   obtain ⟨s0,s1,_,_⟩:=zJ hV
   refine bodyPost_ret (v:=.agg #[.slice a5 l.length c5,.slice a6 l.length c6]) (by simp [results,Tryz.results53,go_sem,s0,s1]) rfl ?_
   have cG:=ja v l
   have cF:(kX v l).take l.length=kX v l:=List.take_of_length_le (by omega)
   have hO5:=HI.out.o5
   have hO6:=HI.out.o6
   rw [cF] at hO5 hO6
   have far:∀ i,X.heap.size<i->∀ (a b:Value),(((wr.setCell ⟨w.heap.size+1,0,none⟩ a).setCell ⟨w.heap.size+1,1,none⟩ b)).heap[i]? = wr.heap[i]?:=fun i hi a b=>by
    rw [bf _ _ _ _ (by show i≠w.heap.size+1;omega),bf _ _ _ _ (by show i≠w.heap.size+1;omega)]
   refine ⟨_,_,rfl,⟨?_,?_⟩,?_,fun g hg=>?_⟩
   ·show Own _ _ 1 _ (kX v l).length _
    rw [cG]
    exact hO5.keep fun i y hi hy=>by rw [far i (HI.out.f5 i hi).1];exact hy
   ·show Own _ _ 1 _ (kX v l).length _
    rw [cG]
    exact hO6.keep fun i y hi hy=>by rw [far i (HI.out.f6 i hi).1];exact hy
   ·have hb:Below w.heap.size w wr:=HW.out.2.1.trans (HI.out.below.mono (by omega))
    exact (hb.setCell (p:=⟨w.heap.size+1,0,none⟩) (by show _<=w.heap.size+1;omega) _).setCell (p:=⟨w.heap.size+1,1,none⟩) (by show _<=w.heap.size+1;omega) _
   ·rcases hg with hg | hg
    ·have:=(HI.out.f5 g hg).1;omega
    ·have:=(HI.out.f6 g hg).1;omega
structure RepF (s text:Bs) (l u:Pl) (x:Bs×Int) (z:Int):Prop where
 hu:u=l++[x]
 odd:l.length % 2=1
 ok:kO s (l.map (·.1)) (l.map (·.2))=true
 vis:ym l=true
 leg:ke s (u.map (·.1)) (u.map (·.2))=true
 fol:jT s text (u.map (·.1)) (u.map (·.2))=true
 rep:kY s text ((kX l (zd l false l.length)).map (·.1)) ((kX l (zd l false l.length)).map (·.2))=some (kX l (zd l false l.length)++[(x.1,z)])
 lenV:(zd l false l.length).length<=60
 inV:∀ i∈zd l false l.length,i<l.length
 limP:∀ y∈kX l (zd l false l.length),Lim y.1.length
 limU:∀ y∈u,Lim y.1.length
 val:zO (zV s).1 l=true
theorem reply_facts {s text:Bs} {l u:Pl} (h:kY s text (l.map (·.1)) (l.map (·.2))=some u):∃ x z,RepF s text l u x z:=by
 unfold kY at h
 cases hb:zN s text with
 | none=>rw [hb] at h;simp at h
 | some b =>
   rw [hb] at h
   simp only at h
   unfold qT at h
   split at h
   ·rename_i hc
    simp only [Bool.and_eq_true,decide_eq_true_eq,jZ,List.length_map] at hc h
    obtain ⟨⟨hlo,eN⟩,dF⟩:=hc
    have cD:=vy hlo
    have hv:=(jt cD).2.1
    rw [jZ] at hv
    have ec:=hlo
    unfold ke at ec
    rw [Bool.and_eq_true,jZ] at ec
    unfold qR at h
    split at h
    ·simp at h
    ·rename_i dE
     rw [Option.map_eq_some_iff] at h
     obtain ⟨x,hx,rfl⟩:=h
     have hg:=(qL hb).1
     have cr:uN (zV s).1 b l:=⟨hv,ec.2,dF⟩
     have m7:=za hv
     have hI:=j7 hg.atoms hg.fit hg.wf cr eN (by omega) hx
     have Et:=follow_in hb hI
     obtain ⟨_,_,_,hleg⟩:=wZ Et
     obtain ⟨hP,hPo,z,hPz⟩:=part_reply hg.atoms hg.fit hg.wf cr eN hx
     have hPf:=follow_in hb hP
     obtain ⟨_,_,_,Bh⟩:=wZ hPf
     have Fy:=za hP.ok
     have mf:=ec.2
     unfold qO at mf
     rw [Bool.and_eq_true] at mf
     refine ⟨x,z,rfl,eN,cD,mf.1,hleg,Et,?_,by rw [ja] at Fy;exact Fy,fun i hi=>view_lt hv (bw _) hi,vM hg.atoms hP.ok,vM hg.atoms hI.ok,hv⟩
     unfold kY
     rw [hb]
     simp only
     unfold qT
     rw [Bh,jZ,List.length_map,decide_eq_true hPo,decide_eq_true hP.fo,if_pos (show (true && true && true)=true from rfl)]
     unfold qR
     rw [if_neg (by omega),hPz]
     rfl
   ·simp at h
set_option maxRecDepth 100000 in
theorem ye (F:Nat->Prop) (s:Bs) (mv pt:Value) (ms:List Bs) (ps:List Int) (w:World) (hs:Lim s.length) (hm:jp F w ms mv) (hp:jw F w ps pt) (hl:∀ x∈ms,Lim x.length) (cD:kO s ms ps=true) (mf:ym (ms.zip ps)=true) :
 Calls Tryz.prog 52 #[str s,.agg #[mv,pt]] w fun en w'=>en=.returned (.bool true)/\Below w.heap.size w w':=by
 obtain ⟨ma,mc,rfl⟩:=hm.slice
 obtain ⟨pa,pc,rfl⟩:=hp.slice
 obtain ⟨W,hW,b9,hz,b0⟩:=kV w (.cells #[.slice ma ms.length mc,.slice pa ps.length pc] 33)
 obtain ⟨c0,c1,_,_⟩:=zJ b0
 have tK:=hm.below b9 (fun _ h=>h)
 have nX:=hp.below b9 (fun _ h=>h)
 have C1:=v8 F s _ _ ms ps W hs tK nX hl
 rw [cD] at C1
 have C1:=bz C1
 have C2:=bz (fun (y:World) (hy:Below W.heap.size W y)=>pW F _ _ _ _ y ((vk tK nX hl cD).below hy))
 rw [mf] at C2
 have HW:=bz (bj hW (bj b9 b0))
 clear hm hp hz b0 b9 hW tK nX hl hs cD mf
 go_enter Tryz.func52,Tryz.ntmps52
 go_upto_region 1 with (fail)
 rw [HW.out.1]
 go_wp2_with fail
 (with_reducible refine C1.out.mono ?_)
 rintro en w1 ⟨rfl,bi⟩
 have d0:=(bi.cell (bp _ _ c0)).trans c0
 have d1:=(bi.cell (bp _ _ c1)).trans c1
 have BF:=bz (C2.out w1 bi)
 have HB:=bz (zzT HW.out.2.1 bi)
 clear bi c0 c1 C2
 go_wp2_with fail
 (with_reducible refine BF.out.mono ?_)
 rintro en w2 ⟨rfl,cK⟩
 have cj:=bz (zzT HB.out cK)
 clear cK
 go_wp2_with fail
 go_ret
 exact ⟨rfl,cj.out⟩
def PartQ (u:Pl) (w:World) (en:Ending) (w':World):Prop :=
 ∃ a1 c1 a2 c2,en=.returned (.tuple #[.agg #[.slice a1 u.length c1,.slice a2 u.length c2],.bool true])/\Below w.heap.size w w'/\zE w' u (.slice a1 u.length c1) (.slice a2 u.length c2)
set_option maxRecDepth 100000 in
theorem wa (s:Bs) (l:Pl) (mv pt:Value) (w:World) (hs:Lim s.length) (hp:zE w l mv pt) (hl:∀ x∈l,Lim x.1.length) (h0:0<l.length) (cD:kO s (l.map (·.1)) (l.map (·.2))=true) (mf:ym l=true) (dr:zO (zV s).1 l=true) (dT:(zd l false l.length).length<=60) (cr:∀ i∈zd l false l.length,i<l.length) :
 Calls Tryz.prog 26 #[str s,.agg #[mv,pt]] w (PartQ (kX l (zd l false l.length)) w):=by
 obtain ⟨ma,mc,rfl⟩:=hp.1.slice
 obtain ⟨pa,pc,rfl⟩:=hp.2.slice
 obtain ⟨W,hW,b9,hz,b0,b1⟩:=kD w (.cells #[.slice ma l.length mc,.slice pa l.length pc] 33) (.cells #[.slice none 0 0,.slice none 0 0] 33)
 have nX:=hp.below b9
 have D9:=zE.mv (F:=fun _=>True) nX (fun _ _=>trivial)
 have Bh:vK (fun _=>True) (zV s).1 l (.slice ma l.length mc) (.slice pa l.length pc) W:=⟨D9.1,D9.2,dr,fun x hx=>(hl x hx).le⟩
 have C1:=bz (ye (fun _=>True) s _ _ _ _ W hs D9.1.ms D9.2.ps (fun x hx=>by
  obtain ⟨z,hz,rfl⟩:=List.mem_map.1 hx
  exact hl z hz) cD (by rw [jZ];exact mf))
 have CV:=bz (fun (y:World) (hy:Below W.heap.size W y)=>gF (fun _=>True) (zV s).1 l false l.length _ _ y (Bh.below hy).m (Bh.below hy).p dr h0 (bw _) (Bh.below hy).l)
 have CP:=bz (fun (y:World) (hy:Below W.heap.size W y) (x:Value) (hx:v9 y (zd l false l.length) x)=>partPl_any (fun _=>True) (zV s).1 l _ _ x _ y (Bh.below hy) hx cr dT)
 have KEY:=bz (fun (y:World) (hy:Below W.heap.size W y)=>(show y.cell? ⟨w.heap.size,0,none⟩=some (.slice ma l.length mc)/\y.cell? ⟨w.heap.size,1,none⟩=some (.slice pa l.length pc) from by
  obtain ⟨k0,k1,_,_⟩:=zJ ((hy.block _ (zZ b0)).trans b0)
  exact ⟨k0,k1⟩))
 have HW:=bz (bj hW (bj b9 (bj hz b1)))
 obtain ⟨k0,k1⟩:=KEY.out W (bh _ _)
 generalize zd l false l.length=vw at *
 generalize kX l vw=u at *
 clear hp nX D9 Bh b9 hW b0 b1 hz hl cD mf dr cr
 go_enter Tryz.func26,Tryz.ntmps26
 go_upto_region 1 with (fail)
 rw [HW.out.1]
 go_wp2_with fail
 (with_reducible refine C1.out.mono ?_)
 rintro en w1 ⟨rfl,bi⟩
 have co:=bz bi
 clear bi C1 k0 k1
 have KEY1:=bz (fun (y:World) (hy:Below w1.heap.size w1 y)=>KEY.out y (zzT co.out hy))
 go_upto_region 3 with (fail)
 refine wp_region_noPanic ?_
 refine zW (fun w'=>Below w1.heap.size w1 w') (fun i=>decide (7<=i)) (by kernel_rfl) ?_
 have cZ:(fun w'=>Below w1.heap.size w1 w') w1.drew:=Below.drew (bh _ _)
 refine tk [0,1,2,3,4] cZ ?_
 (intro d hd;simp [tkD] at hd;subst hd;simp only [tks,pQ,pZ,pS])
 iterate 5 (refine ⟨?_,?_,?_⟩;rotate_left;· (intro oi ho;simp at ho;subst ho;refine Or.inl ⟨by rfl,fun w' b_=>?_⟩;obtain ⟨e0,e1⟩:=KEY1.out w' b_;go_simp;try with_reducible rfl))
 (refine on 5 ?_;intro o ho K' hK;simp at ho;subst ho;go_simp)
 go_at_call 54
 (with_reducible refine (CV.out _ (zzT co.out cZ)).mono ?_)
 rintro en x5 ⟨vv,rfl,cz,BU⟩
 have Bo:Below w1.heap.size w1 x5:=Below.trans cZ (cz.mono (Below.size cZ))
 clear cz
 (refine hK.out _ _ (fun _=>Bo) ?_;clear hK K';try simp only [pQ,pN,pZ,pS])
 have hS5:=Bo
 (refine on 6 ?_;intro o ho K' hK;simp at ho;subst ho;go_simp)
 go_at_call 53
 (with_reducible refine (CP.out _ (zzT co.out Bo) _ BU).mono ?_)
 rintro en x6 ⟨mv6,pt6,rfl,Ay,cI,Ex⟩
 have Bn:Below w1.heap.size w1 x6:=Below.trans Bo (cI.mono (Below.size Bo))
 have iO:∀ g,mv6.ownBlock=some g\/pt6.ownBlock=some g->w1.heap.size<=g:=fun g hg=>br (Below.size Bo) (Ex g hg)
 clear cI Ex
 obtain ⟨a8,c8,e8⟩:=Ay.1.slice
 obtain ⟨a9,c9,e9⟩:=Ay.2.slice
 subst e8;subst e9
 have o_:Below W.heap.size W x6:=zzT co.out Bn
 have hr:=(o_.block _ (zZ HW.out.2.2.2)).trans HW.out.2.2.2
 obtain ⟨r0,r1,s5,ig⟩:=zJ hr
 (refine hK.out _ _ (fun _=>Bn) ?_;clear hK K';try simp only [pQ,pN,pZ,pS])
 (refine on 7 ?_;intro o ho K' hK;simp at ho;subst ho;go_simp)
 (refine hK.out _ _ (fun h=>by simp at h) ?_;clear hK K';try simp only [pQ,pN,pZ,pS])
 (refine on 8 ?_;intro o ho K' hK;simp at ho;subst ho;go_simp)
 (refine hK.out _ _ (fun h=>by simp at h) ?_;clear hK K';try simp only [pQ,pN,pZ,pS])
 refine zU (by kernel_rfl) (NoPanic.normal ?_) _
 have mp:=HW.out.2.2.1
 have hV:=qe hr (.slice a8 u.length c8) (.slice a9 u.length c9)
 obtain ⟨s0,s1,_,_⟩:=zJ hV
 have HF:=bz (bj o_ (bj Ay iO))
 clear Ay iO hr hV Bn Bo BU cZ r0 r1 s5 ig
 go_wp2_with fail
 refine bodyPost_ret (v:=.tuple #[.agg #[.slice a8 u.length c8,.slice a9 u.length c9],.bool true]) (by simp [results,Tryz.results26,go_sem,s0,s1]) rfl ?_
 have cf:∀ g,g≠w.heap.size+1->((x6.setCell ⟨w.heap.size+1,0,none⟩ (.slice a8 u.length c8)).setCell ⟨w.heap.size+1,1,none⟩ (.slice a9 u.length c9)).heap[g]? = x6.heap[g]?:=fun g hg=>by
  rw [bf _ _ _ _ (by show g≠w.heap.size+1;exact hg),bf _ _ _ _ (by show g≠w.heap.size+1;exact hg)]
 have aF:Below w.heap.size w x6:=zzT HW.out.2.1 HF.out.1
 have er:=co.out.size
 refine ⟨a8,c8,a9,c9,rfl,(aF.setCell (p:=⟨w.heap.size+1,0,none⟩) (Nat.le_add_right _ _) _).setCell (p:=⟨w.heap.size+1,1,none⟩) (Nat.le_add_right _ _) _,HF.out.2.1.1.keep fun g o hg ho=>?_,HF.out.2.1.2.keep fun g o hg ho=>?_⟩
 ·have:=HF.out.2.2 g (.inl hg)
  rw [cf g (by omega)];exact ho
 ·have:=HF.out.2.2 g (.inr hg)
  rw [cf g (by omega)];exact ho
set_option maxRecDepth 100000 in
theorem drawReply_any (a:Option Addr) (len cap:Nat) (zs:List Int) (w:World) (h:Row8 w a len cap zs) (hl:len<=1048576) :
 Calls Tryz.prog 24 #[.slice a len cap] w fun en w'=>∃ (s text:Bs) (l:Pl) (a1:Option Addr) (c1:Nat) (a2:Option Addr) (c2:Nat),en=.returned (.tuple #[str s,str text,.agg #[.slice a1 l.length c1,.slice a2 l.length c2]])/\s.length<=100/\text.length<=100000/\Below w.heap.size w w'/\zE w' l (.slice a1 l.length c1) (.slice a2 l.length c2)/\l.length<=60/\∀ x∈l,Lim x.1.length:=by
 obtain ⟨W,hW,b9,hz,b0⟩:=kV w (.cells #[.slice none 0 0,.slice none 0 0] 33)
 have CO:=bz (l6Open_any a len cap zs W (row8_below h b9) hl)
 have HW:=bz (bj hW (bj b9 b0))
 clear hW b9 hz b0 h hl
 go_enter Tryz.func24,Tryz.ntmps24
 go_upto_region 1 with (fail)
 rw [HW.out.1]
 go_wp2_with fail
 refine CO.out.mono ?_
 rintro en w1 ⟨rfl,bi,dj,_⟩
 have CF:=ph W.heap.size 0 1 w1 dj (by omega)
 rw [show ((1:Nat):Int)=1 from rfl] at CF
 have CF:=bz CF
 have co:=bz bi
 clear bi dj CO
 go_wp2_with fail
 refine CF.out.mono ?_
 rintro en w3 ⟨s,text,l,a1,c1,a2,c2,rfl,hs,ht,cH,hp,dE,hlim,_⟩
 have hB3:=but_new co.out (bw _) cH
 have hx:=(hB3.block _ (zZ HW.out.2.2)).trans HW.out.2.2
 obtain ⟨q0,q1,q2,q3⟩:=zJ hx
 obtain ⟨r0,r1,_,_⟩:=zJ (qe hx (.slice a1 l.length c1) (.slice a2 l.length c2))
 have cR:But (fun b=>b=w.heap.size) w3 ((w3.setCell ⟨w.heap.size,0,none⟩ (.slice a1 l.length c1)).setCell ⟨w.heap.size,1,none⟩ (.slice a2 l.length c2)):=((But.refl (fun b=>b=w.heap.size) w3).setCell (p:=⟨w.heap.size,0,none⟩) (.inl rfl) _).setCell (p:=⟨w.heap.size,1,none⟩) (.inl rfl) _
 have HF:=bz (bj ((zzT HW.out.2.1 hB3).trans (cR.toBelow (br HW.out.2.1.size hB3.size) fun i hi e=>by omega)) (bj (hp.but cR (fun g hg=>hp.notBox hx (by decide) (by decide) g hg)) (bj hs (bj ht (bj dE hlim)))))
 clear hs ht cH hp dE hlim hB3 hx cR CF co
 go_wp2_with fail
 refine bodyPost_ret (v:=.tuple #[str s,str text,.agg #[.slice a1 l.length c1,.slice a2 l.length c2]]) (by simp [results,Tryz.results24,go_sem,r0,r1]) rfl ?_
 exact ⟨s,text,l,a1,c1,a2,c2,rfl,HF.out.2.2.1,HF.out.2.2.2.1,HF.out.1,HF.out.2.1,HF.out.2.2.2.2.1,HF.out.2.2.2.2.2⟩
def xX (W:World) (g:Nat) (l:Pl) (mv pt:Value):Prop:=∀ y,Below W.heap.size W y->(y.cell? ⟨g,0,none⟩=some mv/\y.cell? ⟨g,1,none⟩=some pt)/\zE y l mv pt
theorem xX.mk' {w W:World} {l:Pl} {mv pt:Value} {T:TypeId} (hb:Below w.heap.size w W) (hx:W.heap[w.heap.size]? = some (.cells #[mv,pt] T (0,0))) (hp:zE w l mv pt):xX W w.heap.size l mv pt:=fun y hy=>by
 obtain ⟨k0,k1,_,_⟩:=zJ ((hy.block _ (zZ hx)).trans hx)
 exact ⟨⟨k0,k1⟩,(hp.below hb).below hy⟩
theorem xX.next {W W':World} {g:Nat} {l:Pl} {mv pt:Value} (h:xX W g l mv pt) (hb:Below W.heap.size W W'):xX W' g l mv pt:=fun y hy=>h y (zzT hb hy)
theorem zE.cellM {w:World} {l:Pl} {mv pt:Value} (h:zE w l mv pt) {i:Nat} {x:Bs×Int} (hi:l[i]? = some x):∃ g c,mv=.slice (some ⟨g,0,none⟩) l.length c/\w.cell? ⟨g,i,none⟩=some (str x.1) :=
 h.1.at (by simp [qg,hi])
set_option maxRecDepth 100000 in
theorem fnReply_any (a0:Option Addr) (len cap:Nat) (zs:List Int) (w:World) (h8:Row8 w a0 len cap zs) (hg:jD w) :
 Calls Tryz.prog 7 #[.slice a0 len cap] w fun en w'=>en=.returned (.bool true)/\Below w.heap.size w w':=by
 by_cases hl:1048576<len
 ·have dd:(1048576:Int)<(len:Int):=by omega
  go_enter Tryz.func7,Tryz.ntmps7
  go_wp2_with fail
  go_ret
  exact ⟨rfl,bh _ _⟩
 have dd:¬ (1048576:Int)<(len:Int):=by omega
 have CD:=bz (drawReply_any a0 len cap zs w h8 (by omega))
 have HG:=bz hg
 clear h8 hg hl
 go_enter Tryz.func7,Tryz.ntmps7
 go_wp2_with fail
 (with_reducible refine CD.out.mono ?_)
 rintro en w1 ⟨s,text,l,a1,c1,a2,c2,rfl,hs,ht,bi,rC,dE,hlim⟩
 have ls:Lim s.length:=show _<=_ by omega
 have lt:Lim text.length:=show _<=_ by omega
 obtain ⟨W,hW,b9,_,x5⟩:=kV w1 (.cells #[.slice a1 l.length c1,.slice a2 l.length c2] 33)
 have BP:=bz (xX.mk' b9 x5 rC)
 have BD:=bz (zzT bi b9)
 have CF:=bz (fun (y:World) (hy:Below w.heap.size w y) (u:Pl) (mv pt:Value) (hp:zE y u mv pt) (eC:∀ x∈u,Lim x.1.length)=>uH (fun _=>True) s text mv pt (u.map (·.1)) (u.map (·.2)) y (HG.out.below hy) ls lt (zE.mv (F:=fun _=>True) hp (fun _ _=>trivial)).1.ms (zE.mv (F:=fun _=>True) hp (fun _ _=>trivial)).2.ps (fun x hx=>by
  obtain ⟨z,hz,rfl⟩:=List.mem_map.1 hx
  exact eC z hz))
 have CL:=bz (fun (y:World) (u:Pl) (mv pt:Value) (hp:zE y u mv pt) (eC:∀ x∈u,Lim x.1.length)=>jf (fun _=>True) s mv pt (u.map (·.1)) (u.map (·.2)) y ls (zE.mv (F:=fun _=>True) hp (fun _ _=>trivial)).1.ms (zE.mv (F:=fun _=>True) hp (fun _ _=>trivial)).2.ps (fun x hx=>by
  obtain ⟨z,hz,rfl⟩:=List.mem_map.1 hx
  exact eC z hz))
 have CR:=bz (fun (y:World) (hy:Below w.heap.size w y) (u:Pl) (mv pt:Value) (hp:zE y u mv pt) (eC:∀ x∈u,Lim x.1.length)=>uo (fun _=>True) s text mv pt (u.map (·.1)) (u.map (·.2)) y (HG.out.below hy) ls lt (zE.mv (F:=fun _=>True) hp (fun _ _=>trivial)).1.ms (zE.mv (F:=fun _=>True) hp (fun _ _=>trivial)).2.ps (fun x hx=>by
  obtain ⟨z,hz,rfl⟩:=List.mem_map.1 hx
  exact eC z hz))
 have CS:=bz (fun (y:World) (u:Pl) (mv pt:Value) (hp:zE y u mv pt) (eC:∀ x∈u,Lim x.1.length)=>jr (fun _=>True) s text mv pt (u.map (·.1)) (u.map (·.2)) y ls lt (zE.mv (F:=fun _=>True) hp (fun _ _=>trivial)).1.ms (zE.mv (F:=fun _=>True) hp (fun _ _=>trivial)).2.ps (fun x hx=>by
  obtain ⟨z,hz,rfl⟩:=List.mem_map.1 hx
  exact eC z hz))
 have CPP:=bz (fun (y:World) (mv pt:Value) (hp:zE y l mv pt)=>wa s l mv pt y ls hp hlim)
 have HLM:=bz hlim
 have HW:=bz hW
 obtain ⟨⟨e0,e1⟩,nX⟩:=BP.out W (bh _ _)
 have C1:=CR.out W BD.out l _ _ nX hlim
 obtain ⟨r,hr⟩:=zzN (kY s text (l.map (·.1)) (l.map (·.2)))
 unfold PlQ at C1
 rw [hr] at C1
 have HR:=bz hr
 have F2:=bz dE
 obtain ⟨u,hu⟩:=zzN (r.getD [])
 obtain ⟨q,hq⟩:=zzN (r.isSome)
 rw [hu,hq] at C1
 have HUQ:=bz (bj hu hq)
 have C1:=bz C1
 clear hs ht bi rC hlim ls lt hW b9 x5 CD hr hu hq nX dE
 go_upto_region 4 with (fail)
 rw [HW.out]
 go_wp2_with fail
 (with_reducible refine C1.out.mono ?_)
 rintro en w2 ⟨b1,d1,b2,d2,rfl,cK,nW,_⟩
 obtain ⟨W3,rY,A4,_,x3⟩:=kV w2 (.cells #[.slice b1 u.length d1,.slice b2 u.length d2] 33)
 have eH:=zzT cK A4
 have BO:=bz (xX.mk' A4 x3 nW)
 have BP3:=bz (BP.out.next eH)
 have dY:=bz (zzT BD.out eH)
 have HW3:=bz rY
 clear cK nW rY A4 x3 eH C1 BP BD e0 e1
 obtain ⟨⟨e0,e1⟩,B7⟩:=BP3.out W3 (bh _ _)
 have C2:=CS.out W3 l _ _ B7 HLM.out
 unfold PlQ at C2
 rw [HR.out,HUQ.out.1,HUQ.out.2] at C2
 have C2:=bz C2
 clear B7 CS
 go_upto_region 5 with (fail)
 rw [HW3.out]
 go_wp2_with fail
 (with_reducible refine C2.out.mono ?_)
 rintro en w4 ⟨b3,d3,b4,d4,rfl,cm,hp4,_⟩
 obtain ⟨W5,od,A3,_,x5⟩:=kV w4 (.cells #[.slice b3 u.length d3,.slice b4 u.length d4] 33)
 have lO:=zzT cm A3
 have BN:=bz (xX.mk' A3 x5 hp4)
 have BP5:=bz (BP3.out.next lO)
 have BO5:=bz (BO.out.next lO)
 have F7:=bz (zzT dY.out lO)
 have HW5:=bz od
 clear cm hp4 od A3 x5 lO C2 BP3 BO dY e0 e1
 obtain ⟨⟨e2,e3⟩,Aw⟩:=BO5.out W5 (bh _ _)
 obtain ⟨⟨e4,e5⟩,c_⟩:=BN.out W5 (bh _ _)
 cases r with
 | none =>
   obtain ⟨hu,hq⟩:=HUQ.out
   have hu:[]=u:=hu
   have hq:false=q:=hq
   subst hu;subst hq
   have C3:=bz (uI [] _ _ _ _ W5 Aw c_ (by simp))
   have BO6:=bz BO5.out
   have BN6:=bz BN.out
   have C4:=bz (fun (y:World) (hy:Below W5.heap.size W5 y)=>uI [] _ _ _ _ y (BO6.out y hy).2 (BN6.out y hy).2 (by simp))
   clear Aw c_
   simp only [List.length_nil] at *
   go_upto_region 6 with (fail)
   rw [HW5.out]
   go_wp2_with fail
   (with_reducible refine C3.out.mono ?_)
   rintro en w6 ⟨rfl,cI⟩
   have H6:=bz cI
   have C5:=bz (C4.out w6 cI)
   clear cI C3 C4 e2 e3 e4 e5
   obtain ⟨⟨e2,e3⟩,_⟩:=BO6.out w6 H6.out
   obtain ⟨⟨e4,e5⟩,_⟩:=BN6.out w6 H6.out
   go_wp2_with fail
   (with_reducible refine C5.out.mono ?_)
   rintro en w7 ⟨rfl,cP⟩
   have HF:=bz (F7.out.trans ((zzT H6.out cP).mono F7.out.size))
   clear cP C5
   go_wp2_with fail
   go_ret
   exact ⟨rfl,HF.out⟩
 | some u' =>
   obtain ⟨hu,hq⟩:=HUQ.out
   have hu:u'=u:=hu
   have hq:true=q:=hq
   subst hu;subst hq
   obtain ⟨x,z,B5⟩:=reply_facts HR.out
   have sg:=bz B5
   have fg:u'.length=l.length+1:=by rw [B5.hu,List.length_append];rfl
   have m7:=F2.out
   have C3:=bz (uI u' _ _ _ _ W5 Aw c_ (by omega))
   have HUL:=bz fg
   have hl0:0<l.length:=by have:=B5.odd;omega
   clear Aw c_ B5 fg
   go_upto_region 6 with (fail)
   rw [HW5.out]
   go_wp2_with fail
   (with_reducible refine C3.out.mono ?_)
   rintro en w6 ⟨rfl,cI⟩
   have H6:=bz cI
   clear cI C3 e2 e3 e4 e5
   obtain ⟨⟨e0,e1⟩,Ay⟩:=BP5.out w6 H6.out
   have C6:=bz (CPP.out w6 _ _ Ay hl0 sg.out.ok sg.out.vis sg.out.val sg.out.lenV sg.out.inV)
   have lr:=bz sg.out.rep
   have HLP:=bz sg.out.limP
   have sh:=bz (show (kX l (zd l false l.length)).length<=60 by rw [ja];exact sg.out.lenV)
   generalize kX l (zd l false l.length)=P at *
   clear Ay CPP
   go_wp2_with fail
   (with_reducible refine C6.out.mono ?_)
   rintro en w7 ⟨b5,d5,b6,d6,rfl,cP,oM⟩
   obtain ⟨W8,rq,A2,_,x8⟩:=kV w7 (.cells #[.slice b5 P.length d5,.slice b6 P.length d6] 33)
   have fl:=H6.out.trans ((zzT cP A2).mono H6.out.size)
   have BT:=bz (xX.mk' A2 x8 oM)
   have BP8:=bz (BP5.out.next fl)
   have BO8:=bz (BO5.out.next fl)
   have rW:=bz (zzT F7.out fl)
   have HW8:=bz rq
   clear cP oM rq A2 x8 fl C6 BP5 BO5 BN F7 H6 e0 e1
   obtain ⟨⟨e0,e1⟩,hp8⟩:=BT.out W8 (bh _ _)
   have C8:=CR.out W8 rW.out P _ _ hp8 HLP.out
   unfold PlQ at C8
   rw [lr.out,Option.getD_some,Option.isSome_some] at C8
   have C8:=bz C8
   obtain ⟨V,hV⟩:=zzN (P++[(x.1,z)])
   rw [hV] at C8
   have fv:V.length=P.length+1:=by rw [<- hV,List.length_append];rfl
   have Do:V[V.length-1]? = some (x.1,z):=by rw [fv,Nat.add_sub_cancel,<- hV];exact uX P _
   have HV:=bz (bj fv Do)
   clear hp8 CR hV fv Do
   go_upto_region 9 with (fail)
   rw [HW8.out]
   go_wp2_with fail
   (with_reducible refine C8.out.mono ?_)
   rintro en w9 ⟨b7,d7,b8,d8,rfl,A8,hp9,_⟩
   obtain ⟨dA,dV,aT,_,x10⟩:=kV w9 (.cells #[.slice b7 V.length d7,.slice b8 V.length d8] 33)
   have lI:=zzT A8 aT
   have BV:=bz (xX.mk' aT x10 hp9)
   have BP10:=bz (BP8.out.next lI)
   have oK:=bz (BO8.out.next lI)
   have l_:=bz (zzT rW.out lI)
   have HW10:=bz dV
   clear A8 hp9 dV aT x10 lI C8 BP8 BO8 BT rW e0 e1
   obtain ⟨⟨e0,e1⟩,_⟩:=BP10.out dA (bh _ _)
   have hux:u'[l.length]? = some x:=by rw [sg.out.hu];exact uX l x
   obtain ⟨_,Aw⟩:=oK.out dA (bh _ _)
   obtain ⟨_,hpv⟩:=BV.out dA (bh _ _)
   obtain ⟨gu,cu,eu,ku⟩:=Aw.cellM hux
   obtain ⟨gv,cv,ev,kv⟩:=hpv.cellM HV.out.2
   simp only [Value.slice.injEq,true_and] at eu ev
   obtain ⟨rfl,rfl⟩:=eu
   obtain ⟨rfl,rfl⟩:=ev
   have CLL:=bz (fun (y:World) (hy:Below dA.heap.size dA y)=>CL.out y u' _ _ (oK.out y hy).2 sg.out.limU)
   have CFF:=bz (fun (y:World) (hy:Below dA.heap.size dA y)=>CF.out y (zzT l_.out hy) u' _ _ (oK.out y hy).2 sg.out.limU)
   rw [sg.out.leg] at CLL
   rw [sg.out.fol] at CFF
   have fv:=HV.out.1
   have fg:=HUL.out
   have cG:=sh.out
   obtain ⟨nv,AE⟩:=zzN (V.length)
   obtain ⟨nu,hnu⟩:=zzN (u'.length)
   obtain ⟨nl,iS⟩:=zzN (l.length)
   obtain ⟨mm,tr⟩:=zzN (x.1)
   have KEYZ:Hid (∀ y,Below dA.heap.size dA y->(y.cell? ⟨w2.heap.size,0,none⟩=some (.slice (some ⟨gu,0,none⟩) nu d1)/\y.cell? ⟨w2.heap.size,1,none⟩=some (.slice b2 nu d2))/\y.cell? ⟨w9.heap.size,0,none⟩=some (.slice (some ⟨gv,0,none⟩) nv d7)/\y.cell? ⟨gv,nv-1,none⟩=some (str mm)/\y.cell? ⟨gu,nl,none⟩=some (str mm)):=bz (fun y hy=>by
    obtain ⟨⟨q2,q3⟩,_⟩:=oK.out y hy
    obtain ⟨⟨q4,_⟩,_⟩:=BV.out y hy
    rw [hnu] at q2 q3
    rw [AE] at q4 kv
    rw [iS] at ku
    rw [tr] at ku kv
    exact ⟨⟨q2,q3⟩,q4,(hy.cell (bp _ _ kv)).trans kv,(hy.cell (bp _ _ ku)).trans ku⟩)
   rw [AE] at fv
   rw [hnu] at fg CLL CFF
   rw [iS] at fg m7
   have hnvI:IntKind.i64.wrap ((nv:Int)-1)=((nv-1:Nat):Int):=by rw [qV _ (by omega) (by omega)];omega
   have D0:IntKind.i64.wrap ((nl:Int)+1)=(nu:Int):=by rw [qV _ (by omega) (by omega)];omega
   have h1:((nv-1:Nat):Int)<(nv:Int):=by omega
   have h2:(nl:Int)<(nu:Int):=by omega
   rw [iS] at e0 e1
   clear hux Aw hpv fv fg cG AE hnu iS tr m7 F2 hl0 CL CF kv ku
   go_upto_region 10 with (fail)
   rw [HW10.out]
   go_upto_region 11 with (fail)
   clear e0 e1
   refine wp_region_noPanic ?_
   refine zW (fun w'=>Below dA.heap.size dA w') (fun _=>false) (by kernel_rfl) ?_
   have cZ:(fun w'=>Below dA.heap.size dA w') dA.drew:=Below.drew (bh _ _)
   refine tk [0,1,2,3,4,5,6] cZ ?_
   (intro d hd;simp [tkD] at hd;subst hd;simp only [tks,pQ,pZ,pS])
   iterate 7 (refine ⟨?_,?_,?_⟩;rotate_left;· (intro oi ho;simp at ho;subst ho;refine Or.inl ⟨by rfl,fun w' b_=>?_⟩;obtain ⟨⟨e2,e3⟩,e4,e5,e6⟩:=KEYZ.out w' b_;go_simp;try with_reducible rfl))
   (refine on 7 ?_;intro o ho K' hK;simp at ho;subst ho;go_simp)
   go_at_call 18
   (with_reducible refine (CLL.out _ cZ).mono ?_)
   rintro en w11 ⟨rfl,mZ⟩
   have ep:Below dA.heap.size dA w11:=Below.trans cZ (mZ.mono (Below.size cZ))
   clear mZ
   (refine hK.out _ _ (fun _=>ep) ?_;clear hK K';try simp only [pQ,pN,pZ,pS])
   have sj:=ep
   refine tk [8,9,10,11,12] sj ?_
   (intro d hd;simp [tkD] at hd;subst hd;simp only [tks,pQ,pZ,pS])
   iterate 5 (refine ⟨?_,?_,?_⟩;rotate_left;· (intro oi ho;simp at ho;subst ho;refine Or.inl ⟨by rfl,fun w' b_=>?_⟩;obtain ⟨⟨e2,e3⟩,e4,e5,e6⟩:=KEYZ.out w' b_;go_simp;try with_reducible rfl))
   (refine on 13 ?_;intro o ho K' hK;simp at ho;subst ho;go_simp)
   go_at_call 12
   (with_reducible refine (CFF.out _ ep).mono ?_)
   rintro en w12 ⟨rfl,cT⟩
   have ce:Below dA.heap.size dA w12:=Below.trans ep (cT.mono (Below.size ep))
   clear cT
   (refine hK.out _ _ (fun _=>ce) ?_;clear hK K';try simp only [pQ,pN,pZ,pS])
   have aw:=ce
   refine tk [14,15,16,17,18,19,20,21,22,23,24,25,26,27,28,29,30,31,32,33,34,35,36,37,38] aw ?_
   (intro d hd;simp [tkD] at hd;subst hd;simp only [tks,pQ,pZ,pS])
   iterate 25 (refine ⟨?_,?_,?_⟩;rotate_left;· (intro oi ho;simp at ho;subst ho;refine Or.inl ⟨by rfl,fun w' b_=>?_⟩;obtain ⟨⟨e2,e3⟩,e4,e5,e6⟩:=KEYZ.out w' b_;go_simp;try with_reducible rfl))
   (refine on 39 ?_;intro o ho K' hK;simp at ho;subst ho;go_simp)
   (refine hK.out _ _ (fun _=>ce) ?_;clear hK K';try simp only [pQ,pN,pZ,pS])
   refine zU (by kernel_rfl) (NoPanic.normal ?_) _
   have H12:=bz ce
   clear ep ce cZ
   have HF:=bz (zzT l_.out H12.out)
   go_wp2_with fail
   go_ret
   exact ⟨rfl,HF.out⟩
end Go.Proofs.YtfedjhgaeikjmaaGreatDoor

/- Walks of functions that the statement reaches, and plain words. No conditions. -/
import Derived.Laws.Entries
import Derived.Test.YtfedjhgaeikjmaaGreatDoorQ5
set_option linter.unusedVariables false
set_option linter.unusedSimpArgs false
set_option maxHeartbeats 8000000
namespace Go.Proofs.YtfedjhgaeikjmaaGreatDoor
open Go.RowKit
set_option maxRecDepth 20000 in
theorem uV (c:UInt8) (p:Bs) (hl:p.length<=16777216) (w:World):Calls Tryz.prog 123 #[str (c::p)] w fun en w'=>en=.returned (.string ⟨(qt (c::p)).toArray⟩)/\w'=w:=by
 obtain ⟨M,hM⟩:=zzM (c::p)
 obtain ⟨n,hn⟩:=zzM (p.length)
 have nh:(M.length:Int)=(n:Int)+1:=by rw [hM,hn];simp
 have d_:0<M.length:=by rw [hM];simp
 have nc:(0:Int)<(M.length:Int):=by omega
 have FA:(1:Int)<=(M.length:Int):=by omega
 have B0:((((⟨M.toArray⟩:ByteArray)[0]'(kP d_)).toNat:Int))=(c.toNat:Int):=by rw [kr d_];subst hM;rfl
 have hq:=q_int c
 by_cases hc:c=113
 ·have hcq:((c.toNat:Int) != 113)=false:=by rw [bne,hq,hc];rfl
  by_cases hp:p=[]
  ·have E:=bz (show qt (c::p)=[] by rw [hc,hp];rfl)
   have dX:((M.length:Int) == 1)=true:=by rw [nh,hn,hp];rfl
   rw [<- hM] at E ⊢
   clear hM hn hq hc hp nh
   go_enter Tryz.func123,Tryz.ntmps123
   go_wp2_with fail
   go_ret
   exact ⟨by rw [E.out];rfl,rfl⟩
  ·have rC:0<n:=by
    rw [hn]
    cases p with
    | nil=>exact absurd rfl hp
    | cons d q=>simp
   have E:=bz (show qt (c::p)=M.take n by
    unfold qt
    rw [if_neg (by simp [hp]),kf,hc,show ((113:UInt8) == 113)=true from rfl,if_pos rfl,List.dropLast_eq_take,hM,hc,hn];simp)
   have dX:((M.length:Int) == 1)=false:=by rw [beq_eq_false_iff_ne];omega
   have ex:(⟨M.toArray⟩:ByteArray).extract 0 n=⟨(M.take n).toArray⟩:=by rw [vE];rfl
   have hw:IntKind.i64.wrap ((M.length:Int)-1)=(n:Int):=by
    rw [nh,show (n:Int)+1-1=(n:Int) from by omega];exact k_ _ (by omega)
   have tQ:(n:Int)<=(M.length:Int):=by omega
   obtain ⟨R,hR⟩:=zzM (M.take n)
   rw [<- hR] at ex E
   rw [<- hM] at E ⊢
   clear hM hn hq hc hp nh hR rC
   go_enter Tryz.func123,Tryz.ntmps123
   go_wp2_with fail
   go_ret
   exact ⟨by rw [E.out];rfl,rfl⟩
 ·have hcq:((c.toNat:Int) != 113)=true:=by rw [bne,hq];simp [hc]
  have E:=bz (show qt (c::p)=113::p by
   unfold qt
   rw [if_neg (by simp [hc]),kf,show (c == 113)=false from by simp [hc],if_neg (by simp),List.tail_cons])
  have ex:(⟨M.toArray⟩:ByteArray).extract 1 M.length=⟨p.toArray⟩:=by rw [hM];exact yw c p
  have a1:=fun w0=>k7 (P:=Tryz.prog) [113] p (by simp;omega) w0
  rw [List.singleton_append] at a1
  obtain ⟨R,hR⟩:=zzM (113::p)
  rw [<- hR] at a1 E
  rw [<- hM] at E ⊢
  clear hM hn hq hc nh hR
  go_enter Tryz.func123,Tryz.ntmps123
  go_wp2_with fail
  go_ret
  exact ⟨by rw [E.out];rfl,rfl⟩
set_option maxRecDepth 20000 in
theorem l1Move_any (F:Nat->Prop) (t:Ty) (tv:Value) (m:Bs) (w:World) (hk:Rep F w (qP t) tv) (ht:zP t<=15) (hl:Lim m.length) :
 Calls Tryz.prog 140 #[.agg #[tv],str m] w fun en w'=>en=.returned (.bool (qm t m))/\Below w.heap.size w w':=by
 obtain ⟨ta,tc,rfl⟩:=zp hk
 obtain ⟨W,hW,b9,hz,b0⟩:=kV w (.cells #[.slice ta t.args.length tc] 61)
 cases m with
 | nil =>
   have HW:=bz (bj hW b9)
   clear hW b9 hz b0 hk
   go_enter Tryz.func140,Tryz.ntmps140
   go_upto_region 1 with (fail)
   rw [HW.out.1]
   go_wp2_with fail
   go_ret
   exact ⟨rfl,HW.out.2⟩
 | cons c p =>
   have dd:=hl.le
   rw [List.length_cons] at dd
   have C2:=bz (fun x (hx:Below W.heap.size W x)=>l1At_any F t p (.slice ta t.args.length tc) x ((hk.below b9 (fun _ h=>h)).below hx (fun _ h=>h)) ht (show _<=_ by omega))
   have KEY:Hid (∀ x,Below W.heap.size W x->x.cell? ⟨w.heap.size,0,none⟩=some (.slice ta t.args.length tc)):=bz (fun x hx=>by
    have k0:=kF b0
    exact (hx.cell (bp _ _ k0)).trans k0)
   obtain ⟨M,hM⟩:=zzM (c::p)
   have E:Hid (qm t M=((c == 113 || c == 116 || c == 102) && (atT t p).isSome)):=by rw [hM];exact bz rfl
   have hMl0:((M.length:Int) == 0)=false:=by rw [beq_eq_false_iff_ne,hM];simp;omega
   have d_:0<M.length:=by rw [hM];simp
   have nc:(0:Int)<(M.length:Int):=by omega
   have FA:(1:Int)<=(M.length:Int):=by omega
   obtain ⟨x,hx⟩:∃ x:Nat,c.toNat=x:=⟨_,rfl⟩
   have B0:((((⟨M.toArray⟩:ByteArray)[0]'(kP d_)).toNat:Int))=(x:Int):=by rw [kr d_,<- hx];subst hM;rfl
   have ex:(⟨M.toArray⟩:ByteArray).extract 1 M.length=⟨p.toArray⟩:=by rw [hM];exact yw c p
   have ceq:∀ d:UInt8,(c == d)=decide (x=d.toNat):=fun d=>by
    rw [Bool.eq_iff_iff,beq_iff_eq,decide_eq_true_iff,<- hx]
    exact ⟨fun h=>by rw [h],fun h=>UInt8.toNat_inj.1 h⟩
   rw [ceq,ceq,ceq] at E
   have HW:=bz (bj hW b9)
   rw [<- hM]
   clear hW b9 hz b0 hk hM hl ceq hx
   by_cases cr:x=113\/x=116\/x=102
   ·have E2:Hid (qm t M=(atT t p).isSome):=by
     rw [E.out]
     rcases cr with rfl | rfl | rfl <;> exact bz (by simp)
    have iC:((x:Int) != 113 && ((x:Int) != 116 && (x:Int) != 102))=false:=by rcases cr with rfl | rfl | rfl <;> rfl
    clear E
    obtain ⟨ok,cD⟩:=zzN ((atT t p).isSome)
    rw [cD] at E2
    replace C2:Hid (∀ x,Below W.heap.size W x->Calls Tryz.prog 129 #[.agg #[.slice ta t.args.length tc],str p] x fun en w'=>∃ va vn vc,en=.returned (.tuple #[.agg #[.slice va vn vc],.bool ok])/\Below x.heap.size x w'):=bz (fun x hx=>(C2.out x hx).mono (by
     rintro en w' ⟨va,vn,vc,rfl,hb,_⟩
     exact ⟨va,vn,vc,by rw [cD],hb⟩))
    clear cD
    rcases cr with rfl | rfl | rfl
    all_goals
     go_enter Tryz.func140,Tryz.ntmps140
     go_upto_region 1 with (fail)
     rw [HW.out.1]
     go_upto_region 3 with (fail)
     refine j9 (X:=Option Addr×Nat×Nat×Nat) (fun zz x=>(((((((((zz.put (some 26) (.agg #[.slice ta t.args.length tc])).put (some 27) (str M)).put (some 28) (str p)).put (some 29) (.tuple #[.agg #[.slice x.1 x.2.1 x.2.2.1],.bool ok])).put (some 25) (.tuple #[.agg #[.slice x.1 x.2.1 x.2.2.1],.bool ok])).put (some 30) (.agg #[.slice x.1 x.2.1 x.2.2.1])).put (some 31) (.bool ok)).put (some 5) (.pointer (some ⟨x.2.2.2,0,none⟩))).put (some 6) (.bool ok))) (fun x w7=>Below W.heap.size W w7) ?_ ?_
     ·refine wp_region_noPanic ?_
      refine zW (fun w'=>Below W.heap.size W w') (fun _=>false) (by kernel_rfl) ?_
      obtain ⟨y0,dH⟩:=zzN (W.drew)
      rw [dH]
      have cX:Below W.heap.size W y0:=by rw [<- dH];exact Below.drew (bh _ _)
      obtain ⟨fT,eG⟩:∃ x:Nat->Nat,x=fun _=>0:=⟨_,rfl⟩
      clear dH eG
      refine tk [0,1,2] cX ?_
      (intro d hd;simp [tkD] at hd;subst hd;simp only [tks,pQ,pZ,pS])
      iterate 3 (refine ⟨?_,?_,?_⟩;rotate_left;· (intro oi ho;simp at ho;subst ho;refine Or.inl ⟨by rfl,fun w' b_=>?_⟩;have e0:=KEY.out w' b_;go_simp;try with_reducible rfl))
      refine kH 3 7 (by kernel_rfl) ?_ ?_
      ·(intro o3 ho K' hK;simp at ho;subst ho)
       go_simp
       go_at_call 129
       (with_reducible refine (C2.out _ cX).mono ?_)
       rintro en y1 ⟨va,vn,vc,rfl,hb⟩
       have cC:Below W.heap.size W y1:=zzT cX hb
       have nZ:=bz hb;clear hb
       (refine hK.out _ _ (fun _=>cC) ?_;clear hK K';try simp only [pQ,pN,pZ,pS])
       refine tk [4,5,6] cC ?_
       (intro d hd;simp [tkD] at hd;subst hd;simp only [tks,pQ,pZ,pS])
       iterate 3 (refine ⟨?_,?_,?_⟩;rotate_left;· (intro oi ho;simp at ho;subst ho;refine Or.inl ⟨by rfl,fun w' b_=>?_⟩;go_simp;try with_reducible rfl))
       (refine on 7 ?_;intro o ho K' hK;simp at ho;subst ho;go_simp)
       (refine hK.out _ _ (fun _=>cC.alloc cC.size _) ?_;clear hK K';try simp only [pQ,pN,pZ,pS])
       obtain ⟨y2,be⟩:=zzN (y1.alloc (.cells #[.slice none 0 0] 61))
       obtain ⟨gK,nG⟩:=zzN (y1.heap.size)
       rw [be,nG]
       have dZ:Below W.heap.size W y2:=by rw [<- be];exact cC.alloc cC.size _
       obtain ⟨mx,cV⟩:=zzN (zS fT gK 1)
       have EK:Hid (y2.heap[gK]? = some (.cells #[.slice none 0 0] 61 (0,0))/\mx gK=1/\W.heap.size<=gK):=by rw [<- be,<- cV,<- nG];exact ⟨zR _ _,by unfold zS;rw [if_pos rfl],cC.size⟩
       clear be nG cV
       (refine on 8 ?_;intro o ho K' hK;simp at ho;subst ho)
       obtain ⟨uK0,Bv⟩:∃ u,y2.cell? ⟨gK,0,none⟩=some u:=⟨_,by simp [World.cell?,EK.out.1];rfl⟩
       have Br:y2.frozen? ⟨gK,0,none⟩=false:=by simp [World.frozen?,EK.out.1]
       go_simp
       (refine hK.out _ _ (fun _=>(dZ.setCell (p:=⟨gK,0,none⟩) EK.out.2.2 _)) ?_;clear hK K';try simp only [pQ,pN,pZ,pS])
       obtain ⟨y3,be⟩:=zzN ((y2.setCell ⟨gK,0,none⟩ (.slice va vn vc)))
       rw [be]
       have eV:Below W.heap.size W y3:=by rw [<- be];exact (dZ.setCell (p:=⟨gK,0,none⟩) EK.out.2.2 _)
       have cR:But (fun i=>i=gK) y2 y3:=by rw [<- be];exact ((But.refl (fun i=>i=gK) y2).setCell (p:=⟨gK,0,none⟩) (.inl rfl) _)
       have cV:∀ g,g=gK->mx g=1:=fun g e=>by rw [e];exact EK.out.2.1
       have EK:Hid (y3.heap[gK]? = some (.cells #[.slice va vn vc] 61 (0,0))/\mx gK=1/\W.heap.size<=gK):=⟨by rw [<- be];exact (zQ EK.out.1),EK.out.2⟩
       clear be cR cV Bv Br
       (refine on 9 ?_;intro o ho K' hK;simp at ho;subst ho;go_simp)
       (refine hK.out _ _ (fun _=>eV) ?_;clear hK K';try simp only [pQ,pN,pZ,pS])
       refine zU (by kernel_rfl) (NoPanic.normal ?_) _
       exact ⟨rfl,⟨va,vn,vc,gK⟩,by rfl,eV⟩
      ·(intro o7 ho K' hK;simp at ho;subst ho)
       go_simp
       (refine hK.out _ _ (fun _=>cX.alloc cX.size _) ?_;clear hK K';try simp only [pQ,pN,pZ,pS])
       obtain ⟨y5,be⟩:=zzN (y0.alloc (.cells #[.slice none 0 0] 61))
       obtain ⟨gK,nG⟩:=zzN (y0.heap.size)
       rw [be,nG]
       have eB:Below W.heap.size W y5:=by rw [<- be];exact cX.alloc cX.size _
       obtain ⟨mu,cV⟩:=zzN (zS fT gK 1)
       have EK:Hid (y5.heap[gK]? = some (.cells #[.slice none 0 0] 61 (0,0))/\mu gK=1/\W.heap.size<=gK):=by rw [<- be,<- cV,<- nG];exact ⟨zR _ _,by unfold zS;rw [if_pos rfl],cX.size⟩
       clear be nG cV
       (refine on 3 ?_;intro o ho K' hK;simp at ho;subst ho;go_simp)
       go_at_call 129
       (with_reducible refine (C2.out _ eB).mono ?_)
       rintro en y6 ⟨va,vn,vc,rfl,hb⟩
       have dW:Below W.heap.size W y6:=zzT eB hb
       have EK:Hid (y6.heap[gK]? = some (.cells #[.slice none 0 0] 61 (0,0))/\mu gK=1/\W.heap.size<=gK):=⟨(hb.block _ (zZ EK.out.1)).trans EK.out.1,EK.out.2⟩
       have ER:=bz hb;clear hb
       (refine hK.out _ _ (fun _=>dW) ?_;clear hK K';try simp only [pQ,pN,pZ,pS])
       refine tk [4,5,6] dW ?_
       (intro d hd;simp [tkD] at hd;subst hd;simp only [tks,pQ,pZ,pS])
       iterate 3 (refine ⟨?_,?_,?_⟩;rotate_left;· (intro oi ho;simp at ho;subst ho;refine Or.inl ⟨by rfl,fun w' b_=>?_⟩;go_simp;try with_reducible rfl))
       (refine on 8 ?_;intro o ho K' hK;simp at ho;subst ho)
       obtain ⟨uK0,Bv⟩:∃ u,y6.cell? ⟨gK,0,none⟩=some u:=⟨_,by simp [World.cell?,EK.out.1];rfl⟩
       have Br:y6.frozen? ⟨gK,0,none⟩=false:=by simp [World.frozen?,EK.out.1]
       go_simp
       (refine hK.out _ _ (fun _=>(dW.setCell (p:=⟨gK,0,none⟩) EK.out.2.2 _)) ?_;clear hK K';try simp only [pQ,pN,pZ,pS])
       obtain ⟨y7,be⟩:=zzN ((y6.setCell ⟨gK,0,none⟩ (.slice va vn vc)))
       rw [be]
       have dh:Below W.heap.size W y7:=by rw [<- be];exact (dW.setCell (p:=⟨gK,0,none⟩) EK.out.2.2 _)
       have cR:But (fun i=>i=gK) y6 y7:=by rw [<- be];exact ((But.refl (fun i=>i=gK) y6).setCell (p:=⟨gK,0,none⟩) (.inl rfl) _)
       have cV:∀ g,g=gK->mu g=1:=fun g e=>by rw [e];exact EK.out.2.1
       have EK:Hid (y7.heap[gK]? = some (.cells #[.slice va vn vc] 61 (0,0))/\mu gK=1/\W.heap.size<=gK):=⟨by rw [<- be];exact (zQ EK.out.1),EK.out.2⟩
       clear be cR cV Bv Br
       (refine on 9 ?_;intro o ho K' hK;simp at ho;subst ho;go_simp)
       (refine hK.out _ _ (fun _=>dh) ?_;clear hK K';try simp only [pQ,pN,pZ,pS])
       refine zU (by kernel_rfl) (NoPanic.normal ?_) _
       exact ⟨rfl,⟨va,vn,vc,gK⟩,by rfl,dh⟩
     rintro ⟨va,vn,vc,gK⟩ W9 FI
     simp only [pQ,pN,pZ,pS]
     have HB9:=bz FI
     clear FI
     go_wp2_with fail
     go_ret
     exact ⟨by rw [E2.out];rfl,zzT HW.out.2 HB9.out⟩
   ·have E2:Hid (qm t M=false):=by
     rw [E.out]
     exact bz (by
      have h1:¬ x=113:=fun h=>cr (.inl h)
      have h2:¬ x=116:=fun h=>cr (.inr (.inl h))
      have h3:¬ x=102:=fun h=>cr (.inr (.inr h))
      simp only [Bool.and_eq_false_iff,Bool.or_eq_false_iff,decide_eq_false_iff_not]
      exact .inl ⟨⟨h1,h2⟩,h3⟩)
    have mh:((x:Int) != 113)=true:=by rw [bne_iff_ne];omega
    have fZ:((x:Int) != 116)=true:=by rw [bne_iff_ne];omega
    have oX:((x:Int) != 102)=true:=by rw [bne_iff_ne];omega
    clear E cr
    go_enter Tryz.func140,Tryz.ntmps140
    go_upto_region 1 with (fail)
    rw [HW.out.1]
    go_wp2_with fail
    go_ret
    exact ⟨by rw [E2.out];rfl,HW.out.2⟩
theorem bX (c:UInt8) (p:Bs):(⟨(c::p).toArray⟩:ByteArray).extract 1 (c::p).length=⟨p.toArray⟩:=by rw [vE,List.take_length];rfl
def BehQ (b':Bd) (lv:List zc) (bg:zc) (F:Nat->Prop) (w:World) (en:Ending) (w':World):Prop :=
 ∃ a la lc,en=.returned (.agg #[.pointer (some ⟨a,0,none⟩),.slice la lv.length lc,.int .i64 (bg.1:Nat),str bg.2])/\Below w.heap.size w w'/\Rep F w (qa b') (.pointer (some ⟨a,0,none⟩))/\jO (w.heap.size<=·) w' lv (.slice la lv.length lc)
set_option maxRecDepth 100000 in
theorem behind_q (F:Nat->Prop) (t a:Ty) (l j:Nat) (ss:List Bd) (s y n:Bd) (bv kv lsl:Value) (lv:List zc) (bg:zc) (p:Bs) (idx:Nat) (w:World) (hg:jD w) (hb:Rep F w (qa (.ask l ss y n)) bv) (hk:Rep F w (jA t) kv) (dT:jO F w lv lsl) (ht:zP t<=15)
 (hs:ss[j]? = some s) (hj:j<10) (hp:0<p.length) (cG:p.length<=1000) (eY:p[p.length-1]=qo j) (hat:atT t p=some a) (eC:lv.length<=100000) (hssl:ss.length<=100000) :
 Calls Tryz.prog 104 #[.agg #[bv,lsl,.int .i64 (bg.1:Nat),str bg.2],kv,str (113::p),.int .i64 (idx:Nat)] w (BehQ s (lv++zh a.args.length idx p) (idx,p) F w):=by
 obtain ⟨kb,ks,rfl,_,hkb,aY⟩:=zf hk
 obtain ⟨la,lc,rfl,_⟩:=dT.open
 obtain ⟨b,sl,yv,nv,rfl,_,rI,B3,hy,hn⟩:=wB hb
 obtain ⟨sa,sc,rfl,fb,cU,cO⟩:=zI B3
 have hjl:=(List.getElem?_eq_some_iff.1 hs).1
 obtain ⟨sb,so,su,sd,rfl,_,mW,tT,i_,hsu⟩:=cO j hjl
 rw [encBs_at,hs] at tT
 obtain rfl:=Option.some.inj tT
 obtain ⟨ab,rfl⟩:=qk hsu
 obtain ⟨W,hW,b9,hz,b0,b1⟩:=kD w (.cells #[.pointer (some ⟨b,0,none⟩),.slice la lv.length lc,.int .i64 (bg.1:Nat),str bg.2] 117) (.cells #[.pointer none,.slice none 0 0,.int .i64 0,str []] 117)
 have a15:=qH _ _ _ hat
 have aarg:=kt a
 have KEY:Hid (∀ x,Below W.heap.size W x->x.cell? ⟨w.heap.size,0,none⟩=some (.pointer (some ⟨b,0,none⟩))/\x.cell? ⟨b,2,none⟩=some (.slice (some ⟨sb,so,none⟩) ss.length sc)/\x.cell? ⟨sb,so+j,none⟩=some (.pointer (some ⟨ab,0,none⟩))):=bz (fun x hx=>by
  obtain ⟨k0,_,_,_⟩:=kK b0
  have k2:W.cell? ⟨b,2,none⟩=some (.slice (some ⟨sb,so,none⟩) ss.length sc):=(b9.cell (by exact zZ rI)).trans (by simp [World.cell?,rI])
  have k3:W.cell? ⟨sb,so+j,none⟩=some (.pointer (some ⟨ab,0,none⟩)):=(b9.cell mW).trans i_
  exact ⟨(hx.cell (bp _ _ k0)).trans k0,(hx.cell (bp _ _ k2)).trans k2,(hx.cell (bp _ _ k3)).trans k3⟩)
 have f0:=zB b0 0
 have ex:(⟨(113::p).toArray⟩:ByteArray).extract 1 (p.length+1)=⟨p.toArray⟩:=bX 113 p
 obtain ⟨m1,mn⟩:=zzM (p.length-1)
 have hpm:IntKind.i64.wrap ((p.length:Int)-1)=(m1:Int):=by rw [show (p.length:Int)-1=(m1:Int) from by omega];exact k_ _ (by omega)
 have oF:m1<p.length:=by omega
 have iA:p[m1]=qo j:=by subst mn;exact eY
 have B:((((⟨p.toArray⟩:ByteArray)[m1]'(kP oF)).toNat:Int))=48+(j:Int):=by rw [kr oF,iA,uC hj];omega
 have hj8:IntKind.u8.wrap (48+(j:Int)-48)=(j:Int):=by simp [IntKind.wrap,IntKind.bits,IntKind.signed];omega
 have hjI:(j:Int)<(ss.length:Int):=by omega
 have Eb:(m1:Int)<(p.length:Int):=by omega
 have HW:=bz (bj hW (bj b9 (bj hz (bj b0 b1))))
 have HA:=bz (bj hg (bj hk (bj dT (bj hat (bj hsu (bj ht (bj a15 aarg)))))))
 have HL:=bz (bj cG eC)
 clear hW b9 hz b0 b1 rI B3 hy hn hb cO cU fb i_ mW hsu hg hk dT hkb aY hat hs eY ht a15 aarg mn iA cG eC
 go_enter Tryz.func104,Tryz.ntmps104
 go_upto_region 1 with (fail)
 rw [HW.out.1]
 go_upto_region 3 with (fail)
 refine wp_region_noPanic ?_
 refine zW (fun w'=>Below W.heap.size W w') (fun i=>i == 14) (by kernel_rfl) ?_
 have cZ:(fun w'=>Below W.heap.size W w') W.drew:=Below.drew (bh _ _)
 refine tk [0,1,2,3,4,5,6,7,8,9,10,11,12,13] cZ ?_
 (intro d hd;simp [tkD] at hd;subst hd;simp only [tks,pQ,pZ,pS])
 iterate 14 (refine ⟨?_,?_,?_⟩;rotate_left;· (intro oi ho;simp at ho;subst ho;refine Or.inl ⟨by rfl,fun w' b_=>?_⟩;obtain ⟨e0,e1,e2⟩:=KEY.out w' b_;go_simp;try with_reducible rfl))
 (refine on 14 ?_;intro o ho K' hK;simp at ho;subst ho)
 obtain ⟨e0,_,_⟩:=KEY.out W (bh _ _)
 go_simp
 (refine hK.out _ _ (fun h=>by simp at h) ?_;clear hK K';try simp only [pQ,pN,pZ,pS])
 refine zU (by kernel_rfl) (NoPanic.normal ?_) _
 obtain ⟨W2,mD⟩:=zzN ((W.setCell ⟨w.heap.size,0,none⟩ (.pointer (some ⟨ab,0,none⟩))).drew)
 have x0:W2.heap[w.heap.size]? = some (.cells #[.pointer (some ⟨ab,0,none⟩),.slice la lv.length lc,.int .i64 (bg.1:Nat),str bg.2] 117 (0,0)):=by
  rw [<- mD];show (W.setCell ⟨w.heap.size,0,none⟩ (.pointer (some ⟨ab,0,none⟩))).heap[w.heap.size]? = _
  rw [zQ HW.out.2.2.2.1];rfl
 have x1:W2.heap[w.heap.size+1]? = some (.cells #[.pointer none,.slice none 0 0,.int .i64 0,str []] 117 (0,0)):=by
  rw [<- mD];show (W.setCell ⟨w.heap.size,0,none⟩ (.pointer (some ⟨ab,0,none⟩))).heap[w.heap.size+1]? = _
  rw [bf _ _ _ _ (by show w.heap.size+1≠w.heap.size;omega)];exact HW.out.2.2.2.2
 have nx:Below w.heap.size w W2:=by rw [<- mD];exact (HW.out.2.1.setCell (p:=⟨w.heap.size,0,none⟩) (bw _) _).drew
 have mp:W2.heap.size=w.heap.size+2:=by rw [<- mD];show (W.setCell ⟨w.heap.size,0,none⟩ _).heap.size=_;simp [World.setCell,HW.out.2.2.1]
 rw [mD]
 have K2:Hid (∀ x,Below W2.heap.size W2 x->x.cell? ⟨w.heap.size,1,none⟩=some (.slice la lv.length lc)):=bz (fun x hx=>by
  obtain ⟨_,k1,_,_⟩:=kK x0
  exact (hx.cell (bp _ _ k1)).trans k1)
 have CA:Hid (∀ wz,Below W2.heap.size W2 wz->Calls Tryz.prog 135 #[.pointer (some ⟨kb,0,none⟩),str p] wz fun en w'=>∃ BR CZ CX,en=.returned (.pointer (some ⟨BR,0,none⟩))/\w'=wz/\wz.cell? ⟨BR,0,none⟩=some (.slice CZ a.args.length CX)):=bz (fun wz hz=>by
  have iL:=HA.out.2.1.below (zzT nx hz) (fun _ h=>h)
  have cG:=HL.out.1
  refine (hH F t p _ wz iL HA.out.2.2.2.2.2.1 (show _<=_ by omega)).mono ?_
  rintro en w' ⟨v,rfl,rfl,_,hy⟩
  obtain ⟨BR,ks2,rfl,_,fQ,de⟩:=zf (hy a HA.out.2.2.2.1)
  obtain ⟨CZ,CX,rfl,_⟩:=zI de
  exact ⟨BR,CZ,CX,rfl,rfl,by simp [World.cell?,fQ]⟩)
 have CP:=bz (fun wz (hz:Below W2.heap.size W2 wz)=>gh a.args.length idx p wz (HA.out.1.below (zzT nx hz)) (by have:=HA.out.2.2.2.2.2;omega) (by have:=HL.out.1;omega))
 have CC:=bz (fun x pa pc (hx:Below W2.heap.size W2 x) (ho:Own x 115 2 (.slice pa a.args.length pc) a.args.length (plcs idx p a.args.length)) =>
  concatP_any x.heap.size lv.length a.args.length (.slice la lv.length lc) (.slice pa a.args.length pc) (lvC lv) (lvC (zh a.args.length idx p)) (x.alloc (.cells #[.slice la lv.length lc,.slice pa a.args.length pc] 113)) (by simp) (by simp)
   ((HA.out.2.2.1.below (zzT nx hx) (fun _ h=>h)).src.alloc _) ((zM.ofOwn (by rw [plcs_eq] at ho;exact ho) (lvC_one _)).alloc _) (show _<=_ by have:=HL.out.2;omega) (show _<=_ by have:=HA.out.2.2.2.2.2;omega) (show _<=_ by have:=HL.out.2;have:=HA.out.2.2.2.2.2;omega))
 have H2:=bz (bj x0 (bj x1 (bj nx mp)))
 clear mD x0 x1 nx mp cZ KEY f0 ex hpm B hj8 hjI Eb
 go_upto_region 4 with (fail)
 refine wp_region_noPanic ?_
 refine zW (fun w'=>Below W2.heap.size W2 w') (fun i=>i == 15) (by kernel_rfl) ?_
 have cZ:(fun w'=>Below W2.heap.size W2 w') W2.drew:=Below.drew (bh _ _)
 refine tk [0,1,2,3,9,10] cZ ?_
 (intro d hd;simp [tkD] at hd;subst hd;simp only [tks,pQ,pZ,pS])
 iterate 6 (refine ⟨?_,?_,?_⟩;rotate_left;· (intro oi ho;simp at ho;subst ho;refine Or.inl ⟨by rfl,fun w' b_=>?_⟩;have e1:=K2.out w' b_;go_simp;try with_reducible rfl))
 (refine on 4 ?_;intro o ho K' hK;simp at ho;subst ho;go_simp)
 go_at_call 135
 (with_reducible refine (CA.out _ cZ).mono ?_)
 rintro en x4 ⟨BR,CZ,CX,rfl,ex4,hc4⟩
 subst ex4
 have EQ:Hid (∀ x,Below W2.heap.size W2 x->x.cell? ⟨BR,0,none⟩=some (.slice CZ a.args.length CX)):=bz (fun x hx=>(hx.cell (bp W2 _ hc4)).trans hc4)
 (refine hK.out _ _ (fun _=>cZ) ?_;clear hK K';try simp only [pQ,pN,pZ,pS])
 have om:=cZ
 refine tk [5,6,7,8] om ?_
 (intro d hd;simp [tkD] at hd;subst hd;simp only [tks,pQ,pZ,pS])
 iterate 4 (refine ⟨?_,?_,?_⟩;rotate_left;· (intro oi ho;simp at ho;subst ho;refine Or.inl ⟨by rfl,fun w' b_=>?_⟩;have e1:=EQ.out w' b_;go_simp;try with_reducible rfl))
 (refine on 11 ?_;intro o ho K' hK;simp at ho;subst ho;go_simp)
 go_at_call 111
 (with_reducible refine (CP.out _ cZ).mono ?_)
 rintro en ry ⟨pa,pc,rfl,DS,mZ,hf11⟩
 have ep:Below W2.heap.size W2 ry:=Below.trans cZ (mZ.mono (Below.size cZ))
 (refine hK.out _ _ (fun _=>ep) ?_;clear hK K';try simp only [pQ,pN,pZ,pS])
 (refine on 12 ?_;intro o ho K' hK;simp at ho;subst ho;go_simp)
 (refine hK.out _ _ (fun _=>ep.alloc ep.size _) ?_;clear hK K';try simp only [pQ,pN,pZ,pS])
 (refine on 13 ?_;intro o ho K' hK;simp at ho;subst ho)
 have ce:Below W2.heap.size W2 (ry.alloc (.cells #[.slice la lv.length lc,.slice pa a.args.length pc] 113)):=ep.alloc ep.size _
 go_simp
 go_at_call 134
 (with_reducible refine (CC.out ry pa pc ep DS).mono ?_)
 rintro en x13 ⟨ca,cc,rfl,DR,mB,Ez⟩
 have sx:Below W2.heap.size W2 x13:=zzT ce mB
 (refine hK.out _ _ (fun _=>sx) ?_;clear hK K';try simp only [pQ,pN,pZ,pS])
 have aw:=sx
 refine tk [14] aw ?_
 (intro d hd;simp [tkD] at hd;subst hd;simp only [tks,pQ,pZ,pS])
 (refine ⟨?_,?_,?_⟩;rotate_left;· (intro oi ho;simp at ho;subst ho;refine Or.inl ⟨by rfl,fun w' b_=>?_⟩;go_simp;try with_reducible rfl))
 (refine on 15 ?_;intro o ho K' hK;simp at ho;subst ho)
 have xx0:=(sx.block _ (zZ H2.out.1)).trans H2.out.1
 obtain ⟨_,e1,_,_⟩:=kK xx0
 have f1:=zB xx0 1
 go_simp
 (refine hK.out _ _ (fun h=>by simp at h) ?_;clear hK K';try simp only [pQ,pN,pZ,pS])
 refine zU (by kernel_rfl) (NoPanic.normal ?_) _
 obtain ⟨W3,rY⟩:=zzN (x13.setCell ⟨w.heap.size,1,none⟩ (.slice ca (lv.length+a.args.length) cc))
 have y0:W3.heap[w.heap.size]? = some (.cells #[.pointer (some ⟨ab,0,none⟩),.slice ca (lv.length+a.args.length) cc,.int .i64 (bg.1:Nat),str bg.2] 117 (0,0)):=by rw [<- rY,zQ xx0];rfl
 have xx1:=(sx.block _ (zZ H2.out.2.1)).trans H2.out.2.1
 have y1:W3.heap[w.heap.size+1]? = some (.cells #[.pointer none,.slice none 0 0,.int .i64 0,str []] 117 (0,0)):=by rw [<- rY,bf _ _ _ _ (by show w.heap.size+1≠w.heap.size;omega)];exact xx1
 have Ff:Below w.heap.size w W3:=by rw [<- rY];exact (zzT H2.out.2.2.1 sx).setCell (p:=⟨w.heap.size,1,none⟩) (bw _) _
 have hfr:∀ g,(Value.slice ca (lv.length+a.args.length) cc).ownBlock=some g->w.heap.size+2<=g:=fun g hg=>by
  have h1:=Ez g hg
  have h2:=ce.size
  have h3:=H2.out.2.2.2
  omega
 have cL:Own W3 115 2 (.slice ca (lv.length+a.args.length) cc) (lv.length+a.args.length) (lvC (lv++zh a.args.length idx p)):=by
  rw [g8,<- rY]
  exact DR.keep fun g o hg ho=>by
   have:=hfr g hg
   rw [bf _ _ _ _ (by show g≠w.heap.size;omega)];exact ho
 rw [rY]
 obtain ⟨k0,k1,k2,k3⟩:=kK y0
 have g2:=zB y0 2;have g3:=zB y0 3
 have H3:=bz (bj y0 (bj y1 (bj Ff (bj hfr cL))))
 clear rY y0 y1 xx1 xx0 Ff hfr cL ep ce sx mZ mB DS DR hf11 Ez hc4 EQ cZ e1 f1 aw CA CP CC K2
 go_upto_region 10 with (fail)
 obtain ⟨W4,Ft⟩:=zzN ((W3.setCell ⟨w.heap.size,2,none⟩ (.int .i64 (idx:Nat))).setCell ⟨w.heap.size,3,none⟩ (str p))
 have y0:W4.heap[w.heap.size]? = some (.cells #[.pointer (some ⟨ab,0,none⟩),.slice ca (lv.length+a.args.length) cc,.int .i64 (idx:Nat),str p] 117 (0,0)):=by rw [<- Ft,zQ (zQ H3.out.1)];rfl
 have oth:∀ g,g≠w.heap.size->W4.heap[g]? = W3.heap[g]?:=fun g hg=>by rw [<- Ft,bf _ _ _ _ (by show g≠w.heap.size;exact hg),bf _ _ _ _ (by show g≠w.heap.size;exact hg)]
 have y1:W4.heap[w.heap.size+1]? = some (.cells #[.pointer none,.slice none 0 0,.int .i64 0,str []] 117 (0,0)):=by rw [oth _ (by omega)];exact H3.out.2.1
 have Fe:Below w.heap.size w W4:=by rw [<- Ft];exact (H3.out.2.2.1.setCell (p:=⟨w.heap.size,2,none⟩) (bw _) _).setCell (p:=⟨w.heap.size,3,none⟩) (bw _) _
 have cL:Own W4 115 2 (.slice ca (lv.length+a.args.length) cc) (lv.length+a.args.length) (lvC (lv++zh a.args.length idx p)):=H3.out.2.2.2.2.keep fun g o hg ho=>by
  have:=H3.out.2.2.2.1 g hg
  rw [oth g (by omega)];exact ho
 rw [Ft]
 clear k0 k1 k2 k3 g2 g3
 obtain ⟨k0,k1,k2,k3⟩:=kK y0
 obtain ⟨z0,z1,z2,z3⟩:=kK y1
 have g0:=zB y1 0;have g1:=zB y1 1;have g2:=zB y1 2;have g3:=zB y1 3
 have H4:=bz (bj y1 (bj Fe cL))
 clear Ft y0 y1 oth Fe cL
 go_wp2_with fail
 have hV:=uW H4.out.1 (.pointer (some ⟨ab,0,none⟩)) (.slice ca (lv.length+a.args.length) cc) (.int .i64 (idx:Nat)) (str p)
 obtain ⟨s0,s1,s2,s3⟩:=kK hV
 have ef:=(((H4.out.2.1.setCell (p:=⟨w.heap.size+1,0,none⟩) (Nat.le_succ _) (.pointer (some ⟨ab,0,none⟩))).setCell (p:=⟨w.heap.size+1,1,none⟩) (Nat.le_succ _) (.slice ca (lv.length+a.args.length) cc)).setCell (p:=⟨w.heap.size+1,2,none⟩) (Nat.le_succ _) (.int .i64 (idx:Nat))).setCell (p:=⟨w.heap.size+1,3,none⟩) (Nat.le_succ _) (str p)
 refine bodyPost_ret (v:=.agg #[.pointer (some ⟨ab,0,none⟩),.slice ca (lv.length+a.args.length) cc,.int .i64 (idx:Nat),str p]) (by simp [results,Tryz.results104,go_sem,s0,s1,s2,s3]) rfl ?_
 have cU:(lv++zh a.args.length idx p).length=lv.length+a.args.length:=by rw [List.length_append,zl]
 refine ⟨ab,ca,cc,by rw [cU],ef,HA.out.2.2.2.2.1,?_⟩
 rw [cU]
 refine Own.lv ?_ cU.symm (fun g hg=>by have:=H3.out.2.2.2.1 g hg;omega)
 exact H4.out.2.2.keep fun g o hg ho=>by
  have:=H3.out.2.2.2.1 g hg
  rw [bf _ _ _ _ (by show g≠w.heap.size+1;omega),bf _ _ _ _ (by show g≠w.heap.size+1;omega),bf _ _ _ _ (by show g≠w.heap.size+1;omega),bf _ _ _ _ (by show g≠w.heap.size+1;omega)];exact ho
def qC (F:Nat->Prop) (w:World) (v:Pl) (x:Value):Prop:=Rep F w (.sl 9 1 v.length (v.map fun m=>DV.val (str m.1))) x
def qB (F:Nat->Prop) (w:World) (v:Pl) (x:Value):Prop:=Rep F w (.sl 3 1 v.length (v.map fun m=>DV.val (.int .i64 m.2))) x
theorem qJ {F:Nat->Prop} {w:World}:∀ (us vs:List Value),zv F w (us.map DV.val) vs↔vs=us
 | [],vs=>by simp [zm]
 | u::us,vs=>by
   rw [List.map_cons,zG]
   constructor
   ·rintro ⟨x,xs,rfl,h1,h2⟩
    rw [z8] at h1
    rw [(qJ us xs).1 h2,h1]
   ·rintro rfl
    exact ⟨u,us,rfl,z8.2 rfl,(qJ us us).2 rfl⟩
theorem qC.src {F:Nat->Prop} {w:World} {v:Pl} {x:Value} (h:qC F w v x):zM 1 x v.length (qg v) w:=by
 have h':Rep F w (.sl 9 1 v.length ((qg v).map DV.val)) x:=by unfold qC at h;rw [show (qg v).map DV.val=v.map fun m=>DV.val (str m.1) from by simp [qg,Function.comp_def]];exact h
 obtain ⟨xs,hx,hs⟩:=zM.ofRep h' (fun us hu u hm=>by
  rw [(qJ _ _).1 hu] at hm
  obtain ⟨m,_,rfl⟩:=List.mem_map.1 hm
  simp [str,Value.oneCell'])
 rw [(qJ _ _).1 hx] at hs;exact hs
theorem qB.src {F:Nat->Prop} {w:World} {v:Pl} {x:Value} (h:qB F w v x):zM 1 x v.length (qy v) w:=by
 have h':Rep F w (.sl 3 1 v.length ((qy v).map DV.val)) x:=by unfold qB at h;rw [show (qy v).map DV.val=v.map fun m=>DV.val (.int .i64 m.2) from by simp [qy,Function.comp_def]];exact h
 obtain ⟨xs,hx,hs⟩:=zM.ofRep h' (fun us hu u hm=>by
  rw [(qJ _ _).1 hu] at hm
  obtain ⟨m,_,rfl⟩:=List.mem_map.1 hm
  simp [Value.oneCell'])
 rw [(qJ _ _).1 hx] at hs;exact hs
theorem zE.mv {F:Nat->Prop} {w:World} {v:Pl} {mv pt:Value} (h:zE w v mv pt) (hF:∀ g,mv.ownBlock=some g\/pt.ownBlock=some g->F g):qC F w v mv/\qB F w v pt:=by
 obtain ⟨a1,c1,rfl⟩:=h.1.slice
 obtain ⟨a2,c2,rfl⟩:=h.2.slice
 refine ⟨h.1.rep (fun g hg=>hF g (.inl hg)) ?_,h.2.rep (fun g hg=>hF g (.inr hg)) ?_⟩
 ·rw [show (v.map fun m=>DV.val (str m.1))=(qg v).map DV.val from by simp [qg,Function.comp_def]];exact (qJ _ _).2 rfl
 ·rw [show (v.map fun m=>DV.val (.int .i64 m.2))=(qy v).map DV.val from by simp [qy,Function.comp_def]];exact (qJ _ _).2 rfl
def Fv (va:Nat) (vw:Value) (i:Nat):Prop:=i≠va/\vw.ownBlock≠some i
def Mv (va:Nat) (vw:Value) (i:Nat):Prop:=i=va\/vw.ownBlock=some i
theorem Fv.keep {va:Nat} {vw vw':Value} {w w':World} (hb:But (Mv va vw) w w') (hf:∀ g,vw'.ownBlock=some g->vw.ownBlock=some g\/w.heap.size<=g) {d:DV} {x:Value} (h:Rep (Fv va vw) w d x):Rep (Fv va vw') w' d x :=
 (Rep.keep fun b o hF ho=>⟨⟨hF.1,fun e=>by
  rcases hf b e with h | h
  ·exact hF.2 h
  ·have:=zZ ho;omega⟩,by rw [hb.block b (zZ ho) (fun e=>e.elim hF.1 hF.2)];exact ho⟩).1 _ _ h
def numD (ns:List Nat):DV:=.sl 3 1 ns.length (ns.map fun n=>DV.val (.int .i64 (n:Nat)))
theorem yy {F:Nat->Prop} {w:World} {ns:List Nat} {x:Value} (h:Rep F w (numD ns) x):∃ a c,x=.slice a ns.length c/\∀ (i n:Nat),ns[i]? = some n->∃ b o,a=some ⟨b,o,none⟩/\F b/\b<w.heap.size/\w.cell? ⟨b,o+i,none⟩=some (.int .i64 (n:Nat)):=by
 obtain ⟨a,c,e,_,_,cO⟩:=zI h
 refine ⟨a,c,e,fun i n hi=>?_⟩
 obtain ⟨b,o,u,d,ea,hF,cQ,hd,hc,hr⟩:=cO i (List.getElem?_eq_some_iff.1 hi).1
 rw [List.getElem?_map,hi] at hd
 obtain rfl:=Option.some.inj hd
 rw [z8] at hr
 subst hr
 exact ⟨b,o,ea,hF,cQ,hc⟩
theorem numD_src {F:Nat->Prop} {w:World} {ns:List Nat} {x:Value} (h:Rep F w (numD ns) x):zM 1 x ns.length (ns.map fun n=>Value.int .i64 (n:Nat)) w:=by
 have h':Rep F w (.sl 3 1 ns.length ((ns.map fun n=>Value.int .i64 (n:Nat)).map DV.val)) x:=by rw [List.map_map];exact h
 obtain ⟨xs,hx,hs⟩:=zM.ofRep h' (fun us hu u hm=>by
  rw [(qJ _ _).1 hu] at hm
  obtain ⟨m,_,rfl⟩:=List.mem_map.1 hm
  simp [Value.oneCell'])
 rw [(qJ _ _).1 hx] at hs;exact hs
theorem qC.cells {F:Nat->Prop} {w:World} {v:Pl} {x:Value} (h:qC F w v x):∃ a c,x=.slice a v.length c/\∀ (i:Nat) (m:Bs×Int),v[i]? = some m->∃ b o,a=some ⟨b,o,none⟩/\F b/\b<w.heap.size/\w.cell? ⟨b,o+i,none⟩=some (str m.1):=by
 obtain ⟨a,c,e,_,_,cO⟩:=zI h
 refine ⟨a,c,e,fun i m hi=>?_⟩
 obtain ⟨b,o,u,d,ea,hF,cQ,hd,hc,hr⟩:=cO i (List.getElem?_eq_some_iff.1 hi).1
 rw [List.getElem?_map,hi] at hd
 obtain rfl:=Option.some.inj hd
 rw [z8] at hr
 subst hr
 exact ⟨b,o,ea,hF,cQ,hc⟩
def AtD (b:Bd) (begun args:List Nat) (opens:Nat):List DV:=qZ b++[numD begun,numD args,.val (.int .i64 (opens:Nat))]
def xZ (F:Nat->Prop) (w:World) (b:Bd) (lv:List zc) (bg:zc) (v:Pl) (vs:List Value):Prop :=
 ∃ begun args opens,yO lv bg v begun args opens/\zv F w (AtD b begun args opens) vs
theorem uR {F:Nat->Prop} {w:World} {b:Bd} {begun args:List Nat} {opens:Nat} {vs:List Value} (h:zv F w (AtD b begun args opens) vs) :
 ∃ a2 c2 a3 c3 ba bc aa ac,vs=[str (jm b),.int .i64 (lvOf b:Nat),.slice a2 (qh b).length c2,.slice a3 (jg b).length c3,.slice ba begun.length bc,.slice aa args.length ac,.int .i64 (opens:Nat)] /\
   zv F w (qZ b) [str (jm b),.int .i64 (lvOf b:Nat),.slice a2 (qh b).length c2,.slice a3 (jg b).length c3]/\Rep F w (numD begun) (.slice ba begun.length bc)/\Rep F w (numD args) (.slice aa args.length ac):=by
 have h0:=h.length
 obtain ⟨h1,h2⟩:=zv.split h
 rw [yR] at h1 h2
 obtain ⟨v,a2,c2,a3,c3,e,_,_⟩:=jx h1
 have hv:=encN_lv (e ▸ h1)
 simp only [Value.int.injEq,true_and] at hv
 subst hv
 obtain ⟨x1,r1,e1,k1,h2⟩:=zG.1 h2
 obtain ⟨x2,r2,e2,k2,h2⟩:=zG.1 h2
 obtain ⟨x3,r3,e3,k3,h2⟩:=zG.1 h2
 rw [zm] at h2
 subst h2;subst e3;subst e2
 rw [z8] at k3
 subst k3
 obtain ⟨ba,bc,rfl,_⟩:=yy k1
 obtain ⟨aa,ac,rfl,_⟩:=yy k2
 refine ⟨a2,c2,a3,c3,ba,bc,aa,ac,?_,e ▸ h1,k1,k2⟩
 rw [<- List.take_append_drop 4 vs,e,e1];rfl
theorem qc {w:World} {b:Nat} {x0 x1 x2 x3 x4 x5 x6:Value} {T:TypeId} (h:w.heap[b]? = some (.cells #[x0,x1,x2,x3,x4,x5,x6] T (0,0))):w.cell? ⟨b,0,none⟩=some x0/\w.cell? ⟨b,1,none⟩=some x1/\w.cell? ⟨b,2,none⟩=some x2/\w.cell? ⟨b,3,none⟩=some x3/\w.cell? ⟨b,4,none⟩=some x4/\w.cell? ⟨b,5,none⟩=some x5/\w.cell? ⟨b,6,none⟩=some x6 :=
 ⟨by simp [World.cell?,h],by simp [World.cell?,h],by simp [World.cell?,h],by simp [World.cell?,h],by simp [World.cell?,h],by simp [World.cell?,h],by simp [World.cell?,h]⟩
def STellP (m:Bs) (i:Nat) (ok:Bool) (w:World) (en:Ending) (w':World):Prop:=en=.returned (.tuple #[str m,.int .i64 (i:Nat),.bool ok])/\Below w.heap.size w w'
set_option maxRecDepth 100000 in
theorem l3Tell_u (F:Nat->Prop) (lv:List zc) (bg:zc) (v:Pl) (mv pt x0 x1 x2 x3 x4 x5 x6:Value) (w:World) (h:xZ F w (.leaf 117) lv bg v [x0,x1,x2,x3,x4,x5,x6]) (hm:qC F w v mv) (hp:qB F w v pt) :
 Calls Tryz.prog 91 #[.agg #[mv,pt],.agg #[x0,x1,x2,x3,x4,x5,x6]] w (STellP [] 0 false w):=by
 obtain ⟨begun,args,opens,_,hr⟩:=h
 obtain ⟨a2,c2,a3,c3,ba,bc,aa,ac,e,_⟩:=uR hr
 simp only [List.cons.injEq,and_true] at e
 obtain ⟨rfl,rfl,rfl,rfl,rfl,rfl,rfl⟩:=e
 obtain ⟨ma,mc,rfl⟩:=hm.src.slice
 obtain ⟨pa,pc,rfl⟩:=hp.src.slice
 obtain ⟨W,hW,b9,hz,b0,b1⟩:=kD w (.cells #[.slice ma v.length mc,.slice pa v.length pc] 33) (.cells #[str [117],.int .i64 (lvOf (.leaf 117):Nat),.slice a2 (qh (.leaf 117)).length c2,.slice a3 (jg (.leaf 117)).length c3,.slice ba begun.length bc,.slice aa args.length ac,.int .i64 (opens:Nat)] 145)
 obtain ⟨e0,_⟩:=qc b1
 have HW:=bz (bj hW b9)
 clear hW b9 hz b0 b1 hr hm hp
 rw [show jm (.leaf 117)=[117] from rfl]
 go_enter Tryz.func91,Tryz.ntmps91
 go_upto_region 1 with (fail)
 rw [HW.out.1]
 go_wp2_with fail
 refine bodyPost_ret (v:=.tuple #[str [],.int .i64 (0:Nat),.bool false]) (by simp [results,Tryz.results91,go_sem]) rfl ?_
 exact ⟨rfl,HW.out.2⟩
set_option maxRecDepth 100000 in
theorem l3Tell_leaf (F:Nat->Prop) (c:UInt8) (hc:c=116\/c=102) (lv:List zc) (bg:zc) (v:Pl) (mv pt x0 x1 x2 x3 x4 x5 x6:Value) (w:World) (h:xZ F w (.leaf c) lv bg v [x0,x1,x2,x3,x4,x5,x6]) (hm:qC F w v mv) (hp:qB F w v pt) (hl:bg.2.length<=1000) (hv:v.length<=1000) :
 Calls Tryz.prog 91 #[.agg #[mv,pt],.agg #[x0,x1,x2,x3,x4,x5,x6]] w (STellP (c::bg.2) bg.1 true w):=by
 obtain ⟨begun,args,opens,rG,hr⟩:=h
 obtain ⟨a2,c2,a3,c3,ba,bc,aa,ac,e,_⟩:=uR hr
 simp only [List.cons.injEq,and_true] at e
 obtain ⟨rfl,rfl,rfl,rfl,rfl,rfl,rfl⟩:=e
 obtain ⟨ma,mc,rfl,cb⟩:=hm.cells
 obtain ⟨pa,pc,rfl⟩:=hp.src.slice
 obtain ⟨E7,c',z',hop⟩:=rG.bg
 obtain ⟨mb,mo,rfl,_,dD,dJ⟩:=cb opens _ hop
 have hol:=(List.getElem?_eq_some_iff.1 hop).1
 have holI:(opens:Int)<(v.length:Int):=by omega
 obtain ⟨W,hW,b9,hz,b0,b1⟩:=kD w (.cells #[.slice (some ⟨mb,mo,none⟩) v.length mc,.slice pa v.length pc] 33) (.cells #[str [c],.int .i64 (lvOf (.leaf c):Nat),.slice a2 (qh (.leaf c)).length c2,.slice a3 (jg (.leaf c)).length c3,.slice ba begun.length bc,.slice aa args.length ac,.int .i64 (opens:Nat)] 145)
 have hcW:W.cell? ⟨mb,mo+opens,none⟩=some (str (c'::bg.2)):=(b9.cell (p:=⟨mb,mo+opens,none⟩) dD).trans dJ
 obtain ⟨e0,e1,e2,e3,e4,e5,e6⟩:=qc b1
 obtain ⟨p0,_,_,_⟩:=zJ b0
 have a1:=fun w0=>k7 (P:=Tryz.prog) [c] bg.2 (by simp;omega) w0
 rw [List.singleton_append] at a1
 have ex:(⟨(c'::bg.2).toArray⟩:ByteArray).extract 1 (bg.2.length+1)=⟨bg.2.toArray⟩:=bX c' bg.2
 have HO:=bz E7
 have HW:=bz (bj hW b9)
 have q1:(([c]:Bs) == [117])=false:=by rcases hc with rfl | rfl <;> rfl
 clear hW b9 hz b0 b1 hr hm hp rG hop cb dJ E7 hol dD
 rw [show jm (.leaf c)=[c] from rfl]
 rcases hc with rfl | rfl
 ·go_enter Tryz.func91,Tryz.ntmps91
  go_upto_region 1 with (fail)
  rw [HW.out.1]
  go_wp2_with fail
  go_quiet (fail)
  go_wp2_with fail
  refine bodyPost_ret (v:=.tuple #[str (116::bg.2),.int .i64 (opens:Nat),.bool true]) (by simp [results,Tryz.results91,go_sem]) rfl ?_
  exact ⟨by rw [HO.out],z9 HW.out.2 _⟩
 ·go_enter Tryz.func91,Tryz.ntmps91
  go_upto_region 1 with (fail)
  rw [HW.out.1]
  go_wp2_with fail
  go_quiet (fail)
  go_wp2_with fail
  refine bodyPost_ret (v:=.tuple #[str (102::bg.2),.int .i64 (opens:Nat),.bool true]) (by simp [results,Tryz.results91,go_sem]) rfl ?_
  exact ⟨by rw [HO.out],z9 HW.out.2 _⟩
set_option maxRecDepth 100000 in
theorem l3Tell_ask (F:Nat->Prop) (l:Nat) (ss:List Bd) (y n:Bd) (lv:List zc) (bg pl:zc) (v:Pl) (mv pt x0 x1 x2 x3 x4 x5 x6:Value) (w:World) (h:xZ F w (.ask l ss y n) lv bg v [x0,x1,x2,x3,x4,x5,x6]) (hm:qC F w v mv) (hp:qB F w v pt) (cG:lv[l]? = some pl) (hl:pl.2.length<=1000) (hv:v.length<=1000) (eC:lv.length<=100000) :
 Calls Tryz.prog 91 #[.agg #[mv,pt],.agg #[x0,x1,x2,x3,x4,x5,x6]] w (STellP (113::pl.2) pl.1 true w):=by
 obtain ⟨begun,args,opens,rG,hr⟩:=h
 obtain ⟨a2,c2,a3,c3,ba,bc,aa,ac,e,_,rK,tu⟩:=uR hr
 simp only [List.cons.injEq,and_true] at e
 obtain ⟨rfl,rfl,rfl,rfl,rfl,rfl,rfl⟩:=e
 obtain ⟨ma,mc,rfl,cb⟩:=hm.cells
 obtain ⟨pa,pc,rfl⟩:=hp.src.slice
 obtain ⟨j,m,z,hb,ha,cS,nS,hj⟩:=rG.each l pl cG
 obtain ⟨mb,mo,rfl,_,dD,dJ⟩:=cb pl.1 _ cS
 obtain ⟨_,_,e,rI⟩:=yy rK
 simp only [Value.slice.injEq] at e
 obtain ⟨rfl,_,rfl⟩:=e
 obtain ⟨_,_,e,hac⟩:=yy tu
 simp only [Value.slice.injEq] at e
 obtain ⟨rfl,_,rfl⟩:=e
 obtain ⟨bb,bo,rfl,_,hbb,aR⟩:=rI l _ hb
 obtain ⟨ab,ao,rfl,_,hab,au⟩:=hac l _ ha
 have h1:=(List.getElem?_eq_some_iff.1 cS).1
 have h2:=(List.getElem?_eq_some_iff.1 hb).1
 have h3:=(List.getElem?_eq_some_iff.1 ha).1
 have i1:(pl.1:Int)<(v.length:Int):=by omega
 have i2:(l:Int)<(begun.length:Int):=by omega
 have i3:(l:Int)<(args.length:Int):=by omega
 have oT:m.length<=1000:=by rw [nS,List.length_append] at hl;omega
 obtain ⟨W,hW,b9,hz,b0,b1⟩:=kD w (.cells #[.slice (some ⟨mb,mo,none⟩) v.length mc,.slice pa v.length pc] 33) (.cells #[str [],.int .i64 (l:Nat),.slice a2 (qh (.ask l ss y n)).length c2,.slice a3 (jg (.ask l ss y n)).length c3,.slice (some ⟨bb,bo,none⟩) begun.length bc,.slice (some ⟨ab,ao,none⟩) args.length ac,.int .i64 (opens:Nat)] 145)
 have hcW:W.cell? ⟨mb,mo+pl.1,none⟩=some (str (113::m)):=(b9.cell (p:=⟨mb,mo+pl.1,none⟩) dD).trans dJ
 have hbWc:W.cell? ⟨bb,bo+l,none⟩=some (.int .i64 (pl.1:Nat)):=(b9.cell (p:=⟨bb,bo+l,none⟩) hbb).trans aR
 have Fq:W.cell? ⟨ab,ao+l,none⟩=some (.int .i64 (j:Nat)):=(b9.cell (p:=⟨ab,ao+l,none⟩) hab).trans au
 obtain ⟨e0,e1,e2,e3,e4,e5,e6⟩:=qc b1
 obtain ⟨p0,_,_,_⟩:=zJ b0
 have KEY:Hid (∀ x,Below W.heap.size W x->x.cell? ⟨w.heap.size,0,none⟩=some (.slice (some ⟨mb,mo,none⟩) v.length mc)/\x.cell? ⟨mb,mo+pl.1,none⟩=some (str (113::m))/\x.cell? ⟨w.heap.size+1,5,none⟩=some (.slice (some ⟨ab,ao,none⟩) args.length ac)/\x.cell? ⟨w.heap.size+1,1,none⟩=some (.int .i64 (l:Nat))/\x.cell? ⟨ab,ao+l,none⟩=some (.int .i64 (j:Nat))):=bz (fun x hx =>
  ⟨(hx.cell (bp _ _ p0)).trans p0,(hx.cell (bp _ _ hcW)).trans hcW,(hx.cell (bp _ _ e5)).trans e5,(hx.cell (bp _ _ e1)).trans e1,(hx.cell (bp _ _ Fq)).trans Fq⟩)
 have CD:=bz (fun x=>wt j (by omega) x)
 have a1:=fun w0=>k7 (P:=Tryz.prog) (113::m) (dec j) (by rw [qD hj];simp;omega) w0
 obtain ⟨R,hR⟩:=zzM (113::m++dec j)
 rw [<- hR] at a1
 have HR:=bz (show R=113::pl.2 by rw [hR,nS];rfl)
 have HW:=bz (bj hW b9)
 clear hW b9 hz b0 b1 hr hm hp rG cb dJ dD hb ha cS nS rI hac hbb hab aR au hR rK tu h1 h2 h3
 rw [show jm (.ask l ss y n)=[] from rfl,show lvOf (.ask l ss y n)=l from rfl]
 go_enter Tryz.func91,Tryz.ntmps91
 go_upto_region 1 with (fail)
 rw [HW.out.1]
 go_upto_region 8 with (fail)
 refine wp_region_noPanic ?_
 refine zW (fun w'=>Below W.heap.size W w') (fun _=>false) (by kernel_rfl) ?_
 have cZ:(fun w'=>Below W.heap.size W w') W.drew:=Below.drew (bh _ _)
 refine tk [0,1,2,3,4,5,6,7,8,9,10,11,14] cZ ?_
 (intro d hd;simp [tkD] at hd;subst hd;simp only [tks,pQ,pZ,pS])
 iterate 13 (refine ⟨?_,?_,?_⟩;rotate_left;· (intro oi ho;simp at ho;subst ho;refine Or.inl ⟨by rfl,fun w' b_=>?_⟩;obtain ⟨e0,e1,e2,e3,e4⟩:=KEY.out w' b_;go_simp;try with_reducible rfl))
 (refine on 12 ?_;intro o ho K' hK;simp at ho;subst ho;go_simp)
 go_at_call 96
 (with_reducible refine (CD.out _).mono ?_)
 rintro en iw ⟨rfl,cT⟩
 have ce:Below W.heap.size W iw:=Below.trans cZ (cT.mono (Below.size cZ))
 (refine hK.out _ _ (fun _=>ce) ?_;clear hK K';try simp only [pQ,pN,pZ,pS])
 have Fu:=ce
 (refine on 13 ?_;intro o ho K' hK;simp at ho;subst ho;go_simp)
 (refine hK.out _ _ (fun _=>ce) ?_;clear hK K';try simp only [pQ,pN,pZ,pS])
 have aw:=ce
 (refine on 15 ?_;intro o ho K' hK;simp at ho;subst ho;go_simp)
 (refine hK.out _ _ (fun _=>ce) ?_;clear hK K';try simp only [pQ,pN,pZ,pS])
 have Bg:=ce
 (refine on 16 ?_;intro o ho K' hK;simp at ho;subst ho;go_simp)
 (refine hK.out _ _ (fun _=>ce) ?_;clear hK K';try simp only [pQ,pN,pZ,pS])
 have hS16:=ce
 (refine on 17 ?_;intro o ho K' hK;simp at ho;subst ho;go_simp)
 (refine hK.out _ _ (fun _=>ce) ?_;clear hK K';try simp only [pQ,pN,pZ,pS])
 refine zU (by kernel_rfl) (NoPanic.normal ?_) _
 have HB:=bz (zzT HW.out.2 ce)
 clear ce cZ cT
 go_wp2_with fail
 refine bodyPost_ret (v:=.tuple #[str R,.int .i64 (pl.1:Nat),.bool true]) (by simp [results,Tryz.results91,go_sem]) rfl ?_
 exact ⟨by rw [HR.out],HB.out⟩
theorem okAt_eq {t:Ty} {v:Pl} {k:Nat} {m:Bs} {z:Int} (h:v[k]? = some (m,z)):q_ t v k=(qm t m && (kG m == decide (k % 2=0)) && (if k=0 then m == [113] && decide (z = -1) else decide (0<=z) && decide (z<(k:Int)) && !(m == [113]) && ((v[z.toNat]?).map (·.1) == some (qt m)))):=by
 unfold q_;rw [h]
theorem even_int (k:Nat):((k:Int) % 2 == 0)=decide (k % 2=0):=by
 rw [Bool.eq_iff_iff,beq_iff_eq,decide_eq_true_iff];omega
theorem qB.cells {F:Nat->Prop} {w:World} {v:Pl} {x:Value} (h:qB F w v x):∃ a c,x=.slice a v.length c/\∀ (i:Nat) (m:Bs×Int),v[i]? = some m->∃ b o,a=some ⟨b,o,none⟩/\F b/\b<w.heap.size/\w.cell? ⟨b,o+i,none⟩=some (.int .i64 m.2):=by
 obtain ⟨a,c,e,_,_,cO⟩:=zI h
 refine ⟨a,c,e,fun i m hi=>?_⟩
 obtain ⟨b,o,u,d,ea,hF,cQ,hd,hc,hr⟩:=cO i (List.getElem?_eq_some_iff.1 hi).1
 rw [List.getElem?_map,hi] at hd
 obtain rfl:=Option.some.inj hd
 rw [z8] at hr
 subst hr
 exact ⟨b,o,ea,hF,cQ,hc⟩
set_option maxRecDepth 100000 in
theorem hasPlay_v (F:Nat->Prop) (t:Ty) (kv mv pt:Value) (v:Pl) (w:World) (hk:Rep F w (jA t) kv) (ht:zP t<=15) (hm:qC F w v mv) (hp:qB F w v pt) (dE:v.length<=60) (hl:∀ x∈v,Lim x.1.length) :
 Calls Tryz.prog 70 #[kv,.agg #[mv,pt]] w fun en w'=>en=.returned (.bool (qQ t v v.length))/\Below w.heap.size w w':=by
 obtain ⟨kb,ks,rfl,_⟩:=zf hk
 obtain ⟨ma,mc,rfl,cb⟩:=hm.cells
 obtain ⟨pa,pc,rfl,dP⟩:=hp.cells
 obtain ⟨W,hW,b9,hz,b0⟩:=kV w (.cells #[.slice ma v.length mc,.slice pa v.length pc] 33)
 obtain ⟨c0,c1,_,_⟩:=zJ b0
 have cU:¬ (60:Int)<(v.length:Int):=by omega
 have cE:((v.length:Int) != (v.length:Int))=false:=by simp
 have dl:=hk.below b9 (fun _ h=>h)
 have HH:=bz (bj cb (bj dP (bj b9 (bj dl hl))))
 have HW:=bz hW
 clear hk hm hp cb dP hz b0 dl b9 hW hl
 go_enter Tryz.func70,Tryz.ntmps70
 go_upto_region 1 with (fail)
 rw [HW.out]
 go_wp2_with fail
 go_loopw [24] (fun i wr=>∃ (wz:World) (k:Nat),wz=wr/\k<=v.length/\i=.int .i64 k/\qQ t v k=true/\Below W.heap.size W wz) (fun i _=>v.length-(intOf i).toNat)
 case atStart=>exact ⟨_,0,rfl,Nat.zero_le _,rfl,rfl,bh _ _⟩
 case round =>
  obtain ⟨wr,k,rfl,hk,rfl,cF,hB⟩:=hrel
  have d0:=(hB.cell (bp _ _ c0)).trans c0
  have d1:=(hB.cell (bp _ _ c1)).trans c1
  clear c0 c1
  have HB:=bz (bj hB (zzT HH.out.2.2.1 hB))
  clear hB
  by_cases cQ:k<v.length
  ·have mH:(k:Int)<(v.length:Int):=by omega
   obtain ⟨⟨m,z⟩,cS⟩:∃ x,v[k]? = some x:=⟨_,List.getElem?_eq_getElem cQ⟩
   obtain ⟨mb,mo,rfl,_,dD,dC⟩:=HH.out.1 k _ cS
   obtain ⟨pb,po,rfl,_,dB,dN⟩:=HH.out.2.1 k _ cS
   have m0:=(HB.out.2.cell (p:=⟨mb,mo+k,none⟩) dD).trans dC
   have p0:=(HB.out.2.cell (p:=⟨pb,po+k,none⟩) dB).trans dN
   have cD:=okAt_eq (t:=t) cS
   have lG:Lim m.length:=HH.out.2.2.2.2 _ (List.mem_of_getElem? cS)
   have CM:=bz (hasMove_any F t (.pointer (some ⟨kb,0,none⟩)) m wr (HH.out.2.2.2.1.below HB.out.1 (fun _ h=>h)) ht lG)
   have HA:=bz (bj cF (bj cS cD))
   have FALSE:Hid (q_ t v k=false->qQ t v v.length=false):=bz (fun h=>yL h cQ)
   clear cF dD dB dC dN cD
   cases mI:qm t m with
   | false =>
     have E:=bz (FALSE.out (by rw [HA.out.2.2,mI];rfl))
     rw [mI] at CM
     clear FALSE cS lG
     go_wp2_with fail
     (with_reducible refine CM.out.mono ?_)
     rintro en w1 ⟨rfl,e⟩
     subst w1
     go_wp2_with fail
     go_ret
     exact ⟨by rw [E.out];rfl,HB.out.2⟩
   | true =>
     rw [mI] at CM
     obtain ⟨c,p,fm⟩:∃ c p,m=c::p:=by
      cases m with
      | nil=>simp [qm] at mI
      | cons c p=>exact ⟨c,p,rfl⟩
     have cG:p.length<=16777216:=by have:=lG.le;rw [fm,List.length_cons] at this;omega
     have CB:=bz (vp c p cG wr)
     have CE:=bz (fun x=>enabler_any c p cG x)
     rw [<- fm] at CB CE
     obtain ⟨bo,eJ⟩:=zzN (kG m)
     obtain ⟨fu,eS⟩:=zzN (qt m)
     rw [eJ] at CB
     rw [eS] at CE
     have HO:Hid (q_ t v k=((bo == decide (k % 2=0)) && (if k=0 then m == [113] && decide (z = -1) else decide (0<=z) && decide (z<(k:Int)) && !(m == [113]) && ((v[z.toNat]?).map (·.1) == some fu)))):=by
      rw [HA.out.2.2,mI,eJ,eS];exact bz (by rw [Bool.true_and])
     clear eJ eS mI lG cG fm cS
     by_cases bi:bo=((k:Int) % 2 == 0)
     ·subst bi
      have cK:(((k:Int) % 2 == 0) == decide (k % 2=0))=true:=by rw [even_int];simp
      replace HO:Hid (q_ t v k=(if k=0 then m == [113] && decide (z = -1) else decide (0<=z) && decide (z<(k:Int)) && !(m == [113]) && ((v[z.toNat]?).map (·.1) == some fu))):=by rw [HO.out,cK];exact bz (by rw [Bool.true_and])
      clear cK
      by_cases eQ:z < -1
      ·have E:=bz (FALSE.out (by rw [HO.out];split;(· rw [Bool.and_eq_false_iff];exact .inr (by simp;omega));(· simp only [Bool.and_eq_false_iff];exact .inl (.inl (.inl (by simp;omega))))))
       clear FALSE HO
       go_wp2_with fail
       (with_reducible refine CM.out.mono ?_)
       rintro en w1 ⟨rfl,e⟩
       subst w1
       go_wp2_with fail
       (with_reducible refine CB.out.mono ?_)
       rintro en w2 ⟨rfl,e⟩
       subst w2
       go_wp2_with fail
       go_ret
       exact ⟨by rw [E.out];rfl,HB.out.2⟩
      by_cases mp:(k:Int)<=z
      ·have E:=bz (FALSE.out (by rw [HO.out];split;(· rw [Bool.and_eq_false_iff];exact .inr (by simp;omega));(· simp only [Bool.and_eq_false_iff];exact .inl (.inl (.inr (by simp;omega))))))
       clear FALSE HO
       go_wp2_with fail
       (with_reducible refine CM.out.mono ?_)
       rintro en w1 ⟨rfl,e⟩
       subst w1
       go_wp2_with fail
       (with_reducible refine CB.out.mono ?_)
       rintro en w2 ⟨rfl,e⟩
       subst w2
       go_wp2_with fail
       go_ret
       exact ⟨by rw [E.out];rfl,HB.out.2⟩
      by_cases fB:k=0
      ·have AP:((k:Int) == 0)=true:=by rw [fB];rfl
       have hz:z = -1:=by omega
       have hzb:(z == -1)=true:=by rw [hz];rfl
       have hkp:¬ (0:Int)<(k:Int):=by omega
       have tJ:(0<k)=False:=by simp [fB]
       replace HO:Hid (q_ t v k=(m == [113] && decide (z = -1))):=by rw [HO.out,if_pos fB];exact bz rfl
       have hd:decide (z = -1)=true:=by simp [hz]
       cases eR:((m:Bs) == [113]) with
       | false =>
         have nL:((m:Bs) != [113])=true:=by rw [bne,eR];rfl
         have E:=bz (FALSE.out (by rw [HO.out,eR];rfl))
         clear FALSE HO hz fB hd
         go_wp2_with fail
         (with_reducible refine CM.out.mono ?_)
         rintro en w1 ⟨rfl,e⟩
         subst w1
         go_wp2_with fail
         (with_reducible refine CB.out.mono ?_)
         rintro en w2 ⟨rfl,e⟩
         subst w2
         go_upto_region 9 with (fail)
         refine wp_region_noPanic ?_
         refine zW (fun w'=>Below wr.heap.size wr w') (fun _=>false) (by kernel_rfl) ?_
         have cZ:(fun w'=>Below wr.heap.size wr w') wr.drew:=Below.drew (bh _ _)
         refine tk [0,1,2,3,4,5,6,7,8,9,10,11,12,13,14,15,16,17,18,19,20,21,22,23] cZ ?_
         (intro d hd;simp [tkD] at hd;subst hd;simp only [tks,pQ,pZ,pS])
         iterate 24 (refine ⟨?_,?_,?_⟩;rotate_left;· (intro oi ho;simp at ho;subst ho;first | (refine Or.inr ⟨by rfl,?_⟩;with_reducible rfl) | (refine Or.inl ⟨by rfl,fun w' b_=>?_⟩;go_simp;try with_reducible rfl)))
         refine zU (by kernel_rfl) (NoPanic.normal ?_) _
         go_wp2_with fail
         go_ret
         exact ⟨by rw [E.out];rfl,z9 HB.out.2 _⟩
       | true =>
         have nL:((m:Bs) != [113])=false:=by rw [bne,eR];rfl
         have E:=bz (show qQ t v (k+1)=true by rw [qQ,HA.out.1,HO.out,eR,hd];rfl)
         clear FALSE HO hz fB hd
         go_wp2_with fail
         (with_reducible refine CM.out.mono ?_)
         rintro en w1 ⟨rfl,e⟩
         subst w1
         go_wp2_with fail
         (with_reducible refine CB.out.mono ?_)
         rintro en w2 ⟨rfl,e⟩
         subst w2
         go_upto_region 9 with (fail)
         refine wp_region_noPanic ?_
         refine zW (fun w'=>Below wr.heap.size wr w') (fun _=>false) (by kernel_rfl) ?_
         have cZ:(fun w'=>Below wr.heap.size wr w') wr.drew:=Below.drew (bh _ _)
         refine tk [0,1,2,3,4,5,6,7,8,9,10,11,12,13,14,15,16,17,18,19,20,21,22,23] cZ ?_
         (intro d hd;simp [tkD] at hd;subst hd;simp only [tks,pQ,pZ,pS])
         iterate 24 (refine ⟨?_,?_,?_⟩;rotate_left;· (intro oi ho;simp at ho;subst ho;first | (refine Or.inr ⟨by rfl,?_⟩;with_reducible rfl) | (refine Or.inl ⟨by rfl,fun w' b_=>?_⟩;go_simp;try with_reducible rfl)))
         refine zU (by kernel_rfl) (NoPanic.normal ?_) _
         go_wp2_with fail
         go_roundw
         case rel=>exact ⟨_,k+1,rfl,by omega,by go_num,E.out,HB.out.1.drew⟩
         case measure=>simp [intOf];omega
      ·have AP:((k:Int) == 0)=false:=by rw [beq_eq_false_iff_ne];omega
       have hkp:(0:Int)<(k:Int):=by omega
       have tJ:(0<k)=True:=by simp;omega
       replace HO:Hid (q_ t v k=(decide (0<=z) && decide (z<(k:Int)) && !(m == [113]) && ((v[z.toNat]?).map (·.1) == some fu))):=by rw [HO.out,if_neg fB];exact bz rfl
       by_cases i5:z = -1
       ·have hzb:(z == -1)=true:=by rw [i5];rfl
        have E:=bz (FALSE.out (by rw [HO.out];simp only [Bool.and_eq_false_iff];exact .inl (.inl (.inl (by simp;omega)))))
        clear FALSE HO i5 fB
        go_wp2_with fail
        (with_reducible refine CM.out.mono ?_)
        rintro en w1 ⟨rfl,e⟩
        subst w1
        go_wp2_with fail
        (with_reducible refine CB.out.mono ?_)
        rintro en w2 ⟨rfl,e⟩
        subst w2
        go_wp2_with fail
        go_ret
        exact ⟨by rw [E.out];rfl,HB.out.2⟩
       have hzb:(z == -1)=false:=by rw [beq_eq_false_iff_ne];exact i5
       obtain ⟨zn,io⟩:∃ zn:Nat,z=(zn:Int):=⟨z.toNat,by omega⟩
       subst io
       obtain ⟨⟨my,zy⟩,oG⟩:∃ x,v[zn]? = some x:=⟨_,List.getElem?_eq_getElem (by omega)⟩
       have hznl:(zn:Int)<(v.length:Int):=by omega
       have EF:(decide ((0:Int)<=(zn:Int)) && decide ((zn:Int)<(k:Int)))=true:=by simp;omega
       replace HO:Hid (q_ t v k=(!(m == [113]) && (my == fu))):=by rw [HO.out,EF,Int.toNat_natCast,oG];exact bz (by rw [Bool.true_and];rfl)
       obtain ⟨yb,yo,ey,_,Dj,rg⟩:=HH.out.1 zn _ oG
       simp only [Option.some.injEq,Addr.mk.injEq] at ey
       obtain ⟨rfl,rfl,_⟩:=ey
       have y0:=(HB.out.2.cell (p:=⟨mb,mo+zn,none⟩) Dj).trans rg
       clear Dj rg oG EF i5
       cases eR:((m:Bs) == [113]) with
       | true =>
         have E:=bz (FALSE.out (by rw [HO.out,eR];rfl))
         clear FALSE HO fB
         go_wp2_with fail
         (with_reducible refine CM.out.mono ?_)
         rintro en w1 ⟨rfl,e⟩
         subst w1
         go_wp2_with fail
         (with_reducible refine CB.out.mono ?_)
         rintro en w2 ⟨rfl,e⟩
         subst w2
         go_upto_region 9 with (fail)
         refine wp_region_noPanic ?_
         refine zW (fun w'=>Below wr.heap.size wr w') (fun _=>false) (by kernel_rfl) ?_
         have cZ:(fun w'=>Below wr.heap.size wr w') wr.drew:=Below.drew (bh _ _)
         refine tk [0,1,2,3,4,5,6,7,8,9,10,11,12,13,14,15,16,17,18,19,20,21,22,23] cZ ?_
         (intro d hd;simp [tkD] at hd;subst hd;simp only [tks,pQ,pZ,pS])
         iterate 24 (refine ⟨?_,?_,?_⟩;rotate_left;· (intro oi ho;simp at ho;subst ho;first | (refine Or.inr ⟨by rfl,?_⟩;with_reducible rfl) | (refine Or.inl ⟨by rfl,fun w' b_=>?_⟩;go_simp;try with_reducible rfl)))
         refine zU (by kernel_rfl) (NoPanic.normal ?_) _
         go_wp2_with fail
         go_ret
         exact ⟨by rw [E.out];rfl,z9 HB.out.2 _⟩
       | false =>
         have KEY:Hid (∀ x,Below wr.heap.size wr x->x.cell? ⟨w.heap.size,0,none⟩=some (.slice (some ⟨mb,mo,none⟩) v.length mc)):=bz (fun x hx=>(hx.cell (bp _ _ d0)).trans d0)
         have KEYY:Hid (∀ x,Below wr.heap.size wr x->x.cell? ⟨mb,mo+zn,none⟩=some (str my)):=bz (fun x hx=>(hx.cell (bp _ _ y0)).trans y0)
         have nL:((m:Bs) != [113])=true:=by rw [bne,eR];rfl
         cases tt:(my == fu) with
         | false =>
           have AK:((my:Bs) != fu)=true:=by rw [bne,tt];rfl
           have E:=bz (FALSE.out (by rw [HO.out,eR,tt];rfl))
           clear FALSE HO fB
           go_wp2_with fail
           (with_reducible refine CM.out.mono ?_)
           rintro en w1 ⟨rfl,e⟩
           subst w1
           go_wp2_with fail
           (with_reducible refine CB.out.mono ?_)
           rintro en w2 ⟨rfl,e⟩
           subst w2
           go_upto_region 9 with (fail)
           refine wp_region_noPanic ?_
           refine zW (fun w'=>Below wr.heap.size wr w') (fun _=>false) (by kernel_rfl) ?_
           have cZ:(fun w'=>Below wr.heap.size wr w') wr.drew:=Below.drew (bh _ _)
           refine tk [0,1,2,3,4,5,6,7,8,9,10,11,12,13,14,15,16] cZ ?_
           (intro d hd;simp [tkD] at hd;subst hd;simp only [tks,pQ,pZ,pS])
           iterate 17 (refine ⟨?_,?_,?_⟩;rotate_left;· (intro oi ho;simp at ho;subst ho;first | (refine Or.inr ⟨by rfl,?_⟩;with_reducible rfl) | (refine Or.inl ⟨by rfl,fun w' b_=>?_⟩;have e0:=KEY.out w' b_;go_simp;try with_reducible rfl)))
           refine tk [17,18] cZ ?_
           (intro d hd;simp [tkD] at hd;subst hd;simp only [tks,pQ,pZ,pS])
           iterate 2 (refine ⟨?_,?_,?_⟩;rotate_left;· (intro oi ho;simp at ho;subst ho;refine Or.inl ⟨by rfl,fun w' b_=>?_⟩;have e0:=KEYY.out w' b_;go_simp;try with_reducible rfl))
           (refine on 19 ?_;intro o ho K' hK;simp at ho;subst ho;go_simp)
           go_at_call 107
           (with_reducible refine (CE.out _).mono ?_)
           rintro en x19 ⟨rfl,e⟩
           subst x19
           (refine hK.out _ _ (fun _=>cZ) ?_;clear hK K';try simp only [pQ,pN,pZ,pS])
           refine tk [20,21,22,23] cZ ?_
           (intro d hd;simp [tkD] at hd;subst hd;simp only [tks,pQ,pZ,pS])
           iterate 4 (refine ⟨?_,?_,?_⟩;rotate_left;· (intro oi ho;simp at ho;subst ho;refine Or.inl ⟨by rfl,fun w' b_=>?_⟩;go_simp;try with_reducible rfl))
           refine zU (by kernel_rfl) (NoPanic.normal ?_) _
           go_wp2_with fail
           go_ret
           exact ⟨by rw [E.out];rfl,z9 HB.out.2 _⟩
         | true =>
           have AK:((my:Bs) != fu)=false:=by rw [bne,tt];rfl
           have E:=bz (show qQ t v (k+1)=true by rw [qQ,HA.out.1,HO.out,eR,tt];rfl)
           clear FALSE HO fB
           go_wp2_with fail
           (with_reducible refine CM.out.mono ?_)
           rintro en w1 ⟨rfl,e⟩
           subst w1
           go_wp2_with fail
           (with_reducible refine CB.out.mono ?_)
           rintro en w2 ⟨rfl,e⟩
           subst w2
           go_upto_region 9 with (fail)
           refine wp_region_noPanic ?_
           refine zW (fun w'=>Below wr.heap.size wr w') (fun _=>false) (by kernel_rfl) ?_
           have cZ:(fun w'=>Below wr.heap.size wr w') wr.drew:=Below.drew (bh _ _)
           refine tk [0,1,2,3,4,5,6,7,8,9,10,11,12,13,14,15,16] cZ ?_
           (intro d hd;simp [tkD] at hd;subst hd;simp only [tks,pQ,pZ,pS])
           iterate 17 (refine ⟨?_,?_,?_⟩;rotate_left;· (intro oi ho;simp at ho;subst ho;first | (refine Or.inr ⟨by rfl,?_⟩;with_reducible rfl) | (refine Or.inl ⟨by rfl,fun w' b_=>?_⟩;have e0:=KEY.out w' b_;go_simp;try with_reducible rfl)))
           refine tk [17,18] cZ ?_
           (intro d hd;simp [tkD] at hd;subst hd;simp only [tks,pQ,pZ,pS])
           iterate 2 (refine ⟨?_,?_,?_⟩;rotate_left;· (intro oi ho;simp at ho;subst ho;refine Or.inl ⟨by rfl,fun w' b_=>?_⟩;have e0:=KEYY.out w' b_;go_simp;try with_reducible rfl))
           (refine on 19 ?_;intro o ho K' hK;simp at ho;subst ho;go_simp)
           go_at_call 107
           (with_reducible refine (CE.out _).mono ?_)
           rintro en x19 ⟨rfl,e⟩
           subst x19
           (refine hK.out _ _ (fun _=>cZ) ?_;clear hK K';try simp only [pQ,pN,pZ,pS])
           refine tk [20,21,22,23] cZ ?_
           (intro d hd;simp [tkD] at hd;subst hd;simp only [tks,pQ,pZ,pS])
           iterate 4 (refine ⟨?_,?_,?_⟩;rotate_left;· (intro oi ho;simp at ho;subst ho;refine Or.inl ⟨by rfl,fun w' b_=>?_⟩;go_simp;try with_reducible rfl))
           refine zU (by kernel_rfl) (NoPanic.normal ?_) _
           go_wp2_with fail
           go_roundw
           case rel=>exact ⟨_,k+1,rfl,by omega,by go_num,E.out,HB.out.1.drew⟩
           case measure=>simp [intOf];omega
     ·have E:=bz (FALSE.out (by rw [HO.out];rw [even_int] at bi;rw [Bool.and_eq_false_iff];exact .inl (by rw [beq_eq_false_iff_ne];exact bi)))
      clear FALSE HO
      go_wp2_with fail
      (with_reducible refine CM.out.mono ?_)
      rintro en w1 ⟨rfl,e⟩
      subst w1
      go_wp2_with fail
      (with_reducible refine CB.out.mono ?_)
      rintro en w2 ⟨rfl,e⟩
      subst w2
      go_wp2_with fail
      go_ret
      exact ⟨by rw [E.out];rfl,HB.out.2⟩
  ·obtain rfl:k=v.length:=by omega
   go_wp2_with fail
   go_ret
   exact ⟨by rw [cF];rfl,HB.out.2⟩
set_option maxRecDepth 100000 in
theorem l2Valid_v (F:Nat->Prop) (t:Ty) (tv mv pt:Value) (v:Pl) (w:World) (hk:Rep F w (qP t) tv) (ht:zP t<=15) (hm:qC F w v mv) (hp:qB F w v pt) (dE:v.length<=60) (hl:∀ x∈v,Lim x.1.length) :
 Calls Tryz.prog 124 #[.agg #[tv],.agg #[mv,pt]] w fun en w'=>en=.returned (.bool (qQ t v v.length))/\Below w.heap.size w w':=by
 obtain ⟨ta,tc,rfl⟩:=zp hk
 obtain ⟨ma,mc,rfl,cb⟩:=hm.cells
 obtain ⟨pa,pc,rfl,dP⟩:=hp.cells
 obtain ⟨W,hW,b9,hz,b0,b1⟩:=kD w (.cells #[.slice ta t.args.length tc] 61) (.cells #[.slice ma v.length mc,.slice pa v.length pc] 33)
 have a0:=kF b0
 obtain ⟨c0,c1,_,_⟩:=zJ b1
 have cU:¬ (60:Int)<(v.length:Int):=by omega
 have cE:((v.length:Int) != (v.length:Int))=false:=by simp
 have dl:=hk.below b9 (fun _ h=>h)
 have HH:=bz (bj cb (bj dP (bj b9 (bj dl hl))))
 have HW:=bz hW
 have KEYS:=bz (bj a0 (bj c0 c1))
 clear hk hm hp cb dP hz b0 b1 dl b9 hW hl
 go_enter Tryz.func124,Tryz.ntmps124
 go_upto_region 1 with (fail)
 rw [HW.out]
 go_wp2_with fail
 clear a0 c0 c1
 go_loopw [5] (fun i wr=>∃ (wz:World) (k:Nat),wz=wr/\k<=v.length/\i=.int .i64 k/\qQ t v k=true/\Below W.heap.size W wz) (fun i _=>v.length-(intOf i).toNat)
 case atStart=>exact ⟨_,0,rfl,Nat.zero_le _,rfl,rfl,bh _ _⟩
 case round =>
  obtain ⟨wr,k,rfl,hk,rfl,cF,hB⟩:=hrel
  have a0:=(hB.cell (bp _ _ KEYS.out.1)).trans KEYS.out.1
  have d0:=(hB.cell (bp _ _ KEYS.out.2.1)).trans KEYS.out.2.1
  have d1:=(hB.cell (bp _ _ KEYS.out.2.2)).trans KEYS.out.2.2
  have HB:=bz (bj hB (zzT HH.out.2.2.1 hB))
  clear hB
  by_cases cQ:k<v.length
  ·have mH:(k:Int)<(v.length:Int):=by omega
   obtain ⟨⟨m,z⟩,cS⟩:∃ x,v[k]? = some x:=⟨_,List.getElem?_eq_getElem cQ⟩
   obtain ⟨mb,mo,rfl,_,dD,dC⟩:=HH.out.1 k _ cS
   obtain ⟨pb,po,rfl,_,dB,dN⟩:=HH.out.2.1 k _ cS
   have m0:=(HB.out.2.cell (p:=⟨mb,mo+k,none⟩) dD).trans dC
   have p0:=(HB.out.2.cell (p:=⟨pb,po+k,none⟩) dB).trans dN
   have cD:=okAt_eq (t:=t) cS
   have lG:Lim m.length:=HH.out.2.2.2.2 _ (List.mem_of_getElem? cS)
   have CM:=bz (l1Move_any F t (.slice ta t.args.length tc) m wr (HH.out.2.2.2.1.below HB.out.1 (fun _ h=>h)) ht lG)
   have HA:=bz (bj cF (bj cS cD))
   have FALSE:Hid (q_ t v k=false->qQ t v v.length=false):=bz (fun h=>yL h cQ)
   clear cF dD dB dC dN cD
   cases mI:qm t m with
   | false =>
     have E:=bz (FALSE.out (by rw [HA.out.2.2,mI];rfl))
     rw [mI] at CM
     clear FALSE cS lG
     go_wp2_with fail
     (with_reducible refine CM.out.mono ?_)
     rintro en w1 ⟨rfl,bi⟩
     have co:=bz (zzT HB.out.2 bi)
     clear bi
     go_wp2_with fail
     go_ret
     exact ⟨by rw [E.out];rfl,co.out⟩
   | true =>
     rw [mI] at CM
     obtain ⟨c,p,fm⟩:∃ c p,m=c::p:=by
      cases m with
      | nil=>simp [qm] at mI
      | cons c p=>exact ⟨c,p,rfl⟩
     have cG:p.length<=16777216:=by have:=lG.le;rw [fm,List.length_cons] at this;omega
     have CB:=bz (fun x=>vH c p cG x)
     have CE:=bz (fun x=>uV c p cG x)
     rw [<- fm] at CB CE
     obtain ⟨bo,eJ⟩:=zzN (kG m)
     obtain ⟨pn,c_⟩:=zzN (plN m)
     obtain ⟨fu,eS⟩:=zzN (qt m)
     have dB:pn=if bo=true then 0 else 1:=by rw [<- c_,<- eJ];rfl
     rw [c_] at CB
     rw [eS] at CE
     have HO:Hid (q_ t v k=((bo == decide (k % 2=0)) && (if k=0 then m == [113] && decide (z = -1) else decide (0<=z) && decide (z<(k:Int)) && !(m == [113]) && ((v[z.toNat]?).map (·.1) == some fu)))):=by
      rw [HA.out.2.2,mI,eJ,eS];exact bz (by rw [Bool.true_and])
     have ED:m=[113]->fu=[]:=fun h=>by rw [<- eS,h];rfl
     have HEN:=bz ED
     clear eJ eS mI lG cG fm cS c_ ED
     by_cases bi:(pn:Int)=(k:Int) % 2
     ·have cK:(bo == decide (k % 2=0))=true:=by
       rw [beq_iff_eq]
       cases bo with
       | true=>rw [if_pos rfl] at dB;symm;rw [decide_eq_true_iff];omega
       | false=>rw [if_neg (by simp)] at dB;symm;rw [decide_eq_false_iff_not];omega
      replace HO:Hid (q_ t v k=(if k=0 then m == [113] && decide (z = -1) else decide (0<=z) && decide (z<(k:Int)) && !(m == [113]) && ((v[z.toNat]?).map (·.1) == some fu))):=by rw [HO.out,cK];exact bz (by rw [Bool.true_and])
      clear cK dB
      by_cases fB:k=0
      ·have AP:((k:Int) == 0)=true:=by rw [fB];rfl
       replace HO:Hid (q_ t v k=(m == [113] && decide (z = -1))):=by rw [HO.out,if_pos fB];exact bz rfl
       have nE:(0:Int)<(v.length:Int):=by omega
       cases eR:((m:Bs) == [113]) with
       | false =>
         have nL:((m:Bs) != [113])=true:=by rw [bne,eR];rfl
         have E:=bz (FALSE.out (by rw [HO.out,eR];rfl))
         clear FALSE HO fB
         go_wp2_with fail
         (with_reducible refine CM.out.mono ?_)
         rintro en w1 ⟨rfl,bi⟩
         have co:=bz (bj (zzT HB.out.1 bi) (zzT HB.out.2 bi))
         have m1:=(bi.cell (bp _ _ m0)).trans m0
         have p1:=(bi.cell (bp _ _ p0)).trans p0
         have d2:=(bi.cell (bp _ _ d0)).trans d0
         have d3:=(bi.cell (bp _ _ d1)).trans d1
         clear bi m0 p0 d0 d1 a0
         go_wp2_with fail
         (with_reducible refine (CB.out w1).mono ?_)
         rintro en w2 ⟨rfl,e⟩
         subst w2
         go_wp2_with fail
         go_ret
         exact ⟨by rw [E.out];rfl,co.out.2⟩
       | true =>
         have nL:((m:Bs) != [113])=false:=by rw [bne,eR];rfl
         have BL:wr.cell? ⟨pb,po,none⟩=some (.int .i64 z):=by rw [fB] at p0;exact p0
         by_cases hz:z = -1
         ·have hzb:(z != -1)=false:=by rw [hz];rfl
          have E:=bz (show qQ t v (k+1)=true by rw [qQ,HA.out.1,HO.out,eR];simp [hz])
          clear FALSE HO hz fB
          go_wp2_with fail
          (with_reducible refine CM.out.mono ?_)
          rintro en w1 ⟨rfl,bi⟩
          have co:=bz (bj (zzT HB.out.1 bi) (zzT HB.out.2 bi))
          have m1:=(bi.cell (bp _ _ m0)).trans m0
          have p1:=(bi.cell (bp _ _ p0)).trans p0
          have d2:=(bi.cell (bp _ _ d0)).trans d0
          have d3:=(bi.cell (bp _ _ d1)).trans d1
          have p10:=(bi.cell (bp _ _ BL)).trans BL
          clear BL bi m0 p0 d0 d1 a0
          go_wp2_with fail
          (with_reducible refine (CB.out w1).mono ?_)
          rintro en w2 ⟨rfl,e⟩
          subst w2
          go_wp2_with fail
          go_roundw
          case rel=>exact ⟨_,k+1,rfl,by omega,by go_num,E.out,co.out.1⟩
          case measure=>simp [intOf];omega
         ·have hzb:(z != -1)=true:=by rw [bne_iff_ne];exact hz
          have E:=bz (FALSE.out (by rw [HO.out,eR];simp [hz]))
          clear FALSE HO hz fB
          go_wp2_with fail
          (with_reducible refine CM.out.mono ?_)
          rintro en w1 ⟨rfl,bi⟩
          have co:=bz (bj (zzT HB.out.1 bi) (zzT HB.out.2 bi))
          have m1:=(bi.cell (bp _ _ m0)).trans m0
          have p1:=(bi.cell (bp _ _ p0)).trans p0
          have d2:=(bi.cell (bp _ _ d0)).trans d0
          have d3:=(bi.cell (bp _ _ d1)).trans d1
          have p10:=(bi.cell (bp _ _ BL)).trans BL
          clear BL bi m0 p0 d0 d1 a0
          go_wp2_with fail
          (with_reducible refine (CB.out w1).mono ?_)
          rintro en w2 ⟨rfl,e⟩
          subst w2
          go_wp2_with fail
          go_ret
          exact ⟨by rw [E.out];rfl,co.out.2⟩
      ·have AP:((k:Int) == 0)=false:=by rw [beq_eq_false_iff_ne];omega
       replace HO:Hid (q_ t v k=(decide (0<=z) && decide (z<(k:Int)) && !(m == [113]) && ((v[z.toNat]?).map (·.1) == some fu))):=by rw [HO.out,if_neg fB];exact bz rfl
       have oP:IntKind.i64.wrap ((k:Int)-1)=(k:Int)-1:=by simp [IntKind.wrap,IntKind.bits,IntKind.signed];omega
       have CI:=bz (fun x=>yD z 0 ((k:Int)-1) x)
       have KEY:Hid (∀ x y,Below wr.heap.size wr y->Below y.heap.size y x->x.cell? ⟨w.heap.size+1,0,none⟩=some (.slice (some ⟨mb,mo,none⟩) v.length mc)/\x.cell? ⟨w.heap.size+1,1,none⟩=some (.slice (some ⟨pb,po,none⟩) v.length pc)/\x.cell? ⟨pb,po+k,none⟩=some (.int .i64 z)):=bz (fun x y hy hx=>by
        have key:∀ {p:Addr} {u:Value},wr.cell? p=some u->x.cell? p=some u:=fun h=>by
         have h1:=(hy.cell (bp _ _ h)).trans h
         exact (hx.cell (bp _ _ h1)).trans h1
        exact ⟨key d0,key d1,key p0⟩)
       by_cases sG:0<=z/\z<=(k:Int)-1
       ·have cr:(decide ((0:Int)<=z) && decide (z<=(k:Int)-1))=true:=by simp only [Bool.and_eq_true,decide_eq_true_eq];exact sG
        obtain ⟨zn,io⟩:∃ zn:Nat,z=(zn:Int):=⟨z.toNat,by omega⟩
        subst io
        obtain ⟨⟨my,zy⟩,oG⟩:∃ x,v[zn]? = some x:=⟨_,List.getElem?_eq_getElem (by omega)⟩
        have hznl:(zn:Int)<(v.length:Int):=by omega
        have EF:(decide ((0:Int)<=(zn:Int)) && decide ((zn:Int)<(k:Int)))=true:=by simp;omega
        have hmy:my≠[]:=by
         obtain ⟨c',p',z',mr,_⟩:=okAt_some (yI HA.out.1 (show zn<k by omega))
         rw [oG] at mr
         simp only [Option.some.injEq,Prod.mk.injEq] at mr
         rw [mr.1];simp
        replace HO:Hid (q_ t v k=(!(m == [113]) && (my == fu))):=by rw [HO.out,EF,Int.toNat_natCast,oG];exact bz (by rw [Bool.true_and];rfl)
        obtain ⟨yb,yo,ey,_,Dj,rg⟩:=HH.out.1 zn _ oG
        simp only [Option.some.injEq,Addr.mk.injEq] at ey
        obtain ⟨rfl,rfl,_⟩:=ey
        have y0:=(HB.out.2.cell (p:=⟨mb,mo+zn,none⟩) Dj).trans rg
        have KEYY:Hid (∀ x y,Below wr.heap.size wr y->Below y.heap.size y x->x.cell? ⟨mb,mo+zn,none⟩=some (str my)):=bz (fun x y hy hx=>by
         have h1:=(hy.cell (bp _ _ y0)).trans y0
         exact (hx.cell (bp _ _ h1)).trans h1)
        clear Dj rg oG EF y0 sG
        cases tt:(my == fu) with
        | false =>
          have AK:((my:Bs) != fu)=true:=by rw [bne,tt];rfl
          have E:=bz (FALSE.out (by rw [HO.out,tt,Bool.and_false]))
          clear FALSE HO fB hmy
          go_wp2_with fail
          (with_reducible refine CM.out.mono ?_)
          rintro en w1 ⟨rfl,bi⟩
          have lm:=bz bi
          have co:=bz (bj (zzT HB.out.1 bi) (zzT HB.out.2 bi))
          have m1:=(bi.cell (bp _ _ m0)).trans m0
          have p1:=(bi.cell (bp _ _ p0)).trans p0
          have d2:=(bi.cell (bp _ _ d0)).trans d0
          have d3:=(bi.cell (bp _ _ d1)).trans d1
          clear bi m0 p0 d0 d1 a0
          go_wp2_with fail
          (with_reducible refine (CB.out w1).mono ?_)
          rintro en w2 ⟨rfl,e⟩
          subst w2
          go_upto_region 12 with (fail)
          refine wp_region_noPanic ?_
          refine zW (fun w'=>Below w1.heap.size w1 w') (fun _=>false) (by kernel_rfl) ?_
          have cZ:(fun w'=>Below w1.heap.size w1 w') w1.drew:=Below.drew (bh _ _)
          refine tk [0,1,2,3,4,5,6] cZ ?_
          (intro d hd;simp [tkD] at hd;subst hd;simp only [tks,pQ,pZ,pS])
          iterate 7 (refine ⟨?_,?_,?_⟩;rotate_left;· (intro oi ho;simp at ho;subst ho;refine Or.inl ⟨by rfl,fun w' b_=>?_⟩;obtain ⟨e0,e1,e2⟩:=KEY.out w' w1 lm.out b_;go_simp;try with_reducible rfl))
          (refine on 7 ?_;intro o ho K' hK;simp at ho;subst ho;go_simp)
          go_at_call 119
          (with_reducible refine (CI.out _).mono ?_)
          rintro en x7 ⟨rfl,e⟩
          subst x7
          rw [cr]
          (refine hK.out _ _ (fun _=>cZ) ?_;clear hK K';try simp only [pQ,pN,pZ,pS])
          have sj:=cZ
          refine tk [8,9,10,11,12,13,14,15,16,17] sj ?_
          (intro d hd;simp [tkD] at hd;subst hd;simp only [tks,pQ,pZ,pS])
          iterate 10 (refine ⟨?_,?_,?_⟩;rotate_left;· (intro oi ho;simp at ho;subst ho;refine Or.inl ⟨by rfl,fun w' b_=>?_⟩;obtain ⟨e0,e1,e2⟩:=KEY.out w' w1 lm.out b_;go_simp;try with_reducible rfl))
          refine tk [18,19] sj ?_
          (intro d hd;simp [tkD] at hd;subst hd;simp only [tks,pQ,pZ,pS])
          iterate 2 (refine ⟨?_,?_,?_⟩;rotate_left;· (intro oi ho;simp at ho;subst ho;refine Or.inl ⟨by rfl,fun w' b_=>?_⟩;have e0:=KEYY.out w' w1 lm.out b_;go_simp;try with_reducible rfl))
          (refine on 20 ?_;intro o ho K' hK;simp at ho;subst ho;go_simp)
          go_at_call 123
          (with_reducible refine (CE.out _).mono ?_)
          rintro en x20 ⟨rfl,e⟩
          subst x20
          (refine hK.out _ _ (fun _=>cZ) ?_;clear hK K';try simp only [pQ,pN,pZ,pS])
          have Bf:=cZ
          refine tk [21,22] Bf ?_
          (intro d hd;simp [tkD] at hd;subst hd;simp only [tks,pQ,pZ,pS])
          iterate 2 (refine ⟨?_,?_,?_⟩;rotate_left;· (intro oi ho;simp at ho;subst ho;refine Or.inl ⟨by rfl,fun w' b_=>?_⟩;go_simp;try with_reducible rfl))
          refine zU (by kernel_rfl) (NoPanic.normal ?_) _
          go_wp2_with fail
          go_ret
          exact ⟨by rw [E.out];rfl,z9 co.out.2 _⟩
        | true =>
          have AK:((my:Bs) != fu)=false:=by rw [bne,tt];rfl
          have eR:(m == [113])=false:=by
           rw [beq_eq_false_iff_ne]
           intro h
           rw [beq_iff_eq,HEN.out h] at tt
           exact hmy tt
          have E:=bz (show qQ t v (k+1)=true by rw [qQ,HA.out.1,HO.out,eR,tt];rfl)
          clear FALSE HO fB hmy eR
          go_wp2_with fail
          (with_reducible refine CM.out.mono ?_)
          rintro en w1 ⟨rfl,bi⟩
          have lm:=bz bi
          have co:=bz (bj (zzT HB.out.1 bi) (zzT HB.out.2 bi))
          have m1:=(bi.cell (bp _ _ m0)).trans m0
          have p1:=(bi.cell (bp _ _ p0)).trans p0
          have d2:=(bi.cell (bp _ _ d0)).trans d0
          have d3:=(bi.cell (bp _ _ d1)).trans d1
          clear bi m0 p0 d0 d1 a0
          go_wp2_with fail
          (with_reducible refine (CB.out w1).mono ?_)
          rintro en w2 ⟨rfl,e⟩
          subst w2
          go_upto_region 12 with (fail)
          refine wp_region_noPanic ?_
          refine zW (fun w'=>Below w1.heap.size w1 w') (fun _=>false) (by kernel_rfl) ?_
          have cZ:(fun w'=>Below w1.heap.size w1 w') w1.drew:=Below.drew (bh _ _)
          refine tk [0,1,2,3,4,5,6] cZ ?_
          (intro d hd;simp [tkD] at hd;subst hd;simp only [tks,pQ,pZ,pS])
          iterate 7 (refine ⟨?_,?_,?_⟩;rotate_left;· (intro oi ho;simp at ho;subst ho;refine Or.inl ⟨by rfl,fun w' b_=>?_⟩;obtain ⟨e0,e1,e2⟩:=KEY.out w' w1 lm.out b_;go_simp;try with_reducible rfl))
          (refine on 7 ?_;intro o ho K' hK;simp at ho;subst ho;go_simp)
          go_at_call 119
          (with_reducible refine (CI.out _).mono ?_)
          rintro en x7 ⟨rfl,e⟩
          subst x7
          rw [cr]
          (refine hK.out _ _ (fun _=>cZ) ?_;clear hK K';try simp only [pQ,pN,pZ,pS])
          have sj:=cZ
          refine tk [8,9,10,11,12,13,14,15,16,17] sj ?_
          (intro d hd;simp [tkD] at hd;subst hd;simp only [tks,pQ,pZ,pS])
          iterate 10 (refine ⟨?_,?_,?_⟩;rotate_left;· (intro oi ho;simp at ho;subst ho;refine Or.inl ⟨by rfl,fun w' b_=>?_⟩;obtain ⟨e0,e1,e2⟩:=KEY.out w' w1 lm.out b_;go_simp;try with_reducible rfl))
          refine tk [18,19] sj ?_
          (intro d hd;simp [tkD] at hd;subst hd;simp only [tks,pQ,pZ,pS])
          iterate 2 (refine ⟨?_,?_,?_⟩;rotate_left;· (intro oi ho;simp at ho;subst ho;refine Or.inl ⟨by rfl,fun w' b_=>?_⟩;have e0:=KEYY.out w' w1 lm.out b_;go_simp;try with_reducible rfl))
          (refine on 20 ?_;intro o ho K' hK;simp at ho;subst ho;go_simp)
          go_at_call 123
          (with_reducible refine (CE.out _).mono ?_)
          rintro en x20 ⟨rfl,e⟩
          subst x20
          (refine hK.out _ _ (fun _=>cZ) ?_;clear hK K';try simp only [pQ,pN,pZ,pS])
          have Bf:=cZ
          refine tk [21,22] Bf ?_
          (intro d hd;simp [tkD] at hd;subst hd;simp only [tks,pQ,pZ,pS])
          iterate 2 (refine ⟨?_,?_,?_⟩;rotate_left;· (intro oi ho;simp at ho;subst ho;refine Or.inl ⟨by rfl,fun w' b_=>?_⟩;go_simp;try with_reducible rfl))
          refine zU (by kernel_rfl) (NoPanic.normal ?_) _
          go_wp2_with fail
          go_roundw
          case rel=>exact ⟨_,k+1,rfl,by omega,by go_num,E.out,co.out.1.drew⟩
          case measure=>simp [intOf];omega
       ·have cr:(decide ((0:Int)<=z) && decide (z<=(k:Int)-1))=false:=by
         rw [Bool.and_eq_false_iff,decide_eq_false_iff_not,decide_eq_false_iff_not]
         omega
        have E:=bz (FALSE.out (by
         rw [HO.out]
         simp only [Bool.and_eq_false_iff,decide_eq_false_iff_not]
         exact .inl (.inl (by omega))))
        clear FALSE HO fB sG
        go_wp2_with fail
        (with_reducible refine CM.out.mono ?_)
        rintro en w1 ⟨rfl,bi⟩
        have lm:=bz bi
        have co:=bz (bj (zzT HB.out.1 bi) (zzT HB.out.2 bi))
        have m1:=(bi.cell (bp _ _ m0)).trans m0
        have p1:=(bi.cell (bp _ _ p0)).trans p0
        have d2:=(bi.cell (bp _ _ d0)).trans d0
        have d3:=(bi.cell (bp _ _ d1)).trans d1
        clear bi m0 p0 d0 d1 a0
        go_wp2_with fail
        (with_reducible refine (CB.out w1).mono ?_)
        rintro en w2 ⟨rfl,e⟩
        subst w2
        go_upto_region 12 with (fail)
        refine wp_region_noPanic ?_
        refine zW (fun w'=>Below w1.heap.size w1 w') (fun _=>false) (by kernel_rfl) ?_
        have cZ:(fun w'=>Below w1.heap.size w1 w') w1.drew:=Below.drew (bh _ _)
        refine tk [0,1,2,3,4,5,6] cZ ?_
        (intro d hd;simp [tkD] at hd;subst hd;simp only [tks,pQ,pZ,pS])
        iterate 7 (refine ⟨?_,?_,?_⟩;rotate_left;· (intro oi ho;simp at ho;subst ho;refine Or.inl ⟨by rfl,fun w' b_=>?_⟩;obtain ⟨e0,e1,e2⟩:=KEY.out w' w1 lm.out b_;go_simp;try with_reducible rfl))
        (refine on 7 ?_;intro o ho K' hK;simp at ho;subst ho;go_simp)
        go_at_call 119
        (with_reducible refine (CI.out _).mono ?_)
        rintro en x7 ⟨rfl,e⟩
        subst x7
        rw [cr]
        (refine hK.out _ _ (fun _=>cZ) ?_;clear hK K';try simp only [pQ,pN,pZ,pS])
        have sj:=cZ
        refine tk [8,9,10,11,12,13,14,15,16,17,18,19,20,21,22] sj ?_
        (intro d hd;simp [tkD] at hd;subst hd;simp only [tks,pQ,pZ,pS])
        iterate 15 (refine ⟨?_,?_,?_⟩;rotate_left;· (intro oi ho;simp at ho;subst ho;first | (refine Or.inr ⟨by rfl,?_⟩;with_reducible rfl) | (refine Or.inl ⟨by rfl,fun w' b_=>?_⟩;go_simp;try with_reducible rfl)))
        refine zU (by kernel_rfl) (NoPanic.normal ?_) _
        go_wp2_with fail
        go_ret
        exact ⟨by rw [E.out];rfl,z9 co.out.2 _⟩
     ·have E:=bz (FALSE.out (by
       rw [HO.out,Bool.and_eq_false_iff]
       refine .inl ?_
       rw [beq_eq_false_iff_ne]
       intro h
       apply bi
       cases bo with
       | true=>rw [if_pos rfl] at dB;have:=of_decide_eq_true h.symm;omega
       | false=>rw [if_neg (by simp)] at dB;have:=of_decide_eq_false h.symm;omega))
      clear FALSE HO dB
      go_wp2_with fail
      (with_reducible refine CM.out.mono ?_)
      rintro en w1 ⟨rfl,bi⟩
      have co:=bz (bj (zzT HB.out.1 bi) (zzT HB.out.2 bi))
      have m1:=(bi.cell (bp _ _ m0)).trans m0
      have p1:=(bi.cell (bp _ _ p0)).trans p0
      have d2:=(bi.cell (bp _ _ d0)).trans d0
      have d3:=(bi.cell (bp _ _ d1)).trans d1
      clear bi m0 p0 d0 d1 a0
      go_wp2_with fail
      (with_reducible refine (CB.out w1).mono ?_)
      rintro en w2 ⟨rfl,e⟩
      subst w2
      go_wp2_with fail
      go_ret
      exact ⟨by rw [E.out];rfl,co.out.2⟩
  ·obtain rfl:k=v.length:=by omega
   go_wp2_with fail
   go_ret
   exact ⟨by rw [cF];rfl,HB.out.2⟩
def jp (F:Nat->Prop) (w:World) (ms:List Bs) (x:Value):Prop:=Rep F w (.sl 9 1 ms.length (ms.map fun m=>DV.val (str m))) x
def jw (F:Nat->Prop) (w:World) (ps:List Int) (x:Value):Prop:=Rep F w (.sl 3 1 ps.length (ps.map fun z=>DV.val (.int .i64 z))) x
def qF (t:Ty) (ms:List Bs) (ps:List Int):Bool:=decide (ms.length<=60) && (decide (ps.length=ms.length) && qQ t (ms.zip ps) (ms.zip ps).length)
theorem jp.slice {F:Nat->Prop} {w:World} {ms:List Bs} {x:Value} (h:jp F w ms x):∃ a c,x=.slice a ms.length c:=by
 obtain ⟨a,c,e,_⟩:=zI h;exact ⟨a,c,e⟩
theorem jw.slice {F:Nat->Prop} {w:World} {ps:List Int} {x:Value} (h:jw F w ps x):∃ a c,x=.slice a ps.length c:=by
 obtain ⟨a,c,e,_⟩:=zI h;exact ⟨a,c,e⟩
theorem zip_fst {ms:List Bs} {ps:List Int} (h:ps.length=ms.length):(ms.zip ps).map (·.1)=ms:=by
 rw [List.map_fst_zip (by omega)]
theorem zip_snd {ms:List Bs} {ps:List Int} (h:ps.length=ms.length):(ms.zip ps).map (·.2)=ps:=by
 rw [List.map_snd_zip (by omega)]
theorem jp.zip {F:Nat->Prop} {w:World} {ms:List Bs} {ps:List Int} {x:Value} (h:jp F w ms x) (he:ps.length=ms.length):qC F w (ms.zip ps) x:=by
 have h1:(ms.zip ps).length=ms.length:=by rw [List.length_zip];omega
 unfold qC
 rw [h1,show (ms.zip ps).map (fun m=>DV.val (str m.1))=ms.map (fun m=>DV.val (str m)) from by
  conv=>rhs;rw [<- zip_fst he]
  rw [List.map_map];rfl]
 exact h
theorem jw.zip {F:Nat->Prop} {w:World} {ms:List Bs} {ps:List Int} {x:Value} (h:jw F w ps x) (he:ps.length=ms.length):qB F w (ms.zip ps) x:=by
 have h1:(ms.zip ps).length=ps.length:=by rw [List.length_zip];omega
 unfold qB
 rw [h1,show (ms.zip ps).map (fun m=>DV.val (.int .i64 m.2))=ps.map (fun z=>DV.val (.int .i64 z)) from by
  conv=>rhs;rw [<- zip_snd he]
  rw [List.map_map];rfl]
 exact h
set_option maxRecDepth 100000 in
theorem hasPlay_any (F:Nat->Prop) (t:Ty) (kv mv pt:Value) (ms:List Bs) (ps:List Int) (w:World) (hk:Rep F w (jA t) kv) (ht:zP t<=15) (hm:jp F w ms mv) (hp:jw F w ps pt) (hl:∀ x∈ms,Lim x.length) :
 Calls Tryz.prog 70 #[kv,.agg #[mv,pt]] w fun en w'=>en=.returned (.bool (qF t ms ps))/\Below w.heap.size w w':=by
 by_cases dE:ms.length<=60
 ·by_cases he:ps.length=ms.length
  ·refine (hasPlay_v F t kv mv pt (ms.zip ps) w hk ht (hm.zip he) (hp.zip he) (by rw [List.length_zip];omega) (fun x hx=>hl _ (List.of_mem_zip hx).1)).mono ?_
   rintro en w' ⟨rfl,hb⟩
   refine ⟨?_,hb⟩
   unfold qF
   rw [decide_eq_true dE,decide_eq_true he];rfl
  ·have E:=bz (show qF t ms ps=false by unfold qF;rw [decide_eq_false he,Bool.false_and,Bool.and_false])
   obtain ⟨kb,ks,rfl,_⟩:=zf hk
   obtain ⟨ma,mc,rfl⟩:=hm.slice
   obtain ⟨pa,pc,rfl⟩:=hp.slice
   obtain ⟨W,hW,b9,hz,b0⟩:=kV w (.cells #[.slice ma ms.length mc,.slice pa ps.length pc] 33)
   obtain ⟨c0,c1,_,_⟩:=zJ b0
   have cU:¬ (60:Int)<(ms.length:Int):=by omega
   have cE:((ps.length:Int) != (ms.length:Int))=true:=by simp;omega
   have HW:=bz hW
   have HB:=bz b9
   clear hk hm hp hz b0 b9 hW hl dE he
   go_enter Tryz.func70,Tryz.ntmps70
   go_upto_region 1 with (fail)
   rw [HW.out]
   go_wp2_with fail
   go_ret
   exact ⟨by rw [E.out];rfl,HB.out⟩
 ·have E:=bz (show qF t ms ps=false by unfold qF;rw [decide_eq_false dE,Bool.false_and])
  obtain ⟨kb,ks,rfl,_⟩:=zf hk
  obtain ⟨ma,mc,rfl⟩:=hm.slice
  obtain ⟨pa,pc,rfl⟩:=hp.slice
  obtain ⟨W,hW,b9,hz,b0⟩:=kV w (.cells #[.slice ma ms.length mc,.slice pa ps.length pc] 33)
  obtain ⟨c0,c1,_,_⟩:=zJ b0
  have cU:(60:Int)<(ms.length:Int):=by omega
  have HW:=bz hW
  have HB:=bz b9
  clear hk hm hp hz b0 b9 hW hl dE
  go_enter Tryz.func70,Tryz.ntmps70
  go_upto_region 1 with (fail)
  rw [HW.out]
  go_wp2_with fail
  go_ret
  exact ⟨by rw [E.out];rfl,HB.out⟩
set_option maxRecDepth 100000 in
theorem l2Valid_any (F:Nat->Prop) (t:Ty) (tv mv pt:Value) (ms:List Bs) (ps:List Int) (w:World) (hk:Rep F w (qP t) tv) (ht:zP t<=15) (hm:jp F w ms mv) (hp:jw F w ps pt) (hl:∀ x∈ms,Lim x.length) :
 Calls Tryz.prog 124 #[.agg #[tv],.agg #[mv,pt]] w fun en w'=>en=.returned (.bool (qF t ms ps))/\Below w.heap.size w w':=by
 by_cases dE:ms.length<=60
 ·by_cases he:ps.length=ms.length
  ·refine (l2Valid_v F t tv mv pt (ms.zip ps) w hk ht (hm.zip he) (hp.zip he) (by rw [List.length_zip];omega) (fun x hx=>hl _ (List.of_mem_zip hx).1)).mono ?_
   rintro en w' ⟨rfl,hb⟩
   refine ⟨?_,hb⟩
   unfold qF
   rw [decide_eq_true dE,decide_eq_true he];rfl
  ·have E:=bz (show qF t ms ps=false by unfold qF;rw [decide_eq_false he,Bool.false_and,Bool.and_false])
   obtain ⟨ta,tc,rfl⟩:=zp hk
   obtain ⟨ma,mc,rfl⟩:=hm.slice
   obtain ⟨pa,pc,rfl⟩:=hp.slice
   obtain ⟨W,hW,b9,hz,b0,b1⟩:=kD w (.cells #[.slice ta t.args.length tc] 61) (.cells #[.slice ma ms.length mc,.slice pa ps.length pc] 33)
   obtain ⟨c0,c1,_,_⟩:=zJ b1
   have cU:¬ (60:Int)<(ms.length:Int):=by omega
   have cE:((ps.length:Int) != (ms.length:Int))=true:=by simp;omega
   have HW:=bz hW
   have HB:=bz b9
   clear hk hm hp hz b0 b1 b9 hW hl dE he
   go_enter Tryz.func124,Tryz.ntmps124
   go_upto_region 1 with (fail)
   rw [HW.out]
   go_wp2_with fail
   go_ret
   exact ⟨by rw [E.out];rfl,HB.out⟩
 ·have E:=bz (show qF t ms ps=false by unfold qF;rw [decide_eq_false dE,Bool.false_and])
  obtain ⟨ta,tc,rfl⟩:=zp hk
  obtain ⟨ma,mc,rfl⟩:=hm.slice
  obtain ⟨pa,pc,rfl⟩:=hp.slice
  obtain ⟨W,hW,b9,hz,b0,b1⟩:=kD w (.cells #[.slice ta t.args.length tc] 61) (.cells #[.slice ma ms.length mc,.slice pa ps.length pc] 33)
  obtain ⟨c0,c1,_,_⟩:=zJ b1
  have cU:(60:Int)<(ms.length:Int):=by omega
  have HW:=bz hW
  have HB:=bz b9
  clear hk hm hp hz b0 b1 b9 hW hl dE
  go_enter Tryz.func124,Tryz.ntmps124
  go_upto_region 1 with (fail)
  rw [HW.out]
  go_wp2_with fail
  go_ret
  exact ⟨by rw [E.out];rfl,HB.out⟩
theorem jp.below {F F':Nat->Prop} {w w':World} {ms:List Bs} {x:Value} (h:jp F w ms x) (hb:Below w.heap.size w w') (hF:∀ b,F b->F' b):jp F' w' ms x:=Rep.below hb hF h
theorem jw.below {F F':Nat->Prop} {w w':World} {ps:List Int} {x:Value} (h:jw F w ps x) (hb:Below w.heap.size w w') (hF:∀ b,F b->F' b):jw F' w' ps x:=Rep.below hb hF h
def kO (s:Bs) (ms:List Bs) (ps:List Int):Bool:=(zV s).2 && qF (zV s).1 ms ps
theorem playOk_kind {s:Bs} {t:Ty} (h:jN s=some t) (ms:List Bs) (ps:List Int):kO s ms ps=qF t ms ps/\zP t<=15:=by
 rw [yJ] at h
 unfold kO
 cases h2:(zV s).2 with
 | false=>rw [h2] at h;simp at h
 | true =>
   rw [h2] at h
   obtain rfl:=Option.some.inj h
   exact ⟨by rw [Bool.true_and],(jh h2).2⟩
theorem playOk_none {s:Bs} (h:jN s=none) (ms:List Bs) (ps:List Int):kO s ms ps=false:=by
 rw [yJ] at h
 unfold kO
 cases h2:(zV s).2 with
 | false=>rfl
 | true=>rw [h2] at h;simp at h
set_option maxRecDepth 100000 in
theorem v8 (F:Nat->Prop) (s:Bs) (mv pt:Value) (ms:List Bs) (ps:List Int) (w:World) (hs:Lim s.length) (hm:jp F w ms mv) (hp:jw F w ps pt) (hl:∀ x∈ms,Lim x.length) :
 Calls Tryz.prog 43 #[str s,.agg #[mv,pt]] w fun en w'=>en=.returned (.bool (kO s ms ps))/\Below w.heap.size w w':=by
 obtain ⟨ma,mc,rfl⟩:=hm.slice
 obtain ⟨pa,pc,rfl⟩:=hp.slice
 obtain ⟨W,hW,b9,hz,b0⟩:=kV w (.cells #[.slice ma ms.length mc,.slice pa ps.length pc] 33)
 have C:=bz (xg s W hs)
 have HR:=bz (bj (hm.below b9 (F':=fun _=>True) fun _ _=>trivial) (bj (hp.below b9 (F':=fun _=>True) fun _ _=>trivial) (bj hl b9)))
 have HW:=bz (bj hW b0)
 clear hs hm hp hl hW hz b0 b9
 go_enter Tryz.func43,Tryz.ntmps43
 go_upto_region 1 with (fail)
 rw [HW.out.1]
 go_wp2_with fail
 (with_reducible refine C.out.mono ?_)
 rintro en w1 ⟨kv,rfl,bi,dX,dx⟩
 clear C
 obtain ⟨c0,c1,_,_⟩:=zJ HW.out.2
 have c0':=(bi.cell (bp _ _ c0)).trans c0
 have FT:=(bi.cell (bp _ _ c1)).trans c1
 clear c0 c1
 have co:=bz (bj bi (zzT HR.out.2.2.2 bi))
 cases hq:jN s with
 | none =>
   obtain rfl:=dX hq
   have E:=bz (playOk_none hq ms ps)
   clear dX dx hq bi
   go_wp2_with fail
   go_ret
   exact ⟨by rw [E.out];rfl,co.out.2⟩
 | some t =>
   have rk:=dx t hq
   obtain ⟨ka,ks,rfl,_⟩:=zf rk
   obtain ⟨E,cJ⟩:=playOk_kind hq ms ps
   have E:=bz E
   have C2:=bz (hasPlay_any (fun _=>True) t (.pointer (some ⟨ka,0,none⟩)) _ _ ms ps w1 ((Rep.keep fun b o _ ho=>⟨trivial,ho⟩).1 _ _ rk) cJ (HR.out.1.below co.out.1 fun _ h=>h) (HR.out.2.1.below co.out.1 fun _ h=>h) HR.out.2.2.1)
   clear dX dx hq bi rk cJ
   go_wp2_with fail
   (with_reducible refine C2.out.mono ?_)
   rintro en w2 ⟨rfl,cK⟩
   have cj:=bz (zzT co.out.2 cK)
   clear cK
   go_wp2_with fail
   go_ret
   exact ⟨by rw [E.out];rfl,cj.out⟩
set_option maxRecDepth 100000 in
theorem xk (F:Nat->Prop) (s:Bs) (mv pt:Value) (ms:List Bs) (ps:List Int) (w:World) (hs:Lim s.length) (hm:jp F w ms mv) (hp:jw F w ps pt) (hl:∀ x∈ms,Lim x.length) :
 Calls Tryz.prog 86 #[str s,.agg #[mv,pt]] w fun en w'=>en=.returned (.bool (kO s ms ps))/\Below w.heap.size w w':=by
 obtain ⟨ma,mc,rfl⟩:=hm.slice
 obtain ⟨pa,pc,rfl⟩:=hp.slice
 obtain ⟨W,hW,b9,hz,b0⟩:=kV w (.cells #[.slice ma ms.length mc,.slice pa ps.length pc] 33)
 have C:=bz (uq s hs W)
 have HR:=bz (bj (hm.below b9 (F':=fun _=>True) fun _ _=>trivial) (bj (hp.below b9 (F':=fun _=>True) fun _ _=>trivial) (bj hl b9)))
 have HW:=bz (bj hW b0)
 clear hs hm hp hl hW hz b0 b9
 go_enter Tryz.func86,Tryz.ntmps86
 go_upto_region 1 with (fail)
 rw [HW.out.1]
 go_wp2_with fail
 (with_reducible refine C.out.mono ?_)
 rintro en w1 ⟨tv,rfl,bi,rt⟩
 clear C
 obtain ⟨ta,tc,rfl⟩:=zp rt
 have cJ:(zV s).2=true->zP (zV s).1<=15:=fun h=>(jh h).2
 have E:kO s ms ps=((zV s).2 && qF (zV s).1 ms ps):=rfl
 generalize (zV s).2=ok at cJ E ⊢
 generalize (zV s).1=t at cJ E rt ⊢
 obtain ⟨X,hX,eW,tH,x0⟩:=kV w1 (.cells #[.slice ta t.args.length tc] 61)
 have hB:=zzT bi eW
 obtain ⟨c0,c1,_,_⟩:=zJ HW.out.2
 have c0':=(hB.cell (bp _ _ c0)).trans c0
 have FT:=(hB.cell (bp _ _ c1)).trans c1
 have t0:=kF x0
 clear c0 c1
 have co:=bz (bj hB (zzT HR.out.2.2.2 hB))
 have E:=bz E
 have HX:=bz (bj hX (bj eW rt))
 clear bi hX eW tH x0 hB rt
 cases ok with
 | false =>
   go_upto_region 2 with (fail)
   rw [HX.out.1]
   clear cJ
   go_wp2_with fail
   go_ret
   exact ⟨by rw [E.out];rfl,co.out.2⟩
 | true =>
   have C2:=bz (l2Valid_any (fun _=>True) t (.slice ta t.args.length tc) _ _ ms ps X ((Rep.below HX.out.2.1 fun _ _=>trivial) HX.out.2.2) (cJ rfl) (HR.out.1.below co.out.1 fun _ h=>h) (HR.out.2.1.below co.out.1 fun _ h=>h) HR.out.2.2.1)
   clear cJ
   go_upto_region 2 with (fail)
   rw [HX.out.1]
   go_wp2_with fail
   (with_reducible refine C2.out.mono ?_)
   rintro en w2 ⟨rfl,cK⟩
   have cj:=bz (zzT co.out.2 cK)
   clear cK
   go_wp2_with fail
   go_ret
   exact ⟨by rw [E.out];rfl,cj.out⟩
end Go.Proofs.YtfedjhgaeikjmaaGreatDoor

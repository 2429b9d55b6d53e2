/- Walks of functions that the statement reaches, and plain words. No conditions. -/
import Derived.Laws.Entries
import Derived.Test.YtfedjhgaeikjmaaGreatDoorQ5
set_option linter.unusedVariables false
set_option linter.unusedSimpArgs false
set_option maxHeartbeats 8000000
namespace Go.Proofs.YtfedjhgaeikjmaaGreatDoor
open Go.RowKit
set_option maxRecDepth 20000 in
theorem ve (c:UInt8) (p:Bs) (hl:p.length<=16777216) (w:World):Calls Tryz.prog 123 #[str (c::p)] w fun en w'=>en=.returned (.string ⟨(qe (c::p)).toArray⟩)/\w'=w:=by
 obtain ⟨M,hM⟩:=zzM (c::p)
 obtain ⟨n,hn⟩:=zzM (p.length)
 have nQ:(M.length:Int)=(n:Int)+1:=by rw [hM,hn];simp
 have dS:0<M.length:=by rw [hM];simp
 have nJ:(0:Int)<(M.length:Int):=by omega
 have En:(1:Int)<=(M.length:Int):=by omega
 have B0:((((⟨M.toArray⟩:ByteArray)[0]'(kY dS)).toNat:Int))=(c.toNat:Int):=by rw [kh dS];subst hM;rfl
 have hq:=q_int c
 by_cases hc:c=113
 ·have hcq:((c.toNat:Int) != 113)=false:=by rw [bne,hq,hc];rfl
  by_cases hp:p=[]
  ·have E:=bU (show qe (c::p)=[] by rw [hc,hp];rfl)
   have cS:((M.length:Int) == 1)=true:=by rw [nQ,hn,hp];rfl
   rw [<- hM] at E ⊢
   clear hM hn hq hc hp nQ
   go_enter Tryz.func123,Tryz.ntmps123
   go_wp2_with fail
   go_ret
   exact ⟨by rw [E.out];rfl,rfl⟩
  ·have nI:0<n:=by
    rw [hn]
    cases p with
    | nil=>exact absurd rfl hp
    | cons d q=>simp
   have E:=bU (show qe (c::p)=M.take n by
    unfold qe
    rw [if_neg (by simp [hp]),kw,hc,show ((113:UInt8) == 113)=true from rfl,if_pos rfl,List.dropLast_eq_take,hM,hc,hn];simp)
   have cS:((M.length:Int) == 1)=false:=by rw [beq_eq_false_iff_ne];omega
   have ex:(⟨M.toArray⟩:ByteArray).extract 0 n=⟨(M.take n).toArray⟩:=by rw [vJ];rfl
   have hw:IntKind.i64.wrap ((M.length:Int)-1)=(n:Int):=by
    rw [nQ,show (n:Int)+1-1=(n:Int) from by omega];exact ki _ (by omega)
   have sG:(n:Int)<=(M.length:Int):=by omega
   obtain ⟨R,hR⟩:=zzM (M.take n)
   rw [<- hR] at ex E
   rw [<- hM] at E ⊢
   clear hM hn hq hc hp nQ hR nI
   go_enter Tryz.func123,Tryz.ntmps123
   go_wp2_with fail
   go_ret
   exact ⟨by rw [E.out];rfl,rfl⟩
 ·have hcq:((c.toNat:Int) != 113)=true:=by rw [bne,hq];simp [hc]
  have E:=bU (show qe (c::p)=113::p by
   unfold qe
   rw [if_neg (by simp [hc]),kw,show (c == 113)=false from by simp [hc],if_neg (by simp),List.tail_cons])
  have ex:(⟨M.toArray⟩:ByteArray).extract 1 M.length=⟨p.toArray⟩:=by rw [hM];exact yS c p
  have a1:=fun w0=>km (P:=Tryz.prog) [113] p (by simp;omega) w0
  rw [List.singleton_append] at a1
  obtain ⟨R,hR⟩:=zzM (113::p)
  rw [<- hR] at a1 E
  rw [<- hM] at E ⊢
  clear hM hn hq hc nQ hR
  go_enter Tryz.func123,Tryz.ntmps123
  go_wp2_with fail
  go_ret
  exact ⟨by rw [E.out];rfl,rfl⟩
set_option maxRecDepth 20000 in
theorem l1Move_any (F:Nat->Prop) (t:Ty) (tv:Value) (m:Bs) (w:World) (hk:Rep F w (qZ t) tv) (ht:zW t<=15) (hl:Lim m.length) :
 Calls Tryz.prog 140 #[.agg #[tv],str m] w fun en w'=>en=.returned (.bool (jH t m))/\Below w.heap.size w w':=by
 obtain ⟨ta,tc,rfl⟩:=zu hk
 obtain ⟨W,hW,bM,hz,b0⟩:=kJ w (.cells #[.slice ta t.args.length tc] 61)
 cases m with
 | nil =>
   have HW:=bU (bY hW bM)
   clear hW bM hz b0 hk
   go_enter Tryz.func140,Tryz.ntmps140
   go_upto_region 1 with (fail)
   rw [HW.out.1]
   go_wp2_with fail
   go_ret
   exact ⟨rfl,HW.out.2⟩
 | cons c p =>
   have dz:=hl.le
   rw [List.length_cons] at dz
   have C2:=bU (fun x (hx:Below W.heap.size W x)=>l1At_any F t p (.slice ta t.args.length tc) x ((hk.below bM (fun _ h=>h)).below hx (fun _ h=>h)) ht (show _<=_ by omega))
   have KEY:Hid (∀ x,Below W.heap.size W x->x.cell? ⟨w.heap.size,0,none⟩=some (.slice ta t.args.length tc)):=bU (fun x hx=>by
    have k0:=kP b0
    exact (hx.cell (bW _ _ k0)).trans k0)
   obtain ⟨M,hM⟩:=zzM (c::p)
   have E:Hid (jH t M=((c == 113 || c == 116 || c == 102) && (atT t p).isSome)):=by rw [hM];exact bU rfl
   have hMl0:((M.length:Int) == 0)=false:=by rw [beq_eq_false_iff_ne,hM];simp;omega
   have dS:0<M.length:=by rw [hM];simp
   have nJ:(0:Int)<(M.length:Int):=by omega
   have En:(1:Int)<=(M.length:Int):=by omega
   obtain ⟨x,hx⟩:∃ x:Nat,c.toNat=x:=⟨_,rfl⟩
   have B0:((((⟨M.toArray⟩:ByteArray)[0]'(kY dS)).toNat:Int))=(x:Int):=by rw [kh dS,<- hx];subst hM;rfl
   have ex:(⟨M.toArray⟩:ByteArray).extract 1 M.length=⟨p.toArray⟩:=by rw [hM];exact yS c p
   have ceq:∀ d:UInt8,(c == d)=decide (x=d.toNat):=fun d=>by
    rw [Bool.eq_iff_iff,beq_iff_eq,decide_eq_true_iff,<- hx]
    exact ⟨fun h=>by rw [h],fun h=>UInt8.toNat_inj.1 h⟩
   rw [ceq,ceq,ceq] at E
   have HW:=bU (bY hW bM)
   rw [<- hM]
   clear hW bM hz b0 hk hM hl ceq hx
   by_cases cC:x=113\/x=116\/x=102
   ·have E2:Hid (jH t M=(atT t p).isSome):=by
     rw [E.out]
     rcases cC with rfl | rfl | rfl <;> exact bU (by simp)
    have aU:((x:Int) != 113 && ((x:Int) != 116 && (x:Int) != 102))=false:=by rcases cC with rfl | rfl | rfl <;> rfl
    clear E
    obtain ⟨ok,b4⟩:=zzN ((atT t p).isSome)
    rw [b4] at E2
    replace C2:Hid (∀ x,Below W.heap.size W x->Calls Tryz.prog 129 #[.agg #[.slice ta t.args.length tc],str p] x fun en w'=>∃ va vn vc,en=.returned (.tuple #[.agg #[.slice va vn vc],.bool ok])/\Below x.heap.size x w'):=bU (fun x hx=>(C2.out x hx).mono (by
     rintro en w' ⟨va,vn,vc,rfl,hb,_⟩
     exact ⟨va,vn,vc,by rw [b4],hb⟩))
    clear b4
    rcases cC with rfl | rfl | rfl
    all_goals
     go_enter Tryz.func140,Tryz.ntmps140
     go_upto_region 1 with (fail)
     rw [HW.out.1]
     go_upto_region 3 with (fail)
     refine ji (X:=Option Addr×Nat×Nat×Nat) (fun zz x=>(((((((((zz.put (some 26) (.agg #[.slice ta t.args.length tc])).put (some 27) (str M)).put (some 28) (str p)).put (some 29) (.tuple #[.agg #[.slice x.1 x.2.1 x.2.2.1],.bool ok])).put (some 25) (.tuple #[.agg #[.slice x.1 x.2.1 x.2.2.1],.bool ok])).put (some 30) (.agg #[.slice x.1 x.2.1 x.2.2.1])).put (some 31) (.bool ok)).put (some 5) (.pointer (some ⟨x.2.2.2,0,none⟩))).put (some 6) (.bool ok))) (fun x w7=>Below W.heap.size W w7) ?_ ?_
     ·refine wp_region_noPanic ?_
      refine zX (fun w'=>Below W.heap.size W w') (fun _=>false) (by kernel_rfl) ?_
      obtain ⟨y0,cM⟩:=zzN (W.drew)
      rw [cM]
      have bO:Below W.heap.size W y0:=by rw [<- cM];exact Below.drew (bP _ _)
      obtain ⟨dr,dH⟩:∃ x:Nat->Nat,x=fun _=>0:=⟨_,rfl⟩
      clear cM dH
      refine tk [0,1,2] bO ?_
      (intro d hd;simp [tkD] at hd;subst hd;simp only [tks,pQ,pZ,pS])
      iterate 3 (refine ⟨?_,?_,?_⟩;rotate_left;· (intro oi ho;simp at ho;subst ho;refine Or.inl ⟨by rfl,fun w' bR=>?_⟩;have e0:=KEY.out w' bR;go_simp;try with_reducible rfl))
      refine kK 3 7 (by kernel_rfl) ?_ ?_
      ·(intro o3 ho K' hK;simp at ho;subst ho)
       go_simp
       go_at_call 129
       (with_reducible refine (C2.out _ bO).mono ?_)
       rintro en y1 ⟨va,vn,vc,rfl,hb⟩
       have bj:Below W.heap.size W y1:=zzT bO hb
       have tC:=bU hb;clear hb
       (refine hK.out _ _ (fun _=>bj) ?_;clear hK K';try simp only [pQ,pN,pZ,pS])
       refine tk [4,5,6] bj ?_
       (intro d hd;simp [tkD] at hd;subst hd;simp only [tks,pQ,pZ,pS])
       iterate 3 (refine ⟨?_,?_,?_⟩;rotate_left;· (intro oi ho;simp at ho;subst ho;refine Or.inl ⟨by rfl,fun w' bR=>?_⟩;go_simp;try with_reducible rfl))
       (refine on 7 ?_;intro o ho K' hK;simp at ho;subst ho;go_simp)
       (refine hK.out _ _ (fun _=>bj.alloc bj.size _) ?_;clear hK K';try simp only [pQ,pN,pZ,pS])
       obtain ⟨y2,bD⟩:=zzN (y1.alloc (.cells #[.slice none 0 0] 61))
       obtain ⟨gK,mE⟩:=zzN (y1.heap.size)
       rw [bD,mE]
       have cK:Below W.heap.size W y2:=by rw [<- bD];exact bj.alloc bj.size _
       obtain ⟨fZ,bT⟩:=zzN (zF dr gK 1)
       have EK:Hid (y2.heap[gK]? = some (.cells #[.slice none 0 0] 61 (0,0))/\fZ gK=1/\W.heap.size<=gK):=by rw [<- bD,<- bT,<- mE];exact ⟨zS _ _,by unfold zF;rw [if_pos rfl],bj.size⟩
       clear bD mE bT
       (refine on 8 ?_;intro o ho K' hK;simp at ho;subst ho)
       obtain ⟨uK0,AJ⟩:∃ u,y2.cell? ⟨gK,0,none⟩=some u:=⟨_,by simp [World.cell?,EK.out.1];rfl⟩
       have AG:y2.frozen? ⟨gK,0,none⟩=false:=by simp [World.frozen?,EK.out.1]
       go_simp
       (refine hK.out _ _ (fun _=>(cK.setCell (p:=⟨gK,0,none⟩) EK.out.2.2 _)) ?_;clear hK K';try simp only [pQ,pN,pZ,pS])
       obtain ⟨y3,bD⟩:=zzN ((y2.setCell ⟨gK,0,none⟩ (.slice va vn vc)))
       rw [bD]
       have ce:Below W.heap.size W y3:=by rw [<- bD];exact (cK.setCell (p:=⟨gK,0,none⟩) EK.out.2.2 _)
       have bf:But (fun i=>i=gK) y2 y3:=by rw [<- bD];exact ((But.refl (fun i=>i=gK) y2).setCell (p:=⟨gK,0,none⟩) (.inl rfl) _)
       have bT:∀ g,g=gK->fZ g=1:=fun g e=>by rw [e];exact EK.out.2.1
       have EK:Hid (y3.heap[gK]? = some (.cells #[.slice va vn vc] 61 (0,0))/\fZ gK=1/\W.heap.size<=gK):=⟨by rw [<- bD];exact (zK EK.out.1),EK.out.2⟩
       clear bD bf bT AJ AG
       (refine on 9 ?_;intro o ho K' hK;simp at ho;subst ho;go_simp)
       (refine hK.out _ _ (fun _=>ce) ?_;clear hK K';try simp only [pQ,pN,pZ,pS])
       refine zU (by kernel_rfl) (NoPanic.normal ?_) _
       exact ⟨rfl,⟨va,vn,vc,gK⟩,by rfl,ce⟩
      ·(intro o7 ho K' hK;simp at ho;subst ho)
       go_simp
       (refine hK.out _ _ (fun _=>bO.alloc bO.size _) ?_;clear hK K';try simp only [pQ,pN,pZ,pS])
       obtain ⟨y5,bD⟩:=zzN (y0.alloc (.cells #[.slice none 0 0] 61))
       obtain ⟨gK,mE⟩:=zzN (y0.heap.size)
       rw [bD,mE]
       have dT:Below W.heap.size W y5:=by rw [<- bD];exact bO.alloc bO.size _
       obtain ⟨ff,bT⟩:=zzN (zF dr gK 1)
       have EK:Hid (y5.heap[gK]? = some (.cells #[.slice none 0 0] 61 (0,0))/\ff gK=1/\W.heap.size<=gK):=by rw [<- bD,<- bT,<- mE];exact ⟨zS _ _,by unfold zF;rw [if_pos rfl],bO.size⟩
       clear bD mE bT
       (refine on 3 ?_;intro o ho K' hK;simp at ho;subst ho;go_simp)
       go_at_call 129
       (with_reducible refine (C2.out _ dT).mono ?_)
       rintro en y6 ⟨va,vn,vc,rfl,hb⟩
       have cP:Below W.heap.size W y6:=zzT dT hb
       have EK:Hid (y6.heap[gK]? = some (.cells #[.slice none 0 0] 61 (0,0))/\ff gK=1/\W.heap.size<=gK):=⟨(hb.block _ (zZ EK.out.1)).trans EK.out.1,EK.out.2⟩
       have DF:=bU hb;clear hb
       (refine hK.out _ _ (fun _=>cP) ?_;clear hK K';try simp only [pQ,pN,pZ,pS])
       refine tk [4,5,6] cP ?_
       (intro d hd;simp [tkD] at hd;subst hd;simp only [tks,pQ,pZ,pS])
       iterate 3 (refine ⟨?_,?_,?_⟩;rotate_left;· (intro oi ho;simp at ho;subst ho;refine Or.inl ⟨by rfl,fun w' bR=>?_⟩;go_simp;try with_reducible rfl))
       (refine on 8 ?_;intro o ho K' hK;simp at ho;subst ho)
       obtain ⟨uK0,AJ⟩:∃ u,y6.cell? ⟨gK,0,none⟩=some u:=⟨_,by simp [World.cell?,EK.out.1];rfl⟩
       have AG:y6.frozen? ⟨gK,0,none⟩=false:=by simp [World.frozen?,EK.out.1]
       go_simp
       (refine hK.out _ _ (fun _=>(cP.setCell (p:=⟨gK,0,none⟩) EK.out.2.2 _)) ?_;clear hK K';try simp only [pQ,pN,pZ,pS])
       obtain ⟨y7,bD⟩:=zzN ((y6.setCell ⟨gK,0,none⟩ (.slice va vn vc)))
       rw [bD]
       have cI:Below W.heap.size W y7:=by rw [<- bD];exact (cP.setCell (p:=⟨gK,0,none⟩) EK.out.2.2 _)
       have bf:But (fun i=>i=gK) y6 y7:=by rw [<- bD];exact ((But.refl (fun i=>i=gK) y6).setCell (p:=⟨gK,0,none⟩) (.inl rfl) _)
       have bT:∀ g,g=gK->ff g=1:=fun g e=>by rw [e];exact EK.out.2.1
       have EK:Hid (y7.heap[gK]? = some (.cells #[.slice va vn vc] 61 (0,0))/\ff gK=1/\W.heap.size<=gK):=⟨by rw [<- bD];exact (zK EK.out.1),EK.out.2⟩
       clear bD bf bT AJ AG
       (refine on 9 ?_;intro o ho K' hK;simp at ho;subst ho;go_simp)
       (refine hK.out _ _ (fun _=>cI) ?_;clear hK K';try simp only [pQ,pN,pZ,pS])
       refine zU (by kernel_rfl) (NoPanic.normal ?_) _
       exact ⟨rfl,⟨va,vn,vc,gK⟩,by rfl,cI⟩
     rintro ⟨va,vn,vc,gK⟩ W9 lr
     simp only [pQ,pN,pZ,pS]
     have ET:=bU lr
     clear lr
     go_wp2_with fail
     go_ret
     exact ⟨by rw [E2.out];rfl,zzT HW.out.2 ET.out⟩
   ·have E2:Hid (jH t M=false):=by
     rw [E.out]
     exact bU (by
      have h1:¬ x=113:=fun h=>cC (.inl h)
      have h2:¬ x=116:=fun h=>cC (.inr (.inl h))
      have h3:¬ x=102:=fun h=>cC (.inr (.inr h))
      simp only [Bool.and_eq_false_iff,Bool.or_eq_false_iff,decide_eq_false_iff_not]
      exact .inl ⟨⟨h1,h2⟩,h3⟩)
    have ft:((x:Int) != 113)=true:=by rw [bne_iff_ne];omega
    have eP:((x:Int) != 116)=true:=by rw [bne_iff_ne];omega
    have i8:((x:Int) != 102)=true:=by rw [bne_iff_ne];omega
    clear E cC
    go_enter Tryz.func140,Tryz.ntmps140
    go_upto_region 1 with (fail)
    rw [HW.out.1]
    go_wp2_with fail
    go_ret
    exact ⟨by rw [E2.out];rfl,HW.out.2⟩
theorem gr (c:UInt8) (p:Bs):(⟨(c::p).toArray⟩:ByteArray).extract 1 (c::p).length=⟨p.toArray⟩:=by rw [vJ,List.take_length];rfl
def BehQ (b':Bd) (lv:List zg) (bg:zg) (F:Nat->Prop) (w:World) (en:Ending) (w':World):Prop :=
 ∃ a la lc,en=.returned (.agg #[.pointer (some ⟨a,0,none⟩),.slice la lv.length lc,.int .i64 (bg.1:Nat),str bg.2])/\Below w.heap.size w w'/\Rep F w (qm b') (.pointer (some ⟨a,0,none⟩))/\jM (w.heap.size<=·) w' lv (.slice la lv.length lc)
set_option maxRecDepth 100000 in
theorem behind_q (F:Nat->Prop) (t a:Ty) (l j:Nat) (ss:List Bd) (s y n:Bd) (bv kv lsl:Value) (lv:List zg) (bg:zg) (p:Bs) (idx:Nat) (w:World) (hg:qr w) (hb:Rep F w (qm (.ask l ss y n)) bv) (hk:Rep F w (jD t) kv) (dy:jM F w lv lsl) (ht:zW t<=15)
 (hs:ss[j]? = some s) (hj:j<10) (hp:0<p.length) (bw:p.length<=1000) (dx:p[p.length-1]=qa j) (hat:atT t p=some a) (dm:lv.length<=100000) (hssl:ss.length<=100000) :
 Calls Tryz.prog 104 #[.agg #[bv,lsl,.int .i64 (bg.1:Nat),str bg.2],kv,str (113::p),.int .i64 (idx:Nat)] w (BehQ s (lv++zh a.args.length idx p) (idx,p) F w):=by
 obtain ⟨kb,ks,rfl,_,hkb,tY⟩:=zc hk
 obtain ⟨la,lc,rfl,_⟩:=dy.open
 obtain ⟨b,sl,yv,nv,rfl,_,nh,A5,hy,hn⟩:=xl hb
 obtain ⟨sa,sc,rfl,fW,bI,b8⟩:=zO A5
 have hjl:=(List.getElem?_eq_some_iff.1 hs).1
 obtain ⟨sb,so,su,sd,rfl,_,fM,sw,iV,hsu⟩:=b8 j hjl
 rw [encBs_at,hs] at sw
 obtain rfl:=Option.some.inj sw
 obtain ⟨ab,rfl⟩:=qI hsu
 obtain ⟨W,hW,bM,hz,b0,b1⟩:=kH w (.cells #[.pointer (some ⟨b,0,none⟩),.slice la lv.length lc,.int .i64 (bg.1:Nat),str bg.2] 117) (.cells #[.pointer none,.slice none 0 0,.int .i64 0,str []] 117)
 have a15:=qP _ _ _ hat
 have aarg:=kd a
 have KEY:Hid (∀ x,Below W.heap.size W x->x.cell? ⟨w.heap.size,0,none⟩=some (.pointer (some ⟨b,0,none⟩))/\x.cell? ⟨b,2,none⟩=some (.slice (some ⟨sb,so,none⟩) ss.length sc)/\x.cell? ⟨sb,so+j,none⟩=some (.pointer (some ⟨ab,0,none⟩))):=bU (fun x hx=>by
  obtain ⟨k0,_,_,_⟩:=zl b0
  have k2:W.cell? ⟨b,2,none⟩=some (.slice (some ⟨sb,so,none⟩) ss.length sc):=(bM.cell (by exact zZ nh)).trans (by simp [World.cell?,nh])
  have k3:W.cell? ⟨sb,so+j,none⟩=some (.pointer (some ⟨ab,0,none⟩)):=(bM.cell fM).trans iV
  exact ⟨(hx.cell (bW _ _ k0)).trans k0,(hx.cell (bW _ _ k2)).trans k2,(hx.cell (bW _ _ k3)).trans k3⟩)
 have f0:=zH b0 0
 have ex:(⟨(113::p).toArray⟩:ByteArray).extract 1 (p.length+1)=⟨p.toArray⟩:=gr 113 p
 obtain ⟨m1,mQ⟩:=zzM (p.length-1)
 have hpm:IntKind.i64.wrap ((p.length:Int)-1)=(m1:Int):=by rw [show (p.length:Int)-1=(m1:Int) from by omega];exact ki _ (by omega)
 have lW:m1<p.length:=by omega
 have aH:p[m1]=qa j:=by subst mQ;exact dx
 have B:((((⟨p.toArray⟩:ByteArray)[m1]'(kY lW)).toNat:Int))=48+(j:Int):=by rw [kh lW,aH,uQ hj];omega
 have hj8:IntKind.u8.wrap (48+(j:Int)-48)=(j:Int):=by simp [IntKind.wrap,IntKind.bits,IntKind.signed];omega
 have hjI:(j:Int)<(ss.length:Int):=by omega
 have C8:(m1:Int)<(p.length:Int):=by omega
 have HW:=bU (bY hW (bY bM (bY hz (bY b0 b1))))
 have HA:=bU (bY hg (bY hk (bY dy (bY hat (bY hsu (bY ht (bY a15 aarg)))))))
 have HL:=bU (bY bw dm)
 clear hW bM hz b0 b1 nh A5 hy hn hb b8 bI fW iV fM hsu hg hk dy hkb tY hat hs dx ht a15 aarg mQ aH bw dm
 go_enter Tryz.func104,Tryz.ntmps104
 go_upto_region 1 with (fail)
 rw [HW.out.1]
 go_upto_region 3 with (fail)
 refine wp_region_noPanic ?_
 refine zX (fun w'=>Below W.heap.size W w') (fun i=>i == 14) (by kernel_rfl) ?_
 have bS:(fun w'=>Below W.heap.size W w') W.drew:=Below.drew (bP _ _)
 refine tk [0,1,2,3,4,5,6,7,8,9,10,11,12,13] bS ?_
 (intro d hd;simp [tkD] at hd;subst hd;simp only [tks,pQ,pZ,pS])
 iterate 14 (refine ⟨?_,?_,?_⟩;rotate_left;· (intro oi ho;simp at ho;subst ho;refine Or.inl ⟨by rfl,fun w' bR=>?_⟩;obtain ⟨e0,e1,e2⟩:=KEY.out w' bR;go_simp;try with_reducible rfl))
 (refine on 14 ?_;intro o ho K' hK;simp at ho;subst ho)
 obtain ⟨e0,_,_⟩:=KEY.out W (bP _ _)
 go_simp
 (refine hK.out _ _ (fun h=>by simp at h) ?_;clear hK K';try simp only [pQ,pN,pZ,pS])
 refine zU (by kernel_rfl) (NoPanic.normal ?_) _
 obtain ⟨W2,fI⟩:=zzN ((W.setCell ⟨w.heap.size,0,none⟩ (.pointer (some ⟨ab,0,none⟩))).drew)
 have x0:W2.heap[w.heap.size]? = some (.cells #[.pointer (some ⟨ab,0,none⟩),.slice la lv.length lc,.int .i64 (bg.1:Nat),str bg.2] 117 (0,0)):=by
  rw [<- fI];show (W.setCell ⟨w.heap.size,0,none⟩ (.pointer (some ⟨ab,0,none⟩))).heap[w.heap.size]? = _
  rw [zK HW.out.2.2.2.1];rfl
 have x1:W2.heap[w.heap.size+1]? = some (.cells #[.pointer none,.slice none 0 0,.int .i64 0,str []] 117 (0,0)):=by
  rw [<- fI];show (W.setCell ⟨w.heap.size,0,none⟩ (.pointer (some ⟨ab,0,none⟩))).heap[w.heap.size+1]? = _
  rw [bG _ _ _ _ (by show w.heap.size+1≠w.heap.size;omega)];exact HW.out.2.2.2.2
 have m9:Below w.heap.size w W2:=by rw [<- fI];exact (HW.out.2.1.setCell (p:=⟨w.heap.size,0,none⟩) (bX _) _).drew
 have mG:W2.heap.size=w.heap.size+2:=by rw [<- fI];show (W.setCell ⟨w.heap.size,0,none⟩ _).heap.size=_;simp [World.setCell,HW.out.2.2.1]
 rw [fI]
 have K2:Hid (∀ x,Below W2.heap.size W2 x->x.cell? ⟨w.heap.size,1,none⟩=some (.slice la lv.length lc)):=bU (fun x hx=>by
  obtain ⟨_,k1,_,_⟩:=zl x0
  exact (hx.cell (bW _ _ k1)).trans k1)
 have CA:Hid (∀ wz,Below W2.heap.size W2 wz->Calls Tryz.prog 135 #[.pointer (some ⟨kb,0,none⟩),str p] wz fun en w'=>∃ A0 BG BF,en=.returned (.pointer (some ⟨A0,0,none⟩))/\w'=wz/\wz.cell? ⟨A0,0,none⟩=some (.slice BG a.args.length BF)):=bU (fun wz hz=>by
  have aD:=HA.out.2.1.below (zzT m9 hz) (fun _ h=>h)
  have bw:=HL.out.1
  refine (gy F t p _ wz aD HA.out.2.2.2.2.2.1 (show _<=_ by omega)).mono ?_
  rintro en w' ⟨v,rfl,rfl,_,hy⟩
  obtain ⟨A0,ks2,rfl,_,eB,dJ⟩:=zc (hy a HA.out.2.2.2.1)
  obtain ⟨BG,BF,rfl,_⟩:=zO dJ
  exact ⟨A0,BG,BF,rfl,rfl,by simp [World.cell?,eB]⟩)
 have CP:=bU (fun wz (hz:Below W2.heap.size W2 wz)=>gD a.args.length idx p wz (HA.out.1.below (zzT m9 hz)) (by have:=HA.out.2.2.2.2.2;omega) (by have:=HL.out.1;omega))
 have CC:=bU (fun x pa pc (hx:Below W2.heap.size W2 x) (ho:Own x 115 2 (.slice pa a.args.length pc) a.args.length (plcs idx p a.args.length)) =>
  concatP_any x.heap.size lv.length a.args.length (.slice la lv.length lc) (.slice pa a.args.length pc) (lvC lv) (lvC (zh a.args.length idx p)) (x.alloc (.cells #[.slice la lv.length lc,.slice pa a.args.length pc] 113)) (by simp) (by simp)
   ((HA.out.2.2.1.below (zzT m9 hx) (fun _ h=>h)).src.alloc _) ((zR.ofOwn (by rw [plcs_eq] at ho;exact ho) (lvC_one _)).alloc _) (show _<=_ by have:=HL.out.2;omega) (show _<=_ by have:=HA.out.2.2.2.2.2;omega) (show _<=_ by have:=HL.out.2;have:=HA.out.2.2.2.2.2;omega))
 have H2:=bU (bY x0 (bY x1 (bY m9 mG)))
 clear fI x0 x1 m9 mG bS KEY f0 ex hpm B hj8 hjI C8
 go_upto_region 4 with (fail)
 refine wp_region_noPanic ?_
 refine zX (fun w'=>Below W2.heap.size W2 w') (fun i=>i == 15) (by kernel_rfl) ?_
 have bS:(fun w'=>Below W2.heap.size W2 w') W2.drew:=Below.drew (bP _ _)
 refine tk [0,1,2,3,9,10] bS ?_
 (intro d hd;simp [tkD] at hd;subst hd;simp only [tks,pQ,pZ,pS])
 iterate 6 (refine ⟨?_,?_,?_⟩;rotate_left;· (intro oi ho;simp at ho;subst ho;refine Or.inl ⟨by rfl,fun w' bR=>?_⟩;have e1:=K2.out w' bR;go_simp;try with_reducible rfl))
 (refine on 4 ?_;intro o ho K' hK;simp at ho;subst ho;go_simp)
 go_at_call 135
 (with_reducible refine (CA.out _ bS).mono ?_)
 rintro en x4 ⟨A0,BG,BF,rfl,ex4,hc4⟩
 subst ex4
 have DE:Hid (∀ x,Below W2.heap.size W2 x->x.cell? ⟨A0,0,none⟩=some (.slice BG a.args.length BF)):=bU (fun x hx=>(hx.cell (bW W2 _ hc4)).trans hc4)
 (refine hK.out _ _ (fun _=>bS) ?_;clear hK K';try simp only [pQ,pN,pZ,pS])
 have lx:=bS
 refine tk [5,6,7,8] lx ?_
 (intro d hd;simp [tkD] at hd;subst hd;simp only [tks,pQ,pZ,pS])
 iterate 4 (refine ⟨?_,?_,?_⟩;rotate_left;· (intro oi ho;simp at ho;subst ho;refine Or.inl ⟨by rfl,fun w' bR=>?_⟩;have e1:=DE.out w' bR;go_simp;try with_reducible rfl))
 (refine on 11 ?_;intro o ho K' hK;simp at ho;subst ho;go_simp)
 go_at_call 111
 (with_reducible refine (CP.out _ bS).mono ?_)
 rintro en n7 ⟨pa,pc,rfl,Cq,m8,hf11⟩
 have nr:Below W2.heap.size W2 n7:=Below.trans bS (m8.mono (Below.size bS))
 (refine hK.out _ _ (fun _=>nr) ?_;clear hK K';try simp only [pQ,pN,pZ,pS])
 (refine on 12 ?_;intro o ho K' hK;simp at ho;subst ho;go_simp)
 (refine hK.out _ _ (fun _=>nr.alloc nr.size _) ?_;clear hK K';try simp only [pQ,pN,pZ,pS])
 (refine on 13 ?_;intro o ho K' hK;simp at ho;subst ho)
 have cu:Below W2.heap.size W2 (n7.alloc (.cells #[.slice la lv.length lc,.slice pa a.args.length pc] 113)):=nr.alloc nr.size _
 go_simp
 go_at_call 134
 (with_reducible refine (CC.out n7 pa pc nr Cq).mono ?_)
 rintro en x13 ⟨ca,cc,rfl,Cp,fA,Ds⟩
 have r_:Below W2.heap.size W2 x13:=zzT cu fA
 (refine hK.out _ _ (fun _=>r_) ?_;clear hK K';try simp only [pQ,pN,pZ,pS])
 have Ay:=r_
 refine tk [14] Ay ?_
 (intro d hd;simp [tkD] at hd;subst hd;simp only [tks,pQ,pZ,pS])
 (refine ⟨?_,?_,?_⟩;rotate_left;· (intro oi ho;simp at ho;subst ho;refine Or.inl ⟨by rfl,fun w' bR=>?_⟩;go_simp;try with_reducible rfl))
 (refine on 15 ?_;intro o ho K' hK;simp at ho;subst ho)
 have xx0:=(r_.block _ (zZ H2.out.1)).trans H2.out.1
 obtain ⟨_,e1,_,_⟩:=zl xx0
 have f1:=zH xx0 1
 go_simp
 (refine hK.out _ _ (fun h=>by simp at h) ?_;clear hK K';try simp only [pQ,pN,pZ,pS])
 refine zU (by kernel_rfl) (NoPanic.normal ?_) _
 obtain ⟨W3,r8⟩:=zzN (x13.setCell ⟨w.heap.size,1,none⟩ (.slice ca (lv.length+a.args.length) cc))
 have y0:W3.heap[w.heap.size]? = some (.cells #[.pointer (some ⟨ab,0,none⟩),.slice ca (lv.length+a.args.length) cc,.int .i64 (bg.1:Nat),str bg.2] 117 (0,0)):=by rw [<- r8,zK xx0];rfl
 have xx1:=(r_.block _ (zZ H2.out.2.1)).trans H2.out.2.1
 have y1:W3.heap[w.heap.size+1]? = some (.cells #[.pointer none,.slice none 0 0,.int .i64 0,str []] 117 (0,0)):=by rw [<- r8,bG _ _ _ _ (by show w.heap.size+1≠w.heap.size;omega)];exact xx1
 have D6:Below w.heap.size w W3:=by rw [<- r8];exact (zzT H2.out.2.2.1 r_).setCell (p:=⟨w.heap.size,1,none⟩) (bX _) _
 have hfr:∀ g,(Value.slice ca (lv.length+a.args.length) cc).ownBlock=some g->w.heap.size+2<=g:=fun g hg=>by
  have h1:=Ds g hg
  have h2:=cu.size
  have h3:=H2.out.2.2.2
  omega
 have b5:Own W3 115 2 (.slice ca (lv.length+a.args.length) cc) (lv.length+a.args.length) (lvC (lv++zh a.args.length idx p)):=by
  rw [gO,<- r8]
  exact Cp.keep fun g o hg ho=>by
   have:=hfr g hg
   rw [bG _ _ _ _ (by show g≠w.heap.size;omega)];exact ho
 rw [r8]
 obtain ⟨k0,k1,k2,k3⟩:=zl y0
 have g2:=zH y0 2;have g3:=zH y0 3
 have H3:=bU (bY y0 (bY y1 (bY D6 (bY hfr b5))))
 clear r8 y0 y1 xx1 xx0 D6 hfr b5 nr cu r_ m8 fA Cq Cp hf11 Ds hc4 DE bS e1 f1 Ay CA CP CC K2
 go_upto_region 10 with (fail)
 obtain ⟨W4,Ei⟩:=zzN ((W3.setCell ⟨w.heap.size,2,none⟩ (.int .i64 (idx:Nat))).setCell ⟨w.heap.size,3,none⟩ (str p))
 have y0:W4.heap[w.heap.size]? = some (.cells #[.pointer (some ⟨ab,0,none⟩),.slice ca (lv.length+a.args.length) cc,.int .i64 (idx:Nat),str p] 117 (0,0)):=by rw [<- Ei,zK (zK H3.out.1)];rfl
 have oth:∀ g,g≠w.heap.size->W4.heap[g]? = W3.heap[g]?:=fun g hg=>by rw [<- Ei,bG _ _ _ _ (by show g≠w.heap.size;exact hg),bG _ _ _ _ (by show g≠w.heap.size;exact hg)]
 have y1:W4.heap[w.heap.size+1]? = some (.cells #[.pointer none,.slice none 0 0,.int .i64 0,str []] 117 (0,0)):=by rw [oth _ (by omega)];exact H3.out.2.1
 have D5:Below w.heap.size w W4:=by rw [<- Ei];exact (H3.out.2.2.1.setCell (p:=⟨w.heap.size,2,none⟩) (bX _) _).setCell (p:=⟨w.heap.size,3,none⟩) (bX _) _
 have b5:Own W4 115 2 (.slice ca (lv.length+a.args.length) cc) (lv.length+a.args.length) (lvC (lv++zh a.args.length idx p)):=H3.out.2.2.2.2.keep fun g o hg ho=>by
  have:=H3.out.2.2.2.1 g hg
  rw [oth g (by omega)];exact ho
 rw [Ei]
 clear k0 k1 k2 k3 g2 g3
 obtain ⟨k0,k1,k2,k3⟩:=zl y0
 obtain ⟨z0,z1,z2,z3⟩:=zl y1
 have g0:=zH y1 0;have g1:=zH y1 1;have g2:=zH y1 2;have g3:=zH y1 3
 have H4:=bU (bY y1 (bY D5 b5))
 clear Ei y0 y1 oth D5 b5
 go_wp2_with fail
 have hV:=v7 H4.out.1 (.pointer (some ⟨ab,0,none⟩)) (.slice ca (lv.length+a.args.length) cc) (.int .i64 (idx:Nat)) (str p)
 obtain ⟨s0,s1,s2,s3⟩:=zl hV
 have eQ:=(((H4.out.2.1.setCell (p:=⟨w.heap.size+1,0,none⟩) (Nat.le_succ _) (.pointer (some ⟨ab,0,none⟩))).setCell (p:=⟨w.heap.size+1,1,none⟩) (Nat.le_succ _) (.slice ca (lv.length+a.args.length) cc)).setCell (p:=⟨w.heap.size+1,2,none⟩) (Nat.le_succ _) (.int .i64 (idx:Nat))).setCell (p:=⟨w.heap.size+1,3,none⟩) (Nat.le_succ _) (str p)
 refine bodyPost_ret (v:=.agg #[.pointer (some ⟨ab,0,none⟩),.slice ca (lv.length+a.args.length) cc,.int .i64 (idx:Nat),str p]) (by simp [results,Tryz.results104,go_sem,s0,s1,s2,s3]) rfl ?_
 have bI:(lv++zh a.args.length idx p).length=lv.length+a.args.length:=by rw [List.length_append,zt]
 refine ⟨ab,ca,cc,by rw [bI],eQ,HA.out.2.2.2.2.1,?_⟩
 rw [bI]
 refine Own.lv ?_ bI.symm (fun g hg=>by have:=H3.out.2.2.2.1 g hg;omega)
 exact H4.out.2.2.keep fun g o hg ho=>by
  have:=H3.out.2.2.2.1 g hg
  rw [bG _ _ _ _ (by show g≠w.heap.size+1;omega),bG _ _ _ _ (by show g≠w.heap.size+1;omega),bG _ _ _ _ (by show g≠w.heap.size+1;omega),bG _ _ _ _ (by show g≠w.heap.size+1;omega)];exact ho
def qH (F:Nat->Prop) (w:World) (v:Pl) (x:Value):Prop:=Rep F w (.sl 9 1 v.length (v.map fun m=>DV.val (str m.1))) x
def qG (F:Nat->Prop) (w:World) (v:Pl) (x:Value):Prop:=Rep F w (.sl 3 1 v.length (v.map fun m=>DV.val (.int .i64 m.2))) x
theorem qK {F:Nat->Prop} {w:World}:∀ (us vs:List Value),zq F w (us.map DV.val) vs↔vs=us
 | [],vs=>by simp [zd]
 | u::us,vs=>by
   rw [List.map_cons,zP]
   constructor
   ·rintro ⟨x,xs,rfl,h1,h2⟩
    rw [zo] at h1
    rw [(qK us xs).1 h2,h1]
   ·rintro rfl
    exact ⟨u,us,rfl,zo.2 rfl,(qK us us).2 rfl⟩
theorem qH.src {F:Nat->Prop} {w:World} {v:Pl} {x:Value} (h:qH F w v x):zR 1 x v.length (k_ v) w:=by
 have h':Rep F w (.sl 9 1 v.length ((k_ v).map DV.val)) x:=by unfold qH at h;rw [show (k_ v).map DV.val=v.map fun m=>DV.val (str m.1) from by simp [k_,Function.comp_def]];exact h
 obtain ⟨xs,hx,hs⟩:=zR.ofRep h' (fun us hu u hm=>by
  rw [(qK _ _).1 hu] at hm
  obtain ⟨m,_,rfl⟩:=List.mem_map.1 hm
  simp [str,Value.oneCell'])
 rw [(qK _ _).1 hx] at hs;exact hs
theorem qG.src {F:Nat->Prop} {w:World} {v:Pl} {x:Value} (h:qG F w v x):zR 1 x v.length (qM v) w:=by
 have h':Rep F w (.sl 3 1 v.length ((qM v).map DV.val)) x:=by unfold qG at h;rw [show (qM v).map DV.val=v.map fun m=>DV.val (.int .i64 m.2) from by simp [qM,Function.comp_def]];exact h
 obtain ⟨xs,hx,hs⟩:=zR.ofRep h' (fun us hu u hm=>by
  rw [(qK _ _).1 hu] at hm
  obtain ⟨m,_,rfl⟩:=List.mem_map.1 hm
  simp [Value.oneCell'])
 rw [(qK _ _).1 hx] at hs;exact hs
theorem zC.mv {F:Nat->Prop} {w:World} {v:Pl} {mv pt:Value} (h:zC w v mv pt) (hF:∀ g,mv.ownBlock=some g\/pt.ownBlock=some g->F g):qH F w v mv/\qG F w v pt:=by
 obtain ⟨a1,c1,rfl⟩:=h.1.slice
 obtain ⟨a2,c2,rfl⟩:=h.2.slice
 refine ⟨h.1.rep (fun g hg=>hF g (.inl hg)) ?_,h.2.rep (fun g hg=>hF g (.inr hg)) ?_⟩
 ·rw [show (v.map fun m=>DV.val (str m.1))=(k_ v).map DV.val from by simp [k_,Function.comp_def]];exact (qK _ _).2 rfl
 ·rw [show (v.map fun m=>DV.val (.int .i64 m.2))=(qM v).map DV.val from by simp [qM,Function.comp_def]];exact (qK _ _).2 rfl
def Fv (va:Nat) (vw:Value) (i:Nat):Prop:=i≠va/\vw.ownBlock≠some i
def Mv (va:Nat) (vw:Value) (i:Nat):Prop:=i=va\/vw.ownBlock=some i
theorem Fv.keep {va:Nat} {vw vw':Value} {w w':World} (hb:But (Mv va vw) w w') (hf:∀ g,vw'.ownBlock=some g->vw.ownBlock=some g\/w.heap.size<=g) {d:DV} {x:Value} (h:Rep (Fv va vw) w d x):Rep (Fv va vw') w' d x :=
 (Rep.keep fun b o hF ho=>⟨⟨hF.1,fun e=>by
  rcases hf b e with h | h
  ·exact hF.2 h
  ·have:=zZ ho;omega⟩,by rw [hb.block b (zZ ho) (fun e=>e.elim hF.1 hF.2)];exact ho⟩).1 _ _ h
def numD (ns:List Nat):DV:=.sl 3 1 ns.length (ns.map fun n=>DV.val (.int .i64 (n:Nat)))
theorem yM {F:Nat->Prop} {w:World} {ns:List Nat} {x:Value} (h:Rep F w (numD ns) x):∃ a c,x=.slice a ns.length c/\∀ (i n:Nat),ns[i]? = some n->∃ b o,a=some ⟨b,o,none⟩/\F b/\b<w.heap.size/\w.cell? ⟨b,o+i,none⟩=some (.int .i64 (n:Nat)):=by
 obtain ⟨a,c,e,_,_,b8⟩:=zO h
 refine ⟨a,c,e,fun i n hi=>?_⟩
 obtain ⟨b,o,u,d,ea,hF,bA,hd,hc,hr⟩:=b8 i (List.getElem?_eq_some_iff.1 hi).1
 rw [List.getElem?_map,hi] at hd
 obtain rfl:=Option.some.inj hd
 rw [zo] at hr
 subst hr
 exact ⟨b,o,ea,hF,bA,hc⟩
theorem numD_src {F:Nat->Prop} {w:World} {ns:List Nat} {x:Value} (h:Rep F w (numD ns) x):zR 1 x ns.length (ns.map fun n=>Value.int .i64 (n:Nat)) w:=by
 have h':Rep F w (.sl 3 1 ns.length ((ns.map fun n=>Value.int .i64 (n:Nat)).map DV.val)) x:=by rw [List.map_map];exact h
 obtain ⟨xs,hx,hs⟩:=zR.ofRep h' (fun us hu u hm=>by
  rw [(qK _ _).1 hu] at hm
  obtain ⟨m,_,rfl⟩:=List.mem_map.1 hm
  simp [Value.oneCell'])
 rw [(qK _ _).1 hx] at hs;exact hs
theorem qH.cells {F:Nat->Prop} {w:World} {v:Pl} {x:Value} (h:qH F w v x):∃ a c,x=.slice a v.length c/\∀ (i:Nat) (m:Bs×Int),v[i]? = some m->∃ b o,a=some ⟨b,o,none⟩/\F b/\b<w.heap.size/\w.cell? ⟨b,o+i,none⟩=some (str m.1):=by
 obtain ⟨a,c,e,_,_,b8⟩:=zO h
 refine ⟨a,c,e,fun i m hi=>?_⟩
 obtain ⟨b,o,u,d,ea,hF,bA,hd,hc,hr⟩:=b8 i (List.getElem?_eq_some_iff.1 hi).1
 rw [List.getElem?_map,hi] at hd
 obtain rfl:=Option.some.inj hd
 rw [zo] at hr
 subst hr
 exact ⟨b,o,ea,hF,bA,hc⟩
def AtD (b:Bd) (begun args:List Nat) (opens:Nat):List DV:=ke b++[numD begun,numD args,.val (.int .i64 (opens:Nat))]
def yj (F:Nat->Prop) (w:World) (b:Bd) (lv:List zg) (bg:zg) (v:Pl) (vs:List Value):Prop :=
 ∃ begun args opens,yH lv bg v begun args opens/\zq F w (AtD b begun args opens) vs
theorem uW {F:Nat->Prop} {w:World} {b:Bd} {begun args:List Nat} {opens:Nat} {vs:List Value} (h:zq F w (AtD b begun args opens) vs) :
 ∃ a2 c2 a3 c3 ba bc aa ac,vs=[str (jx b),.int .i64 (lvOf b:Nat),.slice a2 (qg b).length c2,.slice a3 (jk b).length c3,.slice ba begun.length bc,.slice aa args.length ac,.int .i64 (opens:Nat)] /\
   zq F w (ke b) [str (jx b),.int .i64 (lvOf b:Nat),.slice a2 (qg b).length c2,.slice a3 (jk b).length c3]/\Rep F w (numD begun) (.slice ba begun.length bc)/\Rep F w (numD args) (.slice aa args.length ac):=by
 have h0:=h.length
 obtain ⟨h1,h2⟩:=zq.split h
 rw [yY] at h1 h2
 obtain ⟨v,a2,c2,a3,c3,e,_,_⟩:=jI h1
 have hv:=encN_lv (e ▸ h1)
 simp only [Value.int.injEq,true_and] at hv
 subst hv
 obtain ⟨x1,r1,e1,k1,h2⟩:=zP.1 h2
 obtain ⟨x2,r2,e2,k2,h2⟩:=zP.1 h2
 obtain ⟨x3,r3,e3,k3,h2⟩:=zP.1 h2
 rw [zd] at h2
 subst h2;subst e3;subst e2
 rw [zo] at k3
 subst k3
 obtain ⟨ba,bc,rfl,_⟩:=yM k1
 obtain ⟨aa,ac,rfl,_⟩:=yM k2
 refine ⟨a2,c2,a3,c3,ba,bc,aa,ac,?_,e ▸ h1,k1,k2⟩
 rw [<- List.take_append_drop 4 vs,e,e1];rfl
theorem qh {w:World} {b:Nat} {x0 x1 x2 x3 x4 x5 x6:Value} {T:TypeId} (h:w.heap[b]? = some (.cells #[x0,x1,x2,x3,x4,x5,x6] T (0,0))):w.cell? ⟨b,0,none⟩=some x0/\w.cell? ⟨b,1,none⟩=some x1/\w.cell? ⟨b,2,none⟩=some x2/\w.cell? ⟨b,3,none⟩=some x3/\w.cell? ⟨b,4,none⟩=some x4/\w.cell? ⟨b,5,none⟩=some x5/\w.cell? ⟨b,6,none⟩=some x6 :=
 ⟨by simp [World.cell?,h],by simp [World.cell?,h],by simp [World.cell?,h],by simp [World.cell?,h],by simp [World.cell?,h],by simp [World.cell?,h],by simp [World.cell?,h]⟩
def STellP (m:Bs) (i:Nat) (ok:Bool) (w:World) (en:Ending) (w':World):Prop:=en=.returned (.tuple #[str m,.int .i64 (i:Nat),.bool ok])/\Below w.heap.size w w'
set_option maxRecDepth 100000 in
theorem l3Tell_u (F:Nat->Prop) (lv:List zg) (bg:zg) (v:Pl) (mv pt x0 x1 x2 x3 x4 x5 x6:Value) (w:World) (h:yj F w (.leaf 117) lv bg v [x0,x1,x2,x3,x4,x5,x6]) (hm:qH F w v mv) (hp:qG F w v pt) :
 Calls Tryz.prog 91 #[.agg #[mv,pt],.agg #[x0,x1,x2,x3,x4,x5,x6]] w (STellP [] 0 false w):=by
 obtain ⟨begun,args,opens,_,hr⟩:=h
 obtain ⟨a2,c2,a3,c3,ba,bc,aa,ac,e,_⟩:=uW hr
 simp only [List.cons.injEq,and_true] at e
 obtain ⟨rfl,rfl,rfl,rfl,rfl,rfl,rfl⟩:=e
 obtain ⟨ma,mc,rfl⟩:=hm.src.slice
 obtain ⟨pa,pc,rfl⟩:=hp.src.slice
 obtain ⟨W,hW,bM,hz,b0,b1⟩:=kH w (.cells #[.slice ma v.length mc,.slice pa v.length pc] 33) (.cells #[str [117],.int .i64 (lvOf (.leaf 117):Nat),.slice a2 (qg (.leaf 117)).length c2,.slice a3 (jk (.leaf 117)).length c3,.slice ba begun.length bc,.slice aa args.length ac,.int .i64 (opens:Nat)] 145)
 obtain ⟨e0,_⟩:=qh b1
 have HW:=bU (bY hW bM)
 clear hW bM hz b0 b1 hr hm hp
 rw [show jx (.leaf 117)=[117] from rfl]
 go_enter Tryz.func91,Tryz.ntmps91
 go_upto_region 1 with (fail)
 rw [HW.out.1]
 go_wp2_with fail
 refine bodyPost_ret (v:=.tuple #[str [],.int .i64 (0:Nat),.bool false]) (by simp [results,Tryz.results91,go_sem]) rfl ?_
 exact ⟨rfl,HW.out.2⟩
set_option maxRecDepth 100000 in
theorem l3Tell_leaf (F:Nat->Prop) (c:UInt8) (hc:c=116\/c=102) (lv:List zg) (bg:zg) (v:Pl) (mv pt x0 x1 x2 x3 x4 x5 x6:Value) (w:World) (h:yj F w (.leaf c) lv bg v [x0,x1,x2,x3,x4,x5,x6]) (hm:qH F w v mv) (hp:qG F w v pt) (hl:bg.2.length<=1000) (hv:v.length<=1000) :
 Calls Tryz.prog 91 #[.agg #[mv,pt],.agg #[x0,x1,x2,x3,x4,x5,x6]] w (STellP (c::bg.2) bg.1 true w):=by
 obtain ⟨begun,args,opens,nA,hr⟩:=h
 obtain ⟨a2,c2,a3,c3,ba,bc,aa,ac,e,_⟩:=uW hr
 simp only [List.cons.injEq,and_true] at e
 obtain ⟨rfl,rfl,rfl,rfl,rfl,rfl,rfl⟩:=e
 obtain ⟨ma,mc,rfl,cH⟩:=hm.cells
 obtain ⟨pa,pc,rfl⟩:=hp.src.slice
 obtain ⟨DU,c',z',hop⟩:=nA.bg
 obtain ⟨mb,mo,rfl,_,cr,cE⟩:=cH opens _ hop
 have hol:=(List.getElem?_eq_some_iff.1 hop).1
 have holI:(opens:Int)<(v.length:Int):=by omega
 obtain ⟨W,hW,bM,hz,b0,b1⟩:=kH w (.cells #[.slice (some ⟨mb,mo,none⟩) v.length mc,.slice pa v.length pc] 33) (.cells #[str [c],.int .i64 (lvOf (.leaf c):Nat),.slice a2 (qg (.leaf c)).length c2,.slice a3 (jk (.leaf c)).length c3,.slice ba begun.length bc,.slice aa args.length ac,.int .i64 (opens:Nat)] 145)
 have hcW:W.cell? ⟨mb,mo+opens,none⟩=some (str (c'::bg.2)):=(bM.cell (p:=⟨mb,mo+opens,none⟩) cr).trans cE
 obtain ⟨e0,e1,e2,e3,e4,e5,e6⟩:=qh b1
 obtain ⟨p0,_,_,_⟩:=zJ b0
 have a1:=fun w0=>km (P:=Tryz.prog) [c] bg.2 (by simp;omega) w0
 rw [List.singleton_append] at a1
 have ex:(⟨(c'::bg.2).toArray⟩:ByteArray).extract 1 (bg.2.length+1)=⟨bg.2.toArray⟩:=gr c' bg.2
 have HO:=bU DU
 have HW:=bU (bY hW bM)
 have q1:(([c]:Bs) == [117])=false:=by rcases hc with rfl | rfl <;> rfl
 clear hW bM hz b0 b1 hr hm hp nA hop cH cE DU hol cr
 rw [show jx (.leaf c)=[c] from rfl]
 rcases hc with rfl | rfl
 ·go_enter Tryz.func91,Tryz.ntmps91
  go_upto_region 1 with (fail)
  rw [HW.out.1]
  go_wp2_with fail
  go_quiet (fail)
  go_wp2_with fail
  refine bodyPost_ret (v:=.tuple #[str (116::bg.2),.int .i64 (opens:Nat),.bool true]) (by simp [results,Tryz.results91,go_sem]) rfl ?_
  exact ⟨by rw [HO.out],z8 HW.out.2 _⟩
 ·go_enter Tryz.func91,Tryz.ntmps91
  go_upto_region 1 with (fail)
  rw [HW.out.1]
  go_wp2_with fail
  go_quiet (fail)
  go_wp2_with fail
  refine bodyPost_ret (v:=.tuple #[str (102::bg.2),.int .i64 (opens:Nat),.bool true]) (by simp [results,Tryz.results91,go_sem]) rfl ?_
  exact ⟨by rw [HO.out],z8 HW.out.2 _⟩
set_option maxRecDepth 100000 in
theorem l3Tell_ask (F:Nat->Prop) (l:Nat) (ss:List Bd) (y n:Bd) (lv:List zg) (bg pl:zg) (v:Pl) (mv pt x0 x1 x2 x3 x4 x5 x6:Value) (w:World) (h:yj F w (.ask l ss y n) lv bg v [x0,x1,x2,x3,x4,x5,x6]) (hm:qH F w v mv) (hp:qG F w v pt) (bw:lv[l]? = some pl) (hl:pl.2.length<=1000) (hv:v.length<=1000) (dm:lv.length<=100000) :
 Calls Tryz.prog 91 #[.agg #[mv,pt],.agg #[x0,x1,x2,x3,x4,x5,x6]] w (STellP (113::pl.2) pl.1 true w):=by
 obtain ⟨begun,args,opens,nA,hr⟩:=h
 obtain ⟨a2,c2,a3,c3,ba,bc,aa,ac,e,_,fv,se⟩:=uW hr
 simp only [List.cons.injEq,and_true] at e
 obtain ⟨rfl,rfl,rfl,rfl,rfl,rfl,rfl⟩:=e
 obtain ⟨ma,mc,rfl,cH⟩:=hm.cells
 obtain ⟨pa,pc,rfl⟩:=hp.src.slice
 obtain ⟨j,m,z,hb,ha,bi,mu,hj⟩:=nA.each l pl bw
 obtain ⟨mb,mo,rfl,_,cr,cE⟩:=cH pl.1 _ bi
 obtain ⟨_,_,e,nh⟩:=yM fv
 simp only [Value.slice.injEq] at e
 obtain ⟨rfl,_,rfl⟩:=e
 obtain ⟨_,_,e,hac⟩:=yM se
 simp only [Value.slice.injEq] at e
 obtain ⟨rfl,_,rfl⟩:=e
 obtain ⟨bb,bo,rfl,_,hbb,tE⟩:=nh l _ hb
 obtain ⟨ab,ao,rfl,_,hab,tT⟩:=hac l _ ha
 have h1:=(List.getElem?_eq_some_iff.1 bi).1
 have h2:=(List.getElem?_eq_some_iff.1 hb).1
 have h3:=(List.getElem?_eq_some_iff.1 ha).1
 have i1:(pl.1:Int)<(v.length:Int):=by omega
 have i2:(l:Int)<(begun.length:Int):=by omega
 have i3:(l:Int)<(args.length:Int):=by omega
 have lC:m.length<=1000:=by rw [mu,List.length_append] at hl;omega
 obtain ⟨W,hW,bM,hz,b0,b1⟩:=kH w (.cells #[.slice (some ⟨mb,mo,none⟩) v.length mc,.slice pa v.length pc] 33) (.cells #[str [],.int .i64 (l:Nat),.slice a2 (qg (.ask l ss y n)).length c2,.slice a3 (jk (.ask l ss y n)).length c3,.slice (some ⟨bb,bo,none⟩) begun.length bc,.slice (some ⟨ab,ao,none⟩) args.length ac,.int .i64 (opens:Nat)] 145)
 have hcW:W.cell? ⟨mb,mo+pl.1,none⟩=some (str (113::m)):=(bM.cell (p:=⟨mb,mo+pl.1,none⟩) cr).trans cE
 have hbWc:W.cell? ⟨bb,bo+l,none⟩=some (.int .i64 (pl.1:Nat)):=(bM.cell (p:=⟨bb,bo+l,none⟩) hbb).trans tE
 have Eg:W.cell? ⟨ab,ao+l,none⟩=some (.int .i64 (j:Nat)):=(bM.cell (p:=⟨ab,ao+l,none⟩) hab).trans tT
 obtain ⟨e0,e1,e2,e3,e4,e5,e6⟩:=qh b1
 obtain ⟨p0,_,_,_⟩:=zJ b0
 have KEY:Hid (∀ x,Below W.heap.size W x->x.cell? ⟨w.heap.size,0,none⟩=some (.slice (some ⟨mb,mo,none⟩) v.length mc)/\x.cell? ⟨mb,mo+pl.1,none⟩=some (str (113::m))/\x.cell? ⟨w.heap.size+1,5,none⟩=some (.slice (some ⟨ab,ao,none⟩) args.length ac)/\x.cell? ⟨w.heap.size+1,1,none⟩=some (.int .i64 (l:Nat))/\x.cell? ⟨ab,ao+l,none⟩=some (.int .i64 (j:Nat))):=bU (fun x hx =>
  ⟨(hx.cell (bW _ _ p0)).trans p0,(hx.cell (bW _ _ hcW)).trans hcW,(hx.cell (bW _ _ e5)).trans e5,(hx.cell (bW _ _ e1)).trans e1,(hx.cell (bW _ _ Eg)).trans Eg⟩)
 have CD:=bU (fun x=>wF j (by omega) x)
 have a1:=fun w0=>km (P:=Tryz.prog) (113::m) (dec j) (by rw [qB hj];simp;omega) w0
 obtain ⟨R,hR⟩:=zzM (113::m++dec j)
 rw [<- hR] at a1
 have HR:=bU (show R=113::pl.2 by rw [hR,mu];rfl)
 have HW:=bU (bY hW bM)
 clear hW bM hz b0 b1 hr hm hp nA cH cE cr hb ha bi mu nh hac hbb hab tE tT hR fv se h1 h2 h3
 rw [show jx (.ask l ss y n)=[] from rfl,show lvOf (.ask l ss y n)=l from rfl]
 go_enter Tryz.func91,Tryz.ntmps91
 go_upto_region 1 with (fail)
 rw [HW.out.1]
 go_upto_region 8 with (fail)
 refine wp_region_noPanic ?_
 refine zX (fun w'=>Below W.heap.size W w') (fun _=>false) (by kernel_rfl) ?_
 have bS:(fun w'=>Below W.heap.size W w') W.drew:=Below.drew (bP _ _)
 refine tk [0,1,2,3,4,5,6,7,8,9,10,11,14] bS ?_
 (intro d hd;simp [tkD] at hd;subst hd;simp only [tks,pQ,pZ,pS])
 iterate 13 (refine ⟨?_,?_,?_⟩;rotate_left;· (intro oi ho;simp at ho;subst ho;refine Or.inl ⟨by rfl,fun w' bR=>?_⟩;obtain ⟨e0,e1,e2,e3,e4⟩:=KEY.out w' bR;go_simp;try with_reducible rfl))
 (refine on 12 ?_;intro o ho K' hK;simp at ho;subst ho;go_simp)
 go_at_call 96
 (with_reducible refine (CD.out _).mono ?_)
 rintro en aI ⟨rfl,b7⟩
 have cu:Below W.heap.size W aI:=Below.trans bS (b7.mono (Below.size bS))
 (refine hK.out _ _ (fun _=>cu) ?_;clear hK K';try simp only [pQ,pN,pZ,pS])
 have Ej:=cu
 (refine on 13 ?_;intro o ho K' hK;simp at ho;subst ho;go_simp)
 (refine hK.out _ _ (fun _=>cu) ?_;clear hK K';try simp only [pQ,pN,pZ,pS])
 have Ay:=cu
 (refine on 15 ?_;intro o ho K' hK;simp at ho;subst ho;go_simp)
 (refine hK.out _ _ (fun _=>cu) ?_;clear hK K';try simp only [pQ,pN,pZ,pS])
 have Ax:=cu
 (refine on 16 ?_;intro o ho K' hK;simp at ho;subst ho;go_simp)
 (refine hK.out _ _ (fun _=>cu) ?_;clear hK K';try simp only [pQ,pN,pZ,pS])
 have hS16:=cu
 (refine on 17 ?_;intro o ho K' hK;simp at ho;subst ho;go_simp)
 (refine hK.out _ _ (fun _=>cu) ?_;clear hK K';try simp only [pQ,pN,pZ,pS])
 refine zU (by kernel_rfl) (NoPanic.normal ?_) _
 have HB:=bU (zzT HW.out.2 cu)
 clear cu bS b7
 go_wp2_with fail
 refine bodyPost_ret (v:=.tuple #[str R,.int .i64 (pl.1:Nat),.bool true]) (by simp [results,Tryz.results91,go_sem]) rfl ?_
 exact ⟨by rw [HR.out],HB.out⟩
theorem okAt_eq {t:Ty} {v:Pl} {k:Nat} {m:Bs} {z:Int} (h:v[k]? = some (m,z)):jT t v k=(jH t m && (kC m == decide (k % 2=0)) && (if k=0 then m == [113] && decide (z = -1) else decide (0<=z) && decide (z<(k:Int)) && !(m == [113]) && ((v[z.toNat]?).map (·.1) == some (qe m)))):=by
 unfold jT;rw [h]
theorem even_int (k:Nat):((k:Int) % 2 == 0)=decide (k % 2=0):=by
 rw [Bool.eq_iff_iff,beq_iff_eq,decide_eq_true_iff];omega
theorem qG.cells {F:Nat->Prop} {w:World} {v:Pl} {x:Value} (h:qG F w v x):∃ a c,x=.slice a v.length c/\∀ (i:Nat) (m:Bs×Int),v[i]? = some m->∃ b o,a=some ⟨b,o,none⟩/\F b/\b<w.heap.size/\w.cell? ⟨b,o+i,none⟩=some (.int .i64 m.2):=by
 obtain ⟨a,c,e,_,_,b8⟩:=zO h
 refine ⟨a,c,e,fun i m hi=>?_⟩
 obtain ⟨b,o,u,d,ea,hF,bA,hd,hc,hr⟩:=b8 i (List.getElem?_eq_some_iff.1 hi).1
 rw [List.getElem?_map,hi] at hd
 obtain rfl:=Option.some.inj hd
 rw [zo] at hr
 subst hr
 exact ⟨b,o,ea,hF,bA,hc⟩
set_option maxRecDepth 100000 in
theorem hasPlay_v (F:Nat->Prop) (t:Ty) (kv mv pt:Value) (v:Pl) (w:World) (hk:Rep F w (jD t) kv) (ht:zW t<=15) (hm:qH F w v mv) (hp:qG F w v pt) (ci:v.length<=60) (hl:∀ x∈v,Lim x.1.length) :
 Calls Tryz.prog 70 #[kv,.agg #[mv,pt]] w fun en w'=>en=.returned (.bool (qW t v v.length))/\Below w.heap.size w w':=by
 obtain ⟨kb,ks,rfl,_⟩:=zc hk
 obtain ⟨ma,mc,rfl,cH⟩:=hm.cells
 obtain ⟨pa,pc,rfl,cw⟩:=hp.cells
 obtain ⟨W,hW,bM,hz,b0⟩:=kJ w (.cells #[.slice ma v.length mc,.slice pa v.length pc] 33)
 obtain ⟨c0,c1,_,_⟩:=zJ b0
 have bI:¬ (60:Int)<(v.length:Int):=by omega
 have bm:((v.length:Int) != (v.length:Int))=false:=by simp
 have dM:=hk.below bM (fun _ h=>h)
 have HH:=bU (bY cH (bY cw (bY bM (bY dM hl))))
 have HW:=bU hW
 clear hk hm hp cH cw hz b0 dM bM hW hl
 go_enter Tryz.func70,Tryz.ntmps70
 go_upto_region 1 with (fail)
 rw [HW.out]
 go_wp2_with fail
 go_loopw [24] (fun i wr=>∃ (wz:World) (k:Nat),wz=wr/\k<=v.length/\i=.int .i64 k/\qW t v k=true/\Below W.heap.size W wz) (fun i _=>v.length-(intOf i).toNat)
 case atStart=>exact ⟨_,0,rfl,Nat.zero_le _,rfl,rfl,bP _ _⟩
 case round =>
  obtain ⟨wr,k,rfl,hk,rfl,be,hB⟩:=hrel
  have d0:=(hB.cell (bW _ _ c0)).trans c0
  have d1:=(hB.cell (bW _ _ c1)).trans c1
  clear c0 c1
  have HB:=bU (bY hB (zzT HH.out.2.2.1 hB))
  clear hB
  by_cases bA:k<v.length
  ·have fS:(k:Int)<(v.length:Int):=by omega
   obtain ⟨⟨m,z⟩,bi⟩:∃ x,v[k]? = some x:=⟨_,List.getElem?_eq_getElem bA⟩
   obtain ⟨mb,mo,rfl,_,cr,cf⟩:=HH.out.1 k _ bi
   obtain ⟨pb,po,rfl,_,cd,dZ⟩:=HH.out.2.1 k _ bi
   have m0:=(HB.out.2.cell (p:=⟨mb,mo+k,none⟩) cr).trans cf
   have p0:=(HB.out.2.cell (p:=⟨pb,po+k,none⟩) cd).trans dZ
   have b4:=okAt_eq (t:=t) bi
   have iC:Lim m.length:=HH.out.2.2.2.2 _ (List.mem_of_getElem? bi)
   have CM:=bU (hasMove_any F t (.pointer (some ⟨kb,0,none⟩)) m wr (HH.out.2.2.2.1.below HB.out.1 (fun _ h=>h)) ht iC)
   have HA:=bU (bY be (bY bi b4))
   have FALSE:Hid (jT t v k=false->qW t v v.length=false):=bU (fun h=>yG h bA)
   clear be cr cd cf dZ b4
   cases fg:jH t m with
   | false =>
     have E:=bU (FALSE.out (by rw [HA.out.2.2,fg];rfl))
     rw [fg] at CM
     clear FALSE bi iC
     go_wp2_with fail
     (with_reducible refine CM.out.mono ?_)
     rintro en w1 ⟨rfl,e⟩
     subst w1
     go_wp2_with fail
     go_ret
     exact ⟨by rw [E.out];rfl,HB.out.2⟩
   | true =>
     rw [fg] at CM
     obtain ⟨c,p,fY⟩:∃ c p,m=c::p:=by
      cases m with
      | nil=>simp [jH] at fg
      | cons c p=>exact ⟨c,p,rfl⟩
     have bw:p.length<=16777216:=by have:=iC.le;rw [fY,List.length_cons] at this;omega
     have CB:=bU (vT c p bw wr)
     have CE:=bU (fun x=>enabler_any c p bw x)
     rw [<- fY] at CB CE
     obtain ⟨bo,dq⟩:=zzN (kC m)
     obtain ⟨e_,d6⟩:=zzN (qe m)
     rw [dq] at CB
     rw [d6] at CE
     have HO:Hid (jT t v k=((bo == decide (k % 2=0)) && (if k=0 then m == [113] && decide (z = -1) else decide (0<=z) && decide (z<(k:Int)) && !(m == [113]) && ((v[z.toNat]?).map (·.1) == some e_)))):=by
      rw [HA.out.2.2,fg,dq,d6];exact bU (by rw [Bool.true_and])
     clear dq d6 fg iC bw fY bi
     by_cases bE:bo=((k:Int) % 2 == 0)
     ·subst bE
      have bN:(((k:Int) % 2 == 0) == decide (k % 2=0))=true:=by rw [even_int];simp
      replace HO:Hid (jT t v k=(if k=0 then m == [113] && decide (z = -1) else decide (0<=z) && decide (z<(k:Int)) && !(m == [113]) && ((v[z.toNat]?).map (·.1) == some e_))):=by rw [HO.out,bN];exact bU (by rw [Bool.true_and])
      clear bN
      by_cases dO:z < -1
      ·have E:=bU (FALSE.out (by rw [HO.out];split;(· rw [Bool.and_eq_false_iff];exact .inr (by simp;omega));(· simp only [Bool.and_eq_false_iff];exact .inl (.inl (.inl (by simp;omega))))))
       clear FALSE HO
       go_wp2_with fail
       (with_reducible refine CM.out.mono ?_)
       rintro en w1 ⟨rfl,e⟩
       subst w1
       go_wp2_with fail
       (with_reducible refine CB.out.mono ?_)
       rintro en w2 ⟨rfl,e⟩
       subst w2
       go_wp2_with fail
       go_ret
       exact ⟨by rw [E.out];rfl,HB.out.2⟩
      by_cases mG:(k:Int)<=z
      ·have E:=bU (FALSE.out (by rw [HO.out];split;(· rw [Bool.and_eq_false_iff];exact .inr (by simp;omega));(· simp only [Bool.and_eq_false_iff];exact .inl (.inl (.inr (by simp;omega))))))
       clear FALSE HO
       go_wp2_with fail
       (with_reducible refine CM.out.mono ?_)
       rintro en w1 ⟨rfl,e⟩
       subst w1
       go_wp2_with fail
       (with_reducible refine CB.out.mono ?_)
       rintro en w2 ⟨rfl,e⟩
       subst w2
       go_wp2_with fail
       go_ret
       exact ⟨by rw [E.out];rfl,HB.out.2⟩
      by_cases eL:k=0
      ·have ot:((k:Int) == 0)=true:=by rw [eL];rfl
       have hz:z = -1:=by omega
       have hzb:(z == -1)=true:=by rw [hz];rfl
       have hkp:¬ (0:Int)<(k:Int):=by omega
       have aC:(0<k)=False:=by simp [eL]
       replace HO:Hid (jT t v k=(m == [113] && decide (z = -1))):=by rw [HO.out,if_pos eL];exact bU rfl
       have hd:decide (z = -1)=true:=by simp [hz]
       cases dl:((m:Bs) == [113]) with
       | false =>
         have mh:((m:Bs) != [113])=true:=by rw [bne,dl];rfl
         have E:=bU (FALSE.out (by rw [HO.out,dl];rfl))
         clear FALSE HO hz eL hd
         go_wp2_with fail
         (with_reducible refine CM.out.mono ?_)
         rintro en w1 ⟨rfl,e⟩
         subst w1
         go_wp2_with fail
         (with_reducible refine CB.out.mono ?_)
         rintro en w2 ⟨rfl,e⟩
         subst w2
         go_upto_region 9 with (fail)
         refine wp_region_noPanic ?_
         refine zX (fun w'=>Below wr.heap.size wr w') (fun _=>false) (by kernel_rfl) ?_
         have bS:(fun w'=>Below wr.heap.size wr w') wr.drew:=Below.drew (bP _ _)
         refine tk [0,1,2,3,4,5,6,7,8,9,10,11,12,13,14,15,16,17,18,19,20,21,22,23] bS ?_
         (intro d hd;simp [tkD] at hd;subst hd;simp only [tks,pQ,pZ,pS])
         iterate 24 (refine ⟨?_,?_,?_⟩;rotate_left;· (intro oi ho;simp at ho;subst ho;first | (refine Or.inr ⟨by rfl,?_⟩;with_reducible rfl) | (refine Or.inl ⟨by rfl,fun w' bR=>?_⟩;go_simp;try with_reducible rfl)))
         refine zU (by kernel_rfl) (NoPanic.normal ?_) _
         go_wp2_with fail
         go_ret
         exact ⟨by rw [E.out];rfl,z8 HB.out.2 _⟩
       | true =>
         have mh:((m:Bs) != [113])=false:=by rw [bne,dl];rfl
         have E:=bU (show qW t v (k+1)=true by rw [qW,HA.out.1,HO.out,dl,hd];rfl)
         clear FALSE HO hz eL hd
         go_wp2_with fail
         (with_reducible refine CM.out.mono ?_)
         rintro en w1 ⟨rfl,e⟩
         subst w1
         go_wp2_with fail
         (with_reducible refine CB.out.mono ?_)
         rintro en w2 ⟨rfl,e⟩
         subst w2
         go_upto_region 9 with (fail)
         refine wp_region_noPanic ?_
         refine zX (fun w'=>Below wr.heap.size wr w') (fun _=>false) (by kernel_rfl) ?_
         have bS:(fun w'=>Below wr.heap.size wr w') wr.drew:=Below.drew (bP _ _)
         refine tk [0,1,2,3,4,5,6,7,8,9,10,11,12,13,14,15,16,17,18,19,20,21,22,23] bS ?_
         (intro d hd;simp [tkD] at hd;subst hd;simp only [tks,pQ,pZ,pS])
         iterate 24 (refine ⟨?_,?_,?_⟩;rotate_left;· (intro oi ho;simp at ho;subst ho;first | (refine Or.inr ⟨by rfl,?_⟩;with_reducible rfl) | (refine Or.inl ⟨by rfl,fun w' bR=>?_⟩;go_simp;try with_reducible rfl)))
         refine zU (by kernel_rfl) (NoPanic.normal ?_) _
         go_wp2_with fail
         go_roundw
         case rel=>exact ⟨_,k+1,rfl,by omega,by go_num,E.out,HB.out.1.drew⟩
         case measure=>simp [intOf];omega
      ·have ot:((k:Int) == 0)=false:=by rw [beq_eq_false_iff_ne];omega
       have hkp:(0:Int)<(k:Int):=by omega
       have aC:(0<k)=True:=by simp;omega
       replace HO:Hid (jT t v k=(decide (0<=z) && decide (z<(k:Int)) && !(m == [113]) && ((v[z.toNat]?).map (·.1) == some e_))):=by rw [HO.out,if_neg eL];exact bU rfl
       by_cases a_:z = -1
       ·have hzb:(z == -1)=true:=by rw [a_];rfl
        have E:=bU (FALSE.out (by rw [HO.out];simp only [Bool.and_eq_false_iff];exact .inl (.inl (.inl (by simp;omega)))))
        clear FALSE HO a_ eL
        go_wp2_with fail
        (with_reducible refine CM.out.mono ?_)
        rintro en w1 ⟨rfl,e⟩
        subst w1
        go_wp2_with fail
        (with_reducible refine CB.out.mono ?_)
        rintro en w2 ⟨rfl,e⟩
        subst w2
        go_wp2_with fail
        go_ret
        exact ⟨by rw [E.out];rfl,HB.out.2⟩
       have hzb:(z == -1)=false:=by rw [beq_eq_false_iff_ne];exact a_
       obtain ⟨zn,ae⟩:∃ zn:Nat,z=(zn:Int):=⟨z.toNat,by omega⟩
       subst ae
       obtain ⟨⟨my,zy⟩,lZ⟩:∃ x,v[zn]? = some x:=⟨_,List.getElem?_eq_getElem (by omega)⟩
       have hznl:(zn:Int)<(v.length:Int):=by omega
       have Dx:(decide ((0:Int)<=(zn:Int)) && decide ((zn:Int)<(k:Int)))=true:=by simp;omega
       replace HO:Hid (jT t v k=(!(m == [113]) && (my == e_))):=by rw [HO.out,Dx,Int.toNat_natCast,lZ];exact bU (by rw [Bool.true_and];rfl)
       obtain ⟨yb,yo,ey,_,BR,rZ⟩:=HH.out.1 zn _ lZ
       simp only [Option.some.injEq,Addr.mk.injEq] at ey
       obtain ⟨rfl,rfl,_⟩:=ey
       have y0:=(HB.out.2.cell (p:=⟨mb,mo+zn,none⟩) BR).trans rZ
       clear BR rZ lZ Dx a_
       cases dl:((m:Bs) == [113]) with
       | true =>
         have E:=bU (FALSE.out (by rw [HO.out,dl];rfl))
         clear FALSE HO eL
         go_wp2_with fail
         (with_reducible refine CM.out.mono ?_)
         rintro en w1 ⟨rfl,e⟩
         subst w1
         go_wp2_with fail
         (with_reducible refine CB.out.mono ?_)
         rintro en w2 ⟨rfl,e⟩
         subst w2
         go_upto_region 9 with (fail)
         refine wp_region_noPanic ?_
         refine zX (fun w'=>Below wr.heap.size wr w') (fun _=>false) (by kernel_rfl) ?_
         have bS:(fun w'=>Below wr.heap.size wr w') wr.drew:=Below.drew (bP _ _)
         refine tk [0,1,2,3,4,5,6,7,8,9,10,11,12,13,14,15,16,17,18,19,20,21,22,23] bS ?_
         (intro d hd;simp [tkD] at hd;subst hd;simp only [tks,pQ,pZ,pS])
         iterate 24 (refine ⟨?_,?_,?_⟩;rotate_left;· (intro oi ho;simp at ho;subst ho;first | (refine Or.inr ⟨by rfl,?_⟩;with_reducible rfl) | (refine Or.inl ⟨by rfl,fun w' bR=>?_⟩;go_simp;try with_reducible rfl)))
         refine zU (by kernel_rfl) (NoPanic.normal ?_) _
         go_wp2_with fail
         go_ret
         exact ⟨by rw [E.out];rfl,z8 HB.out.2 _⟩
       | false =>
         have KEY:Hid (∀ x,Below wr.heap.size wr x->x.cell? ⟨w.heap.size,0,none⟩=some (.slice (some ⟨mb,mo,none⟩) v.length mc)):=bU (fun x hx=>(hx.cell (bW _ _ d0)).trans d0)
         have KEYY:Hid (∀ x,Below wr.heap.size wr x->x.cell? ⟨mb,mo+zn,none⟩=some (str my)):=bU (fun x hx=>(hx.cell (bW _ _ y0)).trans y0)
         have mh:((m:Bs) != [113])=true:=by rw [bne,dl];rfl
         cases s9:(my == e_) with
         | false =>
           have og:((my:Bs) != e_)=true:=by rw [bne,s9];rfl
           have E:=bU (FALSE.out (by rw [HO.out,dl,s9];rfl))
           clear FALSE HO eL
           go_wp2_with fail
           (with_reducible refine CM.out.mono ?_)
           rintro en w1 ⟨rfl,e⟩
           subst w1
           go_wp2_with fail
           (with_reducible refine CB.out.mono ?_)
           rintro en w2 ⟨rfl,e⟩
           subst w2
           go_upto_region 9 with (fail)
           refine wp_region_noPanic ?_
           refine zX (fun w'=>Below wr.heap.size wr w') (fun _=>false) (by kernel_rfl) ?_
           have bS:(fun w'=>Below wr.heap.size wr w') wr.drew:=Below.drew (bP _ _)
           refine tk [0,1,2,3,4,5,6,7,8,9,10,11,12,13,14,15,16] bS ?_
           (intro d hd;simp [tkD] at hd;subst hd;simp only [tks,pQ,pZ,pS])
           iterate 17 (refine ⟨?_,?_,?_⟩;rotate_left;· (intro oi ho;simp at ho;subst ho;first | (refine Or.inr ⟨by rfl,?_⟩;with_reducible rfl) | (refine Or.inl ⟨by rfl,fun w' bR=>?_⟩;have e0:=KEY.out w' bR;go_simp;try with_reducible rfl)))
           refine tk [17,18] bS ?_
           (intro d hd;simp [tkD] at hd;subst hd;simp only [tks,pQ,pZ,pS])
           iterate 2 (refine ⟨?_,?_,?_⟩;rotate_left;· (intro oi ho;simp at ho;subst ho;refine Or.inl ⟨by rfl,fun w' bR=>?_⟩;have e0:=KEYY.out w' bR;go_simp;try with_reducible rfl))
           (refine on 19 ?_;intro o ho K' hK;simp at ho;subst ho;go_simp)
           go_at_call 107
           (with_reducible refine (CE.out _).mono ?_)
           rintro en x19 ⟨rfl,e⟩
           subst x19
           (refine hK.out _ _ (fun _=>bS) ?_;clear hK K';try simp only [pQ,pN,pZ,pS])
           refine tk [20,21,22,23] bS ?_
           (intro d hd;simp [tkD] at hd;subst hd;simp only [tks,pQ,pZ,pS])
           iterate 4 (refine ⟨?_,?_,?_⟩;rotate_left;· (intro oi ho;simp at ho;subst ho;refine Or.inl ⟨by rfl,fun w' bR=>?_⟩;go_simp;try with_reducible rfl))
           refine zU (by kernel_rfl) (NoPanic.normal ?_) _
           go_wp2_with fail
           go_ret
           exact ⟨by rw [E.out];rfl,z8 HB.out.2 _⟩
         | true =>
           have og:((my:Bs) != e_)=false:=by rw [bne,s9];rfl
           have E:=bU (show qW t v (k+1)=true by rw [qW,HA.out.1,HO.out,dl,s9];rfl)
           clear FALSE HO eL
           go_wp2_with fail
           (with_reducible refine CM.out.mono ?_)
           rintro en w1 ⟨rfl,e⟩
           subst w1
           go_wp2_with fail
           (with_reducible refine CB.out.mono ?_)
           rintro en w2 ⟨rfl,e⟩
           subst w2
           go_upto_region 9 with (fail)
           refine wp_region_noPanic ?_
           refine zX (fun w'=>Below wr.heap.size wr w') (fun _=>false) (by kernel_rfl) ?_
           have bS:(fun w'=>Below wr.heap.size wr w') wr.drew:=Below.drew (bP _ _)
           refine tk [0,1,2,3,4,5,6,7,8,9,10,11,12,13,14,15,16] bS ?_
           (intro d hd;simp [tkD] at hd;subst hd;simp only [tks,pQ,pZ,pS])
           iterate 17 (refine ⟨?_,?_,?_⟩;rotate_left;· (intro oi ho;simp at ho;subst ho;first | (refine Or.inr ⟨by rfl,?_⟩;with_reducible rfl) | (refine Or.inl ⟨by rfl,fun w' bR=>?_⟩;have e0:=KEY.out w' bR;go_simp;try with_reducible rfl)))
           refine tk [17,18] bS ?_
           (intro d hd;simp [tkD] at hd;subst hd;simp only [tks,pQ,pZ,pS])
           iterate 2 (refine ⟨?_,?_,?_⟩;rotate_left;· (intro oi ho;simp at ho;subst ho;refine Or.inl ⟨by rfl,fun w' bR=>?_⟩;have e0:=KEYY.out w' bR;go_simp;try with_reducible rfl))
           (refine on 19 ?_;intro o ho K' hK;simp at ho;subst ho;go_simp)
           go_at_call 107
           (with_reducible refine (CE.out _).mono ?_)
           rintro en x19 ⟨rfl,e⟩
           subst x19
           (refine hK.out _ _ (fun _=>bS) ?_;clear hK K';try simp only [pQ,pN,pZ,pS])
           refine tk [20,21,22,23] bS ?_
           (intro d hd;simp [tkD] at hd;subst hd;simp only [tks,pQ,pZ,pS])
           iterate 4 (refine ⟨?_,?_,?_⟩;rotate_left;· (intro oi ho;simp at ho;subst ho;refine Or.inl ⟨by rfl,fun w' bR=>?_⟩;go_simp;try with_reducible rfl))
           refine zU (by kernel_rfl) (NoPanic.normal ?_) _
           go_wp2_with fail
           go_roundw
           case rel=>exact ⟨_,k+1,rfl,by omega,by go_num,E.out,HB.out.1.drew⟩
           case measure=>simp [intOf];omega
     ·have E:=bU (FALSE.out (by rw [HO.out];rw [even_int] at bE;rw [Bool.and_eq_false_iff];exact .inl (by rw [beq_eq_false_iff_ne];exact bE)))
      clear FALSE HO
      go_wp2_with fail
      (with_reducible refine CM.out.mono ?_)
      rintro en w1 ⟨rfl,e⟩
      subst w1
      go_wp2_with fail
      (with_reducible refine CB.out.mono ?_)
      rintro en w2 ⟨rfl,e⟩
      subst w2
      go_wp2_with fail
      go_ret
      exact ⟨by rw [E.out];rfl,HB.out.2⟩
  ·obtain rfl:k=v.length:=by omega
   go_wp2_with fail
   go_ret
   exact ⟨by rw [be];rfl,HB.out.2⟩
set_option maxRecDepth 100000 in
theorem l2Valid_v (F:Nat->Prop) (t:Ty) (tv mv pt:Value) (v:Pl) (w:World) (hk:Rep F w (qZ t) tv) (ht:zW t<=15) (hm:qH F w v mv) (hp:qG F w v pt) (ci:v.length<=60) (hl:∀ x∈v,Lim x.1.length) :
 Calls Tryz.prog 124 #[.agg #[tv],.agg #[mv,pt]] w fun en w'=>en=.returned (.bool (qW t v v.length))/\Below w.heap.size w w':=by
 obtain ⟨ta,tc,rfl⟩:=zu hk
 obtain ⟨ma,mc,rfl,cH⟩:=hm.cells
 obtain ⟨pa,pc,rfl,cw⟩:=hp.cells
 obtain ⟨W,hW,bM,hz,b0,b1⟩:=kH w (.cells #[.slice ta t.args.length tc] 61) (.cells #[.slice ma v.length mc,.slice pa v.length pc] 33)
 have a0:=kP b0
 obtain ⟨c0,c1,_,_⟩:=zJ b1
 have bI:¬ (60:Int)<(v.length:Int):=by omega
 have bm:((v.length:Int) != (v.length:Int))=false:=by simp
 have dM:=hk.below bM (fun _ h=>h)
 have HH:=bU (bY cH (bY cw (bY bM (bY dM hl))))
 have HW:=bU hW
 have KEYS:=bU (bY a0 (bY c0 c1))
 clear hk hm hp cH cw hz b0 b1 dM bM hW hl
 go_enter Tryz.func124,Tryz.ntmps124
 go_upto_region 1 with (fail)
 rw [HW.out]
 go_wp2_with fail
 clear a0 c0 c1
 go_loopw [5] (fun i wr=>∃ (wz:World) (k:Nat),wz=wr/\k<=v.length/\i=.int .i64 k/\qW t v k=true/\Below W.heap.size W wz) (fun i _=>v.length-(intOf i).toNat)
 case atStart=>exact ⟨_,0,rfl,Nat.zero_le _,rfl,rfl,bP _ _⟩
 case round =>
  obtain ⟨wr,k,rfl,hk,rfl,be,hB⟩:=hrel
  have a0:=(hB.cell (bW _ _ KEYS.out.1)).trans KEYS.out.1
  have d0:=(hB.cell (bW _ _ KEYS.out.2.1)).trans KEYS.out.2.1
  have d1:=(hB.cell (bW _ _ KEYS.out.2.2)).trans KEYS.out.2.2
  have HB:=bU (bY hB (zzT HH.out.2.2.1 hB))
  clear hB
  by_cases bA:k<v.length
  ·have fS:(k:Int)<(v.length:Int):=by omega
   obtain ⟨⟨m,z⟩,bi⟩:∃ x,v[k]? = some x:=⟨_,List.getElem?_eq_getElem bA⟩
   obtain ⟨mb,mo,rfl,_,cr,cf⟩:=HH.out.1 k _ bi
   obtain ⟨pb,po,rfl,_,cd,dZ⟩:=HH.out.2.1 k _ bi
   have m0:=(HB.out.2.cell (p:=⟨mb,mo+k,none⟩) cr).trans cf
   have p0:=(HB.out.2.cell (p:=⟨pb,po+k,none⟩) cd).trans dZ
   have b4:=okAt_eq (t:=t) bi
   have iC:Lim m.length:=HH.out.2.2.2.2 _ (List.mem_of_getElem? bi)
   have CM:=bU (l1Move_any F t (.slice ta t.args.length tc) m wr (HH.out.2.2.2.1.below HB.out.1 (fun _ h=>h)) ht iC)
   have HA:=bU (bY be (bY bi b4))
   have FALSE:Hid (jT t v k=false->qW t v v.length=false):=bU (fun h=>yG h bA)
   clear be cr cd cf dZ b4
   cases fg:jH t m with
   | false =>
     have E:=bU (FALSE.out (by rw [HA.out.2.2,fg];rfl))
     rw [fg] at CM
     clear FALSE bi iC
     go_wp2_with fail
     (with_reducible refine CM.out.mono ?_)
     rintro en w1 ⟨rfl,bE⟩
     have cO:=bU (zzT HB.out.2 bE)
     clear bE
     go_wp2_with fail
     go_ret
     exact ⟨by rw [E.out];rfl,cO.out⟩
   | true =>
     rw [fg] at CM
     obtain ⟨c,p,fY⟩:∃ c p,m=c::p:=by
      cases m with
      | nil=>simp [jH] at fg
      | cons c p=>exact ⟨c,p,rfl⟩
     have bw:p.length<=16777216:=by have:=iC.le;rw [fY,List.length_cons] at this;omega
     have CB:=bU (fun x=>j_ c p bw x)
     have CE:=bU (fun x=>ve c p bw x)
     rw [<- fY] at CB CE
     obtain ⟨bo,dq⟩:=zzN (kC m)
     obtain ⟨pn,cR⟩:=zzN (plN m)
     obtain ⟨e_,d6⟩:=zzN (qe m)
     have cd:pn=if bo=true then 0 else 1:=by rw [<- cR,<- dq];rfl
     rw [cR] at CB
     rw [d6] at CE
     have HO:Hid (jT t v k=((bo == decide (k % 2=0)) && (if k=0 then m == [113] && decide (z = -1) else decide (0<=z) && decide (z<(k:Int)) && !(m == [113]) && ((v[z.toNat]?).map (·.1) == some e_)))):=by
      rw [HA.out.2.2,fg,dq,d6];exact bU (by rw [Bool.true_and])
     have Dv:m=[113]->e_=[]:=fun h=>by rw [<- d6,h];rfl
     have HEN:=bU Dv
     clear dq d6 fg iC bw fY bi cR Dv
     by_cases bE:(pn:Int)=(k:Int) % 2
     ·have bN:(bo == decide (k % 2=0))=true:=by
       rw [beq_iff_eq]
       cases bo with
       | true=>rw [if_pos rfl] at cd;symm;rw [decide_eq_true_iff];omega
       | false=>rw [if_neg (by simp)] at cd;symm;rw [decide_eq_false_iff_not];omega
      replace HO:Hid (jT t v k=(if k=0 then m == [113] && decide (z = -1) else decide (0<=z) && decide (z<(k:Int)) && !(m == [113]) && ((v[z.toNat]?).map (·.1) == some e_))):=by rw [HO.out,bN];exact bU (by rw [Bool.true_and])
      clear bN cd
      by_cases eL:k=0
      ·have ot:((k:Int) == 0)=true:=by rw [eL];rfl
       replace HO:Hid (jT t v k=(m == [113] && decide (z = -1))):=by rw [HO.out,if_pos eL];exact bU rfl
       have nS:(0:Int)<(v.length:Int):=by omega
       cases dl:((m:Bs) == [113]) with
       | false =>
         have mh:((m:Bs) != [113])=true:=by rw [bne,dl];rfl
         have E:=bU (FALSE.out (by rw [HO.out,dl];rfl))
         clear FALSE HO eL
         go_wp2_with fail
         (with_reducible refine CM.out.mono ?_)
         rintro en w1 ⟨rfl,bE⟩
         have cO:=bU (bY (zzT HB.out.1 bE) (zzT HB.out.2 bE))
         have m1:=(bE.cell (bW _ _ m0)).trans m0
         have p1:=(bE.cell (bW _ _ p0)).trans p0
         have d2:=(bE.cell (bW _ _ d0)).trans d0
         have d3:=(bE.cell (bW _ _ d1)).trans d1
         clear bE m0 p0 d0 d1 a0
         go_wp2_with fail
         (with_reducible refine (CB.out w1).mono ?_)
         rintro en w2 ⟨rfl,e⟩
         subst w2
         go_wp2_with fail
         go_ret
         exact ⟨by rw [E.out];rfl,cO.out.2⟩
       | true =>
         have mh:((m:Bs) != [113])=false:=by rw [bne,dl];rfl
         have AX:wr.cell? ⟨pb,po,none⟩=some (.int .i64 z):=by rw [eL] at p0;exact p0
         by_cases hz:z = -1
         ·have hzb:(z != -1)=false:=by rw [hz];rfl
          have E:=bU (show qW t v (k+1)=true by rw [qW,HA.out.1,HO.out,dl];simp [hz])
          clear FALSE HO hz eL
          go_wp2_with fail
          (with_reducible refine CM.out.mono ?_)
          rintro en w1 ⟨rfl,bE⟩
          have cO:=bU (bY (zzT HB.out.1 bE) (zzT HB.out.2 bE))
          have m1:=(bE.cell (bW _ _ m0)).trans m0
          have p1:=(bE.cell (bW _ _ p0)).trans p0
          have d2:=(bE.cell (bW _ _ d0)).trans d0
          have d3:=(bE.cell (bW _ _ d1)).trans d1
          have p10:=(bE.cell (bW _ _ AX)).trans AX
          clear AX bE m0 p0 d0 d1 a0
          go_wp2_with fail
          (with_reducible refine (CB.out w1).mono ?_)
          rintro en w2 ⟨rfl,e⟩
          subst w2
          go_wp2_with fail
          go_roundw
          case rel=>exact ⟨_,k+1,rfl,by omega,by go_num,E.out,cO.out.1⟩
          case measure=>simp [intOf];omega
         ·have hzb:(z != -1)=true:=by rw [bne_iff_ne];exact hz
          have E:=bU (FALSE.out (by rw [HO.out,dl];simp [hz]))
          clear FALSE HO hz eL
          go_wp2_with fail
          (with_reducible refine CM.out.mono ?_)
          rintro en w1 ⟨rfl,bE⟩
          have cO:=bU (bY (zzT HB.out.1 bE) (zzT HB.out.2 bE))
          have m1:=(bE.cell (bW _ _ m0)).trans m0
          have p1:=(bE.cell (bW _ _ p0)).trans p0
          have d2:=(bE.cell (bW _ _ d0)).trans d0
          have d3:=(bE.cell (bW _ _ d1)).trans d1
          have p10:=(bE.cell (bW _ _ AX)).trans AX
          clear AX bE m0 p0 d0 d1 a0
          go_wp2_with fail
          (with_reducible refine (CB.out w1).mono ?_)
          rintro en w2 ⟨rfl,e⟩
          subst w2
          go_wp2_with fail
          go_ret
          exact ⟨by rw [E.out];rfl,cO.out.2⟩
      ·have ot:((k:Int) == 0)=false:=by rw [beq_eq_false_iff_ne];omega
       replace HO:Hid (jT t v k=(decide (0<=z) && decide (z<(k:Int)) && !(m == [113]) && ((v[z.toNat]?).map (·.1) == some e_))):=by rw [HO.out,if_neg eL];exact bU rfl
       have i_:IntKind.i64.wrap ((k:Int)-1)=(k:Int)-1:=by simp [IntKind.wrap,IntKind.bits,IntKind.signed];omega
       have CI:=bU (fun x=>yQ z 0 ((k:Int)-1) x)
       have KEY:Hid (∀ x y,Below wr.heap.size wr y->Below y.heap.size y x->x.cell? ⟨w.heap.size+1,0,none⟩=some (.slice (some ⟨mb,mo,none⟩) v.length mc)/\x.cell? ⟨w.heap.size+1,1,none⟩=some (.slice (some ⟨pb,po,none⟩) v.length pc)/\x.cell? ⟨pb,po+k,none⟩=some (.int .i64 z)):=bU (fun x y hy hx=>by
        have key:∀ {p:Addr} {u:Value},wr.cell? p=some u->x.cell? p=some u:=fun h=>by
         have h1:=(hy.cell (bW _ _ h)).trans h
         exact (hx.cell (bW _ _ h1)).trans h1
        exact ⟨key d0,key d1,key p0⟩)
       by_cases rR:0<=z/\z<=(k:Int)-1
       ·have cC:(decide ((0:Int)<=z) && decide (z<=(k:Int)-1))=true:=by simp only [Bool.and_eq_true,decide_eq_true_eq];exact rR
        obtain ⟨zn,ae⟩:∃ zn:Nat,z=(zn:Int):=⟨z.toNat,by omega⟩
        subst ae
        obtain ⟨⟨my,zy⟩,lZ⟩:∃ x,v[zn]? = some x:=⟨_,List.getElem?_eq_getElem (by omega)⟩
        have hznl:(zn:Int)<(v.length:Int):=by omega
        have Dx:(decide ((0:Int)<=(zn:Int)) && decide ((zn:Int)<(k:Int)))=true:=by simp;omega
        have hmy:my≠[]:=by
         obtain ⟨c',p',z',fb,_⟩:=okAt_some (uY HA.out.1 (show zn<k by omega))
         rw [lZ] at fb
         simp only [Option.some.injEq,Prod.mk.injEq] at fb
         rw [fb.1];simp
        replace HO:Hid (jT t v k=(!(m == [113]) && (my == e_))):=by rw [HO.out,Dx,Int.toNat_natCast,lZ];exact bU (by rw [Bool.true_and];rfl)
        obtain ⟨yb,yo,ey,_,BR,rZ⟩:=HH.out.1 zn _ lZ
        simp only [Option.some.injEq,Addr.mk.injEq] at ey
        obtain ⟨rfl,rfl,_⟩:=ey
        have y0:=(HB.out.2.cell (p:=⟨mb,mo+zn,none⟩) BR).trans rZ
        have KEYY:Hid (∀ x y,Below wr.heap.size wr y->Below y.heap.size y x->x.cell? ⟨mb,mo+zn,none⟩=some (str my)):=bU (fun x y hy hx=>by
         have h1:=(hy.cell (bW _ _ y0)).trans y0
         exact (hx.cell (bW _ _ h1)).trans h1)
        clear BR rZ lZ Dx y0 rR
        cases s9:(my == e_) with
        | false =>
          have og:((my:Bs) != e_)=true:=by rw [bne,s9];rfl
          have E:=bU (FALSE.out (by rw [HO.out,s9,Bool.and_false]))
          clear FALSE HO eL hmy
          go_wp2_with fail
          (with_reducible refine CM.out.mono ?_)
          rintro en w1 ⟨rfl,bE⟩
          have ig:=bU bE
          have cO:=bU (bY (zzT HB.out.1 bE) (zzT HB.out.2 bE))
          have m1:=(bE.cell (bW _ _ m0)).trans m0
          have p1:=(bE.cell (bW _ _ p0)).trans p0
          have d2:=(bE.cell (bW _ _ d0)).trans d0
          have d3:=(bE.cell (bW _ _ d1)).trans d1
          clear bE m0 p0 d0 d1 a0
          go_wp2_with fail
          (with_reducible refine (CB.out w1).mono ?_)
          rintro en w2 ⟨rfl,e⟩
          subst w2
          go_upto_region 12 with (fail)
          refine wp_region_noPanic ?_
          refine zX (fun w'=>Below w1.heap.size w1 w') (fun _=>false) (by kernel_rfl) ?_
          have bS:(fun w'=>Below w1.heap.size w1 w') w1.drew:=Below.drew (bP _ _)
          refine tk [0,1,2,3,4,5,6] bS ?_
          (intro d hd;simp [tkD] at hd;subst hd;simp only [tks,pQ,pZ,pS])
          iterate 7 (refine ⟨?_,?_,?_⟩;rotate_left;· (intro oi ho;simp at ho;subst ho;refine Or.inl ⟨by rfl,fun w' bR=>?_⟩;obtain ⟨e0,e1,e2⟩:=KEY.out w' w1 ig.out bR;go_simp;try with_reducible rfl))
          (refine on 7 ?_;intro o ho K' hK;simp at ho;subst ho;go_simp)
          go_at_call 119
          (with_reducible refine (CI.out _).mono ?_)
          rintro en x7 ⟨rfl,e⟩
          subst x7
          rw [cC]
          (refine hK.out _ _ (fun _=>bS) ?_;clear hK K';try simp only [pQ,pN,pZ,pS])
          have tA:=bS
          refine tk [8,9,10,11,12,13,14,15,16,17] tA ?_
          (intro d hd;simp [tkD] at hd;subst hd;simp only [tks,pQ,pZ,pS])
          iterate 10 (refine ⟨?_,?_,?_⟩;rotate_left;· (intro oi ho;simp at ho;subst ho;refine Or.inl ⟨by rfl,fun w' bR=>?_⟩;obtain ⟨e0,e1,e2⟩:=KEY.out w' w1 ig.out bR;go_simp;try with_reducible rfl))
          refine tk [18,19] tA ?_
          (intro d hd;simp [tkD] at hd;subst hd;simp only [tks,pQ,pZ,pS])
          iterate 2 (refine ⟨?_,?_,?_⟩;rotate_left;· (intro oi ho;simp at ho;subst ho;refine Or.inl ⟨by rfl,fun w' bR=>?_⟩;have e0:=KEYY.out w' w1 ig.out bR;go_simp;try with_reducible rfl))
          (refine on 20 ?_;intro o ho K' hK;simp at ho;subst ho;go_simp)
          go_at_call 123
          (with_reducible refine (CE.out _).mono ?_)
          rintro en x20 ⟨rfl,e⟩
          subst x20
          (refine hK.out _ _ (fun _=>bS) ?_;clear hK K';try simp only [pQ,pN,pZ,pS])
          have Aw:=bS
          refine tk [21,22] Aw ?_
          (intro d hd;simp [tkD] at hd;subst hd;simp only [tks,pQ,pZ,pS])
          iterate 2 (refine ⟨?_,?_,?_⟩;rotate_left;· (intro oi ho;simp at ho;subst ho;refine Or.inl ⟨by rfl,fun w' bR=>?_⟩;go_simp;try with_reducible rfl))
          refine zU (by kernel_rfl) (NoPanic.normal ?_) _
          go_wp2_with fail
          go_ret
          exact ⟨by rw [E.out];rfl,z8 cO.out.2 _⟩
        | true =>
          have og:((my:Bs) != e_)=false:=by rw [bne,s9];rfl
          have dl:(m == [113])=false:=by
           rw [beq_eq_false_iff_ne]
           intro h
           rw [beq_iff_eq,HEN.out h] at s9
           exact hmy s9
          have E:=bU (show qW t v (k+1)=true by rw [qW,HA.out.1,HO.out,dl,s9];rfl)
          clear FALSE HO eL hmy dl
          go_wp2_with fail
          (with_reducible refine CM.out.mono ?_)
          rintro en w1 ⟨rfl,bE⟩
          have ig:=bU bE
          have cO:=bU (bY (zzT HB.out.1 bE) (zzT HB.out.2 bE))
          have m1:=(bE.cell (bW _ _ m0)).trans m0
          have p1:=(bE.cell (bW _ _ p0)).trans p0
          have d2:=(bE.cell (bW _ _ d0)).trans d0
          have d3:=(bE.cell (bW _ _ d1)).trans d1
          clear bE m0 p0 d0 d1 a0
          go_wp2_with fail
          (with_reducible refine (CB.out w1).mono ?_)
          rintro en w2 ⟨rfl,e⟩
          subst w2
          go_upto_region 12 with (fail)
          refine wp_region_noPanic ?_
          refine zX (fun w'=>Below w1.heap.size w1 w') (fun _=>false) (by kernel_rfl) ?_
          have bS:(fun w'=>Below w1.heap.size w1 w') w1.drew:=Below.drew (bP _ _)
          refine tk [0,1,2,3,4,5,6] bS ?_
          (intro d hd;simp [tkD] at hd;subst hd;simp only [tks,pQ,pZ,pS])
          iterate 7 (refine ⟨?_,?_,?_⟩;rotate_left;· (intro oi ho;simp at ho;subst ho;refine Or.inl ⟨by rfl,fun w' bR=>?_⟩;obtain ⟨e0,e1,e2⟩:=KEY.out w' w1 ig.out bR;go_simp;try with_reducible rfl))
          (refine on 7 ?_;intro o ho K' hK;simp at ho;subst ho;go_simp)
          go_at_call 119
          (with_reducible refine (CI.out _).mono ?_)
          rintro en x7 ⟨rfl,e⟩
          subst x7
          rw [cC]
          (refine hK.out _ _ (fun _=>bS) ?_;clear hK K';try simp only [pQ,pN,pZ,pS])
          have tA:=bS
          refine tk [8,9,10,11,12,13,14,15,16,17] tA ?_
          (intro d hd;simp [tkD] at hd;subst hd;simp only [tks,pQ,pZ,pS])
          iterate 10 (refine ⟨?_,?_,?_⟩;rotate_left;· (intro oi ho;simp at ho;subst ho;refine Or.inl ⟨by rfl,fun w' bR=>?_⟩;obtain ⟨e0,e1,e2⟩:=KEY.out w' w1 ig.out bR;go_simp;try with_reducible rfl))
          refine tk [18,19] tA ?_
          (intro d hd;simp [tkD] at hd;subst hd;simp only [tks,pQ,pZ,pS])
          iterate 2 (refine ⟨?_,?_,?_⟩;rotate_left;· (intro oi ho;simp at ho;subst ho;refine Or.inl ⟨by rfl,fun w' bR=>?_⟩;have e0:=KEYY.out w' w1 ig.out bR;go_simp;try with_reducible rfl))
          (refine on 20 ?_;intro o ho K' hK;simp at ho;subst ho;go_simp)
          go_at_call 123
          (with_reducible refine (CE.out _).mono ?_)
          rintro en x20 ⟨rfl,e⟩
          subst x20
          (refine hK.out _ _ (fun _=>bS) ?_;clear hK K';try simp only [pQ,pN,pZ,pS])
          have Aw:=bS
          refine tk [21,22] Aw ?_
          (intro d hd;simp [tkD] at hd;subst hd;simp only [tks,pQ,pZ,pS])
          iterate 2 (refine ⟨?_,?_,?_⟩;rotate_left;· (intro oi ho;simp at ho;subst ho;refine Or.inl ⟨by rfl,fun w' bR=>?_⟩;go_simp;try with_reducible rfl))
          refine zU (by kernel_rfl) (NoPanic.normal ?_) _
          go_wp2_with fail
          go_roundw
          case rel=>exact ⟨_,k+1,rfl,by omega,by go_num,E.out,cO.out.1.drew⟩
          case measure=>simp [intOf];omega
       ·have cC:(decide ((0:Int)<=z) && decide (z<=(k:Int)-1))=false:=by
         rw [Bool.and_eq_false_iff,decide_eq_false_iff_not,decide_eq_false_iff_not]
         omega
        have E:=bU (FALSE.out (by
         rw [HO.out]
         simp only [Bool.and_eq_false_iff,decide_eq_false_iff_not]
         exact .inl (.inl (by omega))))
        clear FALSE HO eL rR
        go_wp2_with fail
        (with_reducible refine CM.out.mono ?_)
        rintro en w1 ⟨rfl,bE⟩
        have ig:=bU bE
        have cO:=bU (bY (zzT HB.out.1 bE) (zzT HB.out.2 bE))
        have m1:=(bE.cell (bW _ _ m0)).trans m0
        have p1:=(bE.cell (bW _ _ p0)).trans p0
        have d2:=(bE.cell (bW _ _ d0)).trans d0
        have d3:=(bE.cell (bW _ _ d1)).trans d1
        clear bE m0 p0 d0 d1 a0
        go_wp2_with fail
        (with_reducible refine (CB.out w1).mono ?_)
        rintro en w2 ⟨rfl,e⟩
        subst w2
        go_upto_region 12 with (fail)
        refine wp_region_noPanic ?_
        refine zX (fun w'=>Below w1.heap.size w1 w') (fun _=>false) (by kernel_rfl) ?_
        have bS:(fun w'=>Below w1.heap.size w1 w') w1.drew:=Below.drew (bP _ _)
        refine tk [0,1,2,3,4,5,6] bS ?_
        (intro d hd;simp [tkD] at hd;subst hd;simp only [tks,pQ,pZ,pS])
        iterate 7 (refine ⟨?_,?_,?_⟩;rotate_left;· (intro oi ho;simp at ho;subst ho;refine Or.inl ⟨by rfl,fun w' bR=>?_⟩;obtain ⟨e0,e1,e2⟩:=KEY.out w' w1 ig.out bR;go_simp;try with_reducible rfl))
        (refine on 7 ?_;intro o ho K' hK;simp at ho;subst ho;go_simp)
        go_at_call 119
        (with_reducible refine (CI.out _).mono ?_)
        rintro en x7 ⟨rfl,e⟩
        subst x7
        rw [cC]
        (refine hK.out _ _ (fun _=>bS) ?_;clear hK K';try simp only [pQ,pN,pZ,pS])
        have tA:=bS
        refine tk [8,9,10,11,12,13,14,15,16,17,18,19,20,21,22] tA ?_
        (intro d hd;simp [tkD] at hd;subst hd;simp only [tks,pQ,pZ,pS])
        iterate 15 (refine ⟨?_,?_,?_⟩;rotate_left;· (intro oi ho;simp at ho;subst ho;first | (refine Or.inr ⟨by rfl,?_⟩;with_reducible rfl) | (refine Or.inl ⟨by rfl,fun w' bR=>?_⟩;go_simp;try with_reducible rfl)))
        refine zU (by kernel_rfl) (NoPanic.normal ?_) _
        go_wp2_with fail
        go_ret
        exact ⟨by rw [E.out];rfl,z8 cO.out.2 _⟩
     ·have E:=bU (FALSE.out (by
       rw [HO.out,Bool.and_eq_false_iff]
       refine .inl ?_
       rw [beq_eq_false_iff_ne]
       intro h
       apply bE
       cases bo with
       | true=>rw [if_pos rfl] at cd;have:=of_decide_eq_true h.symm;omega
       | false=>rw [if_neg (by simp)] at cd;have:=of_decide_eq_false h.symm;omega))
      clear FALSE HO cd
      go_wp2_with fail
      (with_reducible refine CM.out.mono ?_)
      rintro en w1 ⟨rfl,bE⟩
      have cO:=bU (bY (zzT HB.out.1 bE) (zzT HB.out.2 bE))
      have m1:=(bE.cell (bW _ _ m0)).trans m0
      have p1:=(bE.cell (bW _ _ p0)).trans p0
      have d2:=(bE.cell (bW _ _ d0)).trans d0
      have d3:=(bE.cell (bW _ _ d1)).trans d1
      clear bE m0 p0 d0 d1 a0
      go_wp2_with fail
      (with_reducible refine (CB.out w1).mono ?_)
      rintro en w2 ⟨rfl,e⟩
      subst w2
      go_wp2_with fail
      go_ret
      exact ⟨by rw [E.out];rfl,cO.out.2⟩
  ·obtain rfl:k=v.length:=by omega
   go_wp2_with fail
   go_ret
   exact ⟨by rw [be];rfl,HB.out.2⟩
def jz (F:Nat->Prop) (w:World) (ms:List Bs) (x:Value):Prop:=Rep F w (.sl 9 1 ms.length (ms.map fun m=>DV.val (str m))) x
def jO (F:Nat->Prop) (w:World) (ps:List Int) (x:Value):Prop:=Rep F w (.sl 3 1 ps.length (ps.map fun z=>DV.val (.int .i64 z))) x
def qE (t:Ty) (ms:List Bs) (ps:List Int):Bool:=decide (ms.length<=60) && (decide (ps.length=ms.length) && qW t (ms.zip ps) (ms.zip ps).length)
theorem jz.slice {F:Nat->Prop} {w:World} {ms:List Bs} {x:Value} (h:jz F w ms x):∃ a c,x=.slice a ms.length c:=by
 obtain ⟨a,c,e,_⟩:=zO h;exact ⟨a,c,e⟩
theorem jO.slice {F:Nat->Prop} {w:World} {ps:List Int} {x:Value} (h:jO F w ps x):∃ a c,x=.slice a ps.length c:=by
 obtain ⟨a,c,e,_⟩:=zO h;exact ⟨a,c,e⟩
theorem zip_fst {ms:List Bs} {ps:List Int} (h:ps.length=ms.length):(ms.zip ps).map (·.1)=ms:=by
 rw [List.map_fst_zip (by omega)]
theorem zip_snd {ms:List Bs} {ps:List Int} (h:ps.length=ms.length):(ms.zip ps).map (·.2)=ps:=by
 rw [List.map_snd_zip (by omega)]
theorem jz.zip {F:Nat->Prop} {w:World} {ms:List Bs} {ps:List Int} {x:Value} (h:jz F w ms x) (he:ps.length=ms.length):qH F w (ms.zip ps) x:=by
 have h1:(ms.zip ps).length=ms.length:=by rw [List.length_zip];omega
 unfold qH
 rw [h1,show (ms.zip ps).map (fun m=>DV.val (str m.1))=ms.map (fun m=>DV.val (str m)) from by
  conv=>rhs;rw [<- zip_fst he]
  rw [List.map_map];rfl]
 exact h
theorem jO.zip {F:Nat->Prop} {w:World} {ms:List Bs} {ps:List Int} {x:Value} (h:jO F w ps x) (he:ps.length=ms.length):qG F w (ms.zip ps) x:=by
 have h1:(ms.zip ps).length=ps.length:=by rw [List.length_zip];omega
 unfold qG
 rw [h1,show (ms.zip ps).map (fun m=>DV.val (.int .i64 m.2))=ps.map (fun z=>DV.val (.int .i64 z)) from by
  conv=>rhs;rw [<- zip_snd he]
  rw [List.map_map];rfl]
 exact h
set_option maxRecDepth 100000 in
theorem hasPlay_any (F:Nat->Prop) (t:Ty) (kv mv pt:Value) (ms:List Bs) (ps:List Int) (w:World) (hk:Rep F w (jD t) kv) (ht:zW t<=15) (hm:jz F w ms mv) (hp:jO F w ps pt) (hl:∀ x∈ms,Lim x.length) :
 Calls Tryz.prog 70 #[kv,.agg #[mv,pt]] w fun en w'=>en=.returned (.bool (qE t ms ps))/\Below w.heap.size w w':=by
 by_cases ci:ms.length<=60
 ·by_cases he:ps.length=ms.length
  ·refine (hasPlay_v F t kv mv pt (ms.zip ps) w hk ht (hm.zip he) (hp.zip he) (by rw [List.length_zip];omega) (fun x hx=>hl _ (List.of_mem_zip hx).1)).mono ?_
   rintro en w' ⟨rfl,hb⟩
   refine ⟨?_,hb⟩
   unfold qE
   rw [decide_eq_true ci,decide_eq_true he];rfl
  ·have E:=bU (show qE t ms ps=false by unfold qE;rw [decide_eq_false he,Bool.false_and,Bool.and_false])
   obtain ⟨kb,ks,rfl,_⟩:=zc hk
   obtain ⟨ma,mc,rfl⟩:=hm.slice
   obtain ⟨pa,pc,rfl⟩:=hp.slice
   obtain ⟨W,hW,bM,hz,b0⟩:=kJ w (.cells #[.slice ma ms.length mc,.slice pa ps.length pc] 33)
   obtain ⟨c0,c1,_,_⟩:=zJ b0
   have bI:¬ (60:Int)<(ms.length:Int):=by omega
   have bm:((ps.length:Int) != (ms.length:Int))=true:=by simp;omega
   have HW:=bU hW
   have HB:=bU bM
   clear hk hm hp hz b0 bM hW hl ci he
   go_enter Tryz.func70,Tryz.ntmps70
   go_upto_region 1 with (fail)
   rw [HW.out]
   go_wp2_with fail
   go_ret
   exact ⟨by rw [E.out];rfl,HB.out⟩
 ·have E:=bU (show qE t ms ps=false by unfold qE;rw [decide_eq_false ci,Bool.false_and])
  obtain ⟨kb,ks,rfl,_⟩:=zc hk
  obtain ⟨ma,mc,rfl⟩:=hm.slice
  obtain ⟨pa,pc,rfl⟩:=hp.slice
  obtain ⟨W,hW,bM,hz,b0⟩:=kJ w (.cells #[.slice ma ms.length mc,.slice pa ps.length pc] 33)
  obtain ⟨c0,c1,_,_⟩:=zJ b0
  have bI:(60:Int)<(ms.length:Int):=by omega
  have HW:=bU hW
  have HB:=bU bM
  clear hk hm hp hz b0 bM hW hl ci
  go_enter Tryz.func70,Tryz.ntmps70
  go_upto_region 1 with (fail)
  rw [HW.out]
  go_wp2_with fail
  go_ret
  exact ⟨by rw [E.out];rfl,HB.out⟩
set_option maxRecDepth 100000 in
theorem l2Valid_any (F:Nat->Prop) (t:Ty) (tv mv pt:Value) (ms:List Bs) (ps:List Int) (w:World) (hk:Rep F w (qZ t) tv) (ht:zW t<=15) (hm:jz F w ms mv) (hp:jO F w ps pt) (hl:∀ x∈ms,Lim x.length) :
 Calls Tryz.prog 124 #[.agg #[tv],.agg #[mv,pt]] w fun en w'=>en=.returned (.bool (qE t ms ps))/\Below w.heap.size w w':=by
 by_cases ci:ms.length<=60
 ·by_cases he:ps.length=ms.length
  ·refine (l2Valid_v F t tv mv pt (ms.zip ps) w hk ht (hm.zip he) (hp.zip he) (by rw [List.length_zip];omega) (fun x hx=>hl _ (List.of_mem_zip hx).1)).mono ?_
   rintro en w' ⟨rfl,hb⟩
   refine ⟨?_,hb⟩
   unfold qE
   rw [decide_eq_true ci,decide_eq_true he];rfl
  ·have E:=bU (show qE t ms ps=false by unfold qE;rw [decide_eq_false he,Bool.false_and,Bool.and_false])
   obtain ⟨ta,tc,rfl⟩:=zu hk
   obtain ⟨ma,mc,rfl⟩:=hm.slice
   obtain ⟨pa,pc,rfl⟩:=hp.slice
   obtain ⟨W,hW,bM,hz,b0,b1⟩:=kH w (.cells #[.slice ta t.args.length tc] 61) (.cells #[.slice ma ms.length mc,.slice pa ps.length pc] 33)
   obtain ⟨c0,c1,_,_⟩:=zJ b1
   have bI:¬ (60:Int)<(ms.length:Int):=by omega
   have bm:((ps.length:Int) != (ms.length:Int))=true:=by simp;omega
   have HW:=bU hW
   have HB:=bU bM
   clear hk hm hp hz b0 b1 bM hW hl ci he
   go_enter Tryz.func124,Tryz.ntmps124
   go_upto_region 1 with (fail)
   rw [HW.out]
   go_wp2_with fail
   go_ret
   exact ⟨by rw [E.out];rfl,HB.out⟩
 ·have E:=bU (show qE t ms ps=false by unfold qE;rw [decide_eq_false ci,Bool.false_and])
  obtain ⟨ta,tc,rfl⟩:=zu hk
  obtain ⟨ma,mc,rfl⟩:=hm.slice
  obtain ⟨pa,pc,rfl⟩:=hp.slice
  obtain ⟨W,hW,bM,hz,b0,b1⟩:=kH w (.cells #[.slice ta t.args.length tc] 61) (.cells #[.slice ma ms.length mc,.slice pa ps.length pc] 33)
  obtain ⟨c0,c1,_,_⟩:=zJ b1
  have bI:(60:Int)<(ms.length:Int):=by omega
  have HW:=bU hW
  have HB:=bU bM
  clear hk hm hp hz b0 b1 bM hW hl ci
  go_enter Tryz.func124,Tryz.ntmps124
  go_upto_region 1 with (fail)
  rw [HW.out]
  go_wp2_with fail
  go_ret
  exact ⟨by rw [E.out];rfl,HB.out⟩
theorem jz.below {F F':Nat->Prop} {w w':World} {ms:List Bs} {x:Value} (h:jz F w ms x) (hb:Below w.heap.size w w') (hF:∀ b,F b->F' b):jz F' w' ms x:=Rep.below hb hF h
theorem jO.below {F F':Nat->Prop} {w w':World} {ps:List Int} {x:Value} (h:jO F w ps x) (hb:Below w.heap.size w w') (hF:∀ b,F b->F' b):jO F' w' ps x:=Rep.below hb hF h
def kt (s:Bs) (ms:List Bs) (ps:List Int):Bool:=(zV s).2 && qE (zV s).1 ms ps
theorem playOk_kind {s:Bs} {t:Ty} (h:jG s=some t) (ms:List Bs) (ps:List Int):kt s ms ps=qE t ms ps/\zW t<=15:=by
 rw [uf] at h
 unfold kt
 cases h2:(zV s).2 with
 | false=>rw [h2] at h;simp at h
 | true =>
   rw [h2] at h
   obtain rfl:=Option.some.inj h
   exact ⟨by rw [Bool.true_and],(jq h2).2⟩
theorem playOk_none {s:Bs} (h:jG s=none) (ms:List Bs) (ps:List Int):kt s ms ps=false:=by
 rw [uf] at h
 unfold kt
 cases h2:(zV s).2 with
 | false=>rfl
 | true=>rw [h2] at h;simp at h
set_option maxRecDepth 100000 in
theorem xy (F:Nat->Prop) (s:Bs) (mv pt:Value) (ms:List Bs) (ps:List Int) (w:World) (hs:Lim s.length) (hm:jz F w ms mv) (hp:jO F w ps pt) (hl:∀ x∈ms,Lim x.length) :
 Calls Tryz.prog 43 #[str s,.agg #[mv,pt]] w fun en w'=>en=.returned (.bool (kt s ms ps))/\Below w.heap.size w w':=by
 obtain ⟨ma,mc,rfl⟩:=hm.slice
 obtain ⟨pa,pc,rfl⟩:=hp.slice
 obtain ⟨W,hW,bM,hz,b0⟩:=kJ w (.cells #[.slice ma ms.length mc,.slice pa ps.length pc] 33)
 have C:=bU (xM s W hs)
 have HR:=bU (bY (hm.below bM (F':=fun _=>True) fun _ _=>trivial) (bY (hp.below bM (F':=fun _=>True) fun _ _=>trivial) (bY hl bM)))
 have HW:=bU (bY hW b0)
 clear hs hm hp hl hW hz b0 bM
 go_enter Tryz.func43,Tryz.ntmps43
 go_upto_region 1 with (fail)
 rw [HW.out.1]
 go_wp2_with fail
 (with_reducible refine C.out.mono ?_)
 rintro en w1 ⟨kv,rfl,bE,cS,dW⟩
 clear C
 obtain ⟨c0,c1,_,_⟩:=zJ HW.out.2
 have c0':=(bE.cell (bW _ _ c0)).trans c0
 have EG:=(bE.cell (bW _ _ c1)).trans c1
 clear c0 c1
 have cO:=bU (bY bE (zzT HR.out.2.2.2 bE))
 cases hq:jG s with
 | none =>
   obtain rfl:=cS hq
   have E:=bU (playOk_none hq ms ps)
   clear cS dW hq bE
   go_wp2_with fail
   go_ret
   exact ⟨by rw [E.out];rfl,cO.out.2⟩
 | some t =>
   have rk:=dW t hq
   obtain ⟨ka,ks,rfl,_⟩:=zc rk
   obtain ⟨E,bL⟩:=playOk_kind hq ms ps
   have E:=bU E
   have C2:=bU (hasPlay_any (fun _=>True) t (.pointer (some ⟨ka,0,none⟩)) _ _ ms ps w1 ((Rep.keep fun b o _ ho=>⟨trivial,ho⟩).1 _ _ rk) bL (HR.out.1.below cO.out.1 fun _ h=>h) (HR.out.2.1.below cO.out.1 fun _ h=>h) HR.out.2.2.1)
   clear cS dW hq bE rk bL
   go_wp2_with fail
   (with_reducible refine C2.out.mono ?_)
   rintro en w2 ⟨rfl,bN⟩
   have b6:=bU (zzT cO.out.2 bN)
   clear bN
   go_wp2_with fail
   go_ret
   exact ⟨by rw [E.out];rfl,b6.out⟩
set_option maxRecDepth 100000 in
theorem xB (F:Nat->Prop) (s:Bs) (mv pt:Value) (ms:List Bs) (ps:List Int) (w:World) (hs:Lim s.length) (hm:jz F w ms mv) (hp:jO F w ps pt) (hl:∀ x∈ms,Lim x.length) :
 Calls Tryz.prog 86 #[str s,.agg #[mv,pt]] w fun en w'=>en=.returned (.bool (kt s ms ps))/\Below w.heap.size w w':=by
 obtain ⟨ma,mc,rfl⟩:=hm.slice
 obtain ⟨pa,pc,rfl⟩:=hp.slice
 obtain ⟨W,hW,bM,hz,b0⟩:=kJ w (.cells #[.slice ma ms.length mc,.slice pa ps.length pc] 33)
 have C:=bU (uE s hs W)
 have HR:=bU (bY (hm.below bM (F':=fun _=>True) fun _ _=>trivial) (bY (hp.below bM (F':=fun _=>True) fun _ _=>trivial) (bY hl bM)))
 have HW:=bU (bY hW b0)
 clear hs hm hp hl hW hz b0 bM
 go_enter Tryz.func86,Tryz.ntmps86
 go_upto_region 1 with (fail)
 rw [HW.out.1]
 go_wp2_with fail
 (with_reducible refine C.out.mono ?_)
 rintro en w1 ⟨tv,rfl,bE,rt⟩
 clear C
 obtain ⟨ta,tc,rfl⟩:=zu rt
 have bL:(zV s).2=true->zW (zV s).1<=15:=fun h=>(jq h).2
 have E:kt s ms ps=((zV s).2 && qE (zV s).1 ms ps):=rfl
 generalize (zV s).2=ok at bL E ⊢
 generalize (zV s).1=t at bL E rt ⊢
 obtain ⟨X,hX,dp,ai,x0⟩:=kJ w1 (.cells #[.slice ta t.args.length tc] 61)
 have hB:=zzT bE dp
 obtain ⟨c0,c1,_,_⟩:=zJ HW.out.2
 have c0':=(hB.cell (bW _ _ c0)).trans c0
 have EG:=(hB.cell (bW _ _ c1)).trans c1
 have t0:=kP x0
 clear c0 c1
 have cO:=bU (bY hB (zzT HR.out.2.2.2 hB))
 have E:=bU E
 have HX:=bU (bY hX (bY dp rt))
 clear bE hX dp ai x0 hB rt
 cases ok with
 | false =>
   go_upto_region 2 with (fail)
   rw [HX.out.1]
   clear bL
   go_wp2_with fail
   go_ret
   exact ⟨by rw [E.out];rfl,cO.out.2⟩
 | true =>
   have C2:=bU (l2Valid_any (fun _=>True) t (.slice ta t.args.length tc) _ _ ms ps X ((Rep.below HX.out.2.1 fun _ _=>trivial) HX.out.2.2) (bL rfl) (HR.out.1.below cO.out.1 fun _ h=>h) (HR.out.2.1.below cO.out.1 fun _ h=>h) HR.out.2.2.1)
   clear bL
   go_upto_region 2 with (fail)
   rw [HX.out.1]
   go_wp2_with fail
   (with_reducible refine C2.out.mono ?_)
   rintro en w2 ⟨rfl,bN⟩
   have b6:=bU (zzT cO.out.2 bN)
   clear bN
   go_wp2_with fail
   go_ret
   exact ⟨by rw [E.out];rfl,b6.out⟩
end Go.Proofs.YtfedjhgaeikjmaaGreatDoor

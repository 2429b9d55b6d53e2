/- Walks of functions that the statement reaches, and plain words. No conditions. -/
import Derived.Test.YtdhaafoiokkbnaaGreatDoorQ11
set_option linter.unusedVariables false
set_option linter.unusedSimpArgs false
set_option maxHeartbeats 8000000
namespace Go.Proofs.YtdhaafoiokkbnaaGreatDoor
open Go.RowKit
theorem run_pts {s text:Bs} {xs:List Bs} {c:UInt8} {log:Pl} (h:RunF s text xs c log) {i:Nat} {m:Bs} {z:Int} (hv:log[i]? = some (m,z)) (h0:0<i):0<=z/\z<(i:Int):=by
 have h1:=xi h.leg
 unfold jF jh at h1
 rw [uz] at h1
 simp only [Bool.and_eq_true] at h1
 obtain ⟨c',p,z',e,ok⟩:=okAt_some (xV h1.2.2.2 (List.getElem?_eq_some_iff.1 hv).1)
 rw [hv] at e
 simp only [Option.some.injEq,Prod.mk.injEq] at e
 obtain ⟨_,e2⟩:=e
 have:=ok.pos h0
 rw [<- e2] at this
 exact ⟨this.1,this.2.1⟩
set_option maxRecDepth 100000 in
theorem bh (a0:Option Addr) (len cap:Nat) (zs:List Int) (w:World) (h8:Row8 w a0 len cap zs) (hg:qL w) (tu:jp w) :
 Calls Tryz.prog 3 #[.slice a0 len cap] w fun en w'=>en=.returned (.bool true)/\Below w.heap.size w w':=by
 by_cases hl:1048576<len
 ·have fM:(1048576:Int)<(len:Int):=by omega
  go_enter Tryz.func3,Tryz.ntmps3
  go_wp2_with fail
  go_ret
  exact ⟨rfl,cE _ _⟩
 have fM:¬ (1048576:Int)<(len:Int):=by omega
 have CD:=cH (drawRunOf_any a0 len cap zs w h8 (by omega))
 have HG:=cH (fun (y:World) (hy:Below w.heap.size w y)=>cB (hg.below hy) (tu.but (m:=fun _=>False) (But.ofBelow hy) (fun h=>h)))
 clear h8 hg tu hl
 go_enter Tryz.func3,Tryz.ntmps3
 go_wp2_with fail
 (with_reducible refine CD.out.mono ?_)
 rintro en w1 ⟨s,text,xs,a,c,rfl,hs,ht,n5,_,mJ,hx,cT⟩
 have ls:Lim s.length:=show _<=_ by omega
 have lt:Lim text.length:=show _<=_ by omega
 have lx:Lim xs.length:=show _<=_ by omega
 have lxs:∀ x∈xs,Lim x.length:=fun x h=>show _<=_ by have:=mJ x h;omega
 have da:=cH cT
 have HX:=cH hx.at
 have CI:=cH (fun (y:World) (hy:Below w.heap.size w y) (h:jQ y a xs)=>implRunOf_any s text xs a c y (HG.out y hy).1 (HG.out y hy).2 h ls lt lxs lx)
 have CS:=cH (fun (y:World) (h:jQ y a xs)=>specRunOf_any s text xs a c y h ls lt lxs lx)
 have CF:=cH (fun (y:World) (hy:Below w.heap.size w y) (s2 t2:Bs) (l2:Lim s2.length) (l3:Lim t2.length) (u:Pl) (mv pt:Value) (hp:zo y u mv pt) (nT:∀ x∈u,Lim x.1.length)=>uh (fun _=>True) s2 t2 mv pt (u.map (·.1)) (u.map (·.2)) y (HG.out y hy).1 l2 l3 (zo.mv (F:=fun _=>True) hp (fun _ _=>trivial)).1.ms (zo.mv (F:=fun _=>True) hp (fun _ _=>trivial)).2.ps (fun x hx=>by
  obtain ⟨z,hz,rfl⟩:=List.mem_map.1 hx
  exact nT z hz))
 have CTA:=cH (fun (t:Ty) (h2:s=zq t) (h3:zU t<=15) (wz:World)=>pH s t ls (by rw [h2];exact pw h3) h3 wz)
 have LXS:=cH lxs
 have Eb:=cH (fun (c:UInt8) (log:Pl) (h:kV 60 s text xs=some (c,log))=>run_facts h)
 have i8:logOf (kj true 60 s text xs)=logOf (kV 60 s text xs):=by
  obtain ⟨h1,h2⟩:=run_eq true 60 s text xs
  cases h:kV 60 s text xs with
  | none=>rw [h1 h]
  | some x =>
    obtain ⟨log',h3,h4⟩:=h2 x.1 x.2 h
    rw [h3,h4 rfl]
 have dh:=res_same true 60 s text xs
 unfold pI at CI CS
 rw [i8,dh] at CS
 clear i8 dh hs ht n5 mJ hx cT ls lt lx lxs CD
 have C1:=cH (CI.out w1 da.out HX.out)
 clear CI
 cases hR:kV 60 s text xs with
 | none =>
   have C1:=C1.out
   have CS:=CS.out
   rw [hR] at C1 CS
   have C1:Calls _ _ _ _ fun en w'=>∃ mv pt,en=.returned (.tuple #[.agg #[mv,pt],str [],.bool false])/\Below w1.heap.size w1 w'/\zo w' [] mv pt/\(∀ g,mv.ownBlock=some g\/pt.ownBlock=some g->w1.heap.size<=g):=C1
   have CS:∀ y,jQ y a xs->Calls _ _ _ _ fun en w'=>∃ mv pt,en=.returned (.tuple #[.agg #[mv,pt],str [],.bool false])/\Below y.heap.size y w'/\zo w' [] mv pt/\(∀ g,mv.ownBlock=some g\/pt.ownBlock=some g->y.heap.size<=g):=CS
   have C1:=cH C1
   have CS:=cH CS
   clear hR Eb CF CTA
   go_wp2_with fail
   (with_reducible refine C1.out.mono ?_)
   rintro en w2 ⟨mv,pt,rfl,cS,sY,_⟩
   obtain ⟨b1,d1,e1⟩:=sY.1.slice
   obtain ⟨b2,d2,e2⟩:=sY.2.slice
   change mv=.slice b1 0 d1 at e1
   change pt=.slice b2 0 d2 at e2
   subst e1;subst e2
   obtain ⟨W3,s5,rH,_,x3⟩:=q_ w2 (.cells #[.slice b1 0 d1,.slice b2 0 d2] 28)
   have ed:=zzT cS rH
   have BO:=cH (wn.mk' rH x3 sY)
   have n_:=cH (zzT da.out ed)
   have HW3:=cH s5
   have C2:=cH (CS.out W3 (HX.out.below ed))
   clear cS sY s5 rH x3 ed C1 CS
   go_upto_region 5 with (fail)
   rw [HW3.out]
   go_wp2_with fail
   (with_reducible refine C2.out.mono ?_)
   rintro en w4 ⟨mv,pt,rfl,dJ,iJ,_⟩
   obtain ⟨b3,d3,e3⟩:=iJ.1.slice
   obtain ⟨b4,d4,e4⟩:=iJ.2.slice
   change mv=.slice b3 0 d3 at e3
   change pt=.slice b4 0 d4 at e4
   subst e3;subst e4
   obtain ⟨W5,DE,rG,_,x5⟩:=q_ w4 (.cells #[.slice b3 0 d3,.slice b4 0 d4] 28)
   have nu:=zzT dJ rG
   have BN:=cH (wn.mk' rG x5 iJ)
   have lu:=cH (BO.out.next nu)
   have rN:=cH (zzT n_.out nu)
   have HW5:=cH DE
   clear dJ iJ DE rG x5 nu C2 BO n_
   obtain ⟨⟨e2,e3⟩,BP⟩:=lu.out W5 (cE _ _)
   obtain ⟨⟨e4,e5⟩,BQ⟩:=BN.out W5 (cE _ _)
   have C3:=cH (uo [] _ _ _ _ W5 BP BQ (by simp))
   have C4:=cH (fun (y:World) (hy:Below W5.heap.size W5 y)=>uo [] _ _ _ _ y (lu.out y hy).2 (BN.out y hy).2 (by simp))
   clear BP BQ
   go_upto_region 6 with (fail)
   rw [HW5.out]
   go_wp2_with fail
   (with_reducible refine C3.out.mono ?_)
   rintro en w6 ⟨rfl,cd⟩
   have H6:=cH cd
   have C5:=cH (C4.out w6 cd)
   clear cd C3 C4 e2 e3 e4 e5
   obtain ⟨⟨e2,e3⟩,_⟩:=lu.out w6 H6.out
   obtain ⟨⟨e4,e5⟩,_⟩:=BN.out w6 H6.out
   go_wp2_with fail
   (with_reducible refine C5.out.mono ?_)
   rintro en w7 ⟨rfl,cq⟩
   have HF:=cH (rN.out.trans ((zzT H6.out cq).mono rN.out.size))
   clear cq C5
   go_wp2_with fail
   go_ret
   exact ⟨rfl,HF.out⟩
 | some r =>
   obtain ⟨cc,log⟩:=r
   have Aq:=cH (Eb.out cc log hR)
   have C1:=C1.out
   have CS:=CS.out
   rw [hR] at C1 CS
   have C1:Calls _ _ _ _ fun en w'=>∃ mv pt,en=.returned (.tuple #[.agg #[mv,pt],str [cc],.bool true])/\Below w1.heap.size w1 w'/\zo w' log mv pt/\(∀ g,mv.ownBlock=some g\/pt.ownBlock=some g->w1.heap.size<=g):=C1
   have CS:∀ y,jQ y a xs->Calls _ _ _ _ fun en w'=>∃ mv pt,en=.returned (.tuple #[.agg #[mv,pt],str [cc],.bool true])/\Below y.heap.size y w'/\zo w' log mv pt/\(∀ g,mv.ownBlock=some g\/pt.ownBlock=some g->y.heap.size<=g):=CS
   have C1:=cH C1
   have CS:=cH CS
   have HTY:=cH (run_ty hR)
   have HOF:=cH hR
   clear hR Eb
   go_wp2_with fail
   (with_reducible refine C1.out.mono ?_)
   rintro en w2 ⟨mv,pt,rfl,cS,sY,_⟩
   obtain ⟨b1,d1,e1⟩:=sY.1.slice
   obtain ⟨b2,d2,e2⟩:=sY.2.slice
   subst e1;subst e2
   obtain ⟨W3,s5,rH,_,x3⟩:=q_ w2 (.cells #[.slice b1 log.length d1,.slice b2 log.length d2] 28)
   have ed:=zzT cS rH
   have BO:=cH (wn.mk' rH x3 sY)
   have n_:=cH (zzT da.out ed)
   have HW3:=cH s5
   have HX3:=cH (HX.out.below ed)
   have C2:=cH (CS.out W3 HX3.out)
   clear cS sY s5 rH x3 ed C1 CS
   go_upto_region 5 with (fail)
   rw [HW3.out]
   go_wp2_with fail
   (with_reducible refine C2.out.mono ?_)
   rintro en w4 ⟨mv,pt,rfl,dJ,iJ,_⟩
   obtain ⟨b3,d3,e3⟩:=iJ.1.slice
   obtain ⟨b4,d4,e4⟩:=iJ.2.slice
   subst e3;subst e4
   obtain ⟨W5,DE,rG,_,x5⟩:=q_ w4 (.cells #[.slice b3 log.length d3,.slice b4 log.length d4] 28)
   have nu:=zzT dJ rG
   have BN:=cH (wn.mk' rG x5 iJ)
   have lu:=cH (BO.out.next nu)
   have rN:=cH (zzT n_.out nu)
   have HX5:=cH (HX3.out.below nu)
   have HW5:=cH DE
   clear dJ iJ DE rG x5 nu C2 BO n_
   obtain ⟨⟨e2,e3⟩,BP⟩:=lu.out W5 (cE _ _)
   obtain ⟨⟨e4,e5⟩,BQ⟩:=BN.out W5 (cE _ _)
   have C3:=cH (uo log _ _ _ _ W5 BP BQ (by have:=Aq.out.len;omega))
   obtain ⟨t,t1,t2,t3,t4⟩:=HTY.out
   have CT:=cH (CTA.out t t2 t3)
   have dL:=cH (fun (y:World) (hy:Below W5.heap.size W5 y)=>(lu.out y hy).2)
   have BOO:Hid (∀ y,Below W5.heap.size W5 y->y.cell? ⟨w2.heap.size,0,none⟩=some (.slice b1 log.length d1)/\y.cell? ⟨w2.heap.size,1,none⟩=some (.slice b2 log.length d2)):=cH (fun y hy=>(lu.out y hy).1)
   have nC:=Aq.out.pos
   have cA:=Aq.out.len
   obtain ⟨n,hn⟩:=zzN (log.length)
   obtain ⟨N,hN⟩:=zzN (t.args.length)
   rw [hn] at C3 BOO nC cA e2 e3 e4 e5 HW5 ⊢
   rw [hN] at CT
   have A4:=cH (cB hn hN)
   have hN15:N<=15:=by have:=(x9 t3).2;omega
   have HT:=cH (cB t1 (cB t2 (cB t3 t4)))
   clear BP BQ hn hN lu BN t1 t2 t3 t4 CTA HTY
   go_upto_region 6 with (fail)
   rw [HW5.out]
   go_wp2_with fail
   (with_reducible refine C3.out.mono ?_)
   rintro en w6 ⟨rfl,cd⟩
   have H6:=cH cd
   clear cd C3 e2 e3 e4 e5
   go_wp2_with fail
   (with_reducible refine (CT.out w6).mono ?_)
   rintro en w7 ⟨ta,tc,rfl,htc,cq,hn7⟩
   have H7:=cH (cB (zzT H6.out cq) (cB cq hn7))
   clear cq hn7 CT
   obtain ⟨e2,e3⟩:=BOO.out w7 H7.out.1
   by_cases Ai:N=1
   ·by_cases fQ:n<2
    ·have DL:(N:Int)=1:=by omega
     have hn2I:(n:Int)<2:=by omega
     go_wp2_with fail
     go_ret
     exact ⟨rfl,zzT rN.out H7.out.1⟩
    ·have DL:(N:Int)=1:=by omega
     have hn2I:¬ (n:Int)<2:=by omega
     obtain ⟨X1,hX1,Ac,Bk,_,_⟩:=gI w7 (.cells #[] 9) (.cells #[] 3)
     obtain ⟨W8,lL,Do,hzW8,x8⟩:=q_ X1 (.cells #[.slice (some ⟨w7.heap.size,0,none⟩) 0 0,.slice (some ⟨w7.heap.size+1,0,none⟩) 0 0] 28)
     have s7:(((w7.alloc (.cells #[] 9)).alloc (.cells #[] 3)).alloc (.cells #[.slice (some ⟨w7.heap.size,0,none⟩) 0 0,.slice (some ⟨w7.heap.size+1,0,none⟩) 0 0] 28))=W8:=by rw [hX1,lL]
     have h0:PtJ w7 (w7.heap.size+1+1) (((log.drop 1).take 0).map qk) 0 (some ⟨w7.heap.size,0,none⟩) 0 (some ⟨w7.heap.size+1,0,none⟩) 0 W8:=by
      refine ⟨zzT Ac Do,by rw [Bk] at x8;exact x8,?_,?_,by omega,fun i h=>?_,fun i h=>?_,fun i h h2=>?_⟩
      ·have h5:Own (w7.alloc (.cells #[] 9)) 9 1 (.slice (some ⟨w7.heap.size,0,none⟩) 0 0) 0 []:=Own.litAt #[] 0 _ rfl (by decide) rfl
       show Own W8 9 1 _ 0 []
       exact h5.keep fun g y _ hy=>by rw [<- s7];exact zY (zY hy)
      ·have h6:Own ((w7.alloc (.cells #[] 9)).alloc (.cells #[] 3)) 3 1 (.slice (some ⟨(w7.alloc (.cells #[] 9)).heap.size,0,none⟩) 0 0) 0 []:=Own.litAt #[] 0 _ rfl (by decide) rfl
       rw [zK] at h6
       show Own W8 3 1 _ 0 []
       exact h6.keep fun g y _ hy=>by rw [<- s7];exact zY hy
      ·simp [Value.ownBlock] at h;omega
      ·simp [Value.ownBlock] at h;omega
      ·simp [Value.ownBlock] at h h2;omega
     have HW8:=cH (cB s7 h0)
     have D_:Hid (∀ y,Below w7.heap.size w7 y->∀ i v,log[i]? = some v->(∃ gu,b1=some ⟨gu,0,none⟩/\y.cell? ⟨gu,i,none⟩=some (str v.1))/\∃ gz,b2=some ⟨gz,0,none⟩/\y.cell? ⟨gz,i,none⟩=some (.int .i64 v.2)):=cH (fun y hy i v hv=>by
      have hp:=dL.out y (zzT H7.out.1 hy)
      obtain ⟨gu,cu,eu,ku⟩:=hp.cellM hv
      obtain ⟨gz,cz,eu2,kz⟩:=hp.cellP hv
      simp only [Value.slice.injEq] at eu eu2
      exact ⟨⟨gu,eu.1,ku⟩,gz,eu2.1,kz⟩)
     have BO7:=cH (fun (y:World) (hy:Below w7.heap.size w7 y)=>BOO.out y (zzT H7.out.1 hy))
     clear hX1 Ac Bk lL Do hzW8 x8 s7 h0 e2 e3
     obtain ⟨e2,e3⟩:=BO7.out w7 (cE _ _)
     have D7:Hid (∃ aty x0,t.args=[aty]/\xs=[x0]):=cH (by
      have h1:=A4.out.2
      have h2:=HT.out.2.2.2
      rw [h1,Ai] at h2
      rw [Ai] at h1
      obtain ⟨aty,e1⟩:=List.length_eq_one_iff.1 h1
      obtain ⟨x0,e2⟩:=List.length_eq_one_iff.1 h2.symm
      exact ⟨aty,x0,e1,e2⟩)
     have HTA:Hid (∀ aty,t.args=[aty]->∃ bt ot,ta=some ⟨bt,ot,none⟩/\∀ y,Below w7.heap.size w7 y->y.cell? ⟨bt,ot,none⟩=some (str (zq aty))):=cH (by
      intro aty e
      have h:=H7.out.2.2
      rw [e] at h
      obtain ⟨bt,ot,e1,_,h2⟩:=h 0 (zq aty) rfl
      exact ⟨bt,ot,e1,fun y hy=>(hy.cell (cD _ _ h2)).trans h2⟩)
     have HXA:Hid (∀ x0,xs=[x0]->∃ bx ox,a=some ⟨bx,ox,none⟩/\∀ y,Below w7.heap.size w7 y->y.cell? ⟨bx,ox,none⟩=some (str x0)):=cH (by
      intro x0 e
      have h:=HX5.out.below (H7.out.1)
      rw [e] at h
      obtain ⟨bx,ox,e1,h2⟩:=h 0 x0 rfl
      exact ⟨bx,ox,e1,fun y hy=>(hy.cell (cD _ _ h2)).trans h2⟩)
     go_upto_region 11 with (fail)
     clear e2 e3
     go_wp2_with fail
     rw [HW8.out.1]
     go_loopw [15,16] (fun q i wr=>∃ (k:Nat) (a5:Option Addr) (c5:Nat) (a6:Option Addr) (c6:Nat),k+1<=n/\i=.int .i64 ((k:Int)+1)/\q=.int .i64 ((((log.drop 1).take k).countP isQ0:Nat):Int)/\((log.drop 1).take k).all jy=true/\PtJ w7 (w7.heap.size+1+1) (((log.drop 1).take k).map qk) k a5 c5 a6 c6 wr) (fun _ i _=>n-(intOf i).toNat)
     case atStart=>exact ⟨0,_,_,_,_,by omega,rfl,rfl,rfl,HW8.out.2⟩
     case round =>
      rename_i wr _ _
      obtain ⟨k,a5,c5,a6,c6,hk,rfl,rfl,sN,hI⟩:=hrel
      have HAL:=cH sN
      have HI:=cH hI
      obtain ⟨e2,e3⟩:=BO7.out wr hI.below
      obtain ⟨q,hq⟩:=zzN (((log.drop 1).take k).countP isQ0)
      have HQ:=cH hq
      rw [hq]
      clear sN hI hq
      by_cases cL:k+1<n
      ·have nS:(k:Int)+1<(n:Int):=by omega
       obtain ⟨⟨m,z⟩,hv⟩:∃ v,log[k+1]? = some v:=⟨log[k+1]'(by have:=A4.out.1;omega),List.getElem?_eq_getElem _⟩
       obtain ⟨⟨gu,rfl,k1⟩,gz,rfl,k2⟩:=D_.out wr HI.out.below (k+1) (m,z) hv
       have HV:=cH hv
       have k1':wr.cell? ⟨gu,((k:Int)+1).toNat,none⟩=some (str m):=by rw [show ((k:Int)+1).toNat=k+1 from by omega];exact k1
       clear hv k2
       by_cases hlong:m.length<2
       ·have oI:(m.length:Int)<2:=by omega
        have HS:=cH ((seen_step HV.out (by omega) (by rw [Nat.add_sub_cancel];exact HAL.out)).2 (by unfold jy;simp;omega))
        go_upto_region 22 with (fail)
        by_cases hq1:q=1
        ·have hqI:(q:Int)=1:=by omega
         obtain ⟨aty,x0,mX,tK⟩:=D7.out
         obtain ⟨bt,ot,rfl,hT⟩:=HTA.out aty mX
         obtain ⟨bx,ox,rfl,DD⟩:=HXA.out x0 tK
         have HTc:=cH hT
         have HXc:=cH DD
         have hxl1:(0:Int)<(xs.length:Int):=by rw [tK];simp
         have hxl2:0<xs.length:=by omega
         have lI:(0:Int)<(N:Int):=by omega
         have nH:((q:Int) == 1)=true:=by simp;omega
         have hq3:((q:Int) != 1)=false:=by simp;omega
         have hq4:(q == 1)=true:=by simp;omega
         have hq5:(q != 1)=false:=by simp;omega
         have HF:=cH (rN.out.trans ((zzT H7.out.1 HI.out.below).mono rN.out.size))
         have nf:=cH (show uF log=(log.drop 1).take k from by have h:=HS.out;rwa [Nat.add_sub_cancel] at h)
         have a_:(((log.drop 1).take k).map qk).length=k:=by rw [List.length_map,List.length_take,List.length_drop];have:=A4.out.1;omega
         have dU:zo wr.drew (((log.drop 1).take k).map qk) (.slice a5 k c5) (.slice a6 k c6):=by unfold zo;rw [a_];exact ⟨vP HI.out.o5,vP HI.out.o6⟩
         have nT:∀ y∈((log.drop 1).take k).map qk,Lim y.1.length:=fun y hy=>by
          obtain ⟨v,hv,rfl⟩:=List.mem_map.1 hy
          have h1:=Aq.out.lim v (List.mem_of_mem_drop (List.mem_of_mem_take hv))
          unfold Lim at h1 ⊢
          show (v.1.take 1++v.1.drop 2).length<=_
          rw [List.length_append,List.length_take,List.length_drop];omega
         have rE:=(x9 HT.out.2.2.1).1 aty (by rw [mX];simp)
         have oW:=kn 15 _ rE
         have f7:=pr (a:=aty) (by have h:=HOF.out;rw [tK] at h;exact h) (by rw [HT.out.1];exact mX) (by rw [nf.out,HQ.out];exact hq1)
         rw [nf.out] at f7
         have ru:=CF.out wr.drew HF.out.drew (zq aty) x0 (show _<=_ by omega) (LXS.out x0 (by rw [tK];simp)) _ _ _ dU nT
         rw [f7] at ru
         have CB:=cH ru
         clear hT DD mX tK a_ dU nT rE oW f7 ru
         refine wp_region_noPanic ?_
         refine zm (fun w'=>Below wr.heap.size wr w') (fun _=>false) (by kernel_rfl) ?_
         have cI:(fun w'=>Below wr.heap.size wr w') wr.drew:=Below.drew (cE _ _)
         refine zJ 0 (v:=?_) (by kernel_rfl) (by kernel_rfl) (by kernel_rfl) (by kernel_rfl) (fun _ _ _ _ h=>h) cI ?_ ?_
         rotate_left
         ·(intro oi ho;simp at ho;subst ho;refine Or.inl ⟨by rfl,fun w' cv=>?_⟩;go_simp;try with_reducible rfl)
         (intro d hd;simp at hd;subst hd;simp only [Act.put,List.setIfInBounds_toArray,List.set_cons_zero,List.set_cons_succ])
         refine zJ 1 (v:=?_) (by kernel_rfl) (by kernel_rfl) (by kernel_rfl) (by kernel_rfl) (fun _ _ _ _ h=>h) cI ?_ ?_
         rotate_left
         ·(intro oi ho;simp at ho;subst ho;refine Or.inl ⟨by rfl,fun w' cv=>?_⟩;go_simp;try with_reducible rfl)
         (intro d hd;simp at hd;subst hd;simp only [Act.put,List.setIfInBounds_toArray,List.set_cons_zero,List.set_cons_succ])
         refine zJ 2 (v:=?_) (by kernel_rfl) (by kernel_rfl) (by kernel_rfl) (by kernel_rfl) (fun _ _ _ _ h=>h) cI ?_ ?_
         rotate_left
         ·(intro oi ho;simp at ho;subst ho;refine Or.inl ⟨by rfl,fun w' cv=>?_⟩;go_simp;try with_reducible rfl)
         (intro d hd;simp at hd;subst hd;simp only [Act.put,List.setIfInBounds_toArray,List.set_cons_zero,List.set_cons_succ])
         refine zJ 3 (v:=?_) (by kernel_rfl) (by kernel_rfl) (by kernel_rfl) (by kernel_rfl) (fun _ _ _ _ h=>h) cI ?_ ?_
         rotate_left
         ·(intro oi ho;simp at ho;subst ho;refine Or.inl ⟨by rfl,fun w' cv=>?_⟩;go_simp;try with_reducible rfl)
         (intro d hd;simp at hd;subst hd;simp only [Act.put,List.setIfInBounds_toArray,List.set_cons_zero,List.set_cons_succ])
         refine zJ 4 (v:=?_) (by kernel_rfl) (by kernel_rfl) (by kernel_rfl) (by kernel_rfl) (fun _ _ _ _ h=>h) cI ?_ ?_
         rotate_left
         ·(intro oi ho;simp at ho;subst ho;refine Or.inl ⟨by rfl,fun w' cv=>?_⟩;go_simp;try with_reducible rfl)
         (intro d hd;simp at hd;subst hd;simp only [Act.put,List.setIfInBounds_toArray,List.set_cons_zero,List.set_cons_succ])
         refine zJ 5 (v:=?_) (by kernel_rfl) (by kernel_rfl) (by kernel_rfl) (by kernel_rfl) (fun _ _ _ _ h=>h) cI ?_ ?_
         rotate_left
         ·(intro oi ho;simp at ho;subst ho;refine Or.inl ⟨by rfl,fun w' cv=>?_⟩;have K5:=HTc.out w' (zzT HI.out.below cv);go_simp;try with_reducible rfl)
         (intro d hd;simp at hd;subst hd;simp only [Act.put,List.setIfInBounds_toArray,List.set_cons_zero,List.set_cons_succ])
         refine zJ 6 (v:=?_) (by kernel_rfl) (by kernel_rfl) (by kernel_rfl) (by kernel_rfl) (fun _ _ _ _ h=>h) cI ?_ ?_
         rotate_left
         ·(intro oi ho;simp at ho;subst ho;refine Or.inl ⟨by rfl,fun w' cv=>?_⟩;go_simp;try with_reducible rfl)
         (intro d hd;simp at hd;subst hd;simp only [Act.put,List.setIfInBounds_toArray,List.set_cons_zero,List.set_cons_succ])
         refine zJ 7 (v:=?_) (by kernel_rfl) (by kernel_rfl) (by kernel_rfl) (by kernel_rfl) (fun _ _ _ _ h=>h) cI ?_ ?_
         rotate_left
         ·(intro oi ho;simp at ho;subst ho;refine Or.inl ⟨by rfl,fun w' cv=>?_⟩;go_simp;try with_reducible rfl)
         (intro d hd;simp at hd;subst hd;simp only [Act.put,List.setIfInBounds_toArray,List.set_cons_zero,List.set_cons_succ])
         refine zJ 8 (v:=?_) (by kernel_rfl) (by kernel_rfl) (by kernel_rfl) (by kernel_rfl) (fun _ _ _ _ h=>h) cI ?_ ?_
         rotate_left
         ·(intro oi ho;simp at ho;subst ho;refine Or.inl ⟨by rfl,fun w' cv=>?_⟩;have K8:=HXc.out w' (zzT HI.out.below cv);go_simp;try with_reducible rfl)
         (intro d hd;simp at hd;subst hd;simp only [Act.put,List.setIfInBounds_toArray,List.set_cons_zero,List.set_cons_succ])
         refine zJ 9 (v:=?_) (by kernel_rfl) (by kernel_rfl) (by kernel_rfl) (by kernel_rfl) (fun _ _ _ _ h=>h) cI ?_ ?_
         rotate_left
         ·(intro oi ho;simp at ho;subst ho;refine Or.inl ⟨by rfl,fun w' cv=>?_⟩;obtain ⟨K9,K9b,_,_⟩:=kp ((cv.block _ (zZ HI.out.box)).trans HI.out.box);go_simp;try with_reducible rfl)
         (intro d hd;simp at hd;subst hd;simp only [Act.put,List.setIfInBounds_toArray,List.set_cons_zero,List.set_cons_succ])
         refine kQ 10 (by kernel_rfl) ?_
         (intro Be ho K' hK;simp at ho;subst ho)
         go_simp
         go_at_call 9
         (with_reducible refine CB.out.mono ?_)
         rintro en w10 ⟨rfl,mS⟩
         refine hK.out _ _ ?_ ?_
         ·exact fun _=>cI.trans mS
         clear hK K'
         (try simp only [Act.put,List.setIfInBounds_toArray,List.set_cons_zero,List.set_cons_succ])
         have aX:=cI.trans mS
         refine zJ 11 (v:=?_) (by kernel_rfl) (by kernel_rfl) (by kernel_rfl) (by kernel_rfl) (fun _ _ _ _ h=>h) aX ?_ ?_
         rotate_left
         ·(intro oi ho;simp at ho;subst ho;refine Or.inl ⟨by rfl,fun w' cv=>?_⟩;go_simp;try with_reducible rfl)
         (intro d hd;simp at hd;subst hd;simp only [Act.put,List.setIfInBounds_toArray,List.set_cons_zero,List.set_cons_succ])
         refine zJ 12 (v:=?_) (by kernel_rfl) (by kernel_rfl) (by kernel_rfl) (by kernel_rfl) (fun _ _ _ _ h=>h) aX ?_ ?_
         rotate_left
         ·(intro oi ho;simp at ho;subst ho;refine Or.inl ⟨by rfl,fun w' cv=>?_⟩;go_simp;try with_reducible rfl)
         (intro d hd;simp at hd;subst hd;simp only [Act.put,List.setIfInBounds_toArray,List.set_cons_zero,List.set_cons_succ])
         refine zt (by kernel_rfl) (NoPanic.normal ?_) _
         go_wp2_with fail
         go_ret
         exact ⟨rfl,HF.out.trans ((((cE wr.heap.size wr).drew).trans mS).mono HF.out.size)⟩
        ·have hqI:¬ (q:Int)=1:=by omega
         have nH:((q:Int) == 1)=false:=by simp;omega
         have hq3:((q:Int) != 1)=true:=by simp;omega
         have hq4:(q == 1)=false:=by simp;omega
         have hq5:(q != 1)=true:=by simp;omega
         have HF:=cH (rN.out.trans ((zzT H7.out.1 HI.out.below).mono rN.out.size))
         refine wp_region_noPanic ?_
         refine zm (fun w'=>Below wr.heap.size wr w') (fun _=>false) (by kernel_rfl) ?_
         have cI:(fun w'=>Below wr.heap.size wr w') wr.drew:=Below.drew (cE _ _)
         refine zJ 0 (v:=?_) (by kernel_rfl) (by kernel_rfl) (by kernel_rfl) (by kernel_rfl) (fun _ _ _ _ h=>h) cI ?_ ?_
         rotate_left
         ·(intro oi ho;simp at ho;subst ho;refine Or.inl ⟨by rfl,fun w' cv=>?_⟩;go_simp;try with_reducible rfl)
         (intro d hd;simp at hd;subst hd;simp only [Act.put,List.setIfInBounds_toArray,List.set_cons_zero,List.set_cons_succ])
         refine zJ 1 (v:=?_) (by kernel_rfl) (by kernel_rfl) (by kernel_rfl) (by kernel_rfl) (fun _ _ _ _ h=>h) cI ?_ ?_
         rotate_left
         ·(intro oi ho;simp at ho;subst ho;refine Or.inl ⟨by rfl,fun w' cv=>?_⟩;go_simp;try with_reducible rfl)
         (intro d hd;simp at hd;subst hd;simp only [Act.put,List.setIfInBounds_toArray,List.set_cons_zero,List.set_cons_succ])
         refine zJ 2 (v:=?_) (by kernel_rfl) (by kernel_rfl) (by kernel_rfl) (by kernel_rfl) (fun _ _ _ _ h=>h) cI ?_ ?_
         rotate_left
         ·(intro oi ho;simp at ho;subst ho;refine Or.inl ⟨by rfl,fun w' cv=>?_⟩;go_simp;try with_reducible rfl)
         (intro d hd;simp at hd;subst hd;simp only [Act.put,List.setIfInBounds_toArray,List.set_cons_zero,List.set_cons_succ])
         refine zJ 3 (v:=undef) (by kernel_rfl) (by kernel_rfl) (by kernel_rfl) (by kernel_rfl) (fun _ _ _ _ h=>h) cI (fun oi ho=>by simp at ho;subst ho;exact Or.inr ⟨by rfl,rfl⟩) ?_
         (intro d hd;simp at hd;subst hd;simp only [Act.put,List.setIfInBounds_toArray,List.set_cons_zero,List.set_cons_succ])
         refine zJ 4 (v:=undef) (by kernel_rfl) (by kernel_rfl) (by kernel_rfl) (by kernel_rfl) (fun _ _ _ _ h=>h) cI (fun oi ho=>by simp at ho;subst ho;exact Or.inr ⟨by rfl,rfl⟩) ?_
         (intro d hd;simp at hd;subst hd;simp only [Act.put,List.setIfInBounds_toArray,List.set_cons_zero,List.set_cons_succ])
         refine zJ 5 (v:=undef) (by kernel_rfl) (by kernel_rfl) (by kernel_rfl) (by kernel_rfl) (fun _ _ _ _ h=>h) cI (fun oi ho=>by simp at ho;subst ho;exact Or.inr ⟨by rfl,rfl⟩) ?_
         (intro d hd;simp at hd;subst hd;simp only [Act.put,List.setIfInBounds_toArray,List.set_cons_zero,List.set_cons_succ])
         refine zJ 6 (v:=undef) (by kernel_rfl) (by kernel_rfl) (by kernel_rfl) (by kernel_rfl) (fun _ _ _ _ h=>h) cI (fun oi ho=>by simp at ho;subst ho;exact Or.inr ⟨by rfl,rfl⟩) ?_
         (intro d hd;simp at hd;subst hd;simp only [Act.put,List.setIfInBounds_toArray,List.set_cons_zero,List.set_cons_succ])
         refine zJ 7 (v:=undef) (by kernel_rfl) (by kernel_rfl) (by kernel_rfl) (by kernel_rfl) (fun _ _ _ _ h=>h) cI (fun oi ho=>by simp at ho;subst ho;exact Or.inr ⟨by rfl,rfl⟩) ?_
         (intro d hd;simp at hd;subst hd;simp only [Act.put,List.setIfInBounds_toArray,List.set_cons_zero,List.set_cons_succ])
         refine zJ 8 (v:=undef) (by kernel_rfl) (by kernel_rfl) (by kernel_rfl) (by kernel_rfl) (fun _ _ _ _ h=>h) cI (fun oi ho=>by simp at ho;subst ho;exact Or.inr ⟨by rfl,rfl⟩) ?_
         (intro d hd;simp at hd;subst hd;simp only [Act.put,List.setIfInBounds_toArray,List.set_cons_zero,List.set_cons_succ])
         refine zJ 9 (v:=undef) (by kernel_rfl) (by kernel_rfl) (by kernel_rfl) (by kernel_rfl) (fun _ _ _ _ h=>h) cI (fun oi ho=>by simp at ho;subst ho;exact Or.inr ⟨by rfl,rfl⟩) ?_
         (intro d hd;simp at hd;subst hd;simp only [Act.put,List.setIfInBounds_toArray,List.set_cons_zero,List.set_cons_succ])
         refine zJ 10 (v:=undef) (by kernel_rfl) (by kernel_rfl) (by kernel_rfl) (by kernel_rfl) (fun _ _ _ _ h=>h) cI (fun oi ho=>by simp at ho;subst ho;exact Or.inr ⟨by rfl,rfl⟩) ?_
         (intro d hd;simp at hd;subst hd;simp only [Act.put,List.setIfInBounds_toArray,List.set_cons_zero,List.set_cons_succ])
         refine zJ 11 (v:=?_) (by kernel_rfl) (by kernel_rfl) (by kernel_rfl) (by kernel_rfl) (fun _ _ _ _ h=>h) cI ?_ ?_
         rotate_left
         ·(intro oi ho;simp at ho;subst ho;refine Or.inl ⟨by rfl,fun w' cv=>?_⟩;go_simp;try with_reducible rfl)
         (intro d hd;simp at hd;subst hd;simp only [Act.put,List.setIfInBounds_toArray,List.set_cons_zero,List.set_cons_succ])
         refine zJ 12 (v:=?_) (by kernel_rfl) (by kernel_rfl) (by kernel_rfl) (by kernel_rfl) (fun _ _ _ _ h=>h) cI ?_ ?_
         rotate_left
         ·(intro oi ho;simp at ho;subst ho;refine Or.inl ⟨by rfl,fun w' cv=>?_⟩;go_simp;try with_reducible rfl)
         (intro d hd;simp at hd;subst hd;simp only [Act.put,List.setIfInBounds_toArray,List.set_cons_zero,List.set_cons_succ])
         refine zt (by kernel_rfl) (NoPanic.normal ?_) _
         go_wp2_with fail
         go_ret
         first
          | exact ⟨rfl,HF.out⟩
          | exact ⟨rfl,HF.out.drew⟩
       ·have oI:¬ (m.length:Int)<2:=by omega
        have HZ:=cH (run_pts Aq.out HV.out (by omega))
        have HLM:=cH (Aq.out.lim _ (List.mem_of_getElem? HV.out))
        have HS:=cH ((seen_step HV.out (by omega) (by rw [Nat.add_sub_cancel];exact HAL.out)).1 (by unfold jy;simp;omega))
        have oF:q<=k:=by rw [<- HQ.out];exact cR List.countP_le_length (List.length_take_le _ _)
        have HMW:Hid (∀ y,Below w7.heap.size w7 y->y.cell? ⟨gu,k+1,none⟩=some (str m)/\y.cell? ⟨gz,k+1,none⟩=some (.int .i64 z)):=cH (fun y hy=>by
         obtain ⟨⟨gu',e1,h1⟩,gz',e2,h2⟩:=D_.out y hy (k+1) (m,z) HV.out
         simp only [Option.some.injEq,Addr.mk.injEq,and_true] at e1 e2
         obtain rfl:=e1
         obtain rfl:=e2
         exact ⟨h1,h2⟩)
        have SX:Hid (∀ w',But (fun j=>(Value.slice a5 k c5).ownBlock=some j) wr w'->w'.cell? ⟨w7.heap.size+1+1,0,none⟩=some (.slice a5 k c5)/\w'.frozen? ⟨w7.heap.size+1+1,0,none⟩=false):=cH (fun w' dW=>by
         have fu:=(dW.block _ (zZ HI.out.box) (fun e=>(HI.out.f5 _ e).2 rfl)).trans HI.out.box
         obtain ⟨s0,s1,sf,_⟩:=kp fu
         exact ⟨s0,sf⟩)
        have iW:k+1<=maxLen:=by unfold maxLen;omega
        have Dg:(k+1)*16<=140737488355328:=by omega
        have Df:(k+1)*8<=140737488355328:=by omega
        have xt1:(⟨m.toArray⟩:ByteArray).extract 0 1=⟨(m.take 1).toArray⟩:=by rw [jr];simp
        have xt2:(⟨m.toArray⟩:ByteArray).extract 2 m.length=⟨(m.drop 2).toArray⟩:=by rw [jr,List.take_length]
        have nA:(m.take 1).length+(m.drop 2).length<=9223372036854775807:=by have h1:Lim m.length:=HLM.out;have h2:m.length<=_:=h1;rw [List.length_take,List.length_drop];omega
        have hsum:¬ 9223372036854775807<min 1 m.length+(m.length-2):=by have:=HLM.out;have h1:Lim m.length:=HLM.out;have h2:m.length<=_:=h1;omega
        have er:=fun w0=>kG (P:=Tryz.prog) (m.take 1) (m.drop 2) nA w0
        have hzz1:0<=z/\z<((k+1:Nat):Int):=HZ.out
        have s8:IntKind.i64.wrap (z-1)=z-1:=IntWalk.i64_in _ (by omega)
        have hkk0:(0:Int)<=(k:Int)+1:=by omega
        have Ck:(1:Int)<=(m.length:Int):=by omega
        have hm2I:(2:Int)<=(m.length:Int):=by omega
        have hzA : -9223372036854775808<=z-1:=by have h1:0<=z/\z<((k+1:Nat):Int):=HZ.out;omega
        have ia:z-1<=9223372036854775807:=by have:=HZ.out;omega
        cases sx:((m:Bs) == [113,48]) with
        | true =>
          have HC:=cH (show ((log.drop 1).take (k+1)).countP isQ0=q+1 by
           have e:=HS.out.2
           rw [Nat.add_sub_cancel,Nat.add_sub_cancel] at e
           rw [e,List.countP_append,HQ.out,List.countP_singleton,if_pos (show isQ0 (m,z)=true from sx)])
          go_upto_region 20 with (fail)
          clear e2 e3 k1 k1'
          refine wp_region_noPanic ?_
          refine zm (fun w'=>But (fun j=>(Value.slice a5 k c5).ownBlock=some j) wr w') (fun i=>i == 10) (by kernel_rfl) ?_
          have cI:(fun w'=>But (fun j=>(Value.slice a5 k c5).ownBlock=some j) wr w') wr.drew:=(But.refl _ wr).drew
          refine zJ 0 (v:=?_) (by kernel_rfl) (by kernel_rfl) (by kernel_rfl) (by kernel_rfl) (fun _ _ _ _ h=>h) cI ?_ ?_
          rotate_left
          ·(intro oi ho;simp at ho;subst ho;refine Or.inl ⟨by rfl,fun w' cv=>?_⟩;go_simp;try with_reducible rfl)
          (intro d hd;simp at hd;subst hd;simp only [Act.put,List.setIfInBounds_toArray,List.set_cons_zero,List.set_cons_succ])
          refine zJ 1 (v:=?_) (by kernel_rfl) (by kernel_rfl) (by kernel_rfl) (by kernel_rfl) (fun _ _ _ _ h=>h) cI ?_ ?_
          rotate_left
          ·(intro oi ho;simp at ho;subst ho;refine Or.inl ⟨by rfl,fun w' cv=>?_⟩;obtain ⟨e0,e3⟩:=SX.out w' cv;go_simp;try with_reducible rfl)
          (intro d hd;simp at hd;subst hd;simp only [Act.put,List.setIfInBounds_toArray,List.set_cons_zero,List.set_cons_succ])
          refine zJ 2 (v:=?_) (by kernel_rfl) (by kernel_rfl) (by kernel_rfl) (by kernel_rfl) (fun _ _ _ _ h=>h) cI ?_ ?_
          rotate_left
          ·(intro oi ho;simp at ho;subst ho;refine Or.inl ⟨by rfl,fun w' cv=>?_⟩;go_simp;try with_reducible rfl)
          (intro d hd;simp at hd;subst hd;simp only [Act.put,List.setIfInBounds_toArray,List.set_cons_zero,List.set_cons_succ])
          refine zJ 3 (v:=?_) (by kernel_rfl) (by kernel_rfl) (by kernel_rfl) (by kernel_rfl) (fun _ _ _ _ h=>h) cI ?_ ?_
          rotate_left
          ·(intro oi ho;simp at ho;subst ho;refine Or.inl ⟨by rfl,fun w' cv=>?_⟩;go_simp;try with_reducible rfl)
          (intro d hd;simp at hd;subst hd;simp only [Act.put,List.setIfInBounds_toArray,List.set_cons_zero,List.set_cons_succ])
          refine zJ 4 (v:=?_) (by kernel_rfl) (by kernel_rfl) (by kernel_rfl) (by kernel_rfl) (fun _ _ _ _ h=>h) cI ?_ ?_
          rotate_left
          ·(intro oi ho;simp at ho;subst ho;refine Or.inl ⟨by rfl,fun w' cv=>?_⟩;go_simp;try with_reducible rfl)
          (intro d hd;simp at hd;subst hd;simp only [Act.put,List.setIfInBounds_toArray,List.set_cons_zero,List.set_cons_succ])
          refine zJ 5 (v:=?_) (by kernel_rfl) (by kernel_rfl) (by kernel_rfl) (by kernel_rfl) (fun _ _ _ _ h=>h) cI ?_ ?_
          rotate_left
          ·(intro oi ho;simp at ho;subst ho;refine Or.inl ⟨by rfl,fun w' cv=>?_⟩;go_simp;try with_reducible rfl)
          (intro d hd;simp at hd;subst hd;simp only [Act.put,List.setIfInBounds_toArray,List.set_cons_zero,List.set_cons_succ])
          refine zJ 6 (v:=?_) (by kernel_rfl) (by kernel_rfl) (by kernel_rfl) (by kernel_rfl) (fun _ _ _ _ h=>h) cI ?_ ?_
          rotate_left
          ·(intro oi ho;simp at ho;subst ho;refine Or.inl ⟨by rfl,fun w' cv=>?_⟩;go_simp;try with_reducible rfl)
          (intro d hd;simp at hd;subst hd;simp only [Act.put,List.setIfInBounds_toArray,List.set_cons_zero,List.set_cons_succ])
          refine kQ 7 (by kernel_rfl) ?_
          (intro o7 ho K' hK;simp at ho;subst ho)
          go_simp
          refine hK.out _ _ ?_ ?_
          ·exact fun _=>cI.alloc _
          clear hK K'
          (try simp only [Act.put,List.setIfInBounds_toArray,List.set_cons_zero,List.set_cons_succ])
          refine kQ 8 (by kernel_rfl) ?_
          (intro o8 ho K' hK;simp at ho;subst ho)
          refine zc (by rfl) _ _ _ (by rfl) 9 (str []) 1 16 Tryz.underlying23 Tryz.infoStr rfl (by decide) (.slice a5 k c5) k (qg (((log.drop 1).take k).map qk)) (by rfl) ((vP HI.out.o5).alloc _) _ 1 [str (m.take 1++m.drop 2)] (by rfl) (zM.litk #[str (m.take 1++m.drop 2)] rfl (by simp [str,Value.oneCell']) _ (by rfl)) iW Dg ?_
          intro a' c' w8 dB cq ci
          refine hK.out _ _ ?_ ?_
          ·exact fun _=>(cI.alloc _).trans cq
          clear hK K'
          (try simp only [Act.put,List.setIfInBounds_toArray,List.set_cons_zero,List.set_cons_succ])
          obtain ⟨se,dz⟩:=SX.out w8 ((cI.alloc _).trans cq)
          refine kQ 9 (by kernel_rfl) ?_
          (intro o9 ho K' hK;simp at ho;subst ho)
          go_simp
          refine hK.out _ _ ?_ ?_
          ·exact fun _=>(cI.alloc _).trans cq
          clear hK K'
          (try simp only [Act.put,List.setIfInBounds_toArray,List.set_cons_zero,List.set_cons_succ])
          refine kQ 10 (by kernel_rfl) ?_
          (intro Be ho K' hK;simp at ho;subst ho)
          go_simp
          refine hK.out _ _ ?_ ?_
          ·intro h;simp at h
          clear hK K'
          (try simp only [Act.put,List.setIfInBounds_toArray,List.set_cons_zero,List.set_cons_succ])
          refine zt (by kernel_rfl) (NoPanic.normal ?_) _
          obtain ⟨W8,lL,aQ,eN,Bc,Bb,DS,D3⟩:=HI.out.half dB (xE cq) (fun i hi=>(ci i hi).imp id fun e=>e.trans (by show (World.alloc _ _).heap.size=_;exact zK _ _))
          have H8:=cH (cB aQ (cB eN (cB Bc (cB Bb (cB DS D3)))))
          rw [lL]
          have SY:Hid (∀ w',But (fun j=>(Value.slice a6 k c6).ownBlock=some j) W8 w'->w'.cell? ⟨w7.heap.size+1+1,1,none⟩=some (.slice a6 k c6)/\w'.cell? ⟨w2.heap.size,1,none⟩=some (.slice (some ⟨gz,0,none⟩) n d2)/\w'.cell? ⟨gz,k+1,none⟩=some (.int .i64 z)/\w'.frozen? ⟨w7.heap.size+1+1,1,none⟩=false):=cH (fun w' dW=>by
           have dr:Below w7.heap.size w7 w':=H8.out.1.trans (dW.toBelow (H8.out.1.size) fun j hj e=>by have:=(HI.out.f6 j e).1;omega)
           have fu:=(dW.block _ (zZ H8.out.2.1) (fun e=>(HI.out.f6 _ e).2 rfl)).trans H8.out.2.1
           obtain ⟨s0,s1,_,sf⟩:=kp fu
           have hm2:=(HMW.out w' dr).2
           exact ⟨s1,(BO7.out w' dr).2,hm2,sf⟩)
          clear dB cq ci lL aQ eN Bc Bb DS D3 cI se dz
          go_upto_region 21 with (fail)
          refine wp_region_noPanic ?_
          refine zm (fun w'=>But (fun j=>(Value.slice a6 k c6).ownBlock=some j) W8 w') (fun i=>i == 11) (by kernel_rfl) ?_
          have cI:(fun w'=>But (fun j=>(Value.slice a6 k c6).ownBlock=some j) W8 w') W8.drew:=(But.refl _ W8).drew
          refine zJ 0 (v:=?_) (by kernel_rfl) (by kernel_rfl) (by kernel_rfl) (by kernel_rfl) (fun _ _ _ _ h=>h) cI ?_ ?_
          rotate_left
          ·(intro oi ho;simp at ho;subst ho;refine Or.inl ⟨by rfl,fun w' cv=>?_⟩;go_simp;try with_reducible rfl)
          (intro d hd;simp at hd;subst hd;simp only [Act.put,List.setIfInBounds_toArray,List.set_cons_zero,List.set_cons_succ])
          refine zJ 1 (v:=?_) (by kernel_rfl) (by kernel_rfl) (by kernel_rfl) (by kernel_rfl) (fun _ _ _ _ h=>h) cI ?_ ?_
          rotate_left
          ·(intro oi ho;simp at ho;subst ho;refine Or.inl ⟨by rfl,fun w' cv=>?_⟩;obtain ⟨e0,e1,e2,e3⟩:=SY.out w' cv;go_simp;try with_reducible rfl)
          (intro d hd;simp at hd;subst hd;simp only [Act.put,List.setIfInBounds_toArray,List.set_cons_zero,List.set_cons_succ])
          refine zJ 2 (v:=?_) (by kernel_rfl) (by kernel_rfl) (by kernel_rfl) (by kernel_rfl) (fun _ _ _ _ h=>h) cI ?_ ?_
          rotate_left
          ·(intro oi ho;simp at ho;subst ho;refine Or.inl ⟨by rfl,fun w' cv=>?_⟩;go_simp;try with_reducible rfl)
          (intro d hd;simp at hd;subst hd;simp only [Act.put,List.setIfInBounds_toArray,List.set_cons_zero,List.set_cons_succ])
          refine zJ 3 (v:=?_) (by kernel_rfl) (by kernel_rfl) (by kernel_rfl) (by kernel_rfl) (fun _ _ _ _ h=>h) cI ?_ ?_
          rotate_left
          ·(intro oi ho;simp at ho;subst ho;refine Or.inl ⟨by rfl,fun w' cv=>?_⟩;obtain ⟨e0,e1,e2,e3⟩:=SY.out w' cv;go_simp;try with_reducible rfl)
          (intro d hd;simp at hd;subst hd;simp only [Act.put,List.setIfInBounds_toArray,List.set_cons_zero,List.set_cons_succ])
          refine zJ 4 (v:=?_) (by kernel_rfl) (by kernel_rfl) (by kernel_rfl) (by kernel_rfl) (fun _ _ _ _ h=>h) cI ?_ ?_
          rotate_left
          ·(intro oi ho;simp at ho;subst ho;refine Or.inl ⟨by rfl,fun w' cv=>?_⟩;go_simp;try with_reducible rfl)
          (intro d hd;simp at hd;subst hd;simp only [Act.put,List.setIfInBounds_toArray,List.set_cons_zero,List.set_cons_succ])
          refine zJ 5 (v:=?_) (by kernel_rfl) (by kernel_rfl) (by kernel_rfl) (by kernel_rfl) (fun _ _ _ _ h=>h) cI ?_ ?_
          rotate_left
          ·(intro oi ho;simp at ho;subst ho;refine Or.inl ⟨by rfl,fun w' cv=>?_⟩;go_simp;try with_reducible rfl)
          (intro d hd;simp at hd;subst hd;simp only [Act.put,List.setIfInBounds_toArray,List.set_cons_zero,List.set_cons_succ])
          refine zJ 6 (v:=?_) (by kernel_rfl) (by kernel_rfl) (by kernel_rfl) (by kernel_rfl) (fun _ _ _ _ h=>h) cI ?_ ?_
          rotate_left
          ·(intro oi ho;simp at ho;subst ho;refine Or.inl ⟨by rfl,fun w' cv=>?_⟩;obtain ⟨e0,e1,e2,e3⟩:=SY.out w' cv;go_simp;try with_reducible rfl)
          (intro d hd;simp at hd;subst hd;simp only [Act.put,List.setIfInBounds_toArray,List.set_cons_zero,List.set_cons_succ])
          refine zJ 7 (v:=?_) (by kernel_rfl) (by kernel_rfl) (by kernel_rfl) (by kernel_rfl) (fun _ _ _ _ h=>h) cI ?_ ?_
          rotate_left
          ·(intro oi ho;simp at ho;subst ho;refine Or.inl ⟨by rfl,fun w' cv=>?_⟩;go_simp;try with_reducible rfl)
          (intro d hd;simp at hd;subst hd;simp only [Act.put,List.setIfInBounds_toArray,List.set_cons_zero,List.set_cons_succ])
          refine kQ 8 (by kernel_rfl) ?_
          (intro o8 ho K' hK;simp at ho;subst ho)
          go_simp
          refine hK.out _ _ ?_ ?_
          ·exact fun _=>cI.alloc _
          clear hK K'
          (try simp only [Act.put,List.setIfInBounds_toArray,List.set_cons_zero,List.set_cons_succ])
          refine kQ 9 (by kernel_rfl) ?_
          (intro o9 ho K' hK;simp at ho;subst ho)
          refine zc (by rfl) _ _ _ (by rfl) 3 (.int .i64 0) 1 8 Tryz.underlying26 Tryz.infoInt2 rfl (by decide) (.slice a6 k c6) k (qD (((log.drop 1).take k).map qk)) (by rfl) ((vP H8.out.2.2.2.1).alloc _) _ 1 [.int .i64 (z-1)] (by rfl) (zM.litk #[.int .i64 (z-1)] rfl (by simp [str,Value.oneCell']) _ (by rfl)) iW Df ?_
          intro a' c' w9 dB cq ci
          refine hK.out _ _ ?_ ?_
          ·exact fun _=>(cI.alloc _).trans cq
          clear hK K'
          (try simp only [Act.put,List.setIfInBounds_toArray,List.set_cons_zero,List.set_cons_succ])
          obtain ⟨se,_,_,dz⟩:=SY.out w9 ((cI.alloc _).trans cq)
          refine kQ 10 (by kernel_rfl) ?_
          (intro Be ho K' hK;simp at ho;subst ho)
          go_simp
          refine hK.out _ _ ?_ ?_
          ·exact fun _=>(cI.alloc _).trans cq
          clear hK K'
          (try simp only [Act.put,List.setIfInBounds_toArray,List.set_cons_zero,List.set_cons_succ])
          refine kQ 11 (by kernel_rfl) ?_
          (intro o11 ho K' hK;simp at ho;subst ho)
          go_simp
          refine hK.out _ _ ?_ ?_
          ·intro h;simp at h
          clear hK K'
          (try simp only [Act.put,List.setIfInBounds_toArray,List.set_cons_zero,List.set_cons_succ])
          refine zt (by kernel_rfl) (NoPanic.normal ?_) _
          have DN:=PtJ.next (s:=m.take 1++m.drop 2) (z:=z-1) H8.out.1 HI.out.gw H8.out.2.1 H8.out.2.2.1 H8.out.2.2.2.1 H8.out.2.2.2.2.1 HI.out.f6 H8.out.2.2.2.2.2 dB (xE cq) (fun i hi=>(ci i hi).imp id fun e=>e.trans (by show (World.alloc _ _).heap.size=_;exact zK _ _))
          have HI9:=cH DN
          clear dB cq ci DN cI se dz
          go_wp2_with fail
          go_roundw
          case rel =>
           have e:=HS.out.2
           rw [Nat.add_sub_cancel,Nat.add_sub_cancel] at e
           have e4:((log.drop 1).take (k+1)).map qk=((log.drop 1).take k).map qk++[(m.take 1++m.drop 2,z-1)]:=by rw [e,List.map_append];rfl
           exact ⟨k+1,_,_,_,_,by omega,by go_num,by rw [HC.out];all_goals go_num,by have h:=HS.out.1;rwa [Nat.add_sub_cancel] at h,by rw [e4];exact HI9.out⟩
          case measure=>simp [intOf];omega
        | false =>
          have HC:=cH (show ((log.drop 1).take (k+1)).countP isQ0=q by
           have e:=HS.out.2
           rw [Nat.add_sub_cancel,Nat.add_sub_cancel] at e
           rw [e,List.countP_append,HQ.out,List.countP_singleton,if_neg (by rw [show isQ0 (m,z)=false from sx];simp),Nat.add_zero])
          go_upto_region 20 with (fail)
          clear e2 e3 k1 k1'
          refine wp_region_noPanic ?_
          refine zm (fun w'=>But (fun j=>(Value.slice a5 k c5).ownBlock=some j) wr w') (fun i=>i == 10) (by kernel_rfl) ?_
          have cI:(fun w'=>But (fun j=>(Value.slice a5 k c5).ownBlock=some j) wr w') wr.drew:=(But.refl _ wr).drew
          refine zJ 0 (v:=?_) (by kernel_rfl) (by kernel_rfl) (by kernel_rfl) (by kernel_rfl) (fun _ _ _ _ h=>h) cI ?_ ?_
          rotate_left
          ·(intro oi ho;simp at ho;subst ho;refine Or.inl ⟨by rfl,fun w' cv=>?_⟩;go_simp;try with_reducible rfl)
          (intro d hd;simp at hd;subst hd;simp only [Act.put,List.setIfInBounds_toArray,List.set_cons_zero,List.set_cons_succ])
          refine zJ 1 (v:=?_) (by kernel_rfl) (by kernel_rfl) (by kernel_rfl) (by kernel_rfl) (fun _ _ _ _ h=>h) cI ?_ ?_
          rotate_left
          ·(intro oi ho;simp at ho;subst ho;refine Or.inl ⟨by rfl,fun w' cv=>?_⟩;obtain ⟨e0,e3⟩:=SX.out w' cv;go_simp;try with_reducible rfl)
          (intro d hd;simp at hd;subst hd;simp only [Act.put,List.setIfInBounds_toArray,List.set_cons_zero,List.set_cons_succ])
          refine zJ 2 (v:=?_) (by kernel_rfl) (by kernel_rfl) (by kernel_rfl) (by kernel_rfl) (fun _ _ _ _ h=>h) cI ?_ ?_
          rotate_left
          ·(intro oi ho;simp at ho;subst ho;refine Or.inl ⟨by rfl,fun w' cv=>?_⟩;go_simp;try with_reducible rfl)
          (intro d hd;simp at hd;subst hd;simp only [Act.put,List.setIfInBounds_toArray,List.set_cons_zero,List.set_cons_succ])
          refine zJ 3 (v:=?_) (by kernel_rfl) (by kernel_rfl) (by kernel_rfl) (by kernel_rfl) (fun _ _ _ _ h=>h) cI ?_ ?_
          rotate_left
          ·(intro oi ho;simp at ho;subst ho;refine Or.inl ⟨by rfl,fun w' cv=>?_⟩;go_simp;try with_reducible rfl)
          (intro d hd;simp at hd;subst hd;simp only [Act.put,List.setIfInBounds_toArray,List.set_cons_zero,List.set_cons_succ])
          refine zJ 4 (v:=?_) (by kernel_rfl) (by kernel_rfl) (by kernel_rfl) (by kernel_rfl) (fun _ _ _ _ h=>h) cI ?_ ?_
          rotate_left
          ·(intro oi ho;simp at ho;subst ho;refine Or.inl ⟨by rfl,fun w' cv=>?_⟩;go_simp;try with_reducible rfl)
          (intro d hd;simp at hd;subst hd;simp only [Act.put,List.setIfInBounds_toArray,List.set_cons_zero,List.set_cons_succ])
          refine zJ 5 (v:=?_) (by kernel_rfl) (by kernel_rfl) (by kernel_rfl) (by kernel_rfl) (fun _ _ _ _ h=>h) cI ?_ ?_
          rotate_left
          ·(intro oi ho;simp at ho;subst ho;refine Or.inl ⟨by rfl,fun w' cv=>?_⟩;go_simp;try with_reducible rfl)
          (intro d hd;simp at hd;subst hd;simp only [Act.put,List.setIfInBounds_toArray,List.set_cons_zero,List.set_cons_succ])
          refine zJ 6 (v:=?_) (by kernel_rfl) (by kernel_rfl) (by kernel_rfl) (by kernel_rfl) (fun _ _ _ _ h=>h) cI ?_ ?_
          rotate_left
          ·(intro oi ho;simp at ho;subst ho;refine Or.inl ⟨by rfl,fun w' cv=>?_⟩;go_simp;try with_reducible rfl)
          (intro d hd;simp at hd;subst hd;simp only [Act.put,List.setIfInBounds_toArray,List.set_cons_zero,List.set_cons_succ])
          refine kQ 7 (by kernel_rfl) ?_
          (intro o7 ho K' hK;simp at ho;subst ho)
          go_simp
          refine hK.out _ _ ?_ ?_
          ·exact fun _=>cI.alloc _
          clear hK K'
          (try simp only [Act.put,List.setIfInBounds_toArray,List.set_cons_zero,List.set_cons_succ])
          refine kQ 8 (by kernel_rfl) ?_
          (intro o8 ho K' hK;simp at ho;subst ho)
          refine zc (by rfl) _ _ _ (by rfl) 9 (str []) 1 16 Tryz.underlying23 Tryz.infoStr rfl (by decide) (.slice a5 k c5) k (qg (((log.drop 1).take k).map qk)) (by rfl) ((vP HI.out.o5).alloc _) _ 1 [str (m.take 1++m.drop 2)] (by rfl) (zM.litk #[str (m.take 1++m.drop 2)] rfl (by simp [str,Value.oneCell']) _ (by rfl)) iW Dg ?_
          intro a' c' w8 dB cq ci
          refine hK.out _ _ ?_ ?_
          ·exact fun _=>(cI.alloc _).trans cq
          clear hK K'
          (try simp only [Act.put,List.setIfInBounds_toArray,List.set_cons_zero,List.set_cons_succ])
          obtain ⟨se,dz⟩:=SX.out w8 ((cI.alloc _).trans cq)
          refine kQ 9 (by kernel_rfl) ?_
          (intro o9 ho K' hK;simp at ho;subst ho)
          go_simp
          refine hK.out _ _ ?_ ?_
          ·exact fun _=>(cI.alloc _).trans cq
          clear hK K'
          (try simp only [Act.put,List.setIfInBounds_toArray,List.set_cons_zero,List.set_cons_succ])
          refine kQ 10 (by kernel_rfl) ?_
          (intro Be ho K' hK;simp at ho;subst ho)
          go_simp
          refine hK.out _ _ ?_ ?_
          ·intro h;simp at h
          clear hK K'
          (try simp only [Act.put,List.setIfInBounds_toArray,List.set_cons_zero,List.set_cons_succ])
          refine zt (by kernel_rfl) (NoPanic.normal ?_) _
          obtain ⟨W8,lL,aQ,eN,Bc,Bb,DS,D3⟩:=HI.out.half dB (xE cq) (fun i hi=>(ci i hi).imp id fun e=>e.trans (by show (World.alloc _ _).heap.size=_;exact zK _ _))
          have H8:=cH (cB aQ (cB eN (cB Bc (cB Bb (cB DS D3)))))
          rw [lL]
          have SY:Hid (∀ w',But (fun j=>(Value.slice a6 k c6).ownBlock=some j) W8 w'->w'.cell? ⟨w7.heap.size+1+1,1,none⟩=some (.slice a6 k c6)/\w'.cell? ⟨w2.heap.size,1,none⟩=some (.slice (some ⟨gz,0,none⟩) n d2)/\w'.cell? ⟨gz,k+1,none⟩=some (.int .i64 z)/\w'.frozen? ⟨w7.heap.size+1+1,1,none⟩=false):=cH (fun w' dW=>by
           have dr:Below w7.heap.size w7 w':=H8.out.1.trans (dW.toBelow (H8.out.1.size) fun j hj e=>by have:=(HI.out.f6 j e).1;omega)
           have fu:=(dW.block _ (zZ H8.out.2.1) (fun e=>(HI.out.f6 _ e).2 rfl)).trans H8.out.2.1
           obtain ⟨s0,s1,_,sf⟩:=kp fu
           have hm2:=(HMW.out w' dr).2
           exact ⟨s1,(BO7.out w' dr).2,hm2,sf⟩)
          clear dB cq ci lL aQ eN Bc Bb DS D3 cI se dz
          go_upto_region 21 with (fail)
          refine wp_region_noPanic ?_
          refine zm (fun w'=>But (fun j=>(Value.slice a6 k c6).ownBlock=some j) W8 w') (fun i=>i == 11) (by kernel_rfl) ?_
          have cI:(fun w'=>But (fun j=>(Value.slice a6 k c6).ownBlock=some j) W8 w') W8.drew:=(But.refl _ W8).drew
          refine zJ 0 (v:=?_) (by kernel_rfl) (by kernel_rfl) (by kernel_rfl) (by kernel_rfl) (fun _ _ _ _ h=>h) cI ?_ ?_
          rotate_left
          ·(intro oi ho;simp at ho;subst ho;refine Or.inl ⟨by rfl,fun w' cv=>?_⟩;go_simp;try with_reducible rfl)
          (intro d hd;simp at hd;subst hd;simp only [Act.put,List.setIfInBounds_toArray,List.set_cons_zero,List.set_cons_succ])
          refine zJ 1 (v:=?_) (by kernel_rfl) (by kernel_rfl) (by kernel_rfl) (by kernel_rfl) (fun _ _ _ _ h=>h) cI ?_ ?_
          rotate_left
          ·(intro oi ho;simp at ho;subst ho;refine Or.inl ⟨by rfl,fun w' cv=>?_⟩;obtain ⟨e0,e1,e2,e3⟩:=SY.out w' cv;go_simp;try with_reducible rfl)
          (intro d hd;simp at hd;subst hd;simp only [Act.put,List.setIfInBounds_toArray,List.set_cons_zero,List.set_cons_succ])
          refine zJ 2 (v:=?_) (by kernel_rfl) (by kernel_rfl) (by kernel_rfl) (by kernel_rfl) (fun _ _ _ _ h=>h) cI ?_ ?_
          rotate_left
          ·(intro oi ho;simp at ho;subst ho;refine Or.inl ⟨by rfl,fun w' cv=>?_⟩;go_simp;try with_reducible rfl)
          (intro d hd;simp at hd;subst hd;simp only [Act.put,List.setIfInBounds_toArray,List.set_cons_zero,List.set_cons_succ])
          refine zJ 3 (v:=?_) (by kernel_rfl) (by kernel_rfl) (by kernel_rfl) (by kernel_rfl) (fun _ _ _ _ h=>h) cI ?_ ?_
          rotate_left
          ·(intro oi ho;simp at ho;subst ho;refine Or.inl ⟨by rfl,fun w' cv=>?_⟩;obtain ⟨e0,e1,e2,e3⟩:=SY.out w' cv;go_simp;try with_reducible rfl)
          (intro d hd;simp at hd;subst hd;simp only [Act.put,List.setIfInBounds_toArray,List.set_cons_zero,List.set_cons_succ])
          refine zJ 4 (v:=?_) (by kernel_rfl) (by kernel_rfl) (by kernel_rfl) (by kernel_rfl) (fun _ _ _ _ h=>h) cI ?_ ?_
          rotate_left
          ·(intro oi ho;simp at ho;subst ho;refine Or.inl ⟨by rfl,fun w' cv=>?_⟩;go_simp;try with_reducible rfl)
          (intro d hd;simp at hd;subst hd;simp only [Act.put,List.setIfInBounds_toArray,List.set_cons_zero,List.set_cons_succ])
          refine zJ 5 (v:=?_) (by kernel_rfl) (by kernel_rfl) (by kernel_rfl) (by kernel_rfl) (fun _ _ _ _ h=>h) cI ?_ ?_
          rotate_left
          ·(intro oi ho;simp at ho;subst ho;refine Or.inl ⟨by rfl,fun w' cv=>?_⟩;go_simp;try with_reducible rfl)
          (intro d hd;simp at hd;subst hd;simp only [Act.put,List.setIfInBounds_toArray,List.set_cons_zero,List.set_cons_succ])
          refine zJ 6 (v:=?_) (by kernel_rfl) (by kernel_rfl) (by kernel_rfl) (by kernel_rfl) (fun _ _ _ _ h=>h) cI ?_ ?_
          rotate_left
          ·(intro oi ho;simp at ho;subst ho;refine Or.inl ⟨by rfl,fun w' cv=>?_⟩;obtain ⟨e0,e1,e2,e3⟩:=SY.out w' cv;go_simp;try with_reducible rfl)
          (intro d hd;simp at hd;subst hd;simp only [Act.put,List.setIfInBounds_toArray,List.set_cons_zero,List.set_cons_succ])
          refine zJ 7 (v:=?_) (by kernel_rfl) (by kernel_rfl) (by kernel_rfl) (by kernel_rfl) (fun _ _ _ _ h=>h) cI ?_ ?_
          rotate_left
          ·(intro oi ho;simp at ho;subst ho;refine Or.inl ⟨by rfl,fun w' cv=>?_⟩;go_simp;try with_reducible rfl)
          (intro d hd;simp at hd;subst hd;simp only [Act.put,List.setIfInBounds_toArray,List.set_cons_zero,List.set_cons_succ])
          refine kQ 8 (by kernel_rfl) ?_
          (intro o8 ho K' hK;simp at ho;subst ho)
          go_simp
          refine hK.out _ _ ?_ ?_
          ·exact fun _=>cI.alloc _
          clear hK K'
          (try simp only [Act.put,List.setIfInBounds_toArray,List.set_cons_zero,List.set_cons_succ])
          refine kQ 9 (by kernel_rfl) ?_
          (intro o9 ho K' hK;simp at ho;subst ho)
          refine zc (by rfl) _ _ _ (by rfl) 3 (.int .i64 0) 1 8 Tryz.underlying26 Tryz.infoInt2 rfl (by decide) (.slice a6 k c6) k (qD (((log.drop 1).take k).map qk)) (by rfl) ((vP H8.out.2.2.2.1).alloc _) _ 1 [.int .i64 (z-1)] (by rfl) (zM.litk #[.int .i64 (z-1)] rfl (by simp [str,Value.oneCell']) _ (by rfl)) iW Df ?_
          intro a' c' w9 dB cq ci
          refine hK.out _ _ ?_ ?_
          ·exact fun _=>(cI.alloc _).trans cq
          clear hK K'
          (try simp only [Act.put,List.setIfInBounds_toArray,List.set_cons_zero,List.set_cons_succ])
          obtain ⟨se,_,_,dz⟩:=SY.out w9 ((cI.alloc _).trans cq)
          refine kQ 10 (by kernel_rfl) ?_
          (intro Be ho K' hK;simp at ho;subst ho)
          go_simp
          refine hK.out _ _ ?_ ?_
          ·exact fun _=>(cI.alloc _).trans cq
          clear hK K'
          (try simp only [Act.put,List.setIfInBounds_toArray,List.set_cons_zero,List.set_cons_succ])
          refine kQ 11 (by kernel_rfl) ?_
          (intro o11 ho K' hK;simp at ho;subst ho)
          go_simp
          refine hK.out _ _ ?_ ?_
          ·intro h;simp at h
          clear hK K'
          (try simp only [Act.put,List.setIfInBounds_toArray,List.set_cons_zero,List.set_cons_succ])
          refine zt (by kernel_rfl) (NoPanic.normal ?_) _
          have DN:=PtJ.next (s:=m.take 1++m.drop 2) (z:=z-1) H8.out.1 HI.out.gw H8.out.2.1 H8.out.2.2.1 H8.out.2.2.2.1 H8.out.2.2.2.2.1 HI.out.f6 H8.out.2.2.2.2.2 dB (xE cq) (fun i hi=>(ci i hi).imp id fun e=>e.trans (by show (World.alloc _ _).heap.size=_;exact zK _ _))
          have HI9:=cH DN
          clear dB cq ci DN cI se dz
          go_wp2_with fail
          go_roundw
          case rel =>
           have e:=HS.out.2
           rw [Nat.add_sub_cancel,Nat.add_sub_cancel] at e
           have e4:((log.drop 1).take (k+1)).map qk=((log.drop 1).take k).map qk++[(m.take 1++m.drop 2,z-1)]:=by rw [e,List.map_append];rfl
           exact ⟨k+1,_,_,_,_,by omega,by go_num,by rw [HC.out];all_goals go_num,by have h:=HS.out.1;rwa [Nat.add_sub_cancel] at h,by rw [e4];exact HI9.out⟩
          case measure=>simp [intOf];omega
      ·have hnk:=cH (show n=k+1 by omega)
       have hnl:¬ ((k:Int)+1<(n:Int)):=by omega
       go_upto_region 22 with (fail)
       by_cases hq1:q=1
       ·have hqI:(q:Int)=1:=by omega
        obtain ⟨aty,x0,mX,tK⟩:=D7.out
        obtain ⟨bt,ot,rfl,hT⟩:=HTA.out aty mX
        obtain ⟨bx,ox,rfl,DD⟩:=HXA.out x0 tK
        have HTc:=cH hT
        have HXc:=cH DD
        have hxl1:(0:Int)<(xs.length:Int):=by rw [tK];simp
        have hxl2:0<xs.length:=by omega
        have lI:(0:Int)<(N:Int):=by omega
        have nH:((q:Int) == 1)=true:=by simp;omega
        have hq3:((q:Int) != 1)=false:=by simp;omega
        have hq4:(q == 1)=true:=by simp;omega
        have hq5:(q != 1)=false:=by simp;omega
        have HF:=cH (rN.out.trans ((zzT H7.out.1 HI.out.below).mono rN.out.size))
        have nf:=cH (show uF log=(log.drop 1).take k from by have h:=seen_all (log:=log) (by have h1:=A4.out.1;rw [h1,hnk.out,Nat.add_sub_cancel];exact HAL.out);rw [h];exact (List.take_of_length_le (by rw [List.length_drop];have h1:=A4.out.1;have h2:=hnk.out;omega)).symm)
        have a_:(((log.drop 1).take k).map qk).length=k:=by rw [List.length_map,List.length_take,List.length_drop];have:=A4.out.1;omega
        have dU:zo wr.drew (((log.drop 1).take k).map qk) (.slice a5 k c5) (.slice a6 k c6):=by unfold zo;rw [a_];exact ⟨vP HI.out.o5,vP HI.out.o6⟩
        have nT:∀ y∈((log.drop 1).take k).map qk,Lim y.1.length:=fun y hy=>by
         obtain ⟨v,hv,rfl⟩:=List.mem_map.1 hy
         have h1:=Aq.out.lim v (List.mem_of_mem_drop (List.mem_of_mem_take hv))
         unfold Lim at h1 ⊢
         show (v.1.take 1++v.1.drop 2).length<=_
         rw [List.length_append,List.length_take,List.length_drop];omega
        have rE:=(x9 HT.out.2.2.1).1 aty (by rw [mX];simp)
        have oW:=kn 15 _ rE
        have f7:=pr (a:=aty) (by have h:=HOF.out;rw [tK] at h;exact h) (by rw [HT.out.1];exact mX) (by rw [nf.out,HQ.out];exact hq1)
        rw [nf.out] at f7
        have ru:=CF.out wr.drew HF.out.drew (zq aty) x0 (show _<=_ by omega) (LXS.out x0 (by rw [tK];simp)) _ _ _ dU nT
        rw [f7] at ru
        have CB:=cH ru
        clear hT DD mX tK a_ dU nT rE oW f7 ru
        refine wp_region_noPanic ?_
        refine zm (fun w'=>Below wr.heap.size wr w') (fun _=>false) (by kernel_rfl) ?_
        have cI:(fun w'=>Below wr.heap.size wr w') wr.drew:=Below.drew (cE _ _)
        refine zJ 0 (v:=?_) (by kernel_rfl) (by kernel_rfl) (by kernel_rfl) (by kernel_rfl) (fun _ _ _ _ h=>h) cI ?_ ?_
        rotate_left
        ·(intro oi ho;simp at ho;subst ho;refine Or.inl ⟨by rfl,fun w' cv=>?_⟩;go_simp;try with_reducible rfl)
        (intro d hd;simp at hd;subst hd;simp only [Act.put,List.setIfInBounds_toArray,List.set_cons_zero,List.set_cons_succ])
        refine zJ 1 (v:=?_) (by kernel_rfl) (by kernel_rfl) (by kernel_rfl) (by kernel_rfl) (fun _ _ _ _ h=>h) cI ?_ ?_
        rotate_left
        ·(intro oi ho;simp at ho;subst ho;refine Or.inl ⟨by rfl,fun w' cv=>?_⟩;go_simp;try with_reducible rfl)
        (intro d hd;simp at hd;subst hd;simp only [Act.put,List.setIfInBounds_toArray,List.set_cons_zero,List.set_cons_succ])
        refine zJ 2 (v:=?_) (by kernel_rfl) (by kernel_rfl) (by kernel_rfl) (by kernel_rfl) (fun _ _ _ _ h=>h) cI ?_ ?_
        rotate_left
        ·(intro oi ho;simp at ho;subst ho;refine Or.inl ⟨by rfl,fun w' cv=>?_⟩;go_simp;try with_reducible rfl)
        (intro d hd;simp at hd;subst hd;simp only [Act.put,List.setIfInBounds_toArray,List.set_cons_zero,List.set_cons_succ])
        refine zJ 3 (v:=?_) (by kernel_rfl) (by kernel_rfl) (by kernel_rfl) (by kernel_rfl) (fun _ _ _ _ h=>h) cI ?_ ?_
        rotate_left
        ·(intro oi ho;simp at ho;subst ho;refine Or.inl ⟨by rfl,fun w' cv=>?_⟩;go_simp;try with_reducible rfl)
        (intro d hd;simp at hd;subst hd;simp only [Act.put,List.setIfInBounds_toArray,List.set_cons_zero,List.set_cons_succ])
        refine zJ 4 (v:=?_) (by kernel_rfl) (by kernel_rfl) (by kernel_rfl) (by kernel_rfl) (fun _ _ _ _ h=>h) cI ?_ ?_
        rotate_left
        ·(intro oi ho;simp at ho;subst ho;refine Or.inl ⟨by rfl,fun w' cv=>?_⟩;go_simp;try with_reducible rfl)
        (intro d hd;simp at hd;subst hd;simp only [Act.put,List.setIfInBounds_toArray,List.set_cons_zero,List.set_cons_succ])
        refine zJ 5 (v:=?_) (by kernel_rfl) (by kernel_rfl) (by kernel_rfl) (by kernel_rfl) (fun _ _ _ _ h=>h) cI ?_ ?_
        rotate_left
        ·(intro oi ho;simp at ho;subst ho;refine Or.inl ⟨by rfl,fun w' cv=>?_⟩;have K5:=HTc.out w' (zzT HI.out.below cv);go_simp;try with_reducible rfl)
        (intro d hd;simp at hd;subst hd;simp only [Act.put,List.setIfInBounds_toArray,List.set_cons_zero,List.set_cons_succ])
        refine zJ 6 (v:=?_) (by kernel_rfl) (by kernel_rfl) (by kernel_rfl) (by kernel_rfl) (fun _ _ _ _ h=>h) cI ?_ ?_
        rotate_left
        ·(intro oi ho;simp at ho;subst ho;refine Or.inl ⟨by rfl,fun w' cv=>?_⟩;go_simp;try with_reducible rfl)
        (intro d hd;simp at hd;subst hd;simp only [Act.put,List.setIfInBounds_toArray,List.set_cons_zero,List.set_cons_succ])
        refine zJ 7 (v:=?_) (by kernel_rfl) (by kernel_rfl) (by kernel_rfl) (by kernel_rfl) (fun _ _ _ _ h=>h) cI ?_ ?_
        rotate_left
        ·(intro oi ho;simp at ho;subst ho;refine Or.inl ⟨by rfl,fun w' cv=>?_⟩;go_simp;try with_reducible rfl)
        (intro d hd;simp at hd;subst hd;simp only [Act.put,List.setIfInBounds_toArray,List.set_cons_zero,List.set_cons_succ])
        refine zJ 8 (v:=?_) (by kernel_rfl) (by kernel_rfl) (by kernel_rfl) (by kernel_rfl) (fun _ _ _ _ h=>h) cI ?_ ?_
        rotate_left
        ·(intro oi ho;simp at ho;subst ho;refine Or.inl ⟨by rfl,fun w' cv=>?_⟩;have K8:=HXc.out w' (zzT HI.out.below cv);go_simp;try with_reducible rfl)
        (intro d hd;simp at hd;subst hd;simp only [Act.put,List.setIfInBounds_toArray,List.set_cons_zero,List.set_cons_succ])
        refine zJ 9 (v:=?_) (by kernel_rfl) (by kernel_rfl) (by kernel_rfl) (by kernel_rfl) (fun _ _ _ _ h=>h) cI ?_ ?_
        rotate_left
        ·(intro oi ho;simp at ho;subst ho;refine Or.inl ⟨by rfl,fun w' cv=>?_⟩;obtain ⟨K9,K9b,_,_⟩:=kp ((cv.block _ (zZ HI.out.box)).trans HI.out.box);go_simp;try with_reducible rfl)
        (intro d hd;simp at hd;subst hd;simp only [Act.put,List.setIfInBounds_toArray,List.set_cons_zero,List.set_cons_succ])
        refine kQ 10 (by kernel_rfl) ?_
        (intro Be ho K' hK;simp at ho;subst ho)
        go_simp
        go_at_call 9
        (with_reducible refine CB.out.mono ?_)
        rintro en w10 ⟨rfl,mS⟩
        refine hK.out _ _ ?_ ?_
        ·exact fun _=>cI.trans mS
        clear hK K'
        (try simp only [Act.put,List.setIfInBounds_toArray,List.set_cons_zero,List.set_cons_succ])
        have aX:=cI.trans mS
        refine zJ 11 (v:=?_) (by kernel_rfl) (by kernel_rfl) (by kernel_rfl) (by kernel_rfl) (fun _ _ _ _ h=>h) aX ?_ ?_
        rotate_left
        ·(intro oi ho;simp at ho;subst ho;refine Or.inl ⟨by rfl,fun w' cv=>?_⟩;go_simp;try with_reducible rfl)
        (intro d hd;simp at hd;subst hd;simp only [Act.put,List.setIfInBounds_toArray,List.set_cons_zero,List.set_cons_succ])
        refine zJ 12 (v:=?_) (by kernel_rfl) (by kernel_rfl) (by kernel_rfl) (by kernel_rfl) (fun _ _ _ _ h=>h) aX ?_ ?_
        rotate_left
        ·(intro oi ho;simp at ho;subst ho;refine Or.inl ⟨by rfl,fun w' cv=>?_⟩;go_simp;try with_reducible rfl)
        (intro d hd;simp at hd;subst hd;simp only [Act.put,List.setIfInBounds_toArray,List.set_cons_zero,List.set_cons_succ])
        refine zt (by kernel_rfl) (NoPanic.normal ?_) _
        go_wp2_with fail
        go_ret
        exact ⟨rfl,HF.out.trans ((((cE wr.heap.size wr).drew).trans mS).mono HF.out.size)⟩
       ·have hqI:¬ (q:Int)=1:=by omega
        have nH:((q:Int) == 1)=false:=by simp;omega
        have hq3:((q:Int) != 1)=true:=by simp;omega
        have hq4:(q == 1)=false:=by simp;omega
        have hq5:(q != 1)=true:=by simp;omega
        have HF:=cH (rN.out.trans ((zzT H7.out.1 HI.out.below).mono rN.out.size))
        refine wp_region_noPanic ?_
        refine zm (fun w'=>Below wr.heap.size wr w') (fun _=>false) (by kernel_rfl) ?_
        have cI:(fun w'=>Below wr.heap.size wr w') wr.drew:=Below.drew (cE _ _)
        refine zJ 0 (v:=?_) (by kernel_rfl) (by kernel_rfl) (by kernel_rfl) (by kernel_rfl) (fun _ _ _ _ h=>h) cI ?_ ?_
        rotate_left
        ·(intro oi ho;simp at ho;subst ho;refine Or.inl ⟨by rfl,fun w' cv=>?_⟩;go_simp;try with_reducible rfl)
        (intro d hd;simp at hd;subst hd;simp only [Act.put,List.setIfInBounds_toArray,List.set_cons_zero,List.set_cons_succ])
        refine zJ 1 (v:=?_) (by kernel_rfl) (by kernel_rfl) (by kernel_rfl) (by kernel_rfl) (fun _ _ _ _ h=>h) cI ?_ ?_
        rotate_left
        ·(intro oi ho;simp at ho;subst ho;refine Or.inl ⟨by rfl,fun w' cv=>?_⟩;go_simp;try with_reducible rfl)
        (intro d hd;simp at hd;subst hd;simp only [Act.put,List.setIfInBounds_toArray,List.set_cons_zero,List.set_cons_succ])
        refine zJ 2 (v:=?_) (by kernel_rfl) (by kernel_rfl) (by kernel_rfl) (by kernel_rfl) (fun _ _ _ _ h=>h) cI ?_ ?_
        rotate_left
        ·(intro oi ho;simp at ho;subst ho;refine Or.inl ⟨by rfl,fun w' cv=>?_⟩;go_simp;try with_reducible rfl)
        (intro d hd;simp at hd;subst hd;simp only [Act.put,List.setIfInBounds_toArray,List.set_cons_zero,List.set_cons_succ])
        refine zJ 3 (v:=undef) (by kernel_rfl) (by kernel_rfl) (by kernel_rfl) (by kernel_rfl) (fun _ _ _ _ h=>h) cI (fun oi ho=>by simp at ho;subst ho;exact Or.inr ⟨by rfl,rfl⟩) ?_
        (intro d hd;simp at hd;subst hd;simp only [Act.put,List.setIfInBounds_toArray,List.set_cons_zero,List.set_cons_succ])
        refine zJ 4 (v:=undef) (by kernel_rfl) (by kernel_rfl) (by kernel_rfl) (by kernel_rfl) (fun _ _ _ _ h=>h) cI (fun oi ho=>by simp at ho;subst ho;exact Or.inr ⟨by rfl,rfl⟩) ?_
        (intro d hd;simp at hd;subst hd;simp only [Act.put,List.setIfInBounds_toArray,List.set_cons_zero,List.set_cons_succ])
        refine zJ 5 (v:=undef) (by kernel_rfl) (by kernel_rfl) (by kernel_rfl) (by kernel_rfl) (fun _ _ _ _ h=>h) cI (fun oi ho=>by simp at ho;subst ho;exact Or.inr ⟨by rfl,rfl⟩) ?_
        (intro d hd;simp at hd;subst hd;simp only [Act.put,List.setIfInBounds_toArray,List.set_cons_zero,List.set_cons_succ])
        refine zJ 6 (v:=undef) (by kernel_rfl) (by kernel_rfl) (by kernel_rfl) (by kernel_rfl) (fun _ _ _ _ h=>h) cI (fun oi ho=>by simp at ho;subst ho;exact Or.inr ⟨by rfl,rfl⟩) ?_
        (intro d hd;simp at hd;subst hd;simp only [Act.put,List.setIfInBounds_toArray,List.set_cons_zero,List.set_cons_succ])
        refine zJ 7 (v:=undef) (by kernel_rfl) (by kernel_rfl) (by kernel_rfl) (by kernel_rfl) (fun _ _ _ _ h=>h) cI (fun oi ho=>by simp at ho;subst ho;exact Or.inr ⟨by rfl,rfl⟩) ?_
        (intro d hd;simp at hd;subst hd;simp only [Act.put,List.setIfInBounds_toArray,List.set_cons_zero,List.set_cons_succ])
        refine zJ 8 (v:=undef) (by kernel_rfl) (by kernel_rfl) (by kernel_rfl) (by kernel_rfl) (fun _ _ _ _ h=>h) cI (fun oi ho=>by simp at ho;subst ho;exact Or.inr ⟨by rfl,rfl⟩) ?_
        (intro d hd;simp at hd;subst hd;simp only [Act.put,List.setIfInBounds_toArray,List.set_cons_zero,List.set_cons_succ])
        refine zJ 9 (v:=undef) (by kernel_rfl) (by kernel_rfl) (by kernel_rfl) (by kernel_rfl) (fun _ _ _ _ h=>h) cI (fun oi ho=>by simp at ho;subst ho;exact Or.inr ⟨by rfl,rfl⟩) ?_
        (intro d hd;simp at hd;subst hd;simp only [Act.put,List.setIfInBounds_toArray,List.set_cons_zero,List.set_cons_succ])
        refine zJ 10 (v:=undef) (by kernel_rfl) (by kernel_rfl) (by kernel_rfl) (by kernel_rfl) (fun _ _ _ _ h=>h) cI (fun oi ho=>by simp at ho;subst ho;exact Or.inr ⟨by rfl,rfl⟩) ?_
        (intro d hd;simp at hd;subst hd;simp only [Act.put,List.setIfInBounds_toArray,List.set_cons_zero,List.set_cons_succ])
        refine zJ 11 (v:=?_) (by kernel_rfl) (by kernel_rfl) (by kernel_rfl) (by kernel_rfl) (fun _ _ _ _ h=>h) cI ?_ ?_
        rotate_left
        ·(intro oi ho;simp at ho;subst ho;refine Or.inl ⟨by rfl,fun w' cv=>?_⟩;go_simp;try with_reducible rfl)
        (intro d hd;simp at hd;subst hd;simp only [Act.put,List.setIfInBounds_toArray,List.set_cons_zero,List.set_cons_succ])
        refine zJ 12 (v:=?_) (by kernel_rfl) (by kernel_rfl) (by kernel_rfl) (by kernel_rfl) (fun _ _ _ _ h=>h) cI ?_ ?_
        rotate_left
        ·(intro oi ho;simp at ho;subst ho;refine Or.inl ⟨by rfl,fun w' cv=>?_⟩;go_simp;try with_reducible rfl)
        (intro d hd;simp at hd;subst hd;simp only [Act.put,List.setIfInBounds_toArray,List.set_cons_zero,List.set_cons_succ])
        refine zt (by kernel_rfl) (NoPanic.normal ?_) _
        go_wp2_with fail
        go_ret
        first
         | exact ⟨rfl,HF.out⟩
         | exact ⟨rfl,HF.out.drew⟩
   ·have DL:¬ (N:Int)=1:=by omega
    go_wp2_with fail
    go_ret
    exact ⟨rfl,zzT rN.out H7.out.1⟩
end Go.Proofs.YtdhaafoiokkbnaaGreatDoor

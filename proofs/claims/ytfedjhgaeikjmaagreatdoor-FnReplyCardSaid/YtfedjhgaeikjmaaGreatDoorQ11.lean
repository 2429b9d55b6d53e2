/- Walks of functions that the statement reaches, and plain words. No conditions. -/
import Derived.Laws.DeepNot64
import Derived.Test.YtfedjhgaeikjmaaGreatDoorQ10
set_option linter.unusedVariables false
set_option linter.unusedSimpArgs false
set_option maxHeartbeats 16000000
namespace Go.Proofs.YtfedjhgaeikjmaaGreatDoor
open Go.RowKit
theorem NxR.empty (B:Nat) (w:World) (hB:B<=w.heap.size):NxR B [] (some ⟨w.heap.size,0,none⟩) 0 0 [] (w.alloc (.cells #[] 33)):=by
 refine ⟨rfl,⟨Own.lit #[] 0 (by unfold maxLen;omega) rfl,rfl,fun i u x h=>by simp at h,fun i j u u' _ h=>by simp at h⟩,fun g hg=>?_⟩
 rcases hg with hg | ⟨u,hu,_⟩
 ·simp [Value.ownBlock] at hg;omega
 ·simp at hu
theorem rowL_off {t:Ty} {v:Pl} {i:Nat} {ms:List Bs} (h:∀ m∈ms,yN t v m i=false):wO t v i ms=[]:=by
 unfold wO
 rw [List.filterMap_eq_nil_iff]
 intro m hm
 rw [h m hm];rfl
theorem has_eq (v:Pl) (o:Bool) (n i:Nat):((zd v o n).map fun n=>((n:Nat):Int)).contains (i:Int)=(zd v o n).contains i:=by
 rw [Bool.eq_iff_iff,List.contains_iff_mem,List.contains_iff_mem,List.mem_map]
 exact ⟨fun ⟨a,h1,h2⟩=>by obtain rfl:a=i:=by omega
                          exact h1,fun h=>⟨i,h,rfl⟩⟩
theorem who_mod (n:Nat):(n:Int) % 2=((pz (decide (n % 2=0)):Nat):Int):=by
 rcases Nat.mod_two_eq_zero_or_one n with h | h
 ·rw [decide_eq_true h];unfold pz;simp;omega
 ·rw [decide_eq_false (by omega)];unfold pz;simp;omega
set_option maxRecDepth 100000 in
theorem l2Next_nil (t:Ty) (tv:Value) (c1 c2:Nat) (a1 a2:Option Addr) (w:World) (ha:zM 1 (.slice a1 0 c1) 0 [] w) (hb:zM 1 (.slice a2 0 c2) 0 [] w) (ht:∃ b n c,tv=.slice b n c) :
 Calls Tryz.prog 120 #[.agg #[tv],.agg #[.slice a1 0 c1,.slice a2 0 c2]] w (PlsQ (vP t []) w):=by
 obtain ⟨tb,tn,tc,rfl⟩:=ht
 obtain ⟨W,hW,b9,hz,b0,b1⟩:=kD w (.cells #[.slice tb tn tc] 61) (.cells #[.slice a1 0 c1,.slice a2 0 c2] 33)
 obtain ⟨W1,tW,fM,eQ,b2⟩:=kV W (.cells #[] 33)
 have Cr:=(fM.block _ (zZ b1)).trans b1
 obtain ⟨d0,d1,_,_⟩:=zJ Cr
 have nQ:=zzT b9 fM
 have CW:=bz (xn [] (.slice a1 0 c1) (.slice a2 0 c2) [113] (-1) W1 (ha.below nQ) (hb.below nQ) (Nat.zero_le _))
 have HN:=NxR.empty w.heap.size W b9.size
 rw [tW] at HN
 have H:=bz (bj hW (bj tW (bj nQ HN)))
 clear hW b9 hz b0 b1 tW fM eQ b2 Cr nQ ha hb HN
 go_enter Tryz.func120,Tryz.ntmps120
 go_upto_region 1 with (fail)
 rw [H.out.1]
 go_upto_region 2 with (fail)
 rw [H.out.2.1]
 go_wp2_with fail
 (with_reducible refine CW.out.mono ?_)
 rintro en y1 ⟨mvn,ptn,rfl,c_,bi,fD⟩
 obtain ⟨a8,c8,e8⟩:=c_.1.slice
 obtain ⟨a9,c9,e9⟩:=c_.2.slice
 change mvn=.slice a8 1 c8 at e8
 change ptn=.slice a9 1 c9 at e9
 subst e8;subst e9
 have H1:=bz (bj bi (bj c_ fD))
 clear c_ bi fD CW
 go_wp2_with (at_builtin;refine zC rfl _ _ 26 rfl 33 (.agg #[.slice none 0 0,.slice none 0 0]) 2 48 Tryz.underlying26 Tryz.infoPlay rfl (by decide) (.slice (some ⟨W.heap.size,0,none⟩) 0 0) 0 (plC []) rfl ?c1 _ 1 [.slice a8 1 c8,.slice a9 1 c9] rfl ?c2 ?c3 ?c4 ?_)
 case c1=>exact (H.out.2.2.2.below H1.out.1).own.alloc _
 case c2=>exact zM.litk #[.slice a8 1 c8,.slice a9 1 c9] rfl (by simp [Value.oneCell']) _ (by rfl)
 case c3=>unfold maxLen;omega
 case c4=>omega
 intro a7 c7 w7 dO cP ch
 have eQ:=H1.out.1.size
 have mE:=H.out.2.2.2.add (H1.out.1.alloc eQ _) H.out.2.2.1.size (H1.out.2.1.below ((bh _ _).alloc (bw _) _)) H1.out.2.2 dO cP (fun g hg=>by rw [zK];exact ch g hg)
 have dc:Below w.heap.size w w7:=(H.out.2.2.1.trans ((H1.out.1.alloc eQ _).mono H.out.2.2.1.size)).trans (cP.toBelow (by rw [zK];have:=H.out.2.2.1.size;omega) fun g hg e=>by have:=H.out.2.2.2.new g (.inl e);omega)
 have HF:=bz (bj dc mE)
 clear dO cP ch eQ mE dc
 go_wp2_with fail
 go_ret
 exact ⟨_,_,_,_,rfl,HF.out.1,HF.out.2⟩
set_option maxRecDepth 100000 in
theorem l2Next_any (F:Nat->Prop) (t:Ty) (v:Pl) (tv mv pt:Value) (w:World) (hk:Rep F w (qP t) tv) (hm:vK F t v mv pt w) (cJ:zP t<=15) (ec:qO v=true) (cU:v.length<60) :
 Calls Tryz.prog 120 #[.agg #[tv],.agg #[mv,pt]] w (PlsQ (vP t v) w):=by
 obtain ⟨tb,tc,rfl⟩:=zp hk
 obtain ⟨ma,mc,rfl⟩:=hm.m.src.slice
 obtain ⟨pa,pc,rfl⟩:=hm.p.src.slice
 by_cases h0:v.length=0
 ·obtain rfl:=List.eq_nil_of_length_eq_zero h0
  exact l2Next_nil t _ _ _ _ _ w hm.m.src hm.p.src ⟨_,_,_,rfl⟩
 have h0I:¬ (v.length:Int)=0:=by omega
 have h0B:((v.length:Int) == 0)=false:=by simpa using h0I
 have hkB:Rep (· < w.heap.size) w (qP t) (.slice tb t.args.length tc):=(Rep.keep fun b o _ ho=>⟨zZ ho,ho⟩).1 _ _ hk
 have hmB:vK (· < w.heap.size) t v (.slice ma v.length mc) (.slice pa v.length pc) w:=⟨(Rep.keep fun b o _ ho=>⟨zZ ho,ho⟩).1 _ _ hm.m,(Rep.keep fun b o _ ho=>⟨zZ ho,ho⟩).1 _ _ hm.p,hm.ok,hm.l⟩
 obtain ⟨W,hW,b9,hz,b0,b1⟩:=kD w (.cells #[.slice tb t.args.length tc] 61) (.cells #[.slice ma v.length mc,.slice pa v.length pc] 33)
 obtain ⟨W1,tW,fM,eQ,b2⟩:=kV W (.cells #[] 33)
 have E:=bz (show vP t v=um t v v.length by unfold vP;rw [if_neg h0])
 have FIT:=bz (fun m (hm':qm t m=true) i (hi:i<v.length)=>fits_eq hm.ok ec (by omega) cU hm' hi)
 have nQ:=zzT b9 fM
 have CV:=bz (xF (· < w.heap.size) t v (decide (v.length % 2=0)) v.length (.slice ma v.length mc) (.slice pa v.length pc) W1 (hmB.below nQ).m (hmB.below nQ).p hm.ok (by omega) (bw _) hm.l)
 have np:=NxR.empty W.heap.size W (bw _)
 rw [tW] at np
 have b0':=(fM.block _ (zZ b0)).trans b0
 have Cr:=(fM.block _ (zZ b1)).trans b1
 have c0:=kF b0'
 obtain ⟨d0,d1,_,_⟩:=zJ Cr
 have mp:W.heap.size=w.heap.size+2:=hz
 obtain ⟨o,ho⟩:∃ o,decide (v.length % 2=0)=o:=⟨_,rfl⟩
 have hwm:=who_mod v.length
 rw [ho] at hwm CV
 have hwt:(v.length:Int).tmod 2=((pz o:Nat):Int):=by rw [Int.tmod_eq_emod_of_nonneg (by omega)];exact hwm
 have FIT2:Hid (∀ m,qm t m=true->∀ i,i<v.length->yN t v m i=(((zd v o v.length).contains i && (!(m == [113]) && (kG m == o) && ((v[i]?).map (·.1) == some (qt m)))) && (isQ m || kj v v.length [] == (i:Int)))):=bz (fun m h i hi=>by rw [FIT.out m h i hi];unfold fitsS;rw [ho])
 have HW:=bz (bj hW (bj tW (bj b9 (bj nQ (bj b0' (bj Cr (bj b2 np)))))))
 have HM:=bz (bj hkB (bj hmB (bj cJ (bj hm.ok hm.l))))
 have HZ:=bz (show W.heap.size<=W1.heap.size from fM.size)
 have HZ2:=bz mp
 have HMV:=bz (fun j m (h:(kW t [])[j]? = some m)=>xC cJ (List.mem_of_getElem? h))
 have HMV2:=bz (fun m (h:m∈kW t [])=>(xC cJ h).1)
 have H24:=bz (bj (xr cJ []) (fun i=>wd cJ v i))
 have fv:=cU
 clear hW b9 hz b0 b1 tW fM eQ b2 b0' Cr nQ hk hm hkB hmB cJ ec ho mp np FIT cU
 go_enter Tryz.func120,Tryz.ntmps120
 go_upto_region 1 with (fail)
 rw [HW.out.1]
 go_upto_region 2 with (fail)
 rw [HW.out.2.1]
 go_wp2_with fail
 (with_reducible refine CV.out.mono ?_)
 rintro en w2 ⟨xv,rfl,cK,fp⟩
 obtain ⟨vb,vo,vc,rfl,hvb,tF⟩:=fp
 have hvp:0<(zd v o v.length).length:=viewP_pos v o (by omega)
 have hvG:¬ vb=W.heap.size:=fun e=>by
  have h1:=tF 0 _ (List.getElem?_eq_getElem hvp)
  have h2:=(cK.block _ (zZ HW.out.2.2.2.2.2.2.1)).trans HW.out.2.2.2.2.2.2.1
  rw [e] at h1
  simp [World.cell?,h2] at h1
 obtain ⟨nv,AE⟩:=zzN ((zd v o v.length).length)
 have Ch:=(cK.cell (bp _ _ c0)).trans c0
 have rA:=(cK.cell (bp _ _ d0)).trans d0
 have hd1:=(cK.cell (bp _ _ d1)).trans d1
 have sZ:=HW.out.2.2.2.1.size
 have ed:Below w2.heap.size w2 (w2.alloc (.cells #[] 9)):=(bh _ _).alloc (bw _) _
 have Ca:Rep (· < w.heap.size) (w2.alloc (.cells #[] 9)) (qP t) (.slice tb t.args.length tc):=(HM.out.1.below (HW.out.2.2.2.1.trans (cK.mono sZ)) fun _ h=>h).below ed fun _ h=>h
 have CM:=bz (pM w.heap.size 15 t [] (.slice tb t.args.length tc) [] (some ⟨w2.heap.size,0,none⟩) 0 0 (w2.alloc (.cells #[] 9)) HM.out.2.2.1 (bw _) (by simp) (by omega) (by rw [zK];have:=cK.size;omega) Ca (Own.lit #[] 0 (by unfold maxLen;omega) rfl) (fun g hg=>by simp [Value.ownBlock] at hg;have:=cK.size;omega))
 unfold MovQ at CM
 obtain ⟨nm,s9⟩:=zzN ((kW t []).length)
 rw [s9] at CM
 have H2:=bz (bj cK (bj hvb (bj tF (bj hvG ed))))
 have HNV:=bz AE
 have HNM:=bz s9
 have DZ:nm<=24:=by rw [<- s9];exact H24.out.1
 rw [AE]
 clear cK hvb tF hvG hvp AE sZ ed Ca s9 c0 d0 d1 CV
 go_wp2_with fail
 (with_reducible refine CM.out.mono ?_)
 rintro en w3 ⟨a3,n3,c3,rfl,iT,cH,AC,Ey⟩
 obtain rfl:n3=nm:=by omega
 have eH:Below w2.heap.size w2 w3:=H2.out.2.2.2.2.trans (cH.toBelow (by rw [zK];omega) fun g hg e=>by simp [Value.ownBlock] at e;omega)
 have D_:∀ g,(Value.slice a3 n3 c3).ownBlock=some g->w2.heap.size<=g:=fun g hg=>by
  rcases Ey g hg with h | h
  ·simp [Value.ownBlock] at h;omega
  ·rw [zK] at h;omega
 have iC:=(eH.cell (bp _ _ Ch)).trans Ch
 have mh:=(eH.cell (bp _ _ rA)).trans rA
 have fZ:=(eH.cell (bp _ _ hd1)).trans hd1
 have mB:Below W1.heap.size W1 w3:=zzT H2.out.1 eH
 have mT:Own w3 9 1 (.slice a3 n3 c3) n3 ((kW t []).map str):=by rw [List.nil_append] at AC;exact AC
 have HS3:=bz mB.size
 have H3:=bz (bj mB (bj mT (bj D_ (bj (HW.out.2.2.2.2.2.2.2.below mB) eH))))
 have KEY:=bz (fun (y z:World) (hy:But (fun b=>b=W.heap.size) w3 y) (hz:Below y.heap.size y z)=>(show (z.cell? ⟨w.heap.size+1,0,none⟩=some (.slice ma v.length mc)/\z.cell? ⟨w.heap.size+1,1,none⟩=some (.slice pa v.length pc))/\IntAt z ((zd v o v.length).map fun n=>((n:Nat):Int)) (.slice (some ⟨vb,vo,none⟩) nv vc)/\vK (· < w.heap.size) t v (.slice ma v.length mc) (.slice pa v.length pc) z from by
  have BS:=HZ2.out
  have kx:∀ (a:Addr) (u:Value),w3.cell? a=some u->¬ a.block=W.heap.size->z.cell? a=some u:=fun a u h cE=>by
   have h1:=(hy.cell (bp _ _ h) cE).trans h
   exact (hz.cell (bp _ _ h1)).trans h1
  have Fb:Below w.heap.size w z:=(zzT HW.out.2.2.2.1 H3.out.1).trans ((hy.trans (But.ofBelow hz)).toBelow (by have h1:=HW.out.2.2.2.1.size;have h2:=H3.out.1.size;omega) fun i hi e=>by omega)
  refine ⟨⟨kx _ _ mh (by show ¬ w.heap.size+1=_;omega),kx _ _ fZ (by show ¬ w.heap.size+1=_;omega)⟩,v9.ints ?_,?_⟩
  ·refine ⟨vb,vo,vc,by rw [HNV.out],?_,fun i n hi=>?_⟩
   ·have h1:=H2.out.2.1;have h2:=H3.out.2.2.2.2.size;have h3:=hy.size;have h4:=hz.size;omega
   ·have h1:=H2.out.2.2.1 i n hi
    exact kx _ _ ((H3.out.2.2.2.2.cell (bp _ _ h1)).trans h1) (by show ¬ vb=_;exact H2.out.2.2.2.1)
  ·exact ⟨HM.out.2.1.m.below Fb fun _ h=>h,HM.out.2.1.p.below Fb fun _ h=>h,HM.out.2.2.2.1,HM.out.2.2.2.2⟩))
 have OWNM:=bz (fun (y:World) (hy:But (fun b=>b=W.heap.size) w3 y)=>(H3.out.2.1.keep (w':=y) fun g o hg ho=>by
  have h1:=H3.out.2.2.1 g hg
  have h2:=H2.out.1.size
  have h3:=HZ.out
  have h4:W.heap.size<W1.heap.size:=by have:=HW.out.2.2.2.2.2.2.1;exact zZ this
  rw [hy.block g (zZ ho) (by omega)];exact ho))
 have CHAS:=bz (fun (z:World) (i:Nat) (h:IntAt z ((zd v o v.length).map fun n=>((n:Nat):Int)) (.slice (some ⟨vb,vo,none⟩) nv vc))=>wb _ (i:Int) _ z h (by rw [List.length_map];have:=wM v o v.length;omega))
 have CW:=bz (fun (z:World) (h:vK (· < w.heap.size) t v (.slice ma v.length mc) (.slice pa v.length pc) z) (m:Bs) (q:Int)=>xn v (.slice ma v.length mc) (.slice pa v.length pc) m q z h.m.src h.p.src (by omega))
 have CPE:=bz (fun (z:World) (h:vK (· < w.heap.size) t v (.slice ma v.length mc) (.slice pa v.length pc) z)=>xJ (· < w.heap.size) t v v.length (.slice ma v.length mc) (.slice pa v.length pc) z h.m h.p h.ok (bw _) h.l)
 clear cH AC Ey eH D_ iC mh fZ mB mT CM Ch rA hd1 iT
 go_wp2_with fail
 go_loopw [5,9] (fun o x wr=>∃ (i n' c':Nat) (a':Option Addr) (us:List (Value×Value)) (wz:World),wz=wr/\i<=v.length/\x=.int .i64 i/\o=.slice a' n' c'/\But (fun b=>b=W.heap.size) w3 wz/\NxR W.heap.size (um t v i) a' n' c' us wz/\∀ g,(Value.slice a' n' c').ownBlock=some g->g=W.heap.size\/w3.heap.size<=g) (fun _ x _=>v.length-(intOf x).toNat)
 case atStart=>exact ⟨0,0,0,_,[],_,rfl,Nat.zero_le _,rfl,rfl,But.refl _ _,H3.out.2.2.2.1,fun g hg=>.inl (by simp [Value.ownBlock] at hg;exact hg.symm)⟩
 case round =>
  obtain ⟨i,n',c',a',us,wr,rfl,hi,rfl,rfl,hB,hN,hR⟩:=hrel
  have HR:=bz (bj hB (bj hN hR))
  clear hB hN hR
  by_cases cQ:i<v.length
  ·have dU:(i:Int)<(v.length:Int):=by omega
   obtain ⟨⟨mi,zi⟩,mY⟩:∃ x,v[i]? = some x:=⟨_,List.getElem?_eq_getElem cQ⟩
   have HVI:=bz mY
   have FITI:=bz (fun m (h:qm t m=true)=>FIT2.out m h i cQ)
   clear mY
   go_wp2_with fail
   go_loopw [5,10] (fun o x wr'=>∃ (k n2 c2:Nat) (a2:Option Addr) (dS:List (Value×Value)) (wz:World),wz=wr'/\k<=n3/\x=.int .i64 k/\o=.slice a2 n2 c2/\But (fun b=>b=W.heap.size) w3 wz/\NxR W.heap.size (um t v i++wO t v i ((kW t []).take k)) a2 n2 c2 dS wz/\∀ g,(Value.slice a2 n2 c2).ownBlock=some g->g=W.heap.size\/w3.heap.size<=g) (fun _ x _=>n3-(intOf x).toNat)
   case atStart=>exact ⟨0,n',c',a',us,_,rfl,Nat.zero_le _,rfl,rfl,HR.out.1,by rw [List.take_zero,rowL_nil,List.append_nil];exact HR.out.2.1,HR.out.2.2⟩
   case round =>
    obtain ⟨k,n2,c2,a2,dS,wq,rfl,hk,rfl,rfl,ar,Cn,Fw⟩:=hrel
    have HQ:=bz (bj ar (bj Cn Fw))
    clear ar Cn Fw
    by_cases hkt:k<n3
    ·have hktI:(k:Int)<(n3:Int):=by omega
     obtain ⟨⟨e0,e1⟩,Cc,cG⟩:=KEY.out wq wq HQ.out.1 (bh _ _)
     have iP:=CHAS.out wq i Cc
     have hhe:=has_eq v o v.length i
     rw [hhe] at iP
     have sh:=bz cG
     clear Cc cG hhe
     cases hh:(zd v o v.length).contains i with
     | false =>
       rw [hh] at iP
       have iP:=bz iP
       have n7:=bz (fun ms (h:∀ m∈ms,m∈kW t [])=>rowL_off (t:=t) (v:=v) (i:=i) (ms:=ms) fun m hm=>by rw [FITI.out m (HMV2.out m (h m hm)),hh];rfl)
       clear hh e0 e1
       go_wp2_with fail
       (with_reducible refine iP.out.mono ?_)
       rintro en y0 ⟨rfl,e⟩
       subst y0
       have HE:=bz (show NxR W.heap.size (um t v (i+1)) a2 n2 c2 dS wq by
        have h1:=HQ.out.2.1
        rw [n7.out _ (fun m hm=>List.mem_of_mem_take hm),List.append_nil] at h1
        rw [xB,n7.out _ (fun m hm=>hm),List.append_nil];exact h1)
       clear iP
       go_wp2_with fail
       go_roundw
       case rel=>exact ⟨i+1,n2,c2,a2,dS,_,rfl,by omega,by go_num,rfl,HQ.out.1,HE.out,HQ.out.2.2⟩
       case measure=>simp [intOf];omega
     | true =>
       rw [hh] at iP
       have iP:=bz iP
       obtain ⟨m,hm⟩:∃ m,(kW t [])[k]? = some m:=⟨_,List.getElem?_eq_getElem (by rw [HNM.out];exact hkt)⟩
       obtain ⟨mg,mk',emg,cb⟩:=(OWNM.out wq HQ.out.1).at (j:=k) (u:=str m) (by rw [List.getElem?_map,hm];rfl)
       simp only [Value.slice.injEq,true_and] at emg
       obtain ⟨rfl,rfl⟩:=emg
       obtain ⟨cD,oT⟩:=HMV.out k m hm
       have Bk:=FITI.out m cD
       rw [hh,HVI.out,Bool.true_and] at Bk
       have iX:=bz Bk
       have tG:=bz (rowL_take (v:=v) (t:=t) (i:=i) hm)
       have fP:n2<=2000:=by
        have h1:=HQ.out.2.1.len
        rw [List.length_append] at h1
        have h2:=H24.out.2 i
        have h3:=rowL_len t v i ((kW t []).take k)
        rw [List.length_take] at h3
        omega
       obtain ⟨c,p,fm⟩:∃ c p,m=c::p:=by
        cases m with
        | nil=>simp [qm] at cD
        | cons c p=>exact ⟨c,p,rfl⟩
       have cG:p.length<=16777216:=by rw [fm,List.length_cons] at oT;omega
       have d_:0<m.length:=by rw [fm];simp
       have nc:(0:Int)<(m.length:Int):=by omega
       have B0:((((⟨m.toArray⟩:ByteArray)[0]'(kP d_)).toNat:Int))=(c.toNat:Int):=by rw [kr d_];subst fm;rfl
       have hqe:((c.toNat:Int) == 113)=isQ m:=by
        rw [fm,kf,Bool.eq_iff_iff,beq_iff_eq,beq_iff_eq]
        exact ⟨fun h=>UInt8.toNat_inj.1 (by show c.toNat=113;omega),fun h=>by rw [h];rfl⟩
       have CB:=bz (fun x=>vH c p cG x)
       have CE:=bz (fun x=>uV c p cG x)
       rw [<- fm] at CB CE
       obtain ⟨pn,c_⟩:=zzN (plN m)
       obtain ⟨fu,eS⟩:=zzN (qt m)
       have hwe:=who_eq m o
       rw [c_] at CB hwe
       rw [eS] at CE iX
       obtain ⟨wi,hwi⟩:=zzN (pz o)
       rw [hwi] at hwe hwm hwt
       have HWE:=bz hwe
       obtain ⟨ib,ic,eib,hic⟩:=sh.out.m.cells
       simp only [Value.slice.injEq,true_and] at eib
       obtain ⟨rfl,rfl⟩:=eib
       obtain ⟨gb,go',rfl,_,hgb,iI⟩:=hic i _ HVI.out
       have ni:=bz (fun (y:World) (hy:Below wq.heap.size wq y)=>(show y.cell? ⟨w.heap.size+1,0,none⟩=some (.slice (some ⟨gb,go',none⟩) v.length mc)/\y.cell? ⟨gb,go'+i,none⟩=some (str mi)/\y.cell? ⟨mg,k,none⟩=some (str m) from
        ⟨(hy.cell (bp _ _ e0)).trans e0,(hy.cell (bp _ _ iI)).trans iI,(hy.cell (bp _ _ cb)).trans cb⟩))
       obtain ⟨qq,hqq⟩:=zzN (isQ m)
       rw [hqq] at hqe iX
       obtain ⟨pe,nS⟩:=zzN (kj v v.length [])
       have CPW:=CPE.out wq sh.out
       rw [nS] at CPW iX
       have CPW:=bz CPW
       obtain ⟨fe,hfe⟩:=zzN (yN t v m i)
       have HF:Hid (yN t v m i=fe):=bz hfe
       have F5:=bz (iX.out.symm.trans hfe)
       obtain ⟨pb',pc',epb,hpc'⟩:=sh.out.p.cells
       have HPE:=bz nS
       clear hh hm cD oT Bk cG c_ eS hwe hwi hgb iI hic fm hqq nS hfe iX hpc' epb
       go_wp2_with fail
       (with_reducible refine iP.out.mono ?_)
       rintro en y0 ⟨rfl,e⟩
       subst y0
       clear iP
       cases eR:((m:Bs) == [113]) with
       | true =>
         have nL:((m:Bs) != [113])=false:=by rw [bne,eR];rfl
         obtain rfl:fe=false:=by rw [<- F5.out,eR];rfl
         clear F5
         go_upto_region 14 with (fail)
         refine wp_region_noPanic ?_
         refine zW (fun w'=>Below wq.heap.size wq w') (fun _=>false) (by kernel_rfl) ?_
         have cZ:(fun w'=>Below wq.heap.size wq w') wq.drew:=Below.drew (bh _ _)
         refine tk [0,1,2,3,4,5,6,7,8,9,10,11,12,13,14,15,16,17,18,19] cZ ?_
         (intro d hd;simp [tkD] at hd;subst hd;simp only [tks,pQ,pZ,pS])
         iterate 20 (refine ⟨?_,?_,?_⟩;rotate_left;· (intro oi ho;simp at ho;subst ho;first | (refine Or.inr ⟨by rfl,?_⟩;with_reducible rfl) | (refine Or.inl ⟨by rfl,fun w' b_=>?_⟩;go_simp;try with_reducible rfl)))
         refine zU (by kernel_rfl) (NoPanic.normal ?_) _
         have mF:=bz (Below.drew (bh wq.heap.size wq))
         clear cZ ni
         go_wp2_with fail
         go_roundw
         case rel=>exact ⟨k+1,n2,c2,a2,dS,_,rfl,by omega,by go_num,rfl,HQ.out.1.trans (But.ofBelow (mF.out)),by rw [tG.out,HF.out,if_neg (by simp),List.append_nil];exact HQ.out.2.1.below (mF.out),HQ.out.2.2⟩
         case measure=>simp [intOf];omega
       | false =>
         have nL:((m:Bs) != [113])=true:=by rw [bne,eR];rfl
         cases aF:(kG m == o) with
         | false =>
           have hpw:((pn:Int) == (wi:Int))=false:=HWE.out.trans aF
           obtain rfl:fe=false:=by rw [<- F5.out,eR,aF];rfl
           clear aF
           go_upto_region 14 with (fail)
           refine wp_region_noPanic ?_
           refine zW (fun w'=>Below wq.heap.size wq w') (fun _=>false) (by kernel_rfl) ?_
           have cZ:(fun w'=>Below wq.heap.size wq w') wq.drew:=Below.drew (bh _ _)
           refine tk [0,1,2,3,5,6] cZ ?_
           (intro d hd;simp [tkD] at hd;subst hd;simp only [tks,pQ,pZ,pS])
           iterate 6 (refine ⟨?_,?_,?_⟩;rotate_left;· (intro oi ho;simp at ho;subst ho;refine Or.inl ⟨by rfl,fun w' b_=>?_⟩;go_simp;try with_reducible rfl))
           (refine on 4 ?_;intro o ho K' hK;simp at ho;subst ho;go_simp)
           go_at_call 122
           (with_reducible refine (CB.out _).mono ?_)
           rintro en x4 ⟨rfl,e⟩
           subst x4
           (refine hK.out _ _ (fun _=>cZ) ?_;clear hK K';try simp only [pQ,pN,pZ,pS])
           have om:=cZ
           refine tk [7,8,9,10,11,12,13,14,15,16,17,18,19] om ?_
           (intro d hd;simp [tkD] at hd;subst hd;simp only [tks,pQ,pZ,pS])
           iterate 13 (refine ⟨?_,?_,?_⟩;rotate_left;· (intro oi ho;simp at ho;subst ho;first | (refine Or.inr ⟨by rfl,?_⟩;with_reducible rfl) | (refine Or.inl ⟨by rfl,fun w' b_=>?_⟩;go_simp;try with_reducible rfl)))
           refine zU (by kernel_rfl) (NoPanic.normal ?_) _
           have mF:=bz (Below.drew (bh wq.heap.size wq))
           clear cZ ni
           go_wp2_with fail
           go_roundw
           case rel=>exact ⟨k+1,n2,c2,a2,dS,_,rfl,by omega,by go_num,rfl,HQ.out.1.trans (But.ofBelow (mF.out)),by rw [tG.out,HF.out,if_neg (by simp),List.append_nil];exact HQ.out.2.1.below (mF.out),HQ.out.2.2⟩
           case measure=>simp [intOf];omega
         | true =>
           have hpw:((pn:Int) == (wi:Int))=true:=HWE.out.trans aF
           go_upto_region 14 with (fail)
           refine wp_region_noPanic ?_
           refine zW (fun w'=>Below wq.heap.size wq w') (fun _=>false) (by kernel_rfl) ?_
           have cZ:(fun w'=>Below wq.heap.size wq w') wq.drew:=Below.drew (bh _ _)
           refine tk [0,1,2,3,5,6] cZ ?_
           (intro d hd;simp [tkD] at hd;subst hd;simp only [tks,pQ,pZ,pS])
           iterate 6 (refine ⟨?_,?_,?_⟩;rotate_left;· (intro oi ho;simp at ho;subst ho;refine Or.inl ⟨by rfl,fun w' b_=>?_⟩;go_simp;try with_reducible rfl))
           (refine on 4 ?_;intro o ho K' hK;simp at ho;subst ho;go_simp)
           go_at_call 122
           (with_reducible refine (CB.out _).mono ?_)
           rintro en x4 ⟨rfl,e⟩
           subst x4
           (refine hK.out _ _ (fun _=>cZ) ?_;clear hK K';try simp only [pQ,pN,pZ,pS])
           have om:=cZ
           refine tk [7,8,9,10,12,13,14,15,16] om ?_
           (intro d hd;simp [tkD] at hd;subst hd;simp only [tks,pQ,pZ,pS])
           iterate 9 (refine ⟨?_,?_,?_⟩;rotate_left;· (intro oi ho;simp at ho;subst ho;refine Or.inl ⟨by rfl,fun w' b_=>?_⟩;obtain ⟨e0,e1,e2⟩:=ni.out w' b_;go_simp;try with_reducible rfl))
           (refine on 11 ?_;intro o ho K' hK;simp at ho;subst ho;go_simp)
           go_at_call 123
           (with_reducible refine (CE.out _).mono ?_)
           rintro en ry ⟨rfl,e⟩
           subst ry
           (refine hK.out _ _ (fun _=>cZ) ?_;clear hK K';try simp only [pQ,pN,pZ,pS])
           have lu:=cZ
           refine tk [17,18,19] lu ?_
           (intro d hd;simp [tkD] at hd;subst hd;simp only [tks,pQ,pZ,pS])
           iterate 3 (refine ⟨?_,?_,?_⟩;rotate_left;· (intro oi ho;simp at ho;subst ho;refine Or.inl ⟨by rfl,fun w' b_=>?_⟩;go_simp;try with_reducible rfl))
           refine zU (by kernel_rfl) (NoPanic.normal ?_) _
           have mF:=bz (Below.drew (bh wq.heap.size wq))
           have hom:((Option.map (fun x:Bs×Int=>x.1) (some (mi,zi))) == some fu)=(mi == fu):=rfl
           have HOM:=bz hom
           have BD:=bz aF
           have HMQ:=bz eR
           clear hom aF eR
           cases m9:((fu:Bs) == mi) with
           | false =>
             have tY:((mi:Bs) == fu)=false:=by rw [Bool.eq_false_iff] at m9 ⊢;intro h;exact m9 (by rw [beq_iff_eq] at h ⊢;exact h.symm)
             obtain rfl:fe=false:=by rw [<- F5.out,HMQ.out,BD.out,HOM.out,tY];rfl
             clear cZ ni tY
             go_wp2_with fail
             go_roundw
             case rel=>exact ⟨k+1,n2,c2,a2,dS,_,rfl,by omega,by go_num,rfl,HQ.out.1.trans (But.ofBelow (mF.out)),by rw [tG.out,HF.out,if_neg (by simp),List.append_nil];exact HQ.out.2.1.below (mF.out),HQ.out.2.2⟩
             case measure=>simp [intOf];omega
           | true =>
             have tY:((mi:Bs) == fu)=true:=by rw [beq_iff_eq] at m9 ⊢;exact m9.symm
             have HFQ:Hid ((qq || pe == (i:Int))=fe):=bz (by rw [<- F5.out,HMQ.out,BD.out,HOM.out,tY];rfl)
             obtain ⟨y0,dH⟩:=zzN (wq.drew)
             rw [dH] at mF ⊢
             have HY:=mF
             obtain ⟨⟨e0,e1⟩,Cc,cG⟩:=KEY.out wq y0 HQ.out.1 HY.out
             have CPY:=CPE.out y0 cG
             rw [HPE.out] at CPY
             have CPY:=bz CPY
             have HPY:=bz cG
             clear cZ ni dH Cc cG CPW tY
             cases qq with
             | true =>
               have hq1:((c.toNat:Int) == 113)=true:=hqe
               obtain rfl:fe=true:=by rw [<- HFQ.out];rfl
               have si:=bz (CW.out y0 HPY.out m (i:Int))
               go_wp2_with fail
               (with_reducible refine si.out.mono ?_)
               rintro en y1 ⟨mvn,ptn,rfl,c_,bi,fD⟩
               have o0:(v++[(m,(i:Int))]).length=v.length+1:=by rw [List.length_append];rfl
               obtain ⟨LU,oe⟩:=zzN (v.length+1)
               obtain ⟨a8,c8,e8⟩:=c_.1.slice
               obtain ⟨a9,c9,e9⟩:=c_.2.slice
               rw [o0,oe] at e8 e9
               subst e8;subst e9
               have H1:=bz (bj (zzT HY.out bi) (bj c_ (fun g hg=>br HY.out.size (fD g hg))))
               clear c_ bi fD o0 oe si
               go_wp2_with (at_builtin;refine zC rfl _ _ 26 rfl 33 (.agg #[.slice none 0 0,.slice none 0 0]) 2 48 Tryz.underlying26 Tryz.infoPlay rfl (by decide) (.slice a2 n2 c2) n2 (plC dS) rfl ?c1 _ 1 [.slice a8 LU c8,.slice a9 LU c9] rfl ?c2 ?c3 ?c4 ?_)
               case c1=>exact (HQ.out.2.1.below H1.out.1).own.alloc _
               case c2=>exact zM.litk #[.slice a8 LU c8,.slice a9 LU c9] rfl (by simp [Value.oneCell']) _ (by rfl)
               case c3=>unfold maxLen;omega
               case c4=>omega
               intro a7 c7 w7 dO cP ch
               have eQ:=H1.out.1.size
               have mE:=HQ.out.2.1.add (H1.out.1.alloc eQ _) (br HZ.out (br HS3.out HQ.out.1.size)) (H1.out.2.1.below ((bh _ _).alloc (bw _) _)) H1.out.2.2 dO cP (fun g hg=>by rw [zK];exact ch g hg)
               have dc:But (fun b=>b=W.heap.size) w3 w7:=(HQ.out.1.trans (But.ofBelow (H1.out.1.alloc eQ _))).trans' cP (fun g hg e=>by
                rcases HQ.out.2.2 g e with h | h
                ·exact h
                ·omega)
               have nw:∀ g,(Value.slice a7 (n2+1) c7).ownBlock=some g->g=W.heap.size\/w3.heap.size<=g:=fun g hg=>by
                have h3:=HQ.out.1.size
                rcases ch g hg with h | h
                ·exact HQ.out.2.2 g h
                ·exact .inr (by omega)
               have H7:=bz (bj dc (bj mE nw))
               clear dO cP ch mE dc nw eQ
               go_wp2_with fail
               go_roundw
               case rel=>exact ⟨k+1,n2+1,c7,a7,dS++[(.slice a8 LU c8,.slice a9 LU c9)],_,rfl,by omega,by go_num,rfl,H7.out.1,by rw [tG.out,HF.out,if_pos rfl,<- List.append_assoc];exact H7.out.2.1,H7.out.2.2⟩
               case measure=>simp [intOf];omega
             | false =>
               have hq1:((c.toNat:Int) == 113)=false:=hqe
               cases oF:(pe == (i:Int)) with
               | false =>
                 obtain rfl:fe=false:=by rw [<- HFQ.out,oF];rfl
                 go_wp2_with fail
                 (with_reducible refine CPY.out.mono ?_)
                 rintro en y1 ⟨rfl,bi⟩
                 have mJ:=bz (zzT HY.out bi)
                 clear bi CPY
                 go_wp2_with fail
                 go_roundw
                 case rel=>exact ⟨k+1,n2,c2,a2,dS,_,rfl,by omega,by go_num,rfl,HQ.out.1.trans (But.ofBelow (mJ.out)),by rw [tG.out,HF.out,if_neg (by simp),List.append_nil];exact HQ.out.2.1.below (mJ.out),HQ.out.2.2⟩
                 case measure=>simp [intOf];omega
               | true =>
                 obtain rfl:fe=true:=by rw [<- HFQ.out,oF];rfl
                 go_wp2_with fail
                 (with_reducible refine CPY.out.mono ?_)
                 rintro en oJ ⟨rfl,bi⟩
                 have h2:=(KEY.out wq oJ HQ.out.1 (zzT HY.out bi))
                 obtain ⟨⟨g0,g1⟩,_,DK⟩:=h2
                 have HPY2:=bz DK
                 have HYY:=bz (zzT HY.out bi)
                 clear bi CPY e0 e1 DK
                 have si:=bz (CW.out oJ HPY2.out m (i:Int))
                 go_wp2_with fail
                 (with_reducible refine si.out.mono ?_)
                 rintro en y1 ⟨mvn,ptn,rfl,c_,bi,fD⟩
                 have o0:(v++[(m,(i:Int))]).length=v.length+1:=by rw [List.length_append];rfl
                 obtain ⟨LU,oe⟩:=zzN (v.length+1)
                 obtain ⟨a8,c8,e8⟩:=c_.1.slice
                 obtain ⟨a9,c9,e9⟩:=c_.2.slice
                 rw [o0,oe] at e8 e9
                 subst e8;subst e9
                 have H1:=bz (bj (zzT HYY.out bi) (bj c_ (fun g hg=>br HYY.out.size (fD g hg))))
                 clear c_ bi fD o0 oe si
                 go_wp2_with (at_builtin;refine zC rfl _ _ 26 rfl 33 (.agg #[.slice none 0 0,.slice none 0 0]) 2 48 Tryz.underlying26 Tryz.infoPlay rfl (by decide) (.slice a2 n2 c2) n2 (plC dS) rfl ?c1 _ 1 [.slice a8 LU c8,.slice a9 LU c9] rfl ?c2 ?c3 ?c4 ?_)
                 case c1=>exact (HQ.out.2.1.below H1.out.1).own.alloc _
                 case c2=>exact zM.litk #[.slice a8 LU c8,.slice a9 LU c9] rfl (by simp [Value.oneCell']) _ (by rfl)
                 case c3=>unfold maxLen;omega
                 case c4=>omega
                 intro a7 c7 w7 dO cP ch
                 have eQ:=H1.out.1.size
                 have mE:=HQ.out.2.1.add (H1.out.1.alloc eQ _) (br HZ.out (br HS3.out HQ.out.1.size)) (H1.out.2.1.below ((bh _ _).alloc (bw _) _)) H1.out.2.2 dO cP (fun g hg=>by rw [zK];exact ch g hg)
                 have dc:But (fun b=>b=W.heap.size) w3 w7:=(HQ.out.1.trans (But.ofBelow (H1.out.1.alloc eQ _))).trans' cP (fun g hg e=>by
                  rcases HQ.out.2.2 g e with h | h
                  ·exact h
                  ·omega)
                 have nw:∀ g,(Value.slice a7 (n2+1) c7).ownBlock=some g->g=W.heap.size\/w3.heap.size<=g:=fun g hg=>by
                  have h3:=HQ.out.1.size
                  rcases ch g hg with h | h
                  ·exact HQ.out.2.2 g h
                  ·exact .inr (by omega)
                 have H7:=bz (bj dc (bj mE nw))
                 clear dO cP ch mE dc nw eQ
                 go_wp2_with fail
                 go_roundw
                 case rel=>exact ⟨k+1,n2+1,c7,a7,dS++[(.slice a8 LU c8,.slice a9 LU c9)],_,rfl,by omega,by go_num,rfl,H7.out.1,by rw [tG.out,HF.out,if_pos rfl,<- List.append_assoc];exact H7.out.2.1,H7.out.2.2⟩
                 case measure=>simp [intOf];omega
    ·have hktI:¬ (k:Int)<(n3:Int):=by omega
     obtain rfl:k=n3:=by omega
     have HE:=bz (show NxR W.heap.size (um t v (i+1)) a2 n2 c2 dS wq by
      have h1:=HQ.out.2.1
      rw [List.take_of_length_le (by rw [HNM.out];exact bw _)] at h1
      rw [xB];exact h1)
     go_wp2_with fail
     go_roundw
     case rel=>exact ⟨i+1,n2,c2,a2,dS,_,rfl,by omega,by go_num,rfl,HQ.out.1,HE.out,HQ.out.2.2⟩
     case measure=>simp [intOf];omega
  ·have dU:¬ (i:Int)<(v.length:Int):=by omega
   obtain rfl:i=v.length:=by omega
   have hF:Below w.heap.size w wr:=(zzT HW.out.2.2.2.1 H3.out.1).trans (HR.out.1.toBelow (by have h1:=HW.out.2.2.2.1.size;have h2:=H3.out.1.size;omega) fun j hj e=>by have:=HZ2.out;omega)
   have HF:=bz hF
   clear hF
   go_wp2_with fail
   go_ret
   rw [E.out]
   exact ⟨_,_,_,_,rfl,HF.out,HR.out.2.1.mono (by have:=HZ2.out;omega)⟩
theorem NxR.cat {B B2:Nat} {L L2:List Pl} {a a2:Option Addr} {n c n2 c2:Nat} {us dS:List (Value×Value)} {w:World} (h:NxR B L a n c us w) (h2:NxR B2 L2 a2 n2 c2 dS w) (hB:B<=B2) (FH:B<=w.heap.size) (cQ:∀ g,PlB (.slice a n c) us g->g<B2)
 {a':Option Addr} {c':Nat} {w5:World} (AB:Own w5 33 2 (.slice a' (n+n2) c') (n+n2) (plC us++plC dS)) (cz:But (fun b=>(Value.slice a n c).ownBlock=some b) w w5) (Ep:∀ g,(Value.slice a' (n+n2) c').ownBlock=some g->(Value.slice a n c).ownBlock=some g\/g=w.heap.size) :
 NxR B (L++L2) a' (n+n2) c' (us++dS) w5:=by
 have hr:=h.rd.cat h2.rd hB FH AB cz Ep
 have fg:=h.rd.ul
 refine ⟨hr.len,⟨by rw [hr.ul];exact hr.own,by rw [hr.ul,List.length_map,hr.len],fun i u x hu hx=>?_,fun i j u u' sI hu mt g=>?_⟩,hr.new⟩
 ·rw [List.getElem?_map,Option.map_eq_some_iff] at hx
  obtain ⟨l,hl,rfl⟩:=hx
  have hp:=hr.each i u l hu hl
  have lM:(plX l).1.length=l.length:=by simp [plX,qg]
  have lP:(plX l).2.length=l.length:=by simp [plX,qy]
  rw [lM,lP];exact hp
 ·rcases Nat.lt_or_ge i n with hi | hi <;> rcases Nat.lt_or_ge j n with hj | hj
  ·rw [List.getElem?_append_left (by rw [fg];exact hi)] at hu
   rw [List.getElem?_append_left (by rw [fg];exact hj)] at mt
   exact h.pls.apart i j u u' sI hu mt g
  ·rw [List.getElem?_append_left (by rw [fg];exact hi)] at hu
   rw [List.getElem?_append_right (by rw [fg];exact hj)] at mt
   have m1:=List.mem_of_getElem? hu;have m2:=List.mem_of_getElem? mt
   refine ⟨fun e e'=>?_,fun e e'=>?_⟩
   ·have h1:=cQ g (.inr ⟨u,m1,.inl e⟩);have h3:=h2.new g (.inr ⟨u',m2,.inl e'⟩);omega
   ·have h1:=cQ g (.inr ⟨u,m1,.inr e⟩);have h3:=h2.new g (.inr ⟨u',m2,.inr e'⟩);omega
  ·rw [List.getElem?_append_right (by rw [fg];exact hi)] at hu
   rw [List.getElem?_append_left (by rw [fg];exact hj)] at mt
   have m1:=List.mem_of_getElem? hu;have m2:=List.mem_of_getElem? mt
   refine ⟨fun e e'=>?_,fun e e'=>?_⟩
   ·have h1:=cQ g (.inr ⟨u',m2,.inl e'⟩);have h3:=h2.new g (.inr ⟨u,m1,.inl e⟩);omega
   ·have h1:=cQ g (.inr ⟨u',m2,.inr e'⟩);have h3:=h2.new g (.inr ⟨u,m1,.inr e⟩);omega
  ·rw [List.getElem?_append_right (by rw [fg];exact hi)] at hu
   rw [List.getElem?_append_right (by rw [fg];exact hj)] at mt
   exact h2.pls.apart _ _ u u' (by omega) hu mt g
theorem NxR.lt {B:Nat} {L:List Pl} {a:Option Addr} {n c:Nat} {us:List (Value×Value)} {w:World} (h:NxR B L a n c us w):∀ g,PlB (.slice a n c) us g->g<w.heap.size:=fun g hg=>h.pls.lt hg
theorem NxR.off {B:Nat} {L:List Pl} {a:Option Addr} {n c:Nat} {us:List (Value×Value)} {w w':World} (h:NxR B L a n c us w) {v:Value} {m:Nat} {xs:List Value} (ho:Own w 33 2 v m xs) (hb:But (fun b=>v.ownBlock=some b) w w') (hn:∀ g,(Value.slice a n c).ownBlock=some g->v.ownBlock≠some g):NxR B L a n c us w' :=
 ⟨h.len,jL.but h.pls hb fun g hg e=>by
  rcases hg with hg | ⟨u,hu,hg⟩
  ·exact hn g hg e
  ·obtain ⟨i,x,h1,h2⟩:=h.pls.mem hu
   obtain ⟨k1,k2⟩:=h.pls.each i u x h1 h2
   rcases hg with hg | hg
   ·exact k1.unlikeG ho yQ hg e
   ·exact k2.unlikeG ho x_ hg e,h.new⟩
set_option maxRecDepth 100000 in
theorem ui (s text:Bs) (n:Int) (w:World) (hs:Lim s.length) (ht:Lim text.length) :
 Calls Tryz.prog 84 #[str s,str text,.int .i64 n] w (bT (qA s text n) w):=by
 have C:=bz (yE s text hs ht w)
 clear hs ht
 go_enter Tryz.func84,Tryz.ntmps84
 go_wp2_with fail
 (with_reducible refine C.out.mono ?_)
 rintro en w1 ⟨ta,tc,s',v',a2,n2,c2,a3,n3,c3,rfl,bi,rB,rK⟩
 have l6:=bz (fun b (h:zN s text=some b)=>(qL h).1)
 have FY:=bz (fun (h:zN s text=none)=>plays_no h n)
 have n7:=bz (fun b (h:zN s text=some b) (h0:n<0\/8<n)=>plays_off h h0)
 have n6:=bz (fun b (h:zN s text=some b) (h0:¬ n<0) (h8:¬ 8<n) r k hr hk=>plays_over h h0 h8 (r:=r) (k:=k) hr hk)
 have n_:=bz (fun b (h:zN s text=some b) (h0:¬ n<0) (h8:¬ 8<n) r hr hk=>plays_done h h0 h8 (r:=r) hr hk)
 generalize hT:(zV s).1=t at *
 obtain ⟨so,Du⟩:=zzM (zN s text)
 rw [<- Du] at rK l6 FY n7 n6 n_ ⊢
 clear Du C hT
 obtain ⟨X,hX,eW,tH,x0,x1⟩:=kD w1 (.cells #[.slice ta t.args.length tc] 61) (.cells #[str s',.int .i64 v',.slice a2 n2 c2,.slice a3 n3 c3] 64)
 have BW:Below w.heap.size w X:=zzT bi eW
 have tA:Rep (fun _=>True) X (qP t) (.slice ta t.args.length tc):=(Rep.keep fun i o _ ho=>⟨trivial,by rw [eW.block i (zZ ho)];exact ho⟩).1 _ _ rB
 have tj:∀ b,so=some b->zv (fun _=>True) X (qZ b) [str s',.int .i64 v',.slice a2 n2 c2,.slice a3 n3 c3]:=fun b h=>(Rep.keep fun i o _ ho=>⟨trivial,by rw [eW.block i (zZ ho)];exact ho⟩).2 _ _ (rK b h)
 have t0:=kF x0
 obtain ⟨m0,m1,m2,m3⟩:=kK x1
 have HX:=bz (bj hX (bj BW (bj tA (bj x0 x1))))
 have HRB:=bz tj
 clear hX eW tH x0 x1 BW rB rK tA tj bi
 go_upto_region 2 with (fail)
 rw [HX.out.1]
 cases so with
 | none =>
   have E:=bz (FY.out rfl)
   clear FY HRB l6 n7 n6 n_
   go_wp2_with fail
   go_ret2
   rw [E.out]
   exact ⟨_,_,_,[],rfl,HX.out.2.1.trans (((bh _ _).alloc (bw _) _).mono HX.out.2.1.size),NxR.empty _ _ HX.out.2.1.size⟩
 | some b =>
   have fC:=l6.out b rfl
   have CI:=bz (fun (x:World)=>yD n 0 8 x)
   by_cases h0:n<0\/8<n
   ·have E:=bz (n7.out b rfl h0)
    have hd:(decide ((0:Int)<=n) && decide (n<=8))=false:=by
     rw [Bool.and_eq_false_iff,decide_eq_false_iff_not,decide_eq_false_iff_not];omega
    have HD:=bz hd
    clear FY HRB l6 n7 n6 n_ fC h0 hd
    go_wp2_with fail
    (with_reducible refine (CI.out _).mono ?_)
    rintro en y1 ⟨rfl,e⟩
    subst y1
    rw [HD.out]
    go_wp2_with fail
    go_ret2
    rw [E.out]
    exact ⟨_,_,_,[],rfl,HX.out.2.1.trans (((bh _ _).alloc (bw _) _).mono HX.out.2.1.size),NxR.empty _ _ HX.out.2.1.size⟩
   have h0':¬ n<0:=by omega
   have h8':¬ 8<n:=by omega
   obtain ⟨N,rfl⟩:∃ N:Nat,n=(N:Int):=⟨n.toNat,by omega⟩
   have hN8:N<=8:=by omega
   have hd:(decide ((0:Int)<=(N:Int)) && decide ((N:Int)<=8))=true:=by
    rw [Bool.and_eq_true,decide_eq_true_eq,decide_eq_true_eq];omega
   have HD:=bz hd
   have Af:Hid (∀ r k,r+1<=(N+1) / 2->300<(jE t b r).length+(((qI t b r).take k).flatMap (fAt t b r)).length->qA s text (N:Int)=none):=bz (fun r k h1 h2=>n6.out b rfl (by omega) (by omega) r k (by rw [Int.toNat_natCast];exact h1) h2)
   have HDN:Hid (∀ r,r=(N+1) / 2->(jE t b r).length<=300->qA s text (N:Int)=some (jE t b r)):=bz (fun r h1 h2=>n_.out b rfl (by omega) (by omega) r (by rw [Int.toNat_natCast];exact h1) h2)
   have HG:=bz fC
   have HRN:=bz (HRB.out b rfl)
   have l5:=bz (fun r (hr:r<=20) u (hu:u∈qI t b r)=>prev_in fC.atoms fC.fit fC.wf r hr u hu)
   have HLA:=bz (fun r (hr:r<=20) u (hu:u∈uJ t b r)=>gJ fC.atoms fC.fit fC.wf r hr u hu)
   clear FY HRB l6 n7 n6 n_ fC h0 h0' h8' hd
   go_wp2_with fail
   (with_reducible refine (CI.out _).mono ?_)
   rintro en y1 ⟨rfl,e⟩
   subst y1
   rw [HD.out]
   clear CI HD
   obtain ⟨Y,hY⟩:=zzN ((((X.alloc (.cells #[] 9)).alloc (.cells #[] 3)).alloc (.cells #[.slice (some ⟨X.heap.size,0,none⟩) 0 0,.slice (some ⟨X.heap.size+1,0,none⟩) 0 0] 33)).alloc (.cells #[] 33))
   have z1:=(bh X.heap.size X).alloc (bw _) (.cells #[] 9)
   have z2:=z1.alloc z1.size (.cells #[] 3)
   have z3:=z2.alloc z2.size (.cells #[.slice (some ⟨X.heap.size,0,none⟩) 0 0,.slice (some ⟨X.heap.size+1,0,none⟩) 0 0] 33)
   have z4:=z3.alloc z3.size (.cells #[] 33)
   have hO0:NxR X.heap.size (jE t b 0) (some ⟨X.heap.size+1+1,0,none⟩) 1 1 [(.slice (some ⟨X.heap.size,0,none⟩) 0 0,.slice (some ⟨X.heap.size+1,0,none⟩) 0 0)] Y:=by
    rw [<- hY]
    have p1:zE ((X.alloc (.cells #[] 9)).alloc (.cells #[] 3)) [] (.slice (some ⟨X.heap.size,0,none⟩) 0 0) (.slice (some ⟨X.heap.size+1,0,none⟩) 0 0) :=
     ⟨(Own.litAt #[] 0 _ rfl (by unfold maxLen;omega) rfl).alloc _,Own.litAt #[] 0 _ (by rw [zK]) (by unfold maxLen;omega) rfl⟩
    have:=NxR.add (NxR.nil X.heap.size X) z2 (bw _) p1 (fun g hg=>by rcases hg with hg | hg <;> simp [Value.ownBlock] at hg <;> omega) (a':=some ⟨X.heap.size+1+1,0,none⟩) (c':=1)
     (w5:=((X.alloc (.cells #[] 9)).alloc (.cells #[] 3)).alloc (.cells #[.slice (some ⟨X.heap.size,0,none⟩) 0 0,.slice (some ⟨X.heap.size+1,0,none⟩) 0 0] 33))
     (Own.litAt #[.slice (some ⟨X.heap.size,0,none⟩) 0 0,.slice (some ⟨X.heap.size+1,0,none⟩) 0 0] 1 _ (by rw [zK,zK]) (by unfold maxLen;omega) rfl)
     (But.ofBelow ((bh _ _).alloc (bw _) _)) (fun g hg=>.inr (by simp [Value.ownBlock] at hg;rw [zK,zK];omega))
    exact this.below ((bh _ _).alloc (bw _) _)
   have mU:Below X.heap.size X Y:=by rw [<- hY];exact z4
   have HY:=bz (bj hY (bj mU hO0))
   have KEY:=bz (fun (y:World) (hy:Below X.heap.size X y)=>(show y.cell? ⟨w1.heap.size,0,none⟩=some (.slice ta t.args.length tc)/\y.cell? ⟨w1.heap.size+1,0,none⟩=some (str s')/\y.cell? ⟨w1.heap.size+1,1,none⟩=some (.int .i64 v')/\y.cell? ⟨w1.heap.size+1,2,none⟩=some (.slice a2 n2 c2)/\y.cell? ⟨w1.heap.size+1,3,none⟩=some (.slice a3 n3 c3) from by
    have hk:∀ (a:Addr) (u:Value),X.cell? a=some u->y.cell? a=some u:=fun a u h=>(hy.cell (bp _ _ h)).trans h
    exact ⟨hk _ _ t0,hk _ _ m0,hk _ _ m1,hk _ _ m2,hk _ _ m3⟩))
   have CN:=bz (fun (y:World) (hy:Below X.heap.size X y) (l:Pl) (mv pt:Value) (hp:zE y l mv pt) (hl:uN t b l) (dE:l.length<60)=>l2Next_any (fun _=>True) t l (.slice ta t.args.length tc) mv pt y (Rep.below hy (fun _ h=>h) HX.out.2.2.1) ⟨(hp.mv fun _ _=>trivial).1,(hp.mv fun _ _=>trivial).2,hl.ok,vM HG.out.atoms hl.ok⟩ HG.out.atoms hl.lg dE)
   clear hY z1 z2 z3 z4 hO0 mU
   go_upto_region 6 with (fail)
   rw [HY.out.1]
   by_cases np:N=0
   ·have hNI:¬ (0:Int)<(N:Int):=by omega
    have hNI2:¬ (3:Int)<=(N:Int):=by omega
    have E:=bz (HDN.out 0 (by omega) (by show 1<=300;omega))
    clear np KEY CN Af HDN
    go_wp2_with fail
    go_loopw [11,13] (fun o x wr=>o=.slice (some ⟨X.heap.size+1+1,0,none⟩) 1 1/\x=.int .i64 3/\wr=Y) (fun _ _ _=>0)
    case atStart=>exact ⟨rfl,rfl,rfl⟩
    case round =>
     obtain ⟨rfl,rfl,rfl⟩:=hrel
     go_wp2_with fail
     go_ret2
     rw [E.out]
     exact ⟨_,_,_,_,rfl,zzT HX.out.2.1 HY.out.2.1,HY.out.2.2.mono HX.out.2.1.size⟩
   have hNI:(0:Int)<(N:Int):=by omega
   obtain ⟨gA,eA,ka1,mw⟩:=HY.out.2.2.rd.cells (i:=0) rfl
   simp only [Option.some.injEq,Addr.mk.injEq,and_true] at eA
   obtain rfl:=eA
   rw [Nat.zero_mul] at ka1 mw
   rw [Nat.zero_add] at mw
   have iM:zE Y [] (.slice (some ⟨X.heap.size,0,none⟩) 0 0) (.slice (some ⟨X.heap.size+1,0,none⟩) 0 0):=HY.out.2.2.rd.each 0 _ [] rfl rfl
   have C7:=bz (fun (y:World) (hy:Below Y.heap.size Y y)=>CN.out y (zzT HY.out.2.1 hy) [] _ _ (iM.below hy) (in_nil t b) (by simp))
   have eK:=bz (fun (y:World) (hy:Below Y.heap.size Y y)=>(show y.cell? ⟨w1.heap.size,0,none⟩=some (.slice ta t.args.length tc)/\y.cell? ⟨X.heap.size+1+1,0,none⟩=some (.slice (some ⟨X.heap.size,0,none⟩) 0 0)/\y.cell? ⟨X.heap.size+1+1,1,none⟩=some (.slice (some ⟨X.heap.size+1,0,none⟩) 0 0) from
    ⟨(KEY.out y (zzT HY.out.2.1 hy)).1,(hy.cell (bp _ _ ka1)).trans ka1,(hy.cell (bp _ _ mw)).trans mw⟩))
   clear ka1 mw iM
   go_upto_region 7 with (fail)
   refine wp_region_noPanic ?_
   refine zW (fun w'=>Below Y.heap.size Y w') (fun _=>false) (by kernel_rfl) ?_
   have cZ:(fun w'=>Below Y.heap.size Y w') Y.drew:=Below.drew (bh _ _)
   refine tk [0,1,2,3] cZ ?_
   (intro d hd;simp [tkD] at hd;subst hd;simp only [tks,pQ,pZ,pS])
   iterate 4 (refine ⟨?_,?_,?_⟩;rotate_left;· (intro oi ho;simp at ho;subst ho;refine Or.inl ⟨by rfl,fun w' b_=>?_⟩;obtain ⟨e0,e1,e2⟩:=eK.out w' b_;go_simp;try with_reducible rfl))
   (refine on 4 ?_;intro o ho K' hK;simp at ho;subst ho;go_simp)
   go_at_call 120
   (with_reducible refine (C7.out _ cZ).mono ?_)
   rintro en x4 ⟨a6,m6,c6,us6,rfl,cm,Fz⟩
   have hB4:Below Y.heap.size Y x4:=Below.trans cZ (cm.mono (Below.size cZ))
   have hN4:=Fz.mono (Below.size cZ)
   clear Fz
   (refine hK.out _ _ (fun _=>hB4) ?_;clear hK K';try simp only [pQ,pN,pZ,pS])
   have om:=hB4
   refine tk [5] om ?_
   (intro d hd;simp [tkD] at hd;subst hd;simp only [tks,pQ,pZ,pS])
   (refine ⟨?_,?_,?_⟩;rotate_left;· (intro oi ho;simp at ho;subst ho;refine Or.inl ⟨by rfl,fun w' b_=>?_⟩;go_simp;try with_reducible rfl))
   refine zU (by kernel_rfl) (NoPanic.normal ?_) _
   have Ea:m6=1:=by have:=hN4.len;rw [<- this];rfl
   have hm300:m6<=300:=by omega
   have HM6:=bz Ea
   have H7:=bz (bj hB4 hN4)
   clear Ea
   clear cZ om hB4 cm hN4 C7 eK
   go_wp2_with (at_builtin;refine zC rfl _ _ 26 rfl 33 (.agg #[.slice none 0 0,.slice none 0 0]) 2 48 Tryz.underlying26 Tryz.infoPlay rfl (by decide) (.slice (some ⟨X.heap.size+1+1,0,none⟩) 1 1) 1 (plC [(.slice (some ⟨X.heap.size,0,none⟩) 0 0,.slice (some ⟨X.heap.size+1,0,none⟩) 0 0)]) rfl ?c1 (.slice a6 m6 c6) m6 (plC us6) rfl ?c2 ?c3 ?c4 ?_)
   case c1=>exact (HY.out.2.2.below H7.out.1).own
   case c2=>exact zM.ofOwn H7.out.2.own H7.out.2.rd.one
   case c3=>unfold maxLen;omega
   case c4=>omega
   intro a7 c7 w7 dO cP ch
   have Ea:=HM6.out
   have nw:=(HY.out.2.2.below H7.out.1).cat H7.out.2 HY.out.2.1.size (br HY.out.2.1.size H7.out.1.size) HY.out.2.2.lt dO cP ch
   have aQ:∀ g,(Value.slice (some ⟨X.heap.size+1+1,0,none⟩) 1 1).ownBlock=some g->g<Y.heap.size:=fun g hg=>HY.out.2.2.lt g (.inl hg)
   have mE:=(H7.out.2.off (HY.out.2.2.below H7.out.1).own cP fun g hg e=>by have h1:=aQ g e;have h2:=H7.out.2.new g (.inl hg);omega).mono HY.out.2.1.size
   have dc:Below X.heap.size X w7:=(zzT HY.out.2.1 H7.out.1).trans (cP.toBelow (br HY.out.2.1.size H7.out.1.size) fun g hg e=>by have:=HY.out.2.2.new g (.inl e);omega)
   obtain ⟨M0,d_⟩:=zzN (1+m6)
   rw [d_] at nw ⊢
   have H0:=bz (bj dc (bj nw mE))
   have hM300:M0<=300:=by omega
   have HN1:=bz (show 1<=(N+1) / 2 by omega)
   clear dO cP ch Ea nw mE aQ dc d_ np
   go_wp2_with fail
   go_loopw [11,12,13] (fun o l x wr=>∃ (r n1 c1:Nat) (a1:Option Addr) (us1:List (Value×Value)) (m2 d2:Nat) (e2:Option Addr) (dS:List (Value×Value)) (wz:World),wz=wr/\1<=r/\r<=(N+1) / 2/\x=.int .i64 ((2*r+1:Nat):Int)/\o=.slice a1 n1 c1/\l=.slice e2 m2 d2/\n1<=300/\m2<=300/\Below X.heap.size X wz/\NxR X.heap.size (jE t b r) a1 n1 c1 us1 wz/\NxR X.heap.size (qI t b r) e2 m2 d2 dS wz) (fun _ _ x _=>40-(intOf x).toNat)
   case atStart=>exact ⟨1,M0,c7,a7,_,m6,c6,a6,_,_,rfl,bw _,HN1.out,rfl,rfl,rfl,by omega,by omega,H0.out.1,H0.out.2.1,H0.out.2.2⟩
   case round =>
    obtain ⟨r,n1,c1,a1,us1,m2,d2,e2,dS,wr,rfl,dj,hr,rfl,rfl,rfl,dX,fP,hB,hO,hP⟩:=hrel
    have HO:=bz (bj hr (bj dX (bj hB (bj hO hP))))
    have rr:r<=4:=by omega
    clear hB hO hP
    by_cases cQ:2*r+1<=N
    ·have dU:((2*r+1:Nat):Int)<=(N:Int):=by omega
     obtain ⟨Z,hZ⟩:=zzN (2*r+1)
     rw [hZ] at dU ⊢
     have HZ:=bz hZ
     have lV:=bz (show r+1<=(N+1) / 2 by omega)
     obtain ⟨V,hV,A6,hzV,xV⟩:=kV wr (.cells #[] 33)
     have hNV:=NxR.empty wr.heap.size wr (bw _)
     rw [hV] at hNV
     have HV:=bz (bj hV (bj A6 hNV))
     clear hZ hr hV A6 hzV xV hNV
     go_upto_region 13 with (fail)
     rw [HV.out.1]
     go_wp2_with fail
     go_loopw [14,15] (fun o x wr'=>∃ (j m c3:Nat) (a3:Option Addr) (CK:List (Value×Value)) (wz:World),wz=wr'/\j<=m2/\x=.int .i64 j/\o=.slice a3 m c3/\m<=j*200/\Below wr.heap.size wr wz/\NxR wr.heap.size (((qI t b r).take j).flatMap (fAt t b r)) a3 m c3 CK wz) (fun _ x _=>m2-(intOf x).toNat)
     case atStart=>exact ⟨0,0,0,_,[],_,rfl,Nat.zero_le _,rfl,rfl,by omega,HV.out.2.1,by rw [List.take_zero];exact HV.out.2.2⟩
     case round =>
      obtain ⟨j,m,q3,p3,CK,wq,rfl,hj,rfl,rfl,s9,ar,Fw⟩:=hrel
      have HQ:=bz (bj ar Fw)
      have Fx:=HO.out.2.2.2.2.below ar
      clear Fw ar
      by_cases hjt:j<m2
      ·have hjI:(j:Int)<(m2:Int):=by omega
       obtain ⟨u,l,hu,hl,cG⟩:=Fx.rd.at hjt
       obtain ⟨g,rfl,k1,k2⟩:=Fx.rd.cells hu
       obtain ⟨lv,lc,e1⟩:=cG.1.slice
       obtain ⟨lp,ld,e2⟩:=cG.2.slice
       obtain ⟨cr,hcs⟩:=l5.out r (by omega) l (List.mem_of_getElem? hl)
       have eC:l.length+1=2*r:=by rcases hcs with h | h <;> omega
       have li:=bz (flat_next hl)
       rw [e1] at k1 cG;rw [e2] at k2 cG
       obtain ⟨st,hand,dw,cd⟩:=jq HG.out.atoms HG.out.fit HG.out.wf cr.ok (l.length-1) (by omega) (by omega) (fun i hi ho=>cr.fo i (by omega) ho)
       have ae:=zzT HO.out.2.2.1 HQ.out.1
       have CRP:=bz (fun (y:World) (hy:Below wq.heap.size wq y)=>(show Calls Tryz.prog 51 #[.agg #[.slice ta t.args.length tc],.agg #[str s',.int .i64 v',.slice a2 n2 c2,.slice a3 n3 c3],.agg #[.slice lv l.length lc,.slice lp l.length ld]] y _ from
        yF (fun _=>True) t b l (l.length-1) st (.slice ta t.args.length tc) (.slice lv l.length lc) (.slice lp l.length ld) [str s',.int .i64 v',.slice a2 n2 c2,.slice a3 n3 c3] y (Rep.below (zzT ae hy) (fun _ h=>h) HX.out.2.2.1) ((Rep.keep fun i o hi ho=>⟨hi,by rw [(zzT ae hy).block i (zZ ho)];exact ho⟩).2 _ _ HRN.out)
         ⟨((cG.below hy).mv fun _ _=>trivial).1,((cG.below hy).mv fun _ _=>trivial).2,cr.ok,vM HG.out.atoms cr.ok⟩ HG.out.atoms HG.out.fit HG.out.wf (by omega) (by omega) (fun i hi ho=>cr.fo i (by omega) ho) dw))
       unfold ReplyQ at CRP
       have mQ:=bz (fun (y:World) (hy:Below wq.heap.size wq y)=>(show (y.cell? ⟨w1.heap.size,0,none⟩=some (.slice ta t.args.length tc)/\y.cell? ⟨w1.heap.size+1,0,none⟩=some (str s')/\y.cell? ⟨w1.heap.size+1,1,none⟩=some (.int .i64 v')/\y.cell? ⟨w1.heap.size+1,2,none⟩=some (.slice a2 n2 c2)/\y.cell? ⟨w1.heap.size+1,3,none⟩=some (.slice a3 n3 c3))/\y.cell? ⟨g,j*2,none⟩=some (.slice lv l.length lc)/\y.cell? ⟨g,j*2+1,none⟩=some (.slice lp l.length ld) from
        ⟨KEY.out y (zzT ae hy),(hy.cell (bp _ _ k1)).trans k1,(hy.cell (bp _ _ k2)).trans k2⟩))
       have HRA:z_ t b l l.length=qM st:=by unfold z_;rw [show l.length=l.length-1+1 from by omega,dw];rfl
       have B4:=fun x (hx:qM st=some x)=>j7 HG.out.atoms HG.out.fit HG.out.wf cr (by omega) (by omega) (HRA.trans hx)
       have HRT:Hid (qM st=none/\fAt t b r l=[]\/∃ x,qM st=some x/\fAt t b r l=vP t (l++[x])/\uN t b (l++[x])):=bz (by
        unfold fAt stepL
        rw [if_neg (by omega)]
        unfold qR
        rw [if_neg (by omega),HRA]
        cases hx:qM st with
        | none=>exact .inl ⟨rfl,rfl⟩
        | some x=>exact .inr ⟨x,rfl,rfl,B4 x hx⟩)
       have HLL:=bz (show l.length<=7 by omega)
       clear Fx hu hl cG e1 e2 cr hcs eC k1 k2 dw cd ae HRA B4
       obtain ⟨o,ho⟩:=zzN (qM st)
       rw [ho] at CRP HRT
       clear ho
       rcases HRT.out with ⟨ho,hf⟩ | ⟨xq,ho,hf,cr⟩
       ·subst ho
        have tG:=bz (show ((qI t b r).take (j+1)).flatMap (fAt t b r)=((qI t b r).take j).flatMap (fAt t b r) by rw [li.out,hf,List.append_nil])
        clear hf HRT li
        go_upto_region 16 with (fail)
        refine j9 (X:=Option Addr×Nat×Nat×Option Addr×Nat×Nat×Nat) (fun zz x=>((((((((((((zz.put (some 61) (.agg #[.slice ta t.args.length tc])).put (some 62) (.agg #[str s',.int .i64 v',.slice a2 n2 c2,.slice a3 n3 c3])).put (some 63) (.slice (some ⟨g,0,none⟩) m2 d2)).put (some 64) (.int .i64 (j:Nat))).put (some 65) (.pointer (some ⟨g,j*2,none⟩))).put (some 66) (.agg #[.slice lv l.length lc,.slice lp l.length ld])).put (some 67) (.tuple #[.agg #[.slice x.1 x.2.1 x.2.2.1,.slice x.2.2.2.1 x.2.2.2.2.1 x.2.2.2.2.2.1],.bool false])).put (some 60) (.tuple #[.agg #[.slice x.1 x.2.1 x.2.2.1,.slice x.2.2.2.1 x.2.2.2.2.1 x.2.2.2.2.2.1],.bool false])).put (some 68) (.agg #[.slice x.1 x.2.1 x.2.2.1,.slice x.2.2.2.1 x.2.2.2.2.1 x.2.2.2.2.2.1])).put (some 69) (.bool false)).put (some 16) (.pointer (some ⟨x.2.2.2.2.2.2,0,none⟩))).put (some 17) (.bool false))) (fun x w7=>Below wq.heap.size wq w7) ?_ ?_
        ·refine wp_region_noPanic ?_
         refine zW (fun w'=>Below wq.heap.size wq w') (fun _=>false) (by kernel_rfl) ?_
         obtain ⟨y0,dH⟩:=zzN (wq.drew)
         rw [dH]
         have cX:Below wq.heap.size wq y0:=by rw [<- dH];exact Below.drew (bh _ _)
         obtain ⟨fT,eG⟩:∃ x:Nat->Nat,x=fun _=>0:=⟨_,rfl⟩
         clear dH eG
         refine tk [0,1,2,3,4,5] cX ?_
         (intro d hd;simp [tkD] at hd;subst hd;simp only [tks,pQ,pZ,pS])
         iterate 6 (refine ⟨?_,?_,?_⟩;rotate_left;· (intro oi ho;simp at ho;subst ho;refine Or.inl ⟨by rfl,fun w' b_=>?_⟩;obtain ⟨⟨e0,e1,e2,e3,e4⟩,e5,e6⟩:=mQ.out w' b_;go_simp;try with_reducible rfl))
         refine kH 6 10 (by kernel_rfl) ?_ ?_
         ·(intro o6 ho K' hK;simp at ho;subst ho)
          go_simp
          go_at_call 51
          (with_reducible refine (CRP.out _ cX).mono ?_)
          rintro en y1 ⟨a8,n8,c8,a9,n9,c9,rfl,hb,du,dq⟩
          clear du
          clear dq
          have cC:Below wq.heap.size wq y1:=zzT cX hb
          have nZ:=bz hb;clear hb
          (refine hK.out _ _ (fun _=>cC) ?_;clear hK K';try simp only [pQ,pN,pZ,pS])
          refine tk [7,8,9] cC ?_
          (intro d hd;simp [tkD] at hd;subst hd;simp only [tks,pQ,pZ,pS])
          iterate 3 (refine ⟨?_,?_,?_⟩;rotate_left;· (intro oi ho;simp at ho;subst ho;refine Or.inl ⟨by rfl,fun w' b_=>?_⟩;go_simp;try with_reducible rfl))
          (refine on 10 ?_;intro o ho K' hK;simp at ho;subst ho;go_simp)
          (refine hK.out _ _ (fun _=>cC.alloc cC.size _) ?_;clear hK K';try simp only [pQ,pN,pZ,pS])
          obtain ⟨y2,be⟩:=zzN (y1.alloc (.cells #[.slice none 0 0,.slice none 0 0] 33))
          obtain ⟨gN,nP⟩:=zzN (y1.heap.size)
          rw [be,nP]
          have dZ:Below wq.heap.size wq y2:=by rw [<- be];exact cC.alloc cC.size _
          obtain ⟨mx,cV⟩:=zzN (zS fT gN 3)
          have EN:Hid (y2.heap[gN]? = some (.cells #[.slice none 0 0,.slice none 0 0] 33 (0,0))/\mx gN=3/\wq.heap.size<=gN):=by rw [<- be,<- cV,<- nP];exact ⟨zR _ _,by unfold zS;rw [if_pos rfl],cC.size⟩
          clear be nP cV
          (refine on 11 ?_;intro o ho K' hK;simp at ho;subst ho)
          obtain ⟨uN0,Bu⟩:∃ u,y2.cell? ⟨gN,0,none⟩=some u:=⟨_,by simp [World.cell?,EN.out.1];rfl⟩
          have Bq:y2.frozen? ⟨gN,0,none⟩=false:=by simp [World.frozen?,EN.out.1]
          obtain ⟨uN1,Bt⟩:∃ u,y2.cell? ⟨gN,1,none⟩=some u:=⟨_,by simp [World.cell?,EN.out.1];rfl⟩
          have Bp:y2.frozen? ⟨gN,1,none⟩=false:=by simp [World.frozen?,EN.out.1]
          go_simp
          (refine hK.out _ _ (fun _=>((dZ.setCell (p:=⟨gN,0,none⟩) EN.out.2.2 _).setCell (p:=⟨gN,1,none⟩) EN.out.2.2 _)) ?_;clear hK K';try simp only [pQ,pN,pZ,pS])
          obtain ⟨y3,be⟩:=zzN (((y2.setCell ⟨gN,0,none⟩ (.slice a8 n8 c8)).setCell ⟨gN,1,none⟩ (.slice a9 n9 c9)))
          rw [be]
          have eV:Below wq.heap.size wq y3:=by rw [<- be];exact ((dZ.setCell (p:=⟨gN,0,none⟩) EN.out.2.2 _).setCell (p:=⟨gN,1,none⟩) EN.out.2.2 _)
          have cR:But (fun i=>i=gN) y2 y3:=by rw [<- be];exact (((But.refl (fun i=>i=gN) y2).setCell (p:=⟨gN,0,none⟩) (.inl rfl) _).setCell (p:=⟨gN,1,none⟩) (.inl rfl) _)
          have cV:∀ g,g=gN->mx g=3:=fun g e=>by rw [e];exact EN.out.2.1
          have EN:Hid (y3.heap[gN]? = some (.cells #[.slice a8 n8 c8,.slice a9 n9 c9] 33 (0,0))/\mx gN=3/\wq.heap.size<=gN):=⟨by rw [<- be];exact (zQ (zQ EN.out.1)),EN.out.2⟩
          clear be cR cV Bu Bq Bt Bp
          (refine on 12 ?_;intro o ho K' hK;simp at ho;subst ho;go_simp)
          (refine hK.out _ _ (fun _=>eV) ?_;clear hK K';try simp only [pQ,pN,pZ,pS])
          refine zU (by kernel_rfl) (NoPanic.normal ?_) _
          exact ⟨rfl,⟨a8,n8,c8,a9,n9,c9,gN⟩,by rfl,eV⟩
         ·(intro o10 ho K' hK;simp at ho;subst ho)
          go_simp
          (refine hK.out _ _ (fun _=>cX.alloc cX.size _) ?_;clear hK K';try simp only [pQ,pN,pZ,pS])
          obtain ⟨y5,be⟩:=zzN (y0.alloc (.cells #[.slice none 0 0,.slice none 0 0] 33))
          obtain ⟨gN,nP⟩:=zzN (y0.heap.size)
          rw [be,nP]
          have eB:Below wq.heap.size wq y5:=by rw [<- be];exact cX.alloc cX.size _
          obtain ⟨mu,cV⟩:=zzN (zS fT gN 3)
          have EN:Hid (y5.heap[gN]? = some (.cells #[.slice none 0 0,.slice none 0 0] 33 (0,0))/\mu gN=3/\wq.heap.size<=gN):=by rw [<- be,<- cV,<- nP];exact ⟨zR _ _,by unfold zS;rw [if_pos rfl],cX.size⟩
          clear be nP cV
          (refine on 6 ?_;intro o ho K' hK;simp at ho;subst ho;go_simp)
          go_at_call 51
          (with_reducible refine (CRP.out _ eB).mono ?_)
          rintro en y6 ⟨a8,n8,c8,a9,n9,c9,rfl,hb,du,dq⟩
          clear du
          clear dq
          have dW:Below wq.heap.size wq y6:=zzT eB hb
          have EN:Hid (y6.heap[gN]? = some (.cells #[.slice none 0 0,.slice none 0 0] 33 (0,0))/\mu gN=3/\wq.heap.size<=gN):=⟨(hb.block _ (zZ EN.out.1)).trans EN.out.1,EN.out.2⟩
          have ER:=bz hb;clear hb
          (refine hK.out _ _ (fun _=>dW) ?_;clear hK K';try simp only [pQ,pN,pZ,pS])
          refine tk [7,8,9] dW ?_
          (intro d hd;simp [tkD] at hd;subst hd;simp only [tks,pQ,pZ,pS])
          iterate 3 (refine ⟨?_,?_,?_⟩;rotate_left;· (intro oi ho;simp at ho;subst ho;refine Or.inl ⟨by rfl,fun w' b_=>?_⟩;go_simp;try with_reducible rfl))
          (refine on 11 ?_;intro o ho K' hK;simp at ho;subst ho)
          obtain ⟨uN0,Bu⟩:∃ u,y6.cell? ⟨gN,0,none⟩=some u:=⟨_,by simp [World.cell?,EN.out.1];rfl⟩
          have Bq:y6.frozen? ⟨gN,0,none⟩=false:=by simp [World.frozen?,EN.out.1]
          obtain ⟨uN1,Bt⟩:∃ u,y6.cell? ⟨gN,1,none⟩=some u:=⟨_,by simp [World.cell?,EN.out.1];rfl⟩
          have Bp:y6.frozen? ⟨gN,1,none⟩=false:=by simp [World.frozen?,EN.out.1]
          go_simp
          (refine hK.out _ _ (fun _=>((dW.setCell (p:=⟨gN,0,none⟩) EN.out.2.2 _).setCell (p:=⟨gN,1,none⟩) EN.out.2.2 _)) ?_;clear hK K';try simp only [pQ,pN,pZ,pS])
          obtain ⟨y7,be⟩:=zzN (((y6.setCell ⟨gN,0,none⟩ (.slice a8 n8 c8)).setCell ⟨gN,1,none⟩ (.slice a9 n9 c9)))
          rw [be]
          have dh:Below wq.heap.size wq y7:=by rw [<- be];exact ((dW.setCell (p:=⟨gN,0,none⟩) EN.out.2.2 _).setCell (p:=⟨gN,1,none⟩) EN.out.2.2 _)
          have cR:But (fun i=>i=gN) y6 y7:=by rw [<- be];exact (((But.refl (fun i=>i=gN) y6).setCell (p:=⟨gN,0,none⟩) (.inl rfl) _).setCell (p:=⟨gN,1,none⟩) (.inl rfl) _)
          have cV:∀ g,g=gN->mu g=3:=fun g e=>by rw [e];exact EN.out.2.1
          have EN:Hid (y7.heap[gN]? = some (.cells #[.slice a8 n8 c8,.slice a9 n9 c9] 33 (0,0))/\mu gN=3/\wq.heap.size<=gN):=⟨by rw [<- be];exact (zQ (zQ EN.out.1)),EN.out.2⟩
          clear be cR cV Bu Bq Bt Bp
          (refine on 12 ?_;intro o ho K' hK;simp at ho;subst ho;go_simp)
          (refine hK.out _ _ (fun _=>dh) ?_;clear hK K';try simp only [pQ,pN,pZ,pS])
          refine zU (by kernel_rfl) (NoPanic.normal ?_) _
          exact ⟨rfl,⟨a8,n8,c8,a9,n9,c9,gN⟩,by rfl,dh⟩
        rintro ⟨a8,n8,c8,a9,n9,c9,gN⟩ w7 rL
        simp only [pQ,pN,pZ,pS]
        have H7:=bz rL
        clear rL mQ CRP
        go_wp2_with fail
        go_roundw
        case rel=>exact ⟨j+1,m,q3,p3,CK,_,rfl,by omega,by go_num,rfl,by omega,zzT HQ.out.1 H7.out,by rw [tG.out];exact HQ.out.2.below H7.out⟩
        case measure=>simp [intOf];omega
       ·subst ho
        have tG:=bz (show ((qI t b r).take (j+1)).flatMap (fAt t b r)=((qI t b r).take j).flatMap (fAt t b r)++vP t (l++[xq]) by rw [li.out,hf])
        have HINX:=bz cr
        clear hf HRT li cr
        go_upto_region 16 with (fail)
        refine j9 (X:=Option Addr×Nat×Nat×Option Addr×Nat×Nat×Nat) (fun zz x=>((((((((((((zz.put (some 61) (.agg #[.slice ta t.args.length tc])).put (some 62) (.agg #[str s',.int .i64 v',.slice a2 n2 c2,.slice a3 n3 c3])).put (some 63) (.slice (some ⟨g,0,none⟩) m2 d2)).put (some 64) (.int .i64 (j:Nat))).put (some 65) (.pointer (some ⟨g,j*2,none⟩))).put (some 66) (.agg #[.slice lv l.length lc,.slice lp l.length ld])).put (some 67) (.tuple #[.agg #[.slice x.1 x.2.1 x.2.2.1,.slice x.2.2.2.1 x.2.2.2.2.1 x.2.2.2.2.2.1],.bool true])).put (some 60) (.tuple #[.agg #[.slice x.1 x.2.1 x.2.2.1,.slice x.2.2.2.1 x.2.2.2.2.1 x.2.2.2.2.2.1],.bool true])).put (some 68) (.agg #[.slice x.1 x.2.1 x.2.2.1,.slice x.2.2.2.1 x.2.2.2.2.1 x.2.2.2.2.2.1])).put (some 69) (.bool true)).put (some 16) (.pointer (some ⟨x.2.2.2.2.2.2,0,none⟩))).put (some 17) (.bool true))) (fun x w7=>Below wq.heap.size wq w7/\w7.heap[x.2.2.2.2.2.2]? = some (.cells #[.slice x.1 x.2.1 x.2.2.1,.slice x.2.2.2.1 x.2.2.2.2.1 x.2.2.2.2.2.1] 33 (0,0))/\wq.heap.size<=x.2.2.2.2.2.2/\zE w7 (l++[xq]) (.slice x.1 x.2.1 x.2.2.1) (.slice x.2.2.2.1 x.2.2.2.2.1 x.2.2.2.2.2.1)) ?_ ?_
        ·refine wp_region_noPanic ?_
         refine zW (fun w'=>Below wq.heap.size wq w') (fun _=>false) (by kernel_rfl) ?_
         obtain ⟨y0,dH⟩:=zzN (wq.drew)
         rw [dH]
         have cX:Below wq.heap.size wq y0:=by rw [<- dH];exact Below.drew (bh _ _)
         obtain ⟨fT,eG⟩:∃ x:Nat->Nat,x=fun _=>0:=⟨_,rfl⟩
         clear dH eG
         refine tk [0,1,2,3,4,5] cX ?_
         (intro d hd;simp [tkD] at hd;subst hd;simp only [tks,pQ,pZ,pS])
         iterate 6 (refine ⟨?_,?_,?_⟩;rotate_left;· (intro oi ho;simp at ho;subst ho;refine Or.inl ⟨by rfl,fun w' b_=>?_⟩;obtain ⟨⟨e0,e1,e2,e3,e4⟩,e5,e6⟩:=mQ.out w' b_;go_simp;try with_reducible rfl))
         refine kH 6 10 (by kernel_rfl) ?_ ?_
         ·(intro o6 ho K' hK;simp at ho;subst ho)
          go_simp
          go_at_call 51
          (with_reducible refine (CRP.out _ cX).mono ?_)
          rintro en y1 ⟨a8,n8,c8,a9,n9,c9,rfl,hb,du,dq⟩
          clear du
          have CP:Hid (zE y1 (l++[xq]) (.slice a8 n8 c8) (.slice a9 n9 c9)):=(dq xq rfl).1
          clear dq
          have cC:Below wq.heap.size wq y1:=zzT cX hb
          have nZ:=bz hb;clear hb
          (refine hK.out _ _ (fun _=>cC) ?_;clear hK K';try simp only [pQ,pN,pZ,pS])
          refine tk [7,8,9] cC ?_
          (intro d hd;simp [tkD] at hd;subst hd;simp only [tks,pQ,pZ,pS])
          iterate 3 (refine ⟨?_,?_,?_⟩;rotate_left;· (intro oi ho;simp at ho;subst ho;refine Or.inl ⟨by rfl,fun w' b_=>?_⟩;go_simp;try with_reducible rfl))
          (refine on 10 ?_;intro o ho K' hK;simp at ho;subst ho;go_simp)
          (refine hK.out _ _ (fun _=>cC.alloc cC.size _) ?_;clear hK K';try simp only [pQ,pN,pZ,pS])
          obtain ⟨y2,be⟩:=zzN (y1.alloc (.cells #[.slice none 0 0,.slice none 0 0] 33))
          obtain ⟨gN,nP⟩:=zzN (y1.heap.size)
          rw [be,nP]
          have dZ:Below wq.heap.size wq y2:=by rw [<- be];exact cC.alloc cC.size _
          obtain ⟨mx,cV⟩:=zzN (zS fT gN 3)
          have CP:Hid (zE y2 (l++[xq]) (.slice a8 n8 c8) (.slice a9 n9 c9)):=by rw [<- be];exact CP.out.below ((bh _ _).alloc (bw _) _)
          have EN:Hid (y2.heap[gN]? = some (.cells #[.slice none 0 0,.slice none 0 0] 33 (0,0))/\mx gN=3/\wq.heap.size<=gN):=by rw [<- be,<- cV,<- nP];exact ⟨zR _ _,by unfold zS;rw [if_pos rfl],cC.size⟩
          clear be nP cV
          (refine on 11 ?_;intro o ho K' hK;simp at ho;subst ho)
          obtain ⟨uN0,Bu⟩:∃ u,y2.cell? ⟨gN,0,none⟩=some u:=⟨_,by simp [World.cell?,EN.out.1];rfl⟩
          have Bq:y2.frozen? ⟨gN,0,none⟩=false:=by simp [World.frozen?,EN.out.1]
          obtain ⟨uN1,Bt⟩:∃ u,y2.cell? ⟨gN,1,none⟩=some u:=⟨_,by simp [World.cell?,EN.out.1];rfl⟩
          have Bp:y2.frozen? ⟨gN,1,none⟩=false:=by simp [World.frozen?,EN.out.1]
          go_simp
          (refine hK.out _ _ (fun _=>((dZ.setCell (p:=⟨gN,0,none⟩) EN.out.2.2 _).setCell (p:=⟨gN,1,none⟩) EN.out.2.2 _)) ?_;clear hK K';try simp only [pQ,pN,pZ,pS])
          obtain ⟨y3,be⟩:=zzN (((y2.setCell ⟨gN,0,none⟩ (.slice a8 n8 c8)).setCell ⟨gN,1,none⟩ (.slice a9 n9 c9)))
          rw [be]
          have eV:Below wq.heap.size wq y3:=by rw [<- be];exact ((dZ.setCell (p:=⟨gN,0,none⟩) EN.out.2.2 _).setCell (p:=⟨gN,1,none⟩) EN.out.2.2 _)
          have cR:But (fun i=>i=gN) y2 y3:=by rw [<- be];exact (((But.refl (fun i=>i=gN) y2).setCell (p:=⟨gN,0,none⟩) (.inl rfl) _).setCell (p:=⟨gN,1,none⟩) (.inl rfl) _)
          have cV:∀ g,g=gN->mx g=3:=fun g e=>by rw [e];exact EN.out.2.1
          have CP:Hid (zE y3 (l++[xq]) (.slice a8 n8 c8) (.slice a9 n9 c9)):=CP.out.but cR (CP.out.notBox EN.out.1 (by decide) (by decide))
          have EN:Hid (y3.heap[gN]? = some (.cells #[.slice a8 n8 c8,.slice a9 n9 c9] 33 (0,0))/\mx gN=3/\wq.heap.size<=gN):=⟨by rw [<- be];exact (zQ (zQ EN.out.1)),EN.out.2⟩
          clear be cR cV Bu Bq Bt Bp
          (refine on 12 ?_;intro o ho K' hK;simp at ho;subst ho;go_simp)
          (refine hK.out _ _ (fun _=>eV) ?_;clear hK K';try simp only [pQ,pN,pZ,pS])
          refine zU (by kernel_rfl) (NoPanic.normal ?_) _
          exact ⟨rfl,⟨a8,n8,c8,a9,n9,c9,gN⟩,by rfl,eV,EN.out.1,EN.out.2.2,CP.out⟩
         ·(intro o10 ho K' hK;simp at ho;subst ho)
          go_simp
          (refine hK.out _ _ (fun _=>cX.alloc cX.size _) ?_;clear hK K';try simp only [pQ,pN,pZ,pS])
          obtain ⟨y5,be⟩:=zzN (y0.alloc (.cells #[.slice none 0 0,.slice none 0 0] 33))
          obtain ⟨gN,nP⟩:=zzN (y0.heap.size)
          rw [be,nP]
          have eB:Below wq.heap.size wq y5:=by rw [<- be];exact cX.alloc cX.size _
          obtain ⟨mu,cV⟩:=zzN (zS fT gN 3)
          have EN:Hid (y5.heap[gN]? = some (.cells #[.slice none 0 0,.slice none 0 0] 33 (0,0))/\mu gN=3/\wq.heap.size<=gN):=by rw [<- be,<- cV,<- nP];exact ⟨zR _ _,by unfold zS;rw [if_pos rfl],cX.size⟩
          clear be nP cV
          (refine on 6 ?_;intro o ho K' hK;simp at ho;subst ho;go_simp)
          go_at_call 51
          (with_reducible refine (CRP.out _ eB).mono ?_)
          rintro en y6 ⟨a8,n8,c8,a9,n9,c9,rfl,hb,du,dq⟩
          clear du
          have CP:Hid (zE y6 (l++[xq]) (.slice a8 n8 c8) (.slice a9 n9 c9)):=(dq xq rfl).1
          clear dq
          have dW:Below wq.heap.size wq y6:=zzT eB hb
          have EN:Hid (y6.heap[gN]? = some (.cells #[.slice none 0 0,.slice none 0 0] 33 (0,0))/\mu gN=3/\wq.heap.size<=gN):=⟨(hb.block _ (zZ EN.out.1)).trans EN.out.1,EN.out.2⟩
          have ER:=bz hb;clear hb
          (refine hK.out _ _ (fun _=>dW) ?_;clear hK K';try simp only [pQ,pN,pZ,pS])
          refine tk [7,8,9] dW ?_
          (intro d hd;simp [tkD] at hd;subst hd;simp only [tks,pQ,pZ,pS])
          iterate 3 (refine ⟨?_,?_,?_⟩;rotate_left;· (intro oi ho;simp at ho;subst ho;refine Or.inl ⟨by rfl,fun w' b_=>?_⟩;go_simp;try with_reducible rfl))
          (refine on 11 ?_;intro o ho K' hK;simp at ho;subst ho)
          obtain ⟨uN0,Bu⟩:∃ u,y6.cell? ⟨gN,0,none⟩=some u:=⟨_,by simp [World.cell?,EN.out.1];rfl⟩
          have Bq:y6.frozen? ⟨gN,0,none⟩=false:=by simp [World.frozen?,EN.out.1]
          obtain ⟨uN1,Bt⟩:∃ u,y6.cell? ⟨gN,1,none⟩=some u:=⟨_,by simp [World.cell?,EN.out.1];rfl⟩
          have Bp:y6.frozen? ⟨gN,1,none⟩=false:=by simp [World.frozen?,EN.out.1]
          go_simp
          (refine hK.out _ _ (fun _=>((dW.setCell (p:=⟨gN,0,none⟩) EN.out.2.2 _).setCell (p:=⟨gN,1,none⟩) EN.out.2.2 _)) ?_;clear hK K';try simp only [pQ,pN,pZ,pS])
          obtain ⟨y7,be⟩:=zzN (((y6.setCell ⟨gN,0,none⟩ (.slice a8 n8 c8)).setCell ⟨gN,1,none⟩ (.slice a9 n9 c9)))
          rw [be]
          have dh:Below wq.heap.size wq y7:=by rw [<- be];exact ((dW.setCell (p:=⟨gN,0,none⟩) EN.out.2.2 _).setCell (p:=⟨gN,1,none⟩) EN.out.2.2 _)
          have cR:But (fun i=>i=gN) y6 y7:=by rw [<- be];exact (((But.refl (fun i=>i=gN) y6).setCell (p:=⟨gN,0,none⟩) (.inl rfl) _).setCell (p:=⟨gN,1,none⟩) (.inl rfl) _)
          have cV:∀ g,g=gN->mu g=3:=fun g e=>by rw [e];exact EN.out.2.1
          have CP:Hid (zE y7 (l++[xq]) (.slice a8 n8 c8) (.slice a9 n9 c9)):=CP.out.but cR (CP.out.notBox EN.out.1 (by decide) (by decide))
          have EN:Hid (y7.heap[gN]? = some (.cells #[.slice a8 n8 c8,.slice a9 n9 c9] 33 (0,0))/\mu gN=3/\wq.heap.size<=gN):=⟨by rw [<- be];exact (zQ (zQ EN.out.1)),EN.out.2⟩
          clear be cR cV Bu Bq Bt Bp
          (refine on 12 ?_;intro o ho K' hK;simp at ho;subst ho;go_simp)
          (refine hK.out _ _ (fun _=>dh) ?_;clear hK K';try simp only [pQ,pN,pZ,pS])
          refine zU (by kernel_rfl) (NoPanic.normal ?_) _
          exact ⟨rfl,⟨a8,n8,c8,a9,n9,c9,gN⟩,by rfl,dh,EN.out.1,EN.out.2.2,CP.out⟩
        rintro ⟨a8,n8,c8,a9,n9,c9,gN⟩ w7 ⟨rL,mE,nP,Bi⟩
        dsimp only at rL mE nP Bi
        simp only [pQ,pN,pZ,pS]
        obtain ⟨z0,z1,_,_⟩:=zJ mE
        have Bm:=HO.out.2.2.1.trans ((zzT HQ.out.1 rL).mono HO.out.2.2.1.size)
        have F_:=CN.out w7 Bm (l++[xq]) _ _ Bi HINX.out (by rw [List.length_append,List.length_singleton];have:=HLL.out;omega)
        unfold PlsQ at F_
        have F_:=bz F_
        obtain ⟨tk0,_⟩:=KEY.out w7 Bm
        have H7:=bz rL
        clear rL mE nP Bi Bm mQ CRP
        go_wp2_with fail
        (with_reducible refine F_.out.mono ?_)
        rintro en w8 ⟨a6,m6,c6,us6,rfl,em,hN8⟩
        have fl:=zzT H7.out em
        have Ea:m6<=193+7:=by have h1:=nextL_len HG.out.atoms (l++[xq]);have h2:=hN8.len;have h3:=HLL.out;rw [List.length_append,List.length_singleton] at h1;omega
        have H8:=bz (bj fl hN8)
        clear em hN8 fl F_ z0 z1 tk0
        go_wp2_with (at_builtin;refine zC rfl _ _ 26 rfl 33 (.agg #[.slice none 0 0,.slice none 0 0]) 2 48 Tryz.underlying26 Tryz.infoPlay rfl (by decide) (.slice p3 m q3) m (plC CK) rfl ?c1 (.slice a6 m6 c6) m6 (plC us6) rfl ?c2 ?c3 ?c4 ?_)
        case c1=>exact (HQ.out.2.below H8.out.1).own
        case c2=>exact zM.ofOwn H8.out.2.own H8.out.2.rd.one
        case c3=>unfold maxLen;omega
        case c4=>omega
        intro a7 c7 w9 dO cP ch
        have nw:=(HQ.out.2.below H8.out.1).cat H8.out.2 (br HQ.out.1.size H7.out.size) (br HQ.out.1.size H8.out.1.size) (fun g hg=>bm (HQ.out.2.lt g hg) H7.out.size) dO cP ch
        have dc:Below wr.heap.size wr w9:=(zzT HQ.out.1 H8.out.1).trans (cP.toBelow (br HQ.out.1.size H8.out.1.size) fun g hg e=>by have:=HQ.out.2.new g (.inl e);omega)
        rw [<- tG.out] at nw
        obtain ⟨M3,hM3⟩:=zzN (m+m6)
        rw [hM3] at nw ⊢
        have H9:=bz (bj dc nw)
        have hM3b:M3<=(j+1)*200:=by omega
        clear dO cP ch nw dc hM3
        go_wp2_with fail
        go_roundw
        case rel=>exact ⟨j+1,M3,c7,a7,_,_,rfl,by omega,by go_num,rfl,hM3b,H9.out.1,H9.out.2⟩
        case measure=>simp [intOf];omega
      ·have hjI:¬ (j:Int)<(m2:Int):=by omega
       obtain rfl:j=m2:=by omega
       have hNL:((qI t b r).take j).flatMap (fAt t b r)=uJ t b r:=by rw [last_flat,List.take_of_length_le (by rw [HO.out.2.2.2.2.len];exact bw _)]
       have HKL:=bz (show (jE t b r).length=n1/\(((qI t b r).take j).flatMap (fAt t b r)).length=m from ⟨HO.out.2.2.2.1.len,HQ.out.2.len⟩)
       by_cases al:300<n1+m
       ·have h3I:(300:Int)<(n1:Int)+(m:Int):=by omega
        have E:=bz (Af.out r j lV.out (by rw [HKL.out.1,HKL.out.2];exact al))
        have hwrap:m<=60000:=by omega
        have ae:=bz (zzT HO.out.2.2.1 HQ.out.1)
        clear al hNL Fx
        go_wp2_with fail
        go_ret2
        rw [E.out]
        exact ⟨_,_,_,[],rfl,(zzT HX.out.2.1 ae.out).trans (((bh _ _).alloc (bw _) _).mono (br HX.out.2.1.size ae.out.size)),NxR.empty _ _ (br HX.out.2.1.size ae.out.size)⟩
       ·have h3I:¬ (300:Int)<(n1:Int)+(m:Int):=by omega
        rw [hNL] at HQ
        have hOq:=HO.out.2.2.2.1.below HQ.out.1
        have HK:=bz hOq
        clear Fx hOq hNL
        go_wp2_with (at_builtin;refine zC rfl _ _ 26 rfl 33 (.agg #[.slice none 0 0,.slice none 0 0]) 2 48 Tryz.underlying26 Tryz.infoPlay rfl (by decide) (.slice a1 n1 c1) n1 (plC us1) rfl ?c1 (.slice p3 m q3) m (plC CK) rfl ?c2 ?c3 ?c4 ?_)
        case c1=>exact HK.out.own
        case c2=>exact zM.ofOwn HQ.out.2.own HQ.out.2.rd.one
        case c3=>unfold maxLen;omega
        case c4=>omega
        intro a7 c7 w7 dO cP ch
        have aQ:∀ g,(Value.slice a1 n1 c1).ownBlock=some g->g<wr.heap.size:=fun g hg=>HO.out.2.2.2.1.lt g (.inl hg)
        have nw:=HK.out.cat HQ.out.2 HO.out.2.2.1.size (br HO.out.2.2.1.size HQ.out.1.size) HO.out.2.2.2.1.lt dO cP ch
        have mE:=(HQ.out.2.off HK.out.own cP fun g hg e=>by have h1:=aQ g e;have h2:=HQ.out.2.new g (.inl hg);omega).mono HO.out.2.2.1.size
        have dc:Below X.heap.size X w7:=(zzT HO.out.2.2.1 HQ.out.1).trans (cP.toBelow (br HO.out.2.2.1.size HQ.out.1.size) fun g hg e=>by have:=HK.out.new g (.inl e);omega)
        have H7:=bz (bj dc (bj nw mE))
        clear dO cP ch nw mE dc aQ al
        have hX2:IntKind.i64.wrap ((Z:Int)+2)=((2*(r+1)+1:Nat):Int):=by rw [qV _ (by omega) (by omega)];have:=HZ.out;omega
        go_wp2_with fail
        go_roundw
        case rel=>exact ⟨r+1,n1+m,c7,a7,_,m,q3,p3,_,_,rfl,by omega,lV.out,rfl,rfl,rfl,by omega,by omega,H7.out.1,H7.out.2.1,H7.out.2.2⟩
        case measure=>simp [intOf];have:=HZ.out;omega
    ·have dU:¬ ((2*r+1:Nat):Int)<=(N:Int):=by omega
     have hltI2:¬ 2*(r:Int)+1<=(N:Int):=by omega
     have E:=bz (HDN.out r (by omega) (by rw [HO.out.2.2.2.1.len];exact HO.out.2.1))
     clear cQ
     go_wp2_with fail
     go_ret2
     rw [E.out]
     exact ⟨_,_,_,_,rfl,zzT HX.out.2.1 HO.out.2.2.1,HO.out.2.2.2.1.mono HX.out.2.1.size⟩
theorem i64_xor_nat (a b:Nat) (ha:a<9223372036854775808) (hb:b<9223372036854775808):bits .xor .i64 (a:Int) (b:Int)=((a ^^^ b:Nat):Int):=by
 have hx:a ^^^ b<2 ^ 63:=Nat.xor_lt_two_pow (by omega) (by omega)
 show IntKind.i64.wrap ((BitVec.ofInt 64 (a:Int) ^^^ BitVec.ofInt 64 (b:Int)).toNat:Int)=_
 rw [BitVec.toNat_xor,ofInt_u64 a (by omega),ofInt_u64 b (by omega)]
 generalize a ^^^ b=x at *
 simp [IntKind.wrap,IntKind.bits,IntKind.signed]
 omega
def kg (w:World) (rd P:Nat):Prop :=
 ∃ (a:Option Addr) (n c p:Nat),w.heap[rd]? = some (.cells #[.slice a n c,.int .i64 (p:Nat)] 101 (0,0))/\p<=P/\n<=2000 /\
   (n=0\/∃ b o,a=some ⟨b,o,none⟩/\b<rd/\∀ k,k<n->∃ x:Nat,x<256/\w.cell? ⟨b,o+k,none⟩=some (.int .u8 x))
theorem kg.lt {w:World} {rd P:Nat} (h:kg w rd P):rd<w.heap.size:=by
 obtain ⟨a,n,c,p,h1,_⟩:=h;exact zZ h1
theorem kg.mono {w:World} {rd P Q:Nat} (h:kg w rd P) (k:P<=Q):kg w rd Q:=by
 obtain ⟨a,n,c,p,h1,h2,h3⟩:=h;exact ⟨a,n,c,p,h1,br h2 k,h3⟩
theorem kg.below {w w':World} {rd P:Nat} (h:kg w rd P) (hb:Below w.heap.size w w'):kg w' rd P:=by
 obtain ⟨a,n,c,p,h1,h2,h3,h4⟩:=h
 refine ⟨a,n,c,p,(hb.block _ (zZ h1)).trans h1,h2,h3,?_⟩
 rcases h4 with h4 | ⟨b,o,e,cE,hk⟩
 ·exact .inl h4
 ·refine .inr ⟨b,o,e,cE,fun k lC=>?_⟩
  obtain ⟨x,hx,hc⟩:=hk k lC
  exact ⟨x,hx,(hb.cell (bp w _ hc)).trans hc⟩
theorem kg.but {m:Nat->Prop} {w w':World} {rd P:Nat} (h:kg w rd P) (hb:But m w w') (hm:∀ i,i<=rd->¬ m i):kg w' rd P:=by
 obtain ⟨a,n,c,p,h1,h2,h3,h4⟩:=h
 refine ⟨a,n,c,p,(hb.block _ (zZ h1) (hm _ (bw _))).trans h1,h2,h3,?_⟩
 rcases h4 with h4 | ⟨b,o,e,cE,hk⟩
 ·exact .inl h4
 ·refine .inr ⟨b,o,e,cE,fun k lC=>?_⟩
  obtain ⟨x,hx,hc⟩:=hk k lC
  exact ⟨x,hx,(hb.cell (bp w _ hc) (hm _ (Nat.le_of_lt cE))).trans hc⟩
theorem kg.drew {w:World} {rd P:Nat} (h:kg w rd P):kg w.drew rd P:=h
theorem kg.drewN {w:World} {rd P:Nat} (h:kg w rd P) (n:Nat):kg (w.drewN n) rd P:=h
theorem kg.alloc {w:World} {rd P:Nat} (h:kg w rd P) (o:Obj):kg (w.alloc o) rd P:=h.below ((bh _ _).alloc (bw _) _)
theorem below_dN_but {m:Nat->Prop} {a w:World} (h:But m a w) (n:Nat):But m a (w.drewN n):=⟨h.os,h.tape,h.output,h.size,h.block⟩
def Picked (rd P n:Nat) (w:World) (en:Ending) (w':World):Prop :=
 ∃ v:Nat,en=.returned (.int .i64 (v:Nat))/\v<n/\But (· = rd) w w'/\kg w' rd (P+1)
theorem vG {z:Int} {n:Nat} (e:z=(n:Int)) (h:n<9223372036854775808):IntKind.i64.wrap z=(n:Int):=by rw [e];exact k_ n h
structure Mix (p m x1 x2 n:Nat) (I A B C J D E G H Q R X Y Z V:Nat):Prop where
 i:(p:Int).tmod (m:Int)=(I:Int)
 a:IntKind.i64.wrap ((x1:Int)*131)=(A:Int)
 b:IntKind.i64.wrap ((p:Int)*7)=(B:Int)
 c:IntKind.i64.wrap ((B:Int)+3)=(C:Int)
 j:(C:Int).tmod (m:Int)=(J:Int)
 d:IntKind.i64.wrap ((x2:Int)*1117)=(D:Int)
 e:IntKind.i64.wrap ((A:Int)+(D:Int))=(E:Int)
 g:IntKind.i64.wrap ((p:Int)*29)=(G:Int)
 h:IntKind.i64.wrap ((E:Int)+(G:Int))=(H:Int)
 q:(p:Int).tdiv (m:Int)=(Q:Int)
 r:IntKind.i64.wrap ((Q:Int)*53)=(R:Int)
 x:IntKind.i64.wrap ((H:Int)+(R:Int))=(X:Int)
 y:(X:Int).tdiv 64=(Y:Int)
 z:bits .xor .i64 (X:Int) (Y:Int)=(Z:Int)
 v:(Z:Int).tmod (n:Int)=(V:Int)
 vn:V<n
 wq:IntKind.i64.wrap (Q:Int)=(Q:Int)
 wy:IntKind.i64.wrap (Y:Int)=(Y:Int)
theorem mix_any (p m x1 x2 n:Nat) (hp:p<=1099511627776) (mh:x1<256) (fZ:x2<256) (hn:0<n) :
 ∃ A B D E G H Q R X Y Z V:Nat,Mix p m x1 x2 n (p % m) A B (p*7+3) ((p*7+3) % m) D E G H Q R X Y Z V:=by
 have hq:p / m<=p:=Nat.div_le_self _ _
 have hX:x1*131+x2*1117+p*29+p / m*53<9223372036854775808:=by omega
 have hY:(x1*131+x2*1117+p*29+p / m*53) / 64<9223372036854775808:=by omega
 refine ⟨x1*131,p*7,x2*1117,x1*131+x2*1117,p*29,x1*131+x2*1117+p*29,p / m,p / m*53,x1*131+x2*1117+p*29+p / m*53,(x1*131+x2*1117+p*29+p / m*53) / 64,(x1*131+x2*1117+p*29+p / m*53) ^^^ ((x1*131+x2*1117+p*29+p / m*53) / 64),((x1*131+x2*1117+p*29+p / m*53) ^^^ ((x1*131+x2*1117+p*29+p / m*53) / 64)) % n,?_⟩
 exact ⟨yK _ _,vG (by omega) (by omega),vG (by omega) (by omega),vG (by omega) (by omega),yK _ _,vG (by omega) (by omega),vG (by omega) (by omega),vG (by omega) (by omega),vG (by omega) (by omega),
  gS _ _,vG (by omega) (by omega),vG (by omega) hX,gS _ 64,i64_xor_nat _ _ hX hY,yK _ _,Nat.mod_lt _ hn,k_ _ (by omega),k_ _ hY⟩
set_option maxRecDepth 100000 in
theorem qd (rd P n:Nat) (w:World) (h:kg w rd P) (hn:0<n) (fP:n<=16777216) (hP:P<=1099511627776) :
 Calls Tryz.prog 48 #[.pointer (some ⟨rd,0,none⟩),.int .i64 (n:Nat)] w (Picked rd P n w):=by
 obtain ⟨a,m,c,p,h1,hp,hm,hcs⟩:=h
 have hpP:p<=1099511627776:=by omega
 have c0:w.cell? ⟨rd,0,none⟩=some (.slice a m c):=by simp [World.cell?,h1]
 have c1:w.cell? ⟨rd,1,none⟩=some (.int .i64 (p:Nat)):=by simp [World.cell?,h1]
 have f1:w.frozen? ⟨rd,1,none⟩=false:=by simp [World.frozen?,h1]
 have cQ:=zZ h1
 obtain ⟨W,hW⟩:=zzN (w.setCell ⟨rd,1,none⟩ (.int .i64 ((p:Int)+1)))
 have fa:W.heap[rd]? = some (.cells #[.slice a m c,.int .i64 ((p+1:Nat):Int)] 101 (0,0)):=by
  have h':w.heap[rd]=.cells #[.slice a m c,.int .i64 (p:Nat)] 101 (0,0):=by simpa [Array.getElem?_eq_getElem cQ] using h1
  rw [<- hW]
  show (w.heap.modify rd _)[rd]? = _
  rw [Array.getElem?_eq_getElem (by simpa using cQ),Array.getElem_modify_self,h']
  simp
 have dM:But (· = rd) w W:=by rw [<- hW];exact (But.refl (· = rd) _).setCell (p:=⟨rd,1,none⟩) (.inl rfl) _
 have d0:W.cell? ⟨rd,0,none⟩=some (.slice a m c):=by simp [World.cell?,fa]
 have d1:W.cell? ⟨rd,1,none⟩=some (.int .i64 ((p:Int)+1)):=by simp [World.cell?,fa]
 have fK:kg W rd (P+1):=by
  refine ⟨a,m,c,p+1,fa,by omega,hm,?_⟩
  rcases hcs with h4 | ⟨b,o,e,cE,hk⟩
  ·exact .inl h4
  ·refine .inr ⟨b,o,e,cE,fun k lC=>?_⟩
   obtain ⟨x,hx,hc⟩:=hk k lC
   exact ⟨x,hx,(dM.cell (bp w _ hc) (fun e=>Nat.ne_of_lt cE e)).trans hc⟩
 have RD:=bz fK;have BT:=bz dM
 have g0:¬ (n:Int)<1:=by omega
 have gn:((n:Int) == 0)=false:=by rw [beq_eq_false_iff_ne];omega
 have hWb:∀ (b o:Nat) (v:Value),b≠rd->w.cell? ⟨b,o,none⟩=some v->W.cell? ⟨b,o,none⟩=some v:=fun b o v cE hc =>
  (dM.cell (p:=⟨b,o,none⟩) (bp w ⟨b,o,none⟩ hc) (fun e=>cE e)).trans hc
 have WB:=bz hWb;have BC:=bz hcs;have HW:=bz hW
 clear fK dM h1 fa hWb hcs hW
 go_enter Tryz.func48,Tryz.ntmps48
 go_upto_region 2 with (fail)
 rw [HW.out]
 clear c0 c1 f1
 rcases BC.out with h0 | ⟨b,o,e,cE,hk⟩
 ·subst h0
  go_wp2_with fail
  go_ret
  exact ⟨0,rfl,hn,BT.out,RD.out⟩
 ·subst e
  have HK:=bz hk;clear hk
  by_cases Ec:m=0
  ·subst Ec
   go_wp2_with fail
   go_ret
   exact ⟨0,rfl,hn,BT.out,RD.out⟩
  have gm:((m:Int) == 0)=false:=by rw [beq_eq_false_iff_ne];omega
  by_cases hpm:p<m
  ·obtain ⟨x,hx,hc⟩:=HK.out p hpm
   have e1:=WB.out _ _ _ (Nat.ne_of_lt cE) hc
   have hpm':(p:Int)<(m:Int):=by omega
   have et:(x:Int).tmod (n:Int)=((x % n:Nat):Int):=yK _ _
   have hv:x % n<n:=Nat.mod_lt _ hn
   have HV:=bz hv;clear hv hc
   go_wp2_with fail
   go_ret
   exact ⟨x % n,rfl,HV.out,BT.out,RD.out⟩
  ·have hpm':¬ (p:Int)<(m:Int):=by omega
   obtain ⟨x1,mh,mz⟩:=HK.out (p % m) (Nat.mod_lt _ (by omega))
   obtain ⟨x2,fZ,fQ⟩:=HK.out ((p*7+3) % m) (Nat.mod_lt _ (by omega))
   have e1:=WB.out _ _ _ (Nat.ne_of_lt cE) mz
   have e2:=WB.out _ _ _ (Nat.ne_of_lt cE) fQ
   obtain ⟨A,B,D,E,G,H,Q,R,X,Y,Z,V,M⟩:=mix_any p m x1 x2 n hpP mh fZ hn
   have hI:p % m<m:=Nat.mod_lt _ (by omega)
   have hJ:(p*7+3) % m<m:=Nat.mod_lt _ (by omega)
   generalize p % m=I at *
   generalize (p*7+3) % m=J at *
   generalize p*7+3=C at *
   have hI':(I:Int)<(m:Int):=by omega
   have hJ':(J:Int)<(m:Int):=by omega
   have q1:=M.i;have q2:=M.a;have q3:=M.b;have q4:=M.c;have q5:=M.j;have q6:=M.d;have q7:=M.e;have q8:=M.g;have q9:=M.h
   have q10:=M.q;have q11:=M.r;have q12:=M.x;have q13:=M.y;have q14:=M.z;have q15:=M.v;have q16:=M.wq;have q17:=M.wy
   have MV:=bz M.vn
   clear mz fQ M
   go_wp2_with fail
   go_quiet (fail)
   go_wp2_with fail
   go_ret
   exact ⟨V,rfl,MV.out,below_dN_but BT.out _,RD.out.drewN _⟩
def ut (w:World) (rd:Nat) (l:Value) (xs:List Bs):Prop :=
 ∃ b o c,l=.slice (some ⟨b,o,none⟩) xs.length c/\b≠rd/\∀ (k:Nat) (s:Bs),xs[k]? = some s->w.cell? ⟨b,o+k,none⟩=some (str s)
theorem ut.new {w:World} {rd:Nat} (fK:rd<w.heap.size) (xs:List Bs) (n:Nat) (hn:n=xs.length) (e:TypeId):ut (w.alloc (.cells (xs.map str).toArray e)) rd (.slice (some ⟨w.heap.size,0,none⟩) n n) xs:=by
 subst hn
 refine ⟨w.heap.size,0,_,rfl,by omega,fun k s hs=>?_⟩
 rw [Nat.zero_add]
 simp only [World.cell?,zR]
 simp [hs]
def Took (rd P:Nat) (xs:List Bs) (w:World) (en:Ending) (w':World):Prop :=
 ∃ s∈xs,en=.returned (str s)/\But (· = rd) w w'/\kg w' rd P
theorem wh (rd P:Nat) (l:Value) (xs:List Bs) (w:World) (h:kg w rd P) (hl:ut w rd l xs) (hx:0<xs.length) (fZ:xs.length<=16777216) (hP:P<=1099511627776) :
 Calls Tryz.prog 72 #[.pointer (some ⟨rd,0,none⟩),l] w (Took rd (P+1) xs w):=by
 obtain ⟨b,o,c,rfl,cE,hk⟩:=hl
 have HK:=bz hk;clear hk
 go_enter Tryz.func72,Tryz.ntmps72
 go_wp2_with fail
 refine (qd rd P xs.length w h hx fZ hP).mono ?_
 rintro en w1 ⟨v,rfl,hv,hb,hr⟩
 obtain ⟨s,hs⟩:∃ s,xs[v]? = some s:=⟨xs[v],by simp [hv]⟩
 have hc:=HK.out v s hs
 have mz:w1.cell? ⟨b,o+v,none⟩=some (str s):=(hb.cell (p:=⟨b,o+v,none⟩) (bp w ⟨b,o+v,none⟩ hc) (fun e=>cE e)).trans hc
 have mr:(v:Int)<(xs.length:Int):=by omega
 have HM:=bz (List.mem_of_getElem? hs)
 clear hs hc
 go_wp2_with fail
 go_ret
 exact ⟨s,HM.out,rfl,hb,hr⟩
def jX:List Bs:=[[98],[40,62,32,98,32,98,41],[40,62,32,98,32,40,62,32,98,32,98,41,41],[40,62,32,40,62,32,98,32,98,41,32,98,41],[40,62,32,40,62,32,98,32,98,41,32,40,62,32,98,32,98,41,41],[40,62,32,40,62,32,40,62,32,98,32,98,41,32,98,41,32,98,41],[40,62,32,40,62,32,98,32,40,62,32,98,32,98,41,41,32,98,41],[40,62,32,98,32,40,62,32,40,62,32,98,32,98,41,32,98,41,41]]
def yW:List Bs:=[[],[99],[40,62,32,98,41],[40,62,32,32,98,32,98,41],[40,62,32,98,32,98,32,98,41],[98,32],[40,62,32,40,62,32,40,62,32,40,62,32,98,32,98,41,32,40,62,32,98,32,98,41,41,32,40,62,32,98,32,98,41,41,32,40,62,32,98,32,40,62,32,98,32,98,41,41,41]]
def yA:List Bs:=[[],[120],[40,48,32,116,41],[40,57,32,116,32,102,41],[40,48,32,32,116,32,102,41],[40,48,48,32,116,32,102,41],[117,32],[40,48,32,116,32,102,32,116,32,102,41]]
def ki:List Bs:=[[116],[102],[116],[102],[117]]
set_option maxRecDepth 100000 in
theorem v5 (rd P:Nat) (w:World) (h:kg w rd P) (hP:P<=1099511627776) :
 Calls Tryz.prog 56 #[.pointer (some ⟨rd,0,none⟩)] w (Took rd (P+1) jX w):=by
 have cQ:=h.lt
 go_enter Tryz.func56,Tryz.ntmps56
 go_wp2_with fail
 refine (wh rd P _ jX _ (h.alloc _) (ut.new cQ jX 8 rfl _) (by decide) (by decide) hP).mono ?_
 rintro en w1 ⟨s,hs,rfl,hb,hr⟩
 have HM:=bz hs;clear hs
 go_wp2_with fail
 go_ret
 exact ⟨s,HM.out,rfl,((But.refl _ w).alloc _).trans hb,hr⟩
set_option maxRecDepth 100000 in
theorem l91Odd_any (rd P:Nat) (w:World) (h:kg w rd P) (hP:P+1<=1099511627776) :
 Calls Tryz.prog 71 #[.pointer (some ⟨rd,0,none⟩)] w (Took rd (P+2) (jX++yW) w):=by
 go_enter Tryz.func71,Tryz.ntmps71
 go_wp2_with fail
 refine (qd rd P 12 w h (by omega) (by omega) (by omega)).mono ?_
 rintro en w1 ⟨v,rfl,hv,bi,dj⟩
 have cQ:=dj.lt
 by_cases nE:v=0
 ·subst nE
  go_wp2_with fail
  refine (wh rd (P+1) _ yW _ (dj.alloc _) (ut.new cQ yW 7 rfl _) (by decide) (by decide) hP).mono ?_
  rintro en w2 ⟨s,hs,rfl,hb,hr⟩
  have HM:=bz hs;clear hs
  go_wp2_with fail
  go_ret
  exact ⟨s,List.mem_append_right _ HM.out,rfl,(bi.alloc _).trans hb,hr⟩
 ·have mX:((v:Int) == 0)=false:=by rw [beq_eq_false_iff_ne];omega
  go_wp2_with fail
  refine (v5 rd (P+1) w1 dj hP).mono ?_
  rintro en w2 ⟨s,hs,rfl,hb,hr⟩
  have HM:=bz hs;clear hs
  go_wp2_with fail
  go_ret
  exact ⟨s,List.mem_append_left _ HM.out,rfl,bi.trans hb,hr⟩
end Go.Proofs.YtfedjhgaeikjmaaGreatDoor

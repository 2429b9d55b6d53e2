/- Walks of functions that the statement reaches, and plain words. No conditions. -/
import Derived.Laws.DeepNot64
import Derived.Test.YtfedjhgaeikjmaaGreatDoorQ10
set_option linter.unusedVariables false
set_option linter.unusedSimpArgs false
set_option maxHeartbeats 16000000
namespace Go.Proofs.YtfedjhgaeikjmaaGreatDoor
open Go.RowKit
theorem NxR.empty (B:Nat) (w:World) (hB:B<=w.heap.size):NxR B [] (some ⟨w.heap.size,0,none⟩) 0 0 [] (w.alloc (.cells #[] 33)):=by
 refine ⟨rfl,⟨Own.lit #[] 0 (by unfold maxLen;omega) rfl,rfl,fun i u x h=>by simp at h,fun i j u u' _ h=>by simp at h⟩,fun g hg=>?_⟩
 rcases hg with hg | ⟨u,hu,_⟩
 ·simp [Value.ownBlock] at hg;omega
 ·simp at hu
theorem rowL_off {t:Ty} {v:Pl} {i:Nat} {ms:List Bs} (h:∀ m∈ms,yU t v m i=false):wW t v i ms=[]:=by
 unfold wW
 rw [List.filterMap_eq_nil_iff]
 intro m hm
 rw [h m hm];rfl
theorem has_eq (v:Pl) (o:Bool) (n i:Nat):((kW v o n).map fun n=>((n:Nat):Int)).contains (i:Int)=(kW v o n).contains i:=by
 rw [Bool.eq_iff_iff,List.contains_iff_mem,List.contains_iff_mem,List.mem_map]
 exact ⟨fun ⟨a,h1,h2⟩=>by obtain rfl:a=i:=by omega
                          exact h1,fun h=>⟨i,h,rfl⟩⟩
theorem who_mod (n:Nat):(n:Int) % 2=((pX (decide (n % 2=0)):Nat):Int):=by
 rcases Nat.mod_two_eq_zero_or_one n with h | h
 ·rw [decide_eq_true h];unfold pX;simp;omega
 ·rw [decide_eq_false (by omega)];unfold pX;simp;omega
set_option maxRecDepth 100000 in
theorem l2Next_nil (t:Ty) (tv:Value) (c1 c2:Nat) (a1 a2:Option Addr) (w:World) (ha:zR 1 (.slice a1 0 c1) 0 [] w) (hb:zR 1 (.slice a2 0 c2) 0 [] w) (ht:∃ b n c,tv=.slice b n c) :
 Calls Tryz.prog 120 #[.agg #[tv],.agg #[.slice a1 0 c1,.slice a2 0 c2]] w (PlsQ (j7 t []) w):=by
 obtain ⟨tb,tn,tc,rfl⟩:=ht
 obtain ⟨W,hW,bM,hz,b0,b1⟩:=kH w (.cells #[.slice tb tn tc] 61) (.cells #[.slice a1 0 c1,.slice a2 0 c2] 33)
 obtain ⟨W1,sE,ez,dO,b2⟩:=kJ W (.cells #[] 33)
 have Bt:=(ez.block _ (zZ b1)).trans b1
 obtain ⟨d0,d1,_,_⟩:=zJ Bt
 have mX:=zzT bM ez
 have CW:=bU (xk [] (.slice a1 0 c1) (.slice a2 0 c2) [113] (-1) W1 (ha.below mX) (hb.below mX) (Nat.zero_le _))
 have HN:=NxR.empty w.heap.size W bM.size
 rw [sE] at HN
 have H:=bU (bY hW (bY sE (bY mX HN)))
 clear hW bM hz b0 b1 sE ez dO b2 Bt mX ha hb HN
 go_enter Tryz.func120,Tryz.ntmps120
 go_upto_region 1 with (fail)
 rw [H.out.1]
 go_upto_region 2 with (fail)
 rw [H.out.2.1]
 go_wp2_with fail
 (with_reducible refine CW.out.mono ?_)
 rintro en y1 ⟨mvn,ptn,rfl,cR,bE,eI⟩
 obtain ⟨a8,c8,e8⟩:=cR.1.slice
 obtain ⟨a9,c9,e9⟩:=cR.2.slice
 change mvn=.slice a8 1 c8 at e8
 change ptn=.slice a9 1 c9 at e9
 subst e8;subst e9
 have H1:=bU (bY bE (bY cR eI))
 clear cR bE eI CW
 go_wp2_with (at_builtin;refine zB rfl _ _ 26 rfl 33 (.agg #[.slice none 0 0,.slice none 0 0]) 2 48 Tryz.underlying26 Tryz.infoPlay rfl (by decide) (.slice (some ⟨W.heap.size,0,none⟩) 0 0) 0 (plC []) rfl ?c1 _ 1 [.slice a8 1 c8,.slice a9 1 c9] rfl ?c2 ?c3 ?c4 ?_)
 case c1=>exact (H.out.2.2.2.below H1.out.1).own.alloc _
 case c2=>exact zR.litk #[.slice a8 1 c8,.slice a9 1 c9] rfl (by simp [Value.oneCell']) _ (by rfl)
 case c3=>unfold maxLen;omega
 case c4=>omega
 intro a7 c7 w7 dD bh cU
 have dO:=H1.out.1.size
 have fO:=H.out.2.2.2.add (H1.out.1.alloc dO _) H.out.2.2.1.size (H1.out.2.1.below ((bP _ _).alloc (bX _) _)) H1.out.2.2 dD bh (fun g hg=>by rw [zQ];exact cU g hg)
 have dK:Below w.heap.size w w7:=(H.out.2.2.1.trans ((H1.out.1.alloc dO _).mono H.out.2.2.1.size)).trans (bh.toBelow (by rw [zQ];have:=H.out.2.2.1.size;omega) fun g hg e=>by have:=H.out.2.2.2.new g (.inl e);omega)
 have HF:=bU (bY dK fO)
 clear dD bh cU dO fO dK
 go_wp2_with fail
 go_ret
 exact ⟨_,_,_,_,rfl,HF.out.1,HF.out.2⟩
set_option maxRecDepth 100000 in
theorem l2Next_any (F:Nat->Prop) (t:Ty) (v:Pl) (tv mv pt:Value) (w:World) (hk:Rep F w (qZ t) tv) (hm:vU F t v mv pt w) (bL:zW t<=15) (dF:qd v=true) (bI:v.length<60) :
 Calls Tryz.prog 120 #[.agg #[tv],.agg #[mv,pt]] w (PlsQ (j7 t v) w):=by
 obtain ⟨tb,tc,rfl⟩:=zu hk
 obtain ⟨ma,mc,rfl⟩:=hm.m.src.slice
 obtain ⟨pa,pc,rfl⟩:=hm.p.src.slice
 by_cases h0:v.length=0
 ·obtain rfl:=List.eq_nil_of_length_eq_zero h0
  exact l2Next_nil t _ _ _ _ _ w hm.m.src hm.p.src ⟨_,_,_,rfl⟩
 have iw:¬ (v.length:Int)=0:=by omega
 have h0B:((v.length:Int) == 0)=false:=by simpa using iw
 have hkB:Rep (· < w.heap.size) w (qZ t) (.slice tb t.args.length tc):=(Rep.keep fun b o _ ho=>⟨zZ ho,ho⟩).1 _ _ hk
 have hmB:vU (· < w.heap.size) t v (.slice ma v.length mc) (.slice pa v.length pc) w:=⟨(Rep.keep fun b o _ ho=>⟨zZ ho,ho⟩).1 _ _ hm.m,(Rep.keep fun b o _ ho=>⟨zZ ho,ho⟩).1 _ _ hm.p,hm.ok,hm.l⟩
 obtain ⟨W,hW,bM,hz,b0,b1⟩:=kH w (.cells #[.slice tb t.args.length tc] 61) (.cells #[.slice ma v.length mc,.slice pa v.length pc] 33)
 obtain ⟨W1,sE,ez,dO,b2⟩:=kJ W (.cells #[] 33)
 have E:=bU (show j7 t v=uO t v v.length by unfold j7;rw [if_neg h0])
 have FIT:=bU (fun m (hm':jH t m=true) i (hi:i<v.length)=>fits_eq hm.ok dF (by omega) bI hm' hi)
 have mX:=zzT bM ez
 have CV:=bU (yi (· < w.heap.size) t v (decide (v.length % 2=0)) v.length (.slice ma v.length mc) (.slice pa v.length pc) W1 (hmB.below mX).m (hmB.below mX).p hm.ok (by omega) (bX _) hm.l)
 have nZ:=NxR.empty W.heap.size W (bX _)
 rw [sE] at nZ
 have b0':=(ez.block _ (zZ b0)).trans b0
 have Bt:=(ez.block _ (zZ b1)).trans b1
 have c0:=kP b0'
 obtain ⟨d0,d1,_,_⟩:=zJ Bt
 have mG:W.heap.size=w.heap.size+2:=hz
 obtain ⟨o,ho⟩:∃ o,decide (v.length % 2=0)=o:=⟨_,rfl⟩
 have hwm:=who_mod v.length
 rw [ho] at hwm CV
 have hwt:(v.length:Int).tmod 2=((pX o:Nat):Int):=by rw [Int.tmod_eq_emod_of_nonneg (by omega)];exact hwm
 have FIT2:Hid (∀ m,jH t m=true->∀ i,i<v.length->yU t v m i=(((kW v o v.length).contains i && (!(m == [113]) && (kC m == o) && ((v[i]?).map (·.1) == some (qe m)))) && (isQ m || kL v v.length [] == (i:Int)))):=bU (fun m h i hi=>by rw [FIT.out m h i hi];unfold fitsS;rw [ho])
 have HW:=bU (bY hW (bY sE (bY bM (bY mX (bY b0' (bY Bt (bY b2 nZ)))))))
 have HM:=bU (bY hkB (bY hmB (bY bL (bY hm.ok hm.l))))
 have HZ:=bU (show W.heap.size<=W1.heap.size from ez.size)
 have HZ2:=bU mG
 have HMV:=bU (fun j m (h:(kU t [])[j]? = some m)=>yr bL (List.mem_of_getElem? h))
 have HMV2:=bU (fun m (h:m∈kU t [])=>(yr bL h).1)
 have H24:=bU (bY (xA bL []) (fun i=>wD bL v i))
 have mS:=bI
 clear hW bM hz b0 b1 sE ez dO b2 b0' Bt mX hk hm hkB hmB bL dF ho mG nZ FIT bI
 go_enter Tryz.func120,Tryz.ntmps120
 go_upto_region 1 with (fail)
 rw [HW.out.1]
 go_upto_region 2 with (fail)
 rw [HW.out.2.1]
 go_wp2_with fail
 (with_reducible refine CV.out.mono ?_)
 rintro en w2 ⟨xv,rfl,bN,nR⟩
 obtain ⟨vb,vo,vc,rfl,hvb,sO⟩:=nR
 have hvp:0<(kW v o v.length).length:=viewP_pos v o (by omega)
 have hvG:¬ vb=W.heap.size:=fun e=>by
  have h1:=sO 0 _ (List.getElem?_eq_getElem hvp)
  have h2:=(bN.block _ (zZ HW.out.2.2.2.2.2.2.1)).trans HW.out.2.2.2.2.2.2.1
  rw [e] at h1
  simp [World.cell?,h2] at h1
 obtain ⟨nv,hnv⟩:=zzN ((kW v o v.length).length)
 have Bh:=(bN.cell (bW _ _ c0)).trans c0
 have nw:=(bN.cell (bW _ _ d0)).trans d0
 have hd1:=(bN.cell (bW _ _ d1)).trans d1
 have rW:=HW.out.2.2.2.1.size
 have eo:Below w2.heap.size w2 (w2.alloc (.cells #[] 9)):=(bP _ _).alloc (bX _) _
 have A_:Rep (· < w.heap.size) (w2.alloc (.cells #[] 9)) (qZ t) (.slice tb t.args.length tc):=(HM.out.1.below (HW.out.2.2.2.1.trans (bN.mono rW)) fun _ h=>h).below eo fun _ h=>h
 have CM:=bU (wo w.heap.size 15 t [] (.slice tb t.args.length tc) [] (some ⟨w2.heap.size,0,none⟩) 0 0 (w2.alloc (.cells #[] 9)) HM.out.2.2.1 (bX _) (by simp) (by omega) (by rw [zQ];have:=bN.size;omega) A_ (Own.lit #[] 0 (by unfold maxLen;omega) rfl) (fun g hg=>by simp [Value.ownBlock] at hg;have:=bN.size;omega))
 unfold MovQ at CM
 obtain ⟨nm,sW⟩:=zzN ((kU t []).length)
 rw [sW] at CM
 have H2:=bU (bY bN (bY hvb (bY sO (bY hvG eo))))
 have HNV:=bU hnv
 have HNM:=bU sW
 have Cx:nm<=24:=by rw [<- sW];exact H24.out.1
 rw [hnv]
 clear bN hvb sO hvG hvp hnv rW eo A_ sW c0 d0 d1 CV
 go_wp2_with fail
 (with_reducible refine CM.out.mono ?_)
 rintro en w3 ⟨a3,n3,c3,rfl,aG,bp,oI,Dr⟩
 obtain rfl:n3=nm:=by omega
 have fH:Below w2.heap.size w2 w3:=H2.out.2.2.2.2.trans (bp.toBelow (by rw [zQ];omega) fun g hg e=>by simp [Value.ownBlock] at e;omega)
 have CZ:∀ g,(Value.slice a3 n3 c3).ownBlock=some g->w2.heap.size<=g:=fun g hg=>by
  rcases Dr g hg with h | h
  ·simp [Value.ownBlock] at h;omega
  ·rw [zQ] at h;omega
 have aU:=(fH.cell (bW _ _ Bh)).trans Bh
 have ft:=(fH.cell (bW _ _ nw)).trans nw
 have eP:=(fH.cell (bW _ _ hd1)).trans hd1
 have fA:Below W1.heap.size W1 w3:=zzT H2.out.1 fH
 have fx:Own w3 9 1 (.slice a3 n3 c3) n3 ((kU t []).map str):=by rw [List.nil_append] at oI;exact oI
 have HS3:=bU fA.size
 have H3:=bU (bY fA (bY fx (bY CZ (bY (HW.out.2.2.2.2.2.2.2.below fA) fH))))
 have KEY:=bU (fun (y z:World) (hy:But (fun b=>b=W.heap.size) w3 y) (hz:Below y.heap.size y z)=>(show (z.cell? ⟨w.heap.size+1,0,none⟩=some (.slice ma v.length mc)/\z.cell? ⟨w.heap.size+1,1,none⟩=some (.slice pa v.length pc))/\IntAt z ((kW v o v.length).map fun n=>((n:Nat):Int)) (.slice (some ⟨vb,vo,none⟩) nv vc)/\vU (· < w.heap.size) t v (.slice ma v.length mc) (.slice pa v.length pc) z from by
  have hzz:=HZ2.out
  have kx:∀ (a:Addr) (u:Value),w3.cell? a=some u->¬ a.block=W.heap.size->z.cell? a=some u:=fun a u h bm=>by
   have h1:=(hy.cell (bW _ _ h) bm).trans h
   exact (hz.cell (bW _ _ h1)).trans h1
  have D2:Below w.heap.size w z:=(zzT HW.out.2.2.2.1 H3.out.1).trans ((hy.trans (But.ofBelow hz)).toBelow (by have h1:=HW.out.2.2.2.1.size;have h2:=H3.out.1.size;omega) fun i hi e=>by omega)
  refine ⟨⟨kx _ _ ft (by show ¬ w.heap.size+1=_;omega),kx _ _ eP (by show ¬ w.heap.size+1=_;omega)⟩,uu.ints ?_,?_⟩
  ·refine ⟨vb,vo,vc,by rw [HNV.out],?_,fun i n hi=>?_⟩
   ·have h1:=H2.out.2.1;have h2:=H3.out.2.2.2.2.size;have h3:=hy.size;have h4:=hz.size;omega
   ·have h1:=H2.out.2.2.1 i n hi
    exact kx _ _ ((H3.out.2.2.2.2.cell (bW _ _ h1)).trans h1) (by show ¬ vb=_;exact H2.out.2.2.2.1)
  ·exact ⟨HM.out.2.1.m.below D2 fun _ h=>h,HM.out.2.1.p.below D2 fun _ h=>h,HM.out.2.2.2.1,HM.out.2.2.2.2⟩))
 have OWNM:=bU (fun (y:World) (hy:But (fun b=>b=W.heap.size) w3 y)=>(H3.out.2.1.keep (w':=y) fun g o hg ho=>by
  have h1:=H3.out.2.2.1 g hg
  have h2:=H2.out.1.size
  have h3:=HZ.out
  have h4:W.heap.size<W1.heap.size:=by have:=HW.out.2.2.2.2.2.2.1;exact zZ this
  rw [hy.block g (zZ ho) (by omega)];exact ho))
 have CHAS:=bU (fun (z:World) (i:Nat) (h:IntAt z ((kW v o v.length).map fun n=>((n:Nat):Int)) (.slice (some ⟨vb,vo,none⟩) nv vc))=>wM _ (i:Int) _ z h (by rw [List.length_map];have:=wQ v o v.length;omega))
 have CW:=bU (fun (z:World) (h:vU (· < w.heap.size) t v (.slice ma v.length mc) (.slice pa v.length pc) z) (m:Bs) (q:Int)=>xk v (.slice ma v.length mc) (.slice pa v.length pc) m q z h.m.src h.p.src (by omega))
 have CPE:=bU (fun (z:World) (h:vU (· < w.heap.size) t v (.slice ma v.length mc) (.slice pa v.length pc) z)=>yw (· < w.heap.size) t v v.length (.slice ma v.length mc) (.slice pa v.length pc) z h.m h.p h.ok (bX _) h.l)
 clear bp oI Dr fH CZ aU ft eP fA fx CM Bh nw hd1 aG
 go_wp2_with fail
 go_loopw [5,9] (fun o x wr=>∃ (i n' c':Nat) (a':Option Addr) (us:List (Value×Value)) (wz:World),wz=wr/\i<=v.length/\x=.int .i64 i/\o=.slice a' n' c'/\But (fun b=>b=W.heap.size) w3 wz/\NxR W.heap.size (uO t v i) a' n' c' us wz/\∀ g,(Value.slice a' n' c').ownBlock=some g->g=W.heap.size\/w3.heap.size<=g) (fun _ x _=>v.length-(intOf x).toNat)
 case atStart=>exact ⟨0,0,0,_,[],_,rfl,Nat.zero_le _,rfl,rfl,But.refl _ _,H3.out.2.2.2.1,fun g hg=>.inl (by simp [Value.ownBlock] at hg;exact hg.symm)⟩
 case round =>
  obtain ⟨i,n',c',a',us,wr,rfl,hi,rfl,rfl,hB,hN,hR⟩:=hrel
  have HR:=bU (bY hB (bY hN hR))
  clear hB hN hR
  by_cases bA:i<v.length
  ·have cT:(i:Int)<(v.length:Int):=by omega
   obtain ⟨⟨mi,zi⟩,sU⟩:∃ x,v[i]? = some x:=⟨_,List.getElem?_eq_getElem bA⟩
   have HVI:=bU sU
   have FITI:=bU (fun m (h:jH t m=true)=>FIT2.out m h i bA)
   clear sU
   go_wp2_with fail
   go_loopw [5,10] (fun o x wr'=>∃ (k n2 c2:Nat) (a2:Option Addr) (co:List (Value×Value)) (wz:World),wz=wr'/\k<=n3/\x=.int .i64 k/\o=.slice a2 n2 c2/\But (fun b=>b=W.heap.size) w3 wz/\NxR W.heap.size (uO t v i++wW t v i ((kU t []).take k)) a2 n2 c2 co wz/\∀ g,(Value.slice a2 n2 c2).ownBlock=some g->g=W.heap.size\/w3.heap.size<=g) (fun _ x _=>n3-(intOf x).toNat)
   case atStart=>exact ⟨0,n',c',a',us,_,rfl,Nat.zero_le _,rfl,rfl,HR.out.1,by rw [List.take_zero,rowL_nil,List.append_nil];exact HR.out.2.1,HR.out.2.2⟩
   case round =>
    obtain ⟨k,n2,c2,a2,co,wq,rfl,hk,rfl,rfl,tO,Bo,Ek⟩:=hrel
    have HQ:=bU (bY tO (bY Bo Ek))
    clear tO Bo Ek
    by_cases hkt:k<n3
    ·have hktI:(k:Int)<(n3:Int):=by omega
     obtain ⟨⟨e0,e1⟩,Bb,bw⟩:=KEY.out wq wq HQ.out.1 (bP _ _)
     have aK:=CHAS.out wq i Bb
     have hhe:=has_eq v o v.length i
     rw [hhe] at aK
     have tr:=bU bw
     clear Bb bw hhe
     cases hh:(kW v o v.length).contains i with
     | false =>
       rw [hh] at aK
       have aK:=bU aK
       have nP:=bU (fun ms (h:∀ m∈ms,m∈kU t [])=>rowL_off (t:=t) (v:=v) (i:=i) (ms:=ms) fun m hm=>by rw [FITI.out m (HMV2.out m (h m hm)),hh];rfl)
       clear hh e0 e1
       go_wp2_with fail
       (with_reducible refine aK.out.mono ?_)
       rintro en y0 ⟨rfl,e⟩
       subst y0
       have HE:=bU (show NxR W.heap.size (uO t v (i+1)) a2 n2 c2 co wq by
        have h1:=HQ.out.2.1
        rw [nP.out _ (fun m hm=>List.mem_of_mem_take hm),List.append_nil] at h1
        rw [ym,nP.out _ (fun m hm=>hm),List.append_nil];exact h1)
       clear aK
       go_wp2_with fail
       go_roundw
       case rel=>exact ⟨i+1,n2,c2,a2,co,_,rfl,by omega,by go_num,rfl,HQ.out.1,HE.out,HQ.out.2.2⟩
       case measure=>simp [intOf];omega
     | true =>
       rw [hh] at aK
       have aK:=bU aK
       obtain ⟨m,hm⟩:∃ m,(kU t [])[k]? = some m:=⟨_,List.getElem?_eq_getElem (by rw [HNM.out];exact hkt)⟩
       obtain ⟨mg,mk',emg,cH⟩:=(OWNM.out wq HQ.out.1).at (j:=k) (u:=str m) (by rw [List.getElem?_map,hm];rfl)
       simp only [Value.slice.injEq,true_and] at emg
       obtain ⟨rfl,rfl⟩:=emg
       obtain ⟨b4,lC⟩:=HMV.out k m hm
       have AA:=FITI.out m b4
       rw [hh,HVI.out,Bool.true_and] at AA
       have t6:=bU AA
       have sM:=bU (rowL_take (v:=v) (t:=t) (i:=i) hm)
       have di:n2<=2000:=by
        have h1:=HQ.out.2.1.len
        rw [List.length_append] at h1
        have h2:=H24.out.2 i
        have h3:=rowL_len t v i ((kU t []).take k)
        rw [List.length_take] at h3
        omega
       obtain ⟨c,p,fY⟩:∃ c p,m=c::p:=by
        cases m with
        | nil=>simp [jH] at b4
        | cons c p=>exact ⟨c,p,rfl⟩
       have bw:p.length<=16777216:=by rw [fY,List.length_cons] at lC;omega
       have dS:0<m.length:=by rw [fY];simp
       have nJ:(0:Int)<(m.length:Int):=by omega
       have B0:((((⟨m.toArray⟩:ByteArray)[0]'(kY dS)).toNat:Int))=(c.toNat:Int):=by rw [kh dS];subst fY;rfl
       have hqe:((c.toNat:Int) == 113)=isQ m:=by
        rw [fY,kw,Bool.eq_iff_iff,beq_iff_eq,beq_iff_eq]
        exact ⟨fun h=>UInt8.toNat_inj.1 (by show c.toNat=113;omega),fun h=>by rw [h];rfl⟩
       have CB:=bU (fun x=>j_ c p bw x)
       have CE:=bU (fun x=>ve c p bw x)
       rw [<- fY] at CB CE
       obtain ⟨pn,cR⟩:=zzN (plN m)
       obtain ⟨e_,d6⟩:=zzN (qe m)
       have hwe:=who_eq m o
       rw [cR] at CB hwe
       rw [d6] at CE t6
       obtain ⟨wi,hwi⟩:=zzN (pX o)
       rw [hwi] at hwe hwm hwt
       have HWE:=bU hwe
       obtain ⟨ib,ic,eib,hic⟩:=tr.out.m.cells
       simp only [Value.slice.injEq,true_and] at eib
       obtain ⟨rfl,rfl⟩:=eib
       obtain ⟨gb,go',rfl,_,hgb,aE⟩:=hic i _ HVI.out
       have nU:=bU (fun (y:World) (hy:Below wq.heap.size wq y)=>(show y.cell? ⟨w.heap.size+1,0,none⟩=some (.slice (some ⟨gb,go',none⟩) v.length mc)/\y.cell? ⟨gb,go'+i,none⟩=some (str mi)/\y.cell? ⟨mg,k,none⟩=some (str m) from
        ⟨(hy.cell (bW _ _ e0)).trans e0,(hy.cell (bW _ _ aE)).trans aE,(hy.cell (bW _ _ cH)).trans cH⟩))
       obtain ⟨qq,hqq⟩:=zzN (isQ m)
       rw [hqq] at hqe t6
       obtain ⟨pe,mu⟩:=zzN (kL v v.length [])
       have CPW:=CPE.out wq tr.out
       rw [mu] at CPW t6
       have CPW:=bU CPW
       obtain ⟨fe,hfe⟩:=zzN (yU t v m i)
       have HF:Hid (yU t v m i=fe):=bU hfe
       have ES:=bU (t6.out.symm.trans hfe)
       obtain ⟨pb',pc',epb,hpc'⟩:=tr.out.p.cells
       have HPE:=bU mu
       clear hh hm b4 lC AA bw cR d6 hwe hwi hgb aE hic fY hqq mu hfe t6 hpc' epb
       go_wp2_with fail
       (with_reducible refine aK.out.mono ?_)
       rintro en y0 ⟨rfl,e⟩
       subst y0
       clear aK
       cases dl:((m:Bs) == [113]) with
       | true =>
         have mh:((m:Bs) != [113])=false:=by rw [bne,dl];rfl
         obtain rfl:fe=false:=by rw [<- ES.out,dl];rfl
         clear ES
         go_upto_region 14 with (fail)
         refine wp_region_noPanic ?_
         refine zX (fun w'=>Below wq.heap.size wq w') (fun _=>false) (by kernel_rfl) ?_
         have bS:(fun w'=>Below wq.heap.size wq w') wq.drew:=Below.drew (bP _ _)
         refine tk [0,1,2,3,4,5,6,7,8,9,10,11,12,13,14,15,16,17,18,19] bS ?_
         (intro d hd;simp [tkD] at hd;subst hd;simp only [tks,pQ,pZ,pS])
         iterate 20 (refine ⟨?_,?_,?_⟩;rotate_left;· (intro oi ho;simp at ho;subst ho;first | (refine Or.inr ⟨by rfl,?_⟩;with_reducible rfl) | (refine Or.inl ⟨by rfl,fun w' bR=>?_⟩;go_simp;try with_reducible rfl)))
         refine zU (by kernel_rfl) (NoPanic.normal ?_) _
         have fk:=bU (Below.drew (bP wq.heap.size wq))
         clear bS nU
         go_wp2_with fail
         go_roundw
         case rel=>exact ⟨k+1,n2,c2,a2,co,_,rfl,by omega,by go_num,rfl,HQ.out.1.trans (But.ofBelow (fk.out)),by rw [sM.out,HF.out,if_neg (by simp),List.append_nil];exact HQ.out.2.1.below (fk.out),HQ.out.2.2⟩
         case measure=>simp [intOf];omega
       | false =>
         have mh:((m:Bs) != [113])=true:=by rw [bne,dl];rfl
         cases rH:(kC m == o) with
         | false =>
           have hpw:((pn:Int) == (wi:Int))=false:=HWE.out.trans rH
           obtain rfl:fe=false:=by rw [<- ES.out,dl,rH];rfl
           clear rH
           go_upto_region 14 with (fail)
           refine wp_region_noPanic ?_
           refine zX (fun w'=>Below wq.heap.size wq w') (fun _=>false) (by kernel_rfl) ?_
           have bS:(fun w'=>Below wq.heap.size wq w') wq.drew:=Below.drew (bP _ _)
           refine tk [0,1,2,3,5,6] bS ?_
           (intro d hd;simp [tkD] at hd;subst hd;simp only [tks,pQ,pZ,pS])
           iterate 6 (refine ⟨?_,?_,?_⟩;rotate_left;· (intro oi ho;simp at ho;subst ho;refine Or.inl ⟨by rfl,fun w' bR=>?_⟩;go_simp;try with_reducible rfl))
           (refine on 4 ?_;intro o ho K' hK;simp at ho;subst ho;go_simp)
           go_at_call 122
           (with_reducible refine (CB.out _).mono ?_)
           rintro en x4 ⟨rfl,e⟩
           subst x4
           (refine hK.out _ _ (fun _=>bS) ?_;clear hK K';try simp only [pQ,pN,pZ,pS])
           have lx:=bS
           refine tk [7,8,9,10,11,12,13,14,15,16,17,18,19] lx ?_
           (intro d hd;simp [tkD] at hd;subst hd;simp only [tks,pQ,pZ,pS])
           iterate 13 (refine ⟨?_,?_,?_⟩;rotate_left;· (intro oi ho;simp at ho;subst ho;first | (refine Or.inr ⟨by rfl,?_⟩;with_reducible rfl) | (refine Or.inl ⟨by rfl,fun w' bR=>?_⟩;go_simp;try with_reducible rfl)))
           refine zU (by kernel_rfl) (NoPanic.normal ?_) _
           have fk:=bU (Below.drew (bP wq.heap.size wq))
           clear bS nU
           go_wp2_with fail
           go_roundw
           case rel=>exact ⟨k+1,n2,c2,a2,co,_,rfl,by omega,by go_num,rfl,HQ.out.1.trans (But.ofBelow (fk.out)),by rw [sM.out,HF.out,if_neg (by simp),List.append_nil];exact HQ.out.2.1.below (fk.out),HQ.out.2.2⟩
           case measure=>simp [intOf];omega
         | true =>
           have hpw:((pn:Int) == (wi:Int))=true:=HWE.out.trans rH
           go_upto_region 14 with (fail)
           refine wp_region_noPanic ?_
           refine zX (fun w'=>Below wq.heap.size wq w') (fun _=>false) (by kernel_rfl) ?_
           have bS:(fun w'=>Below wq.heap.size wq w') wq.drew:=Below.drew (bP _ _)
           refine tk [0,1,2,3,5,6] bS ?_
           (intro d hd;simp [tkD] at hd;subst hd;simp only [tks,pQ,pZ,pS])
           iterate 6 (refine ⟨?_,?_,?_⟩;rotate_left;· (intro oi ho;simp at ho;subst ho;refine Or.inl ⟨by rfl,fun w' bR=>?_⟩;go_simp;try with_reducible rfl))
           (refine on 4 ?_;intro o ho K' hK;simp at ho;subst ho;go_simp)
           go_at_call 122
           (with_reducible refine (CB.out _).mono ?_)
           rintro en x4 ⟨rfl,e⟩
           subst x4
           (refine hK.out _ _ (fun _=>bS) ?_;clear hK K';try simp only [pQ,pN,pZ,pS])
           have lx:=bS
           refine tk [7,8,9,10,12,13,14,15,16] lx ?_
           (intro d hd;simp [tkD] at hd;subst hd;simp only [tks,pQ,pZ,pS])
           iterate 9 (refine ⟨?_,?_,?_⟩;rotate_left;· (intro oi ho;simp at ho;subst ho;refine Or.inl ⟨by rfl,fun w' bR=>?_⟩;obtain ⟨e0,e1,e2⟩:=nU.out w' bR;go_simp;try with_reducible rfl))
           (refine on 11 ?_;intro o ho K' hK;simp at ho;subst ho;go_simp)
           go_at_call 123
           (with_reducible refine (CE.out _).mono ?_)
           rintro en n7 ⟨rfl,e⟩
           subst n7
           (refine hK.out _ _ (fun _=>bS) ?_;clear hK K';try simp only [pQ,pN,pZ,pS])
           have ij:=bS
           refine tk [17,18,19] ij ?_
           (intro d hd;simp [tkD] at hd;subst hd;simp only [tks,pQ,pZ,pS])
           iterate 3 (refine ⟨?_,?_,?_⟩;rotate_left;· (intro oi ho;simp at ho;subst ho;refine Or.inl ⟨by rfl,fun w' bR=>?_⟩;go_simp;try with_reducible rfl))
           refine zU (by kernel_rfl) (NoPanic.normal ?_) _
           have fk:=bU (Below.drew (bP wq.heap.size wq))
           have hom:((Option.map (fun x:Bs×Int=>x.1) (some (mi,zi))) == some e_)=(mi == e_):=rfl
           have HOM:=bU hom
           have HBW:=bU rH
           have HMQ:=bU dl
           clear hom rH dl
           cases mV:((e_:Bs) == mi) with
           | false =>
             have sD:((mi:Bs) == e_)=false:=by rw [Bool.eq_false_iff] at mV ⊢;intro h;exact mV (by rw [beq_iff_eq] at h ⊢;exact h.symm)
             obtain rfl:fe=false:=by rw [<- ES.out,HMQ.out,HBW.out,HOM.out,sD];rfl
             clear bS nU sD
             go_wp2_with fail
             go_roundw
             case rel=>exact ⟨k+1,n2,c2,a2,co,_,rfl,by omega,by go_num,rfl,HQ.out.1.trans (But.ofBelow (fk.out)),by rw [sM.out,HF.out,if_neg (by simp),List.append_nil];exact HQ.out.2.1.below (fk.out),HQ.out.2.2⟩
             case measure=>simp [intOf];omega
           | true =>
             have sD:((mi:Bs) == e_)=true:=by rw [beq_iff_eq] at mV ⊢;exact mV.symm
             have HFQ:Hid ((qq || pe == (i:Int))=fe):=bU (by rw [<- ES.out,HMQ.out,HBW.out,HOM.out,sD];rfl)
             obtain ⟨y0,cM⟩:=zzN (wq.drew)
             rw [cM] at fk ⊢
             have HY:=fk
             obtain ⟨⟨e0,e1⟩,Bb,bw⟩:=KEY.out wq y0 HQ.out.1 HY.out
             have CPY:=CPE.out y0 bw
             rw [HPE.out] at CPY
             have CPY:=bU CPY
             have HPY:=bU bw
             clear bS nU cM Bb bw CPW sD
             cases qq with
             | true =>
               have hq1:((c.toNat:Int) == 113)=true:=hqe
               obtain rfl:fe=true:=by rw [<- HFQ.out];rfl
               have sJ:=bU (CW.out y0 HPY.out m (i:Int))
               go_wp2_with fail
               (with_reducible refine sJ.out.mono ?_)
               rintro en y1 ⟨mvn,ptn,rfl,cR,bE,eI⟩
               have lm:(v++[(m,(i:Int))]).length=v.length+1:=by rw [List.length_append];rfl
               obtain ⟨LU,lh⟩:=zzN (v.length+1)
               obtain ⟨a8,c8,e8⟩:=cR.1.slice
               obtain ⟨a9,c9,e9⟩:=cR.2.slice
               rw [lm,lh] at e8 e9
               subst e8;subst e9
               have H1:=bU (bY (zzT HY.out bE) (bY cR (fun g hg=>bC HY.out.size (eI g hg))))
               clear cR bE eI lm lh sJ
               go_wp2_with (at_builtin;refine zB rfl _ _ 26 rfl 33 (.agg #[.slice none 0 0,.slice none 0 0]) 2 48 Tryz.underlying26 Tryz.infoPlay rfl (by decide) (.slice a2 n2 c2) n2 (plC co) rfl ?c1 _ 1 [.slice a8 LU c8,.slice a9 LU c9] rfl ?c2 ?c3 ?c4 ?_)
               case c1=>exact (HQ.out.2.1.below H1.out.1).own.alloc _
               case c2=>exact zR.litk #[.slice a8 LU c8,.slice a9 LU c9] rfl (by simp [Value.oneCell']) _ (by rfl)
               case c3=>unfold maxLen;omega
               case c4=>omega
               intro a7 c7 w7 dD bh cU
               have dO:=H1.out.1.size
               have fO:=HQ.out.2.1.add (H1.out.1.alloc dO _) (bC HZ.out (bC HS3.out HQ.out.1.size)) (H1.out.2.1.below ((bP _ _).alloc (bX _) _)) H1.out.2.2 dD bh (fun g hg=>by rw [zQ];exact cU g hg)
               have dK:But (fun b=>b=W.heap.size) w3 w7:=(HQ.out.1.trans (But.ofBelow (H1.out.1.alloc dO _))).trans' bh (fun g hg e=>by
                rcases HQ.out.2.2 g e with h | h
                ·exact h
                ·omega)
               have m_:∀ g,(Value.slice a7 (n2+1) c7).ownBlock=some g->g=W.heap.size\/w3.heap.size<=g:=fun g hg=>by
                have h3:=HQ.out.1.size
                rcases cU g hg with h | h
                ·exact HQ.out.2.2 g h
                ·exact .inr (by omega)
               have H7:=bU (bY dK (bY fO m_))
               clear dD bh cU fO dK m_ dO
               go_wp2_with fail
               go_roundw
               case rel=>exact ⟨k+1,n2+1,c7,a7,co++[(.slice a8 LU c8,.slice a9 LU c9)],_,rfl,by omega,by go_num,rfl,H7.out.1,by rw [sM.out,HF.out,if_pos rfl,<- List.append_assoc];exact H7.out.2.1,H7.out.2.2⟩
               case measure=>simp [intOf];omega
             | false =>
               have hq1:((c.toNat:Int) == 113)=false:=hqe
               cases lW:(pe == (i:Int)) with
               | false =>
                 obtain rfl:fe=false:=by rw [<- HFQ.out,lW];rfl
                 go_wp2_with fail
                 (with_reducible refine CPY.out.mono ?_)
                 rintro en y1 ⟨rfl,bE⟩
                 have fE:=bU (zzT HY.out bE)
                 clear bE CPY
                 go_wp2_with fail
                 go_roundw
                 case rel=>exact ⟨k+1,n2,c2,a2,co,_,rfl,by omega,by go_num,rfl,HQ.out.1.trans (But.ofBelow (fE.out)),by rw [sM.out,HF.out,if_neg (by simp),List.append_nil];exact HQ.out.2.1.below (fE.out),HQ.out.2.2⟩
                 case measure=>simp [intOf];omega
               | true =>
                 obtain rfl:fe=true:=by rw [<- HFQ.out,lW];rfl
                 go_wp2_with fail
                 (with_reducible refine CPY.out.mono ?_)
                 rintro en ii ⟨rfl,bE⟩
                 have h2:=(KEY.out wq ii HQ.out.1 (zzT HY.out bE))
                 obtain ⟨⟨g0,g1⟩,_,Cg⟩:=h2
                 have HPY2:=bU Cg
                 have HYY:=bU (zzT HY.out bE)
                 clear bE CPY e0 e1 Cg
                 have sJ:=bU (CW.out ii HPY2.out m (i:Int))
                 go_wp2_with fail
                 (with_reducible refine sJ.out.mono ?_)
                 rintro en y1 ⟨mvn,ptn,rfl,cR,bE,eI⟩
                 have lm:(v++[(m,(i:Int))]).length=v.length+1:=by rw [List.length_append];rfl
                 obtain ⟨LU,lh⟩:=zzN (v.length+1)
                 obtain ⟨a8,c8,e8⟩:=cR.1.slice
                 obtain ⟨a9,c9,e9⟩:=cR.2.slice
                 rw [lm,lh] at e8 e9
                 subst e8;subst e9
                 have H1:=bU (bY (zzT HYY.out bE) (bY cR (fun g hg=>bC HYY.out.size (eI g hg))))
                 clear cR bE eI lm lh sJ
                 go_wp2_with (at_builtin;refine zB rfl _ _ 26 rfl 33 (.agg #[.slice none 0 0,.slice none 0 0]) 2 48 Tryz.underlying26 Tryz.infoPlay rfl (by decide) (.slice a2 n2 c2) n2 (plC co) rfl ?c1 _ 1 [.slice a8 LU c8,.slice a9 LU c9] rfl ?c2 ?c3 ?c4 ?_)
                 case c1=>exact (HQ.out.2.1.below H1.out.1).own.alloc _
                 case c2=>exact zR.litk #[.slice a8 LU c8,.slice a9 LU c9] rfl (by simp [Value.oneCell']) _ (by rfl)
                 case c3=>unfold maxLen;omega
                 case c4=>omega
                 intro a7 c7 w7 dD bh cU
                 have dO:=H1.out.1.size
                 have fO:=HQ.out.2.1.add (H1.out.1.alloc dO _) (bC HZ.out (bC HS3.out HQ.out.1.size)) (H1.out.2.1.below ((bP _ _).alloc (bX _) _)) H1.out.2.2 dD bh (fun g hg=>by rw [zQ];exact cU g hg)
                 have dK:But (fun b=>b=W.heap.size) w3 w7:=(HQ.out.1.trans (But.ofBelow (H1.out.1.alloc dO _))).trans' bh (fun g hg e=>by
                  rcases HQ.out.2.2 g e with h | h
                  ·exact h
                  ·omega)
                 have m_:∀ g,(Value.slice a7 (n2+1) c7).ownBlock=some g->g=W.heap.size\/w3.heap.size<=g:=fun g hg=>by
                  have h3:=HQ.out.1.size
                  rcases cU g hg with h | h
                  ·exact HQ.out.2.2 g h
                  ·exact .inr (by omega)
                 have H7:=bU (bY dK (bY fO m_))
                 clear dD bh cU fO dK m_ dO
                 go_wp2_with fail
                 go_roundw
                 case rel=>exact ⟨k+1,n2+1,c7,a7,co++[(.slice a8 LU c8,.slice a9 LU c9)],_,rfl,by omega,by go_num,rfl,H7.out.1,by rw [sM.out,HF.out,if_pos rfl,<- List.append_assoc];exact H7.out.2.1,H7.out.2.2⟩
                 case measure=>simp [intOf];omega
    ·have hktI:¬ (k:Int)<(n3:Int):=by omega
     obtain rfl:k=n3:=by omega
     have HE:=bU (show NxR W.heap.size (uO t v (i+1)) a2 n2 c2 co wq by
      have h1:=HQ.out.2.1
      rw [List.take_of_length_le (by rw [HNM.out];exact bX _)] at h1
      rw [ym];exact h1)
     go_wp2_with fail
     go_roundw
     case rel=>exact ⟨i+1,n2,c2,a2,co,_,rfl,by omega,by go_num,rfl,HQ.out.1,HE.out,HQ.out.2.2⟩
     case measure=>simp [intOf];omega
  ·have cT:¬ (i:Int)<(v.length:Int):=by omega
   obtain rfl:i=v.length:=by omega
   have hF:Below w.heap.size w wr:=(zzT HW.out.2.2.2.1 H3.out.1).trans (HR.out.1.toBelow (by have h1:=HW.out.2.2.2.1.size;have h2:=H3.out.1.size;omega) fun j hj e=>by have:=HZ2.out;omega)
   have HF:=bU hF
   clear hF
   go_wp2_with fail
   go_ret
   rw [E.out]
   exact ⟨_,_,_,_,rfl,HF.out,HR.out.2.1.mono (by have:=HZ2.out;omega)⟩
theorem NxR.cat {B B2:Nat} {L L2:List Pl} {a a2:Option Addr} {n c n2 c2:Nat} {us co:List (Value×Value)} {w:World} (h:NxR B L a n c us w) (h2:NxR B2 L2 a2 n2 c2 co w) (hB:B<=B2) (Ew:B<=w.heap.size) (bA:∀ g,PlB (.slice a n c) us g->g<B2)
 {a':Option Addr} {c':Nat} {w5:World} (oL:Own w5 33 2 (.slice a' (n+n2) c') (n+n2) (plC us++plC co)) (b_:But (fun b=>(Value.slice a n c).ownBlock=some b) w w5) (Ab:∀ g,(Value.slice a' (n+n2) c').ownBlock=some g->(Value.slice a n c).ownBlock=some g\/g=w.heap.size) :
 NxR B (L++L2) a' (n+n2) c' (us++co) w5:=by
 have hr:=h.rd.cat h2.rd hB Ew oL b_ Ab
 have fa:=h.rd.ul
 refine ⟨hr.len,⟨by rw [hr.ul];exact hr.own,by rw [hr.ul,List.length_map,hr.len],fun i u x hu hx=>?_,fun i j u u' rh hu fi g=>?_⟩,hr.new⟩
 ·rw [List.getElem?_map,Option.map_eq_some_iff] at hx
  obtain ⟨l,hl,rfl⟩:=hx
  have hp:=hr.each i u l hu hl
  have lM:(plX l).1.length=l.length:=by simp [plX,k_]
  have lP:(plX l).2.length=l.length:=by simp [plX,qM]
  rw [lM,lP];exact hp
 ·rcases Nat.lt_or_ge i n with hi | hi <;> rcases Nat.lt_or_ge j n with hj | hj
  ·rw [List.getElem?_append_left (by rw [fa];exact hi)] at hu
   rw [List.getElem?_append_left (by rw [fa];exact hj)] at fi
   exact h.pls.apart i j u u' rh hu fi g
  ·rw [List.getElem?_append_left (by rw [fa];exact hi)] at hu
   rw [List.getElem?_append_right (by rw [fa];exact hj)] at fi
   have m1:=List.mem_of_getElem? hu;have m2:=List.mem_of_getElem? fi
   refine ⟨fun e e'=>?_,fun e e'=>?_⟩
   ·have h1:=bA g (.inr ⟨u,m1,.inl e⟩);have h3:=h2.new g (.inr ⟨u',m2,.inl e'⟩);omega
   ·have h1:=bA g (.inr ⟨u,m1,.inr e⟩);have h3:=h2.new g (.inr ⟨u',m2,.inr e'⟩);omega
  ·rw [List.getElem?_append_right (by rw [fa];exact hi)] at hu
   rw [List.getElem?_append_left (by rw [fa];exact hj)] at fi
   have m1:=List.mem_of_getElem? hu;have m2:=List.mem_of_getElem? fi
   refine ⟨fun e e'=>?_,fun e e'=>?_⟩
   ·have h1:=bA g (.inr ⟨u',m2,.inl e'⟩);have h3:=h2.new g (.inr ⟨u,m1,.inl e⟩);omega
   ·have h1:=bA g (.inr ⟨u',m2,.inr e'⟩);have h3:=h2.new g (.inr ⟨u,m1,.inr e⟩);omega
  ·rw [List.getElem?_append_right (by rw [fa];exact hi)] at hu
   rw [List.getElem?_append_right (by rw [fa];exact hj)] at fi
   exact h2.pls.apart _ _ u u' (by omega) hu fi g
theorem NxR.lt {B:Nat} {L:List Pl} {a:Option Addr} {n c:Nat} {us:List (Value×Value)} {w:World} (h:NxR B L a n c us w):∀ g,PlB (.slice a n c) us g->g<w.heap.size:=fun g hg=>h.pls.lt hg
theorem NxR.off {B:Nat} {L:List Pl} {a:Option Addr} {n c:Nat} {us:List (Value×Value)} {w w':World} (h:NxR B L a n c us w) {v:Value} {m:Nat} {xs:List Value} (ho:Own w 33 2 v m xs) (hb:But (fun b=>v.ownBlock=some b) w w') (hn:∀ g,(Value.slice a n c).ownBlock=some g->v.ownBlock≠some g):NxR B L a n c us w' :=
 ⟨h.len,jE.but h.pls hb fun g hg e=>by
  rcases hg with hg | ⟨u,hu,hg⟩
  ·exact hn g hg e
  ·obtain ⟨i,x,h1,h2⟩:=h.pls.mem hu
   obtain ⟨k1,k2⟩:=h.pls.each i u x h1 h2
   rcases hg with hg | hg
   ·exact k1.unlikeG ho ud hg e
   ·exact k2.unlikeG ho xu hg e,h.new⟩
set_option maxRecDepth 100000 in
theorem ux (s text:Bs) (n:Int) (w:World) (hs:Lim s.length) (ht:Lim text.length) :
 Calls Tryz.prog 84 #[str s,str text,.int .i64 n] w (hE (qR s text n) w):=by
 have C:=bU (vR s text hs ht w)
 clear hs ht
 go_enter Tryz.func84,Tryz.ntmps84
 go_wp2_with fail
 (with_reducible refine C.out.mono ?_)
 rintro en w1 ⟨ta,tc,s',v',a2,n2,c2,a3,n3,c3,rfl,bE,mH,fv⟩
 have sQ:=bU (fun b (h:zM s text=some b)=>(qS h).1)
 have EM:=bU (fun (h:zM s text=none)=>plays_no h n)
 have nP:=bU (fun b (h:zM s text=some b) (h0:n<0\/8<n)=>plays_off h h0)
 have nW:=bU (fun b (h:zM s text=some b) (h0:¬ n<0) (h8:¬ 8<n) r k hr hk=>plays_over h h0 h8 (r:=r) (k:=k) hr hk)
 have nG:=bU (fun b (h:zM s text=some b) (h0:¬ n<0) (h8:¬ 8<n) r hr hk=>plays_done h h0 h8 (r:=r) hr hk)
 generalize hT:(zV s).1=t at *
 obtain ⟨so,lJ⟩:=zzM (zM s text)
 rw [<- lJ] at fv sQ EM nP nW nG ⊢
 clear lJ C hT
 obtain ⟨X,hX,dp,ai,x0,x1⟩:=kH w1 (.cells #[.slice ta t.args.length tc] 61) (.cells #[str s',.int .i64 v',.slice a2 n2 c2,.slice a3 n3 c3] 64)
 have A1:Below w.heap.size w X:=zzT bE dp
 have mO:Rep (fun _=>True) X (qZ t) (.slice ta t.args.length tc):=(Rep.keep fun i o _ ho=>⟨trivial,by rw [dp.block i (zZ ho)];exact ho⟩).1 _ _ mH
 have mj:∀ b,so=some b->zq (fun _=>True) X (ke b) [str s',.int .i64 v',.slice a2 n2 c2,.slice a3 n3 c3]:=fun b h=>(Rep.keep fun i o _ ho=>⟨trivial,by rw [dp.block i (zZ ho)];exact ho⟩).2 _ _ (fv b h)
 have t0:=kP x0
 obtain ⟨m0,m1,m2,m3⟩:=zl x1
 have HX:=bU (bY hX (bY A1 (bY mO (bY x0 x1))))
 have HRB:=bU mj
 clear hX dp ai x0 x1 A1 mH fv mO mj bE
 go_upto_region 2 with (fail)
 rw [HX.out.1]
 cases so with
 | none =>
   have E:=bU (EM.out rfl)
   clear EM HRB sQ nP nW nG
   go_wp2_with fail
   go_ret2
   rw [E.out]
   exact ⟨_,_,_,[],rfl,HX.out.2.1.trans (((bP _ _).alloc (bX _) _).mono HX.out.2.1.size),NxR.empty _ _ HX.out.2.1.size⟩
 | some b =>
   have dn:=sQ.out b rfl
   have CI:=bU (fun (x:World)=>yQ n 0 8 x)
   by_cases h0:n<0\/8<n
   ·have E:=bU (nP.out b rfl h0)
    have hd:(decide ((0:Int)<=n) && decide (n<=8))=false:=by
     rw [Bool.and_eq_false_iff,decide_eq_false_iff_not,decide_eq_false_iff_not];omega
    have HD:=bU hd
    clear EM HRB sQ nP nW nG dn h0 hd
    go_wp2_with fail
    (with_reducible refine (CI.out _).mono ?_)
    rintro en y1 ⟨rfl,e⟩
    subst y1
    rw [HD.out]
    go_wp2_with fail
    go_ret2
    rw [E.out]
    exact ⟨_,_,_,[],rfl,HX.out.2.1.trans (((bP _ _).alloc (bX _) _).mono HX.out.2.1.size),NxR.empty _ _ HX.out.2.1.size⟩
   have h0':¬ n<0:=by omega
   have h8':¬ 8<n:=by omega
   obtain ⟨N,rfl⟩:∃ N:Nat,n=(N:Int):=⟨n.toNat,by omega⟩
   have hN8:N<=8:=by omega
   have hd:(decide ((0:Int)<=(N:Int)) && decide ((N:Int)<=8))=true:=by
    rw [Bool.and_eq_true,decide_eq_true_eq,decide_eq_true_eq];omega
   have HD:=bU hd
   have oZ:Hid (∀ r k,r+1<=(N+1) / 2->300<(jX t b r).length+(((qT t b r).take k).flatMap (fAt t b r)).length->qR s text (N:Int)=none):=bU (fun r k h1 h2=>nW.out b rfl (by omega) (by omega) r k (by rw [Int.toNat_natCast];exact h1) h2)
   have HDN:Hid (∀ r,r=(N+1) / 2->(jX t b r).length<=300->qR s text (N:Int)=some (jX t b r)):=bU (fun r h1 h2=>nG.out b rfl (by omega) (by omega) r (by rw [Int.toNat_natCast];exact h1) h2)
   have HG:=bU dn
   have HRN:=bU (HRB.out b rfl)
   have ir:=bU (fun r (hr:r<=20) u (hu:u∈qT t b r)=>prev_in dn.atoms dn.fit dn.wf r hr u hu)
   have HLA:=bU (fun r (hr:r<=20) u (hu:u∈vt t b r)=>pz dn.atoms dn.fit dn.wf r hr u hu)
   clear EM HRB sQ nP nW nG dn h0 h0' h8' hd
   go_wp2_with fail
   (with_reducible refine (CI.out _).mono ?_)
   rintro en y1 ⟨rfl,e⟩
   subst y1
   rw [HD.out]
   clear CI HD
   obtain ⟨Y,hY⟩:=zzN ((((X.alloc (.cells #[] 9)).alloc (.cells #[] 3)).alloc (.cells #[.slice (some ⟨X.heap.size,0,none⟩) 0 0,.slice (some ⟨X.heap.size+1,0,none⟩) 0 0] 33)).alloc (.cells #[] 33))
   have z1:=(bP X.heap.size X).alloc (bX _) (.cells #[] 9)
   have z2:=z1.alloc z1.size (.cells #[] 3)
   have z3:=z2.alloc z2.size (.cells #[.slice (some ⟨X.heap.size,0,none⟩) 0 0,.slice (some ⟨X.heap.size+1,0,none⟩) 0 0] 33)
   have z4:=z3.alloc z3.size (.cells #[] 33)
   have hO0:NxR X.heap.size (jX t b 0) (some ⟨X.heap.size+1+1,0,none⟩) 1 1 [(.slice (some ⟨X.heap.size,0,none⟩) 0 0,.slice (some ⟨X.heap.size+1,0,none⟩) 0 0)] Y:=by
    rw [<- hY]
    have p1:zC ((X.alloc (.cells #[] 9)).alloc (.cells #[] 3)) [] (.slice (some ⟨X.heap.size,0,none⟩) 0 0) (.slice (some ⟨X.heap.size+1,0,none⟩) 0 0) :=
     ⟨(Own.litAt #[] 0 _ rfl (by unfold maxLen;omega) rfl).alloc _,Own.litAt #[] 0 _ (by rw [zQ]) (by unfold maxLen;omega) rfl⟩
    have:=NxR.add (NxR.nil X.heap.size X) z2 (bX _) p1 (fun g hg=>by rcases hg with hg | hg <;> simp [Value.ownBlock] at hg <;> omega) (a':=some ⟨X.heap.size+1+1,0,none⟩) (c':=1)
     (w5:=((X.alloc (.cells #[] 9)).alloc (.cells #[] 3)).alloc (.cells #[.slice (some ⟨X.heap.size,0,none⟩) 0 0,.slice (some ⟨X.heap.size+1,0,none⟩) 0 0] 33))
     (Own.litAt #[.slice (some ⟨X.heap.size,0,none⟩) 0 0,.slice (some ⟨X.heap.size+1,0,none⟩) 0 0] 1 _ (by rw [zQ,zQ]) (by unfold maxLen;omega) rfl)
     (But.ofBelow ((bP _ _).alloc (bX _) _)) (fun g hg=>.inr (by simp [Value.ownBlock] at hg;rw [zQ,zQ];omega))
    exact this.below ((bP _ _).alloc (bX _) _)
   have fF:Below X.heap.size X Y:=by rw [<- hY];exact z4
   have HY:=bU (bY hY (bY fF hO0))
   have KEY:=bU (fun (y:World) (hy:Below X.heap.size X y)=>(show y.cell? ⟨w1.heap.size,0,none⟩=some (.slice ta t.args.length tc)/\y.cell? ⟨w1.heap.size+1,0,none⟩=some (str s')/\y.cell? ⟨w1.heap.size+1,1,none⟩=some (.int .i64 v')/\y.cell? ⟨w1.heap.size+1,2,none⟩=some (.slice a2 n2 c2)/\y.cell? ⟨w1.heap.size+1,3,none⟩=some (.slice a3 n3 c3) from by
    have hk:∀ (a:Addr) (u:Value),X.cell? a=some u->y.cell? a=some u:=fun a u h=>(hy.cell (bW _ _ h)).trans h
    exact ⟨hk _ _ t0,hk _ _ m0,hk _ _ m1,hk _ _ m2,hk _ _ m3⟩))
   have CN:=bU (fun (y:World) (hy:Below X.heap.size X y) (l:Pl) (mv pt:Value) (hp:zC y l mv pt) (hl:yD t b l) (ci:l.length<60)=>l2Next_any (fun _=>True) t l (.slice ta t.args.length tc) mv pt y (Rep.below hy (fun _ h=>h) HX.out.2.2.1) ⟨(hp.mv fun _ _=>trivial).1,(hp.mv fun _ _=>trivial).2,hl.ok,yN HG.out.atoms hl.ok⟩ HG.out.atoms hl.lg ci)
   clear hY z1 z2 z3 z4 hO0 fF
   go_upto_region 6 with (fail)
   rw [HY.out.1]
   by_cases nZ:N=0
   ·have hNI:¬ (0:Int)<(N:Int):=by omega
    have hNI2:¬ (3:Int)<=(N:Int):=by omega
    have E:=bU (HDN.out 0 (by omega) (by show 1<=300;omega))
    clear nZ KEY CN oZ HDN
    go_wp2_with fail
    go_loopw [11,13] (fun o x wr=>o=.slice (some ⟨X.heap.size+1+1,0,none⟩) 1 1/\x=.int .i64 3/\wr=Y) (fun _ _ _=>0)
    case atStart=>exact ⟨rfl,rfl,rfl⟩
    case round =>
     obtain ⟨rfl,rfl,rfl⟩:=hrel
     go_wp2_with fail
     go_ret2
     rw [E.out]
     exact ⟨_,_,_,_,rfl,zzT HX.out.2.1 HY.out.2.1,HY.out.2.2.mono HX.out.2.1.size⟩
   have hNI:(0:Int)<(N:Int):=by omega
   obtain ⟨gA,eA,ka1,fm⟩:=HY.out.2.2.rd.cells (i:=0) rfl
   simp only [Option.some.injEq,Addr.mk.injEq,and_true] at eA
   obtain rfl:=eA
   rw [Nat.zero_mul] at ka1 fm
   rw [Nat.zero_add] at fm
   have oT:zC Y [] (.slice (some ⟨X.heap.size,0,none⟩) 0 0) (.slice (some ⟨X.heap.size+1,0,none⟩) 0 0):=HY.out.2.2.rd.each 0 _ [] rfl rfl
   have C7:=bU (fun (y:World) (hy:Below Y.heap.size Y y)=>CN.out y (zzT HY.out.2.1 hy) [] _ _ (oT.below hy) (in_nil t b) (by simp))
   have dI:=bU (fun (y:World) (hy:Below Y.heap.size Y y)=>(show y.cell? ⟨w1.heap.size,0,none⟩=some (.slice ta t.args.length tc)/\y.cell? ⟨X.heap.size+1+1,0,none⟩=some (.slice (some ⟨X.heap.size,0,none⟩) 0 0)/\y.cell? ⟨X.heap.size+1+1,1,none⟩=some (.slice (some ⟨X.heap.size+1,0,none⟩) 0 0) from
    ⟨(KEY.out y (zzT HY.out.2.1 hy)).1,(hy.cell (bW _ _ ka1)).trans ka1,(hy.cell (bW _ _ fm)).trans fm⟩))
   clear ka1 fm oT
   go_upto_region 7 with (fail)
   refine wp_region_noPanic ?_
   refine zX (fun w'=>Below Y.heap.size Y w') (fun _=>false) (by kernel_rfl) ?_
   have bS:(fun w'=>Below Y.heap.size Y w') Y.drew:=Below.drew (bP _ _)
   refine tk [0,1,2,3] bS ?_
   (intro d hd;simp [tkD] at hd;subst hd;simp only [tks,pQ,pZ,pS])
   iterate 4 (refine ⟨?_,?_,?_⟩;rotate_left;· (intro oi ho;simp at ho;subst ho;refine Or.inl ⟨by rfl,fun w' bR=>?_⟩;obtain ⟨e0,e1,e2⟩:=dI.out w' bR;go_simp;try with_reducible rfl))
   (refine on 4 ?_;intro o ho K' hK;simp at ho;subst ho;go_simp)
   go_at_call 120
   (with_reducible refine (C7.out _ bS).mono ?_)
   rintro en x4 ⟨a6,m6,c6,us6,rfl,cV,Em⟩
   have hB4:Below Y.heap.size Y x4:=Below.trans bS (cV.mono (Below.size bS))
   have hN4:=Em.mono (Below.size bS)
   clear Em
   (refine hK.out _ _ (fun _=>hB4) ?_;clear hK K';try simp only [pQ,pN,pZ,pS])
   have lx:=hB4
   refine tk [5] lx ?_
   (intro d hd;simp [tkD] at hd;subst hd;simp only [tks,pQ,pZ,pS])
   (refine ⟨?_,?_,?_⟩;rotate_left;· (intro oi ho;simp at ho;subst ho;refine Or.inl ⟨by rfl,fun w' bR=>?_⟩;go_simp;try with_reducible rfl))
   refine zU (by kernel_rfl) (NoPanic.normal ?_) _
   have C0:m6=1:=by have:=hN4.len;rw [<- this];rfl
   have hm300:m6<=300:=by omega
   have HM6:=bU C0
   have H7:=bU (bY hB4 hN4)
   clear C0
   clear bS lx hB4 cV hN4 C7 dI
   go_wp2_with (at_builtin;refine zB rfl _ _ 26 rfl 33 (.agg #[.slice none 0 0,.slice none 0 0]) 2 48 Tryz.underlying26 Tryz.infoPlay rfl (by decide) (.slice (some ⟨X.heap.size+1+1,0,none⟩) 1 1) 1 (plC [(.slice (some ⟨X.heap.size,0,none⟩) 0 0,.slice (some ⟨X.heap.size+1,0,none⟩) 0 0)]) rfl ?c1 (.slice a6 m6 c6) m6 (plC us6) rfl ?c2 ?c3 ?c4 ?_)
   case c1=>exact (HY.out.2.2.below H7.out.1).own
   case c2=>exact zR.ofOwn H7.out.2.own H7.out.2.rd.one
   case c3=>unfold maxLen;omega
   case c4=>omega
   intro a7 c7 w7 dD bh cU
   have C0:=HM6.out
   have m_:=(HY.out.2.2.below H7.out.1).cat H7.out.2 HY.out.2.1.size (bC HY.out.2.1.size H7.out.1.size) HY.out.2.2.lt dD bh cU
   have tQ:∀ g,(Value.slice (some ⟨X.heap.size+1+1,0,none⟩) 1 1).ownBlock=some g->g<Y.heap.size:=fun g hg=>HY.out.2.2.lt g (.inl hg)
   have fO:=(H7.out.2.off (HY.out.2.2.below H7.out.1).own bh fun g hg e=>by have h1:=tQ g e;have h2:=H7.out.2.new g (.inl hg);omega).mono HY.out.2.1.size
   have dK:Below X.heap.size X w7:=(zzT HY.out.2.1 H7.out.1).trans (bh.toBelow (bC HY.out.2.1.size H7.out.1.size) fun g hg e=>by have:=HY.out.2.2.new g (.inl e);omega)
   obtain ⟨M0,dS⟩:=zzN (1+m6)
   rw [dS] at m_ ⊢
   have H0:=bU (bY dK (bY m_ fO))
   have hM300:M0<=300:=by omega
   have HN1:=bU (show 1<=(N+1) / 2 by omega)
   clear dD bh cU C0 m_ fO tQ dK dS nZ
   go_wp2_with fail
   go_loopw [11,12,13] (fun o l x wr=>∃ (r n1 c1:Nat) (a1:Option Addr) (us1:List (Value×Value)) (m2 d2:Nat) (e2:Option Addr) (co:List (Value×Value)) (wz:World),wz=wr/\1<=r/\r<=(N+1) / 2/\x=.int .i64 ((2*r+1:Nat):Int)/\o=.slice a1 n1 c1/\l=.slice e2 m2 d2/\n1<=300/\m2<=300/\Below X.heap.size X wz/\NxR X.heap.size (jX t b r) a1 n1 c1 us1 wz/\NxR X.heap.size (qT t b r) e2 m2 d2 co wz) (fun _ _ x _=>40-(intOf x).toNat)
   case atStart=>exact ⟨1,M0,c7,a7,_,m6,c6,a6,_,_,rfl,bX _,HN1.out,rfl,rfl,rfl,by omega,by omega,H0.out.1,H0.out.2.1,H0.out.2.2⟩
   case round =>
    obtain ⟨r,n1,c1,a1,us1,m2,d2,e2,co,wr,rfl,dV,hr,rfl,rfl,rfl,cS,di,hB,hO,hP⟩:=hrel
    have HO:=bU (bY hr (bY cS (bY hB (bY hO hP))))
    have rV:r<=4:=by omega
    clear hB hO hP
    by_cases bA:2*r+1<=N
    ·have cT:((2*r+1:Nat):Int)<=(N:Int):=by omega
     obtain ⟨Z,hZ⟩:=zzN (2*r+1)
     rw [hZ] at cT ⊢
     have HZ:=bU hZ
     have iP:=bU (show r+1<=(N+1) / 2 by omega)
     obtain ⟨V,hV,Ap,hzV,xV⟩:=kJ wr (.cells #[] 33)
     have hNV:=NxR.empty wr.heap.size wr (bX _)
     rw [hV] at hNV
     have HV:=bU (bY hV (bY Ap hNV))
     clear hZ hr hV Ap hzV xV hNV
     go_upto_region 13 with (fail)
     rw [HV.out.1]
     go_wp2_with fail
     go_loopw [14,15] (fun o x wr'=>∃ (j m c3:Nat) (a3:Option Addr) (BB:List (Value×Value)) (wz:World),wz=wr'/\j<=m2/\x=.int .i64 j/\o=.slice a3 m c3/\m<=j*200/\Below wr.heap.size wr wz/\NxR wr.heap.size (((qT t b r).take j).flatMap (fAt t b r)) a3 m c3 BB wz) (fun _ x _=>m2-(intOf x).toNat)
     case atStart=>exact ⟨0,0,0,_,[],_,rfl,Nat.zero_le _,rfl,rfl,by omega,HV.out.2.1,by rw [List.take_zero];exact HV.out.2.2⟩
     case round =>
      obtain ⟨j,m,q3,p3,BB,wq,rfl,hj,rfl,rfl,sW,tO,Ek⟩:=hrel
      have HQ:=bU (bY tO Ek)
      have El:=HO.out.2.2.2.2.below tO
      clear Ek tO
      by_cases hjt:j<m2
      ·have hjI:(j:Int)<(m2:Int):=by omega
       obtain ⟨u,l,hu,hl,bw⟩:=El.rd.at hjt
       obtain ⟨g,rfl,k1,k2⟩:=El.rd.cells hu
       obtain ⟨lv,lc,e1⟩:=bw.1.slice
       obtain ⟨lp,ld,e2⟩:=bw.2.slice
       obtain ⟨cC,hcs⟩:=ir.out r (by omega) l (List.mem_of_getElem? hl)
       have dm:l.length+1=2*r:=by rcases hcs with h | h <;> omega
       have im:=bU (flat_next hl)
       rw [e1] at k1 bw;rw [e2] at k2 bw
       obtain ⟨st,hand,dB,cJ⟩:=jS HG.out.atoms HG.out.fit HG.out.wf cC.ok (l.length-1) (by omega) (by omega) (fun i hi ho=>cC.fo i (by omega) ho)
       have tq:=zzT HO.out.2.2.1 HQ.out.1
       have CRP:=bU (fun (y:World) (hy:Below wq.heap.size wq y)=>(show Calls Tryz.prog 51 #[.agg #[.slice ta t.args.length tc],.agg #[str s',.int .i64 v',.slice a2 n2 c2,.slice a3 n3 c3],.agg #[.slice lv l.length lc,.slice lp l.length ld]] y _ from
        yJ (fun _=>True) t b l (l.length-1) st (.slice ta t.args.length tc) (.slice lv l.length lc) (.slice lp l.length ld) [str s',.int .i64 v',.slice a2 n2 c2,.slice a3 n3 c3] y (Rep.below (zzT tq hy) (fun _ h=>h) HX.out.2.2.1) ((Rep.keep fun i o hi ho=>⟨hi,by rw [(zzT tq hy).block i (zZ ho)];exact ho⟩).2 _ _ HRN.out)
         ⟨((bw.below hy).mv fun _ _=>trivial).1,((bw.below hy).mv fun _ _=>trivial).2,cC.ok,yN HG.out.atoms cC.ok⟩ HG.out.atoms HG.out.fit HG.out.wf (by omega) (by omega) (fun i hi ho=>cC.fo i (by omega) ho) dB))
       unfold ReplyQ at CRP
       have fD:=bU (fun (y:World) (hy:Below wq.heap.size wq y)=>(show (y.cell? ⟨w1.heap.size,0,none⟩=some (.slice ta t.args.length tc)/\y.cell? ⟨w1.heap.size+1,0,none⟩=some (str s')/\y.cell? ⟨w1.heap.size+1,1,none⟩=some (.int .i64 v')/\y.cell? ⟨w1.heap.size+1,2,none⟩=some (.slice a2 n2 c2)/\y.cell? ⟨w1.heap.size+1,3,none⟩=some (.slice a3 n3 c3))/\y.cell? ⟨g,j*2,none⟩=some (.slice lv l.length lc)/\y.cell? ⟨g,j*2+1,none⟩=some (.slice lp l.length ld) from
        ⟨KEY.out y (zzT tq hy),(hy.cell (bW _ _ k1)).trans k1,(hy.cell (bW _ _ k2)).trans k2⟩))
       have HRA:kZ t b l l.length=qj st:=by unfold kZ;rw [show l.length=l.length-1+1 from by omega,dB];rfl
       have hrl:=fun x (hx:qj st=some x)=>ue HG.out.atoms HG.out.fit HG.out.wf cC (by omega) (by omega) (HRA.trans hx)
       have HRT:Hid (qj st=none/\fAt t b r l=[]\/∃ x,qj st=some x/\fAt t b r l=j7 t (l++[x])/\yD t b (l++[x])):=bU (by
        unfold fAt stepL
        rw [if_neg (by omega)]
        unfold qN
        rw [if_neg (by omega),HRA]
        cases hx:qj st with
        | none=>exact .inl ⟨rfl,rfl⟩
        | some x=>exact .inr ⟨x,rfl,rfl,hrl x hx⟩)
       have HLL:=bU (show l.length<=7 by omega)
       clear El hu hl bw e1 e2 cC hcs dm k1 k2 dB cJ tq HRA hrl
       obtain ⟨o,ho⟩:=zzN (qj st)
       rw [ho] at CRP HRT
       clear ho
       rcases HRT.out with ⟨ho,hf⟩ | ⟨xq,ho,hf,cC⟩
       ·subst ho
        have sM:=bU (show ((qT t b r).take (j+1)).flatMap (fAt t b r)=((qT t b r).take j).flatMap (fAt t b r) by rw [im.out,hf,List.append_nil])
        clear hf HRT im
        go_upto_region 16 with (fail)
        refine ji (X:=Option Addr×Nat×Nat×Option Addr×Nat×Nat×Nat) (fun zz x=>((((((((((((zz.put (some 61) (.agg #[.slice ta t.args.length tc])).put (some 62) (.agg #[str s',.int .i64 v',.slice a2 n2 c2,.slice a3 n3 c3])).put (some 63) (.slice (some ⟨g,0,none⟩) m2 d2)).put (some 64) (.int .i64 (j:Nat))).put (some 65) (.pointer (some ⟨g,j*2,none⟩))).put (some 66) (.agg #[.slice lv l.length lc,.slice lp l.length ld])).put (some 67) (.tuple #[.agg #[.slice x.1 x.2.1 x.2.2.1,.slice x.2.2.2.1 x.2.2.2.2.1 x.2.2.2.2.2.1],.bool false])).put (some 60) (.tuple #[.agg #[.slice x.1 x.2.1 x.2.2.1,.slice x.2.2.2.1 x.2.2.2.2.1 x.2.2.2.2.2.1],.bool false])).put (some 68) (.agg #[.slice x.1 x.2.1 x.2.2.1,.slice x.2.2.2.1 x.2.2.2.2.1 x.2.2.2.2.2.1])).put (some 69) (.bool false)).put (some 16) (.pointer (some ⟨x.2.2.2.2.2.2,0,none⟩))).put (some 17) (.bool false))) (fun x w7=>Below wq.heap.size wq w7) ?_ ?_
        ·refine wp_region_noPanic ?_
         refine zX (fun w'=>Below wq.heap.size wq w') (fun _=>false) (by kernel_rfl) ?_
         obtain ⟨y0,cM⟩:=zzN (wq.drew)
         rw [cM]
         have bO:Below wq.heap.size wq y0:=by rw [<- cM];exact Below.drew (bP _ _)
         obtain ⟨dr,dH⟩:∃ x:Nat->Nat,x=fun _=>0:=⟨_,rfl⟩
         clear cM dH
         refine tk [0,1,2,3,4,5] bO ?_
         (intro d hd;simp [tkD] at hd;subst hd;simp only [tks,pQ,pZ,pS])
         iterate 6 (refine ⟨?_,?_,?_⟩;rotate_left;· (intro oi ho;simp at ho;subst ho;refine Or.inl ⟨by rfl,fun w' bR=>?_⟩;obtain ⟨⟨e0,e1,e2,e3,e4⟩,e5,e6⟩:=fD.out w' bR;go_simp;try with_reducible rfl))
         refine kK 6 10 (by kernel_rfl) ?_ ?_
         ·(intro o6 ho K' hK;simp at ho;subst ho)
          go_simp
          go_at_call 51
          (with_reducible refine (CRP.out _ bO).mono ?_)
          rintro en y1 ⟨a8,n8,c8,a9,n9,c9,rfl,hb,dU,dQ⟩
          clear dU
          clear dQ
          have bj:Below wq.heap.size wq y1:=zzT bO hb
          have tC:=bU hb;clear hb
          (refine hK.out _ _ (fun _=>bj) ?_;clear hK K';try simp only [pQ,pN,pZ,pS])
          refine tk [7,8,9] bj ?_
          (intro d hd;simp [tkD] at hd;subst hd;simp only [tks,pQ,pZ,pS])
          iterate 3 (refine ⟨?_,?_,?_⟩;rotate_left;· (intro oi ho;simp at ho;subst ho;refine Or.inl ⟨by rfl,fun w' bR=>?_⟩;go_simp;try with_reducible rfl))
          (refine on 10 ?_;intro o ho K' hK;simp at ho;subst ho;go_simp)
          (refine hK.out _ _ (fun _=>bj.alloc bj.size _) ?_;clear hK K';try simp only [pQ,pN,pZ,pS])
          obtain ⟨y2,bD⟩:=zzN (y1.alloc (.cells #[.slice none 0 0,.slice none 0 0] 33))
          obtain ⟨gN,mD⟩:=zzN (y1.heap.size)
          rw [bD,mD]
          have cK:Below wq.heap.size wq y2:=by rw [<- bD];exact bj.alloc bj.size _
          obtain ⟨fZ,bT⟩:=zzN (zF dr gN 3)
          have EN:Hid (y2.heap[gN]? = some (.cells #[.slice none 0 0,.slice none 0 0] 33 (0,0))/\fZ gN=3/\wq.heap.size<=gN):=by rw [<- bD,<- bT,<- mD];exact ⟨zS _ _,by unfold zF;rw [if_pos rfl],bj.size⟩
          clear bD mD bT
          (refine on 11 ?_;intro o ho K' hK;simp at ho;subst ho)
          obtain ⟨uN0,AI⟩:∃ u,y2.cell? ⟨gN,0,none⟩=some u:=⟨_,by simp [World.cell?,EN.out.1];rfl⟩
          have AF:y2.frozen? ⟨gN,0,none⟩=false:=by simp [World.frozen?,EN.out.1]
          obtain ⟨uN1,AH⟩:∃ u,y2.cell? ⟨gN,1,none⟩=some u:=⟨_,by simp [World.cell?,EN.out.1];rfl⟩
          have AE:y2.frozen? ⟨gN,1,none⟩=false:=by simp [World.frozen?,EN.out.1]
          go_simp
          (refine hK.out _ _ (fun _=>((cK.setCell (p:=⟨gN,0,none⟩) EN.out.2.2 _).setCell (p:=⟨gN,1,none⟩) EN.out.2.2 _)) ?_;clear hK K';try simp only [pQ,pN,pZ,pS])
          obtain ⟨y3,bD⟩:=zzN (((y2.setCell ⟨gN,0,none⟩ (.slice a8 n8 c8)).setCell ⟨gN,1,none⟩ (.slice a9 n9 c9)))
          rw [bD]
          have ce:Below wq.heap.size wq y3:=by rw [<- bD];exact ((cK.setCell (p:=⟨gN,0,none⟩) EN.out.2.2 _).setCell (p:=⟨gN,1,none⟩) EN.out.2.2 _)
          have bf:But (fun i=>i=gN) y2 y3:=by rw [<- bD];exact (((But.refl (fun i=>i=gN) y2).setCell (p:=⟨gN,0,none⟩) (.inl rfl) _).setCell (p:=⟨gN,1,none⟩) (.inl rfl) _)
          have bT:∀ g,g=gN->fZ g=3:=fun g e=>by rw [e];exact EN.out.2.1
          have EN:Hid (y3.heap[gN]? = some (.cells #[.slice a8 n8 c8,.slice a9 n9 c9] 33 (0,0))/\fZ gN=3/\wq.heap.size<=gN):=⟨by rw [<- bD];exact (zK (zK EN.out.1)),EN.out.2⟩
          clear bD bf bT AI AF AH AE
          (refine on 12 ?_;intro o ho K' hK;simp at ho;subst ho;go_simp)
          (refine hK.out _ _ (fun _=>ce) ?_;clear hK K';try simp only [pQ,pN,pZ,pS])
          refine zU (by kernel_rfl) (NoPanic.normal ?_) _
          exact ⟨rfl,⟨a8,n8,c8,a9,n9,c9,gN⟩,by rfl,ce⟩
         ·(intro o10 ho K' hK;simp at ho;subst ho)
          go_simp
          (refine hK.out _ _ (fun _=>bO.alloc bO.size _) ?_;clear hK K';try simp only [pQ,pN,pZ,pS])
          obtain ⟨y5,bD⟩:=zzN (y0.alloc (.cells #[.slice none 0 0,.slice none 0 0] 33))
          obtain ⟨gN,mD⟩:=zzN (y0.heap.size)
          rw [bD,mD]
          have dT:Below wq.heap.size wq y5:=by rw [<- bD];exact bO.alloc bO.size _
          obtain ⟨ff,bT⟩:=zzN (zF dr gN 3)
          have EN:Hid (y5.heap[gN]? = some (.cells #[.slice none 0 0,.slice none 0 0] 33 (0,0))/\ff gN=3/\wq.heap.size<=gN):=by rw [<- bD,<- bT,<- mD];exact ⟨zS _ _,by unfold zF;rw [if_pos rfl],bO.size⟩
          clear bD mD bT
          (refine on 6 ?_;intro o ho K' hK;simp at ho;subst ho;go_simp)
          go_at_call 51
          (with_reducible refine (CRP.out _ dT).mono ?_)
          rintro en y6 ⟨a8,n8,c8,a9,n9,c9,rfl,hb,dU,dQ⟩
          clear dU
          clear dQ
          have cP:Below wq.heap.size wq y6:=zzT dT hb
          have EN:Hid (y6.heap[gN]? = some (.cells #[.slice none 0 0,.slice none 0 0] 33 (0,0))/\ff gN=3/\wq.heap.size<=gN):=⟨(hb.block _ (zZ EN.out.1)).trans EN.out.1,EN.out.2⟩
          have DF:=bU hb;clear hb
          (refine hK.out _ _ (fun _=>cP) ?_;clear hK K';try simp only [pQ,pN,pZ,pS])
          refine tk [7,8,9] cP ?_
          (intro d hd;simp [tkD] at hd;subst hd;simp only [tks,pQ,pZ,pS])
          iterate 3 (refine ⟨?_,?_,?_⟩;rotate_left;· (intro oi ho;simp at ho;subst ho;refine Or.inl ⟨by rfl,fun w' bR=>?_⟩;go_simp;try with_reducible rfl))
          (refine on 11 ?_;intro o ho K' hK;simp at ho;subst ho)
          obtain ⟨uN0,AI⟩:∃ u,y6.cell? ⟨gN,0,none⟩=some u:=⟨_,by simp [World.cell?,EN.out.1];rfl⟩
          have AF:y6.frozen? ⟨gN,0,none⟩=false:=by simp [World.frozen?,EN.out.1]
          obtain ⟨uN1,AH⟩:∃ u,y6.cell? ⟨gN,1,none⟩=some u:=⟨_,by simp [World.cell?,EN.out.1];rfl⟩
          have AE:y6.frozen? ⟨gN,1,none⟩=false:=by simp [World.frozen?,EN.out.1]
          go_simp
          (refine hK.out _ _ (fun _=>((cP.setCell (p:=⟨gN,0,none⟩) EN.out.2.2 _).setCell (p:=⟨gN,1,none⟩) EN.out.2.2 _)) ?_;clear hK K';try simp only [pQ,pN,pZ,pS])
          obtain ⟨y7,bD⟩:=zzN (((y6.setCell ⟨gN,0,none⟩ (.slice a8 n8 c8)).setCell ⟨gN,1,none⟩ (.slice a9 n9 c9)))
          rw [bD]
          have cI:Below wq.heap.size wq y7:=by rw [<- bD];exact ((cP.setCell (p:=⟨gN,0,none⟩) EN.out.2.2 _).setCell (p:=⟨gN,1,none⟩) EN.out.2.2 _)
          have bf:But (fun i=>i=gN) y6 y7:=by rw [<- bD];exact (((But.refl (fun i=>i=gN) y6).setCell (p:=⟨gN,0,none⟩) (.inl rfl) _).setCell (p:=⟨gN,1,none⟩) (.inl rfl) _)
          have bT:∀ g,g=gN->ff g=3:=fun g e=>by rw [e];exact EN.out.2.1
          have EN:Hid (y7.heap[gN]? = some (.cells #[.slice a8 n8 c8,.slice a9 n9 c9] 33 (0,0))/\ff gN=3/\wq.heap.size<=gN):=⟨by rw [<- bD];exact (zK (zK EN.out.1)),EN.out.2⟩
          clear bD bf bT AI AF AH AE
          (refine on 12 ?_;intro o ho K' hK;simp at ho;subst ho;go_simp)
          (refine hK.out _ _ (fun _=>cI) ?_;clear hK K';try simp only [pQ,pN,pZ,pS])
          refine zU (by kernel_rfl) (NoPanic.normal ?_) _
          exact ⟨rfl,⟨a8,n8,c8,a9,n9,c9,gN⟩,by rfl,cI⟩
        rintro ⟨a8,n8,c8,a9,n9,c9,gN⟩ w7 np
        simp only [pQ,pN,pZ,pS]
        have H7:=bU np
        clear np fD CRP
        go_wp2_with fail
        go_roundw
        case rel=>exact ⟨j+1,m,q3,p3,BB,_,rfl,by omega,by go_num,rfl,by omega,zzT HQ.out.1 H7.out,by rw [sM.out];exact HQ.out.2.below H7.out⟩
        case measure=>simp [intOf];omega
       ·subst ho
        have sM:=bU (show ((qT t b r).take (j+1)).flatMap (fAt t b r)=((qT t b r).take j).flatMap (fAt t b r)++j7 t (l++[xq]) by rw [im.out,hf])
        have HINX:=bU cC
        clear hf HRT im cC
        go_upto_region 16 with (fail)
        refine ji (X:=Option Addr×Nat×Nat×Option Addr×Nat×Nat×Nat) (fun zz x=>((((((((((((zz.put (some 61) (.agg #[.slice ta t.args.length tc])).put (some 62) (.agg #[str s',.int .i64 v',.slice a2 n2 c2,.slice a3 n3 c3])).put (some 63) (.slice (some ⟨g,0,none⟩) m2 d2)).put (some 64) (.int .i64 (j:Nat))).put (some 65) (.pointer (some ⟨g,j*2,none⟩))).put (some 66) (.agg #[.slice lv l.length lc,.slice lp l.length ld])).put (some 67) (.tuple #[.agg #[.slice x.1 x.2.1 x.2.2.1,.slice x.2.2.2.1 x.2.2.2.2.1 x.2.2.2.2.2.1],.bool true])).put (some 60) (.tuple #[.agg #[.slice x.1 x.2.1 x.2.2.1,.slice x.2.2.2.1 x.2.2.2.2.1 x.2.2.2.2.2.1],.bool true])).put (some 68) (.agg #[.slice x.1 x.2.1 x.2.2.1,.slice x.2.2.2.1 x.2.2.2.2.1 x.2.2.2.2.2.1])).put (some 69) (.bool true)).put (some 16) (.pointer (some ⟨x.2.2.2.2.2.2,0,none⟩))).put (some 17) (.bool true))) (fun x w7=>Below wq.heap.size wq w7/\w7.heap[x.2.2.2.2.2.2]? = some (.cells #[.slice x.1 x.2.1 x.2.2.1,.slice x.2.2.2.1 x.2.2.2.2.1 x.2.2.2.2.2.1] 33 (0,0))/\wq.heap.size<=x.2.2.2.2.2.2/\zC w7 (l++[xq]) (.slice x.1 x.2.1 x.2.2.1) (.slice x.2.2.2.1 x.2.2.2.2.1 x.2.2.2.2.2.1)) ?_ ?_
        ·refine wp_region_noPanic ?_
         refine zX (fun w'=>Below wq.heap.size wq w') (fun _=>false) (by kernel_rfl) ?_
         obtain ⟨y0,cM⟩:=zzN (wq.drew)
         rw [cM]
         have bO:Below wq.heap.size wq y0:=by rw [<- cM];exact Below.drew (bP _ _)
         obtain ⟨dr,dH⟩:∃ x:Nat->Nat,x=fun _=>0:=⟨_,rfl⟩
         clear cM dH
         refine tk [0,1,2,3,4,5] bO ?_
         (intro d hd;simp [tkD] at hd;subst hd;simp only [tks,pQ,pZ,pS])
         iterate 6 (refine ⟨?_,?_,?_⟩;rotate_left;· (intro oi ho;simp at ho;subst ho;refine Or.inl ⟨by rfl,fun w' bR=>?_⟩;obtain ⟨⟨e0,e1,e2,e3,e4⟩,e5,e6⟩:=fD.out w' bR;go_simp;try with_reducible rfl))
         refine kK 6 10 (by kernel_rfl) ?_ ?_
         ·(intro o6 ho K' hK;simp at ho;subst ho)
          go_simp
          go_at_call 51
          (with_reducible refine (CRP.out _ bO).mono ?_)
          rintro en y1 ⟨a8,n8,c8,a9,n9,c9,rfl,hb,dU,dQ⟩
          clear dU
          have CP:Hid (zC y1 (l++[xq]) (.slice a8 n8 c8) (.slice a9 n9 c9)):=(dQ xq rfl).1
          clear dQ
          have bj:Below wq.heap.size wq y1:=zzT bO hb
          have tC:=bU hb;clear hb
          (refine hK.out _ _ (fun _=>bj) ?_;clear hK K';try simp only [pQ,pN,pZ,pS])
          refine tk [7,8,9] bj ?_
          (intro d hd;simp [tkD] at hd;subst hd;simp only [tks,pQ,pZ,pS])
          iterate 3 (refine ⟨?_,?_,?_⟩;rotate_left;· (intro oi ho;simp at ho;subst ho;refine Or.inl ⟨by rfl,fun w' bR=>?_⟩;go_simp;try with_reducible rfl))
          (refine on 10 ?_;intro o ho K' hK;simp at ho;subst ho;go_simp)
          (refine hK.out _ _ (fun _=>bj.alloc bj.size _) ?_;clear hK K';try simp only [pQ,pN,pZ,pS])
          obtain ⟨y2,bD⟩:=zzN (y1.alloc (.cells #[.slice none 0 0,.slice none 0 0] 33))
          obtain ⟨gN,mD⟩:=zzN (y1.heap.size)
          rw [bD,mD]
          have cK:Below wq.heap.size wq y2:=by rw [<- bD];exact bj.alloc bj.size _
          obtain ⟨fZ,bT⟩:=zzN (zF dr gN 3)
          have CP:Hid (zC y2 (l++[xq]) (.slice a8 n8 c8) (.slice a9 n9 c9)):=by rw [<- bD];exact CP.out.below ((bP _ _).alloc (bX _) _)
          have EN:Hid (y2.heap[gN]? = some (.cells #[.slice none 0 0,.slice none 0 0] 33 (0,0))/\fZ gN=3/\wq.heap.size<=gN):=by rw [<- bD,<- bT,<- mD];exact ⟨zS _ _,by unfold zF;rw [if_pos rfl],bj.size⟩
          clear bD mD bT
          (refine on 11 ?_;intro o ho K' hK;simp at ho;subst ho)
          obtain ⟨uN0,AI⟩:∃ u,y2.cell? ⟨gN,0,none⟩=some u:=⟨_,by simp [World.cell?,EN.out.1];rfl⟩
          have AF:y2.frozen? ⟨gN,0,none⟩=false:=by simp [World.frozen?,EN.out.1]
          obtain ⟨uN1,AH⟩:∃ u,y2.cell? ⟨gN,1,none⟩=some u:=⟨_,by simp [World.cell?,EN.out.1];rfl⟩
          have AE:y2.frozen? ⟨gN,1,none⟩=false:=by simp [World.frozen?,EN.out.1]
          go_simp
          (refine hK.out _ _ (fun _=>((cK.setCell (p:=⟨gN,0,none⟩) EN.out.2.2 _).setCell (p:=⟨gN,1,none⟩) EN.out.2.2 _)) ?_;clear hK K';try simp only [pQ,pN,pZ,pS])
          obtain ⟨y3,bD⟩:=zzN (((y2.setCell ⟨gN,0,none⟩ (.slice a8 n8 c8)).setCell ⟨gN,1,none⟩ (.slice a9 n9 c9)))
          rw [bD]
          have ce:Below wq.heap.size wq y3:=by rw [<- bD];exact ((cK.setCell (p:=⟨gN,0,none⟩) EN.out.2.2 _).setCell (p:=⟨gN,1,none⟩) EN.out.2.2 _)
          have bf:But (fun i=>i=gN) y2 y3:=by rw [<- bD];exact (((But.refl (fun i=>i=gN) y2).setCell (p:=⟨gN,0,none⟩) (.inl rfl) _).setCell (p:=⟨gN,1,none⟩) (.inl rfl) _)
          have bT:∀ g,g=gN->fZ g=3:=fun g e=>by rw [e];exact EN.out.2.1
          have CP:Hid (zC y3 (l++[xq]) (.slice a8 n8 c8) (.slice a9 n9 c9)):=CP.out.but bf (CP.out.notBox EN.out.1 (by decide) (by decide))
          have EN:Hid (y3.heap[gN]? = some (.cells #[.slice a8 n8 c8,.slice a9 n9 c9] 33 (0,0))/\fZ gN=3/\wq.heap.size<=gN):=⟨by rw [<- bD];exact (zK (zK EN.out.1)),EN.out.2⟩
          clear bD bf bT AI AF AH AE
          (refine on 12 ?_;intro o ho K' hK;simp at ho;subst ho;go_simp)
          (refine hK.out _ _ (fun _=>ce) ?_;clear hK K';try simp only [pQ,pN,pZ,pS])
          refine zU (by kernel_rfl) (NoPanic.normal ?_) _
          exact ⟨rfl,⟨a8,n8,c8,a9,n9,c9,gN⟩,by rfl,ce,EN.out.1,EN.out.2.2,CP.out⟩
         ·(intro o10 ho K' hK;simp at ho;subst ho)
          go_simp
          (refine hK.out _ _ (fun _=>bO.alloc bO.size _) ?_;clear hK K';try simp only [pQ,pN,pZ,pS])
          obtain ⟨y5,bD⟩:=zzN (y0.alloc (.cells #[.slice none 0 0,.slice none 0 0] 33))
          obtain ⟨gN,mD⟩:=zzN (y0.heap.size)
          rw [bD,mD]
          have dT:Below wq.heap.size wq y5:=by rw [<- bD];exact bO.alloc bO.size _
          obtain ⟨ff,bT⟩:=zzN (zF dr gN 3)
          have EN:Hid (y5.heap[gN]? = some (.cells #[.slice none 0 0,.slice none 0 0] 33 (0,0))/\ff gN=3/\wq.heap.size<=gN):=by rw [<- bD,<- bT,<- mD];exact ⟨zS _ _,by unfold zF;rw [if_pos rfl],bO.size⟩
          clear bD mD bT
          (refine on 6 ?_;intro o ho K' hK;simp at ho;subst ho;go_simp)
          go_at_call 51
          (with_reducible refine (CRP.out _ dT).mono ?_)
          rintro en y6 ⟨a8,n8,c8,a9,n9,c9,rfl,hb,dU,dQ⟩
          clear dU
          have CP:Hid (zC y6 (l++[xq]) (.slice a8 n8 c8) (.slice a9 n9 c9)):=(dQ xq rfl).1
          clear dQ
          have cP:Below wq.heap.size wq y6:=zzT dT hb
          have EN:Hid (y6.heap[gN]? = some (.cells #[.slice none 0 0,.slice none 0 0] 33 (0,0))/\ff gN=3/\wq.heap.size<=gN):=⟨(hb.block _ (zZ EN.out.1)).trans EN.out.1,EN.out.2⟩
          have DF:=bU hb;clear hb
          (refine hK.out _ _ (fun _=>cP) ?_;clear hK K';try simp only [pQ,pN,pZ,pS])
          refine tk [7,8,9] cP ?_
          (intro d hd;simp [tkD] at hd;subst hd;simp only [tks,pQ,pZ,pS])
          iterate 3 (refine ⟨?_,?_,?_⟩;rotate_left;· (intro oi ho;simp at ho;subst ho;refine Or.inl ⟨by rfl,fun w' bR=>?_⟩;go_simp;try with_reducible rfl))
          (refine on 11 ?_;intro o ho K' hK;simp at ho;subst ho)
          obtain ⟨uN0,AI⟩:∃ u,y6.cell? ⟨gN,0,none⟩=some u:=⟨_,by simp [World.cell?,EN.out.1];rfl⟩
          have AF:y6.frozen? ⟨gN,0,none⟩=false:=by simp [World.frozen?,EN.out.1]
          obtain ⟨uN1,AH⟩:∃ u,y6.cell? ⟨gN,1,none⟩=some u:=⟨_,by simp [World.cell?,EN.out.1];rfl⟩
          have AE:y6.frozen? ⟨gN,1,none⟩=false:=by simp [World.frozen?,EN.out.1]
          go_simp
          (refine hK.out _ _ (fun _=>((cP.setCell (p:=⟨gN,0,none⟩) EN.out.2.2 _).setCell (p:=⟨gN,1,none⟩) EN.out.2.2 _)) ?_;clear hK K';try simp only [pQ,pN,pZ,pS])
          obtain ⟨y7,bD⟩:=zzN (((y6.setCell ⟨gN,0,none⟩ (.slice a8 n8 c8)).setCell ⟨gN,1,none⟩ (.slice a9 n9 c9)))
          rw [bD]
          have cI:Below wq.heap.size wq y7:=by rw [<- bD];exact ((cP.setCell (p:=⟨gN,0,none⟩) EN.out.2.2 _).setCell (p:=⟨gN,1,none⟩) EN.out.2.2 _)
          have bf:But (fun i=>i=gN) y6 y7:=by rw [<- bD];exact (((But.refl (fun i=>i=gN) y6).setCell (p:=⟨gN,0,none⟩) (.inl rfl) _).setCell (p:=⟨gN,1,none⟩) (.inl rfl) _)
          have bT:∀ g,g=gN->ff g=3:=fun g e=>by rw [e];exact EN.out.2.1
          have CP:Hid (zC y7 (l++[xq]) (.slice a8 n8 c8) (.slice a9 n9 c9)):=CP.out.but bf (CP.out.notBox EN.out.1 (by decide) (by decide))
          have EN:Hid (y7.heap[gN]? = some (.cells #[.slice a8 n8 c8,.slice a9 n9 c9] 33 (0,0))/\ff gN=3/\wq.heap.size<=gN):=⟨by rw [<- bD];exact (zK (zK EN.out.1)),EN.out.2⟩
          clear bD bf bT AI AF AH AE
          (refine on 12 ?_;intro o ho K' hK;simp at ho;subst ho;go_simp)
          (refine hK.out _ _ (fun _=>cI) ?_;clear hK K';try simp only [pQ,pN,pZ,pS])
          refine zU (by kernel_rfl) (NoPanic.normal ?_) _
          exact ⟨rfl,⟨a8,n8,c8,a9,n9,c9,gN⟩,by rfl,cI,EN.out.1,EN.out.2.2,CP.out⟩
        rintro ⟨a8,n8,c8,a9,n9,c9,gN⟩ w7 ⟨np,fO,mD,Az⟩
        dsimp only at np fO mD Az
        simp only [pQ,pN,pZ,pS]
        obtain ⟨z0,z1,_,_⟩:=zJ fO
        have AC:=HO.out.2.2.1.trans ((zzT HQ.out.1 np).mono HO.out.2.2.1.size)
        have EY:=CN.out w7 AC (l++[xq]) _ _ Az HINX.out (by rw [List.length_append,List.length_singleton];have:=HLL.out;omega)
        unfold PlsQ at EY
        have EY:=bU EY
        obtain ⟨tk0,_⟩:=KEY.out w7 AC
        have H7:=bU np
        clear np fO mD Az AC fD CRP
        go_wp2_with fail
        (with_reducible refine EY.out.mono ?_)
        rintro en w8 ⟨a6,m6,c6,us6,rfl,dg,hN8⟩
        have ri:=zzT H7.out dg
        have C0:m6<=193+7:=by have h1:=nextL_len HG.out.atoms (l++[xq]);have h2:=hN8.len;have h3:=HLL.out;rw [List.length_append,List.length_singleton] at h1;omega
        have H8:=bU (bY ri hN8)
        clear dg hN8 ri EY z0 z1 tk0
        go_wp2_with (at_builtin;refine zB rfl _ _ 26 rfl 33 (.agg #[.slice none 0 0,.slice none 0 0]) 2 48 Tryz.underlying26 Tryz.infoPlay rfl (by decide) (.slice p3 m q3) m (plC BB) rfl ?c1 (.slice a6 m6 c6) m6 (plC us6) rfl ?c2 ?c3 ?c4 ?_)
        case c1=>exact (HQ.out.2.below H8.out.1).own
        case c2=>exact zR.ofOwn H8.out.2.own H8.out.2.rd.one
        case c3=>unfold maxLen;omega
        case c4=>omega
        intro a7 c7 w9 dD bh cU
        have m_:=(HQ.out.2.below H8.out.1).cat H8.out.2 (bC HQ.out.1.size H7.out.size) (bC HQ.out.1.size H8.out.1.size) (fun g hg=>bH (HQ.out.2.lt g hg) H7.out.size) dD bh cU
        have dK:Below wr.heap.size wr w9:=(zzT HQ.out.1 H8.out.1).trans (bh.toBelow (bC HQ.out.1.size H8.out.1.size) fun g hg e=>by have:=HQ.out.2.new g (.inl e);omega)
        rw [<- sM.out] at m_
        obtain ⟨M3,hM3⟩:=zzN (m+m6)
        rw [hM3] at m_ ⊢
        have H9:=bU (bY dK m_)
        have hM3b:M3<=(j+1)*200:=by omega
        clear dD bh cU m_ dK hM3
        go_wp2_with fail
        go_roundw
        case rel=>exact ⟨j+1,M3,c7,a7,_,_,rfl,by omega,by go_num,rfl,hM3b,H9.out.1,H9.out.2⟩
        case measure=>simp [intOf];omega
      ·have hjI:¬ (j:Int)<(m2:Int):=by omega
       obtain rfl:j=m2:=by omega
       have hNL:((qT t b r).take j).flatMap (fAt t b r)=vt t b r:=by rw [last_flat,List.take_of_length_le (by rw [HO.out.2.2.2.2.len];exact bX _)]
       have HKL:=bU (show (jX t b r).length=n1/\(((qT t b r).take j).flatMap (fAt t b r)).length=m from ⟨HO.out.2.2.2.1.len,HQ.out.2.len⟩)
       by_cases tu:300<n1+m
       ·have h3I:(300:Int)<(n1:Int)+(m:Int):=by omega
        have E:=bU (oZ.out r j iP.out (by rw [HKL.out.1,HKL.out.2];exact tu))
        have hwrap:m<=60000:=by omega
        have tq:=bU (zzT HO.out.2.2.1 HQ.out.1)
        clear tu hNL El
        go_wp2_with fail
        go_ret2
        rw [E.out]
        exact ⟨_,_,_,[],rfl,(zzT HX.out.2.1 tq.out).trans (((bP _ _).alloc (bX _) _).mono (bC HX.out.2.1.size tq.out.size)),NxR.empty _ _ (bC HX.out.2.1.size tq.out.size)⟩
       ·have h3I:¬ (300:Int)<(n1:Int)+(m:Int):=by omega
        rw [hNL] at HQ
        have hOq:=HO.out.2.2.2.1.below HQ.out.1
        have HK:=bU hOq
        clear El hOq hNL
        go_wp2_with (at_builtin;refine zB rfl _ _ 26 rfl 33 (.agg #[.slice none 0 0,.slice none 0 0]) 2 48 Tryz.underlying26 Tryz.infoPlay rfl (by decide) (.slice a1 n1 c1) n1 (plC us1) rfl ?c1 (.slice p3 m q3) m (plC BB) rfl ?c2 ?c3 ?c4 ?_)
        case c1=>exact HK.out.own
        case c2=>exact zR.ofOwn HQ.out.2.own HQ.out.2.rd.one
        case c3=>unfold maxLen;omega
        case c4=>omega
        intro a7 c7 w7 dD bh cU
        have tQ:∀ g,(Value.slice a1 n1 c1).ownBlock=some g->g<wr.heap.size:=fun g hg=>HO.out.2.2.2.1.lt g (.inl hg)
        have m_:=HK.out.cat HQ.out.2 HO.out.2.2.1.size (bC HO.out.2.2.1.size HQ.out.1.size) HO.out.2.2.2.1.lt dD bh cU
        have fO:=(HQ.out.2.off HK.out.own bh fun g hg e=>by have h1:=tQ g e;have h2:=HQ.out.2.new g (.inl hg);omega).mono HO.out.2.2.1.size
        have dK:Below X.heap.size X w7:=(zzT HO.out.2.2.1 HQ.out.1).trans (bh.toBelow (bC HO.out.2.2.1.size HQ.out.1.size) fun g hg e=>by have:=HK.out.new g (.inl e);omega)
        have H7:=bU (bY dK (bY m_ fO))
        clear dD bh cU m_ fO dK tQ tu
        have hX2:IntKind.i64.wrap ((Z:Int)+2)=((2*(r+1)+1:Nat):Int):=by rw [qD _ (by omega) (by omega)];have:=HZ.out;omega
        go_wp2_with fail
        go_roundw
        case rel=>exact ⟨r+1,n1+m,c7,a7,_,m,q3,p3,_,_,rfl,by omega,iP.out,rfl,rfl,rfl,by omega,by omega,H7.out.1,H7.out.2.1,H7.out.2.2⟩
        case measure=>simp [intOf];have:=HZ.out;omega
    ·have cT:¬ ((2*r+1:Nat):Int)<=(N:Int):=by omega
     have hltI2:¬ 2*(r:Int)+1<=(N:Int):=by omega
     have E:=bU (HDN.out r (by omega) (by rw [HO.out.2.2.2.1.len];exact HO.out.2.1))
     clear bA
     go_wp2_with fail
     go_ret2
     rw [E.out]
     exact ⟨_,_,_,_,rfl,zzT HX.out.2.1 HO.out.2.2.1,HO.out.2.2.2.1.mono HX.out.2.1.size⟩
theorem i64_xor_nat (a b:Nat) (ha:a<9223372036854775808) (hb:b<9223372036854775808):bits .xor .i64 (a:Int) (b:Int)=((a ^^^ b:Nat):Int):=by
 have hx:a ^^^ b<2 ^ 63:=Nat.xor_lt_two_pow (by omega) (by omega)
 show IntKind.i64.wrap ((BitVec.ofInt 64 (a:Int) ^^^ BitVec.ofInt 64 (b:Int)).toNat:Int)=_
 rw [BitVec.toNat_xor,ofInt_u64 a (by omega),ofInt_u64 b (by omega)]
 generalize a ^^^ b=x at *
 simp [IntKind.wrap,IntKind.bits,IntKind.signed]
 omega
def kq (w:World) (rd P:Nat):Prop :=
 ∃ (a:Option Addr) (n c p:Nat),w.heap[rd]? = some (.cells #[.slice a n c,.int .i64 (p:Nat)] 101 (0,0))/\p<=P/\n<=2000 /\
   (n=0\/∃ b o,a=some ⟨b,o,none⟩/\b<rd/\∀ k,k<n->∃ x:Nat,x<256/\w.cell? ⟨b,o+k,none⟩=some (.int .u8 x))
theorem kq.lt {w:World} {rd P:Nat} (h:kq w rd P):rd<w.heap.size:=by
 obtain ⟨a,n,c,p,h1,_⟩:=h;exact zZ h1
theorem kq.mono {w:World} {rd P Q:Nat} (h:kq w rd P) (k:P<=Q):kq w rd Q:=by
 obtain ⟨a,n,c,p,h1,h2,h3⟩:=h;exact ⟨a,n,c,p,h1,bC h2 k,h3⟩
theorem kq.below {w w':World} {rd P:Nat} (h:kq w rd P) (hb:Below w.heap.size w w'):kq w' rd P:=by
 obtain ⟨a,n,c,p,h1,h2,h3,h4⟩:=h
 refine ⟨a,n,c,p,(hb.block _ (zZ h1)).trans h1,h2,h3,?_⟩
 rcases h4 with h4 | ⟨b,o,e,bm,hk⟩
 ·exact .inl h4
 ·refine .inr ⟨b,o,e,bm,fun k iF=>?_⟩
  obtain ⟨x,hx,hc⟩:=hk k iF
  exact ⟨x,hx,(hb.cell (bW w _ hc)).trans hc⟩
theorem kq.but {m:Nat->Prop} {w w':World} {rd P:Nat} (h:kq w rd P) (hb:But m w w') (hm:∀ i,i<=rd->¬ m i):kq w' rd P:=by
 obtain ⟨a,n,c,p,h1,h2,h3,h4⟩:=h
 refine ⟨a,n,c,p,(hb.block _ (zZ h1) (hm _ (bX _))).trans h1,h2,h3,?_⟩
 rcases h4 with h4 | ⟨b,o,e,bm,hk⟩
 ·exact .inl h4
 ·refine .inr ⟨b,o,e,bm,fun k iF=>?_⟩
  obtain ⟨x,hx,hc⟩:=hk k iF
  exact ⟨x,hx,(hb.cell (bW w _ hc) (hm _ (Nat.le_of_lt bm))).trans hc⟩
theorem kq.drew {w:World} {rd P:Nat} (h:kq w rd P):kq w.drew rd P:=h
theorem kq.drewN {w:World} {rd P:Nat} (h:kq w rd P) (n:Nat):kq (w.drewN n) rd P:=h
theorem kq.alloc {w:World} {rd P:Nat} (h:kq w rd P) (o:Obj):kq (w.alloc o) rd P:=h.below ((bP _ _).alloc (bX _) _)
theorem below_dN_but {m:Nat->Prop} {a w:World} (h:But m a w) (n:Nat):But m a (w.drewN n):=⟨h.os,h.tape,h.output,h.size,h.block⟩
def Picked (rd P n:Nat) (w:World) (en:Ending) (w':World):Prop :=
 ∃ v:Nat,en=.returned (.int .i64 (v:Nat))/\v<n/\But (· = rd) w w'/\kq w' rd (P+1)
theorem j8 {z:Int} {n:Nat} (e:z=(n:Int)) (h:n<9223372036854775808):IntKind.i64.wrap z=(n:Int):=by rw [e];exact ki n h
structure Mix (p m x1 x2 n:Nat) (I A B C J D E G H Q R X Y Z V:Nat):Prop where
 i:(p:Int).tmod (m:Int)=(I:Int)
 a:IntKind.i64.wrap ((x1:Int)*131)=(A:Int)
 b:IntKind.i64.wrap ((p:Int)*7)=(B:Int)
 c:IntKind.i64.wrap ((B:Int)+3)=(C:Int)
 j:(C:Int).tmod (m:Int)=(J:Int)
 d:IntKind.i64.wrap ((x2:Int)*1117)=(D:Int)
 e:IntKind.i64.wrap ((A:Int)+(D:Int))=(E:Int)
 g:IntKind.i64.wrap ((p:Int)*29)=(G:Int)
 h:IntKind.i64.wrap ((E:Int)+(G:Int))=(H:Int)
 q:(p:Int).tdiv (m:Int)=(Q:Int)
 r:IntKind.i64.wrap ((Q:Int)*53)=(R:Int)
 x:IntKind.i64.wrap ((H:Int)+(R:Int))=(X:Int)
 y:(X:Int).tdiv 64=(Y:Int)
 z:bits .xor .i64 (X:Int) (Y:Int)=(Z:Int)
 v:(Z:Int).tmod (n:Int)=(V:Int)
 vn:V<n
 wq:IntKind.i64.wrap (Q:Int)=(Q:Int)
 wy:IntKind.i64.wrap (Y:Int)=(Y:Int)
theorem mix_any (p m x1 x2 n:Nat) (hp:p<=1099511627776) (ft:x1<256) (eP:x2<256) (hn:0<n) :
 ∃ A B D E G H Q R X Y Z V:Nat,Mix p m x1 x2 n (p % m) A B (p*7+3) ((p*7+3) % m) D E G H Q R X Y Z V:=by
 have hq:p / m<=p:=Nat.div_le_self _ _
 have hX:x1*131+x2*1117+p*29+p / m*53<9223372036854775808:=by omega
 have hY:(x1*131+x2*1117+p*29+p / m*53) / 64<9223372036854775808:=by omega
 refine ⟨x1*131,p*7,x2*1117,x1*131+x2*1117,p*29,x1*131+x2*1117+p*29,p / m,p / m*53,x1*131+x2*1117+p*29+p / m*53,(x1*131+x2*1117+p*29+p / m*53) / 64,(x1*131+x2*1117+p*29+p / m*53) ^^^ ((x1*131+x2*1117+p*29+p / m*53) / 64),((x1*131+x2*1117+p*29+p / m*53) ^^^ ((x1*131+x2*1117+p*29+p / m*53) / 64)) % n,?_⟩
 exact ⟨uh _ _,j8 (by omega) (by omega),j8 (by omega) (by omega),j8 (by omega) (by omega),uh _ _,j8 (by omega) (by omega),j8 (by omega) (by omega),j8 (by omega) (by omega),j8 (by omega) (by omega),
  p_ _ _,j8 (by omega) (by omega),j8 (by omega) hX,p_ _ 64,i64_xor_nat _ _ hX hY,uh _ _,Nat.mod_lt _ hn,ki _ (by omega),ki _ hY⟩
set_option maxRecDepth 100000 in
theorem qA (rd P n:Nat) (w:World) (h:kq w rd P) (hn:0<n) (di:n<=16777216) (hP:P<=1099511627776) :
 Calls Tryz.prog 48 #[.pointer (some ⟨rd,0,none⟩),.int .i64 (n:Nat)] w (Picked rd P n w):=by
 obtain ⟨a,m,c,p,h1,hp,hm,hcs⟩:=h
 have hpP:p<=1099511627776:=by omega
 have c0:w.cell? ⟨rd,0,none⟩=some (.slice a m c):=by simp [World.cell?,h1]
 have c1:w.cell? ⟨rd,1,none⟩=some (.int .i64 (p:Nat)):=by simp [World.cell?,h1]
 have f1:w.frozen? ⟨rd,1,none⟩=false:=by simp [World.frozen?,h1]
 have bA:=zZ h1
 obtain ⟨W,hW⟩:=zzN (w.setCell ⟨rd,1,none⟩ (.int .i64 ((p:Int)+1)))
 have fP:W.heap[rd]? = some (.cells #[.slice a m c,.int .i64 ((p+1:Nat):Int)] 101 (0,0)):=by
  have h':w.heap[rd]=.cells #[.slice a m c,.int .i64 (p:Nat)] 101 (0,0):=by simpa [Array.getElem?_eq_getElem bA] using h1
  rw [<- hW]
  show (w.heap.modify rd _)[rd]? = _
  rw [Array.getElem?_eq_getElem (by simpa using bA),Array.getElem_modify_self,h']
  simp
 have ch:But (· = rd) w W:=by rw [<- hW];exact (But.refl (· = rd) _).setCell (p:=⟨rd,1,none⟩) (.inl rfl) _
 have d0:W.cell? ⟨rd,0,none⟩=some (.slice a m c):=by simp [World.cell?,fP]
 have d1:W.cell? ⟨rd,1,none⟩=some (.int .i64 ((p:Int)+1)):=by simp [World.cell?,fP]
 have eH:kq W rd (P+1):=by
  refine ⟨a,m,c,p+1,fP,by omega,hm,?_⟩
  rcases hcs with h4 | ⟨b,o,e,bm,hk⟩
  ·exact .inl h4
  ·refine .inr ⟨b,o,e,bm,fun k iF=>?_⟩
   obtain ⟨x,hx,hc⟩:=hk k iF
   exact ⟨x,hx,(ch.cell (bW w _ hc) (fun e=>Nat.ne_of_lt bm e)).trans hc⟩
 have RD:=bU eH;have BT:=bU ch
 have g0:¬ (n:Int)<1:=by omega
 have gn:((n:Int) == 0)=false:=by rw [beq_eq_false_iff_ne];omega
 have hWb:∀ (b o:Nat) (v:Value),b≠rd->w.cell? ⟨b,o,none⟩=some v->W.cell? ⟨b,o,none⟩=some v:=fun b o v bm hc =>
  (ch.cell (p:=⟨b,o,none⟩) (bW w ⟨b,o,none⟩ hc) (fun e=>bm e)).trans hc
 have WB:=bU hWb;have AQ:=bU hcs;have HW:=bU hW
 clear eH ch h1 fP hWb hcs hW
 go_enter Tryz.func48,Tryz.ntmps48
 go_upto_region 2 with (fail)
 rw [HW.out]
 clear c0 c1 f1
 rcases AQ.out with h0 | ⟨b,o,e,bm,hk⟩
 ·subst h0
  go_wp2_with fail
  go_ret
  exact ⟨0,rfl,hn,BT.out,RD.out⟩
 ·subst e
  have HK:=bU hk;clear hk
  by_cases C_:m=0
  ·subst C_
   go_wp2_with fail
   go_ret
   exact ⟨0,rfl,hn,BT.out,RD.out⟩
  have gm:((m:Int) == 0)=false:=by rw [beq_eq_false_iff_ne];omega
  by_cases hpm:p<m
  ·obtain ⟨x,hx,hc⟩:=HK.out p hpm
   have e1:=WB.out _ _ _ (Nat.ne_of_lt bm) hc
   have hpm':(p:Int)<(m:Int):=by omega
   have et:(x:Int).tmod (n:Int)=((x % n:Nat):Int):=uh _ _
   have hv:x % n<n:=Nat.mod_lt _ hn
   have HV:=bU hv;clear hv hc
   go_wp2_with fail
   go_ret
   exact ⟨x % n,rfl,HV.out,BT.out,RD.out⟩
  ·have hpm':¬ (p:Int)<(m:Int):=by omega
   obtain ⟨x1,ft,fc⟩:=HK.out (p % m) (Nat.mod_lt _ (by omega))
   obtain ⟨x2,eP,eB⟩:=HK.out ((p*7+3) % m) (Nat.mod_lt _ (by omega))
   have e1:=WB.out _ _ _ (Nat.ne_of_lt bm) fc
   have e2:=WB.out _ _ _ (Nat.ne_of_lt bm) eB
   obtain ⟨A,B,D,E,G,H,Q,R,X,Y,Z,V,M⟩:=mix_any p m x1 x2 n hpP ft eP hn
   have hI:p % m<m:=Nat.mod_lt _ (by omega)
   have hJ:(p*7+3) % m<m:=Nat.mod_lt _ (by omega)
   generalize p % m=I at *
   generalize (p*7+3) % m=J at *
   generalize p*7+3=C at *
   have hI':(I:Int)<(m:Int):=by omega
   have hJ':(J:Int)<(m:Int):=by omega
   have q1:=M.i;have q2:=M.a;have q3:=M.b;have q4:=M.c;have q5:=M.j;have q6:=M.d;have q7:=M.e;have q8:=M.g;have q9:=M.h
   have q10:=M.q;have q11:=M.r;have q12:=M.x;have q13:=M.y;have q14:=M.z;have q15:=M.v;have q16:=M.wq;have q17:=M.wy
   have MV:=bU M.vn
   clear fc eB M
   go_wp2_with fail
   go_quiet (fail)
   go_wp2_with fail
   go_ret
   exact ⟨V,rfl,MV.out,below_dN_but BT.out _,RD.out.drewN _⟩
def uq (w:World) (rd:Nat) (l:Value) (xs:List Bs):Prop :=
 ∃ b o c,l=.slice (some ⟨b,o,none⟩) xs.length c/\b≠rd/\∀ (k:Nat) (s:Bs),xs[k]? = some s->w.cell? ⟨b,o+k,none⟩=some (str s)
theorem uq.new {w:World} {rd:Nat} (eH:rd<w.heap.size) (xs:List Bs) (n:Nat) (hn:n=xs.length) (e:TypeId):uq (w.alloc (.cells (xs.map str).toArray e)) rd (.slice (some ⟨w.heap.size,0,none⟩) n n) xs:=by
 subst hn
 refine ⟨w.heap.size,0,_,rfl,by omega,fun k s hs=>?_⟩
 rw [Nat.zero_add]
 simp only [World.cell?,zS]
 simp [hs]
def Took (rd P:Nat) (xs:List Bs) (w:World) (en:Ending) (w':World):Prop :=
 ∃ s∈xs,en=.returned (str s)/\But (· = rd) w w'/\kq w' rd P
theorem wC (rd P:Nat) (l:Value) (xs:List Bs) (w:World) (h:kq w rd P) (hl:uq w rd l xs) (hx:0<xs.length) (eP:xs.length<=16777216) (hP:P<=1099511627776) :
 Calls Tryz.prog 72 #[.pointer (some ⟨rd,0,none⟩),l] w (Took rd (P+1) xs w):=by
 obtain ⟨b,o,c,rfl,bm,hk⟩:=hl
 have HK:=bU hk;clear hk
 go_enter Tryz.func72,Tryz.ntmps72
 go_wp2_with fail
 refine (qA rd P xs.length w h hx eP hP).mono ?_
 rintro en w1 ⟨v,rfl,hv,hb,hr⟩
 obtain ⟨s,hs⟩:∃ s,xs[v]? = some s:=⟨xs[v],by simp [hv]⟩
 have hc:=HK.out v s hs
 have fc:w1.cell? ⟨b,o+v,none⟩=some (str s):=(hb.cell (p:=⟨b,o+v,none⟩) (bW w ⟨b,o+v,none⟩ hc) (fun e=>bm e)).trans hc
 have fb:(v:Int)<(xs.length:Int):=by omega
 have HM:=bU (List.mem_of_getElem? hs)
 clear hs hc
 go_wp2_with fail
 go_ret
 exact ⟨s,HM.out,rfl,hb,hr⟩
def jK:List Bs:=[[98],[40,62,32,98,32,98,41],[40,62,32,98,32,40,62,32,98,32,98,41,41],[40,62,32,40,62,32,98,32,98,41,32,98,41],[40,62,32,40,62,32,98,32,98,41,32,40,62,32,98,32,98,41,41],[40,62,32,40,62,32,40,62,32,98,32,98,41,32,98,41,32,98,41],[40,62,32,40,62,32,98,32,40,62,32,98,32,98,41,41,32,98,41],[40,62,32,98,32,40,62,32,40,62,32,98,32,98,41,32,98,41,41]]
def ui:List Bs:=[[],[99],[40,62,32,98,41],[40,62,32,32,98,32,98,41],[40,62,32,98,32,98,32,98,41],[98,32],[40,62,32,40,62,32,40,62,32,40,62,32,98,32,98,41,32,40,62,32,98,32,98,41,41,32,40,62,32,98,32,98,41,41,32,40,62,32,98,32,40,62,32,98,32,98,41,41,41]]
def yP:List Bs:=[[],[120],[40,48,32,116,41],[40,57,32,116,32,102,41],[40,48,32,32,116,32,102,41],[40,48,48,32,116,32,102,41],[117,32],[40,48,32,116,32,102,32,116,32,102,41]]
def kf:List Bs:=[[116],[102],[116],[102],[117]]
set_option maxRecDepth 100000 in
theorem vp (rd P:Nat) (w:World) (h:kq w rd P) (hP:P<=1099511627776) :
 Calls Tryz.prog 56 #[.pointer (some ⟨rd,0,none⟩)] w (Took rd (P+1) jK w):=by
 have bA:=h.lt
 go_enter Tryz.func56,Tryz.ntmps56
 go_wp2_with fail
 refine (wC rd P _ jK _ (h.alloc _) (uq.new bA jK 8 rfl _) (by decide) (by decide) hP).mono ?_
 rintro en w1 ⟨s,hs,rfl,hb,hr⟩
 have HM:=bU hs;clear hs
 go_wp2_with fail
 go_ret
 exact ⟨s,HM.out,rfl,((But.refl _ w).alloc _).trans hb,hr⟩
set_option maxRecDepth 100000 in
theorem l91Odd_any (rd P:Nat) (w:World) (h:kq w rd P) (hP:P+1<=1099511627776) :
 Calls Tryz.prog 71 #[.pointer (some ⟨rd,0,none⟩)] w (Took rd (P+2) (jK++ui) w):=by
 go_enter Tryz.func71,Tryz.ntmps71
 go_wp2_with fail
 refine (qA rd P 12 w h (by omega) (by omega) (by omega)).mono ?_
 rintro en w1 ⟨v,rfl,hv,bE,dV⟩
 have bA:=dV.lt
 by_cases nS:v=0
 ·subst nS
  go_wp2_with fail
  refine (wC rd (P+1) _ ui _ (dV.alloc _) (uq.new bA ui 7 rfl _) (by decide) (by decide) hP).mono ?_
  rintro en w2 ⟨s,hs,rfl,hb,hr⟩
  have HM:=bU hs;clear hs
  go_wp2_with fail
  go_ret
  exact ⟨s,List.mem_append_right _ HM.out,rfl,(bE.alloc _).trans hb,hr⟩
 ·have mT:((v:Int) == 0)=false:=by rw [beq_eq_false_iff_ne];omega
  go_wp2_with fail
  refine (vp rd (P+1) w1 dV hP).mono ?_
  rintro en w2 ⟨s,hs,rfl,hb,hr⟩
  have HM:=bU hs;clear hs
  go_wp2_with fail
  go_ret
  exact ⟨s,List.mem_append_left _ HM.out,rfl,bE.trans hb,hr⟩
end Go.Proofs.YtfedjhgaeikjmaaGreatDoor

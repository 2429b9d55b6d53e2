/- Walks of functions that the statement reaches, and plain words. No conditions. -/
import Derived.Test.YtdfkiicodfbibaaGreatDoorQ7
set_option linter.unusedVariables false
set_option linter.unusedSimpArgs false
set_option maxHeartbeats 8000000
namespace Go.Proofs.YtdfkiicodfbibaaGreatDoor
open Go.RowKit
set_option maxRecDepth 100000 in
theorem l2Valid_v (F:Nat->Prop) (t:Ty) (tv mv pt:Value) (v:Pl) (w:World) (hk:Rep F w (encS t) tv) (ht:atomsT t<=15) (hm:MvRep F w v mv) (hp:PtRep F w v pt) (h60:v.length<=60) (hl:∀ x∈v,Lim x.1.length) :
 Calls Tryz.prog 164 #[.agg #[tv],.agg #[mv,pt]] w fun en w'=>en=.returned (.bool (allAt t v v.length))/\Below w.heap.size w w':=by
 obtain ⟨ta,tc,rfl⟩:=encS_slice hk
 obtain ⟨ma,mc,rfl,hmc⟩:=hm.cells
 obtain ⟨pa,pc,rfl,hpc⟩:=hp.cells
 obtain ⟨W,hW,hbW,hz,b0,b1⟩:=boxes_2 w (.cells #[.slice ta t.args.length tc] 78) (.cells #[.slice ma v.length mc,.slice pa v.length pc] 33)
 have a0:=one_cell b0
 obtain ⟨c0,c1,_,_⟩:=cells_2 b1
 have hlen:¬ (60:Int)<(v.length:Int):=by omega
 have hne:((v.length:Int) != (v.length:Int))=false:=by simp
 have hkW:=hk.below hbW (fun _ h=>h)
 have HH:=Lib.hid (And.intro hmc (And.intro hpc (And.intro hbW (And.intro hkW hl))))
 have HW:=Lib.hid hW
 have KEYS:=Lib.hid (And.intro a0 (And.intro c0 c1))
 clear hk hm hp hmc hpc hz b0 b1 hkW hbW hW hl
 go_enter Tryz.func164,Tryz.ntmps164
 go_upto_region 1 with (fail)
 rw [HW.out]
 go_wp2_with fail
 clear a0 c0 c1
 go_loopw [5] (fun i wr=>∃ (wz:World) (k:Nat),wz=wr/\k<=v.length/\i=.int .i64 k/\allAt t v k=true/\Below W.heap.size W wz) (fun i _=>v.length-(intOf i).toNat)
 case atStart=>exact ⟨_,0,rfl,Nat.zero_le _,rfl,rfl,Below.refl _ _⟩
 case round =>
  obtain ⟨wr,k,rfl,hk,rfl,hall,hB⟩:=hrel
  have a0:=(hB.cell (World.block_lt_of_cell? _ _ KEYS.out.1)).trans KEYS.out.1
  have d0:=(hB.cell (World.block_lt_of_cell? _ _ KEYS.out.2.1)).trans KEYS.out.2.1
  have d1:=(hB.cell (World.block_lt_of_cell? _ _ KEYS.out.2.2)).trans KEYS.out.2.2
  have HB:=Lib.hid (And.intro hB (zzT HH.out.2.2.1 hB))
  clear hB
  by_cases hlt:k<v.length
  ·have hlt':(k:Int)<(v.length:Int):=by omega
   obtain ⟨⟨m,z⟩,hvk⟩:∃ x,v[k]? = some x:=⟨_,List.getElem?_eq_getElem hlt⟩
   obtain ⟨mb,mo,rfl,_,hmb,hmk⟩:=HH.out.1 k _ hvk
   obtain ⟨pb,po,rfl,_,hpb,hpk⟩:=HH.out.2.1 k _ hvk
   have m0:=(HB.out.2.cell (p:=⟨mb,mo+k,none⟩) hmb).trans hmk
   have p0:=(HB.out.2.cell (p:=⟨pb,po+k,none⟩) hpb).trans hpk
   have hok:=okAt_eq (t:=t) hvk
   have hlm:Lim m.length:=HH.out.2.2.2.2 _ (List.mem_of_getElem? hvk)
   have CM:=Lib.hid (l1Move_any F t (.slice ta t.args.length tc) m wr (HH.out.2.2.2.1.below HB.out.1 (fun _ h=>h)) ht hlm)
   have HA:=Lib.hid (And.intro hall (And.intro hvk hok))
   have FALSE:Hid (okAt t v k=false->allAt t v v.length=false):=Lib.hid (fun h=>allAt_false h hlt)
   clear hall hmb hpb hmk hpk hok
   cases hmv:mvOk t m with
   | false =>
     have E:=Lib.hid (FALSE.out (by rw [HA.out.2.2,hmv];rfl))
     rw [hmv] at CM
     clear FALSE hvk hlm
     go_wp2_with fail
     (with_reducible refine CM.out.mono ?_)
     rintro en w1 ⟨rfl,hb1⟩
     have HB1:=Lib.hid (zzT HB.out.2 hb1)
     clear hb1
     go_wp2_with fail
     go_ret
     exact ⟨by rw [E.out];rfl,HB1.out⟩
   | true =>
     rw [hmv] at CM
     obtain ⟨c,p,hcp⟩:∃ c p,m=c::p:=by
      cases m with
      | nil=>simp [mvOk] at hmv
      | cons c p=>exact ⟨c,p,rfl⟩
     have hpl:p.length<=16777216:=by have:=hlm.le;rw [hcp,List.length_cons] at this;omega
     have CB:=Lib.hid (fun x=>l1Player_any c p hpl x)
     have CE:=Lib.hid (fun x=>l1Enabler_any c p hpl x)
     rw [<- hcp] at CB CE
     obtain ⟨bo,hbo⟩:=zzN (byOpp m)
     obtain ⟨pn,hpn⟩:=zzN (plN m)
     obtain ⟨en0,hen0⟩:=zzN (enab m)
     have hpb:pn=if bo=true then 0 else 1:=by rw [<- hpn,<- hbo];rfl
     rw [hpn] at CB
     rw [hen0] at CE
     have HO:Hid (okAt t v k=((bo == decide (k % 2=0)) && (if k=0 then m == [113] && decide (z = -1) else decide (0<=z) && decide (z<(k:Int)) && !(m == [113]) && ((v[z.toNat]?).map (·.1) == some en0)))):=by
      rw [HA.out.2.2,hmv,hbo,hen0];exact Lib.hid (by rw [Bool.true_and])
     have hen1:m=[113]->en0=[]:=fun h=>by rw [<- hen0,h];rfl
     have HEN:=Lib.hid hen1
     clear hbo hen0 hmv hlm hpl hcp hvk hpn hen1
     by_cases hb1:(pn:Int)=(k:Int) % 2
     ·have hb2:(bo == decide (k % 2=0))=true:=by
       rw [beq_iff_eq]
       cases bo with
       | true=>rw [if_pos rfl] at hpb;symm;rw [decide_eq_true_iff];omega
       | false=>rw [if_neg (by simp)] at hpb;symm;rw [decide_eq_false_iff_not];omega
      replace HO:Hid (okAt t v k=(if k=0 then m == [113] && decide (z = -1) else decide (0<=z) && decide (z<(k:Int)) && !(m == [113]) && ((v[z.toNat]?).map (·.1) == some en0))):=by rw [HO.out,hb2];exact Lib.hid (by rw [Bool.true_and])
      clear hb2 hpb
      by_cases hk0:k=0
      ·have hk0b:((k:Int) == 0)=true:=by rw [hk0];rfl
       replace HO:Hid (okAt t v k=(m == [113] && decide (z = -1))):=by rw [HO.out,if_pos hk0];exact Lib.hid rfl
       have hv0:(0:Int)<(v.length:Int):=by omega
       cases hmq:((m:Bs) == [113]) with
       | false =>
         have hmq2:((m:Bs) != [113])=true:=by rw [bne,hmq];rfl
         have E:=Lib.hid (FALSE.out (by rw [HO.out,hmq];rfl))
         clear FALSE HO hk0
         go_wp2_with fail
         (with_reducible refine CM.out.mono ?_)
         rintro en w1 ⟨rfl,hb1⟩
         have HB1:=Lib.hid (And.intro (zzT HB.out.1 hb1) (zzT HB.out.2 hb1))
         have m1:=(hb1.cell (World.block_lt_of_cell? _ _ m0)).trans m0
         have p1:=(hb1.cell (World.block_lt_of_cell? _ _ p0)).trans p0
         have d2:=(hb1.cell (World.block_lt_of_cell? _ _ d0)).trans d0
         have d3:=(hb1.cell (World.block_lt_of_cell? _ _ d1)).trans d1
         clear hb1 m0 p0 d0 d1 a0
         go_wp2_with fail
         (with_reducible refine (CB.out w1).mono ?_)
         rintro en w2 ⟨rfl,e⟩
         subst w2
         go_wp2_with fail
         go_ret
         exact ⟨by rw [E.out];rfl,HB1.out.2⟩
       | true =>
         have hmq2:((m:Bs) != [113])=false:=by rw [bne,hmq];rfl
         have p00:wr.cell? ⟨pb,po,none⟩=some (.int .i64 z):=by rw [hk0] at p0;exact p0
         by_cases hz:z = -1
         ·have hzb:(z != -1)=false:=by rw [hz];rfl
          have E:=Lib.hid (show allAt t v (k+1)=true by rw [allAt,HA.out.1,HO.out,hmq];simp [hz])
          clear FALSE HO hz hk0
          go_wp2_with fail
          (with_reducible refine CM.out.mono ?_)
          rintro en w1 ⟨rfl,hb1⟩
          have HB1:=Lib.hid (And.intro (zzT HB.out.1 hb1) (zzT HB.out.2 hb1))
          have m1:=(hb1.cell (World.block_lt_of_cell? _ _ m0)).trans m0
          have p1:=(hb1.cell (World.block_lt_of_cell? _ _ p0)).trans p0
          have d2:=(hb1.cell (World.block_lt_of_cell? _ _ d0)).trans d0
          have d3:=(hb1.cell (World.block_lt_of_cell? _ _ d1)).trans d1
          have p10:=(hb1.cell (World.block_lt_of_cell? _ _ p00)).trans p00
          clear p00 hb1 m0 p0 d0 d1 a0
          go_wp2_with fail
          (with_reducible refine (CB.out w1).mono ?_)
          rintro en w2 ⟨rfl,e⟩
          subst w2
          go_wp2_with fail
          go_roundw
          case rel=>exact ⟨_,k+1,rfl,by omega,by go_num,E.out,HB1.out.1⟩
          case measure=>simp [intOf];omega
         ·have hzb:(z != -1)=true:=by rw [bne_iff_ne];exact hz
          have E:=Lib.hid (FALSE.out (by rw [HO.out,hmq];simp [hz]))
          clear FALSE HO hz hk0
          go_wp2_with fail
          (with_reducible refine CM.out.mono ?_)
          rintro en w1 ⟨rfl,hb1⟩
          have HB1:=Lib.hid (And.intro (zzT HB.out.1 hb1) (zzT HB.out.2 hb1))
          have m1:=(hb1.cell (World.block_lt_of_cell? _ _ m0)).trans m0
          have p1:=(hb1.cell (World.block_lt_of_cell? _ _ p0)).trans p0
          have d2:=(hb1.cell (World.block_lt_of_cell? _ _ d0)).trans d0
          have d3:=(hb1.cell (World.block_lt_of_cell? _ _ d1)).trans d1
          have p10:=(hb1.cell (World.block_lt_of_cell? _ _ p00)).trans p00
          clear p00 hb1 m0 p0 d0 d1 a0
          go_wp2_with fail
          (with_reducible refine (CB.out w1).mono ?_)
          rintro en w2 ⟨rfl,e⟩
          subst w2
          go_wp2_with fail
          go_ret
          exact ⟨by rw [E.out];rfl,HB1.out.2⟩
      ·have hk0b:((k:Int) == 0)=false:=by rw [beq_eq_false_iff_ne];omega
       replace HO:Hid (okAt t v k=(decide (0<=z) && decide (z<(k:Int)) && !(m == [113]) && ((v[z.toNat]?).map (·.1) == some en0))):=by rw [HO.out,if_neg hk0];exact Lib.hid rfl
       have hwk:IntKind.i64.wrap ((k:Int)-1)=(k:Int)-1:=by simp [IntKind.wrap,IntKind.bits,IntKind.signed];omega
       have CI:=Lib.hid (fun x=>l6In_any z 0 ((k:Int)-1) x)
       have KEY:Hid (∀ x y,Below wr.heap.size wr y->Below y.heap.size y x->x.cell? ⟨w.heap.size+1,0,none⟩=some (.slice (some ⟨mb,mo,none⟩) v.length mc)/\x.cell? ⟨w.heap.size+1,1,none⟩=some (.slice (some ⟨pb,po,none⟩) v.length pc)/\x.cell? ⟨pb,po+k,none⟩=some (.int .i64 z)):=Lib.hid (fun x y hy hx=>by
        have key:∀ {p:Addr} {u:Value},wr.cell? p=some u->x.cell? p=some u:=fun h=>by
         have h1:=(hy.cell (World.block_lt_of_cell? _ _ h)).trans h
         exact (hx.cell (World.block_lt_of_cell? _ _ h1)).trans h1
        exact ⟨key d0,key d1,key p0⟩)
       by_cases hzr:0<=z/\z<=(k:Int)-1
       ·have hin:(decide ((0:Int)<=z) && decide (z<=(k:Int)-1))=true:=by simp only [Bool.and_eq_true,decide_eq_true_eq];exact hzr
        obtain ⟨zn,hzn⟩:∃ zn:Nat,z=(zn:Int):=⟨z.toNat,by omega⟩
        subst hzn
        obtain ⟨⟨my,zy⟩,hvy⟩:∃ x,v[zn]? = some x:=⟨_,List.getElem?_eq_getElem (by omega)⟩
        have hznl:(zn:Int)<(v.length:Int):=by omega
        have hdd:(decide ((0:Int)<=(zn:Int)) && decide ((zn:Int)<(k:Int)))=true:=by simp;omega
        have hmy:my≠[]:=by
         obtain ⟨c',p',z',hv',_⟩:=okAt_some (allAt_at HA.out.1 (show zn<k by omega))
         rw [hvy] at hv'
         simp only [Option.some.injEq,Prod.mk.injEq] at hv'
         rw [hv'.1];simp
        replace HO:Hid (okAt t v k=(!(m == [113]) && (my == en0))):=by rw [HO.out,hdd,Int.toNat_natCast,hvy];exact Lib.hid (by rw [Bool.true_and];rfl)
        obtain ⟨yb,yo,ey,_,hyb,hyk⟩:=HH.out.1 zn _ hvy
        simp only [Option.some.injEq,Addr.mk.injEq] at ey
        obtain ⟨rfl,rfl,_⟩:=ey
        have y0:=(HB.out.2.cell (p:=⟨mb,mo+zn,none⟩) hyb).trans hyk
        have KEYY:Hid (∀ x y,Below wr.heap.size wr y->Below y.heap.size y x->x.cell? ⟨mb,mo+zn,none⟩=some (str my)):=Lib.hid (fun x y hy hx=>by
         have h1:=(hy.cell (World.block_lt_of_cell? _ _ y0)).trans y0
         exact (hx.cell (World.block_lt_of_cell? _ _ h1)).trans h1)
        clear hyb hyk hvy hdd y0 hzr
        cases hme:(my == en0) with
        | false =>
          have hme2:((my:Bs) != en0)=true:=by rw [bne,hme];rfl
          have E:=Lib.hid (FALSE.out (by rw [HO.out,hme,Bool.and_false]))
          clear FALSE HO hk0 hmy
          go_wp2_with fail
          (with_reducible refine CM.out.mono ?_)
          rintro en w1 ⟨rfl,hb1⟩
          have HbB:=Lib.hid hb1
          have HB1:=Lib.hid (And.intro (zzT HB.out.1 hb1) (zzT HB.out.2 hb1))
          have m1:=(hb1.cell (World.block_lt_of_cell? _ _ m0)).trans m0
          have p1:=(hb1.cell (World.block_lt_of_cell? _ _ p0)).trans p0
          have d2:=(hb1.cell (World.block_lt_of_cell? _ _ d0)).trans d0
          have d3:=(hb1.cell (World.block_lt_of_cell? _ _ d1)).trans d1
          clear hb1 m0 p0 d0 d1 a0
          go_wp2_with fail
          (with_reducible refine (CB.out w1).mono ?_)
          rintro en w2 ⟨rfl,e⟩
          subst w2
          go_upto_region 12 with (fail)
          refine wp_region_noPanic ?_
          refine wp_region_S (fun w'=>Below w1.heap.size w1 w') (fun _=>false) (by kernel_rfl) ?_
          have hSd:(fun w'=>Below w1.heap.size w1 w') w1.drew:=Below.drew (Below.refl _ _)
          refine wpAnyS_take 0 (v:=?_) (by kernel_rfl) (by kernel_rfl) (by kernel_rfl) (by kernel_rfl) (fun _ _ _ _ h=>h) hSd ?_ ?_
          rotate_left
          ·(intro oi ho;simp at ho;subst ho;refine Or.inl ⟨by rfl,fun w' hw'=>?_⟩;go_simp;try with_reducible rfl)
          (intro d hd;simp at hd;subst hd;simp only [Act.put,List.setIfInBounds_toArray,List.set_cons_zero,List.set_cons_succ])
          refine wpAnyS_take 1 (v:=?_) (by kernel_rfl) (by kernel_rfl) (by kernel_rfl) (by kernel_rfl) (fun _ _ _ _ h=>h) hSd ?_ ?_
          rotate_left
          ·(intro oi ho;simp at ho;subst ho;refine Or.inl ⟨by rfl,fun w' hw'=>?_⟩;obtain ⟨e0,e1,e2⟩:=KEY.out w' w1 HbB.out hw';go_simp;try with_reducible rfl)
          (intro d hd;simp at hd;subst hd;simp only [Act.put,List.setIfInBounds_toArray,List.set_cons_zero,List.set_cons_succ])
          refine wpAnyS_take 2 (v:=?_) (by kernel_rfl) (by kernel_rfl) (by kernel_rfl) (by kernel_rfl) (fun _ _ _ _ h=>h) hSd ?_ ?_
          rotate_left
          ·(intro oi ho;simp at ho;subst ho;refine Or.inl ⟨by rfl,fun w' hw'=>?_⟩;go_simp;try with_reducible rfl)
          (intro d hd;simp at hd;subst hd;simp only [Act.put,List.setIfInBounds_toArray,List.set_cons_zero,List.set_cons_succ])
          refine wpAnyS_take 3 (v:=?_) (by kernel_rfl) (by kernel_rfl) (by kernel_rfl) (by kernel_rfl) (fun _ _ _ _ h=>h) hSd ?_ ?_
          rotate_left
          ·(intro oi ho;simp at ho;subst ho;refine Or.inl ⟨by rfl,fun w' hw'=>?_⟩;go_simp;try with_reducible rfl)
          (intro d hd;simp at hd;subst hd;simp only [Act.put,List.setIfInBounds_toArray,List.set_cons_zero,List.set_cons_succ])
          refine wpAnyS_take 4 (v:=?_) (by kernel_rfl) (by kernel_rfl) (by kernel_rfl) (by kernel_rfl) (fun _ _ _ _ h=>h) hSd ?_ ?_
          rotate_left
          ·(intro oi ho;simp at ho;subst ho;refine Or.inl ⟨by rfl,fun w' hw'=>?_⟩;obtain ⟨e0,e1,e2⟩:=KEY.out w' w1 HbB.out hw';go_simp;try with_reducible rfl)
          (intro d hd;simp at hd;subst hd;simp only [Act.put,List.setIfInBounds_toArray,List.set_cons_zero,List.set_cons_succ])
          refine wpAnyS_take 5 (v:=?_) (by kernel_rfl) (by kernel_rfl) (by kernel_rfl) (by kernel_rfl) (fun _ _ _ _ h=>h) hSd ?_ ?_
          rotate_left
          ·(intro oi ho;simp at ho;subst ho;refine Or.inl ⟨by rfl,fun w' hw'=>?_⟩;go_simp;try with_reducible rfl)
          (intro d hd;simp at hd;subst hd;simp only [Act.put,List.setIfInBounds_toArray,List.set_cons_zero,List.set_cons_succ])
          refine wpAnyS_take 6 (v:=?_) (by kernel_rfl) (by kernel_rfl) (by kernel_rfl) (by kernel_rfl) (fun _ _ _ _ h=>h) hSd ?_ ?_
          rotate_left
          ·(intro oi ho;simp at ho;subst ho;refine Or.inl ⟨by rfl,fun w' hw'=>?_⟩;go_simp;try with_reducible rfl)
          (intro d hd;simp at hd;subst hd;simp only [Act.put,List.setIfInBounds_toArray,List.set_cons_zero,List.set_cons_succ])
          refine wpAnyS_one 7 (by kernel_rfl) ?_
          (intro o7 ho K' hK;simp at ho;subst ho)
          go_simp
          go_at_call 74
          (with_reducible refine (CI.out _).mono ?_)
          rintro en x7 ⟨rfl,e⟩
          subst x7
          rw [hin]
          refine hK.out _ _ ?_ ?_
          ·exact fun _=>hSd
          clear hK K'
          (try simp only [Act.put,List.setIfInBounds_toArray,List.set_cons_zero,List.set_cons_succ])
          have hS7:=hSd
          refine wpAnyS_take 8 (v:=?_) (by kernel_rfl) (by kernel_rfl) (by kernel_rfl) (by kernel_rfl) (fun _ _ _ _ h=>h) hS7 ?_ ?_
          rotate_left
          ·(intro oi ho;simp at ho;subst ho;refine Or.inl ⟨by rfl,fun w' hw'=>?_⟩;go_simp;try with_reducible rfl)
          (intro d hd;simp at hd;subst hd;simp only [Act.put,List.setIfInBounds_toArray,List.set_cons_zero,List.set_cons_succ])
          refine wpAnyS_take 9 (v:=?_) (by kernel_rfl) (by kernel_rfl) (by kernel_rfl) (by kernel_rfl) (fun _ _ _ _ h=>h) hS7 ?_ ?_
          rotate_left
          ·(intro oi ho;simp at ho;subst ho;refine Or.inl ⟨by rfl,fun w' hw'=>?_⟩;go_simp;try with_reducible rfl)
          (intro d hd;simp at hd;subst hd;simp only [Act.put,List.setIfInBounds_toArray,List.set_cons_zero,List.set_cons_succ])
          refine wpAnyS_take 10 (v:=?_) (by kernel_rfl) (by kernel_rfl) (by kernel_rfl) (by kernel_rfl) (fun _ _ _ _ h=>h) hS7 ?_ ?_
          rotate_left
          ·(intro oi ho;simp at ho;subst ho;refine Or.inl ⟨by rfl,fun w' hw'=>?_⟩;go_simp;try with_reducible rfl)
          (intro d hd;simp at hd;subst hd;simp only [Act.put,List.setIfInBounds_toArray,List.set_cons_zero,List.set_cons_succ])
          refine wpAnyS_take 11 (v:=?_) (by kernel_rfl) (by kernel_rfl) (by kernel_rfl) (by kernel_rfl) (fun _ _ _ _ h=>h) hS7 ?_ ?_
          rotate_left
          ·(intro oi ho;simp at ho;subst ho;refine Or.inl ⟨by rfl,fun w' hw'=>?_⟩;obtain ⟨e0,e1,e2⟩:=KEY.out w' w1 HbB.out hw';go_simp;try with_reducible rfl)
          (intro d hd;simp at hd;subst hd;simp only [Act.put,List.setIfInBounds_toArray,List.set_cons_zero,List.set_cons_succ])
          refine wpAnyS_take 12 (v:=?_) (by kernel_rfl) (by kernel_rfl) (by kernel_rfl) (by kernel_rfl) (fun _ _ _ _ h=>h) hS7 ?_ ?_
          rotate_left
          ·(intro oi ho;simp at ho;subst ho;refine Or.inl ⟨by rfl,fun w' hw'=>?_⟩;go_simp;try with_reducible rfl)
          (intro d hd;simp at hd;subst hd;simp only [Act.put,List.setIfInBounds_toArray,List.set_cons_zero,List.set_cons_succ])
          refine wpAnyS_take 13 (v:=?_) (by kernel_rfl) (by kernel_rfl) (by kernel_rfl) (by kernel_rfl) (fun _ _ _ _ h=>h) hS7 ?_ ?_
          rotate_left
          ·(intro oi ho;simp at ho;subst ho;refine Or.inl ⟨by rfl,fun w' hw'=>?_⟩;obtain ⟨e0,e1,e2⟩:=KEY.out w' w1 HbB.out hw';go_simp;try with_reducible rfl)
          (intro d hd;simp at hd;subst hd;simp only [Act.put,List.setIfInBounds_toArray,List.set_cons_zero,List.set_cons_succ])
          refine wpAnyS_take 14 (v:=?_) (by kernel_rfl) (by kernel_rfl) (by kernel_rfl) (by kernel_rfl) (fun _ _ _ _ h=>h) hS7 ?_ ?_
          rotate_left
          ·(intro oi ho;simp at ho;subst ho;refine Or.inl ⟨by rfl,fun w' hw'=>?_⟩;go_simp;try with_reducible rfl)
          (intro d hd;simp at hd;subst hd;simp only [Act.put,List.setIfInBounds_toArray,List.set_cons_zero,List.set_cons_succ])
          refine wpAnyS_take 15 (v:=?_) (by kernel_rfl) (by kernel_rfl) (by kernel_rfl) (by kernel_rfl) (fun _ _ _ _ h=>h) hS7 ?_ ?_
          rotate_left
          ·(intro oi ho;simp at ho;subst ho;refine Or.inl ⟨by rfl,fun w' hw'=>?_⟩;go_simp;try with_reducible rfl)
          (intro d hd;simp at hd;subst hd;simp only [Act.put,List.setIfInBounds_toArray,List.set_cons_zero,List.set_cons_succ])
          refine wpAnyS_take 16 (v:=?_) (by kernel_rfl) (by kernel_rfl) (by kernel_rfl) (by kernel_rfl) (fun _ _ _ _ h=>h) hS7 ?_ ?_
          rotate_left
          ·(intro oi ho;simp at ho;subst ho;refine Or.inl ⟨by rfl,fun w' hw'=>?_⟩;obtain ⟨e0,e1,e2⟩:=KEY.out w' w1 HbB.out hw';go_simp;try with_reducible rfl)
          (intro d hd;simp at hd;subst hd;simp only [Act.put,List.setIfInBounds_toArray,List.set_cons_zero,List.set_cons_succ])
          refine wpAnyS_take 17 (v:=?_) (by kernel_rfl) (by kernel_rfl) (by kernel_rfl) (by kernel_rfl) (fun _ _ _ _ h=>h) hS7 ?_ ?_
          rotate_left
          ·(intro oi ho;simp at ho;subst ho;refine Or.inl ⟨by rfl,fun w' hw'=>?_⟩;go_simp;try with_reducible rfl)
          (intro d hd;simp at hd;subst hd;simp only [Act.put,List.setIfInBounds_toArray,List.set_cons_zero,List.set_cons_succ])
          refine wpAnyS_take 18 (v:=?_) (by kernel_rfl) (by kernel_rfl) (by kernel_rfl) (by kernel_rfl) (fun _ _ _ _ h=>h) hS7 ?_ ?_
          rotate_left
          ·(intro oi ho;simp at ho;subst ho;refine Or.inl ⟨by rfl,fun w' hw'=>?_⟩;have e0:=KEYY.out w' w1 HbB.out hw';go_simp;try with_reducible rfl)
          (intro d hd;simp at hd;subst hd;simp only [Act.put,List.setIfInBounds_toArray,List.set_cons_zero,List.set_cons_succ])
          refine wpAnyS_take 19 (v:=?_) (by kernel_rfl) (by kernel_rfl) (by kernel_rfl) (by kernel_rfl) (fun _ _ _ _ h=>h) hS7 ?_ ?_
          rotate_left
          ·(intro oi ho;simp at ho;subst ho;refine Or.inl ⟨by rfl,fun w' hw'=>?_⟩;go_simp;try with_reducible rfl)
          (intro d hd;simp at hd;subst hd;simp only [Act.put,List.setIfInBounds_toArray,List.set_cons_zero,List.set_cons_succ])
          refine wpAnyS_one 20 (by kernel_rfl) ?_
          (intro o20 ho K' hK;simp at ho;subst ho)
          go_simp
          go_at_call 131
          (with_reducible refine (CE.out _).mono ?_)
          rintro en x20 ⟨rfl,e⟩
          subst x20
          refine hK.out _ _ ?_ ?_
          ·exact fun _=>hSd
          clear hK K'
          (try simp only [Act.put,List.setIfInBounds_toArray,List.set_cons_zero,List.set_cons_succ])
          have hS20:=hSd
          refine wpAnyS_take 21 (v:=?_) (by kernel_rfl) (by kernel_rfl) (by kernel_rfl) (by kernel_rfl) (fun _ _ _ _ h=>h) hS20 ?_ ?_
          rotate_left
          ·(intro oi ho;simp at ho;subst ho;refine Or.inl ⟨by rfl,fun w' hw'=>?_⟩;go_simp;try with_reducible rfl)
          (intro d hd;simp at hd;subst hd;simp only [Act.put,List.setIfInBounds_toArray,List.set_cons_zero,List.set_cons_succ])
          refine wpAnyS_take 22 (v:=?_) (by kernel_rfl) (by kernel_rfl) (by kernel_rfl) (by kernel_rfl) (fun _ _ _ _ h=>h) hS20 ?_ ?_
          rotate_left
          ·(intro oi ho;simp at ho;subst ho;refine Or.inl ⟨by rfl,fun w' hw'=>?_⟩;go_simp;try with_reducible rfl)
          (intro d hd;simp at hd;subst hd;simp only [Act.put,List.setIfInBounds_toArray,List.set_cons_zero,List.set_cons_succ])
          refine wpAnyS_done (by kernel_rfl) (NoPanic.normal ?_) _
          go_wp2_with fail
          go_ret
          exact ⟨by rw [E.out];rfl,below_dN HB1.out.2 _⟩
        | true =>
          have hme2:((my:Bs) != en0)=false:=by rw [bne,hme];rfl
          have hmq:(m == [113])=false:=by
           rw [beq_eq_false_iff_ne]
           intro h
           rw [beq_iff_eq,HEN.out h] at hme
           exact hmy hme
          have E:=Lib.hid (show allAt t v (k+1)=true by rw [allAt,HA.out.1,HO.out,hmq,hme];rfl)
          clear FALSE HO hk0 hmy hmq
          go_wp2_with fail
          (with_reducible refine CM.out.mono ?_)
          rintro en w1 ⟨rfl,hb1⟩
          have HbB:=Lib.hid hb1
          have HB1:=Lib.hid (And.intro (zzT HB.out.1 hb1) (zzT HB.out.2 hb1))
          have m1:=(hb1.cell (World.block_lt_of_cell? _ _ m0)).trans m0
          have p1:=(hb1.cell (World.block_lt_of_cell? _ _ p0)).trans p0
          have d2:=(hb1.cell (World.block_lt_of_cell? _ _ d0)).trans d0
          have d3:=(hb1.cell (World.block_lt_of_cell? _ _ d1)).trans d1
          clear hb1 m0 p0 d0 d1 a0
          go_wp2_with fail
          (with_reducible refine (CB.out w1).mono ?_)
          rintro en w2 ⟨rfl,e⟩
          subst w2
          go_upto_region 12 with (fail)
          refine wp_region_noPanic ?_
          refine wp_region_S (fun w'=>Below w1.heap.size w1 w') (fun _=>false) (by kernel_rfl) ?_
          have hSd:(fun w'=>Below w1.heap.size w1 w') w1.drew:=Below.drew (Below.refl _ _)
          refine wpAnyS_take 0 (v:=?_) (by kernel_rfl) (by kernel_rfl) (by kernel_rfl) (by kernel_rfl) (fun _ _ _ _ h=>h) hSd ?_ ?_
          rotate_left
          ·(intro oi ho;simp at ho;subst ho;refine Or.inl ⟨by rfl,fun w' hw'=>?_⟩;go_simp;try with_reducible rfl)
          (intro d hd;simp at hd;subst hd;simp only [Act.put,List.setIfInBounds_toArray,List.set_cons_zero,List.set_cons_succ])
          refine wpAnyS_take 1 (v:=?_) (by kernel_rfl) (by kernel_rfl) (by kernel_rfl) (by kernel_rfl) (fun _ _ _ _ h=>h) hSd ?_ ?_
          rotate_left
          ·(intro oi ho;simp at ho;subst ho;refine Or.inl ⟨by rfl,fun w' hw'=>?_⟩;obtain ⟨e0,e1,e2⟩:=KEY.out w' w1 HbB.out hw';go_simp;try with_reducible rfl)
          (intro d hd;simp at hd;subst hd;simp only [Act.put,List.setIfInBounds_toArray,List.set_cons_zero,List.set_cons_succ])
          refine wpAnyS_take 2 (v:=?_) (by kernel_rfl) (by kernel_rfl) (by kernel_rfl) (by kernel_rfl) (fun _ _ _ _ h=>h) hSd ?_ ?_
          rotate_left
          ·(intro oi ho;simp at ho;subst ho;refine Or.inl ⟨by rfl,fun w' hw'=>?_⟩;go_simp;try with_reducible rfl)
          (intro d hd;simp at hd;subst hd;simp only [Act.put,List.setIfInBounds_toArray,List.set_cons_zero,List.set_cons_succ])
          refine wpAnyS_take 3 (v:=?_) (by kernel_rfl) (by kernel_rfl) (by kernel_rfl) (by kernel_rfl) (fun _ _ _ _ h=>h) hSd ?_ ?_
          rotate_left
          ·(intro oi ho;simp at ho;subst ho;refine Or.inl ⟨by rfl,fun w' hw'=>?_⟩;go_simp;try with_reducible rfl)
          (intro d hd;simp at hd;subst hd;simp only [Act.put,List.setIfInBounds_toArray,List.set_cons_zero,List.set_cons_succ])
          refine wpAnyS_take 4 (v:=?_) (by kernel_rfl) (by kernel_rfl) (by kernel_rfl) (by kernel_rfl) (fun _ _ _ _ h=>h) hSd ?_ ?_
          rotate_left
          ·(intro oi ho;simp at ho;subst ho;refine Or.inl ⟨by rfl,fun w' hw'=>?_⟩;obtain ⟨e0,e1,e2⟩:=KEY.out w' w1 HbB.out hw';go_simp;try with_reducible rfl)
          (intro d hd;simp at hd;subst hd;simp only [Act.put,List.setIfInBounds_toArray,List.set_cons_zero,List.set_cons_succ])
          refine wpAnyS_take 5 (v:=?_) (by kernel_rfl) (by kernel_rfl) (by kernel_rfl) (by kernel_rfl) (fun _ _ _ _ h=>h) hSd ?_ ?_
          rotate_left
          ·(intro oi ho;simp at ho;subst ho;refine Or.inl ⟨by rfl,fun w' hw'=>?_⟩;go_simp;try with_reducible rfl)
          (intro d hd;simp at hd;subst hd;simp only [Act.put,List.setIfInBounds_toArray,List.set_cons_zero,List.set_cons_succ])
          refine wpAnyS_take 6 (v:=?_) (by kernel_rfl) (by kernel_rfl) (by kernel_rfl) (by kernel_rfl) (fun _ _ _ _ h=>h) hSd ?_ ?_
          rotate_left
          ·(intro oi ho;simp at ho;subst ho;refine Or.inl ⟨by rfl,fun w' hw'=>?_⟩;go_simp;try with_reducible rfl)
          (intro d hd;simp at hd;subst hd;simp only [Act.put,List.setIfInBounds_toArray,List.set_cons_zero,List.set_cons_succ])
          refine wpAnyS_one 7 (by kernel_rfl) ?_
          (intro o7 ho K' hK;simp at ho;subst ho)
          go_simp
          go_at_call 74
          (with_reducible refine (CI.out _).mono ?_)
          rintro en x7 ⟨rfl,e⟩
          subst x7
          rw [hin]
          refine hK.out _ _ ?_ ?_
          ·exact fun _=>hSd
          clear hK K'
          (try simp only [Act.put,List.setIfInBounds_toArray,List.set_cons_zero,List.set_cons_succ])
          have hS7:=hSd
          refine wpAnyS_take 8 (v:=?_) (by kernel_rfl) (by kernel_rfl) (by kernel_rfl) (by kernel_rfl) (fun _ _ _ _ h=>h) hS7 ?_ ?_
          rotate_left
          ·(intro oi ho;simp at ho;subst ho;refine Or.inl ⟨by rfl,fun w' hw'=>?_⟩;go_simp;try with_reducible rfl)
          (intro d hd;simp at hd;subst hd;simp only [Act.put,List.setIfInBounds_toArray,List.set_cons_zero,List.set_cons_succ])
          refine wpAnyS_take 9 (v:=?_) (by kernel_rfl) (by kernel_rfl) (by kernel_rfl) (by kernel_rfl) (fun _ _ _ _ h=>h) hS7 ?_ ?_
          rotate_left
          ·(intro oi ho;simp at ho;subst ho;refine Or.inl ⟨by rfl,fun w' hw'=>?_⟩;go_simp;try with_reducible rfl)
          (intro d hd;simp at hd;subst hd;simp only [Act.put,List.setIfInBounds_toArray,List.set_cons_zero,List.set_cons_succ])
          refine wpAnyS_take 10 (v:=?_) (by kernel_rfl) (by kernel_rfl) (by kernel_rfl) (by kernel_rfl) (fun _ _ _ _ h=>h) hS7 ?_ ?_
          rotate_left
          ·(intro oi ho;simp at ho;subst ho;refine Or.inl ⟨by rfl,fun w' hw'=>?_⟩;go_simp;try with_reducible rfl)
          (intro d hd;simp at hd;subst hd;simp only [Act.put,List.setIfInBounds_toArray,List.set_cons_zero,List.set_cons_succ])
          refine wpAnyS_take 11 (v:=?_) (by kernel_rfl) (by kernel_rfl) (by kernel_rfl) (by kernel_rfl) (fun _ _ _ _ h=>h) hS7 ?_ ?_
          rotate_left
          ·(intro oi ho;simp at ho;subst ho;refine Or.inl ⟨by rfl,fun w' hw'=>?_⟩;obtain ⟨e0,e1,e2⟩:=KEY.out w' w1 HbB.out hw';go_simp;try with_reducible rfl)
          (intro d hd;simp at hd;subst hd;simp only [Act.put,List.setIfInBounds_toArray,List.set_cons_zero,List.set_cons_succ])
          refine wpAnyS_take 12 (v:=?_) (by kernel_rfl) (by kernel_rfl) (by kernel_rfl) (by kernel_rfl) (fun _ _ _ _ h=>h) hS7 ?_ ?_
          rotate_left
          ·(intro oi ho;simp at ho;subst ho;refine Or.inl ⟨by rfl,fun w' hw'=>?_⟩;go_simp;try with_reducible rfl)
          (intro d hd;simp at hd;subst hd;simp only [Act.put,List.setIfInBounds_toArray,List.set_cons_zero,List.set_cons_succ])
          refine wpAnyS_take 13 (v:=?_) (by kernel_rfl) (by kernel_rfl) (by kernel_rfl) (by kernel_rfl) (fun _ _ _ _ h=>h) hS7 ?_ ?_
          rotate_left
          ·(intro oi ho;simp at ho;subst ho;refine Or.inl ⟨by rfl,fun w' hw'=>?_⟩;obtain ⟨e0,e1,e2⟩:=KEY.out w' w1 HbB.out hw';go_simp;try with_reducible rfl)
          (intro d hd;simp at hd;subst hd;simp only [Act.put,List.setIfInBounds_toArray,List.set_cons_zero,List.set_cons_succ])
          refine wpAnyS_take 14 (v:=?_) (by kernel_rfl) (by kernel_rfl) (by kernel_rfl) (by kernel_rfl) (fun _ _ _ _ h=>h) hS7 ?_ ?_
          rotate_left
          ·(intro oi ho;simp at ho;subst ho;refine Or.inl ⟨by rfl,fun w' hw'=>?_⟩;go_simp;try with_reducible rfl)
          (intro d hd;simp at hd;subst hd;simp only [Act.put,List.setIfInBounds_toArray,List.set_cons_zero,List.set_cons_succ])
          refine wpAnyS_take 15 (v:=?_) (by kernel_rfl) (by kernel_rfl) (by kernel_rfl) (by kernel_rfl) (fun _ _ _ _ h=>h) hS7 ?_ ?_
          rotate_left
          ·(intro oi ho;simp at ho;subst ho;refine Or.inl ⟨by rfl,fun w' hw'=>?_⟩;go_simp;try with_reducible rfl)
          (intro d hd;simp at hd;subst hd;simp only [Act.put,List.setIfInBounds_toArray,List.set_cons_zero,List.set_cons_succ])
          refine wpAnyS_take 16 (v:=?_) (by kernel_rfl) (by kernel_rfl) (by kernel_rfl) (by kernel_rfl) (fun _ _ _ _ h=>h) hS7 ?_ ?_
          rotate_left
          ·(intro oi ho;simp at ho;subst ho;refine Or.inl ⟨by rfl,fun w' hw'=>?_⟩;obtain ⟨e0,e1,e2⟩:=KEY.out w' w1 HbB.out hw';go_simp;try with_reducible rfl)
          (intro d hd;simp at hd;subst hd;simp only [Act.put,List.setIfInBounds_toArray,List.set_cons_zero,List.set_cons_succ])
          refine wpAnyS_take 17 (v:=?_) (by kernel_rfl) (by kernel_rfl) (by kernel_rfl) (by kernel_rfl) (fun _ _ _ _ h=>h) hS7 ?_ ?_
          rotate_left
          ·(intro oi ho;simp at ho;subst ho;refine Or.inl ⟨by rfl,fun w' hw'=>?_⟩;go_simp;try with_reducible rfl)
          (intro d hd;simp at hd;subst hd;simp only [Act.put,List.setIfInBounds_toArray,List.set_cons_zero,List.set_cons_succ])
          refine wpAnyS_take 18 (v:=?_) (by kernel_rfl) (by kernel_rfl) (by kernel_rfl) (by kernel_rfl) (fun _ _ _ _ h=>h) hS7 ?_ ?_
          rotate_left
          ·(intro oi ho;simp at ho;subst ho;refine Or.inl ⟨by rfl,fun w' hw'=>?_⟩;have e0:=KEYY.out w' w1 HbB.out hw';go_simp;try with_reducible rfl)
          (intro d hd;simp at hd;subst hd;simp only [Act.put,List.setIfInBounds_toArray,List.set_cons_zero,List.set_cons_succ])
          refine wpAnyS_take 19 (v:=?_) (by kernel_rfl) (by kernel_rfl) (by kernel_rfl) (by kernel_rfl) (fun _ _ _ _ h=>h) hS7 ?_ ?_
          rotate_left
          ·(intro oi ho;simp at ho;subst ho;refine Or.inl ⟨by rfl,fun w' hw'=>?_⟩;go_simp;try with_reducible rfl)
          (intro d hd;simp at hd;subst hd;simp only [Act.put,List.setIfInBounds_toArray,List.set_cons_zero,List.set_cons_succ])
          refine wpAnyS_one 20 (by kernel_rfl) ?_
          (intro o20 ho K' hK;simp at ho;subst ho)
          go_simp
          go_at_call 131
          (with_reducible refine (CE.out _).mono ?_)
          rintro en x20 ⟨rfl,e⟩
          subst x20
          refine hK.out _ _ ?_ ?_
          ·exact fun _=>hSd
          clear hK K'
          (try simp only [Act.put,List.setIfInBounds_toArray,List.set_cons_zero,List.set_cons_succ])
          have hS20:=hSd
          refine wpAnyS_take 21 (v:=?_) (by kernel_rfl) (by kernel_rfl) (by kernel_rfl) (by kernel_rfl) (fun _ _ _ _ h=>h) hS20 ?_ ?_
          rotate_left
          ·(intro oi ho;simp at ho;subst ho;refine Or.inl ⟨by rfl,fun w' hw'=>?_⟩;go_simp;try with_reducible rfl)
          (intro d hd;simp at hd;subst hd;simp only [Act.put,List.setIfInBounds_toArray,List.set_cons_zero,List.set_cons_succ])
          refine wpAnyS_take 22 (v:=?_) (by kernel_rfl) (by kernel_rfl) (by kernel_rfl) (by kernel_rfl) (fun _ _ _ _ h=>h) hS20 ?_ ?_
          rotate_left
          ·(intro oi ho;simp at ho;subst ho;refine Or.inl ⟨by rfl,fun w' hw'=>?_⟩;go_simp;try with_reducible rfl)
          (intro d hd;simp at hd;subst hd;simp only [Act.put,List.setIfInBounds_toArray,List.set_cons_zero,List.set_cons_succ])
          refine wpAnyS_done (by kernel_rfl) (NoPanic.normal ?_) _
          go_wp2_with fail
          go_roundw
          case rel=>exact ⟨_,k+1,rfl,by omega,by go_num,E.out,HB1.out.1.drew⟩
          case measure=>simp [intOf];omega
       ·have hin:(decide ((0:Int)<=z) && decide (z<=(k:Int)-1))=false:=by
         rw [Bool.and_eq_false_iff,decide_eq_false_iff_not,decide_eq_false_iff_not]
         omega
        have E:=Lib.hid (FALSE.out (by
         rw [HO.out]
         simp only [Bool.and_eq_false_iff,decide_eq_false_iff_not]
         exact .inl (.inl (by omega))))
        clear FALSE HO hk0 hzr
        go_wp2_with fail
        (with_reducible refine CM.out.mono ?_)
        rintro en w1 ⟨rfl,hb1⟩
        have HbB:=Lib.hid hb1
        have HB1:=Lib.hid (And.intro (zzT HB.out.1 hb1) (zzT HB.out.2 hb1))
        have m1:=(hb1.cell (World.block_lt_of_cell? _ _ m0)).trans m0
        have p1:=(hb1.cell (World.block_lt_of_cell? _ _ p0)).trans p0
        have d2:=(hb1.cell (World.block_lt_of_cell? _ _ d0)).trans d0
        have d3:=(hb1.cell (World.block_lt_of_cell? _ _ d1)).trans d1
        clear hb1 m0 p0 d0 d1 a0
        go_wp2_with fail
        (with_reducible refine (CB.out w1).mono ?_)
        rintro en w2 ⟨rfl,e⟩
        subst w2
        go_upto_region 12 with (fail)
        refine wp_region_noPanic ?_
        refine wp_region_S (fun w'=>Below w1.heap.size w1 w') (fun _=>false) (by kernel_rfl) ?_
        have hSd:(fun w'=>Below w1.heap.size w1 w') w1.drew:=Below.drew (Below.refl _ _)
        refine wpAnyS_take 0 (v:=?_) (by kernel_rfl) (by kernel_rfl) (by kernel_rfl) (by kernel_rfl) (fun _ _ _ _ h=>h) hSd ?_ ?_
        rotate_left
        ·(intro oi ho;simp at ho;subst ho;refine Or.inl ⟨by rfl,fun w' hw'=>?_⟩;go_simp;try with_reducible rfl)
        (intro d hd;simp at hd;subst hd;simp only [Act.put,List.setIfInBounds_toArray,List.set_cons_zero,List.set_cons_succ])
        refine wpAnyS_take 1 (v:=?_) (by kernel_rfl) (by kernel_rfl) (by kernel_rfl) (by kernel_rfl) (fun _ _ _ _ h=>h) hSd ?_ ?_
        rotate_left
        ·(intro oi ho;simp at ho;subst ho;refine Or.inl ⟨by rfl,fun w' hw'=>?_⟩;obtain ⟨e0,e1,e2⟩:=KEY.out w' w1 HbB.out hw';go_simp;try with_reducible rfl)
        (intro d hd;simp at hd;subst hd;simp only [Act.put,List.setIfInBounds_toArray,List.set_cons_zero,List.set_cons_succ])
        refine wpAnyS_take 2 (v:=?_) (by kernel_rfl) (by kernel_rfl) (by kernel_rfl) (by kernel_rfl) (fun _ _ _ _ h=>h) hSd ?_ ?_
        rotate_left
        ·(intro oi ho;simp at ho;subst ho;refine Or.inl ⟨by rfl,fun w' hw'=>?_⟩;go_simp;try with_reducible rfl)
        (intro d hd;simp at hd;subst hd;simp only [Act.put,List.setIfInBounds_toArray,List.set_cons_zero,List.set_cons_succ])
        refine wpAnyS_take 3 (v:=?_) (by kernel_rfl) (by kernel_rfl) (by kernel_rfl) (by kernel_rfl) (fun _ _ _ _ h=>h) hSd ?_ ?_
        rotate_left
        ·(intro oi ho;simp at ho;subst ho;refine Or.inl ⟨by rfl,fun w' hw'=>?_⟩;go_simp;try with_reducible rfl)
        (intro d hd;simp at hd;subst hd;simp only [Act.put,List.setIfInBounds_toArray,List.set_cons_zero,List.set_cons_succ])
        refine wpAnyS_take 4 (v:=?_) (by kernel_rfl) (by kernel_rfl) (by kernel_rfl) (by kernel_rfl) (fun _ _ _ _ h=>h) hSd ?_ ?_
        rotate_left
        ·(intro oi ho;simp at ho;subst ho;refine Or.inl ⟨by rfl,fun w' hw'=>?_⟩;obtain ⟨e0,e1,e2⟩:=KEY.out w' w1 HbB.out hw';go_simp;try with_reducible rfl)
        (intro d hd;simp at hd;subst hd;simp only [Act.put,List.setIfInBounds_toArray,List.set_cons_zero,List.set_cons_succ])
        refine wpAnyS_take 5 (v:=?_) (by kernel_rfl) (by kernel_rfl) (by kernel_rfl) (by kernel_rfl) (fun _ _ _ _ h=>h) hSd ?_ ?_
        rotate_left
        ·(intro oi ho;simp at ho;subst ho;refine Or.inl ⟨by rfl,fun w' hw'=>?_⟩;go_simp;try with_reducible rfl)
        (intro d hd;simp at hd;subst hd;simp only [Act.put,List.setIfInBounds_toArray,List.set_cons_zero,List.set_cons_succ])
        refine wpAnyS_take 6 (v:=?_) (by kernel_rfl) (by kernel_rfl) (by kernel_rfl) (by kernel_rfl) (fun _ _ _ _ h=>h) hSd ?_ ?_
        rotate_left
        ·(intro oi ho;simp at ho;subst ho;refine Or.inl ⟨by rfl,fun w' hw'=>?_⟩;go_simp;try with_reducible rfl)
        (intro d hd;simp at hd;subst hd;simp only [Act.put,List.setIfInBounds_toArray,List.set_cons_zero,List.set_cons_succ])
        refine wpAnyS_one 7 (by kernel_rfl) ?_
        (intro o7 ho K' hK;simp at ho;subst ho)
        go_simp
        go_at_call 74
        (with_reducible refine (CI.out _).mono ?_)
        rintro en x7 ⟨rfl,e⟩
        subst x7
        rw [hin]
        refine hK.out _ _ ?_ ?_
        ·exact fun _=>hSd
        clear hK K'
        (try simp only [Act.put,List.setIfInBounds_toArray,List.set_cons_zero,List.set_cons_succ])
        have hS7:=hSd
        refine wpAnyS_take 8 (v:=?_) (by kernel_rfl) (by kernel_rfl) (by kernel_rfl) (by kernel_rfl) (fun _ _ _ _ h=>h) hS7 ?_ ?_
        rotate_left
        ·(intro oi ho;simp at ho;subst ho;refine Or.inl ⟨by rfl,fun w' hw'=>?_⟩;go_simp;try with_reducible rfl)
        (intro d hd;simp at hd;subst hd;simp only [Act.put,List.setIfInBounds_toArray,List.set_cons_zero,List.set_cons_succ])
        refine wpAnyS_take 9 (v:=?_) (by kernel_rfl) (by kernel_rfl) (by kernel_rfl) (by kernel_rfl) (fun _ _ _ _ h=>h) hS7 ?_ ?_
        rotate_left
        ·(intro oi ho;simp at ho;subst ho;refine Or.inl ⟨by rfl,fun w' hw'=>?_⟩;go_simp;try with_reducible rfl)
        (intro d hd;simp at hd;subst hd;simp only [Act.put,List.setIfInBounds_toArray,List.set_cons_zero,List.set_cons_succ])
        refine wpAnyS_take 10 (v:=undef) (by kernel_rfl) (by kernel_rfl) (by kernel_rfl) (by kernel_rfl) (fun _ _ _ _ h=>h) hS7 (fun oi ho=>by simp at ho;subst ho;exact Or.inr ⟨by rfl,rfl⟩) ?_
        (intro d hd;simp at hd;subst hd;simp only [Act.put,List.setIfInBounds_toArray,List.set_cons_zero,List.set_cons_succ])
        refine wpAnyS_take 11 (v:=undef) (by kernel_rfl) (by kernel_rfl) (by kernel_rfl) (by kernel_rfl) (fun _ _ _ _ h=>h) hS7 (fun oi ho=>by simp at ho;subst ho;exact Or.inr ⟨by rfl,rfl⟩) ?_
        (intro d hd;simp at hd;subst hd;simp only [Act.put,List.setIfInBounds_toArray,List.set_cons_zero,List.set_cons_succ])
        refine wpAnyS_take 12 (v:=undef) (by kernel_rfl) (by kernel_rfl) (by kernel_rfl) (by kernel_rfl) (fun _ _ _ _ h=>h) hS7 (fun oi ho=>by simp at ho;subst ho;exact Or.inr ⟨by rfl,rfl⟩) ?_
        (intro d hd;simp at hd;subst hd;simp only [Act.put,List.setIfInBounds_toArray,List.set_cons_zero,List.set_cons_succ])
        refine wpAnyS_take 13 (v:=undef) (by kernel_rfl) (by kernel_rfl) (by kernel_rfl) (by kernel_rfl) (fun _ _ _ _ h=>h) hS7 (fun oi ho=>by simp at ho;subst ho;exact Or.inr ⟨by rfl,rfl⟩) ?_
        (intro d hd;simp at hd;subst hd;simp only [Act.put,List.setIfInBounds_toArray,List.set_cons_zero,List.set_cons_succ])
        refine wpAnyS_take 14 (v:=undef) (by kernel_rfl) (by kernel_rfl) (by kernel_rfl) (by kernel_rfl) (fun _ _ _ _ h=>h) hS7 (fun oi ho=>by simp at ho;subst ho;exact Or.inr ⟨by rfl,rfl⟩) ?_
        (intro d hd;simp at hd;subst hd;simp only [Act.put,List.setIfInBounds_toArray,List.set_cons_zero,List.set_cons_succ])
        refine wpAnyS_take 15 (v:=undef) (by kernel_rfl) (by kernel_rfl) (by kernel_rfl) (by kernel_rfl) (fun _ _ _ _ h=>h) hS7 (fun oi ho=>by simp at ho;subst ho;exact Or.inr ⟨by rfl,rfl⟩) ?_
        (intro d hd;simp at hd;subst hd;simp only [Act.put,List.setIfInBounds_toArray,List.set_cons_zero,List.set_cons_succ])
        refine wpAnyS_take 16 (v:=undef) (by kernel_rfl) (by kernel_rfl) (by kernel_rfl) (by kernel_rfl) (fun _ _ _ _ h=>h) hS7 (fun oi ho=>by simp at ho;subst ho;exact Or.inr ⟨by rfl,rfl⟩) ?_
        (intro d hd;simp at hd;subst hd;simp only [Act.put,List.setIfInBounds_toArray,List.set_cons_zero,List.set_cons_succ])
        refine wpAnyS_take 17 (v:=undef) (by kernel_rfl) (by kernel_rfl) (by kernel_rfl) (by kernel_rfl) (fun _ _ _ _ h=>h) hS7 (fun oi ho=>by simp at ho;subst ho;exact Or.inr ⟨by rfl,rfl⟩) ?_
        (intro d hd;simp at hd;subst hd;simp only [Act.put,List.setIfInBounds_toArray,List.set_cons_zero,List.set_cons_succ])
        refine wpAnyS_take 18 (v:=undef) (by kernel_rfl) (by kernel_rfl) (by kernel_rfl) (by kernel_rfl) (fun _ _ _ _ h=>h) hS7 (fun oi ho=>by simp at ho;subst ho;exact Or.inr ⟨by rfl,rfl⟩) ?_
        (intro d hd;simp at hd;subst hd;simp only [Act.put,List.setIfInBounds_toArray,List.set_cons_zero,List.set_cons_succ])
        refine wpAnyS_take 19 (v:=undef) (by kernel_rfl) (by kernel_rfl) (by kernel_rfl) (by kernel_rfl) (fun _ _ _ _ h=>h) hS7 (fun oi ho=>by simp at ho;subst ho;exact Or.inr ⟨by rfl,rfl⟩) ?_
        (intro d hd;simp at hd;subst hd;simp only [Act.put,List.setIfInBounds_toArray,List.set_cons_zero,List.set_cons_succ])
        refine wpAnyS_take 20 (v:=undef) (by kernel_rfl) (by kernel_rfl) (by kernel_rfl) (by kernel_rfl) (fun _ _ _ _ h=>h) hS7 (fun oi ho=>by simp at ho;subst ho;exact Or.inr ⟨by rfl,rfl⟩) ?_
        (intro d hd;simp at hd;subst hd;simp only [Act.put,List.setIfInBounds_toArray,List.set_cons_zero,List.set_cons_succ])
        refine wpAnyS_take 21 (v:=undef) (by kernel_rfl) (by kernel_rfl) (by kernel_rfl) (by kernel_rfl) (fun _ _ _ _ h=>h) hS7 (fun oi ho=>by simp at ho;subst ho;exact Or.inr ⟨by rfl,rfl⟩) ?_
        (intro d hd;simp at hd;subst hd;simp only [Act.put,List.setIfInBounds_toArray,List.set_cons_zero,List.set_cons_succ])
        refine wpAnyS_take 22 (v:=?_) (by kernel_rfl) (by kernel_rfl) (by kernel_rfl) (by kernel_rfl) (fun _ _ _ _ h=>h) hS7 ?_ ?_
        rotate_left
        ·(intro oi ho;simp at ho;subst ho;refine Or.inl ⟨by rfl,fun w' hw'=>?_⟩;go_simp;try with_reducible rfl)
        (intro d hd;simp at hd;subst hd;simp only [Act.put,List.setIfInBounds_toArray,List.set_cons_zero,List.set_cons_succ])
        refine wpAnyS_done (by kernel_rfl) (NoPanic.normal ?_) _
        go_wp2_with fail
        go_ret
        exact ⟨by rw [E.out];rfl,below_dN HB1.out.2 _⟩
     ·have E:=Lib.hid (FALSE.out (by
       rw [HO.out,Bool.and_eq_false_iff]
       refine .inl ?_
       rw [beq_eq_false_iff_ne]
       intro h
       apply hb1
       cases bo with
       | true=>rw [if_pos rfl] at hpb;have:=of_decide_eq_true h.symm;omega
       | false=>rw [if_neg (by simp)] at hpb;have:=of_decide_eq_false h.symm;omega))
      clear FALSE HO hpb
      go_wp2_with fail
      (with_reducible refine CM.out.mono ?_)
      rintro en w1 ⟨rfl,hb1⟩
      have HB1:=Lib.hid (And.intro (zzT HB.out.1 hb1) (zzT HB.out.2 hb1))
      have m1:=(hb1.cell (World.block_lt_of_cell? _ _ m0)).trans m0
      have p1:=(hb1.cell (World.block_lt_of_cell? _ _ p0)).trans p0
      have d2:=(hb1.cell (World.block_lt_of_cell? _ _ d0)).trans d0
      have d3:=(hb1.cell (World.block_lt_of_cell? _ _ d1)).trans d1
      clear hb1 m0 p0 d0 d1 a0
      go_wp2_with fail
      (with_reducible refine (CB.out w1).mono ?_)
      rintro en w2 ⟨rfl,e⟩
      subst w2
      go_wp2_with fail
      go_ret
      exact ⟨by rw [E.out];rfl,HB1.out.2⟩
  ·obtain rfl:k=v.length:=by omega
   go_wp2_with fail
   go_ret
   exact ⟨by rw [hall];rfl,HB.out.2⟩
def MsRep (F:Nat->Prop) (w:World) (ms:List Bs) (x:Value):Prop:=Rep F w (.sl 9 1 ms.length (ms.map fun m=>DV.val (str m))) x
def PsRep (F:Nat->Prop) (w:World) (ps:List Int) (x:Value):Prop:=Rep F w (.sl 3 1 ps.length (ps.map fun z=>DV.val (.int .i64 z))) x
def validIn (t:Ty) (ms:List Bs) (ps:List Int):Bool:=decide (ms.length<=60) && (decide (ps.length=ms.length) && allAt t (ms.zip ps) (ms.zip ps).length)
theorem MsRep.slice {F:Nat->Prop} {w:World} {ms:List Bs} {x:Value} (h:MsRep F w ms x):∃ a c,x=.slice a ms.length c:=by
 obtain ⟨a,c,e,_⟩:=Rep_sl1_open h;exact ⟨a,c,e⟩
theorem PsRep.slice {F:Nat->Prop} {w:World} {ps:List Int} {x:Value} (h:PsRep F w ps x):∃ a c,x=.slice a ps.length c:=by
 obtain ⟨a,c,e,_⟩:=Rep_sl1_open h;exact ⟨a,c,e⟩
theorem zip_fst {ms:List Bs} {ps:List Int} (h:ps.length=ms.length):(ms.zip ps).map (·.1)=ms:=by
 rw [List.map_fst_zip (by omega)]
theorem zip_snd {ms:List Bs} {ps:List Int} (h:ps.length=ms.length):(ms.zip ps).map (·.2)=ps:=by
 rw [List.map_snd_zip (by omega)]
theorem MsRep.zip {F:Nat->Prop} {w:World} {ms:List Bs} {ps:List Int} {x:Value} (h:MsRep F w ms x) (he:ps.length=ms.length):MvRep F w (ms.zip ps) x:=by
 have h1:(ms.zip ps).length=ms.length:=by rw [List.length_zip];omega
 unfold MvRep
 rw [h1,show (ms.zip ps).map (fun m=>DV.val (str m.1))=ms.map (fun m=>DV.val (str m)) from by
  conv=>rhs;rw [<- zip_fst he]
  rw [List.map_map];rfl]
 exact h
theorem PsRep.zip {F:Nat->Prop} {w:World} {ms:List Bs} {ps:List Int} {x:Value} (h:PsRep F w ps x) (he:ps.length=ms.length):PtRep F w (ms.zip ps) x:=by
 have h1:(ms.zip ps).length=ps.length:=by rw [List.length_zip];omega
 unfold PtRep
 rw [h1,show (ms.zip ps).map (fun m=>DV.val (.int .i64 m.2))=ps.map (fun z=>DV.val (.int .i64 z)) from by
  conv=>rhs;rw [<- zip_snd he]
  rw [List.map_map];rfl]
 exact h
set_option maxRecDepth 100000 in
theorem hasPlay_any (F:Nat->Prop) (t:Ty) (kv mv pt:Value) (ms:List Bs) (ps:List Int) (w:World) (hk:Rep F w (encK t) kv) (ht:atomsT t<=15) (hm:MsRep F w ms mv) (hp:PsRep F w ps pt) (hl:∀ x∈ms,Lim x.length) :
 Calls Tryz.prog 112 #[kv,.agg #[mv,pt]] w fun en w'=>en=.returned (.bool (validIn t ms ps))/\Below w.heap.size w w':=by
 by_cases h60:ms.length<=60
 ·by_cases he:ps.length=ms.length
  ·refine (hasPlay_v F t kv mv pt (ms.zip ps) w hk ht (hm.zip he) (hp.zip he) (by rw [List.length_zip];omega) (fun x hx=>hl _ (List.of_mem_zip hx).1)).mono ?_
   rintro en w' ⟨rfl,hb⟩
   refine ⟨?_,hb⟩
   unfold validIn
   rw [decide_eq_true h60,decide_eq_true he];rfl
  ·have E:=Lib.hid (show validIn t ms ps=false by unfold validIn;rw [decide_eq_false he,Bool.false_and,Bool.and_false])
   obtain ⟨kb,ks,rfl,_⟩:=encK_open hk
   obtain ⟨ma,mc,rfl⟩:=hm.slice
   obtain ⟨pa,pc,rfl⟩:=hp.slice
   obtain ⟨W,hW,hbW,hz,b0⟩:=box_1 w (.cells #[.slice ma ms.length mc,.slice pa ps.length pc] 33)
   obtain ⟨c0,c1,_,_⟩:=cells_2 b0
   have hlen:¬ (60:Int)<(ms.length:Int):=by omega
   have hne:((ps.length:Int) != (ms.length:Int))=true:=by simp;omega
   have HW:=Lib.hid hW
   have HB:=Lib.hid hbW
   clear hk hm hp hz b0 hbW hW hl h60 he
   go_enter Tryz.func112,Tryz.ntmps112
   go_upto_region 1 with (fail)
   rw [HW.out]
   go_wp2_with fail
   go_ret
   exact ⟨by rw [E.out];rfl,HB.out⟩
 ·have E:=Lib.hid (show validIn t ms ps=false by unfold validIn;rw [decide_eq_false h60,Bool.false_and])
  obtain ⟨kb,ks,rfl,_⟩:=encK_open hk
  obtain ⟨ma,mc,rfl⟩:=hm.slice
  obtain ⟨pa,pc,rfl⟩:=hp.slice
  obtain ⟨W,hW,hbW,hz,b0⟩:=box_1 w (.cells #[.slice ma ms.length mc,.slice pa ps.length pc] 33)
  obtain ⟨c0,c1,_,_⟩:=cells_2 b0
  have hlen:(60:Int)<(ms.length:Int):=by omega
  have HW:=Lib.hid hW
  have HB:=Lib.hid hbW
  clear hk hm hp hz b0 hbW hW hl h60
  go_enter Tryz.func112,Tryz.ntmps112
  go_upto_region 1 with (fail)
  rw [HW.out]
  go_wp2_with fail
  go_ret
  exact ⟨by rw [E.out];rfl,HB.out⟩
set_option maxRecDepth 100000 in
theorem l2Valid_any (F:Nat->Prop) (t:Ty) (tv mv pt:Value) (ms:List Bs) (ps:List Int) (w:World) (hk:Rep F w (encS t) tv) (ht:atomsT t<=15) (hm:MsRep F w ms mv) (hp:PsRep F w ps pt) (hl:∀ x∈ms,Lim x.length) :
 Calls Tryz.prog 164 #[.agg #[tv],.agg #[mv,pt]] w fun en w'=>en=.returned (.bool (validIn t ms ps))/\Below w.heap.size w w':=by
 by_cases h60:ms.length<=60
 ·by_cases he:ps.length=ms.length
  ·refine (l2Valid_v F t tv mv pt (ms.zip ps) w hk ht (hm.zip he) (hp.zip he) (by rw [List.length_zip];omega) (fun x hx=>hl _ (List.of_mem_zip hx).1)).mono ?_
   rintro en w' ⟨rfl,hb⟩
   refine ⟨?_,hb⟩
   unfold validIn
   rw [decide_eq_true h60,decide_eq_true he];rfl
  ·have E:=Lib.hid (show validIn t ms ps=false by unfold validIn;rw [decide_eq_false he,Bool.false_and,Bool.and_false])
   obtain ⟨ta,tc,rfl⟩:=encS_slice hk
   obtain ⟨ma,mc,rfl⟩:=hm.slice
   obtain ⟨pa,pc,rfl⟩:=hp.slice
   obtain ⟨W,hW,hbW,hz,b0,b1⟩:=boxes_2 w (.cells #[.slice ta t.args.length tc] 78) (.cells #[.slice ma ms.length mc,.slice pa ps.length pc] 33)
   obtain ⟨c0,c1,_,_⟩:=cells_2 b1
   have hlen:¬ (60:Int)<(ms.length:Int):=by omega
   have hne:((ps.length:Int) != (ms.length:Int))=true:=by simp;omega
   have HW:=Lib.hid hW
   have HB:=Lib.hid hbW
   clear hk hm hp hz b0 b1 hbW hW hl h60 he
   go_enter Tryz.func164,Tryz.ntmps164
   go_upto_region 1 with (fail)
   rw [HW.out]
   go_wp2_with fail
   go_ret
   exact ⟨by rw [E.out];rfl,HB.out⟩
 ·have E:=Lib.hid (show validIn t ms ps=false by unfold validIn;rw [decide_eq_false h60,Bool.false_and])
  obtain ⟨ta,tc,rfl⟩:=encS_slice hk
  obtain ⟨ma,mc,rfl⟩:=hm.slice
  obtain ⟨pa,pc,rfl⟩:=hp.slice
  obtain ⟨W,hW,hbW,hz,b0,b1⟩:=boxes_2 w (.cells #[.slice ta t.args.length tc] 78) (.cells #[.slice ma ms.length mc,.slice pa ps.length pc] 33)
  obtain ⟨c0,c1,_,_⟩:=cells_2 b1
  have hlen:(60:Int)<(ms.length:Int):=by omega
  have HW:=Lib.hid hW
  have HB:=Lib.hid hbW
  clear hk hm hp hz b0 b1 hbW hW hl h60
  go_enter Tryz.func164,Tryz.ntmps164
  go_upto_region 1 with (fail)
  rw [HW.out]
  go_wp2_with fail
  go_ret
  exact ⟨by rw [E.out];rfl,HB.out⟩
theorem MsRep.below {F F':Nat->Prop} {w w':World} {ms:List Bs} {x:Value} (h:MsRep F w ms x) (hb:Below w.heap.size w w') (hF:∀ b,F b->F' b):MsRep F' w' ms x:=Rep.below hb hF h
theorem PsRep.below {F F':Nat->Prop} {w w':World} {ps:List Int} {x:Value} (h:PsRep F w ps x) (hb:Below w.heap.size w w') (hF:∀ b,F b->F' b):PsRep F' w' ps x:=Rep.below hb hF h
def playOk (s:Bs) (ms:List Bs) (ps:List Int):Bool:=(specType s).2 && validIn (specType s).1 ms ps
theorem playOk_kind {s:Bs} {t:Ty} (h:rdKind s=some t) (ms:List Bs) (ps:List Int):playOk s ms ps=validIn t ms ps/\atomsT t<=15:=by
 rw [specType_eq] at h
 unfold playOk
 cases h2:(specType s).2 with
 | false=>rw [h2] at h;simp at h
 | true =>
   rw [h2] at h
   obtain rfl:=Option.some.inj h
   exact ⟨by rw [Bool.true_and],(specType_canon h2).2⟩
theorem playOk_none {s:Bs} (h:rdKind s=none) (ms:List Bs) (ps:List Int):playOk s ms ps=false:=by
 rw [specType_eq] at h
 unfold playOk
 cases h2:(specType s).2 with
 | false=>rfl
 | true=>rw [h2] at h;simp at h
set_option maxRecDepth 100000 in
theorem implPlayValid_any (F:Nat->Prop) (s:Bs) (mv pt:Value) (ms:List Bs) (ps:List Int) (w:World) (hs:Lim s.length) (hm:MsRep F w ms mv) (hp:PsRep F w ps pt) (hl:∀ x∈ms,Lim x.length) :
 Calls Tryz.prog 72 #[str s,.agg #[mv,pt]] w fun en w'=>en=.returned (.bool (playOk s ms ps))/\Below w.heap.size w w':=by
 obtain ⟨ma,mc,rfl⟩:=hm.slice
 obtain ⟨pa,pc,rfl⟩:=hp.slice
 obtain ⟨W,hW,hbW,hz,b0⟩:=box_1 w (.cells #[.slice ma ms.length mc,.slice pa ps.length pc] 33)
 have C:=Lib.hid (readKind_any s W hs)
 have HR:=Lib.hid (And.intro (hm.below hbW (F':=fun _=>True) fun _ _=>trivial) (And.intro (hp.below hbW (F':=fun _=>True) fun _ _=>trivial) (And.intro hl hbW)))
 have HW:=Lib.hid (And.intro hW b0)
 clear hs hm hp hl hW hz b0 hbW
 go_enter Tryz.func72,Tryz.ntmps72
 go_upto_region 1 with (fail)
 rw [HW.out.1]
 go_wp2_with fail
 (with_reducible refine C.out.mono ?_)
 rintro en w1 ⟨kv,rfl,hb1,hn1,hy1⟩
 clear C
 obtain ⟨c0,c1,_,_⟩:=cells_2 HW.out.2
 have c0':=(hb1.cell (World.block_lt_of_cell? _ _ c0)).trans c0
 have c1':=(hb1.cell (World.block_lt_of_cell? _ _ c1)).trans c1
 clear c0 c1
 have HB1:=Lib.hid (And.intro hb1 (zzT HR.out.2.2.2 hb1))
 cases hq:rdKind s with
 | none =>
   obtain rfl:=hn1 hq
   have E:=Lib.hid (playOk_none hq ms ps)
   clear hn1 hy1 hq hb1
   go_wp2_with fail
   go_ret
   exact ⟨by rw [E.out];rfl,HB1.out.2⟩
 | some t =>
   have rk:=hy1 t hq
   obtain ⟨ka,ks,rfl,_⟩:=encK_open rk
   obtain ⟨E,h15⟩:=playOk_kind hq ms ps
   have E:=Lib.hid E
   have C2:=Lib.hid (hasPlay_any (fun _=>True) t (.pointer (some ⟨ka,0,none⟩)) _ _ ms ps w1 ((Rep.keep fun b o _ ho=>⟨trivial,ho⟩).1 _ _ rk) h15 (HR.out.1.below HB1.out.1 fun _ h=>h) (HR.out.2.1.below HB1.out.1 fun _ h=>h) HR.out.2.2.1)
   clear hn1 hy1 hq hb1 rk h15
   go_wp2_with fail
   (with_reducible refine C2.out.mono ?_)
   rintro en w2 ⟨rfl,hb2⟩
   have HB2:=Lib.hid (zzT HB1.out.2 hb2)
   clear hb2
   go_wp2_with fail
   go_ret
   exact ⟨by rw [E.out];rfl,HB2.out⟩
set_option maxRecDepth 100000 in
theorem specPlayValid_any (F:Nat->Prop) (s:Bs) (mv pt:Value) (ms:List Bs) (ps:List Int) (w:World) (hs:Lim s.length) (hm:MsRep F w ms mv) (hp:PsRep F w ps pt) (hl:∀ x∈ms,Lim x.length) :
 Calls Tryz.prog 113 #[str s,.agg #[mv,pt]] w fun en w'=>en=.returned (.bool (playOk s ms ps))/\Below w.heap.size w w':=by
 obtain ⟨ma,mc,rfl⟩:=hm.slice
 obtain ⟨pa,pc,rfl⟩:=hp.slice
 obtain ⟨W,hW,hbW,hz,b0⟩:=box_1 w (.cells #[.slice ma ms.length mc,.slice pa ps.length pc] 33)
 have C:=Lib.hid (l1Type_any s hs W)
 have HR:=Lib.hid (And.intro (hm.below hbW (F':=fun _=>True) fun _ _=>trivial) (And.intro (hp.below hbW (F':=fun _=>True) fun _ _=>trivial) (And.intro hl hbW)))
 have HW:=Lib.hid (And.intro hW b0)
 clear hs hm hp hl hW hz b0 hbW
 go_enter Tryz.func113,Tryz.ntmps113
 go_upto_region 1 with (fail)
 rw [HW.out.1]
 go_wp2_with fail
 (with_reducible refine C.out.mono ?_)
 rintro en w1 ⟨tv,rfl,hb1,rt⟩
 clear C
 obtain ⟨ta,tc,rfl⟩:=encS_slice rt
 have h15:(specType s).2=true->atomsT (specType s).1<=15:=fun h=>(specType_canon h).2
 have E:playOk s ms ps=((specType s).2 && validIn (specType s).1 ms ps):=rfl
 generalize (specType s).2=ok at h15 E ⊢
 generalize (specType s).1=t at h15 E rt ⊢
 obtain ⟨X,hX,hbX,hzX,x0⟩:=box_1 w1 (.cells #[.slice ta t.args.length tc] 78)
 have hB:=zzT hb1 hbX
 obtain ⟨c0,c1,_,_⟩:=cells_2 HW.out.2
 have c0':=(hB.cell (World.block_lt_of_cell? _ _ c0)).trans c0
 have c1':=(hB.cell (World.block_lt_of_cell? _ _ c1)).trans c1
 have t0:=one_cell x0
 clear c0 c1
 have HB1:=Lib.hid (And.intro hB (zzT HR.out.2.2.2 hB))
 have E:=Lib.hid E
 have HX:=Lib.hid (And.intro hX (And.intro hbX rt))
 clear hb1 hX hbX hzX x0 hB rt
 cases ok with
 | false =>
   go_upto_region 2 with (fail)
   rw [HX.out.1]
   clear h15
   go_wp2_with fail
   go_ret
   exact ⟨by rw [E.out];rfl,HB1.out.2⟩
 | true =>
   have C2:=Lib.hid (l2Valid_any (fun _=>True) t (.slice ta t.args.length tc) _ _ ms ps X ((Rep.below HX.out.2.1 fun _ _=>trivial) HX.out.2.2) (h15 rfl) (HR.out.1.below HB1.out.1 fun _ h=>h) (HR.out.2.1.below HB1.out.1 fun _ h=>h) HR.out.2.2.1)
   clear h15
   go_upto_region 2 with (fail)
   rw [HX.out.1]
   go_wp2_with fail
   (with_reducible refine C2.out.mono ?_)
   rintro en w2 ⟨rfl,hb2⟩
   have HB2:=Lib.hid (zzT HB1.out.2 hb2)
   clear hb2
   go_wp2_with fail
   go_ret
   exact ⟨by rw [E.out];rfl,HB2.out⟩
end Go.Proofs.YtdfkiicodfbibaaGreatDoor

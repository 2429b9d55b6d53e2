/- Walks of functions that the statement reaches, and plain words. No conditions. -/
import Derived.Test.YtdfkiicodfbibaaGreatDoorQ12
set_option linter.unusedVariables false
set_option linter.unusedSimpArgs false
set_option maxHeartbeats 8000000
namespace Go.Proofs.YtdfkiicodfbibaaGreatDoor
open Go.RowKit
set_option maxRecDepth 100000 in
theorem l3Follows_any (t:Ty) (b:Bd) (v:Pl) (tv mv pt:Value) (nv:List Value) (w:World) (hk:Rep (fun _=>True) w (encS t) tv) (hb:Reps (fun _=>True) w (encN b) nv) (hm:PlIn (fun _=>True) t v mv pt w)
 (h15:atomsT t<=15) (hf:fitB t.args b) (hw:wfB b) :
 Calls Tryz.prog 62 #[.agg #[tv],.agg nv.toArray,.agg #[mv,pt]] w fun en w'=>en=.returned (.bool (decide (followsTo t b v v.length)))/\Below w.heap.size w w':=by
 have h60:=valid_len hm.ok
 obtain ⟨vi,a2,c2,a3,c3,rfl,_,_⟩:=encN_open hb
 obtain ⟨ta,tc,rfl⟩:=encS_slice hk
 obtain ⟨ma,mc,rfl,hmcap,_⟩:=Rep_sl1_open hm.m
 obtain ⟨pa,pc,rfl,hpcap,_⟩:=Rep_sl1_open hm.p
 obtain ⟨_,_,e1,hmc⟩:=hm.m.cells
 obtain ⟨_,_,e2,hpc⟩:=hm.p.cells
 simp only [Value.slice.injEq,true_and] at e1 e2
 obtain ⟨rfl,rfl⟩:=e1
 obtain ⟨rfl,rfl⟩:=e2
 generalize hq0:atomOf b=q0 at *
 generalize hq2:(kidsOf b).length=q2 at *
 generalize hq3:(yesOf b).length=q3 at *
 obtain ⟨W,hW,hbW,hz,b0,b1,b2⟩:=boxes_3 w (.cells #[.slice ta t.args.length tc] 78) (.cells #[str q0,.int .i64 vi,.slice a2 q2 c2,.slice a3 q3 c3] 81) (.cells #[.slice ma v.length mc,.slice pa v.length pc] 33)
 have PF:=Lib.hid (fun e (he:e<v.length) (he2:e % 2=0)=>place_fits h15 hf hw hm.ok e he he2)
 have RPL:=Lib.hid (fun (y:World) (hy:Below w.heap.size w y) (k n:Nat) (s0:St) (hnk:n=k+1) (hkv:n<=v.length) (hke:k % 2=0) (hfo:followsTo t b v k) (hs0:placeAt t b v (k+1)=some s0) (mv' pt':Value) (h1:MvRep (fun _=>True) w (v.take n) mv') (h2:PtRep (fun _=>True) w (v.take n) pt') =>
  l3Reply_any (fun _=>True) t b (v.take n) k s0 (.slice ta t.args.length tc) mv' pt' [str q0,.int .i64 vi,.slice a2 q2 c2,.slice a3 q3 c3] y (hk.below hy fun _ h=>h) ((Rep.keep fun i o hi ho=>⟨hi,by rw [hy.block i (lt_of_heap ho)];exact ho⟩).2 _ _ hb) ((hm.take h1 h2).below hy) h15 hf hw (by rw [List.length_take];omega) hke (follows_take hm.ok b (by omega) (by omega) hfo) (by rw [placeAt_take hm.ok b (by omega) (by omega)];exact hs0))
 have HH:=Lib.hid (And.intro hmc (And.intro hpc (And.intro hbW (And.intro hm (And.intro hmcap hpcap)))))
 have HW:=Lib.hid (And.intro hW (And.intro hz (And.intro b0 (And.intro b1 b2))))
 clear hm hmc hpc hz b0 b1 b2 hbW hW hk hb h15 hf hw hmcap hpcap
 obtain ⟨c0,c1,_,_⟩:=cells_2 HW.out.2.2.2.2
 go_enter Tryz.func62,Tryz.ntmps62
 go_upto_region 1 with (fail)
 rw [HW.out.1]
 go_wp2_with fail
 go_loopw [7] (fun i wr=>∃ (wz:World) (k n:Nat),wz=wr/\n=k+1/\k % 2=0/\k<=v.length+1/\i=.int .i64 (n:Nat)/\followsTo t b v n/\Below W.heap.size W wz) (fun i _=>v.length+5-(intOf i).toNat)
 case atStart=>exact ⟨_,0,1,rfl,rfl,rfl,by omega,rfl,fun i hi h=>by omega,Below.refl _ _⟩
 case round =>
  obtain ⟨wr,k,n,rfl,hnk,hke,hkl,rfl,hfo,hB⟩:=hrel
  have d0:=(hB.cell (World.block_lt_of_cell? _ _ c0)).trans c0
  have d1:=(hB.cell (World.block_lt_of_cell? _ _ c1)).trans c1
  clear c0 c1
  have HB:=Lib.hid (And.intro hB (zzT HH.out.2.2.1 hB))
  clear hB
  by_cases hlt:n<v.length
  ·have hltI:(n:Int)<(v.length:Int):=by omega
   obtain ⟨x,p,z,hvk,hok⟩:=valid_at HH.out.2.2.2.1.ok hlt
   obtain ⟨mb,mo,rfl,_,hmb,hmk⟩:=HH.out.1 n _ hvk
   obtain ⟨pb,po,rfl,_,hpb,hpk⟩:=HH.out.2.1 n _ hvk
   have hmcap:=HH.out.2.2.2.2.1
   have hpcap:=HH.out.2.2.2.2.2
   have hlt2:(v.take n).length=n:=by rw [List.length_take];omega
   have HM:MvRep (fun _=>True) w (v.take n) (.slice (some ⟨mb,mo,none⟩) n mc):=by
    have:=Rep_take HH.out.2.2.2.1.m (show n<=v.length by omega) (by simp)
    unfold MvRep;rw [hlt2,List.map_take];exact this
   have HP:PtRep (fun _=>True) w (v.take n) (.slice (some ⟨pb,po,none⟩) n pc):=by
    have:=Rep_take HH.out.2.2.2.1.p (show n<=v.length by omega) (by simp)
    unfold PtRep;rw [hlt2,List.map_take];exact this
   have CCU:=Lib.hid (fun (y:World)=>l3Cut_at mb mo mc pb po pc v.length v.length n y (by omega) (by omega))
   obtain ⟨s,hand,hs0,hfit⟩:=PF.out k (by omega) hke (fun i hi h=>hfo i (by omega) h)
   have CRE:∀ y,Below wr.heap.size wr y->Calls Tryz.prog 76 #[.agg #[.slice ta t.args.length tc],.agg #[str q0,.int .i64 vi,.slice a2 q2 c2,.slice a3 q3 c3],.agg #[.slice (some ⟨mb,mo,none⟩) n mc,.slice (some ⟨pb,po,none⟩) n pc]] y (ReplyQ s (v.take n) (.slice (some ⟨mb,mo,none⟩) n mc) (.slice (some ⟨pb,po,none⟩) n pc) y):=fun y hy =>
    RPL.out y (zzT HB.out.2 hy) k n s hnk (by omega) hke (fun i hi h=>hfo i (by omega) h) hs0 _ _ HM HP
   have hrep:replyAt t b v n=told s:=by unfold replyAt;rw [hnk,hs0];rfl
   have KEY:=Lib.hid (fun (y:World) (hy:Below wr.heap.size wr y)=>(show (y.cell? ⟨w.heap.size+2,0,none⟩=some (.slice (some ⟨mb,mo,none⟩) v.length mc)/\y.cell? ⟨w.heap.size+2,1,none⟩=some (.slice (some ⟨pb,po,none⟩) v.length pc))/\y.cell? ⟨mb,mo+n,none⟩=some (str (x::p))/\y.cell? ⟨pb,po+n,none⟩=some (.int .i64 z)/\y.cell? ⟨w.heap.size,0,none⟩=some (.slice ta t.args.length tc)/\y.cell? ⟨w.heap.size+1,0,none⟩=some (str q0)/\y.cell? ⟨w.heap.size+1,1,none⟩=some (.int .i64 vi)/\y.cell? ⟨w.heap.size+1,2,none⟩=some (.slice a2 q2 c2)/\y.cell? ⟨w.heap.size+1,3,none⟩=some (.slice a3 q3 c3) from by
    have hk:∀ (a:Addr) (u:Value),wr.cell? a=some u->y.cell? a=some u:=fun a u h=>(hy.cell (World.block_lt_of_cell? _ _ h)).trans h
    have hkW:∀ (a:Addr) (u:Value),W.cell? a=some u->y.cell? a=some u:=fun a u h=>hk a u ((HB.out.1.cell (World.block_lt_of_cell? _ _ h)).trans h)
    obtain ⟨i0,i1,i2,i3⟩:=cells_4 HW.out.2.2.2.1
    exact ⟨⟨hk _ _ d0,hk _ _ d1⟩,hk _ _ ((HB.out.2.cell (p:=⟨mb,mo+n,none⟩) hmb).trans hmk),hk _ _ ((HB.out.2.cell (p:=⟨pb,po+n,none⟩) hpb).trans hpk),hkW _ _ (one_cell HW.out.2.2.1),hkW _ _ i0,hkW _ _ i1,hkW _ _ i2,hkW _ _ i3⟩))
   have HF:=Lib.hid (And.intro hfo (And.intro hnk (And.intro hke (And.intro hkl (And.intro hlt (And.intro hvk hrep))))))
   have HLT:=Lib.hid hlt2
   obtain ⟨M,hM⟩:=zzM (x::p)
   rw [<- hM] at KEY
   have HMM:=Lib.hid hM
   have hw2:IntKind.i64.wrap ((n:Int)+2)=((n+2:Nat):Int):=by rw [wrap_low _ (by omega) (by omega)];omega
   obtain ⟨oo,ho⟩:=zzN (told s)
   have HO:=Lib.hid ho
   clear hvk hok hmb hmk hpb hpk hs0 hfit hrep hfo hnk hke hkl hM RPL PF HM HP hmcap hpcap hlt2
   cases oo with
   | none =>
     have CRN:=Lib.hid (fun (y:World) (hy:Below wr.heap.size wr y)=>(show Calls Tryz.prog 76 #[.agg #[.slice ta t.args.length tc],.agg #[str q0,.int .i64 vi,.slice a2 q2 c2,.slice a3 q3 c3],.agg #[.slice (some ⟨mb,mo,none⟩) n mc,.slice (some ⟨pb,po,none⟩) n pc]] y (fun en w'=>en=.returned (.tuple #[.agg #[.slice (some ⟨mb,mo,none⟩) n mc,.slice (some ⟨pb,po,none⟩) n pc],.bool false])/\Below y.heap.size y w') from by
      refine (CRE y hy).mono ?_
      rintro en w' ⟨r1,m1,e1,r2,m2,e2,rfl,hb,hno,_⟩
      obtain ⟨h1,h2⟩:=hno ho
      rw [h1,h2,ho];exact ⟨rfl,hb⟩))
     clear CRE ho
     go_upto_region 4 with (fail)
     clear d0 d1
     refine cut_code (X:=Nat) (fun zz x=>(((((((((((zz.put (some 18) (.agg #[.slice ta t.args.length tc])).put (some 19) (.agg #[str q0,.int .i64 vi,.slice a2 q2 c2,.slice a3 q3 c3])).put (some 20) (.agg #[.slice (some ⟨mb,mo,none⟩) v.length mc,.slice (some ⟨pb,po,none⟩) v.length pc])).put (some 21) (.int .i64 (n:Nat))).put (some 22) (.agg #[.slice (some ⟨mb,mo,none⟩) n mc,.slice (some ⟨pb,po,none⟩) n pc])).put (some 23) (.tuple #[.agg #[.slice (some ⟨mb,mo,none⟩) n mc,.slice (some ⟨pb,po,none⟩) n pc],.bool false])).put (some 17) (.tuple #[.agg #[.slice (some ⟨mb,mo,none⟩) n mc,.slice (some ⟨pb,po,none⟩) n pc],.bool false])).put (some 24) (.agg #[.slice (some ⟨mb,mo,none⟩) n mc,.slice (some ⟨pb,po,none⟩) n pc])).put (some 25) (.bool false)).put (some 8) (.pointer (some ⟨x,0,none⟩))).put (some 9) (.bool false))) (fun x w7=>Below wr.heap.size wr w7) ?_ ?_
     ·refine wp_region_noPanic ?_
      refine wp_region_S (fun w'=>Below wr.heap.size wr w') (fun _=>false) (by kernel_rfl) ?_
      obtain ⟨y0,hy0⟩:=zzN (wr.drew)
      rw [hy0]
      have hBy0:Below wr.heap.size wr y0:=by rw [<- hy0];exact Below.drew (Below.refl _ _)
      obtain ⟨tg0,htg0⟩:∃ x:Nat->Nat,x=fun _=>0:=⟨_,rfl⟩
      clear hy0 htg0
      refine wpAnyS_take 0 (v:=?_) (by kernel_rfl) (by kernel_rfl) (by kernel_rfl) (by kernel_rfl) (fun _ _ _ _ h=>h) hBy0 ?_ ?_
      rotate_left
      ·(intro oi ho;simp at ho;subst ho;refine Or.inl ⟨by rfl,fun w' hw'=>?_⟩;have e0:=(KEY.out w' hw').2.2.2.1;go_simp;try with_reducible rfl)
      (intro d hd;simp at hd;subst hd;simp only [Act.put,List.setIfInBounds_toArray,List.set_cons_zero,List.set_cons_succ])
      refine wpAnyS_take 1 (v:=?_) (by kernel_rfl) (by kernel_rfl) (by kernel_rfl) (by kernel_rfl) (fun _ _ _ _ h=>h) hBy0 ?_ ?_
      rotate_left
      ·(intro oi ho;simp at ho;subst ho;refine Or.inl ⟨by rfl,fun w' hw'=>?_⟩;obtain ⟨_,_,_,_,e0,e1,e2,e3⟩:=KEY.out w' hw';go_simp;try with_reducible rfl)
      (intro d hd;simp at hd;subst hd;simp only [Act.put,List.setIfInBounds_toArray,List.set_cons_zero,List.set_cons_succ])
      refine wpAnyS_take 2 (v:=?_) (by kernel_rfl) (by kernel_rfl) (by kernel_rfl) (by kernel_rfl) (fun _ _ _ _ h=>h) hBy0 ?_ ?_
      rotate_left
      ·(intro oi ho;simp at ho;subst ho;refine Or.inl ⟨by rfl,fun w' hw'=>?_⟩;obtain ⟨e0,e1⟩:=(KEY.out w' hw').1;go_simp;try with_reducible rfl)
      (intro d hd;simp at hd;subst hd;simp only [Act.put,List.setIfInBounds_toArray,List.set_cons_zero,List.set_cons_succ])
      refine wpAnyS_take 3 (v:=?_) (by kernel_rfl) (by kernel_rfl) (by kernel_rfl) (by kernel_rfl) (fun _ _ _ _ h=>h) hBy0 ?_ ?_
      rotate_left
      ·(intro oi ho;simp at ho;subst ho;refine Or.inl ⟨by rfl,fun w' hw'=>?_⟩;go_simp;try with_reducible rfl)
      (intro d hd;simp at hd;subst hd;simp only [Act.put,List.setIfInBounds_toArray,List.set_cons_zero,List.set_cons_succ])
      refine wpAnyS_two 4 9 (by kernel_rfl) ?_ ?_
      ·(intro o4 ho K' hK;simp at ho;subst ho)
       go_simp
       go_at_call 116
       (with_reducible refine (CCU.out _).mono ?_)
       rintro en y1 ⟨rfl,hb⟩
       have hBy1:Below wr.heap.size wr y1:=zzT hBy0 hb
       have hby1:=Lib.hid hb;clear hb
       refine hK.out _ _ (fun _=>?_) ?_
       ·exact hBy1
       clear hK K'
       (try simp only [Act.put,List.setIfInBounds_toArray,List.set_cons_zero,List.set_cons_succ])
       refine wpAnyS_two 5 9 (by kernel_rfl) ?_ ?_
       ·(intro o5 ho K' hK;simp at ho;subst ho)
        go_simp
        go_at_call 76
        (with_reducible refine (CRN.out _ hBy1).mono ?_)
        rintro en y2 ⟨rfl,hb⟩
        have hBy2:Below wr.heap.size wr y2:=zzT hBy1 hb
        have hby2:=Lib.hid hb;clear hb
        refine hK.out _ _ (fun _=>?_) ?_
        ·exact hBy2
        clear hK K'
        (try simp only [Act.put,List.setIfInBounds_toArray,List.set_cons_zero,List.set_cons_succ])
        refine wpAnyS_take 6 (v:=?_) (by kernel_rfl) (by kernel_rfl) (by kernel_rfl) (by kernel_rfl) (fun _ _ _ _ h=>h) hBy2 ?_ ?_
        rotate_left
        ·(intro oi ho;simp at ho;subst ho;refine Or.inl ⟨by rfl,fun w' hw'=>?_⟩;go_simp;try with_reducible rfl)
        (intro d hd;simp at hd;subst hd;simp only [Act.put,List.setIfInBounds_toArray,List.set_cons_zero,List.set_cons_succ])
        refine wpAnyS_take 7 (v:=?_) (by kernel_rfl) (by kernel_rfl) (by kernel_rfl) (by kernel_rfl) (fun _ _ _ _ h=>h) hBy2 ?_ ?_
        rotate_left
        ·(intro oi ho;simp at ho;subst ho;refine Or.inl ⟨by rfl,fun w' hw'=>?_⟩;go_simp;try with_reducible rfl)
        (intro d hd;simp at hd;subst hd;simp only [Act.put,List.setIfInBounds_toArray,List.set_cons_zero,List.set_cons_succ])
        refine wpAnyS_take 8 (v:=?_) (by kernel_rfl) (by kernel_rfl) (by kernel_rfl) (by kernel_rfl) (fun _ _ _ _ h=>h) hBy2 ?_ ?_
        rotate_left
        ·(intro oi ho;simp at ho;subst ho;refine Or.inl ⟨by rfl,fun w' hw'=>?_⟩;go_simp;try with_reducible rfl)
        (intro d hd;simp at hd;subst hd;simp only [Act.put,List.setIfInBounds_toArray,List.set_cons_zero,List.set_cons_succ])
        refine wpAnyS_one 9 (by kernel_rfl) ?_
        (intro o9 ho K' hK;simp at ho;subst ho)
        go_simp
        refine hK.out _ _ (fun _=>?_) ?_
        ·exact hBy2.alloc hBy2.size _
        clear hK K'
        (try simp only [Act.put,List.setIfInBounds_toArray,List.set_cons_zero,List.set_cons_succ])
        obtain ⟨y3,hnew⟩:=zzN (y2.alloc (.cells #[.slice none 0 0,.slice none 0 0] 33))
        obtain ⟨gX,hgX⟩:=zzN (y2.heap.size)
        rw [hnew,hgX]
        have hBy3:Below wr.heap.size wr y3:=by rw [<- hnew];exact hBy2.alloc hBy2.size _
        obtain ⟨tg3,htg⟩:=zzN (retag tg0 gX 1)
        have EX:Hid (y3.heap[gX]? = some (.cells #[.slice none 0 0,.slice none 0 0] 33 (0,0))/\tg3 gX=1/\wr.heap.size<=gX):=by rw [<- hnew,<- htg,<- hgX];exact ⟨heap_new _ _,by unfold retag;rw [if_pos rfl],hBy2.size⟩
        clear hnew hgX htg
        refine wpAnyS_one 10 (by kernel_rfl) ?_
        (intro o10 ho K' hK;simp at ho;subst ho)
        obtain ⟨uX0,cX0⟩:∃ u,y3.cell? ⟨gX,0,none⟩=some u:=⟨_,by simp [World.cell?,EX.out.1];rfl⟩
        have fX0:y3.frozen? ⟨gX,0,none⟩=false:=by simp [World.frozen?,EX.out.1]
        obtain ⟨uX1,cX1⟩:∃ u,y3.cell? ⟨gX,1,none⟩=some u:=⟨_,by simp [World.cell?,EX.out.1];rfl⟩
        have fX1:y3.frozen? ⟨gX,1,none⟩=false:=by simp [World.frozen?,EX.out.1]
        go_simp
        refine hK.out _ _ (fun _=>?_) ?_
        ·exact ((hBy3.setCell (p:=⟨gX,0,none⟩) EX.out.2.2 _).setCell (p:=⟨gX,1,none⟩) EX.out.2.2 _)
        clear hK K'
        (try simp only [Act.put,List.setIfInBounds_toArray,List.set_cons_zero,List.set_cons_succ])
        obtain ⟨y4,hnew⟩:=zzN (((y3.setCell ⟨gX,0,none⟩ (.slice (some ⟨mb,mo,none⟩) n mc)).setCell ⟨gX,1,none⟩ (.slice (some ⟨pb,po,none⟩) n pc)))
        rw [hnew]
        have hBy4:Below wr.heap.size wr y4:=by rw [<- hnew];exact ((hBy3.setCell (p:=⟨gX,0,none⟩) EX.out.2.2 _).setCell (p:=⟨gX,1,none⟩) EX.out.2.2 _)
        have hbt:But (fun i=>i=gX) y3 y4:=by rw [<- hnew];exact (((But.refl (fun i=>i=gX) y3).setCell (p:=⟨gX,0,none⟩) (.inl rfl) _).setCell (p:=⟨gX,1,none⟩) (.inl rfl) _)
        have htg:∀ g,g=gX->tg3 g=1:=fun g e=>by rw [e];exact EX.out.2.1
        have EX:Hid (y4.heap[gX]? = some (.cells #[.slice (some ⟨mb,mo,none⟩) n mc,.slice (some ⟨pb,po,none⟩) n pc] 33 (0,0))/\tg3 gX=1/\wr.heap.size<=gX):=⟨by rw [<- hnew];exact (setCell_at' (setCell_at' EX.out.1)),EX.out.2⟩
        clear hnew hbt htg cX0 fX0 cX1 fX1
        refine wpAnyS_one 11 (by kernel_rfl) ?_
        (intro o11 ho K' hK;simp at ho;subst ho)
        go_simp
        refine hK.out _ _ (fun _=>?_) ?_
        ·exact hBy4
        clear hK K'
        (try simp only [Act.put,List.setIfInBounds_toArray,List.set_cons_zero,List.set_cons_succ])
        refine wpAnyS_done (by kernel_rfl) (NoPanic.normal ?_) _
        exact ⟨rfl,gX,by rfl,hBy4⟩
       ·(intro o9 ho K' hK;simp at ho;subst ho)
        go_simp
        refine hK.out _ _ (fun _=>?_) ?_
        ·exact hBy1.alloc hBy1.size _
        clear hK K'
        (try simp only [Act.put,List.setIfInBounds_toArray,List.set_cons_zero,List.set_cons_succ])
        obtain ⟨y6,hnew⟩:=zzN (y1.alloc (.cells #[.slice none 0 0,.slice none 0 0] 33))
        obtain ⟨gX,hgX⟩:=zzN (y1.heap.size)
        rw [hnew,hgX]
        have hBy6:Below wr.heap.size wr y6:=by rw [<- hnew];exact hBy1.alloc hBy1.size _
        obtain ⟨tg6,htg⟩:=zzN (retag tg0 gX 1)
        have EX:Hid (y6.heap[gX]? = some (.cells #[.slice none 0 0,.slice none 0 0] 33 (0,0))/\tg6 gX=1/\wr.heap.size<=gX):=by rw [<- hnew,<- htg,<- hgX];exact ⟨heap_new _ _,by unfold retag;rw [if_pos rfl],hBy1.size⟩
        clear hnew hgX htg
        refine wpAnyS_one 5 (by kernel_rfl) ?_
        (intro o5 ho K' hK;simp at ho;subst ho)
        go_simp
        go_at_call 76
        (with_reducible refine (CRN.out _ hBy6).mono ?_)
        rintro en y7 ⟨rfl,hb⟩
        have hBy7:Below wr.heap.size wr y7:=zzT hBy6 hb
        have EX:Hid (y7.heap[gX]? = some (.cells #[.slice none 0 0,.slice none 0 0] 33 (0,0))/\tg6 gX=1/\wr.heap.size<=gX):=⟨(hb.block _ (lt_of_heap EX.out.1)).trans EX.out.1,EX.out.2⟩
        have hby7:=Lib.hid hb;clear hb
        refine hK.out _ _ (fun _=>?_) ?_
        ·exact hBy7
        clear hK K'
        (try simp only [Act.put,List.setIfInBounds_toArray,List.set_cons_zero,List.set_cons_succ])
        refine wpAnyS_take 6 (v:=?_) (by kernel_rfl) (by kernel_rfl) (by kernel_rfl) (by kernel_rfl) (fun _ _ _ _ h=>h) hBy7 ?_ ?_
        rotate_left
        ·(intro oi ho;simp at ho;subst ho;refine Or.inl ⟨by rfl,fun w' hw'=>?_⟩;go_simp;try with_reducible rfl)
        (intro d hd;simp at hd;subst hd;simp only [Act.put,List.setIfInBounds_toArray,List.set_cons_zero,List.set_cons_succ])
        refine wpAnyS_take 7 (v:=?_) (by kernel_rfl) (by kernel_rfl) (by kernel_rfl) (by kernel_rfl) (fun _ _ _ _ h=>h) hBy7 ?_ ?_
        rotate_left
        ·(intro oi ho;simp at ho;subst ho;refine Or.inl ⟨by rfl,fun w' hw'=>?_⟩;go_simp;try with_reducible rfl)
        (intro d hd;simp at hd;subst hd;simp only [Act.put,List.setIfInBounds_toArray,List.set_cons_zero,List.set_cons_succ])
        refine wpAnyS_take 8 (v:=?_) (by kernel_rfl) (by kernel_rfl) (by kernel_rfl) (by kernel_rfl) (fun _ _ _ _ h=>h) hBy7 ?_ ?_
        rotate_left
        ·(intro oi ho;simp at ho;subst ho;refine Or.inl ⟨by rfl,fun w' hw'=>?_⟩;go_simp;try with_reducible rfl)
        (intro d hd;simp at hd;subst hd;simp only [Act.put,List.setIfInBounds_toArray,List.set_cons_zero,List.set_cons_succ])
        refine wpAnyS_one 10 (by kernel_rfl) ?_
        (intro o10 ho K' hK;simp at ho;subst ho)
        obtain ⟨uX0,cX0⟩:∃ u,y7.cell? ⟨gX,0,none⟩=some u:=⟨_,by simp [World.cell?,EX.out.1];rfl⟩
        have fX0:y7.frozen? ⟨gX,0,none⟩=false:=by simp [World.frozen?,EX.out.1]
        obtain ⟨uX1,cX1⟩:∃ u,y7.cell? ⟨gX,1,none⟩=some u:=⟨_,by simp [World.cell?,EX.out.1];rfl⟩
        have fX1:y7.frozen? ⟨gX,1,none⟩=false:=by simp [World.frozen?,EX.out.1]
        go_simp
        refine hK.out _ _ (fun _=>?_) ?_
        ·exact ((hBy7.setCell (p:=⟨gX,0,none⟩) EX.out.2.2 _).setCell (p:=⟨gX,1,none⟩) EX.out.2.2 _)
        clear hK K'
        (try simp only [Act.put,List.setIfInBounds_toArray,List.set_cons_zero,List.set_cons_succ])
        obtain ⟨y8,hnew⟩:=zzN (((y7.setCell ⟨gX,0,none⟩ (.slice (some ⟨mb,mo,none⟩) n mc)).setCell ⟨gX,1,none⟩ (.slice (some ⟨pb,po,none⟩) n pc)))
        rw [hnew]
        have hBy8:Below wr.heap.size wr y8:=by rw [<- hnew];exact ((hBy7.setCell (p:=⟨gX,0,none⟩) EX.out.2.2 _).setCell (p:=⟨gX,1,none⟩) EX.out.2.2 _)
        have hbt:But (fun i=>i=gX) y7 y8:=by rw [<- hnew];exact (((But.refl (fun i=>i=gX) y7).setCell (p:=⟨gX,0,none⟩) (.inl rfl) _).setCell (p:=⟨gX,1,none⟩) (.inl rfl) _)
        have htg:∀ g,g=gX->tg6 g=1:=fun g e=>by rw [e];exact EX.out.2.1
        have EX:Hid (y8.heap[gX]? = some (.cells #[.slice (some ⟨mb,mo,none⟩) n mc,.slice (some ⟨pb,po,none⟩) n pc] 33 (0,0))/\tg6 gX=1/\wr.heap.size<=gX):=⟨by rw [<- hnew];exact (setCell_at' (setCell_at' EX.out.1)),EX.out.2⟩
        clear hnew hbt htg cX0 fX0 cX1 fX1
        refine wpAnyS_one 11 (by kernel_rfl) ?_
        (intro o11 ho K' hK;simp at ho;subst ho)
        go_simp
        refine hK.out _ _ (fun _=>?_) ?_
        ·exact hBy8
        clear hK K'
        (try simp only [Act.put,List.setIfInBounds_toArray,List.set_cons_zero,List.set_cons_succ])
        refine wpAnyS_done (by kernel_rfl) (NoPanic.normal ?_) _
        exact ⟨rfl,gX,by rfl,hBy8⟩
      ·(intro o9 ho K' hK;simp at ho;subst ho)
       go_simp
       refine hK.out _ _ (fun _=>?_) ?_
       ·exact hBy0.alloc hBy0.size _
       clear hK K'
       (try simp only [Act.put,List.setIfInBounds_toArray,List.set_cons_zero,List.set_cons_succ])
       obtain ⟨y10,hnew⟩:=zzN (y0.alloc (.cells #[.slice none 0 0,.slice none 0 0] 33))
       obtain ⟨gX,hgX⟩:=zzN (y0.heap.size)
       rw [hnew,hgX]
       have hBy10:Below wr.heap.size wr y10:=by rw [<- hnew];exact hBy0.alloc hBy0.size _
       obtain ⟨tg10,htg⟩:=zzN (retag tg0 gX 1)
       have EX:Hid (y10.heap[gX]? = some (.cells #[.slice none 0 0,.slice none 0 0] 33 (0,0))/\tg10 gX=1/\wr.heap.size<=gX):=by rw [<- hnew,<- htg,<- hgX];exact ⟨heap_new _ _,by unfold retag;rw [if_pos rfl],hBy0.size⟩
       clear hnew hgX htg
       refine wpAnyS_one 4 (by kernel_rfl) ?_
       (intro o4 ho K' hK;simp at ho;subst ho)
       go_simp
       go_at_call 116
       (with_reducible refine (CCU.out _).mono ?_)
       rintro en y11 ⟨rfl,hb⟩
       have hBy11:Below wr.heap.size wr y11:=zzT hBy10 hb
       have EX:Hid (y11.heap[gX]? = some (.cells #[.slice none 0 0,.slice none 0 0] 33 (0,0))/\tg10 gX=1/\wr.heap.size<=gX):=⟨(hb.block _ (lt_of_heap EX.out.1)).trans EX.out.1,EX.out.2⟩
       have hby11:=Lib.hid hb;clear hb
       refine hK.out _ _ (fun _=>?_) ?_
       ·exact hBy11
       clear hK K'
       (try simp only [Act.put,List.setIfInBounds_toArray,List.set_cons_zero,List.set_cons_succ])
       refine wpAnyS_one 5 (by kernel_rfl) ?_
       (intro o5 ho K' hK;simp at ho;subst ho)
       go_simp
       go_at_call 76
       (with_reducible refine (CRN.out _ hBy11).mono ?_)
       rintro en y12 ⟨rfl,hb⟩
       have hBy12:Below wr.heap.size wr y12:=zzT hBy11 hb
       have EX:Hid (y12.heap[gX]? = some (.cells #[.slice none 0 0,.slice none 0 0] 33 (0,0))/\tg10 gX=1/\wr.heap.size<=gX):=⟨(hb.block _ (lt_of_heap EX.out.1)).trans EX.out.1,EX.out.2⟩
       have hby12:=Lib.hid hb;clear hb
       refine hK.out _ _ (fun _=>?_) ?_
       ·exact hBy12
       clear hK K'
       (try simp only [Act.put,List.setIfInBounds_toArray,List.set_cons_zero,List.set_cons_succ])
       refine wpAnyS_take 6 (v:=?_) (by kernel_rfl) (by kernel_rfl) (by kernel_rfl) (by kernel_rfl) (fun _ _ _ _ h=>h) hBy12 ?_ ?_
       rotate_left
       ·(intro oi ho;simp at ho;subst ho;refine Or.inl ⟨by rfl,fun w' hw'=>?_⟩;go_simp;try with_reducible rfl)
       (intro d hd;simp at hd;subst hd;simp only [Act.put,List.setIfInBounds_toArray,List.set_cons_zero,List.set_cons_succ])
       refine wpAnyS_take 7 (v:=?_) (by kernel_rfl) (by kernel_rfl) (by kernel_rfl) (by kernel_rfl) (fun _ _ _ _ h=>h) hBy12 ?_ ?_
       rotate_left
       ·(intro oi ho;simp at ho;subst ho;refine Or.inl ⟨by rfl,fun w' hw'=>?_⟩;go_simp;try with_reducible rfl)
       (intro d hd;simp at hd;subst hd;simp only [Act.put,List.setIfInBounds_toArray,List.set_cons_zero,List.set_cons_succ])
       refine wpAnyS_take 8 (v:=?_) (by kernel_rfl) (by kernel_rfl) (by kernel_rfl) (by kernel_rfl) (fun _ _ _ _ h=>h) hBy12 ?_ ?_
       rotate_left
       ·(intro oi ho;simp at ho;subst ho;refine Or.inl ⟨by rfl,fun w' hw'=>?_⟩;go_simp;try with_reducible rfl)
       (intro d hd;simp at hd;subst hd;simp only [Act.put,List.setIfInBounds_toArray,List.set_cons_zero,List.set_cons_succ])
       refine wpAnyS_one 10 (by kernel_rfl) ?_
       (intro o10 ho K' hK;simp at ho;subst ho)
       obtain ⟨uX0,cX0⟩:∃ u,y12.cell? ⟨gX,0,none⟩=some u:=⟨_,by simp [World.cell?,EX.out.1];rfl⟩
       have fX0:y12.frozen? ⟨gX,0,none⟩=false:=by simp [World.frozen?,EX.out.1]
       obtain ⟨uX1,cX1⟩:∃ u,y12.cell? ⟨gX,1,none⟩=some u:=⟨_,by simp [World.cell?,EX.out.1];rfl⟩
       have fX1:y12.frozen? ⟨gX,1,none⟩=false:=by simp [World.frozen?,EX.out.1]
       go_simp
       refine hK.out _ _ (fun _=>?_) ?_
       ·exact ((hBy12.setCell (p:=⟨gX,0,none⟩) EX.out.2.2 _).setCell (p:=⟨gX,1,none⟩) EX.out.2.2 _)
       clear hK K'
       (try simp only [Act.put,List.setIfInBounds_toArray,List.set_cons_zero,List.set_cons_succ])
       obtain ⟨y13,hnew⟩:=zzN (((y12.setCell ⟨gX,0,none⟩ (.slice (some ⟨mb,mo,none⟩) n mc)).setCell ⟨gX,1,none⟩ (.slice (some ⟨pb,po,none⟩) n pc)))
       rw [hnew]
       have hBy13:Below wr.heap.size wr y13:=by rw [<- hnew];exact ((hBy12.setCell (p:=⟨gX,0,none⟩) EX.out.2.2 _).setCell (p:=⟨gX,1,none⟩) EX.out.2.2 _)
       have hbt:But (fun i=>i=gX) y12 y13:=by rw [<- hnew];exact (((But.refl (fun i=>i=gX) y12).setCell (p:=⟨gX,0,none⟩) (.inl rfl) _).setCell (p:=⟨gX,1,none⟩) (.inl rfl) _)
       have htg:∀ g,g=gX->tg10 g=1:=fun g e=>by rw [e];exact EX.out.2.1
       have EX:Hid (y13.heap[gX]? = some (.cells #[.slice (some ⟨mb,mo,none⟩) n mc,.slice (some ⟨pb,po,none⟩) n pc] 33 (0,0))/\tg10 gX=1/\wr.heap.size<=gX):=⟨by rw [<- hnew];exact (setCell_at' (setCell_at' EX.out.1)),EX.out.2⟩
       clear hnew hbt htg cX0 fX0 cX1 fX1
       refine wpAnyS_one 11 (by kernel_rfl) ?_
       (intro o11 ho K' hK;simp at ho;subst ho)
       go_simp
       refine hK.out _ _ (fun _=>?_) ?_
       ·exact hBy13
       clear hK K'
       (try simp only [Act.put,List.setIfInBounds_toArray,List.set_cons_zero,List.set_cons_succ])
       refine wpAnyS_done (by kernel_rfl) (NoPanic.normal ?_) _
       exact ⟨rfl,gX,by rfl,hBy13⟩
     rintro gX W7 hB7
     simp only [pQ,pN,pZ,pS]
     have hwr7:=zzT HB.out.2 hB7
     go_upto_region 5 with (fail)
     refine wp_region_noPanic ?_
     refine wp_region_S (fun w'=>Below W7.heap.size W7 w') (fun _=>false) (by kernel_rfl) ?_
     have hSd:(fun w'=>Below W7.heap.size W7 w') W7.drew:=Below.drew (Below.refl _ _)
     refine wpAnyS_take 0 (v:=?_) (by kernel_rfl) (by kernel_rfl) (by kernel_rfl) (by kernel_rfl) (fun _ _ _ _ h=>h) hSd ?_ ?_
     rotate_left
     ·(intro oi ho;simp at ho;subst ho;refine Or.inl ⟨by rfl,fun w' hw'=>?_⟩;go_simp;try with_reducible rfl)
     (intro d hd;simp at hd;subst hd;simp only [Act.put,List.setIfInBounds_toArray,List.set_cons_zero,List.set_cons_succ])
     refine wpAnyS_take 1 (v:=?_) (by kernel_rfl) (by kernel_rfl) (by kernel_rfl) (by kernel_rfl) (fun _ _ _ _ h=>h) hSd ?_ ?_
     rotate_left
     ·(intro oi ho;simp at ho;subst ho;refine Or.inl ⟨by rfl,fun w' hw'=>?_⟩;go_simp;try with_reducible rfl)
     (intro d hd;simp at hd;subst hd;simp only [Act.put,List.setIfInBounds_toArray,List.set_cons_zero,List.set_cons_succ])
     refine wpAnyS_take 2 (v:=?_) (by kernel_rfl) (by kernel_rfl) (by kernel_rfl) (by kernel_rfl) (fun _ _ _ _ h=>h) hSd ?_ ?_
     rotate_left
     ·(intro oi ho;simp at ho;subst ho;refine Or.inl ⟨by rfl,fun w' hw'=>?_⟩;go_simp;try with_reducible rfl)
     (intro d hd;simp at hd;subst hd;simp only [Act.put,List.setIfInBounds_toArray,List.set_cons_zero,List.set_cons_succ])
     refine wpAnyS_take 3 (v:=undef) (by kernel_rfl) (by kernel_rfl) (by kernel_rfl) (by kernel_rfl) (fun _ _ _ _ h=>h) hSd (fun oi ho=>by simp at ho;subst ho;exact Or.inr ⟨by rfl,rfl⟩) ?_
     (intro d hd;simp at hd;subst hd;simp only [Act.put,List.setIfInBounds_toArray,List.set_cons_zero,List.set_cons_succ])
     refine wpAnyS_take 4 (v:=undef) (by kernel_rfl) (by kernel_rfl) (by kernel_rfl) (by kernel_rfl) (fun _ _ _ _ h=>h) hSd (fun oi ho=>by simp at ho;subst ho;exact Or.inr ⟨by rfl,rfl⟩) ?_
     (intro d hd;simp at hd;subst hd;simp only [Act.put,List.setIfInBounds_toArray,List.set_cons_zero,List.set_cons_succ])
     refine wpAnyS_take 5 (v:=undef) (by kernel_rfl) (by kernel_rfl) (by kernel_rfl) (by kernel_rfl) (fun _ _ _ _ h=>h) hSd (fun oi ho=>by simp at ho;subst ho;exact Or.inr ⟨by rfl,rfl⟩) ?_
     (intro d hd;simp at hd;subst hd;simp only [Act.put,List.setIfInBounds_toArray,List.set_cons_zero,List.set_cons_succ])
     refine wpAnyS_take 6 (v:=undef) (by kernel_rfl) (by kernel_rfl) (by kernel_rfl) (by kernel_rfl) (fun _ _ _ _ h=>h) hSd (fun oi ho=>by simp at ho;subst ho;exact Or.inr ⟨by rfl,rfl⟩) ?_
     (intro d hd;simp at hd;subst hd;simp only [Act.put,List.setIfInBounds_toArray,List.set_cons_zero,List.set_cons_succ])
     refine wpAnyS_take 7 (v:=undef) (by kernel_rfl) (by kernel_rfl) (by kernel_rfl) (by kernel_rfl) (fun _ _ _ _ h=>h) hSd (fun oi ho=>by simp at ho;subst ho;exact Or.inr ⟨by rfl,rfl⟩) ?_
     (intro d hd;simp at hd;subst hd;simp only [Act.put,List.setIfInBounds_toArray,List.set_cons_zero,List.set_cons_succ])
     refine wpAnyS_take 8 (v:=undef) (by kernel_rfl) (by kernel_rfl) (by kernel_rfl) (by kernel_rfl) (fun _ _ _ _ h=>h) hSd (fun oi ho=>by simp at ho;subst ho;exact Or.inr ⟨by rfl,rfl⟩) ?_
     (intro d hd;simp at hd;subst hd;simp only [Act.put,List.setIfInBounds_toArray,List.set_cons_zero,List.set_cons_succ])
     refine wpAnyS_take 9 (v:=undef) (by kernel_rfl) (by kernel_rfl) (by kernel_rfl) (by kernel_rfl) (fun _ _ _ _ h=>h) hSd (fun oi ho=>by simp at ho;subst ho;exact Or.inr ⟨by rfl,rfl⟩) ?_
     (intro d hd;simp at hd;subst hd;simp only [Act.put,List.setIfInBounds_toArray,List.set_cons_zero,List.set_cons_succ])
     refine wpAnyS_take 10 (v:=undef) (by kernel_rfl) (by kernel_rfl) (by kernel_rfl) (by kernel_rfl) (fun _ _ _ _ h=>h) hSd (fun oi ho=>by simp at ho;subst ho;exact Or.inr ⟨by rfl,rfl⟩) ?_
     (intro d hd;simp at hd;subst hd;simp only [Act.put,List.setIfInBounds_toArray,List.set_cons_zero,List.set_cons_succ])
     refine wpAnyS_take 11 (v:=undef) (by kernel_rfl) (by kernel_rfl) (by kernel_rfl) (by kernel_rfl) (fun _ _ _ _ h=>h) hSd (fun oi ho=>by simp at ho;subst ho;exact Or.inr ⟨by rfl,rfl⟩) ?_
     (intro d hd;simp at hd;subst hd;simp only [Act.put,List.setIfInBounds_toArray,List.set_cons_zero,List.set_cons_succ])
     refine wpAnyS_take 12 (v:=undef) (by kernel_rfl) (by kernel_rfl) (by kernel_rfl) (by kernel_rfl) (fun _ _ _ _ h=>h) hSd (fun oi ho=>by simp at ho;subst ho;exact Or.inr ⟨by rfl,rfl⟩) ?_
     (intro d hd;simp at hd;subst hd;simp only [Act.put,List.setIfInBounds_toArray,List.set_cons_zero,List.set_cons_succ])
     refine wpAnyS_take 13 (v:=undef) (by kernel_rfl) (by kernel_rfl) (by kernel_rfl) (by kernel_rfl) (fun _ _ _ _ h=>h) hSd (fun oi ho=>by simp at ho;subst ho;exact Or.inr ⟨by rfl,rfl⟩) ?_
     (intro d hd;simp at hd;subst hd;simp only [Act.put,List.setIfInBounds_toArray,List.set_cons_zero,List.set_cons_succ])
     refine wpAnyS_take 14 (v:=?_) (by kernel_rfl) (by kernel_rfl) (by kernel_rfl) (by kernel_rfl) (fun _ _ _ _ h=>h) hSd ?_ ?_
     rotate_left
     ·(intro oi ho;simp at ho;subst ho;refine Or.inl ⟨by rfl,fun w' hw'=>?_⟩;go_simp;try with_reducible rfl)
     (intro d hd;simp at hd;subst hd;simp only [Act.put,List.setIfInBounds_toArray,List.set_cons_zero,List.set_cons_succ])
     refine wpAnyS_take 15 (v:=?_) (by kernel_rfl) (by kernel_rfl) (by kernel_rfl) (by kernel_rfl) (fun _ _ _ _ h=>h) hSd ?_ ?_
     rotate_left
     ·(intro oi ho;simp at ho;subst ho;refine Or.inl ⟨by rfl,fun w' hw'=>?_⟩;go_simp;try with_reducible rfl)
     (intro d hd;simp at hd;subst hd;simp only [Act.put,List.setIfInBounds_toArray,List.set_cons_zero,List.set_cons_succ])
     refine wpAnyS_take 16 (v:=undef) (by kernel_rfl) (by kernel_rfl) (by kernel_rfl) (by kernel_rfl) (fun _ _ _ _ h=>h) hSd (fun oi ho=>by simp at ho;subst ho;exact Or.inr ⟨by rfl,rfl⟩) ?_
     (intro d hd;simp at hd;subst hd;simp only [Act.put,List.setIfInBounds_toArray,List.set_cons_zero,List.set_cons_succ])
     refine wpAnyS_take 17 (v:=undef) (by kernel_rfl) (by kernel_rfl) (by kernel_rfl) (by kernel_rfl) (fun _ _ _ _ h=>h) hSd (fun oi ho=>by simp at ho;subst ho;exact Or.inr ⟨by rfl,rfl⟩) ?_
     (intro d hd;simp at hd;subst hd;simp only [Act.put,List.setIfInBounds_toArray,List.set_cons_zero,List.set_cons_succ])
     refine wpAnyS_take 18 (v:=undef) (by kernel_rfl) (by kernel_rfl) (by kernel_rfl) (by kernel_rfl) (fun _ _ _ _ h=>h) hSd (fun oi ho=>by simp at ho;subst ho;exact Or.inr ⟨by rfl,rfl⟩) ?_
     (intro d hd;simp at hd;subst hd;simp only [Act.put,List.setIfInBounds_toArray,List.set_cons_zero,List.set_cons_succ])
     refine wpAnyS_take 19 (v:=undef) (by kernel_rfl) (by kernel_rfl) (by kernel_rfl) (by kernel_rfl) (fun _ _ _ _ h=>h) hSd (fun oi ho=>by simp at ho;subst ho;exact Or.inr ⟨by rfl,rfl⟩) ?_
     (intro d hd;simp at hd;subst hd;simp only [Act.put,List.setIfInBounds_toArray,List.set_cons_zero,List.set_cons_succ])
     refine wpAnyS_take 20 (v:=undef) (by kernel_rfl) (by kernel_rfl) (by kernel_rfl) (by kernel_rfl) (fun _ _ _ _ h=>h) hSd (fun oi ho=>by simp at ho;subst ho;exact Or.inr ⟨by rfl,rfl⟩) ?_
     (intro d hd;simp at hd;subst hd;simp only [Act.put,List.setIfInBounds_toArray,List.set_cons_zero,List.set_cons_succ])
     refine wpAnyS_take 21 (v:=undef) (by kernel_rfl) (by kernel_rfl) (by kernel_rfl) (by kernel_rfl) (fun _ _ _ _ h=>h) hSd (fun oi ho=>by simp at ho;subst ho;exact Or.inr ⟨by rfl,rfl⟩) ?_
     (intro d hd;simp at hd;subst hd;simp only [Act.put,List.setIfInBounds_toArray,List.set_cons_zero,List.set_cons_succ])
     refine wpAnyS_take 22 (v:=undef) (by kernel_rfl) (by kernel_rfl) (by kernel_rfl) (by kernel_rfl) (fun _ _ _ _ h=>h) hSd (fun oi ho=>by simp at ho;subst ho;exact Or.inr ⟨by rfl,rfl⟩) ?_
     (intro d hd;simp at hd;subst hd;simp only [Act.put,List.setIfInBounds_toArray,List.set_cons_zero,List.set_cons_succ])
     refine wpAnyS_take 23 (v:=undef) (by kernel_rfl) (by kernel_rfl) (by kernel_rfl) (by kernel_rfl) (fun _ _ _ _ h=>h) hSd (fun oi ho=>by simp at ho;subst ho;exact Or.inr ⟨by rfl,rfl⟩) ?_
     (intro d hd;simp at hd;subst hd;simp only [Act.put,List.setIfInBounds_toArray,List.set_cons_zero,List.set_cons_succ])
     refine wpAnyS_take 24 (v:=undef) (by kernel_rfl) (by kernel_rfl) (by kernel_rfl) (by kernel_rfl) (fun _ _ _ _ h=>h) hSd (fun oi ho=>by simp at ho;subst ho;exact Or.inr ⟨by rfl,rfl⟩) ?_
     (intro d hd;simp at hd;subst hd;simp only [Act.put,List.setIfInBounds_toArray,List.set_cons_zero,List.set_cons_succ])
     refine wpAnyS_take 25 (v:=undef) (by kernel_rfl) (by kernel_rfl) (by kernel_rfl) (by kernel_rfl) (fun _ _ _ _ h=>h) hSd (fun oi ho=>by simp at ho;subst ho;exact Or.inr ⟨by rfl,rfl⟩) ?_
     (intro d hd;simp at hd;subst hd;simp only [Act.put,List.setIfInBounds_toArray,List.set_cons_zero,List.set_cons_succ])
     refine wpAnyS_take 26 (v:=undef) (by kernel_rfl) (by kernel_rfl) (by kernel_rfl) (by kernel_rfl) (fun _ _ _ _ h=>h) hSd (fun oi ho=>by simp at ho;subst ho;exact Or.inr ⟨by rfl,rfl⟩) ?_
     (intro d hd;simp at hd;subst hd;simp only [Act.put,List.setIfInBounds_toArray,List.set_cons_zero,List.set_cons_succ])
     refine wpAnyS_take 27 (v:=?_) (by kernel_rfl) (by kernel_rfl) (by kernel_rfl) (by kernel_rfl) (fun _ _ _ _ h=>h) hSd ?_ ?_
     rotate_left
     ·(intro oi ho;simp at ho;subst ho;refine Or.inl ⟨by rfl,fun w' hw'=>?_⟩;go_simp;try with_reducible rfl)
     (intro d hd;simp at hd;subst hd;simp only [Act.put,List.setIfInBounds_toArray,List.set_cons_zero,List.set_cons_succ])
     refine wpAnyS_done (by kernel_rfl) (NoPanic.normal ?_) _
     have E:=Lib.hid (show decide (followsTo t b v v.length)=false by
      rw [decide_eq_false_iff_not]
      intro h
      have h1:=HF.out.2.1;have h2:=HF.out.2.2.1
      have h3:=h n HF.out.2.2.2.2.1 (by omega)
      rw [HF.out.2.2.2.2.2.2,HO.out,HF.out.2.2.2.2.2.1] at h3
      simp at h3)
     have HB7:=Lib.hid hwr7
     clear hSd hB7 hwr7 KEY
     go_wp2_with fail
     go_ret
     exact ⟨by rw [E.out];rfl,HB7.out.drew⟩
   | some xx =>
     obtain ⟨m,zz⟩:=xx
     have CRS:=Lib.hid (fun (y:World) (hy:Below wr.heap.size wr y)=>(show Calls Tryz.prog 76 #[.agg #[.slice ta t.args.length tc],.agg #[str q0,.int .i64 vi,.slice a2 q2 c2,.slice a3 q3 c3],.agg #[.slice (some ⟨mb,mo,none⟩) n mc,.slice (some ⟨pb,po,none⟩) n pc]] y (fun en w'=>∃ r1 e1 r2 e2,en=.returned (.tuple #[.agg #[.slice r1 (n+1) e1,.slice r2 (n+1) e2],.bool true])/\Below y.heap.size y w'/\PlayAt w' (v.take n++[(m,zz)]) (.slice r1 (n+1) e1) (.slice r2 (n+1) e2)) from by
      refine (CRE y hy).mono ?_
      rintro en w' ⟨r1,m1,e1,r2,m2,e2,rfl,hb,_,hyes⟩
      obtain ⟨hp,_⟩:=hyes _ ho
      obtain ⟨_,_,q1⟩:=hp.1.slice
      obtain ⟨_,_,q2⟩:=hp.2.slice
      simp only [Value.slice.injEq] at q1 q2
      have l1:(v.take n++[(m,zz)]).length=n+1:=by rw [List.length_append,HLT.out];rfl
      obtain rfl:m1=n+1:=q1.2.1.trans l1
      obtain rfl:m2=n+1:=q2.2.1.trans l1
      rw [ho];exact ⟨r1,e1,r2,e2,rfl,hb,hp⟩))
     clear CRE ho
     go_upto_region 4 with (fail)
     clear d0 d1
     refine cut_code (X:=Option Addr×Nat×Option Addr×Nat×Nat) (fun zx x=>(((((((((((zx.put (some 18) (.agg #[.slice ta t.args.length tc])).put (some 19) (.agg #[str q0,.int .i64 vi,.slice a2 q2 c2,.slice a3 q3 c3])).put (some 20) (.agg #[.slice (some ⟨mb,mo,none⟩) v.length mc,.slice (some ⟨pb,po,none⟩) v.length pc])).put (some 21) (.int .i64 (n:Nat))).put (some 22) (.agg #[.slice (some ⟨mb,mo,none⟩) n mc,.slice (some ⟨pb,po,none⟩) n pc])).put (some 23) (.tuple #[.agg #[.slice x.1 (n+1) x.2.1,.slice x.2.2.1 (n+1) x.2.2.2.1],.bool true])).put (some 17) (.tuple #[.agg #[.slice x.1 (n+1) x.2.1,.slice x.2.2.1 (n+1) x.2.2.2.1],.bool true])).put (some 24) (.agg #[.slice x.1 (n+1) x.2.1,.slice x.2.2.1 (n+1) x.2.2.2.1])).put (some 25) (.bool true)).put (some 8) (.pointer (some ⟨x.2.2.2.2,0,none⟩))).put (some 9) (.bool true))) (fun x w7=>Below wr.heap.size wr w7/\w7.heap[x.2.2.2.2]? = some (.cells #[.slice x.1 (n+1) x.2.1,.slice x.2.2.1 (n+1) x.2.2.2.1] 33 (0,0))/\PlayAt w7 (v.take n++[(m,zz)]) (.slice x.1 (n+1) x.2.1) (.slice x.2.2.1 (n+1) x.2.2.2.1)) ?_ ?_
     ·refine wp_region_noPanic ?_
      refine wp_region_S (fun w'=>Below wr.heap.size wr w') (fun _=>false) (by kernel_rfl) ?_
      obtain ⟨y0,hy0⟩:=zzN (wr.drew)
      rw [hy0]
      have hBy0:Below wr.heap.size wr y0:=by rw [<- hy0];exact Below.drew (Below.refl _ _)
      obtain ⟨tg0,htg0⟩:∃ x:Nat->Nat,x=fun _=>0:=⟨_,rfl⟩
      clear hy0 htg0
      refine wpAnyS_take 0 (v:=?_) (by kernel_rfl) (by kernel_rfl) (by kernel_rfl) (by kernel_rfl) (fun _ _ _ _ h=>h) hBy0 ?_ ?_
      rotate_left
      ·(intro oi ho;simp at ho;subst ho;refine Or.inl ⟨by rfl,fun w' hw'=>?_⟩;have e0:=(KEY.out w' hw').2.2.2.1;go_simp;try with_reducible rfl)
      (intro d hd;simp at hd;subst hd;simp only [Act.put,List.setIfInBounds_toArray,List.set_cons_zero,List.set_cons_succ])
      refine wpAnyS_take 1 (v:=?_) (by kernel_rfl) (by kernel_rfl) (by kernel_rfl) (by kernel_rfl) (fun _ _ _ _ h=>h) hBy0 ?_ ?_
      rotate_left
      ·(intro oi ho;simp at ho;subst ho;refine Or.inl ⟨by rfl,fun w' hw'=>?_⟩;obtain ⟨_,_,_,_,e0,e1,e2,e3⟩:=KEY.out w' hw';go_simp;try with_reducible rfl)
      (intro d hd;simp at hd;subst hd;simp only [Act.put,List.setIfInBounds_toArray,List.set_cons_zero,List.set_cons_succ])
      refine wpAnyS_take 2 (v:=?_) (by kernel_rfl) (by kernel_rfl) (by kernel_rfl) (by kernel_rfl) (fun _ _ _ _ h=>h) hBy0 ?_ ?_
      rotate_left
      ·(intro oi ho;simp at ho;subst ho;refine Or.inl ⟨by rfl,fun w' hw'=>?_⟩;obtain ⟨e0,e1⟩:=(KEY.out w' hw').1;go_simp;try with_reducible rfl)
      (intro d hd;simp at hd;subst hd;simp only [Act.put,List.setIfInBounds_toArray,List.set_cons_zero,List.set_cons_succ])
      refine wpAnyS_take 3 (v:=?_) (by kernel_rfl) (by kernel_rfl) (by kernel_rfl) (by kernel_rfl) (fun _ _ _ _ h=>h) hBy0 ?_ ?_
      rotate_left
      ·(intro oi ho;simp at ho;subst ho;refine Or.inl ⟨by rfl,fun w' hw'=>?_⟩;go_simp;try with_reducible rfl)
      (intro d hd;simp at hd;subst hd;simp only [Act.put,List.setIfInBounds_toArray,List.set_cons_zero,List.set_cons_succ])
      refine wpAnyS_two 4 9 (by kernel_rfl) ?_ ?_
      ·(intro o4 ho K' hK;simp at ho;subst ho)
       go_simp
       go_at_call 116
       (with_reducible refine (CCU.out _).mono ?_)
       rintro en y1 ⟨rfl,hb⟩
       have hBy1:Below wr.heap.size wr y1:=zzT hBy0 hb
       have hby1:=Lib.hid hb;clear hb
       refine hK.out _ _ (fun _=>?_) ?_
       ·exact hBy1
       clear hK K'
       (try simp only [Act.put,List.setIfInBounds_toArray,List.set_cons_zero,List.set_cons_succ])
       refine wpAnyS_two 5 9 (by kernel_rfl) ?_ ?_
       ·(intro o5 ho K' hK;simp at ho;subst ho)
        go_simp
        go_at_call 76
        (with_reducible refine (CRS.out _ hBy1).mono ?_)
        rintro en y2 ⟨r1,e1,r2,e2,rfl,hb,hp⟩
        have CP:Hid (PlayAt y2 (v.take n++[(m,zz)]) (.slice r1 (n+1) e1) (.slice r2 (n+1) e2)):=hp
        clear hp
        have hBy2:Below wr.heap.size wr y2:=zzT hBy1 hb
        have hby2:=Lib.hid hb;clear hb
        refine hK.out _ _ (fun _=>?_) ?_
        ·exact hBy2
        clear hK K'
        (try simp only [Act.put,List.setIfInBounds_toArray,List.set_cons_zero,List.set_cons_succ])
        refine wpAnyS_take 6 (v:=?_) (by kernel_rfl) (by kernel_rfl) (by kernel_rfl) (by kernel_rfl) (fun _ _ _ _ h=>h) hBy2 ?_ ?_
        rotate_left
        ·(intro oi ho;simp at ho;subst ho;refine Or.inl ⟨by rfl,fun w' hw'=>?_⟩;go_simp;try with_reducible rfl)
        (intro d hd;simp at hd;subst hd;simp only [Act.put,List.setIfInBounds_toArray,List.set_cons_zero,List.set_cons_succ])
        refine wpAnyS_take 7 (v:=?_) (by kernel_rfl) (by kernel_rfl) (by kernel_rfl) (by kernel_rfl) (fun _ _ _ _ h=>h) hBy2 ?_ ?_
        rotate_left
        ·(intro oi ho;simp at ho;subst ho;refine Or.inl ⟨by rfl,fun w' hw'=>?_⟩;go_simp;try with_reducible rfl)
        (intro d hd;simp at hd;subst hd;simp only [Act.put,List.setIfInBounds_toArray,List.set_cons_zero,List.set_cons_succ])
        refine wpAnyS_take 8 (v:=?_) (by kernel_rfl) (by kernel_rfl) (by kernel_rfl) (by kernel_rfl) (fun _ _ _ _ h=>h) hBy2 ?_ ?_
        rotate_left
        ·(intro oi ho;simp at ho;subst ho;refine Or.inl ⟨by rfl,fun w' hw'=>?_⟩;go_simp;try with_reducible rfl)
        (intro d hd;simp at hd;subst hd;simp only [Act.put,List.setIfInBounds_toArray,List.set_cons_zero,List.set_cons_succ])
        refine wpAnyS_one 9 (by kernel_rfl) ?_
        (intro o9 ho K' hK;simp at ho;subst ho)
        go_simp
        refine hK.out _ _ (fun _=>?_) ?_
        ·exact hBy2.alloc hBy2.size _
        clear hK K'
        (try simp only [Act.put,List.setIfInBounds_toArray,List.set_cons_zero,List.set_cons_succ])
        obtain ⟨y3,hnew⟩:=zzN (y2.alloc (.cells #[.slice none 0 0,.slice none 0 0] 33))
        obtain ⟨gX,hgX⟩:=zzN (y2.heap.size)
        rw [hnew,hgX]
        have hBy3:Below wr.heap.size wr y3:=by rw [<- hnew];exact hBy2.alloc hBy2.size _
        obtain ⟨tg3,htg⟩:=zzN (retag tg0 gX 1)
        have CP:Hid (PlayAt y3 (v.take n++[(m,zz)]) (.slice r1 (n+1) e1) (.slice r2 (n+1) e2)):=by rw [<- hnew];exact CP.out.below ((Below.refl _ _).alloc (Nat.le_refl _) _)
        have EX:Hid (y3.heap[gX]? = some (.cells #[.slice none 0 0,.slice none 0 0] 33 (0,0))/\tg3 gX=1/\wr.heap.size<=gX):=by rw [<- hnew,<- htg,<- hgX];exact ⟨heap_new _ _,by unfold retag;rw [if_pos rfl],hBy2.size⟩
        clear hnew hgX htg
        refine wpAnyS_one 10 (by kernel_rfl) ?_
        (intro o10 ho K' hK;simp at ho;subst ho)
        obtain ⟨uX0,cX0⟩:∃ u,y3.cell? ⟨gX,0,none⟩=some u:=⟨_,by simp [World.cell?,EX.out.1];rfl⟩
        have fX0:y3.frozen? ⟨gX,0,none⟩=false:=by simp [World.frozen?,EX.out.1]
        obtain ⟨uX1,cX1⟩:∃ u,y3.cell? ⟨gX,1,none⟩=some u:=⟨_,by simp [World.cell?,EX.out.1];rfl⟩
        have fX1:y3.frozen? ⟨gX,1,none⟩=false:=by simp [World.frozen?,EX.out.1]
        go_simp
        refine hK.out _ _ (fun _=>?_) ?_
        ·exact ((hBy3.setCell (p:=⟨gX,0,none⟩) EX.out.2.2 _).setCell (p:=⟨gX,1,none⟩) EX.out.2.2 _)
        clear hK K'
        (try simp only [Act.put,List.setIfInBounds_toArray,List.set_cons_zero,List.set_cons_succ])
        obtain ⟨y4,hnew⟩:=zzN (((y3.setCell ⟨gX,0,none⟩ (.slice r1 (n+1) e1)).setCell ⟨gX,1,none⟩ (.slice r2 (n+1) e2)))
        rw [hnew]
        have hBy4:Below wr.heap.size wr y4:=by rw [<- hnew];exact ((hBy3.setCell (p:=⟨gX,0,none⟩) EX.out.2.2 _).setCell (p:=⟨gX,1,none⟩) EX.out.2.2 _)
        have hbt:But (fun i=>i=gX) y3 y4:=by rw [<- hnew];exact (((But.refl (fun i=>i=gX) y3).setCell (p:=⟨gX,0,none⟩) (.inl rfl) _).setCell (p:=⟨gX,1,none⟩) (.inl rfl) _)
        have htg:∀ g,g=gX->tg3 g=1:=fun g e=>by rw [e];exact EX.out.2.1
        have CP:Hid (PlayAt y4 (v.take n++[(m,zz)]) (.slice r1 (n+1) e1) (.slice r2 (n+1) e2)):=CP.out.but hbt (CP.out.notBox EX.out.1 (by decide) (by decide))
        have EX:Hid (y4.heap[gX]? = some (.cells #[.slice r1 (n+1) e1,.slice r2 (n+1) e2] 33 (0,0))/\tg3 gX=1/\wr.heap.size<=gX):=⟨by rw [<- hnew];exact (setCell_at' (setCell_at' EX.out.1)),EX.out.2⟩
        clear hnew hbt htg cX0 fX0 cX1 fX1
        refine wpAnyS_one 11 (by kernel_rfl) ?_
        (intro o11 ho K' hK;simp at ho;subst ho)
        go_simp
        refine hK.out _ _ (fun _=>?_) ?_
        ·exact hBy4
        clear hK K'
        (try simp only [Act.put,List.setIfInBounds_toArray,List.set_cons_zero,List.set_cons_succ])
        refine wpAnyS_done (by kernel_rfl) (NoPanic.normal ?_) _
        exact ⟨rfl,⟨r1,e1,r2,e2,gX⟩,by rfl,hBy4,EX.out.1,CP.out⟩
       ·(intro o9 ho K' hK;simp at ho;subst ho)
        go_simp
        refine hK.out _ _ (fun _=>?_) ?_
        ·exact hBy1.alloc hBy1.size _
        clear hK K'
        (try simp only [Act.put,List.setIfInBounds_toArray,List.set_cons_zero,List.set_cons_succ])
        obtain ⟨y6,hnew⟩:=zzN (y1.alloc (.cells #[.slice none 0 0,.slice none 0 0] 33))
        obtain ⟨gX,hgX⟩:=zzN (y1.heap.size)
        rw [hnew,hgX]
        have hBy6:Below wr.heap.size wr y6:=by rw [<- hnew];exact hBy1.alloc hBy1.size _
        obtain ⟨tg6,htg⟩:=zzN (retag tg0 gX 1)
        have EX:Hid (y6.heap[gX]? = some (.cells #[.slice none 0 0,.slice none 0 0] 33 (0,0))/\tg6 gX=1/\wr.heap.size<=gX):=by rw [<- hnew,<- htg,<- hgX];exact ⟨heap_new _ _,by unfold retag;rw [if_pos rfl],hBy1.size⟩
        clear hnew hgX htg
        refine wpAnyS_one 5 (by kernel_rfl) ?_
        (intro o5 ho K' hK;simp at ho;subst ho)
        go_simp
        go_at_call 76
        (with_reducible refine (CRS.out _ hBy6).mono ?_)
        rintro en y7 ⟨r1,e1,r2,e2,rfl,hb,hp⟩
        have CP:Hid (PlayAt y7 (v.take n++[(m,zz)]) (.slice r1 (n+1) e1) (.slice r2 (n+1) e2)):=hp
        clear hp
        have hBy7:Below wr.heap.size wr y7:=zzT hBy6 hb
        have EX:Hid (y7.heap[gX]? = some (.cells #[.slice none 0 0,.slice none 0 0] 33 (0,0))/\tg6 gX=1/\wr.heap.size<=gX):=⟨(hb.block _ (lt_of_heap EX.out.1)).trans EX.out.1,EX.out.2⟩
        have hby7:=Lib.hid hb;clear hb
        refine hK.out _ _ (fun _=>?_) ?_
        ·exact hBy7
        clear hK K'
        (try simp only [Act.put,List.setIfInBounds_toArray,List.set_cons_zero,List.set_cons_succ])
        refine wpAnyS_take 6 (v:=?_) (by kernel_rfl) (by kernel_rfl) (by kernel_rfl) (by kernel_rfl) (fun _ _ _ _ h=>h) hBy7 ?_ ?_
        rotate_left
        ·(intro oi ho;simp at ho;subst ho;refine Or.inl ⟨by rfl,fun w' hw'=>?_⟩;go_simp;try with_reducible rfl)
        (intro d hd;simp at hd;subst hd;simp only [Act.put,List.setIfInBounds_toArray,List.set_cons_zero,List.set_cons_succ])
        refine wpAnyS_take 7 (v:=?_) (by kernel_rfl) (by kernel_rfl) (by kernel_rfl) (by kernel_rfl) (fun _ _ _ _ h=>h) hBy7 ?_ ?_
        rotate_left
        ·(intro oi ho;simp at ho;subst ho;refine Or.inl ⟨by rfl,fun w' hw'=>?_⟩;go_simp;try with_reducible rfl)
        (intro d hd;simp at hd;subst hd;simp only [Act.put,List.setIfInBounds_toArray,List.set_cons_zero,List.set_cons_succ])
        refine wpAnyS_take 8 (v:=?_) (by kernel_rfl) (by kernel_rfl) (by kernel_rfl) (by kernel_rfl) (fun _ _ _ _ h=>h) hBy7 ?_ ?_
        rotate_left
        ·(intro oi ho;simp at ho;subst ho;refine Or.inl ⟨by rfl,fun w' hw'=>?_⟩;go_simp;try with_reducible rfl)
        (intro d hd;simp at hd;subst hd;simp only [Act.put,List.setIfInBounds_toArray,List.set_cons_zero,List.set_cons_succ])
        refine wpAnyS_one 10 (by kernel_rfl) ?_
        (intro o10 ho K' hK;simp at ho;subst ho)
        obtain ⟨uX0,cX0⟩:∃ u,y7.cell? ⟨gX,0,none⟩=some u:=⟨_,by simp [World.cell?,EX.out.1];rfl⟩
        have fX0:y7.frozen? ⟨gX,0,none⟩=false:=by simp [World.frozen?,EX.out.1]
        obtain ⟨uX1,cX1⟩:∃ u,y7.cell? ⟨gX,1,none⟩=some u:=⟨_,by simp [World.cell?,EX.out.1];rfl⟩
        have fX1:y7.frozen? ⟨gX,1,none⟩=false:=by simp [World.frozen?,EX.out.1]
        go_simp
        refine hK.out _ _ (fun _=>?_) ?_
        ·exact ((hBy7.setCell (p:=⟨gX,0,none⟩) EX.out.2.2 _).setCell (p:=⟨gX,1,none⟩) EX.out.2.2 _)
        clear hK K'
        (try simp only [Act.put,List.setIfInBounds_toArray,List.set_cons_zero,List.set_cons_succ])
        obtain ⟨y8,hnew⟩:=zzN (((y7.setCell ⟨gX,0,none⟩ (.slice r1 (n+1) e1)).setCell ⟨gX,1,none⟩ (.slice r2 (n+1) e2)))
        rw [hnew]
        have hBy8:Below wr.heap.size wr y8:=by rw [<- hnew];exact ((hBy7.setCell (p:=⟨gX,0,none⟩) EX.out.2.2 _).setCell (p:=⟨gX,1,none⟩) EX.out.2.2 _)
        have hbt:But (fun i=>i=gX) y7 y8:=by rw [<- hnew];exact (((But.refl (fun i=>i=gX) y7).setCell (p:=⟨gX,0,none⟩) (.inl rfl) _).setCell (p:=⟨gX,1,none⟩) (.inl rfl) _)
        have htg:∀ g,g=gX->tg6 g=1:=fun g e=>by rw [e];exact EX.out.2.1
        have CP:Hid (PlayAt y8 (v.take n++[(m,zz)]) (.slice r1 (n+1) e1) (.slice r2 (n+1) e2)):=CP.out.but hbt (CP.out.notBox EX.out.1 (by decide) (by decide))
        have EX:Hid (y8.heap[gX]? = some (.cells #[.slice r1 (n+1) e1,.slice r2 (n+1) e2] 33 (0,0))/\tg6 gX=1/\wr.heap.size<=gX):=⟨by rw [<- hnew];exact (setCell_at' (setCell_at' EX.out.1)),EX.out.2⟩
        clear hnew hbt htg cX0 fX0 cX1 fX1
        refine wpAnyS_one 11 (by kernel_rfl) ?_
        (intro o11 ho K' hK;simp at ho;subst ho)
        go_simp
        refine hK.out _ _ (fun _=>?_) ?_
        ·exact hBy8
        clear hK K'
        (try simp only [Act.put,List.setIfInBounds_toArray,List.set_cons_zero,List.set_cons_succ])
        refine wpAnyS_done (by kernel_rfl) (NoPanic.normal ?_) _
        exact ⟨rfl,⟨r1,e1,r2,e2,gX⟩,by rfl,hBy8,EX.out.1,CP.out⟩
      ·(intro o9 ho K' hK;simp at ho;subst ho)
       go_simp
       refine hK.out _ _ (fun _=>?_) ?_
       ·exact hBy0.alloc hBy0.size _
       clear hK K'
       (try simp only [Act.put,List.setIfInBounds_toArray,List.set_cons_zero,List.set_cons_succ])
       obtain ⟨y10,hnew⟩:=zzN (y0.alloc (.cells #[.slice none 0 0,.slice none 0 0] 33))
       obtain ⟨gX,hgX⟩:=zzN (y0.heap.size)
       rw [hnew,hgX]
       have hBy10:Below wr.heap.size wr y10:=by rw [<- hnew];exact hBy0.alloc hBy0.size _
       obtain ⟨tg10,htg⟩:=zzN (retag tg0 gX 1)
       have EX:Hid (y10.heap[gX]? = some (.cells #[.slice none 0 0,.slice none 0 0] 33 (0,0))/\tg10 gX=1/\wr.heap.size<=gX):=by rw [<- hnew,<- htg,<- hgX];exact ⟨heap_new _ _,by unfold retag;rw [if_pos rfl],hBy0.size⟩
       clear hnew hgX htg
       refine wpAnyS_one 4 (by kernel_rfl) ?_
       (intro o4 ho K' hK;simp at ho;subst ho)
       go_simp
       go_at_call 116
       (with_reducible refine (CCU.out _).mono ?_)
       rintro en y11 ⟨rfl,hb⟩
       have hBy11:Below wr.heap.size wr y11:=zzT hBy10 hb
       have EX:Hid (y11.heap[gX]? = some (.cells #[.slice none 0 0,.slice none 0 0] 33 (0,0))/\tg10 gX=1/\wr.heap.size<=gX):=⟨(hb.block _ (lt_of_heap EX.out.1)).trans EX.out.1,EX.out.2⟩
       have hby11:=Lib.hid hb;clear hb
       refine hK.out _ _ (fun _=>?_) ?_
       ·exact hBy11
       clear hK K'
       (try simp only [Act.put,List.setIfInBounds_toArray,List.set_cons_zero,List.set_cons_succ])
       refine wpAnyS_one 5 (by kernel_rfl) ?_
       (intro o5 ho K' hK;simp at ho;subst ho)
       go_simp
       go_at_call 76
       (with_reducible refine (CRS.out _ hBy11).mono ?_)
       rintro en y12 ⟨r1,e1,r2,e2,rfl,hb,hp⟩
       have CP:Hid (PlayAt y12 (v.take n++[(m,zz)]) (.slice r1 (n+1) e1) (.slice r2 (n+1) e2)):=hp
       clear hp
       have hBy12:Below wr.heap.size wr y12:=zzT hBy11 hb
       have EX:Hid (y12.heap[gX]? = some (.cells #[.slice none 0 0,.slice none 0 0] 33 (0,0))/\tg10 gX=1/\wr.heap.size<=gX):=⟨(hb.block _ (lt_of_heap EX.out.1)).trans EX.out.1,EX.out.2⟩
       have hby12:=Lib.hid hb;clear hb
       refine hK.out _ _ (fun _=>?_) ?_
       ·exact hBy12
       clear hK K'
       (try simp only [Act.put,List.setIfInBounds_toArray,List.set_cons_zero,List.set_cons_succ])
       refine wpAnyS_take 6 (v:=?_) (by kernel_rfl) (by kernel_rfl) (by kernel_rfl) (by kernel_rfl) (fun _ _ _ _ h=>h) hBy12 ?_ ?_
       rotate_left
       ·(intro oi ho;simp at ho;subst ho;refine Or.inl ⟨by rfl,fun w' hw'=>?_⟩;go_simp;try with_reducible rfl)
       (intro d hd;simp at hd;subst hd;simp only [Act.put,List.setIfInBounds_toArray,List.set_cons_zero,List.set_cons_succ])
       refine wpAnyS_take 7 (v:=?_) (by kernel_rfl) (by kernel_rfl) (by kernel_rfl) (by kernel_rfl) (fun _ _ _ _ h=>h) hBy12 ?_ ?_
       rotate_left
       ·(intro oi ho;simp at ho;subst ho;refine Or.inl ⟨by rfl,fun w' hw'=>?_⟩;go_simp;try with_reducible rfl)
       (intro d hd;simp at hd;subst hd;simp only [Act.put,List.setIfInBounds_toArray,List.set_cons_zero,List.set_cons_succ])
       refine wpAnyS_take 8 (v:=?_) (by kernel_rfl) (by kernel_rfl) (by kernel_rfl) (by kernel_rfl) (fun _ _ _ _ h=>h) hBy12 ?_ ?_
       rotate_left
       ·(intro oi ho;simp at ho;subst ho;refine Or.inl ⟨by rfl,fun w' hw'=>?_⟩;go_simp;try with_reducible rfl)
       (intro d hd;simp at hd;subst hd;simp only [Act.put,List.setIfInBounds_toArray,List.set_cons_zero,List.set_cons_succ])
       refine wpAnyS_one 10 (by kernel_rfl) ?_
       (intro o10 ho K' hK;simp at ho;subst ho)
       obtain ⟨uX0,cX0⟩:∃ u,y12.cell? ⟨gX,0,none⟩=some u:=⟨_,by simp [World.cell?,EX.out.1];rfl⟩
       have fX0:y12.frozen? ⟨gX,0,none⟩=false:=by simp [World.frozen?,EX.out.1]
       obtain ⟨uX1,cX1⟩:∃ u,y12.cell? ⟨gX,1,none⟩=some u:=⟨_,by simp [World.cell?,EX.out.1];rfl⟩
       have fX1:y12.frozen? ⟨gX,1,none⟩=false:=by simp [World.frozen?,EX.out.1]
       go_simp
       refine hK.out _ _ (fun _=>?_) ?_
       ·exact ((hBy12.setCell (p:=⟨gX,0,none⟩) EX.out.2.2 _).setCell (p:=⟨gX,1,none⟩) EX.out.2.2 _)
       clear hK K'
       (try simp only [Act.put,List.setIfInBounds_toArray,List.set_cons_zero,List.set_cons_succ])
       obtain ⟨y13,hnew⟩:=zzN (((y12.setCell ⟨gX,0,none⟩ (.slice r1 (n+1) e1)).setCell ⟨gX,1,none⟩ (.slice r2 (n+1) e2)))
       rw [hnew]
       have hBy13:Below wr.heap.size wr y13:=by rw [<- hnew];exact ((hBy12.setCell (p:=⟨gX,0,none⟩) EX.out.2.2 _).setCell (p:=⟨gX,1,none⟩) EX.out.2.2 _)
       have hbt:But (fun i=>i=gX) y12 y13:=by rw [<- hnew];exact (((But.refl (fun i=>i=gX) y12).setCell (p:=⟨gX,0,none⟩) (.inl rfl) _).setCell (p:=⟨gX,1,none⟩) (.inl rfl) _)
       have htg:∀ g,g=gX->tg10 g=1:=fun g e=>by rw [e];exact EX.out.2.1
       have CP:Hid (PlayAt y13 (v.take n++[(m,zz)]) (.slice r1 (n+1) e1) (.slice r2 (n+1) e2)):=CP.out.but hbt (CP.out.notBox EX.out.1 (by decide) (by decide))
       have EX:Hid (y13.heap[gX]? = some (.cells #[.slice r1 (n+1) e1,.slice r2 (n+1) e2] 33 (0,0))/\tg10 gX=1/\wr.heap.size<=gX):=⟨by rw [<- hnew];exact (setCell_at' (setCell_at' EX.out.1)),EX.out.2⟩
       clear hnew hbt htg cX0 fX0 cX1 fX1
       refine wpAnyS_one 11 (by kernel_rfl) ?_
       (intro o11 ho K' hK;simp at ho;subst ho)
       go_simp
       refine hK.out _ _ (fun _=>?_) ?_
       ·exact hBy13
       clear hK K'
       (try simp only [Act.put,List.setIfInBounds_toArray,List.set_cons_zero,List.set_cons_succ])
       refine wpAnyS_done (by kernel_rfl) (NoPanic.normal ?_) _
       exact ⟨rfl,⟨r1,e1,r2,e2,gX⟩,by rfl,hBy13,EX.out.1,CP.out⟩
     rintro ⟨r1,e1,r2,e2,gX⟩ W7 ⟨hB7,hX7,hP7⟩
     dsimp only at hX7 hP7
     simp only [pQ,pN,pZ,pS]
     obtain ⟨hm7,hp7⟩:=hP7.mv (F:=fun _=>True) (fun _ _=>trivial)
     have hgL:(v.take n++[(m,zz)])[n]? = some (m,zz):=by rw [List.getElem?_append_right (by rw [HLT.out];exact Nat.le_refl _),HLT.out];simp
     obtain ⟨_,_,u1,hc1⟩:=hm7.cells
     obtain ⟨_,_,u2,hc2⟩:=hp7.cells
     simp only [Value.slice.injEq] at u1 u2
     obtain ⟨rfl,q8,rfl⟩:=u1
     obtain ⟨rfl,q9,rfl⟩:=u2
     clear q8 q9
     obtain ⟨rb,ro,rfl,_,_,hrm⟩:=hc1 n _ hgL
     obtain ⟨rb2,ro2,rfl,_,_,hrp⟩:=hc2 n _ hgL
     have hwr7:=zzT HB.out.2 hB7
     have KEY7:=Lib.hid (fun (y:World) (hy:Below W7.heap.size W7 y)=>(show (y.cell? ⟨gX,0,none⟩=some (.slice (some ⟨rb,ro,none⟩) (n+1) e1)/\y.cell? ⟨gX,1,none⟩=some (.slice (some ⟨rb2,ro2,none⟩) (n+1) e2))/\y.cell? ⟨rb,ro+n,none⟩=some (str m)/\y.cell? ⟨rb2,ro2+n,none⟩=some (.int .i64 zz)/\_ from by
      have hk:∀ (a:Addr) (u:Value),W7.cell? a=some u->y.cell? a=some u:=fun a u h=>(hy.cell (World.block_lt_of_cell? _ _ h)).trans h
      obtain ⟨i0,i1,_,_⟩:=cells_2 hX7
      exact ⟨⟨hk _ _ i0,hk _ _ i1⟩,hk _ _ hrm,hk _ _ hrp,KEY.out y (zzT hB7 hy)⟩))
     have HB7:=Lib.hid (And.intro (zzT HB.out.1 hB7) hwr7)
     have hn1I:(n:Int)<(n:Int)+1:=by omega
     clear hB7 hX7 hP7 hm7 hp7 hgL hc1 hc2 hrm hrp hwr7 KEY
     by_cases hm:m=M
     ·have hmm:(m == M)=true:=by simp [hm]
      have hmm2:(m != M)=false:=by simp [hm]
      obtain ⟨cn,hcn⟩:∃ cn,(zz != z)=cn:=⟨_,rfl⟩
      have HC:=Lib.hid (And.intro hm hcn)
      clear hm
      go_upto_region 5 with (fail)
      refine wp_region_noPanic ?_
      refine wp_region_S (fun w'=>Below W7.heap.size W7 w') (fun _=>false) (by kernel_rfl) ?_
      have hSd:(fun w'=>Below W7.heap.size W7 w') W7.drew:=Below.drew (Below.refl _ _)
      refine wpAnyS_take 0 (v:=?_) (by kernel_rfl) (by kernel_rfl) (by kernel_rfl) (by kernel_rfl) (fun _ _ _ _ h=>h) hSd ?_ ?_
      rotate_left
      ·(intro oi ho;simp at ho;subst ho;refine Or.inl ⟨by rfl,fun w' hw'=>?_⟩;go_simp;try with_reducible rfl)
      (intro d hd;simp at hd;subst hd;simp only [Act.put,List.setIfInBounds_toArray,List.set_cons_zero,List.set_cons_succ])
      refine wpAnyS_take 1 (v:=?_) (by kernel_rfl) (by kernel_rfl) (by kernel_rfl) (by kernel_rfl) (fun _ _ _ _ h=>h) hSd ?_ ?_
      rotate_left
      ·(intro oi ho;simp at ho;subst ho;refine Or.inl ⟨by rfl,fun w' hw'=>?_⟩;go_simp;try with_reducible rfl)
      (intro d hd;simp at hd;subst hd;simp only [Act.put,List.setIfInBounds_toArray,List.set_cons_zero,List.set_cons_succ])
      refine wpAnyS_take 2 (v:=?_) (by kernel_rfl) (by kernel_rfl) (by kernel_rfl) (by kernel_rfl) (fun _ _ _ _ h=>h) hSd ?_ ?_
      rotate_left
      ·(intro oi ho;simp at ho;subst ho;refine Or.inl ⟨by rfl,fun w' hw'=>?_⟩;go_simp;try with_reducible rfl)
      (intro d hd;simp at hd;subst hd;simp only [Act.put,List.setIfInBounds_toArray,List.set_cons_zero,List.set_cons_succ])
      refine wpAnyS_take 3 (v:=?_) (by kernel_rfl) (by kernel_rfl) (by kernel_rfl) (by kernel_rfl) (fun _ _ _ _ h=>h) hSd ?_ ?_
      rotate_left
      ·(intro oi ho;simp at ho;subst ho;refine Or.inl ⟨by rfl,fun w' hw'=>?_⟩;go_simp;try with_reducible rfl)
      (intro d hd;simp at hd;subst hd;simp only [Act.put,List.setIfInBounds_toArray,List.set_cons_zero,List.set_cons_succ])
      refine wpAnyS_take 4 (v:=?_) (by kernel_rfl) (by kernel_rfl) (by kernel_rfl) (by kernel_rfl) (fun _ _ _ _ h=>h) hSd ?_ ?_
      rotate_left
      ·(intro oi ho;simp at ho;subst ho;refine Or.inl ⟨by rfl,fun w' hw'=>?_⟩;have e0:=(KEY7.out w' hw').1.1;go_simp;try with_reducible rfl)
      (intro d hd;simp at hd;subst hd;simp only [Act.put,List.setIfInBounds_toArray,List.set_cons_zero,List.set_cons_succ])
      refine wpAnyS_take 5 (v:=?_) (by kernel_rfl) (by kernel_rfl) (by kernel_rfl) (by kernel_rfl) (fun _ _ _ _ h=>h) hSd ?_ ?_
      rotate_left
      ·(intro oi ho;simp at ho;subst ho;refine Or.inl ⟨by rfl,fun w' hw'=>?_⟩;go_simp;try with_reducible rfl)
      (intro d hd;simp at hd;subst hd;simp only [Act.put,List.setIfInBounds_toArray,List.set_cons_zero,List.set_cons_succ])
      refine wpAnyS_take 6 (v:=?_) (by kernel_rfl) (by kernel_rfl) (by kernel_rfl) (by kernel_rfl) (fun _ _ _ _ h=>h) hSd ?_ ?_
      rotate_left
      ·(intro oi ho;simp at ho;subst ho;refine Or.inl ⟨by rfl,fun w' hw'=>?_⟩;go_simp;try with_reducible rfl)
      (intro d hd;simp at hd;subst hd;simp only [Act.put,List.setIfInBounds_toArray,List.set_cons_zero,List.set_cons_succ])
      refine wpAnyS_take 7 (v:=?_) (by kernel_rfl) (by kernel_rfl) (by kernel_rfl) (by kernel_rfl) (fun _ _ _ _ h=>h) hSd ?_ ?_
      rotate_left
      ·(intro oi ho;simp at ho;subst ho;refine Or.inl ⟨by rfl,fun w' hw'=>?_⟩;have e0:=(KEY7.out w' hw').2.1;go_simp;try with_reducible rfl)
      (intro d hd;simp at hd;subst hd;simp only [Act.put,List.setIfInBounds_toArray,List.set_cons_zero,List.set_cons_succ])
      refine wpAnyS_take 8 (v:=?_) (by kernel_rfl) (by kernel_rfl) (by kernel_rfl) (by kernel_rfl) (fun _ _ _ _ h=>h) hSd ?_ ?_
      rotate_left
      ·(intro oi ho;simp at ho;subst ho;refine Or.inl ⟨by rfl,fun w' hw'=>?_⟩;go_simp;try with_reducible rfl)
      (intro d hd;simp at hd;subst hd;simp only [Act.put,List.setIfInBounds_toArray,List.set_cons_zero,List.set_cons_succ])
      refine wpAnyS_take 9 (v:=?_) (by kernel_rfl) (by kernel_rfl) (by kernel_rfl) (by kernel_rfl) (fun _ _ _ _ h=>h) hSd ?_ ?_
      rotate_left
      ·(intro oi ho;simp at ho;subst ho;refine Or.inl ⟨by rfl,fun w' hw'=>?_⟩;have e0:=(KEY7.out w' hw').2.2.2.1.1;go_simp;try with_reducible rfl)
      (intro d hd;simp at hd;subst hd;simp only [Act.put,List.setIfInBounds_toArray,List.set_cons_zero,List.set_cons_succ])
      refine wpAnyS_take 10 (v:=?_) (by kernel_rfl) (by kernel_rfl) (by kernel_rfl) (by kernel_rfl) (fun _ _ _ _ h=>h) hSd ?_ ?_
      rotate_left
      ·(intro oi ho;simp at ho;subst ho;refine Or.inl ⟨by rfl,fun w' hw'=>?_⟩;go_simp;try with_reducible rfl)
      (intro d hd;simp at hd;subst hd;simp only [Act.put,List.setIfInBounds_toArray,List.set_cons_zero,List.set_cons_succ])
      refine wpAnyS_take 11 (v:=?_) (by kernel_rfl) (by kernel_rfl) (by kernel_rfl) (by kernel_rfl) (fun _ _ _ _ h=>h) hSd ?_ ?_
      rotate_left
      ·(intro oi ho;simp at ho;subst ho;refine Or.inl ⟨by rfl,fun w' hw'=>?_⟩;go_simp;try with_reducible rfl)
      (intro d hd;simp at hd;subst hd;simp only [Act.put,List.setIfInBounds_toArray,List.set_cons_zero,List.set_cons_succ])
      refine wpAnyS_take 12 (v:=?_) (by kernel_rfl) (by kernel_rfl) (by kernel_rfl) (by kernel_rfl) (fun _ _ _ _ h=>h) hSd ?_ ?_
      rotate_left
      ·(intro oi ho;simp at ho;subst ho;refine Or.inl ⟨by rfl,fun w' hw'=>?_⟩;have e0:=(KEY7.out w' hw').2.2.2.2.1;go_simp;try with_reducible rfl)
      (intro d hd;simp at hd;subst hd;simp only [Act.put,List.setIfInBounds_toArray,List.set_cons_zero,List.set_cons_succ])
      refine wpAnyS_take 13 (v:=?_) (by kernel_rfl) (by kernel_rfl) (by kernel_rfl) (by kernel_rfl) (fun _ _ _ _ h=>h) hSd ?_ ?_
      rotate_left
      ·(intro oi ho;simp at ho;subst ho;refine Or.inl ⟨by rfl,fun w' hw'=>?_⟩;go_simp;try with_reducible rfl)
      (intro d hd;simp at hd;subst hd;simp only [Act.put,List.setIfInBounds_toArray,List.set_cons_zero,List.set_cons_succ])
      refine wpAnyS_take 14 (v:=?_) (by kernel_rfl) (by kernel_rfl) (by kernel_rfl) (by kernel_rfl) (fun _ _ _ _ h=>h) hSd ?_ ?_
      rotate_left
      ·(intro oi ho;simp at ho;subst ho;refine Or.inl ⟨by rfl,fun w' hw'=>?_⟩;go_simp;try with_reducible rfl)
      (intro d hd;simp at hd;subst hd;simp only [Act.put,List.setIfInBounds_toArray,List.set_cons_zero,List.set_cons_succ])
      refine wpAnyS_take 15 (v:=?_) (by kernel_rfl) (by kernel_rfl) (by kernel_rfl) (by kernel_rfl) (fun _ _ _ _ h=>h) hSd ?_ ?_
      rotate_left
      ·(intro oi ho;simp at ho;subst ho;refine Or.inl ⟨by rfl,fun w' hw'=>?_⟩;go_simp;try with_reducible rfl)
      (intro d hd;simp at hd;subst hd;simp only [Act.put,List.setIfInBounds_toArray,List.set_cons_zero,List.set_cons_succ])
      refine wpAnyS_take 16 (v:=?_) (by kernel_rfl) (by kernel_rfl) (by kernel_rfl) (by kernel_rfl) (fun _ _ _ _ h=>h) hSd ?_ ?_
      rotate_left
      ·(intro oi ho;simp at ho;subst ho;refine Or.inl ⟨by rfl,fun w' hw'=>?_⟩;go_simp;try with_reducible rfl)
      (intro d hd;simp at hd;subst hd;simp only [Act.put,List.setIfInBounds_toArray,List.set_cons_zero,List.set_cons_succ])
      refine wpAnyS_take 17 (v:=?_) (by kernel_rfl) (by kernel_rfl) (by kernel_rfl) (by kernel_rfl) (fun _ _ _ _ h=>h) hSd ?_ ?_
      rotate_left
      ·(intro oi ho;simp at ho;subst ho;refine Or.inl ⟨by rfl,fun w' hw'=>?_⟩;have e0:=(KEY7.out w' hw').1.2;go_simp;try with_reducible rfl)
      (intro d hd;simp at hd;subst hd;simp only [Act.put,List.setIfInBounds_toArray,List.set_cons_zero,List.set_cons_succ])
      refine wpAnyS_take 18 (v:=?_) (by kernel_rfl) (by kernel_rfl) (by kernel_rfl) (by kernel_rfl) (fun _ _ _ _ h=>h) hSd ?_ ?_
      rotate_left
      ·(intro oi ho;simp at ho;subst ho;refine Or.inl ⟨by rfl,fun w' hw'=>?_⟩;go_simp;try with_reducible rfl)
      (intro d hd;simp at hd;subst hd;simp only [Act.put,List.setIfInBounds_toArray,List.set_cons_zero,List.set_cons_succ])
      refine wpAnyS_take 19 (v:=?_) (by kernel_rfl) (by kernel_rfl) (by kernel_rfl) (by kernel_rfl) (fun _ _ _ _ h=>h) hSd ?_ ?_
      rotate_left
      ·(intro oi ho;simp at ho;subst ho;refine Or.inl ⟨by rfl,fun w' hw'=>?_⟩;go_simp;try with_reducible rfl)
      (intro d hd;simp at hd;subst hd;simp only [Act.put,List.setIfInBounds_toArray,List.set_cons_zero,List.set_cons_succ])
      refine wpAnyS_take 20 (v:=?_) (by kernel_rfl) (by kernel_rfl) (by kernel_rfl) (by kernel_rfl) (fun _ _ _ _ h=>h) hSd ?_ ?_
      rotate_left
      ·(intro oi ho;simp at ho;subst ho;refine Or.inl ⟨by rfl,fun w' hw'=>?_⟩;have e0:=(KEY7.out w' hw').2.2.1;go_simp;try with_reducible rfl)
      (intro d hd;simp at hd;subst hd;simp only [Act.put,List.setIfInBounds_toArray,List.set_cons_zero,List.set_cons_succ])
      refine wpAnyS_take 21 (v:=?_) (by kernel_rfl) (by kernel_rfl) (by kernel_rfl) (by kernel_rfl) (fun _ _ _ _ h=>h) hSd ?_ ?_
      rotate_left
      ·(intro oi ho;simp at ho;subst ho;refine Or.inl ⟨by rfl,fun w' hw'=>?_⟩;go_simp;try with_reducible rfl)
      (intro d hd;simp at hd;subst hd;simp only [Act.put,List.setIfInBounds_toArray,List.set_cons_zero,List.set_cons_succ])
      refine wpAnyS_take 22 (v:=?_) (by kernel_rfl) (by kernel_rfl) (by kernel_rfl) (by kernel_rfl) (fun _ _ _ _ h=>h) hSd ?_ ?_
      rotate_left
      ·(intro oi ho;simp at ho;subst ho;refine Or.inl ⟨by rfl,fun w' hw'=>?_⟩;have e0:=(KEY7.out w' hw').2.2.2.1.2;go_simp;try with_reducible rfl)
      (intro d hd;simp at hd;subst hd;simp only [Act.put,List.setIfInBounds_toArray,List.set_cons_zero,List.set_cons_succ])
      refine wpAnyS_take 23 (v:=?_) (by kernel_rfl) (by kernel_rfl) (by kernel_rfl) (by kernel_rfl) (fun _ _ _ _ h=>h) hSd ?_ ?_
      rotate_left
      ·(intro oi ho;simp at ho;subst ho;refine Or.inl ⟨by rfl,fun w' hw'=>?_⟩;go_simp;try with_reducible rfl)
      (intro d hd;simp at hd;subst hd;simp only [Act.put,List.setIfInBounds_toArray,List.set_cons_zero,List.set_cons_succ])
      refine wpAnyS_take 24 (v:=?_) (by kernel_rfl) (by kernel_rfl) (by kernel_rfl) (by kernel_rfl) (fun _ _ _ _ h=>h) hSd ?_ ?_
      rotate_left
      ·(intro oi ho;simp at ho;subst ho;refine Or.inl ⟨by rfl,fun w' hw'=>?_⟩;go_simp;try with_reducible rfl)
      (intro d hd;simp at hd;subst hd;simp only [Act.put,List.setIfInBounds_toArray,List.set_cons_zero,List.set_cons_succ])
      refine wpAnyS_take 25 (v:=?_) (by kernel_rfl) (by kernel_rfl) (by kernel_rfl) (by kernel_rfl) (fun _ _ _ _ h=>h) hSd ?_ ?_
      rotate_left
      ·(intro oi ho;simp at ho;subst ho;refine Or.inl ⟨by rfl,fun w' hw'=>?_⟩;have e0:=(KEY7.out w' hw').2.2.2.2.2.1;go_simp;try with_reducible rfl)
      (intro d hd;simp at hd;subst hd;simp only [Act.put,List.setIfInBounds_toArray,List.set_cons_zero,List.set_cons_succ])
      refine wpAnyS_take 26 (v:=?_) (by kernel_rfl) (by kernel_rfl) (by kernel_rfl) (by kernel_rfl) (fun _ _ _ _ h=>h) hSd ?_ ?_
      rotate_left
      ·(intro oi ho;simp at ho;subst ho;refine Or.inl ⟨by rfl,fun w' hw'=>?_⟩;go_simp;try with_reducible rfl)
      (intro d hd;simp at hd;subst hd;simp only [Act.put,List.setIfInBounds_toArray,List.set_cons_zero,List.set_cons_succ])
      refine wpAnyS_take 27 (v:=?_) (by kernel_rfl) (by kernel_rfl) (by kernel_rfl) (by kernel_rfl) (fun _ _ _ _ h=>h) hSd ?_ ?_
      rotate_left
      ·(intro oi ho;simp at ho;subst ho;refine Or.inl ⟨by rfl,fun w' hw'=>?_⟩;go_simp;try with_reducible rfl)
      (intro d hd;simp at hd;subst hd;simp only [Act.put,List.setIfInBounds_toArray,List.set_cons_zero,List.set_cons_succ])
      refine wpAnyS_done (by kernel_rfl) (NoPanic.normal ?_) _
      clear hSd KEY7
      cases cn with
      | false =>
        have hz:zz=z:=by have h:=HC.out.2;simpa using h
        have E:=Lib.hid (show followsTo t b v (n+2) from fun i hi h=>by
         have h1:=HF.out.2.1;have h2:=HF.out.2.2.1
         rcases Nat.lt_or_ge i n with h3 | h3
         ·exact HF.out.1 i h3 h
         ·obtain rfl:i=n:=by omega
          rw [HF.out.2.2.2.2.2.2,HO.out,HF.out.2.2.2.2.2.1,HC.out.1,HMM.out,hz])
        have HE:=Lib.hid (show (n+1) % 2=0/\n+1<=v.length+1 by
         have h1:=HF.out.2.1;have h2:=HF.out.2.2.1;have h3:=HF.out.2.2.2.2.1;omega)
        clear hz hcn
        go_wp2_with fail
        go_roundw
        case rel=>exact ⟨_,n+1,n+2,rfl,rfl,HE.out.1,HE.out.2,rfl,E.out,HB7.out.1.drew⟩
        case measure=>simp [intOf];omega
      | true =>
        have E:=Lib.hid (show decide (followsTo t b v v.length)=false by
         rw [decide_eq_false_iff_not]
         intro h
         have h1:=HF.out.2.1;have h2:=HF.out.2.2.1
         have h3:=h n HF.out.2.2.2.2.1 (by omega)
         rw [HF.out.2.2.2.2.2.2,HO.out,HF.out.2.2.2.2.2.1] at h3
         have h4:=HC.out.2
         simp only [Option.some.injEq,Prod.mk.injEq] at h3
         simp [h3.2] at h4)
        clear hcn
        go_wp2_with fail
        go_ret
        exact ⟨by rw [E.out];rfl,HB7.out.2.drew⟩
     ·have hmm:(m == M)=false:=by simp [hm]
      have hmm2:(m != M)=true:=by simp [hm]
      have E:=Lib.hid (show decide (followsTo t b v v.length)=false by
       rw [decide_eq_false_iff_not]
       intro h
       have h1:=HF.out.2.1;have h2:=HF.out.2.2.1
       have h3:=h n HF.out.2.2.2.2.1 (by omega)
       rw [HF.out.2.2.2.2.2.2,HO.out,HF.out.2.2.2.2.2.1] at h3
       simp only [Option.some.injEq,Prod.mk.injEq] at h3
       exact hm (h3.1.trans HMM.out.symm))
      clear hm
      go_upto_region 5 with (fail)
      refine wp_region_noPanic ?_
      refine wp_region_S (fun w'=>Below W7.heap.size W7 w') (fun _=>false) (by kernel_rfl) ?_
      have hSd:(fun w'=>Below W7.heap.size W7 w') W7.drew:=Below.drew (Below.refl _ _)
      refine wpAnyS_take 0 (v:=?_) (by kernel_rfl) (by kernel_rfl) (by kernel_rfl) (by kernel_rfl) (fun _ _ _ _ h=>h) hSd ?_ ?_
      rotate_left
      ·(intro oi ho;simp at ho;subst ho;refine Or.inl ⟨by rfl,fun w' hw'=>?_⟩;go_simp;try with_reducible rfl)
      (intro d hd;simp at hd;subst hd;simp only [Act.put,List.setIfInBounds_toArray,List.set_cons_zero,List.set_cons_succ])
      refine wpAnyS_take 1 (v:=?_) (by kernel_rfl) (by kernel_rfl) (by kernel_rfl) (by kernel_rfl) (fun _ _ _ _ h=>h) hSd ?_ ?_
      rotate_left
      ·(intro oi ho;simp at ho;subst ho;refine Or.inl ⟨by rfl,fun w' hw'=>?_⟩;go_simp;try with_reducible rfl)
      (intro d hd;simp at hd;subst hd;simp only [Act.put,List.setIfInBounds_toArray,List.set_cons_zero,List.set_cons_succ])
      refine wpAnyS_take 2 (v:=?_) (by kernel_rfl) (by kernel_rfl) (by kernel_rfl) (by kernel_rfl) (fun _ _ _ _ h=>h) hSd ?_ ?_
      rotate_left
      ·(intro oi ho;simp at ho;subst ho;refine Or.inl ⟨by rfl,fun w' hw'=>?_⟩;go_simp;try with_reducible rfl)
      (intro d hd;simp at hd;subst hd;simp only [Act.put,List.setIfInBounds_toArray,List.set_cons_zero,List.set_cons_succ])
      refine wpAnyS_take 3 (v:=?_) (by kernel_rfl) (by kernel_rfl) (by kernel_rfl) (by kernel_rfl) (fun _ _ _ _ h=>h) hSd ?_ ?_
      rotate_left
      ·(intro oi ho;simp at ho;subst ho;refine Or.inl ⟨by rfl,fun w' hw'=>?_⟩;go_simp;try with_reducible rfl)
      (intro d hd;simp at hd;subst hd;simp only [Act.put,List.setIfInBounds_toArray,List.set_cons_zero,List.set_cons_succ])
      refine wpAnyS_take 4 (v:=?_) (by kernel_rfl) (by kernel_rfl) (by kernel_rfl) (by kernel_rfl) (fun _ _ _ _ h=>h) hSd ?_ ?_
      rotate_left
      ·(intro oi ho;simp at ho;subst ho;refine Or.inl ⟨by rfl,fun w' hw'=>?_⟩;have e0:=(KEY7.out w' hw').1.1;go_simp;try with_reducible rfl)
      (intro d hd;simp at hd;subst hd;simp only [Act.put,List.setIfInBounds_toArray,List.set_cons_zero,List.set_cons_succ])
      refine wpAnyS_take 5 (v:=?_) (by kernel_rfl) (by kernel_rfl) (by kernel_rfl) (by kernel_rfl) (fun _ _ _ _ h=>h) hSd ?_ ?_
      rotate_left
      ·(intro oi ho;simp at ho;subst ho;refine Or.inl ⟨by rfl,fun w' hw'=>?_⟩;go_simp;try with_reducible rfl)
      (intro d hd;simp at hd;subst hd;simp only [Act.put,List.setIfInBounds_toArray,List.set_cons_zero,List.set_cons_succ])
      refine wpAnyS_take 6 (v:=?_) (by kernel_rfl) (by kernel_rfl) (by kernel_rfl) (by kernel_rfl) (fun _ _ _ _ h=>h) hSd ?_ ?_
      rotate_left
      ·(intro oi ho;simp at ho;subst ho;refine Or.inl ⟨by rfl,fun w' hw'=>?_⟩;go_simp;try with_reducible rfl)
      (intro d hd;simp at hd;subst hd;simp only [Act.put,List.setIfInBounds_toArray,List.set_cons_zero,List.set_cons_succ])
      refine wpAnyS_take 7 (v:=?_) (by kernel_rfl) (by kernel_rfl) (by kernel_rfl) (by kernel_rfl) (fun _ _ _ _ h=>h) hSd ?_ ?_
      rotate_left
      ·(intro oi ho;simp at ho;subst ho;refine Or.inl ⟨by rfl,fun w' hw'=>?_⟩;have e0:=(KEY7.out w' hw').2.1;go_simp;try with_reducible rfl)
      (intro d hd;simp at hd;subst hd;simp only [Act.put,List.setIfInBounds_toArray,List.set_cons_zero,List.set_cons_succ])
      refine wpAnyS_take 8 (v:=?_) (by kernel_rfl) (by kernel_rfl) (by kernel_rfl) (by kernel_rfl) (fun _ _ _ _ h=>h) hSd ?_ ?_
      rotate_left
      ·(intro oi ho;simp at ho;subst ho;refine Or.inl ⟨by rfl,fun w' hw'=>?_⟩;go_simp;try with_reducible rfl)
      (intro d hd;simp at hd;subst hd;simp only [Act.put,List.setIfInBounds_toArray,List.set_cons_zero,List.set_cons_succ])
      refine wpAnyS_take 9 (v:=?_) (by kernel_rfl) (by kernel_rfl) (by kernel_rfl) (by kernel_rfl) (fun _ _ _ _ h=>h) hSd ?_ ?_
      rotate_left
      ·(intro oi ho;simp at ho;subst ho;refine Or.inl ⟨by rfl,fun w' hw'=>?_⟩;have e0:=(KEY7.out w' hw').2.2.2.1.1;go_simp;try with_reducible rfl)
      (intro d hd;simp at hd;subst hd;simp only [Act.put,List.setIfInBounds_toArray,List.set_cons_zero,List.set_cons_succ])
      refine wpAnyS_take 10 (v:=?_) (by kernel_rfl) (by kernel_rfl) (by kernel_rfl) (by kernel_rfl) (fun _ _ _ _ h=>h) hSd ?_ ?_
      rotate_left
      ·(intro oi ho;simp at ho;subst ho;refine Or.inl ⟨by rfl,fun w' hw'=>?_⟩;go_simp;try with_reducible rfl)
      (intro d hd;simp at hd;subst hd;simp only [Act.put,List.setIfInBounds_toArray,List.set_cons_zero,List.set_cons_succ])
      refine wpAnyS_take 11 (v:=?_) (by kernel_rfl) (by kernel_rfl) (by kernel_rfl) (by kernel_rfl) (fun _ _ _ _ h=>h) hSd ?_ ?_
      rotate_left
      ·(intro oi ho;simp at ho;subst ho;refine Or.inl ⟨by rfl,fun w' hw'=>?_⟩;go_simp;try with_reducible rfl)
      (intro d hd;simp at hd;subst hd;simp only [Act.put,List.setIfInBounds_toArray,List.set_cons_zero,List.set_cons_succ])
      refine wpAnyS_take 12 (v:=?_) (by kernel_rfl) (by kernel_rfl) (by kernel_rfl) (by kernel_rfl) (fun _ _ _ _ h=>h) hSd ?_ ?_
      rotate_left
      ·(intro oi ho;simp at ho;subst ho;refine Or.inl ⟨by rfl,fun w' hw'=>?_⟩;have e0:=(KEY7.out w' hw').2.2.2.2.1;go_simp;try with_reducible rfl)
      (intro d hd;simp at hd;subst hd;simp only [Act.put,List.setIfInBounds_toArray,List.set_cons_zero,List.set_cons_succ])
      refine wpAnyS_take 13 (v:=?_) (by kernel_rfl) (by kernel_rfl) (by kernel_rfl) (by kernel_rfl) (fun _ _ _ _ h=>h) hSd ?_ ?_
      rotate_left
      ·(intro oi ho;simp at ho;subst ho;refine Or.inl ⟨by rfl,fun w' hw'=>?_⟩;go_simp;try with_reducible rfl)
      (intro d hd;simp at hd;subst hd;simp only [Act.put,List.setIfInBounds_toArray,List.set_cons_zero,List.set_cons_succ])
      refine wpAnyS_take 14 (v:=?_) (by kernel_rfl) (by kernel_rfl) (by kernel_rfl) (by kernel_rfl) (fun _ _ _ _ h=>h) hSd ?_ ?_
      rotate_left
      ·(intro oi ho;simp at ho;subst ho;refine Or.inl ⟨by rfl,fun w' hw'=>?_⟩;go_simp;try with_reducible rfl)
      (intro d hd;simp at hd;subst hd;simp only [Act.put,List.setIfInBounds_toArray,List.set_cons_zero,List.set_cons_succ])
      refine wpAnyS_take 15 (v:=?_) (by kernel_rfl) (by kernel_rfl) (by kernel_rfl) (by kernel_rfl) (fun _ _ _ _ h=>h) hSd ?_ ?_
      rotate_left
      ·(intro oi ho;simp at ho;subst ho;refine Or.inl ⟨by rfl,fun w' hw'=>?_⟩;go_simp;try with_reducible rfl)
      (intro d hd;simp at hd;subst hd;simp only [Act.put,List.setIfInBounds_toArray,List.set_cons_zero,List.set_cons_succ])
      refine wpAnyS_take 16 (v:=undef) (by kernel_rfl) (by kernel_rfl) (by kernel_rfl) (by kernel_rfl) (fun _ _ _ _ h=>h) hSd (fun oi ho=>by simp at ho;subst ho;exact Or.inr ⟨by rfl,rfl⟩) ?_
      (intro d hd;simp at hd;subst hd;simp only [Act.put,List.setIfInBounds_toArray,List.set_cons_zero,List.set_cons_succ])
      refine wpAnyS_take 17 (v:=undef) (by kernel_rfl) (by kernel_rfl) (by kernel_rfl) (by kernel_rfl) (fun _ _ _ _ h=>h) hSd (fun oi ho=>by simp at ho;subst ho;exact Or.inr ⟨by rfl,rfl⟩) ?_
      (intro d hd;simp at hd;subst hd;simp only [Act.put,List.setIfInBounds_toArray,List.set_cons_zero,List.set_cons_succ])
      refine wpAnyS_take 18 (v:=undef) (by kernel_rfl) (by kernel_rfl) (by kernel_rfl) (by kernel_rfl) (fun _ _ _ _ h=>h) hSd (fun oi ho=>by simp at ho;subst ho;exact Or.inr ⟨by rfl,rfl⟩) ?_
      (intro d hd;simp at hd;subst hd;simp only [Act.put,List.setIfInBounds_toArray,List.set_cons_zero,List.set_cons_succ])
      refine wpAnyS_take 19 (v:=undef) (by kernel_rfl) (by kernel_rfl) (by kernel_rfl) (by kernel_rfl) (fun _ _ _ _ h=>h) hSd (fun oi ho=>by simp at ho;subst ho;exact Or.inr ⟨by rfl,rfl⟩) ?_
      (intro d hd;simp at hd;subst hd;simp only [Act.put,List.setIfInBounds_toArray,List.set_cons_zero,List.set_cons_succ])
      refine wpAnyS_take 20 (v:=undef) (by kernel_rfl) (by kernel_rfl) (by kernel_rfl) (by kernel_rfl) (fun _ _ _ _ h=>h) hSd (fun oi ho=>by simp at ho;subst ho;exact Or.inr ⟨by rfl,rfl⟩) ?_
      (intro d hd;simp at hd;subst hd;simp only [Act.put,List.setIfInBounds_toArray,List.set_cons_zero,List.set_cons_succ])
      refine wpAnyS_take 21 (v:=undef) (by kernel_rfl) (by kernel_rfl) (by kernel_rfl) (by kernel_rfl) (fun _ _ _ _ h=>h) hSd (fun oi ho=>by simp at ho;subst ho;exact Or.inr ⟨by rfl,rfl⟩) ?_
      (intro d hd;simp at hd;subst hd;simp only [Act.put,List.setIfInBounds_toArray,List.set_cons_zero,List.set_cons_succ])
      refine wpAnyS_take 22 (v:=undef) (by kernel_rfl) (by kernel_rfl) (by kernel_rfl) (by kernel_rfl) (fun _ _ _ _ h=>h) hSd (fun oi ho=>by simp at ho;subst ho;exact Or.inr ⟨by rfl,rfl⟩) ?_
      (intro d hd;simp at hd;subst hd;simp only [Act.put,List.setIfInBounds_toArray,List.set_cons_zero,List.set_cons_succ])
      refine wpAnyS_take 23 (v:=undef) (by kernel_rfl) (by kernel_rfl) (by kernel_rfl) (by kernel_rfl) (fun _ _ _ _ h=>h) hSd (fun oi ho=>by simp at ho;subst ho;exact Or.inr ⟨by rfl,rfl⟩) ?_
      (intro d hd;simp at hd;subst hd;simp only [Act.put,List.setIfInBounds_toArray,List.set_cons_zero,List.set_cons_succ])
      refine wpAnyS_take 24 (v:=undef) (by kernel_rfl) (by kernel_rfl) (by kernel_rfl) (by kernel_rfl) (fun _ _ _ _ h=>h) hSd (fun oi ho=>by simp at ho;subst ho;exact Or.inr ⟨by rfl,rfl⟩) ?_
      (intro d hd;simp at hd;subst hd;simp only [Act.put,List.setIfInBounds_toArray,List.set_cons_zero,List.set_cons_succ])
      refine wpAnyS_take 25 (v:=undef) (by kernel_rfl) (by kernel_rfl) (by kernel_rfl) (by kernel_rfl) (fun _ _ _ _ h=>h) hSd (fun oi ho=>by simp at ho;subst ho;exact Or.inr ⟨by rfl,rfl⟩) ?_
      (intro d hd;simp at hd;subst hd;simp only [Act.put,List.setIfInBounds_toArray,List.set_cons_zero,List.set_cons_succ])
      refine wpAnyS_take 26 (v:=undef) (by kernel_rfl) (by kernel_rfl) (by kernel_rfl) (by kernel_rfl) (fun _ _ _ _ h=>h) hSd (fun oi ho=>by simp at ho;subst ho;exact Or.inr ⟨by rfl,rfl⟩) ?_
      (intro d hd;simp at hd;subst hd;simp only [Act.put,List.setIfInBounds_toArray,List.set_cons_zero,List.set_cons_succ])
      refine wpAnyS_take 27 (v:=?_) (by kernel_rfl) (by kernel_rfl) (by kernel_rfl) (by kernel_rfl) (fun _ _ _ _ h=>h) hSd ?_ ?_
      rotate_left
      ·(intro oi ho;simp at ho;subst ho;refine Or.inl ⟨by rfl,fun w' hw'=>?_⟩;go_simp;try with_reducible rfl)
      (intro d hd;simp at hd;subst hd;simp only [Act.put,List.setIfInBounds_toArray,List.set_cons_zero,List.set_cons_succ])
      refine wpAnyS_done (by kernel_rfl) (NoPanic.normal ?_) _
      clear hSd KEY7
      go_wp2_with fail
      go_ret
      exact ⟨by rw [E.out];rfl,HB7.out.2.drew⟩
  ·have hltI:¬ (n:Int)<(v.length:Int):=by omega
   have E:=Lib.hid (show decide (followsTo t b v v.length)=true from decide_eq_true fun i hi h=>hfo i (by omega) h)
   clear hfo hnk
   go_wp2_with fail
   go_ret
   exact ⟨by rw [E.out];rfl,HB.out.2⟩
set_option maxRecDepth 100000 in
theorem specStrategyFollows_any (F:Nat->Prop) (s text:Bs) (mv pt:Value) (ms:List Bs) (ps:List Int) (w:World) (hs:Lim s.length) (ht:Lim text.length) (hm:MsRep F w ms mv) (hp:PsRep F w ps pt) (hl:∀ x∈ms,Lim x.length) :
 Calls Tryz.prog 19 #[str s,str text,.agg #[mv,pt]] w fun en w'=>en=.returned (.bool (followOk s text ms ps))/\Below w.heap.size w w':=by
 obtain ⟨ma,mc,rfl⟩:=hm.slice
 obtain ⟨pa,pc,rfl⟩:=hp.slice
 obtain ⟨W,hW,hbW,hz,b0⟩:=box_1 w (.cells #[.slice ma ms.length mc,.slice pa ps.length pc] 33)
 have C:=Lib.hid (l3Strategy_any s text hs ht W)
 have CL:=Lib.hid (fun (y:World) (hy:Below W.heap.size W y)=>specPlayLegal_any F s _ _ ms ps y hs ((hm.below hbW fun _ h=>h).below hy fun _ h=>h) ((hp.below hbW fun _ h=>h).below hy fun _ h=>h) hl)
 have HP:=Lib.hid (fun (y:World) (hy:Below W.heap.size W y) (h:playOk s ms ps=true)=>(plIn_zip (hm.below hbW fun _ h=>h) (hp.below hbW fun _ h=>h) hl h).below hy)
 have HW:=Lib.hid (And.intro hW (And.intro hbW b0))
 clear hW hbW hz b0 hs ht hm hp hl
 go_enter Tryz.func19,Tryz.ntmps19
 go_upto_region 1 with (fail)
 rw [HW.out.1]
 go_wp2_with fail
 (with_reducible refine C.out.mono ?_)
 rintro en w1 ⟨ta,tc,s',v',a2,n2,c2,a3,n3,c3,rfl,hb1,hrt,hrb⟩
 have HGD:=Lib.hid (fun b (h:specStrat s text=some b)=>(specStrat_good h).1)
 have HFO:Hid (followOk s text ms ps=match specStrat s text with | none=>false | some b=>legalOk s ms ps && decide (followsTo (specType s).1 b (ms.zip ps) (ms.zip ps).length)):=Lib.hid rfl
 generalize hT:(specType s).1=t at *
 obtain ⟨so,hso⟩:=zzM (specStrat s text)
 rw [<- hso] at hrb HGD HFO ⊢
 clear hso C
 obtain ⟨X,hX,hbX,hzX,x0,x1⟩:=boxes_2 w1 (.cells #[.slice ta t.args.length tc] 78) (.cells #[str s',.int .i64 v',.slice a2 n2 c2,.slice a3 n3 c3] 81)
 have hWX:Below W.heap.size W X:=zzT hb1 hbX
 obtain ⟨c0,c1,_,_⟩:=cells_2 HW.out.2.2
 have d0:=(hWX.cell (World.block_lt_of_cell? _ _ c0)).trans c0
 have d1:=(hWX.cell (World.block_lt_of_cell? _ _ c1)).trans c1
 have t0:=one_cell x0
 obtain ⟨n0,n1,n2',n3'⟩:=cells_4 x1
 have HX:=Lib.hid (And.intro hX (And.intro hWX (zzT HW.out.2.1 hWX)))
 have hrt2:Rep (fun _=>True) X (encS t) (.slice ta t.args.length tc):=(Rep.keep fun i o _ ho=>⟨trivial,by rw [hbX.block i (lt_of_heap ho)];exact ho⟩).1 _ _ hrt
 have hrb2:∀ b,so=some b->Reps (fun _=>True) X (encN b) [str s',.int .i64 v',.slice a2 n2 c2,.slice a3 n3 c3]:=fun b h=>(Rep.keep fun i o _ ho=>⟨trivial,by rw [hbX.block i (lt_of_heap ho)];exact ho⟩).2 _ _ (hrb b h)
 have HR:=Lib.hid (And.intro hrt2 hrb2)
 have HT:=Lib.hid hT
 clear c0 c1 hb1 hX hbX hzX x0 x1 hWX hrt hrb hrt2 hrb2 hT
 go_upto_region 2 with (fail)
 rw [HX.out.1]
 cases so with
 | none =>
   have E:=Lib.hid HFO.out
   clear HFO
   go_wp2_with fail
   go_ret
   exact ⟨by rw [E.out];rfl,HX.out.2.2⟩
 | some b =>
   have E:followOk s text ms ps=(legalOk s ms ps && decide (followsTo t b (ms.zip ps) (ms.zip ps).length)):=HFO.out
   have hgd:=HGD.out b rfl
   have C1:=CL.out X HX.out.2.1
   clear HFO HGD CL
   cases hlg:legalOk s ms ps with
   | false =>
     rw [hlg] at E C1
     have E:=Lib.hid E
     have C1:=Lib.hid C1
     clear hlg hgd
     go_wp2_with fail
     (with_reducible refine C1.out.mono ?_)
     rintro en w2 ⟨rfl,hb2⟩
     have HB2:=Lib.hid (zzT HX.out.2.2 hb2)
     clear hb2 d0 d1 t0 n0 n1 n2' n3'
     go_wp2_with fail
     go_ret
     exact ⟨by rw [E.out];rfl,HB2.out⟩
   | true =>
     rw [hlg,Bool.true_and] at E
     rw [hlg] at C1
     have HOK:=Lib.hid (legalOk_ok hlg)
     obtain ⟨r,hr⟩:=zzN (decide (followsTo t b (ms.zip ps) (ms.zip ps).length))
     have HRR:=Lib.hid hr
     rw [hr] at E
     have E:=Lib.hid E
     have C1:=Lib.hid C1
     have HG:=Lib.hid hgd
     clear hlg hr hgd
     go_wp2_with fail
     (with_reducible refine C1.out.mono ?_)
     rintro en w2 ⟨rfl,hb2⟩
     have hk:∀ (a:Addr) (u:Value),X.cell? a=some u->w2.cell? a=some u:=fun a u h=>(hb2.cell (World.block_lt_of_cell? _ _ h)).trans h
     have d0':=hk _ _ d0;have d1':=hk _ _ d1;have t0':=hk _ _ t0;have m0:=hk _ _ n0;have m1:=hk _ _ n1;have m2:=hk _ _ n2';have m3:=hk _ _ n3'
     have hpl:=HP.out w2 (zzT HX.out.2.1 hb2) HOK.out
     have C2:=l3Follows_any t b (ms.zip ps) (.slice ta t.args.length tc) (.slice ma ms.length mc) (.slice pa ps.length pc) [str s',.int .i64 v',.slice a2 n2 c2,.slice a3 n3 c3] w2 ((Rep.below hb2 fun _ h=>h) HR.out.1) ((Rep.keep fun i o hi ho=>⟨hi,by rw [hb2.block i (lt_of_heap ho)];exact ho⟩).2 _ _ (HR.out.2 b rfl))
      ⟨(Rep.keep fun b o _ ho=>⟨trivial,ho⟩).1 _ _ hpl.m,(Rep.keep fun b o _ ho=>⟨trivial,ho⟩).1 _ _ hpl.p,hpl.ok,hpl.l⟩ HG.out.atoms HG.out.fit HG.out.wf
     rw [HRR.out] at C2
     have C2:=Lib.hid (show Calls Tryz.prog 62 #[.agg #[.slice ta t.args.length tc],.agg #[str s',.int .i64 v',.slice a2 n2 c2,.slice a3 n3 c3],.agg #[.slice ma ms.length mc,.slice pa ps.length pc]] w2 _ from C2)
     have HB2:=Lib.hid (zzT HX.out.2.2 hb2)
     clear hb2 d0 d1 t0 n0 n1 n2' n3' hpl C1 HP hk
     go_wp2_with fail
     (with_reducible refine C2.out.mono ?_)
     rintro en w3 ⟨rfl,hb3⟩
     have HB3:=Lib.hid (zzT HB2.out hb3)
     clear hb3
     go_wp2_with fail
     go_ret
     exact ⟨by rw [E.out];rfl,HB3.out⟩
def IntsAt (w:World) (a:Option Addr) (zs:List Int):Prop:=∀ (j:Nat) (z:Int),zs[j]? = some z->∃ b o,a=some ⟨b,o,none⟩/\w.cell? ⟨b,o+j,none⟩=some (.int .i64 z)
theorem IntsAt.below {w w':World} {a:Option Addr} {zs:List Int} (h:IntsAt w a zs) (hb:Below w.heap.size w w'):IntsAt w' a zs:=fun j z hz=>by
 obtain ⟨b,o,e,hc⟩:=h j z hz
 exact ⟨b,o,e,(hb.cell (World.block_lt_of_cell? _ _ hc)).trans hc⟩
def SizedI (left:Nat) (n:Nat) (w:World) (en:Ending) (w':World):Prop :=
 w'=w/\(en=.returned (.int .i64 (-1))\/∃ r:Nat,en=.returned (.int .i64 (r:Nat))/\n<=left/\r<=left)
theorem szIntS_any (left:Nat) (a:Option Addr) (n c:Nat) (w:World) (hl:left<=16777216) (hx:n<=9223372036854775807) :
 Calls Tryz.prog 60 #[.slice a n c,.int .i64 (left:Nat)] w (SizedI left n w):=by
 by_cases h0:left<n
 ·have h1:(left:Int)-(n:Int)<0:=by omega
  go_enter Tryz.func60,Tryz.ntmps60
  go_wp2_with fail
  go_ret
  exact ⟨rfl,.inl rfl⟩
 ·have h1:¬ (left:Int)-(n:Int)<0:=by omega
  have hw:IntKind.i64.wrap ((left:Int)-(n:Int))=((left-n:Nat):Int):=by rw [show (left:Int)-(n:Int)=((left-n:Nat):Int) from by omega];exact wrap_nat _ (by omega)
  obtain ⟨r,hr⟩:=zzM (left-n)
  rw [<- hr] at hw
  have h2:¬ (r:Int)<0:=by omega
  have HR:=Lib.hid (show n<=left/\r<=left by omega)
  clear hr h0
  go_enter Tryz.func60,Tryz.ntmps60
  go_wp2_with fail
  go_ret
  exact ⟨rfl,.inr ⟨r,rfl,HR.out⟩⟩
def MadeI (g:Nat) (xs:List Int) (k:Nat) (w:World):Prop :=
 ∃ Y:Array Value,w.heap[g]? = some (.cells Y 3 (0,0))/\Y.size=xs.length/\∀ (j:Nat) (s:Int),j<k->xs[j]? = some s->Y[j]? = some (.int .i64 s)
theorem MadeI.cell {g:Nat} {xs:List Int} {k:Nat} {w:World} (h:MadeI g xs k w) (hk:k<xs.length):(∃ u,w.cell? ⟨g,k,none⟩=some u)/\w.frozen? ⟨g,k,none⟩=false:=by
 obtain ⟨Y,hY,hs,_⟩:=h
 exact ⟨⟨Y[k]'(by omega),by simp [World.cell?,hY,show k<Y.size by omega]⟩,by simp [World.frozen?,hY]⟩
theorem MadeI.put {g:Nat} {xs:List Int} {k:Nat} {w:World} (h:MadeI g xs k w) {s:Int} (hk:xs[k]? = some s):MadeI g xs (k+1) (w.setCell ⟨g,k,none⟩ (.int .i64 s)):=by
 obtain ⟨Y,hY,hs,hj⟩:=h
 refine ⟨Y.setIfInBounds k (.int .i64 s),setCell_at hY,by simp [hs],fun j s' hj' hs'=>?_⟩
 have hlt:=(List.getElem?_eq_some_iff.1 hk).1
 rcases Nat.lt_or_ge j k with h | h
 ·rw [Array.getElem?_setIfInBounds_ne (by omega)];exact hj j s' h hs'
 ·obtain rfl:j=k:=by omega
  rw [hk] at hs';simp at hs';subst hs'
  rw [Array.getElem?_setIfInBounds_self_of_lt (by omega)]
set_option maxRecDepth 100000 in
theorem toIntS_own (a:Option Addr) (c:Nat) (xs:List Int) (w:World) (h:IntsAt w a xs) (hx:xs.length<=16777216) :
 Calls Tryz.prog 64 #[.slice a xs.length c] w fun en w'=>∃ c',en=.returned (.slice (some ⟨w.heap.size,0,none⟩) xs.length c')/\Own w' 3 1 (.slice (some ⟨w.heap.size,0,none⟩) xs.length c') xs.length (zsV xs)/\Below w.heap.size w w':=by
 have H:=Lib.hid h;clear h
 obtain ⟨X,hX,hmk⟩:∃ X:Array Value,X.size=xs.length/\(Instr.makeSlice 31 (.int .i64 (xs.length:Int)) (.int .i64 (xs.length:Int))).run Tryz.prog w=.ok (.slice (some ⟨w.heap.size,0,none⟩) xs.length xs.length) (w.alloc (.cells X 3)):=by
  obtain ⟨i,hi,hz,hsize,hby⟩:=info_parts Tryz.infoInt2
  have hr:=run_makeSlice (P:=Tryz.prog) w 31 3 i _ Tryz.underlying31 hi hz .i64 .i64 (xs.length:Int) (xs.length:Int) (by omega) (by omega) (by rw [hsize];simp;omega) (by rw [hby];omega) (by omega)
  simp only [Int.toNat_natCast] at hr
  exact ⟨_,by rw [size_madeCells,hsize,Nat.mul_one],hr⟩
 have HX:=Lib.hid hX;clear hX
 go_enter Tryz.func64,Tryz.ntmps64
 go_wp2_with fail
 go_loopw [4] (fun i wr=>∃ k:Nat,k<=xs.length/\i=.int .i64 k/\Below w.heap.size w wr/\MadeI w.heap.size xs k wr) (fun i _=>xs.length-(intOf i).toNat)
 case atStart=>exact ⟨0,Nat.zero_le _,rfl,(Below.refl _ _).alloc (Nat.le_refl _) _,X,heap_new _ _,HX.out,fun j s h=>by omega⟩
 case round =>
  clear hmk
  obtain ⟨k,hk,rfl,hb,hm⟩:=hrel
  by_cases hlt:k<xs.length
  ·obtain ⟨s,hks⟩:∃ s,xs[k]? = some s:=⟨xs[k],by simp [hlt]⟩
   obtain ⟨b,o,e,hc⟩:=H.out.below hb k s hks
   subst e
   obtain ⟨⟨u,hu⟩,hf⟩:=hm.cell hlt
   have HP:=Lib.hid (hm.put hks);have HB:=Lib.hid hb
   clear hks hm hb
   have hlt':(k:Int)<(xs.length:Int):=by omega
   go_wp2_with fail
   go_roundw
   case rel=>exact ⟨k+1,by omega,by go_num,HB.out.setCell (p:=⟨w.heap.size,k,none⟩) (Nat.le_refl _) _,HP.out⟩
   case measure=>simp [intOf];omega
  ·obtain rfl:k=xs.length:=by omega
   have HM:=Lib.hid hm;clear hm
   go_wp2_with fail
   go_ret
   refine ⟨_,rfl,?_,hb⟩
   obtain ⟨Y,hY,hsz,hj⟩:=HM.out
   refine ⟨by simp [zsV],.inr ⟨_,_,Y,rfl,Nat.zero_le _,hY,Nat.le_refl _,by unfold maxLen;omega,by omega,?_⟩⟩
   apply List.ext_getElem?
   intro j
   rw [Nat.mul_one,List.getElem?_take,Array.getElem?_toList]
   unfold zsV
   rw [List.getElem?_map]
   split
   ·rename_i hj2
    rw [hj j xs[j] hj2 (List.getElem?_eq_getElem hj2),List.getElem?_eq_getElem hj2];rfl
   ·rename_i hj2
    rw [List.getElem?_eq_none (by omega)];rfl
def SizedL (left:Nat) (xs:List Bs) (w:World) (en:Ending) (w':World):Prop :=
 w'=w/\(en=.returned (.int .i64 (-1))\/∃ r:Nat,en=.returned (.int .i64 (r:Nat))/\r<=left/\xs.length<=left/\∀ s∈xs,s.length<=left)
theorem szStrings_le (left:Nat) (a:Option Addr) (c:Nat) (xs:List Bs) (w:World) (h:StrsAt w a xs) (hl:left<=16777216) (hx:xs.length<=9223372036854775807) (hs:∀ s∈xs,s.length<=9223372036854775807) :
 Calls Tryz.prog 59 #[.slice a xs.length c,.int .i64 (left:Nat)] w (SizedL left xs w):=by
 have H:=Lib.hid h;have HS:=Lib.hid hs;clear h hs
 by_cases h0:left<xs.length
 ·have h1:(left:Int)-(xs.length:Int)<0:=by omega
  go_enter Tryz.func59,Tryz.ntmps59
  go_wp2_with fail
  go_ret
  exact ⟨rfl,.inl rfl⟩
 have h1:¬ (left:Int)-(xs.length:Int)<0:=by omega
 have hxl:xs.length<=16777216:=by omega
 go_enter Tryz.func59,Tryz.ntmps59
 go_wp2_with fail
 go_loopw [1,5] (fun l i wr=>∃ k r:Nat,k<=xs.length/\i=.int .i64 k/\l=.int .i64 (r:Nat)/\r<=left/\(∀ s∈xs.take k,s.length<=left)/\wr=w) (fun _ i _=>xs.length-(intOf i).toNat)
 case atStart=>exact ⟨0,left-xs.length,Nat.zero_le _,rfl,by go_num,by omega,by simp,rfl⟩
 case round =>
  obtain ⟨k,r,hk,rfl,rfl,hr,hall,rfl⟩:=hrel
  have HA:=Lib.hid hall;clear hall
  by_cases hlt:k<xs.length
  ·obtain ⟨s,hks⟩:∃ s,xs[k]? = some s:=⟨xs[k],by simp [hlt]⟩
   obtain ⟨b,o,e,hc⟩:=H.out k s hks
   subst e
   have hs9:=HS.out s (List.mem_of_getElem? hks)
   have HK:=Lib.hid hks;clear hks
   have hlt':(k:Int)<(xs.length:Int):=by omega
   by_cases hneg:r<s.length
   ·have hneg':(r:Int)-(s.length:Int)<0:=by omega
    go_wp2_with fail
    go_ret
    exact ⟨rfl,.inl rfl⟩
   ·have hneg':¬ (r:Int)-(s.length:Int)<0:=by omega
    have hsl:s.length<=16777216:=by omega
    have HA2:Hid (∀ x∈xs.take (k+1),x.length<=left):=by
     show ∀ x∈xs.take (k+1),x.length<=left
     intro x hx
     rw [List.take_add_one,HK.out] at hx
     rcases List.mem_append.1 hx with hx | hx
     ·exact HA.out x hx
     ·simp at hx;subst hx;omega
    go_wp2_with fail
    go_roundw
    case rel=>exact ⟨k+1,r-s.length,by omega,by go_num,by go_num,by omega,HA2.out,trivial⟩
    case measure=>simp [intOf];omega
  ·obtain rfl:k=xs.length:=by omega
   go_wp2_with fail
   go_ret
   exact ⟨rfl,.inr ⟨r,rfl,hr,by omega,by have:=HA.out;rwa [List.take_length] at this⟩⟩
def SizedP (left:Nat) (ms:List Bs) (ps:List Int) (w:World) (en:Ending) (w':World):Prop :=
 Below w.heap.size w w'/\(en=.returned (.int .i64 (-1))\/∃ r:Nat,en=.returned (.int .i64 (r:Nat))/\ms.length<=left/\ps.length<=left/\∀ s∈ms,s.length<=left)
set_option maxRecDepth 100000 in
theorem szPlay_any (left:Nat) (a a2:Option Addr) (c c2:Nat) (ms:List Bs) (ps:List Int) (w:World) (h:StrsAt w a ms) (hl:left<=16777216) (hx:ms.length<=9223372036854775807) (hs:∀ s∈ms,s.length<=9223372036854775807) (hp:ps.length<=9223372036854775807) :
 Calls Tryz.prog 18 #[.agg #[.slice a ms.length c,.slice a2 ps.length c2],.int .i64 (left:Nat)] w (SizedP left ms ps w):=by
 obtain ⟨W,hW,hbW,hz,b0⟩:=box_1 w (.cells #[.slice a ms.length c,.slice a2 ps.length c2] 35)
 obtain ⟨c0,c1,_,_⟩:=cells_2 b0
 have C1:=Lib.hid (szStrings_le left a c ms W (h.below hbW) hl hx hs)
 have C2:=Lib.hid (fun r (hr:r<=left)=>szIntS_any r a2 ps.length c2 W (by omega) hp)
 have HW:=Lib.hid (And.intro hW hbW)
 clear hW hbW hz b0 h hl hx hs hp
 go_enter Tryz.func18,Tryz.ntmps18
 go_upto_region 1 with (fail)
 rw [HW.out.1]
 go_wp2_with fail
 (with_reducible refine C1.out.mono ?_)
 rintro en w1 ⟨e,h1⟩
 subst w1
 rcases h1 with rfl | ⟨r,rfl,hr,hn,hall⟩
 ·go_wp2_with fail
  go_ret
  exact ⟨HW.out.2,.inl rfl⟩
 ·have hr0:¬ (r:Int)<0:=by omega
  have C3:=Lib.hid (C2.out r hr)
  have HA:=Lib.hid (And.intro hr (And.intro hn hall))
  clear hr hn hall C2
  go_wp2_with fail
  (with_reducible refine C3.out.mono ?_)
  rintro en w2 ⟨e,h2⟩
  subst w2
  rcases h2 with rfl | ⟨r2,rfl,hr2,_⟩
  ·go_wp2_with fail
   go_ret
   exact ⟨HW.out.2,.inl rfl⟩
  ·have hr20:¬ (r2:Int)<0:=by omega
   have HB:=Lib.hid hr2
   clear hr2
   go_wp2_with fail
   go_ret
   exact ⟨HW.out.2,.inr ⟨r2,rfl,HA.out.2.1,by have h1:=HA.out.1;have h2:=HB.out;omega,HA.out.2.2⟩⟩
def PlayOwn (B:Nat) (ms:List Bs) (ps:List Int) (mv pt:Value) (w:World):Prop:=Own w 9 1 mv ms.length (ms.map str)/\Own w 3 1 pt ps.length (zsV ps)/\∀ g,mv.ownBlock=some g\/pt.ownBlock=some g->B<=g
set_option maxRecDepth 100000 in
theorem toPlay_any (a a2:Option Addr) (c c2:Nat) (ms:List Bs) (ps:List Int) (w:World) (h:StrsAt w a ms) (h2:IntsAt w a2 ps) (hx:ms.length<=16777216) (hp:ps.length<=16777216) :
 Calls Tryz.prog 20 #[.agg #[.slice a ms.length c,.slice a2 ps.length c2]] w fun en w'=>∃ a8 c8 a9 c9,en=.returned (.agg #[.slice a8 ms.length c8,.slice a9 ps.length c9])/\Below w.heap.size w w'/\PlayOwn w.heap.size ms ps (.slice a8 ms.length c8) (.slice a9 ps.length c9) w':=by
 obtain ⟨W,hW,hbW,hz,b0,b1,b2⟩:=boxes_3 w (.cells #[.slice a ms.length c,.slice a2 ps.length c2] 35) (.cells #[.slice none 0 0,.slice none 0 0] 33) (.cells #[.slice none 0 0,.slice none 0 0] 33)
 obtain ⟨c0,c1,_,_⟩:=cells_2 b0
 have C1:=Lib.hid (toStringS_own a c ms W (h.below hbW) hx)
 have HI:=Lib.hid (fun (y:World) (hy:Below w.heap.size w y)=>toIntS_own a2 c2 ps y (h2.below hy) hp)
 have HW:=Lib.hid (And.intro hW (And.intro hbW (And.intro hz (And.intro b0 (And.intro b1 b2)))))
 clear hW hbW hz b0 b1 b2 h h2 hx hp
 go_enter Tryz.func20,Tryz.ntmps20
 go_upto_region 2 with (fail)
 rw [HW.out.1]
 go_wp2_with fail
 (with_reducible refine C1.out.mono ?_)
 rintro en w1 ⟨c8,rfl,ho1,hb1⟩
 have b2:=(hb1.block _ (lt_of_heap HW.out.2.2.2.2.2)).trans HW.out.2.2.2.2.2
 have e1:=(hb1.cell (World.block_lt_of_cell? _ _ c1)).trans c1
 obtain ⟨z0,z1,f0,f1⟩:=cells_2 b2
 obtain ⟨gS,hgS⟩:=zzN (W.heap.size)
 have hz:=HW.out.2.2.1
 have HS:=Lib.hid (And.intro hgS (And.intro ho1 (And.intro hb1 (And.intro b2 hz))))
 rw [hgS]
 clear ho1 hb1 b2 c0 c1 C1 hz hgS
 go_upto_region 3 with (fail)
 obtain ⟨X1,hX1⟩:=zzN (w1.setCell ⟨w.heap.size+2,0,none⟩ (.slice (some ⟨gS,0,none⟩) ms.length c8))
 rw [hX1]
 have b2x:X1.heap[w.heap.size+2]? = some (.cells #[.slice (some ⟨gS,0,none⟩) ms.length c8,.slice none 0 0] 33 (0,0)):=by rw [<- hX1,setCell_at' HS.out.2.2.2.1];rfl
 have oth1:∀ g,g≠w.heap.size+2->X1.heap[g]? = w1.heap[g]?:=fun g hg=>by rw [<- hX1,Below.heap_setCell _ _ _ _ (by show g≠w.heap.size+2;exact hg)]
 have hB1:Below w.heap.size w X1:=by rw [<- hX1];exact (zzT HW.out.2.1 HS.out.2.2.1).setCell (p:=⟨w.heap.size+2,0,none⟩) (Nat.le_add_right _ _) _
 have e1x:X1.cell? ⟨w.heap.size,1,none⟩=some (.slice a2 ps.length c2):=by
  simp only [World.cell?] at e1 ⊢
  rw [oth1 w.heap.size (by omega)];exact e1
 have C2:=Lib.hid (HI.out X1 hB1)
 have H1:=Lib.hid (And.intro b2x (And.intro oth1 hB1))
 clear b2x oth1 hB1 e1 z0 z1 f0 f1 HI hX1
 go_wp2_with fail
 (with_reducible refine C2.out.mono ?_)
 rintro en w2 ⟨c9,rfl,ho2,hb2⟩
 have b2y:=(hb2.block _ (lt_of_heap H1.out.1)).trans H1.out.1
 obtain ⟨z0,z1,f0,f1⟩:=cells_2 b2y
 obtain ⟨gI,hgI⟩:=zzN (X1.heap.size)
 have H2:=Lib.hid (And.intro hgI (And.intro ho2 (And.intro hb2 b2y)))
 rw [hgI]
 clear ho2 hb2 b2y C2 hgI e1x
 go_upto_region 4 with (fail)
 obtain ⟨X2,hX2⟩:=zzN (w2.setCell ⟨w.heap.size+2,1,none⟩ (.slice (some ⟨gI,0,none⟩) ps.length c9))
 rw [hX2]
 have b2z:X2.heap[w.heap.size+2]? = some (.cells #[.slice (some ⟨gS,0,none⟩) ms.length c8,.slice (some ⟨gI,0,none⟩) ps.length c9] 33 (0,0)):=by rw [<- hX2,setCell_at' H2.out.2.2.2];rfl
 have oth2:∀ g,g≠w.heap.size+2->X2.heap[g]? = w2.heap[g]?:=fun g hg=>by rw [<- hX2,Below.heap_setCell _ _ _ _ (by show g≠w.heap.size+2;exact hg)]
 have hB2:Below w.heap.size w X2:=by rw [<- hX2];exact (zzT H1.out.2.2 H2.out.2.2.1).setCell (p:=⟨w.heap.size+2,1,none⟩) (Nat.le_add_right _ _) _
 have hzW:=HS.out.2.2.2.2
 have hs1:=HS.out.2.2.1.size
 have hgS:=HS.out.1
 have hgI:=H2.out.1
 have hlt1:w.heap.size+2<w1.heap.size:=lt_of_heap HS.out.2.2.2.1
 have hX1s:w1.heap.size<=X1.heap.size:=by
  have h1:w1.heap[w1.heap.size-1]?≠none:=by rw [Array.getElem?_eq_getElem (by omega)];simp
  by_cases hc:X1.heap.size<=w1.heap.size-1
  ·have h2:=H1.out.2.1 (w1.heap.size-1)
   by_cases hq:w1.heap.size-1=w.heap.size+2
   ·have:=lt_of_heap H1.out.1;omega
   ·rw [<- h2 hq] at h1;exact absurd (Array.getElem?_eq_none hc) h1
  ·omega
 have b1z:X2.heap[w.heap.size+1]? = some (.cells #[.slice none 0 0,.slice none 0 0] 33 (0,0)):=by
  rw [oth2 _ (by omega),H2.out.2.2.1.block _ (by omega),H1.out.2.1 _ (by omega),HS.out.2.2.1.block _ (by omega)];exact HW.out.2.2.2.2.1
 have k1:∀ g o,w.heap.size+3<=g->w1.heap[g]? = some o->X2.heap[g]? = some o:=fun g o hg ho=>by
  have:=lt_of_heap ho
  rw [oth2 g (by omega),H2.out.2.2.1.block g (by omega),H1.out.2.1 g (by omega)];exact ho
 have k2:∀ g o,w.heap.size+3<=g->w2.heap[g]? = some o->X2.heap[g]? = some o:=fun g o hg ho=>by rw [oth2 g (by omega)];exact ho
 have hO1:Own X2 9 1 (.slice (some ⟨gS,0,none⟩) ms.length c8) ms.length (ms.map str):=(hgS ▸ HS.out.2.1).keep fun g o hg ho=>k1 g o (by simp [Value.ownBlock] at hg;omega) ho
 have hO2:Own X2 3 1 (.slice (some ⟨gI,0,none⟩) ps.length c9) ps.length (zsV ps):=(hgI ▸ H2.out.2.1).keep fun g o hg ho=>k2 g o (by simp [Value.ownBlock] at hg;omega) ho
 have HX:=Lib.hid (And.intro hO1 (And.intro hO2 (And.intro hB2 (And.intro b1z (show w.heap.size+3<=gS/\w.heap.size+3<=gI by omega)))))
 obtain ⟨y0,y1,_,_⟩:=cells_2 b2z
 obtain ⟨u0,u1,g0,g1⟩:=cells_2 b1z
 clear z0 z1 f0 f1 b2z oth2 hB2 hzW hs1 hgS hgI hlt1 hX1s b1z k1 k2 hO1 hO2 hX2
 go_wp2_with fail
 have hV:=set_two' HX.out.2.2.2.1 (.slice (some ⟨gS,0,none⟩) ms.length c8) (.slice (some ⟨gI,0,none⟩) ps.length c9)
 obtain ⟨s0',s1',_,_⟩:=cells_2 hV
 refine bodyPost_ret (v:=.agg #[.slice (some ⟨gS,0,none⟩) ms.length c8,.slice (some ⟨gI,0,none⟩) ps.length c9]) (by simp [results,Tryz.results20,go_sem,s0',s1']) rfl ?_
 have oth3:∀ g,g≠w.heap.size+1->((X2.setCell ⟨w.heap.size+1,0,none⟩ (.slice (some ⟨gS,0,none⟩) ms.length c8)).setCell ⟨w.heap.size+1,1,none⟩ (.slice (some ⟨gI,0,none⟩) ps.length c9)).heap[g]? = X2.heap[g]?:=fun g hg=>by
  rw [Below.heap_setCell _ _ _ _ (by show g≠w.heap.size+1;exact hg),Below.heap_setCell _ _ _ _ (by show g≠w.heap.size+1;exact hg)]
 have hg:=HX.out.2.2.2.2
 refine ⟨_,_,_,_,rfl,(HX.out.2.2.1.setCell (p:=⟨w.heap.size+1,0,none⟩) (Nat.le_add_right _ _) _).setCell (p:=⟨w.heap.size+1,1,none⟩) (Nat.le_add_right _ _) _,HX.out.1.keep fun g o hg ho=>?_,HX.out.2.1.keep fun g o hg ho=>?_,fun g hg=>?_⟩
 ·simp [Value.ownBlock] at hg;rw [oth3 g (by omega)];exact ho
 ·simp [Value.ownBlock] at hg;rw [oth3 g (by omega)];exact ho
 ·simp [Value.ownBlock] at hg;omega
end Go.Proofs.YtdfkiicodfbibaaGreatDoor

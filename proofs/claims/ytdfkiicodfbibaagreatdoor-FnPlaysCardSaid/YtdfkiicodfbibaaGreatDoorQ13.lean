/- Walks of functions that the statement reaches, and plain words. No conditions. -/
import Derived.Laws.DeepNot64
import Derived.Test.YtdfkiicodfbibaaGreatDoorQ12
set_option linter.unusedVariables false
set_option linter.unusedSimpArgs false
set_option maxHeartbeats 16000000
namespace Go.Proofs.YtdfkiicodfbibaaGreatDoor
open Go.RowKit
theorem NxR.cat {B B2:Nat} {L L2:List Pl} {a a2:Option Addr} {n c n2 c2:Nat} {us us2:List (Value×Value)} {w:World} (h:NxR B L a n c us w) (h2:NxR B2 L2 a2 n2 c2 us2 w) (hB:B<=B2) (hBw:B<=w.heap.size) (hlt:∀ g,PlB (.slice a n c) us g->g<B2)
 {a':Option Addr} {c':Nat} {w5:World} (ho5:Own w5 33 2 (.slice a' (n+n2) c') (n+n2) (plC us++plC us2)) (hb5:But (fun b=>(Value.slice a n c).ownBlock=some b) w w5) (hg5:∀ g,(Value.slice a' (n+n2) c').ownBlock=some g->(Value.slice a n c).ownBlock=some g\/g=w.heap.size) :
 NxR B (L++L2) a' (n+n2) c' (us++us2) w5:=by
 have hr:=h.rd.cat h2.rd hB hBw ho5 hb5 hg5
 have hul:=h.rd.ul
 refine ⟨hr.len,⟨by rw [hr.ul];exact hr.own,by rw [hr.ul,List.length_map,hr.len],fun i u x hu hx=>?_,fun i j u u' hij hu hu' g=>?_⟩,hr.new⟩
 ·rw [List.getElem?_map,Option.map_eq_some_iff] at hx
  obtain ⟨l,hl,rfl⟩:=hx
  have hp:=hr.each i u l hu hl
  have lM:(plX l).1.length=l.length:=by simp [plX,logM]
  have lP:(plX l).2.length=l.length:=by simp [plX,logP]
  rw [lM,lP];exact hp
 ·rcases Nat.lt_or_ge i n with hi | hi <;> rcases Nat.lt_or_ge j n with hj | hj
  ·rw [List.getElem?_append_left (by rw [hul];exact hi)] at hu
   rw [List.getElem?_append_left (by rw [hul];exact hj)] at hu'
   exact h.pls.apart i j u u' hij hu hu' g
  ·rw [List.getElem?_append_left (by rw [hul];exact hi)] at hu
   rw [List.getElem?_append_right (by rw [hul];exact hj)] at hu'
   have m1:=List.mem_of_getElem? hu;have m2:=List.mem_of_getElem? hu'
   refine ⟨fun e e'=>?_,fun e e'=>?_⟩
   ·have h1:=hlt g (.inr ⟨u,m1,.inl e⟩);have h3:=h2.new g (.inr ⟨u',m2,.inl e'⟩);omega
   ·have h1:=hlt g (.inr ⟨u,m1,.inr e⟩);have h3:=h2.new g (.inr ⟨u',m2,.inr e'⟩);omega
  ·rw [List.getElem?_append_right (by rw [hul];exact hi)] at hu
   rw [List.getElem?_append_left (by rw [hul];exact hj)] at hu'
   have m1:=List.mem_of_getElem? hu;have m2:=List.mem_of_getElem? hu'
   refine ⟨fun e e'=>?_,fun e e'=>?_⟩
   ·have h1:=hlt g (.inr ⟨u',m2,.inl e'⟩);have h3:=h2.new g (.inr ⟨u,m1,.inl e⟩);omega
   ·have h1:=hlt g (.inr ⟨u',m2,.inr e'⟩);have h3:=h2.new g (.inr ⟨u,m1,.inr e⟩);omega
  ·rw [List.getElem?_append_right (by rw [hul];exact hi)] at hu
   rw [List.getElem?_append_right (by rw [hul];exact hj)] at hu'
   exact h2.pls.apart _ _ u u' (by omega) hu hu' g
theorem NxR.lt {B:Nat} {L:List Pl} {a:Option Addr} {n c:Nat} {us:List (Value×Value)} {w:World} (h:NxR B L a n c us w):∀ g,PlB (.slice a n c) us g->g<w.heap.size:=fun g hg=>h.pls.lt hg
theorem NxR.off {B:Nat} {L:List Pl} {a:Option Addr} {n c:Nat} {us:List (Value×Value)} {w w':World} (h:NxR B L a n c us w) {v:Value} {m:Nat} {xs:List Value} (ho:Own w 33 2 v m xs) (hb:But (fun b=>v.ownBlock=some b) w w') (hn:∀ g,(Value.slice a n c).ownBlock=some g->v.ownBlock≠some g):NxR B L a n c us w' :=
 ⟨h.len,PlsG.but h.pls hb fun g hg e=>by
  rcases hg with hg | ⟨u,hu,hg⟩
  ·exact hn g hg e
  ·obtain ⟨i,x,h1,h2⟩:=h.pls.mem hu
   obtain ⟨k1,k2⟩:=h.pls.each i u x h1 h2
   rcases hg with hg | hg
   ·exact k1.unlikeG ho str_play hg e
   ·exact k2.unlikeG ho int_play hg e,h.new⟩
set_option maxRecDepth 100000 in
theorem specStrategyPlays_any (s text:Bs) (n:Int) (w:World) (hs:Lim s.length) (ht:Lim text.length) :
 Calls Tryz.prog 28 #[str s,str text,.int .i64 n] w (PlaysQ (playsOf s text n) w):=by
 have C:=Lib.hid (l3Strategy_any s text hs ht w)
 clear hs ht
 go_enter Tryz.func28,Tryz.ntmps28
 go_wp2_with fail
 (with_reducible refine C.out.mono ?_)
 rintro en w1 ⟨ta,tc,s',v',a2,n2,c2,a3,n3,c3,rfl,hb1,hrt,hrb⟩
 have HGD:=Lib.hid (fun b (h:specStrat s text=some b)=>(specStrat_good h).1)
 have HNO:=Lib.hid (fun (h:specStrat s text=none)=>plays_no h n)
 have HOFF:=Lib.hid (fun b (h:specStrat s text=some b) (h0:n<0\/8<n)=>plays_off h h0)
 have HOVER:=Lib.hid (fun b (h:specStrat s text=some b) (h0:¬ n<0) (h8:¬ 8<n) r k hr hk=>plays_over h h0 h8 (r:=r) (k:=k) hr hk)
 have HDONE:=Lib.hid (fun b (h:specStrat s text=some b) (h0:¬ n<0) (h8:¬ 8<n) r hr hk=>plays_done h h0 h8 (r:=r) hr hk)
 generalize hT:(specType s).1=t at *
 obtain ⟨so,hso⟩:=zzM (specStrat s text)
 rw [<- hso] at hrb HGD HNO HOFF HOVER HDONE ⊢
 clear hso C hT
 obtain ⟨X,hX,hbX,hzX,x0,x1⟩:=boxes_2 w1 (.cells #[.slice ta t.args.length tc] 78) (.cells #[str s',.int .i64 v',.slice a2 n2 c2,.slice a3 n3 c3] 81)
 have hwX:Below w.heap.size w X:=zzT hb1 hbX
 have hrt2:Rep (fun _=>True) X (encS t) (.slice ta t.args.length tc):=(Rep.keep fun i o _ ho=>⟨trivial,by rw [hbX.block i (lt_of_heap ho)];exact ho⟩).1 _ _ hrt
 have hrb2:∀ b,so=some b->Reps (fun _=>True) X (encN b) [str s',.int .i64 v',.slice a2 n2 c2,.slice a3 n3 c3]:=fun b h=>(Rep.keep fun i o _ ho=>⟨trivial,by rw [hbX.block i (lt_of_heap ho)];exact ho⟩).2 _ _ (hrb b h)
 have t0:=one_cell x0
 obtain ⟨m0,m1,m2,m3⟩:=cells_4 x1
 have HX:=Lib.hid (And.intro hX (And.intro hwX (And.intro hrt2 (And.intro x0 x1))))
 have HRB:=Lib.hid hrb2
 clear hX hbX hzX x0 x1 hwX hrt hrb hrt2 hrb2 hb1
 go_upto_region 2 with (fail)
 rw [HX.out.1]
 cases so with
 | none =>
   have E:=Lib.hid (HNO.out rfl)
   clear HNO HRB HGD HOFF HOVER HDONE
   go_wp2_with fail
   go_ret2
   rw [E.out]
   exact ⟨_,_,_,[],rfl,HX.out.2.1.trans (((Below.refl _ _).alloc (Nat.le_refl _) _).mono HX.out.2.1.size),NxR.empty _ _ HX.out.2.1.size⟩
 | some b =>
   have hgd:=HGD.out b rfl
   have CI:=Lib.hid (fun (x:World)=>l6In_any n 0 8 x)
   by_cases h0:n<0\/8<n
   ·have E:=Lib.hid (HOFF.out b rfl h0)
    have hd:(decide ((0:Int)<=n) && decide (n<=8))=false:=by
     rw [Bool.and_eq_false_iff,decide_eq_false_iff_not,decide_eq_false_iff_not];omega
    have HD:=Lib.hid hd
    clear HNO HRB HGD HOFF HOVER HDONE hgd h0 hd
    go_wp2_with fail
    (with_reducible refine (CI.out _).mono ?_)
    rintro en y1 ⟨rfl,e⟩
    subst y1
    rw [HD.out]
    go_wp2_with fail
    go_ret2
    rw [E.out]
    exact ⟨_,_,_,[],rfl,HX.out.2.1.trans (((Below.refl _ _).alloc (Nat.le_refl _) _).mono HX.out.2.1.size),NxR.empty _ _ HX.out.2.1.size⟩
   have h0':¬ n<0:=by omega
   have h8':¬ 8<n:=by omega
   obtain ⟨N,rfl⟩:∃ N:Nat,n=(N:Int):=⟨n.toNat,by omega⟩
   have hN8:N<=8:=by omega
   have hd:(decide ((0:Int)<=(N:Int)) && decide ((N:Int)<=8))=true:=by
    rw [Bool.and_eq_true,decide_eq_true_eq,decide_eq_true_eq];omega
   have HD:=Lib.hid hd
   have HFAIL:Hid (∀ r k,r+1<=(N+1) / 2->300<(outAt t b r).length+(((prevAt t b r).take k).flatMap (fAt t b r)).length->playsOf s text (N:Int)=none):=Lib.hid (fun r k h1 h2=>HOVER.out b rfl (by omega) (by omega) r k (by rw [Int.toNat_natCast];exact h1) h2)
   have HDN:Hid (∀ r,r=(N+1) / 2->(outAt t b r).length<=300->playsOf s text (N:Int)=some (outAt t b r)):=Lib.hid (fun r h1 h2=>HDONE.out b rfl (by omega) (by omega) r (by rw [Int.toNat_natCast];exact h1) h2)
   have HG:=Lib.hid hgd
   have HRN:=Lib.hid (HRB.out b rfl)
   have HIN:=Lib.hid (fun r (hr:r<=20) u (hu:u∈prevAt t b r)=>prev_in hgd.atoms hgd.fit hgd.wf r hr u hu)
   have HLA:=Lib.hid (fun r (hr:r<=20) u (hu:u∈lastAt t b r)=>last_in hgd.atoms hgd.fit hgd.wf r hr u hu)
   clear HNO HRB HGD HOFF HOVER HDONE hgd h0 h0' h8' hd
   go_wp2_with fail
   (with_reducible refine (CI.out _).mono ?_)
   rintro en y1 ⟨rfl,e⟩
   subst y1
   rw [HD.out]
   clear CI HD
   obtain ⟨Y,hY⟩:=zzN ((((X.alloc (.cells #[] 9)).alloc (.cells #[] 3)).alloc (.cells #[.slice (some ⟨X.heap.size,0,none⟩) 0 0,.slice (some ⟨X.heap.size+1,0,none⟩) 0 0] 33)).alloc (.cells #[] 33))
   have z1:=(Below.refl X.heap.size X).alloc (Nat.le_refl _) (.cells #[] 9)
   have z2:=z1.alloc z1.size (.cells #[] 3)
   have z3:=z2.alloc z2.size (.cells #[.slice (some ⟨X.heap.size,0,none⟩) 0 0,.slice (some ⟨X.heap.size+1,0,none⟩) 0 0] 33)
   have z4:=z3.alloc z3.size (.cells #[] 33)
   have hO0:NxR X.heap.size (outAt t b 0) (some ⟨X.heap.size+1+1,0,none⟩) 1 1 [(.slice (some ⟨X.heap.size,0,none⟩) 0 0,.slice (some ⟨X.heap.size+1,0,none⟩) 0 0)] Y:=by
    rw [<- hY]
    have p1:PlayAt ((X.alloc (.cells #[] 9)).alloc (.cells #[] 3)) [] (.slice (some ⟨X.heap.size,0,none⟩) 0 0) (.slice (some ⟨X.heap.size+1,0,none⟩) 0 0) :=
     ⟨(Own.litAt #[] 0 _ rfl (by unfold maxLen;omega) rfl).alloc _,Own.litAt #[] 0 _ (by rw [size_alloc]) (by unfold maxLen;omega) rfl⟩
    have:=NxR.add (NxR.nil X.heap.size X) z2 (Nat.le_refl _) p1 (fun g hg=>by rcases hg with hg | hg <;> simp [Value.ownBlock] at hg <;> omega) (a':=some ⟨X.heap.size+1+1,0,none⟩) (c':=1)
     (w5:=((X.alloc (.cells #[] 9)).alloc (.cells #[] 3)).alloc (.cells #[.slice (some ⟨X.heap.size,0,none⟩) 0 0,.slice (some ⟨X.heap.size+1,0,none⟩) 0 0] 33))
     (Own.litAt #[.slice (some ⟨X.heap.size,0,none⟩) 0 0,.slice (some ⟨X.heap.size+1,0,none⟩) 0 0] 1 _ (by rw [size_alloc,size_alloc]) (by unfold maxLen;omega) rfl)
     (But.ofBelow ((Below.refl _ _).alloc (Nat.le_refl _) _)) (fun g hg=>.inr (by simp [Value.ownBlock] at hg;rw [size_alloc,size_alloc];omega))
    exact this.below ((Below.refl _ _).alloc (Nat.le_refl _) _)
   have hbY:Below X.heap.size X Y:=by rw [<- hY];exact z4
   have HY:=Lib.hid (And.intro hY (And.intro hbY hO0))
   have KEY:=Lib.hid (fun (y:World) (hy:Below X.heap.size X y)=>(show y.cell? ⟨w1.heap.size,0,none⟩=some (.slice ta t.args.length tc)/\y.cell? ⟨w1.heap.size+1,0,none⟩=some (str s')/\y.cell? ⟨w1.heap.size+1,1,none⟩=some (.int .i64 v')/\y.cell? ⟨w1.heap.size+1,2,none⟩=some (.slice a2 n2 c2)/\y.cell? ⟨w1.heap.size+1,3,none⟩=some (.slice a3 n3 c3) from by
    have hk:∀ (a:Addr) (u:Value),X.cell? a=some u->y.cell? a=some u:=fun a u h=>(hy.cell (World.block_lt_of_cell? _ _ h)).trans h
    exact ⟨hk _ _ t0,hk _ _ m0,hk _ _ m1,hk _ _ m2,hk _ _ m3⟩))
   have CN:=Lib.hid (fun (y:World) (hy:Below X.heap.size X y) (l:Pl) (mv pt:Value) (hp:PlayAt y l mv pt) (hl:InPl t b l) (h60:l.length<60)=>l2Next_any (fun _=>True) t l (.slice ta t.args.length tc) mv pt y (Rep.below hy (fun _ h=>h) HX.out.2.2.1) ⟨(hp.mv fun _ _=>trivial).1,(hp.mv fun _ _=>trivial).2,hl.ok,legPl_lim HG.out.atoms hl.ok⟩ HG.out.atoms hl.lg h60)
   clear hY z1 z2 z3 z4 hO0 hbY
   go_upto_region 6 with (fail)
   rw [HY.out.1]
   by_cases hN0:N=0
   ·have hNI:¬ (0:Int)<(N:Int):=by omega
    have hNI2:¬ (3:Int)<=(N:Int):=by omega
    have E:=Lib.hid (HDN.out 0 (by omega) (by show 1<=300;omega))
    clear hN0 KEY CN HFAIL HDN
    go_wp2_with fail
    go_loopw [11,13] (fun o x wr=>o=.slice (some ⟨X.heap.size+1+1,0,none⟩) 1 1/\x=.int .i64 3/\wr=Y) (fun _ _ _=>0)
    case atStart=>exact ⟨rfl,rfl,rfl⟩
    case round =>
     obtain ⟨rfl,rfl,rfl⟩:=hrel
     go_wp2_with fail
     go_ret2
     rw [E.out]
     exact ⟨_,_,_,_,rfl,zzT HX.out.2.1 HY.out.2.1,HY.out.2.2.mono HX.out.2.1.size⟩
   have hNI:(0:Int)<(N:Int):=by omega
   obtain ⟨gA,eA,ka1,ka2⟩:=HY.out.2.2.rd.cells (i:=0) rfl
   simp only [Option.some.injEq,Addr.mk.injEq,and_true] at eA
   obtain rfl:=eA
   rw [Nat.zero_mul] at ka1 ka2
   rw [Nat.zero_add] at ka2
   have hp0:PlayAt Y [] (.slice (some ⟨X.heap.size,0,none⟩) 0 0) (.slice (some ⟨X.heap.size+1,0,none⟩) 0 0):=HY.out.2.2.rd.each 0 _ [] rfl rfl
   have C7:=Lib.hid (fun (y:World) (hy:Below Y.heap.size Y y)=>CN.out y (zzT HY.out.2.1 hy) [] _ _ (hp0.below hy) (in_nil t b) (by simp))
   have KEY7:=Lib.hid (fun (y:World) (hy:Below Y.heap.size Y y)=>(show y.cell? ⟨w1.heap.size,0,none⟩=some (.slice ta t.args.length tc)/\y.cell? ⟨X.heap.size+1+1,0,none⟩=some (.slice (some ⟨X.heap.size,0,none⟩) 0 0)/\y.cell? ⟨X.heap.size+1+1,1,none⟩=some (.slice (some ⟨X.heap.size+1,0,none⟩) 0 0) from
    ⟨(KEY.out y (zzT HY.out.2.1 hy)).1,(hy.cell (World.block_lt_of_cell? _ _ ka1)).trans ka1,(hy.cell (World.block_lt_of_cell? _ _ ka2)).trans ka2⟩))
   clear ka1 ka2 hp0
   go_upto_region 7 with (fail)
   refine wp_region_noPanic ?_
   refine wp_region_S (fun w'=>Below Y.heap.size Y w') (fun _=>false) (by kernel_rfl) ?_
   have hSd:(fun w'=>Below Y.heap.size Y w') Y.drew:=Below.drew (Below.refl _ _)
   refine wpAnyS_take 0 (v:=?_) (by kernel_rfl) (by kernel_rfl) (by kernel_rfl) (by kernel_rfl) (fun _ _ _ _ h=>h) hSd ?_ ?_
   rotate_left
   ·(intro oi ho;simp at ho;subst ho;refine Or.inl ⟨by rfl,fun w' hw'=>?_⟩;obtain ⟨e0,e1,e2⟩:=KEY7.out w' hw';go_simp;try with_reducible rfl)
   (intro d hd;simp at hd;subst hd;simp only [Act.put,List.setIfInBounds_toArray,List.set_cons_zero,List.set_cons_succ])
   refine wpAnyS_take 1 (v:=?_) (by kernel_rfl) (by kernel_rfl) (by kernel_rfl) (by kernel_rfl) (fun _ _ _ _ h=>h) hSd ?_ ?_
   rotate_left
   ·(intro oi ho;simp at ho;subst ho;refine Or.inl ⟨by rfl,fun w' hw'=>?_⟩;go_simp;try with_reducible rfl)
   (intro d hd;simp at hd;subst hd;simp only [Act.put,List.setIfInBounds_toArray,List.set_cons_zero,List.set_cons_succ])
   refine wpAnyS_take 2 (v:=?_) (by kernel_rfl) (by kernel_rfl) (by kernel_rfl) (by kernel_rfl) (fun _ _ _ _ h=>h) hSd ?_ ?_
   rotate_left
   ·(intro oi ho;simp at ho;subst ho;refine Or.inl ⟨by rfl,fun w' hw'=>?_⟩;go_simp;try with_reducible rfl)
   (intro d hd;simp at hd;subst hd;simp only [Act.put,List.setIfInBounds_toArray,List.set_cons_zero,List.set_cons_succ])
   refine wpAnyS_take 3 (v:=?_) (by kernel_rfl) (by kernel_rfl) (by kernel_rfl) (by kernel_rfl) (fun _ _ _ _ h=>h) hSd ?_ ?_
   rotate_left
   ·(intro oi ho;simp at ho;subst ho;refine Or.inl ⟨by rfl,fun w' hw'=>?_⟩;obtain ⟨e0,e1,e2⟩:=KEY7.out w' hw';go_simp;try with_reducible rfl)
   (intro d hd;simp at hd;subst hd;simp only [Act.put,List.setIfInBounds_toArray,List.set_cons_zero,List.set_cons_succ])
   refine wpAnyS_one 4 (by kernel_rfl) ?_
   (intro o4 ho K' hK;simp at ho;subst ho)
   go_simp
   go_at_call 75
   (with_reducible refine (C7.out _ hSd).mono ?_)
   rintro en x4 ⟨a6,m6,c6,us6,rfl,hb4,hN4'⟩
   have hB4:Below Y.heap.size Y x4:=Below.trans hSd (hb4.mono (Below.size hSd))
   have hN4:=hN4'.mono (Below.size hSd)
   clear hN4'
   refine hK.out _ _ ?_ ?_
   ·exact fun _=>hB4
   clear hK K'
   (try simp only [Act.put,List.setIfInBounds_toArray,List.set_cons_zero,List.set_cons_succ])
   have hS4:=hB4
   refine wpAnyS_take 5 (v:=?_) (by kernel_rfl) (by kernel_rfl) (by kernel_rfl) (by kernel_rfl) (fun _ _ _ _ h=>h) hS4 ?_ ?_
   rotate_left
   ·(intro oi ho;simp at ho;subst ho;refine Or.inl ⟨by rfl,fun w' hw'=>?_⟩;go_simp;try with_reducible rfl)
   (intro d hd;simp at hd;subst hd;simp only [Act.put,List.setIfInBounds_toArray,List.set_cons_zero,List.set_cons_succ])
   refine wpAnyS_done (by kernel_rfl) (NoPanic.normal ?_) _
   have hm6:m6=1:=by have:=hN4.len;rw [<- this];rfl
   have hm300:m6<=300:=by omega
   have HM6:=Lib.hid hm6
   have H7:=Lib.hid (And.intro hB4 hN4)
   clear hm6
   clear hSd hS4 hB4 hb4 hN4 C7 KEY7
   go_wp2_with (at_builtin;refine wpList_append_gen rfl _ _ 26 rfl 33 (.agg #[.slice none 0 0,.slice none 0 0]) 2 48 Tryz.underlying26 Tryz.infoPlay rfl (by decide) (.slice (some ⟨X.heap.size+1+1,0,none⟩) 1 1) 1 (plC [(.slice (some ⟨X.heap.size,0,none⟩) 0 0,.slice (some ⟨X.heap.size+1,0,none⟩) 0 0)]) rfl ?c1 (.slice a6 m6 c6) m6 (plC us6) rfl ?c2 ?c3 ?c4 ?_)
   case c1=>exact (HY.out.2.2.below H7.out.1).own
   case c2=>exact SrcSl.ofOwn H7.out.2.own H7.out.2.rd.one
   case c3=>unfold maxLen;omega
   case c4=>omega
   intro a7 c7 w7 ho7 hb7 hg7
   have hm6:=HM6.out
   have hR7:=(HY.out.2.2.below H7.out.1).cat H7.out.2 HY.out.2.1.size (Nat.le_trans HY.out.2.1.size H7.out.1.size) HY.out.2.2.lt ho7 hb7 hg7
   have hlt1:∀ g,(Value.slice (some ⟨X.heap.size+1+1,0,none⟩) 1 1).ownBlock=some g->g<Y.heap.size:=fun g hg=>HY.out.2.2.lt g (.inl hg)
   have hN7:=(H7.out.2.off (HY.out.2.2.below H7.out.1).own hb7 fun g hg e=>by have h1:=hlt1 g e;have h2:=H7.out.2.new g (.inl hg);omega).mono HY.out.2.1.size
   have hB7:Below X.heap.size X w7:=(zzT HY.out.2.1 H7.out.1).trans (hb7.toBelow (Nat.le_trans HY.out.2.1.size H7.out.1.size) fun g hg e=>by have:=HY.out.2.2.new g (.inl e);omega)
   obtain ⟨M0,hM0⟩:=zzN (1+m6)
   rw [hM0] at hR7 ⊢
   have H0:=Lib.hid (And.intro hB7 (And.intro hR7 hN7))
   have hM300:M0<=300:=by omega
   have HN1:=Lib.hid (show 1<=(N+1) / 2 by omega)
   clear ho7 hb7 hg7 hm6 hR7 hN7 hlt1 hB7 hM0 hN0
   go_wp2_with fail
   go_loopw [11,12,13] (fun o l x wr=>∃ (r n1 c1:Nat) (a1:Option Addr) (us1:List (Value×Value)) (m2 d2:Nat) (e2:Option Addr) (us2:List (Value×Value)) (wz:World),wz=wr/\1<=r/\r<=(N+1) / 2/\x=.int .i64 ((2*r+1:Nat):Int)/\o=.slice a1 n1 c1/\l=.slice e2 m2 d2/\n1<=300/\m2<=300/\Below X.heap.size X wz/\NxR X.heap.size (outAt t b r) a1 n1 c1 us1 wz/\NxR X.heap.size (prevAt t b r) e2 m2 d2 us2 wz) (fun _ _ x _=>40-(intOf x).toNat)
   case atStart=>exact ⟨1,M0,c7,a7,_,m6,c6,a6,_,_,rfl,Nat.le_refl _,HN1.out,rfl,rfl,rfl,by omega,by omega,H0.out.1,H0.out.2.1,H0.out.2.2⟩
   case round =>
    obtain ⟨r,n1,c1,a1,us1,m2,d2,e2,us2,wr,rfl,hr1,hr,rfl,rfl,rfl,hn1,hn2,hB,hO,hP⟩:=hrel
    have HO:=Lib.hid (And.intro hr (And.intro hn1 (And.intro hB (And.intro hO hP))))
    have hr4:r<=4:=by omega
    clear hB hO hP
    by_cases hlt:2*r+1<=N
    ·have hltI:((2*r+1:Nat):Int)<=(N:Int):=by omega
     obtain ⟨Z,hZ⟩:=zzN (2*r+1)
     rw [hZ] at hltI ⊢
     have HZ:=Lib.hid hZ
     have hr1':=Lib.hid (show r+1<=(N+1) / 2 by omega)
     obtain ⟨V,hV,hbV,hzV,xV⟩:=box_1 wr (.cells #[] 33)
     have hNV:=NxR.empty wr.heap.size wr (Nat.le_refl _)
     rw [hV] at hNV
     have HV:=Lib.hid (And.intro hV (And.intro hbV hNV))
     clear hZ hr hV hbV hzV xV hNV
     go_upto_region 13 with (fail)
     rw [HV.out.1]
     go_wp2_with fail
     go_loopw [14,15] (fun o x wr'=>∃ (j m c3:Nat) (a3:Option Addr) (us3:List (Value×Value)) (wz:World),wz=wr'/\j<=m2/\x=.int .i64 j/\o=.slice a3 m c3/\m<=j*200/\Below wr.heap.size wr wz/\NxR wr.heap.size (((prevAt t b r).take j).flatMap (fAt t b r)) a3 m c3 us3 wz) (fun _ x _=>m2-(intOf x).toNat)
     case atStart=>exact ⟨0,0,0,_,[],_,rfl,Nat.zero_le _,rfl,rfl,by omega,HV.out.2.1,by rw [List.take_zero];exact HV.out.2.2⟩
     case round =>
      obtain ⟨j,m,q3,p3,us3,wq,rfl,hj,rfl,rfl,hnm,hBq,hRq⟩:=hrel
      have HQ:=Lib.hid (And.intro hBq hRq)
      have hPq:=HO.out.2.2.2.2.below hBq
      clear hRq hBq
      by_cases hjt:j<m2
      ·have hjI:(j:Int)<(m2:Int):=by omega
       obtain ⟨u,l,hu,hl,hpl⟩:=hPq.rd.at hjt
       obtain ⟨g,rfl,k1,k2⟩:=hPq.rd.cells hu
       obtain ⟨lv,lc,e1⟩:=hpl.1.slice
       obtain ⟨lp,ld,e2⟩:=hpl.2.slice
       obtain ⟨hin,hcs⟩:=HIN.out r (by omega) l (List.mem_of_getElem? hl)
       have hll:l.length+1=2*r:=by rcases hcs with h | h <;> omega
       have HNXT:=Lib.hid (flat_next hl)
       rw [e1] at k1 hpl;rw [e2] at k2 hpl
       obtain ⟨st,hand,hst,hfit⟩:=place_fits HG.out.atoms HG.out.fit HG.out.wf hin.ok (l.length-1) (by omega) (by omega) (fun i hi ho=>hin.fo i (by omega) ho)
       have hBX:=zzT HO.out.2.2.1 HQ.out.1
       have CRP:=Lib.hid (fun (y:World) (hy:Below wq.heap.size wq y)=>(show Calls Tryz.prog 76 #[.agg #[.slice ta t.args.length tc],.agg #[str s',.int .i64 v',.slice a2 n2 c2,.slice a3 n3 c3],.agg #[.slice lv l.length lc,.slice lp l.length ld]] y _ from
        l3Reply_any (fun _=>True) t b l (l.length-1) st (.slice ta t.args.length tc) (.slice lv l.length lc) (.slice lp l.length ld) [str s',.int .i64 v',.slice a2 n2 c2,.slice a3 n3 c3] y (Rep.below (zzT hBX hy) (fun _ h=>h) HX.out.2.2.1) ((Rep.keep fun i o hi ho=>⟨hi,by rw [(zzT hBX hy).block i (lt_of_heap ho)];exact ho⟩).2 _ _ HRN.out)
         ⟨((hpl.below hy).mv fun _ _=>trivial).1,((hpl.below hy).mv fun _ _=>trivial).2,hin.ok,legPl_lim HG.out.atoms hin.ok⟩ HG.out.atoms HG.out.fit HG.out.wf (by omega) (by omega) (fun i hi ho=>hin.fo i (by omega) ho) hst))
       unfold ReplyQ at CRP
       have KEY16:=Lib.hid (fun (y:World) (hy:Below wq.heap.size wq y)=>(show (y.cell? ⟨w1.heap.size,0,none⟩=some (.slice ta t.args.length tc)/\y.cell? ⟨w1.heap.size+1,0,none⟩=some (str s')/\y.cell? ⟨w1.heap.size+1,1,none⟩=some (.int .i64 v')/\y.cell? ⟨w1.heap.size+1,2,none⟩=some (.slice a2 n2 c2)/\y.cell? ⟨w1.heap.size+1,3,none⟩=some (.slice a3 n3 c3))/\y.cell? ⟨g,j*2,none⟩=some (.slice lv l.length lc)/\y.cell? ⟨g,j*2+1,none⟩=some (.slice lp l.length ld) from
        ⟨KEY.out y (zzT hBX hy),(hy.cell (World.block_lt_of_cell? _ _ k1)).trans k1,(hy.cell (World.block_lt_of_cell? _ _ k2)).trans k2⟩))
       have HRA:replyAt t b l l.length=told st:=by unfold replyAt;rw [show l.length=l.length-1+1 from by omega,hst];rfl
       have hrl:=fun x (hx:told st=some x)=>reply_legal HG.out.atoms HG.out.fit HG.out.wf hin (by omega) (by omega) (HRA.trans hx)
       have HRT:Hid (told st=none/\fAt t b r l=[]\/∃ x,told st=some x/\fAt t b r l=nextL t (l++[x])/\InPl t b (l++[x])):=Lib.hid (by
        unfold fAt stepL
        rw [if_neg (by omega)]
        unfold replyTo
        rw [if_neg (by omega),HRA]
        cases hx:told st with
        | none=>exact .inl ⟨rfl,rfl⟩
        | some x=>exact .inr ⟨x,rfl,rfl,hrl x hx⟩)
       have HLL:=Lib.hid (show l.length<=7 by omega)
       clear hPq hu hl hpl e1 e2 hin hcs hll k1 k2 hst hfit hBX HRA hrl
       obtain ⟨o,ho⟩:=zzN (told st)
       rw [ho] at CRP HRT
       clear ho
       rcases HRT.out with ⟨ho,hf⟩ | ⟨xq,ho,hf,hin⟩
       ·subst ho
        have HNX:=Lib.hid (show ((prevAt t b r).take (j+1)).flatMap (fAt t b r)=((prevAt t b r).take j).flatMap (fAt t b r) by rw [HNXT.out,hf,List.append_nil])
        clear hf HRT HNXT
        go_upto_region 16 with (fail)
        refine cut_code (X:=Option Addr×Nat×Nat×Option Addr×Nat×Nat×Nat) (fun zz x=>((((((((((((zz.put (some 61) (.agg #[.slice ta t.args.length tc])).put (some 62) (.agg #[str s',.int .i64 v',.slice a2 n2 c2,.slice a3 n3 c3])).put (some 63) (.slice (some ⟨g,0,none⟩) m2 d2)).put (some 64) (.int .i64 (j:Nat))).put (some 65) (.pointer (some ⟨g,j*2,none⟩))).put (some 66) (.agg #[.slice lv l.length lc,.slice lp l.length ld])).put (some 67) (.tuple #[.agg #[.slice x.1 x.2.1 x.2.2.1,.slice x.2.2.2.1 x.2.2.2.2.1 x.2.2.2.2.2.1],.bool false])).put (some 60) (.tuple #[.agg #[.slice x.1 x.2.1 x.2.2.1,.slice x.2.2.2.1 x.2.2.2.2.1 x.2.2.2.2.2.1],.bool false])).put (some 68) (.agg #[.slice x.1 x.2.1 x.2.2.1,.slice x.2.2.2.1 x.2.2.2.2.1 x.2.2.2.2.2.1])).put (some 69) (.bool false)).put (some 16) (.pointer (some ⟨x.2.2.2.2.2.2,0,none⟩))).put (some 17) (.bool false))) (fun x w7=>Below wq.heap.size wq w7) ?_ ?_
        ·refine wp_region_noPanic ?_
         refine wp_region_S (fun w'=>Below wq.heap.size wq w') (fun _=>false) (by kernel_rfl) ?_
         obtain ⟨y0,hy0⟩:=zzN (wq.drew)
         rw [hy0]
         have hBy0:Below wq.heap.size wq y0:=by rw [<- hy0];exact Below.drew (Below.refl _ _)
         obtain ⟨tg0,htg0⟩:∃ x:Nat->Nat,x=fun _=>0:=⟨_,rfl⟩
         clear hy0 htg0
         refine wpAnyS_take 0 (v:=?_) (by kernel_rfl) (by kernel_rfl) (by kernel_rfl) (by kernel_rfl) (fun _ _ _ _ h=>h) hBy0 ?_ ?_
         rotate_left
         ·(intro oi ho;simp at ho;subst ho;refine Or.inl ⟨by rfl,fun w' hw'=>?_⟩;obtain ⟨⟨e0,e1,e2,e3,e4⟩,e5,e6⟩:=KEY16.out w' hw';go_simp;try with_reducible rfl)
         (intro d hd;simp at hd;subst hd;simp only [Act.put,List.setIfInBounds_toArray,List.set_cons_zero,List.set_cons_succ])
         refine wpAnyS_take 1 (v:=?_) (by kernel_rfl) (by kernel_rfl) (by kernel_rfl) (by kernel_rfl) (fun _ _ _ _ h=>h) hBy0 ?_ ?_
         rotate_left
         ·(intro oi ho;simp at ho;subst ho;refine Or.inl ⟨by rfl,fun w' hw'=>?_⟩;obtain ⟨⟨e0,e1,e2,e3,e4⟩,e5,e6⟩:=KEY16.out w' hw';go_simp;try with_reducible rfl)
         (intro d hd;simp at hd;subst hd;simp only [Act.put,List.setIfInBounds_toArray,List.set_cons_zero,List.set_cons_succ])
         refine wpAnyS_take 2 (v:=?_) (by kernel_rfl) (by kernel_rfl) (by kernel_rfl) (by kernel_rfl) (fun _ _ _ _ h=>h) hBy0 ?_ ?_
         rotate_left
         ·(intro oi ho;simp at ho;subst ho;refine Or.inl ⟨by rfl,fun w' hw'=>?_⟩;go_simp;try with_reducible rfl)
         (intro d hd;simp at hd;subst hd;simp only [Act.put,List.setIfInBounds_toArray,List.set_cons_zero,List.set_cons_succ])
         refine wpAnyS_take 3 (v:=?_) (by kernel_rfl) (by kernel_rfl) (by kernel_rfl) (by kernel_rfl) (fun _ _ _ _ h=>h) hBy0 ?_ ?_
         rotate_left
         ·(intro oi ho;simp at ho;subst ho;refine Or.inl ⟨by rfl,fun w' hw'=>?_⟩;go_simp;try with_reducible rfl)
         (intro d hd;simp at hd;subst hd;simp only [Act.put,List.setIfInBounds_toArray,List.set_cons_zero,List.set_cons_succ])
         refine wpAnyS_take 4 (v:=?_) (by kernel_rfl) (by kernel_rfl) (by kernel_rfl) (by kernel_rfl) (fun _ _ _ _ h=>h) hBy0 ?_ ?_
         rotate_left
         ·(intro oi ho;simp at ho;subst ho;refine Or.inl ⟨by rfl,fun w' hw'=>?_⟩;go_simp;try with_reducible rfl)
         (intro d hd;simp at hd;subst hd;simp only [Act.put,List.setIfInBounds_toArray,List.set_cons_zero,List.set_cons_succ])
         refine wpAnyS_take 5 (v:=?_) (by kernel_rfl) (by kernel_rfl) (by kernel_rfl) (by kernel_rfl) (fun _ _ _ _ h=>h) hBy0 ?_ ?_
         rotate_left
         ·(intro oi ho;simp at ho;subst ho;refine Or.inl ⟨by rfl,fun w' hw'=>?_⟩;obtain ⟨⟨e0,e1,e2,e3,e4⟩,e5,e6⟩:=KEY16.out w' hw';go_simp;try with_reducible rfl)
         (intro d hd;simp at hd;subst hd;simp only [Act.put,List.setIfInBounds_toArray,List.set_cons_zero,List.set_cons_succ])
         refine wpAnyS_two 6 10 (by kernel_rfl) ?_ ?_
         ·(intro o6 ho K' hK;simp at ho;subst ho)
          go_simp
          go_at_call 76
          (with_reducible refine (CRP.out _ hBy0).mono ?_)
          rintro en y1 ⟨a8,n8,c8,a9,n9,c9,rfl,hb,hno,hsome⟩
          clear hno
          clear hsome
          have hBy1:Below wq.heap.size wq y1:=zzT hBy0 hb
          have hby1:=Lib.hid hb;clear hb
          refine hK.out _ _ (fun _=>?_) ?_
          ·exact hBy1
          clear hK K'
          (try simp only [Act.put,List.setIfInBounds_toArray,List.set_cons_zero,List.set_cons_succ])
          refine wpAnyS_take 7 (v:=?_) (by kernel_rfl) (by kernel_rfl) (by kernel_rfl) (by kernel_rfl) (fun _ _ _ _ h=>h) hBy1 ?_ ?_
          rotate_left
          ·(intro oi ho;simp at ho;subst ho;refine Or.inl ⟨by rfl,fun w' hw'=>?_⟩;go_simp;try with_reducible rfl)
          (intro d hd;simp at hd;subst hd;simp only [Act.put,List.setIfInBounds_toArray,List.set_cons_zero,List.set_cons_succ])
          refine wpAnyS_take 8 (v:=?_) (by kernel_rfl) (by kernel_rfl) (by kernel_rfl) (by kernel_rfl) (fun _ _ _ _ h=>h) hBy1 ?_ ?_
          rotate_left
          ·(intro oi ho;simp at ho;subst ho;refine Or.inl ⟨by rfl,fun w' hw'=>?_⟩;go_simp;try with_reducible rfl)
          (intro d hd;simp at hd;subst hd;simp only [Act.put,List.setIfInBounds_toArray,List.set_cons_zero,List.set_cons_succ])
          refine wpAnyS_take 9 (v:=?_) (by kernel_rfl) (by kernel_rfl) (by kernel_rfl) (by kernel_rfl) (fun _ _ _ _ h=>h) hBy1 ?_ ?_
          rotate_left
          ·(intro oi ho;simp at ho;subst ho;refine Or.inl ⟨by rfl,fun w' hw'=>?_⟩;go_simp;try with_reducible rfl)
          (intro d hd;simp at hd;subst hd;simp only [Act.put,List.setIfInBounds_toArray,List.set_cons_zero,List.set_cons_succ])
          refine wpAnyS_one 10 (by kernel_rfl) ?_
          (intro o10 ho K' hK;simp at ho;subst ho)
          go_simp
          refine hK.out _ _ (fun _=>?_) ?_
          ·exact hBy1.alloc hBy1.size _
          clear hK K'
          (try simp only [Act.put,List.setIfInBounds_toArray,List.set_cons_zero,List.set_cons_succ])
          obtain ⟨y2,hnew⟩:=zzN (y1.alloc (.cells #[.slice none 0 0,.slice none 0 0] 33))
          obtain ⟨gN,hgN⟩:=zzN (y1.heap.size)
          rw [hnew,hgN]
          have hBy2:Below wq.heap.size wq y2:=by rw [<- hnew];exact hBy1.alloc hBy1.size _
          obtain ⟨tg2,htg⟩:=zzN (retag tg0 gN 3)
          have EN:Hid (y2.heap[gN]? = some (.cells #[.slice none 0 0,.slice none 0 0] 33 (0,0))/\tg2 gN=3/\wq.heap.size<=gN):=by rw [<- hnew,<- htg,<- hgN];exact ⟨heap_new _ _,by unfold retag;rw [if_pos rfl],hBy1.size⟩
          clear hnew hgN htg
          refine wpAnyS_one 11 (by kernel_rfl) ?_
          (intro o11 ho K' hK;simp at ho;subst ho)
          obtain ⟨uN0,cN0⟩:∃ u,y2.cell? ⟨gN,0,none⟩=some u:=⟨_,by simp [World.cell?,EN.out.1];rfl⟩
          have fN0:y2.frozen? ⟨gN,0,none⟩=false:=by simp [World.frozen?,EN.out.1]
          obtain ⟨uN1,cN1⟩:∃ u,y2.cell? ⟨gN,1,none⟩=some u:=⟨_,by simp [World.cell?,EN.out.1];rfl⟩
          have fN1:y2.frozen? ⟨gN,1,none⟩=false:=by simp [World.frozen?,EN.out.1]
          go_simp
          refine hK.out _ _ (fun _=>?_) ?_
          ·exact ((hBy2.setCell (p:=⟨gN,0,none⟩) EN.out.2.2 _).setCell (p:=⟨gN,1,none⟩) EN.out.2.2 _)
          clear hK K'
          (try simp only [Act.put,List.setIfInBounds_toArray,List.set_cons_zero,List.set_cons_succ])
          obtain ⟨y3,hnew⟩:=zzN (((y2.setCell ⟨gN,0,none⟩ (.slice a8 n8 c8)).setCell ⟨gN,1,none⟩ (.slice a9 n9 c9)))
          rw [hnew]
          have hBy3:Below wq.heap.size wq y3:=by rw [<- hnew];exact ((hBy2.setCell (p:=⟨gN,0,none⟩) EN.out.2.2 _).setCell (p:=⟨gN,1,none⟩) EN.out.2.2 _)
          have hbt:But (fun i=>i=gN) y2 y3:=by rw [<- hnew];exact (((But.refl (fun i=>i=gN) y2).setCell (p:=⟨gN,0,none⟩) (.inl rfl) _).setCell (p:=⟨gN,1,none⟩) (.inl rfl) _)
          have htg:∀ g,g=gN->tg2 g=3:=fun g e=>by rw [e];exact EN.out.2.1
          have EN:Hid (y3.heap[gN]? = some (.cells #[.slice a8 n8 c8,.slice a9 n9 c9] 33 (0,0))/\tg2 gN=3/\wq.heap.size<=gN):=⟨by rw [<- hnew];exact (setCell_at' (setCell_at' EN.out.1)),EN.out.2⟩
          clear hnew hbt htg cN0 fN0 cN1 fN1
          refine wpAnyS_one 12 (by kernel_rfl) ?_
          (intro o12 ho K' hK;simp at ho;subst ho)
          go_simp
          refine hK.out _ _ (fun _=>?_) ?_
          ·exact hBy3
          clear hK K'
          (try simp only [Act.put,List.setIfInBounds_toArray,List.set_cons_zero,List.set_cons_succ])
          refine wpAnyS_done (by kernel_rfl) (NoPanic.normal ?_) _
          exact ⟨rfl,⟨a8,n8,c8,a9,n9,c9,gN⟩,by rfl,hBy3⟩
         ·(intro o10 ho K' hK;simp at ho;subst ho)
          go_simp
          refine hK.out _ _ (fun _=>?_) ?_
          ·exact hBy0.alloc hBy0.size _
          clear hK K'
          (try simp only [Act.put,List.setIfInBounds_toArray,List.set_cons_zero,List.set_cons_succ])
          obtain ⟨y5,hnew⟩:=zzN (y0.alloc (.cells #[.slice none 0 0,.slice none 0 0] 33))
          obtain ⟨gN,hgN⟩:=zzN (y0.heap.size)
          rw [hnew,hgN]
          have hBy5:Below wq.heap.size wq y5:=by rw [<- hnew];exact hBy0.alloc hBy0.size _
          obtain ⟨tg5,htg⟩:=zzN (retag tg0 gN 3)
          have EN:Hid (y5.heap[gN]? = some (.cells #[.slice none 0 0,.slice none 0 0] 33 (0,0))/\tg5 gN=3/\wq.heap.size<=gN):=by rw [<- hnew,<- htg,<- hgN];exact ⟨heap_new _ _,by unfold retag;rw [if_pos rfl],hBy0.size⟩
          clear hnew hgN htg
          refine wpAnyS_one 6 (by kernel_rfl) ?_
          (intro o6 ho K' hK;simp at ho;subst ho)
          go_simp
          go_at_call 76
          (with_reducible refine (CRP.out _ hBy5).mono ?_)
          rintro en y6 ⟨a8,n8,c8,a9,n9,c9,rfl,hb,hno,hsome⟩
          clear hno
          clear hsome
          have hBy6:Below wq.heap.size wq y6:=zzT hBy5 hb
          have EN:Hid (y6.heap[gN]? = some (.cells #[.slice none 0 0,.slice none 0 0] 33 (0,0))/\tg5 gN=3/\wq.heap.size<=gN):=⟨(hb.block _ (lt_of_heap EN.out.1)).trans EN.out.1,EN.out.2⟩
          have hby6:=Lib.hid hb;clear hb
          refine hK.out _ _ (fun _=>?_) ?_
          ·exact hBy6
          clear hK K'
          (try simp only [Act.put,List.setIfInBounds_toArray,List.set_cons_zero,List.set_cons_succ])
          refine wpAnyS_take 7 (v:=?_) (by kernel_rfl) (by kernel_rfl) (by kernel_rfl) (by kernel_rfl) (fun _ _ _ _ h=>h) hBy6 ?_ ?_
          rotate_left
          ·(intro oi ho;simp at ho;subst ho;refine Or.inl ⟨by rfl,fun w' hw'=>?_⟩;go_simp;try with_reducible rfl)
          (intro d hd;simp at hd;subst hd;simp only [Act.put,List.setIfInBounds_toArray,List.set_cons_zero,List.set_cons_succ])
          refine wpAnyS_take 8 (v:=?_) (by kernel_rfl) (by kernel_rfl) (by kernel_rfl) (by kernel_rfl) (fun _ _ _ _ h=>h) hBy6 ?_ ?_
          rotate_left
          ·(intro oi ho;simp at ho;subst ho;refine Or.inl ⟨by rfl,fun w' hw'=>?_⟩;go_simp;try with_reducible rfl)
          (intro d hd;simp at hd;subst hd;simp only [Act.put,List.setIfInBounds_toArray,List.set_cons_zero,List.set_cons_succ])
          refine wpAnyS_take 9 (v:=?_) (by kernel_rfl) (by kernel_rfl) (by kernel_rfl) (by kernel_rfl) (fun _ _ _ _ h=>h) hBy6 ?_ ?_
          rotate_left
          ·(intro oi ho;simp at ho;subst ho;refine Or.inl ⟨by rfl,fun w' hw'=>?_⟩;go_simp;try with_reducible rfl)
          (intro d hd;simp at hd;subst hd;simp only [Act.put,List.setIfInBounds_toArray,List.set_cons_zero,List.set_cons_succ])
          refine wpAnyS_one 11 (by kernel_rfl) ?_
          (intro o11 ho K' hK;simp at ho;subst ho)
          obtain ⟨uN0,cN0⟩:∃ u,y6.cell? ⟨gN,0,none⟩=some u:=⟨_,by simp [World.cell?,EN.out.1];rfl⟩
          have fN0:y6.frozen? ⟨gN,0,none⟩=false:=by simp [World.frozen?,EN.out.1]
          obtain ⟨uN1,cN1⟩:∃ u,y6.cell? ⟨gN,1,none⟩=some u:=⟨_,by simp [World.cell?,EN.out.1];rfl⟩
          have fN1:y6.frozen? ⟨gN,1,none⟩=false:=by simp [World.frozen?,EN.out.1]
          go_simp
          refine hK.out _ _ (fun _=>?_) ?_
          ·exact ((hBy6.setCell (p:=⟨gN,0,none⟩) EN.out.2.2 _).setCell (p:=⟨gN,1,none⟩) EN.out.2.2 _)
          clear hK K'
          (try simp only [Act.put,List.setIfInBounds_toArray,List.set_cons_zero,List.set_cons_succ])
          obtain ⟨y7,hnew⟩:=zzN (((y6.setCell ⟨gN,0,none⟩ (.slice a8 n8 c8)).setCell ⟨gN,1,none⟩ (.slice a9 n9 c9)))
          rw [hnew]
          have hBy7:Below wq.heap.size wq y7:=by rw [<- hnew];exact ((hBy6.setCell (p:=⟨gN,0,none⟩) EN.out.2.2 _).setCell (p:=⟨gN,1,none⟩) EN.out.2.2 _)
          have hbt:But (fun i=>i=gN) y6 y7:=by rw [<- hnew];exact (((But.refl (fun i=>i=gN) y6).setCell (p:=⟨gN,0,none⟩) (.inl rfl) _).setCell (p:=⟨gN,1,none⟩) (.inl rfl) _)
          have htg:∀ g,g=gN->tg5 g=3:=fun g e=>by rw [e];exact EN.out.2.1
          have EN:Hid (y7.heap[gN]? = some (.cells #[.slice a8 n8 c8,.slice a9 n9 c9] 33 (0,0))/\tg5 gN=3/\wq.heap.size<=gN):=⟨by rw [<- hnew];exact (setCell_at' (setCell_at' EN.out.1)),EN.out.2⟩
          clear hnew hbt htg cN0 fN0 cN1 fN1
          refine wpAnyS_one 12 (by kernel_rfl) ?_
          (intro o12 ho K' hK;simp at ho;subst ho)
          go_simp
          refine hK.out _ _ (fun _=>?_) ?_
          ·exact hBy7
          clear hK K'
          (try simp only [Act.put,List.setIfInBounds_toArray,List.set_cons_zero,List.set_cons_succ])
          refine wpAnyS_done (by kernel_rfl) (NoPanic.normal ?_) _
          exact ⟨rfl,⟨a8,n8,c8,a9,n9,c9,gN⟩,by rfl,hBy7⟩
        rintro ⟨a8,n8,c8,a9,n9,c9,gN⟩ w7 hbw7
        simp only [pQ,pN,pZ,pS]
        have H7:=Lib.hid hbw7
        clear hbw7 KEY16 CRP
        go_wp2_with fail
        go_roundw
        case rel=>exact ⟨j+1,m,q3,p3,us3,_,rfl,by omega,by go_num,rfl,by omega,zzT HQ.out.1 H7.out,by rw [HNX.out];exact HQ.out.2.below H7.out⟩
        case measure=>simp [intOf];omega
       ·subst ho
        have HNX:=Lib.hid (show ((prevAt t b r).take (j+1)).flatMap (fAt t b r)=((prevAt t b r).take j).flatMap (fAt t b r)++nextL t (l++[xq]) by rw [HNXT.out,hf])
        have HINX:=Lib.hid hin
        clear hf HRT HNXT hin
        go_upto_region 16 with (fail)
        refine cut_code (X:=Option Addr×Nat×Nat×Option Addr×Nat×Nat×Nat) (fun zz x=>((((((((((((zz.put (some 61) (.agg #[.slice ta t.args.length tc])).put (some 62) (.agg #[str s',.int .i64 v',.slice a2 n2 c2,.slice a3 n3 c3])).put (some 63) (.slice (some ⟨g,0,none⟩) m2 d2)).put (some 64) (.int .i64 (j:Nat))).put (some 65) (.pointer (some ⟨g,j*2,none⟩))).put (some 66) (.agg #[.slice lv l.length lc,.slice lp l.length ld])).put (some 67) (.tuple #[.agg #[.slice x.1 x.2.1 x.2.2.1,.slice x.2.2.2.1 x.2.2.2.2.1 x.2.2.2.2.2.1],.bool true])).put (some 60) (.tuple #[.agg #[.slice x.1 x.2.1 x.2.2.1,.slice x.2.2.2.1 x.2.2.2.2.1 x.2.2.2.2.2.1],.bool true])).put (some 68) (.agg #[.slice x.1 x.2.1 x.2.2.1,.slice x.2.2.2.1 x.2.2.2.2.1 x.2.2.2.2.2.1])).put (some 69) (.bool true)).put (some 16) (.pointer (some ⟨x.2.2.2.2.2.2,0,none⟩))).put (some 17) (.bool true))) (fun x w7=>Below wq.heap.size wq w7/\w7.heap[x.2.2.2.2.2.2]? = some (.cells #[.slice x.1 x.2.1 x.2.2.1,.slice x.2.2.2.1 x.2.2.2.2.1 x.2.2.2.2.2.1] 33 (0,0))/\wq.heap.size<=x.2.2.2.2.2.2/\PlayAt w7 (l++[xq]) (.slice x.1 x.2.1 x.2.2.1) (.slice x.2.2.2.1 x.2.2.2.2.1 x.2.2.2.2.2.1)) ?_ ?_
        ·refine wp_region_noPanic ?_
         refine wp_region_S (fun w'=>Below wq.heap.size wq w') (fun _=>false) (by kernel_rfl) ?_
         obtain ⟨y0,hy0⟩:=zzN (wq.drew)
         rw [hy0]
         have hBy0:Below wq.heap.size wq y0:=by rw [<- hy0];exact Below.drew (Below.refl _ _)
         obtain ⟨tg0,htg0⟩:∃ x:Nat->Nat,x=fun _=>0:=⟨_,rfl⟩
         clear hy0 htg0
         refine wpAnyS_take 0 (v:=?_) (by kernel_rfl) (by kernel_rfl) (by kernel_rfl) (by kernel_rfl) (fun _ _ _ _ h=>h) hBy0 ?_ ?_
         rotate_left
         ·(intro oi ho;simp at ho;subst ho;refine Or.inl ⟨by rfl,fun w' hw'=>?_⟩;obtain ⟨⟨e0,e1,e2,e3,e4⟩,e5,e6⟩:=KEY16.out w' hw';go_simp;try with_reducible rfl)
         (intro d hd;simp at hd;subst hd;simp only [Act.put,List.setIfInBounds_toArray,List.set_cons_zero,List.set_cons_succ])
         refine wpAnyS_take 1 (v:=?_) (by kernel_rfl) (by kernel_rfl) (by kernel_rfl) (by kernel_rfl) (fun _ _ _ _ h=>h) hBy0 ?_ ?_
         rotate_left
         ·(intro oi ho;simp at ho;subst ho;refine Or.inl ⟨by rfl,fun w' hw'=>?_⟩;obtain ⟨⟨e0,e1,e2,e3,e4⟩,e5,e6⟩:=KEY16.out w' hw';go_simp;try with_reducible rfl)
         (intro d hd;simp at hd;subst hd;simp only [Act.put,List.setIfInBounds_toArray,List.set_cons_zero,List.set_cons_succ])
         refine wpAnyS_take 2 (v:=?_) (by kernel_rfl) (by kernel_rfl) (by kernel_rfl) (by kernel_rfl) (fun _ _ _ _ h=>h) hBy0 ?_ ?_
         rotate_left
         ·(intro oi ho;simp at ho;subst ho;refine Or.inl ⟨by rfl,fun w' hw'=>?_⟩;go_simp;try with_reducible rfl)
         (intro d hd;simp at hd;subst hd;simp only [Act.put,List.setIfInBounds_toArray,List.set_cons_zero,List.set_cons_succ])
         refine wpAnyS_take 3 (v:=?_) (by kernel_rfl) (by kernel_rfl) (by kernel_rfl) (by kernel_rfl) (fun _ _ _ _ h=>h) hBy0 ?_ ?_
         rotate_left
         ·(intro oi ho;simp at ho;subst ho;refine Or.inl ⟨by rfl,fun w' hw'=>?_⟩;go_simp;try with_reducible rfl)
         (intro d hd;simp at hd;subst hd;simp only [Act.put,List.setIfInBounds_toArray,List.set_cons_zero,List.set_cons_succ])
         refine wpAnyS_take 4 (v:=?_) (by kernel_rfl) (by kernel_rfl) (by kernel_rfl) (by kernel_rfl) (fun _ _ _ _ h=>h) hBy0 ?_ ?_
         rotate_left
         ·(intro oi ho;simp at ho;subst ho;refine Or.inl ⟨by rfl,fun w' hw'=>?_⟩;go_simp;try with_reducible rfl)
         (intro d hd;simp at hd;subst hd;simp only [Act.put,List.setIfInBounds_toArray,List.set_cons_zero,List.set_cons_succ])
         refine wpAnyS_take 5 (v:=?_) (by kernel_rfl) (by kernel_rfl) (by kernel_rfl) (by kernel_rfl) (fun _ _ _ _ h=>h) hBy0 ?_ ?_
         rotate_left
         ·(intro oi ho;simp at ho;subst ho;refine Or.inl ⟨by rfl,fun w' hw'=>?_⟩;obtain ⟨⟨e0,e1,e2,e3,e4⟩,e5,e6⟩:=KEY16.out w' hw';go_simp;try with_reducible rfl)
         (intro d hd;simp at hd;subst hd;simp only [Act.put,List.setIfInBounds_toArray,List.set_cons_zero,List.set_cons_succ])
         refine wpAnyS_two 6 10 (by kernel_rfl) ?_ ?_
         ·(intro o6 ho K' hK;simp at ho;subst ho)
          go_simp
          go_at_call 76
          (with_reducible refine (CRP.out _ hBy0).mono ?_)
          rintro en y1 ⟨a8,n8,c8,a9,n9,c9,rfl,hb,hno,hsome⟩
          clear hno
          have CP:Hid (PlayAt y1 (l++[xq]) (.slice a8 n8 c8) (.slice a9 n9 c9)):=(hsome xq rfl).1
          clear hsome
          have hBy1:Below wq.heap.size wq y1:=zzT hBy0 hb
          have hby1:=Lib.hid hb;clear hb
          refine hK.out _ _ (fun _=>?_) ?_
          ·exact hBy1
          clear hK K'
          (try simp only [Act.put,List.setIfInBounds_toArray,List.set_cons_zero,List.set_cons_succ])
          refine wpAnyS_take 7 (v:=?_) (by kernel_rfl) (by kernel_rfl) (by kernel_rfl) (by kernel_rfl) (fun _ _ _ _ h=>h) hBy1 ?_ ?_
          rotate_left
          ·(intro oi ho;simp at ho;subst ho;refine Or.inl ⟨by rfl,fun w' hw'=>?_⟩;go_simp;try with_reducible rfl)
          (intro d hd;simp at hd;subst hd;simp only [Act.put,List.setIfInBounds_toArray,List.set_cons_zero,List.set_cons_succ])
          refine wpAnyS_take 8 (v:=?_) (by kernel_rfl) (by kernel_rfl) (by kernel_rfl) (by kernel_rfl) (fun _ _ _ _ h=>h) hBy1 ?_ ?_
          rotate_left
          ·(intro oi ho;simp at ho;subst ho;refine Or.inl ⟨by rfl,fun w' hw'=>?_⟩;go_simp;try with_reducible rfl)
          (intro d hd;simp at hd;subst hd;simp only [Act.put,List.setIfInBounds_toArray,List.set_cons_zero,List.set_cons_succ])
          refine wpAnyS_take 9 (v:=?_) (by kernel_rfl) (by kernel_rfl) (by kernel_rfl) (by kernel_rfl) (fun _ _ _ _ h=>h) hBy1 ?_ ?_
          rotate_left
          ·(intro oi ho;simp at ho;subst ho;refine Or.inl ⟨by rfl,fun w' hw'=>?_⟩;go_simp;try with_reducible rfl)
          (intro d hd;simp at hd;subst hd;simp only [Act.put,List.setIfInBounds_toArray,List.set_cons_zero,List.set_cons_succ])
          refine wpAnyS_one 10 (by kernel_rfl) ?_
          (intro o10 ho K' hK;simp at ho;subst ho)
          go_simp
          refine hK.out _ _ (fun _=>?_) ?_
          ·exact hBy1.alloc hBy1.size _
          clear hK K'
          (try simp only [Act.put,List.setIfInBounds_toArray,List.set_cons_zero,List.set_cons_succ])
          obtain ⟨y2,hnew⟩:=zzN (y1.alloc (.cells #[.slice none 0 0,.slice none 0 0] 33))
          obtain ⟨gN,hgN⟩:=zzN (y1.heap.size)
          rw [hnew,hgN]
          have hBy2:Below wq.heap.size wq y2:=by rw [<- hnew];exact hBy1.alloc hBy1.size _
          obtain ⟨tg2,htg⟩:=zzN (retag tg0 gN 3)
          have CP:Hid (PlayAt y2 (l++[xq]) (.slice a8 n8 c8) (.slice a9 n9 c9)):=by rw [<- hnew];exact CP.out.below ((Below.refl _ _).alloc (Nat.le_refl _) _)
          have EN:Hid (y2.heap[gN]? = some (.cells #[.slice none 0 0,.slice none 0 0] 33 (0,0))/\tg2 gN=3/\wq.heap.size<=gN):=by rw [<- hnew,<- htg,<- hgN];exact ⟨heap_new _ _,by unfold retag;rw [if_pos rfl],hBy1.size⟩
          clear hnew hgN htg
          refine wpAnyS_one 11 (by kernel_rfl) ?_
          (intro o11 ho K' hK;simp at ho;subst ho)
          obtain ⟨uN0,cN0⟩:∃ u,y2.cell? ⟨gN,0,none⟩=some u:=⟨_,by simp [World.cell?,EN.out.1];rfl⟩
          have fN0:y2.frozen? ⟨gN,0,none⟩=false:=by simp [World.frozen?,EN.out.1]
          obtain ⟨uN1,cN1⟩:∃ u,y2.cell? ⟨gN,1,none⟩=some u:=⟨_,by simp [World.cell?,EN.out.1];rfl⟩
          have fN1:y2.frozen? ⟨gN,1,none⟩=false:=by simp [World.frozen?,EN.out.1]
          go_simp
          refine hK.out _ _ (fun _=>?_) ?_
          ·exact ((hBy2.setCell (p:=⟨gN,0,none⟩) EN.out.2.2 _).setCell (p:=⟨gN,1,none⟩) EN.out.2.2 _)
          clear hK K'
          (try simp only [Act.put,List.setIfInBounds_toArray,List.set_cons_zero,List.set_cons_succ])
          obtain ⟨y3,hnew⟩:=zzN (((y2.setCell ⟨gN,0,none⟩ (.slice a8 n8 c8)).setCell ⟨gN,1,none⟩ (.slice a9 n9 c9)))
          rw [hnew]
          have hBy3:Below wq.heap.size wq y3:=by rw [<- hnew];exact ((hBy2.setCell (p:=⟨gN,0,none⟩) EN.out.2.2 _).setCell (p:=⟨gN,1,none⟩) EN.out.2.2 _)
          have hbt:But (fun i=>i=gN) y2 y3:=by rw [<- hnew];exact (((But.refl (fun i=>i=gN) y2).setCell (p:=⟨gN,0,none⟩) (.inl rfl) _).setCell (p:=⟨gN,1,none⟩) (.inl rfl) _)
          have htg:∀ g,g=gN->tg2 g=3:=fun g e=>by rw [e];exact EN.out.2.1
          have CP:Hid (PlayAt y3 (l++[xq]) (.slice a8 n8 c8) (.slice a9 n9 c9)):=CP.out.but hbt (CP.out.notBox EN.out.1 (by decide) (by decide))
          have EN:Hid (y3.heap[gN]? = some (.cells #[.slice a8 n8 c8,.slice a9 n9 c9] 33 (0,0))/\tg2 gN=3/\wq.heap.size<=gN):=⟨by rw [<- hnew];exact (setCell_at' (setCell_at' EN.out.1)),EN.out.2⟩
          clear hnew hbt htg cN0 fN0 cN1 fN1
          refine wpAnyS_one 12 (by kernel_rfl) ?_
          (intro o12 ho K' hK;simp at ho;subst ho)
          go_simp
          refine hK.out _ _ (fun _=>?_) ?_
          ·exact hBy3
          clear hK K'
          (try simp only [Act.put,List.setIfInBounds_toArray,List.set_cons_zero,List.set_cons_succ])
          refine wpAnyS_done (by kernel_rfl) (NoPanic.normal ?_) _
          exact ⟨rfl,⟨a8,n8,c8,a9,n9,c9,gN⟩,by rfl,hBy3,EN.out.1,EN.out.2.2,CP.out⟩
         ·(intro o10 ho K' hK;simp at ho;subst ho)
          go_simp
          refine hK.out _ _ (fun _=>?_) ?_
          ·exact hBy0.alloc hBy0.size _
          clear hK K'
          (try simp only [Act.put,List.setIfInBounds_toArray,List.set_cons_zero,List.set_cons_succ])
          obtain ⟨y5,hnew⟩:=zzN (y0.alloc (.cells #[.slice none 0 0,.slice none 0 0] 33))
          obtain ⟨gN,hgN⟩:=zzN (y0.heap.size)
          rw [hnew,hgN]
          have hBy5:Below wq.heap.size wq y5:=by rw [<- hnew];exact hBy0.alloc hBy0.size _
          obtain ⟨tg5,htg⟩:=zzN (retag tg0 gN 3)
          have EN:Hid (y5.heap[gN]? = some (.cells #[.slice none 0 0,.slice none 0 0] 33 (0,0))/\tg5 gN=3/\wq.heap.size<=gN):=by rw [<- hnew,<- htg,<- hgN];exact ⟨heap_new _ _,by unfold retag;rw [if_pos rfl],hBy0.size⟩
          clear hnew hgN htg
          refine wpAnyS_one 6 (by kernel_rfl) ?_
          (intro o6 ho K' hK;simp at ho;subst ho)
          go_simp
          go_at_call 76
          (with_reducible refine (CRP.out _ hBy5).mono ?_)
          rintro en y6 ⟨a8,n8,c8,a9,n9,c9,rfl,hb,hno,hsome⟩
          clear hno
          have CP:Hid (PlayAt y6 (l++[xq]) (.slice a8 n8 c8) (.slice a9 n9 c9)):=(hsome xq rfl).1
          clear hsome
          have hBy6:Below wq.heap.size wq y6:=zzT hBy5 hb
          have EN:Hid (y6.heap[gN]? = some (.cells #[.slice none 0 0,.slice none 0 0] 33 (0,0))/\tg5 gN=3/\wq.heap.size<=gN):=⟨(hb.block _ (lt_of_heap EN.out.1)).trans EN.out.1,EN.out.2⟩
          have hby6:=Lib.hid hb;clear hb
          refine hK.out _ _ (fun _=>?_) ?_
          ·exact hBy6
          clear hK K'
          (try simp only [Act.put,List.setIfInBounds_toArray,List.set_cons_zero,List.set_cons_succ])
          refine wpAnyS_take 7 (v:=?_) (by kernel_rfl) (by kernel_rfl) (by kernel_rfl) (by kernel_rfl) (fun _ _ _ _ h=>h) hBy6 ?_ ?_
          rotate_left
          ·(intro oi ho;simp at ho;subst ho;refine Or.inl ⟨by rfl,fun w' hw'=>?_⟩;go_simp;try with_reducible rfl)
          (intro d hd;simp at hd;subst hd;simp only [Act.put,List.setIfInBounds_toArray,List.set_cons_zero,List.set_cons_succ])
          refine wpAnyS_take 8 (v:=?_) (by kernel_rfl) (by kernel_rfl) (by kernel_rfl) (by kernel_rfl) (fun _ _ _ _ h=>h) hBy6 ?_ ?_
          rotate_left
          ·(intro oi ho;simp at ho;subst ho;refine Or.inl ⟨by rfl,fun w' hw'=>?_⟩;go_simp;try with_reducible rfl)
          (intro d hd;simp at hd;subst hd;simp only [Act.put,List.setIfInBounds_toArray,List.set_cons_zero,List.set_cons_succ])
          refine wpAnyS_take 9 (v:=?_) (by kernel_rfl) (by kernel_rfl) (by kernel_rfl) (by kernel_rfl) (fun _ _ _ _ h=>h) hBy6 ?_ ?_
          rotate_left
          ·(intro oi ho;simp at ho;subst ho;refine Or.inl ⟨by rfl,fun w' hw'=>?_⟩;go_simp;try with_reducible rfl)
          (intro d hd;simp at hd;subst hd;simp only [Act.put,List.setIfInBounds_toArray,List.set_cons_zero,List.set_cons_succ])
          refine wpAnyS_one 11 (by kernel_rfl) ?_
          (intro o11 ho K' hK;simp at ho;subst ho)
          obtain ⟨uN0,cN0⟩:∃ u,y6.cell? ⟨gN,0,none⟩=some u:=⟨_,by simp [World.cell?,EN.out.1];rfl⟩
          have fN0:y6.frozen? ⟨gN,0,none⟩=false:=by simp [World.frozen?,EN.out.1]
          obtain ⟨uN1,cN1⟩:∃ u,y6.cell? ⟨gN,1,none⟩=some u:=⟨_,by simp [World.cell?,EN.out.1];rfl⟩
          have fN1:y6.frozen? ⟨gN,1,none⟩=false:=by simp [World.frozen?,EN.out.1]
          go_simp
          refine hK.out _ _ (fun _=>?_) ?_
          ·exact ((hBy6.setCell (p:=⟨gN,0,none⟩) EN.out.2.2 _).setCell (p:=⟨gN,1,none⟩) EN.out.2.2 _)
          clear hK K'
          (try simp only [Act.put,List.setIfInBounds_toArray,List.set_cons_zero,List.set_cons_succ])
          obtain ⟨y7,hnew⟩:=zzN (((y6.setCell ⟨gN,0,none⟩ (.slice a8 n8 c8)).setCell ⟨gN,1,none⟩ (.slice a9 n9 c9)))
          rw [hnew]
          have hBy7:Below wq.heap.size wq y7:=by rw [<- hnew];exact ((hBy6.setCell (p:=⟨gN,0,none⟩) EN.out.2.2 _).setCell (p:=⟨gN,1,none⟩) EN.out.2.2 _)
          have hbt:But (fun i=>i=gN) y6 y7:=by rw [<- hnew];exact (((But.refl (fun i=>i=gN) y6).setCell (p:=⟨gN,0,none⟩) (.inl rfl) _).setCell (p:=⟨gN,1,none⟩) (.inl rfl) _)
          have htg:∀ g,g=gN->tg5 g=3:=fun g e=>by rw [e];exact EN.out.2.1
          have CP:Hid (PlayAt y7 (l++[xq]) (.slice a8 n8 c8) (.slice a9 n9 c9)):=CP.out.but hbt (CP.out.notBox EN.out.1 (by decide) (by decide))
          have EN:Hid (y7.heap[gN]? = some (.cells #[.slice a8 n8 c8,.slice a9 n9 c9] 33 (0,0))/\tg5 gN=3/\wq.heap.size<=gN):=⟨by rw [<- hnew];exact (setCell_at' (setCell_at' EN.out.1)),EN.out.2⟩
          clear hnew hbt htg cN0 fN0 cN1 fN1
          refine wpAnyS_one 12 (by kernel_rfl) ?_
          (intro o12 ho K' hK;simp at ho;subst ho)
          go_simp
          refine hK.out _ _ (fun _=>?_) ?_
          ·exact hBy7
          clear hK K'
          (try simp only [Act.put,List.setIfInBounds_toArray,List.set_cons_zero,List.set_cons_succ])
          refine wpAnyS_done (by kernel_rfl) (NoPanic.normal ?_) _
          exact ⟨rfl,⟨a8,n8,c8,a9,n9,c9,gN⟩,by rfl,hBy7,EN.out.1,EN.out.2.2,CP.out⟩
        rintro ⟨a8,n8,c8,a9,n9,c9,gN⟩ w7 ⟨hbw7,hN7,hgN,hP7⟩
        dsimp only at hbw7 hN7 hgN hP7
        simp only [pQ,pN,pZ,pS]
        obtain ⟨z0,z1,_,_⟩:=cells_2 hN7
        have hBX7:=HO.out.2.2.1.trans ((zzT HQ.out.1 hbw7).mono HO.out.2.2.1.size)
        have CN7:=CN.out w7 hBX7 (l++[xq]) _ _ hP7 HINX.out (by rw [List.length_append,List.length_singleton];have:=HLL.out;omega)
        unfold PlsQ at CN7
        have CN7:=Lib.hid CN7
        obtain ⟨tk0,_⟩:=KEY.out w7 hBX7
        have H7:=Lib.hid hbw7
        clear hbw7 hN7 hgN hP7 hBX7 KEY16 CRP
        go_wp2_with fail
        (with_reducible refine CN7.out.mono ?_)
        rintro en w8 ⟨a6,m6,c6,us6,rfl,hb8,hN8⟩
        have hb78:=zzT H7.out hb8
        have hm6:m6<=193+7:=by have h1:=nextL_len HG.out.atoms (l++[xq]);have h2:=hN8.len;have h3:=HLL.out;rw [List.length_append,List.length_singleton] at h1;omega
        have H8:=Lib.hid (And.intro hb78 hN8)
        clear hb8 hN8 hb78 CN7 z0 z1 tk0
        go_wp2_with (at_builtin;refine wpList_append_gen rfl _ _ 26 rfl 33 (.agg #[.slice none 0 0,.slice none 0 0]) 2 48 Tryz.underlying26 Tryz.infoPlay rfl (by decide) (.slice p3 m q3) m (plC us3) rfl ?c1 (.slice a6 m6 c6) m6 (plC us6) rfl ?c2 ?c3 ?c4 ?_)
        case c1=>exact (HQ.out.2.below H8.out.1).own
        case c2=>exact SrcSl.ofOwn H8.out.2.own H8.out.2.rd.one
        case c3=>unfold maxLen;omega
        case c4=>omega
        intro a7 c7 w9 ho7 hb7 hg7
        have hR7:=(HQ.out.2.below H8.out.1).cat H8.out.2 (Nat.le_trans HQ.out.1.size H7.out.size) (Nat.le_trans HQ.out.1.size H8.out.1.size) (fun g hg=>Nat.lt_of_lt_of_le (HQ.out.2.lt g hg) H7.out.size) ho7 hb7 hg7
        have hB7:Below wr.heap.size wr w9:=(zzT HQ.out.1 H8.out.1).trans (hb7.toBelow (Nat.le_trans HQ.out.1.size H8.out.1.size) fun g hg e=>by have:=HQ.out.2.new g (.inl e);omega)
        rw [<- HNX.out] at hR7
        obtain ⟨M3,hM3⟩:=zzN (m+m6)
        rw [hM3] at hR7 ⊢
        have H9:=Lib.hid (And.intro hB7 hR7)
        have hM3b:M3<=(j+1)*200:=by omega
        clear ho7 hb7 hg7 hR7 hB7 hM3
        go_wp2_with fail
        go_roundw
        case rel=>exact ⟨j+1,M3,c7,a7,_,_,rfl,by omega,by go_num,rfl,hM3b,H9.out.1,H9.out.2⟩
        case measure=>simp [intOf];omega
      ·have hjI:¬ (j:Int)<(m2:Int):=by omega
       obtain rfl:j=m2:=by omega
       have hNL:((prevAt t b r).take j).flatMap (fAt t b r)=lastAt t b r:=by rw [last_flat,List.take_of_length_le (by rw [HO.out.2.2.2.2.len];exact Nat.le_refl _)]
       have HKL:=Lib.hid (show (outAt t b r).length=n1/\(((prevAt t b r).take j).flatMap (fAt t b r)).length=m from ⟨HO.out.2.2.2.1.len,HQ.out.2.len⟩)
       by_cases h300:300<n1+m
       ·have h3I:(300:Int)<(n1:Int)+(m:Int):=by omega
        have E:=Lib.hid (HFAIL.out r j hr1'.out (by rw [HKL.out.1,HKL.out.2];exact h300))
        have hwrap:m<=60000:=by omega
        have hBX:=Lib.hid (zzT HO.out.2.2.1 HQ.out.1)
        clear h300 hNL hPq
        go_wp2_with fail
        go_ret2
        rw [E.out]
        exact ⟨_,_,_,[],rfl,(zzT HX.out.2.1 hBX.out).trans (((Below.refl _ _).alloc (Nat.le_refl _) _).mono (Nat.le_trans HX.out.2.1.size hBX.out.size)),NxR.empty _ _ (Nat.le_trans HX.out.2.1.size hBX.out.size)⟩
       ·have h3I:¬ (300:Int)<(n1:Int)+(m:Int):=by omega
        rw [hNL] at HQ
        have hOq:=HO.out.2.2.2.1.below HQ.out.1
        have HK:=Lib.hid hOq
        clear hPq hOq hNL
        go_wp2_with (at_builtin;refine wpList_append_gen rfl _ _ 26 rfl 33 (.agg #[.slice none 0 0,.slice none 0 0]) 2 48 Tryz.underlying26 Tryz.infoPlay rfl (by decide) (.slice a1 n1 c1) n1 (plC us1) rfl ?c1 (.slice p3 m q3) m (plC us3) rfl ?c2 ?c3 ?c4 ?_)
        case c1=>exact HK.out.own
        case c2=>exact SrcSl.ofOwn HQ.out.2.own HQ.out.2.rd.one
        case c3=>unfold maxLen;omega
        case c4=>omega
        intro a7 c7 w7 ho7 hb7 hg7
        have hlt1:∀ g,(Value.slice a1 n1 c1).ownBlock=some g->g<wr.heap.size:=fun g hg=>HO.out.2.2.2.1.lt g (.inl hg)
        have hR7:=HK.out.cat HQ.out.2 HO.out.2.2.1.size (Nat.le_trans HO.out.2.2.1.size HQ.out.1.size) HO.out.2.2.2.1.lt ho7 hb7 hg7
        have hN7:=(HQ.out.2.off HK.out.own hb7 fun g hg e=>by have h1:=hlt1 g e;have h2:=HQ.out.2.new g (.inl hg);omega).mono HO.out.2.2.1.size
        have hB7:Below X.heap.size X w7:=(zzT HO.out.2.2.1 HQ.out.1).trans (hb7.toBelow (Nat.le_trans HO.out.2.2.1.size HQ.out.1.size) fun g hg e=>by have:=HK.out.new g (.inl e);omega)
        have H7:=Lib.hid (And.intro hB7 (And.intro hR7 hN7))
        clear ho7 hb7 hg7 hR7 hN7 hB7 hlt1 h300
        have hX2:IntKind.i64.wrap ((Z:Int)+2)=((2*(r+1)+1:Nat):Int):=by rw [wrap_low _ (by omega) (by omega)];have:=HZ.out;omega
        go_wp2_with fail
        go_roundw
        case rel=>exact ⟨r+1,n1+m,c7,a7,_,m,q3,p3,_,_,rfl,by omega,hr1'.out,rfl,rfl,rfl,by omega,by omega,H7.out.1,H7.out.2.1,H7.out.2.2⟩
        case measure=>simp [intOf];have:=HZ.out;omega
    ·have hltI:¬ ((2*r+1:Nat):Int)<=(N:Int):=by omega
     have hltI2:¬ 2*(r:Int)+1<=(N:Int):=by omega
     have E:=Lib.hid (HDN.out r (by omega) (by rw [HO.out.2.2.2.1.len];exact HO.out.2.1))
     clear hlt
     go_wp2_with fail
     go_ret2
     rw [E.out]
     exact ⟨_,_,_,_,rfl,zzT HX.out.2.1 HO.out.2.2.1,HO.out.2.2.2.1.mono HX.out.2.1.size⟩
theorem PlsG.cells {w:World} {v:Value} {us:List (Value×Value)} {xs:Rows2} (h:PlsG w v us xs) {i:Nat} {u:Value×Value} (hu:us[i]? = some u):∃ g c,v=.slice (some ⟨g,0,none⟩) us.length c/\w.cell? ⟨g,i*2,none⟩=some u.1/\w.cell? ⟨g,i*2+1,none⟩=some u.2:=by
 obtain ⟨h1,h2⟩:=plC_at us i u hu
 obtain ⟨g,c,e,k1⟩:=h.own.at h1
 obtain ⟨g',c',e',k2⟩:=h.own.at h2
 rw [e] at e'
 simp only [Value.slice.injEq,Option.some.injEq,Addr.mk.injEq,true_and] at e'
 obtain ⟨⟨rfl,_⟩,_⟩:=e'
 exact ⟨g,c,e,k1,k2⟩
theorem PlsG.slice {w:World} {v:Value} {us:List (Value×Value)} {xs:Rows2} (h:PlsG w v us xs):∃ a c,v=.slice a us.length c:=h.own.slice
def PlsPost (o:Option (List Pl)) (w:World) (en:Ending) (w':World):Prop :=
 ∃ v us,en=.returned (.tuple #[v,.bool o.isSome])/\Below w.heap.size w w'/\PlsAt w' (o.getD []) v us/\∀ g,PlB v us g->w.heap.size<=g
theorem PlaysQ.views {o:Option (List Pl)} {w w':World} {en:Ending} (h:PlaysQ o w en w'):PlsPost o w en w':=by
 obtain ⟨a,n,c,us,h1,h2,h3⟩:=h
 exact ⟨_,us,h1,h2,h3.pls,h3.new⟩
theorem playsOf_some {s text:Bs} {n:Int} {L:List Pl} (h:playsOf s text n=some L):∃ b,specStrat s text=some b/\0<=n/\n<=8/\L=outAt (specType s).1 b ((n.toNat+1) / 2)/\L.length<=300:=by
 unfold playsOf at h
 cases hb:specStrat s text with
 | none=>rw [hb] at h;simp at h
 | some b =>
   rw [hb] at h
   simp only at h
   split at h
   ·simp at h
   ·split at h
    ·simp at h
    ·obtain rfl:=Option.some.inj h
     exact ⟨b,rfl,by omega,by omega,rfl,by omega⟩
theorem playsOf_bound (s text:Bs) (n:Int):((playsOf s text n).getD []).length<=300/\∀ l∈(playsOf s text n).getD [],l.length<=60:=by
 cases h:playsOf s text n with
 | none=>exact ⟨Nat.zero_le _,fun l hl=>by simp at hl⟩
 | some L =>
   obtain ⟨b,hb,h0,h8,hL,h300⟩:=playsOf_some h
   refine ⟨h300,fun l hl=>?_⟩
   have hg:=(specStrat_good hb).1
   rw [Option.getD_some,hL] at hl
   exact valid_len (out_in hg.atoms hg.fit hg.wf _ (by omega) l hl).1.ok
theorem sameTexts_any (a a':Option Addr) (c c':Nat) (xs:List Bs) (w:World) (h:StrsAt w a xs) (h':StrsAt w a' xs) (hx:xs.length<=16777216) :
 Calls Tryz.prog 46 #[.slice a xs.length c,.slice a' xs.length c'] w fun en w'=>en=.returned (.bool true)/\Below w.heap.size w w':=by
 have H:=Lib.hid h;have H':=Lib.hid h';clear h h'
 go_enter Tryz.func46,Tryz.ntmps46
 go_wp2_with fail
 go_loopw [5] (fun i wr=>∃ k:Nat,k<=xs.length/\i=.int .i64 k/\Below w.heap.size w wr) (fun i _=>xs.length-(intOf i).toNat)
 case atStart=>exact ⟨0,Nat.zero_le _,rfl,Below.refl _ _⟩
 case round =>
  obtain ⟨k,hk,rfl,hb⟩:=hrel
  by_cases hlt:k<xs.length
  ·obtain ⟨s,hks⟩:∃ s,xs[k]? = some s:=⟨xs[k],by simp [hlt]⟩
   obtain ⟨b,o,e,hc⟩:=H.out.below hb k s hks
   obtain ⟨b2,o2,e2,hc2⟩:=H'.out.below hb k s hks
   subst e;subst e2
   clear hks
   have hlt':(k:Int)<(xs.length:Int):=by omega
   have hne:(s == s)=true:=by simp
   have HB:=Lib.hid hb;clear hb
   go_wp2_with fail
   go_quiet (fail)
   go_wp2_with fail
   go_roundw
   case rel=>exact ⟨k+1,by omega,by go_num,below_dN HB.out _⟩
   case measure=>simp [intOf];omega
  ·obtain rfl:k=xs.length:=by omega
   go_wp2_with fail
   go_ret
   exact ⟨rfl,hb⟩
theorem sameInts_any (a a':Option Addr) (n c c':Nat) (xs:List Int) (w:World) (h:Own w 3 1 (.slice a n c) n (xs.map (Value.int .i64))) (h':Own w 3 1 (.slice a' n c') n (xs.map (Value.int .i64))) (hn:n<=16777216) :
 Calls Tryz.prog 71 #[.slice a n c,.slice a' n c'] w fun en w'=>en=.returned (.bool true)/\Below w.heap.size w w':=by
 have H:=Lib.hid h;have H':=Lib.hid h';clear h h'
 go_enter Tryz.func71,Tryz.ntmps71
 go_wp2_with fail
 go_loopw [5] (fun i wr=>∃ k:Nat,k<=n/\i=.int .i64 k/\Below w.heap.size w wr) (fun i _=>n-(intOf i).toNat)
 case atStart=>exact ⟨0,Nat.zero_le _,rfl,Below.refl _ _⟩
 case round =>
  obtain ⟨k,hk,rfl,hb⟩:=hrel
  by_cases hlt:k<n
  ·have ho:Own wr 3 1 (.slice a n c) n (xs.map (Value.int .i64)):=H.out.keep fun g o hg hh=>by rw [hb.block g (lt_of_heap hh)];exact hh
   have ho':Own wr 3 1 (.slice a' n c') n (xs.map (Value.int .i64)):=H'.out.keep fun g o hg hh=>by rw [hb.block g (lt_of_heap hh)];exact hh
   obtain ⟨g,e,hg,_,⟨u,hu1,hu⟩,_⟩:=ho.open1 hlt
   obtain ⟨g',e',hg',_,⟨u',hu1',hu'⟩,_⟩:=ho'.open1 hlt
   subst e;subst e'
   rw [hu1] at hu1'
   obtain rfl:=Option.some.inj hu1'
   rw [List.getElem?_map,Option.map_eq_some_iff] at hu1
   obtain ⟨x,_,rfl⟩:=hu1
   have hlt':(k:Int)<(n:Int):=by omega
   have hne:(x == x)=true:=by simp
   have hne':(x != x)=false:=by simp
   have HB:=Lib.hid hb;clear hb ho ho' hu1'
   go_wp2_with fail
   go_quiet (fail)
   go_wp2_with fail
   go_roundw
   case rel=>exact ⟨k+1,by omega,by go_num,below_dN HB.out _⟩
   case measure=>simp [intOf];omega
  ·obtain rfl:k=n:=by omega
   go_wp2_with fail
   go_ret
   exact ⟨rfl,hb⟩
theorem samePlay_any (log:List (Bs×Int)) (mv pt mv' pt':Value) (w:World) (h:PlayAt w log mv pt) (h':PlayAt w log mv' pt') (hl:log.length<=100000) :
 Calls Tryz.prog 25 #[.agg #[mv,pt],.agg #[mv',pt']] w fun en w'=>en=.returned (.bool true)/\Below w.heap.size w w':=by
 obtain ⟨a1,c1,rfl⟩:=h.1.slice
 obtain ⟨a2,c2,rfl⟩:=h.2.slice
 obtain ⟨a1',c1',rfl⟩:=h'.1.slice
 obtain ⟨a2',c2',rfl⟩:=h'.2.slice
 have H:=Lib.hid (And.intro h h');clear h h'
 have C1:Hid (∀ w0,Below w.heap.size w w0->Calls Tryz.prog 46 #[.slice a1 log.length c1,.slice a1' log.length c1'] w0 fun en w'=>en=.returned (.bool true)/\Below w0.heap.size w0 w'):=by
  show ∀ w0,_->_
  intro w0 hb
  have k1:=(H.out.1.below hb).1
  have k2:=(H.out.2.below hb).1
  have e:logM log=(log.map (·.1)).map str:=by simp [logM]
  rw [e] at k1 k2
  have:=sameTexts_any a1 a1' c1 c1' (log.map (·.1)) w0 k1.strs k2.strs (by simp;omega)
  rwa [List.length_map] at this
 have C2:Hid (∀ w0,Below w.heap.size w w0->Calls Tryz.prog 71 #[.slice a2 log.length c2,.slice a2' log.length c2'] w0 fun en w'=>en=.returned (.bool true)/\Below w0.heap.size w0 w'):=by
  show ∀ w0,_->_
  intro w0 hb
  have k1:=(H.out.1.below hb).2
  have k2:=(H.out.2.below hb).2
  have e:logP log=(log.map (·.2)).map (Value.int .i64):=by simp [logP]
  rw [e] at k1 k2
  exact sameInts_any a2 a2' log.length c2 c2' (log.map (·.2)) w0 k1 k2 (by omega)
 clear H
 go_enter Tryz.func25,Tryz.ntmps25
 go_wp2_with fail
 have hb0:Below w.heap.size w ((w.alloc (.cells #[.slice a1 log.length c1,.slice a2 log.length c2] 33)).alloc (.cells #[.slice a1' log.length c1',.slice a2' log.length c2'] 33)):=((Below.refl _ _).alloc (Nat.le_refl _) _).alloc (by rw [size_alloc];omega) _
 (with_reducible refine (C1.out _ hb0).mono ?_)
 rintro en w1 ⟨rfl,hb1⟩
 have hbb:=zzT hb0 hb1
 have d1:w1.cell? ⟨w.heap.size,1,none⟩=some (.slice a2 log.length c2):=by rw [hb1.cell (by simp;omega)];simp
 have d2:w1.cell? ⟨w.heap.size+1,1,none⟩=some (.slice a2' log.length c2'):=by rw [hb1.cell (by simp)];simp
 have HB:=Lib.hid hbb;clear hbb hb1 hb0
 go_wp2_with fail
 (with_reducible refine (C2.out _ HB.out).mono ?_)
 rintro en w2 ⟨rfl,hb2⟩
 have HB2:=Lib.hid (zzT HB.out hb2);clear hb2
 go_wp2_with fail
 go_ret
 exact ⟨rfl,HB2.out⟩
set_option maxRecDepth 100000 in
theorem samePlays_any (L:List Pl) (v v':Value) (us us':List (Value×Value)) (w:World) (h:PlsAt w L v us) (h':PlsAt w L v' us') (hL:L.length<=100000) (hl:∀ l∈L,l.length<=100000) :
 Calls Tryz.prog 34 #[v,v'] w fun en w'=>en=.returned (.bool true)/\Below w.heap.size w w':=by
 obtain ⟨a,c,rfl⟩:=h.slice
 obtain ⟨a',c',rfl⟩:=h'.slice
 have e1:=PlsAt.length h
 have e2:=PlsAt.length h'
 rw [e1] at h
 rw [e2] at h'
 rw [e1,e2]
 have hn0:((L.length:Int) != (L.length:Int))=false:=by simp
 have H:=Lib.hid (And.intro h (And.intro h' (And.intro e1 (And.intro e2 hl))))
 clear h h' e1 e2 hl
 go_enter Tryz.func34,Tryz.ntmps34
 go_wp2_with fail
 go_loopw [5] (fun i wr=>∃ k:Nat,k<=L.length/\i=.int .i64 k/\Below w.heap.size w wr) (fun i _=>L.length-(intOf i).toNat)
 case atStart=>exact ⟨0,Nat.zero_le _,rfl,Below.refl _ _⟩
 case round =>
  rename_i wr
  obtain ⟨k,hk,rfl,hb⟩:=hrel
  have HB:=Lib.hid hb;clear hb
  by_cases hlt:k<L.length
  ·have hlt':(k:Int)<(L.length:Int):=by omega
   obtain ⟨l,hlk⟩:∃ l,L[k]? = some l:=⟨_,List.getElem?_eq_getElem hlt⟩
   obtain ⟨u,huk⟩:∃ u,us[k]? = some u:=⟨_,List.getElem?_eq_getElem (by have:=H.out.2.2.1;omega)⟩
   obtain ⟨u',huk'⟩:∃ u,us'[k]? = some u:=⟨_,List.getElem?_eq_getElem (by have:=H.out.2.2.2.1;omega)⟩
   have hp:=PlsAt.play (PlsG.below H.out.1 HB.out) huk hlk
   have hp':=PlsAt.play (PlsG.below H.out.2.1 HB.out) huk' hlk
   obtain ⟨g,c1,e,k0,k1⟩:=(PlsG.below H.out.1 HB.out).cells huk
   obtain ⟨g',c1',e',k0',k1'⟩:=(PlsG.below H.out.2.1 HB.out).cells huk'
   simp only [Value.slice.injEq] at e e'
   obtain ⟨rfl,hz0,rfl⟩:=e
   obtain ⟨rfl,hz1,rfl⟩:=e'
   clear hz0 hz1
   obtain ⟨u1,u2⟩:=u
   obtain ⟨u1',u2'⟩:=u'
   obtain ⟨b1,d1,q1⟩:=hp.1.slice
   obtain ⟨b2,d2,q2⟩:=hp.2.slice
   obtain ⟨b1',d1',q1'⟩:=hp'.1.slice
   obtain ⟨b2',d2',q2'⟩:=hp'.2.slice
   simp only at q1 q2 q1' q2'
   subst q1;subst q2;subst q1';subst q2'
   obtain ⟨n,hn⟩:=zzN (l.length)
   dsimp only at hp hp' k0 k1 k0' k1'
   rw [hn] at hp hp' k0 k1 k0' k1'
   have CE:=Lib.hid (fun x (hx:Below wr.heap.size wr x)=>samePlay_any l (.slice b1 n d1) (.slice b2 n d2) (.slice b1' n d1') (.slice b2' n d2') x (hp.below hx) (hp'.below hx) (H.out.2.2.2.2 l (List.mem_of_getElem? hlk)))
   have KEY:Hid (∀ x,Below wr.heap.size wr x->x.cell? ⟨g,k*2,none⟩=some (.slice b1 n d1)/\x.cell? ⟨g,k*2+1,none⟩=some (.slice b2 n d2)/\x.cell? ⟨g',k*2,none⟩=some (.slice b1' n d1')/\x.cell? ⟨g',k*2+1,none⟩=some (.slice b2' n d2')):=Lib.hid (fun x hx=>by
    have key:∀ {p:Addr} {u:Value},wr.cell? p=some u->x.cell? p=some u:=fun h=>(hx.cell (World.block_lt_of_cell? _ _ h)).trans h
    exact ⟨key k0,key k1,key k0',key k1'⟩)
   clear hp hp' k0 k1 k0' k1' hn hlk huk huk'
   go_upto_region 6 with (fail)
   refine wp_region_noPanic ?_
   refine wp_region_S (fun w'=>Below wr.heap.size wr w') (fun _=>false) (by kernel_rfl) ?_
   have hSd:(fun w'=>Below wr.heap.size wr w') wr.drew:=Below.drew (Below.refl _ _)
   refine wpAnyS_take 0 (v:=?_) (by kernel_rfl) (by kernel_rfl) (by kernel_rfl) (by kernel_rfl) (fun _ _ _ _ h=>h) hSd ?_ ?_
   rotate_left
   ·(intro oi ho;simp at ho;subst ho;refine Or.inl ⟨by rfl,fun w' hw'=>?_⟩;go_simp;try with_reducible rfl)
   (intro d hd;simp at hd;subst hd;simp only [Act.put,List.setIfInBounds_toArray,List.set_cons_zero,List.set_cons_succ])
   refine wpAnyS_take 1 (v:=?_) (by kernel_rfl) (by kernel_rfl) (by kernel_rfl) (by kernel_rfl) (fun _ _ _ _ h=>h) hSd ?_ ?_
   rotate_left
   ·(intro oi ho;simp at ho;subst ho;refine Or.inl ⟨by rfl,fun w' hw'=>?_⟩;go_simp;try with_reducible rfl)
   (intro d hd;simp at hd;subst hd;simp only [Act.put,List.setIfInBounds_toArray,List.set_cons_zero,List.set_cons_succ])
   refine wpAnyS_take 2 (v:=?_) (by kernel_rfl) (by kernel_rfl) (by kernel_rfl) (by kernel_rfl) (fun _ _ _ _ h=>h) hSd ?_ ?_
   rotate_left
   ·(intro oi ho;simp at ho;subst ho;refine Or.inl ⟨by rfl,fun w' hw'=>?_⟩;go_simp;try with_reducible rfl)
   (intro d hd;simp at hd;subst hd;simp only [Act.put,List.setIfInBounds_toArray,List.set_cons_zero,List.set_cons_succ])
   refine wpAnyS_take 3 (v:=?_) (by kernel_rfl) (by kernel_rfl) (by kernel_rfl) (by kernel_rfl) (fun _ _ _ _ h=>h) hSd ?_ ?_
   rotate_left
   ·(intro oi ho;simp at ho;subst ho;refine Or.inl ⟨by rfl,fun w' hw'=>?_⟩;obtain ⟨e0,e1,e2,e3⟩:=KEY.out w' hw';go_simp;try with_reducible rfl)
   (intro d hd;simp at hd;subst hd;simp only [Act.put,List.setIfInBounds_toArray,List.set_cons_zero,List.set_cons_succ])
   refine wpAnyS_take 4 (v:=?_) (by kernel_rfl) (by kernel_rfl) (by kernel_rfl) (by kernel_rfl) (fun _ _ _ _ h=>h) hSd ?_ ?_
   rotate_left
   ·(intro oi ho;simp at ho;subst ho;refine Or.inl ⟨by rfl,fun w' hw'=>?_⟩;go_simp;try with_reducible rfl)
   (intro d hd;simp at hd;subst hd;simp only [Act.put,List.setIfInBounds_toArray,List.set_cons_zero,List.set_cons_succ])
   refine wpAnyS_take 5 (v:=?_) (by kernel_rfl) (by kernel_rfl) (by kernel_rfl) (by kernel_rfl) (fun _ _ _ _ h=>h) hSd ?_ ?_
   rotate_left
   ·(intro oi ho;simp at ho;subst ho;refine Or.inl ⟨by rfl,fun w' hw'=>?_⟩;go_simp;try with_reducible rfl)
   (intro d hd;simp at hd;subst hd;simp only [Act.put,List.setIfInBounds_toArray,List.set_cons_zero,List.set_cons_succ])
   refine wpAnyS_take 6 (v:=?_) (by kernel_rfl) (by kernel_rfl) (by kernel_rfl) (by kernel_rfl) (fun _ _ _ _ h=>h) hSd ?_ ?_
   rotate_left
   ·(intro oi ho;simp at ho;subst ho;refine Or.inl ⟨by rfl,fun w' hw'=>?_⟩;go_simp;try with_reducible rfl)
   (intro d hd;simp at hd;subst hd;simp only [Act.put,List.setIfInBounds_toArray,List.set_cons_zero,List.set_cons_succ])
   refine wpAnyS_take 7 (v:=?_) (by kernel_rfl) (by kernel_rfl) (by kernel_rfl) (by kernel_rfl) (fun _ _ _ _ h=>h) hSd ?_ ?_
   rotate_left
   ·(intro oi ho;simp at ho;subst ho;refine Or.inl ⟨by rfl,fun w' hw'=>?_⟩;obtain ⟨e0,e1,e2,e3⟩:=KEY.out w' hw';go_simp;try with_reducible rfl)
   (intro d hd;simp at hd;subst hd;simp only [Act.put,List.setIfInBounds_toArray,List.set_cons_zero,List.set_cons_succ])
   refine wpAnyS_one 8 (by kernel_rfl) ?_
   (intro o8 ho K' hK;simp at ho;subst ho)
   go_simp
   go_at_call 25
   (with_reducible refine (CE.out _ hSd).mono ?_)
   rintro en x8 ⟨rfl,hb8⟩
   have hB8:Below wr.heap.size wr x8:=Below.trans hSd (hb8.mono (Below.size hSd))
   refine hK.out _ _ ?_ ?_
   ·exact fun _=>hB8
   clear hK K'
   (try simp only [Act.put,List.setIfInBounds_toArray,List.set_cons_zero,List.set_cons_succ])
   refine wpAnyS_one 9 (by kernel_rfl) ?_
   (intro o9 ho K' hK;simp at ho;subst ho)
   go_simp
   refine hK.out _ _ ?_ ?_
   ·exact fun _=>hB8
   clear hK K'
   (try simp only [Act.put,List.setIfInBounds_toArray,List.set_cons_zero,List.set_cons_succ])
   refine wpAnyS_done (by kernel_rfl) (NoPanic.normal ?_) _
   have HB8:=Lib.hid (zzT HB.out hB8)
   clear hB8 hb8 hSd
   go_wp2_with fail
   go_roundw
   case rel=>exact ⟨k+1,by omega,by go_num,HB8.out⟩
   case measure=>simp [intOf];omega
  ·obtain rfl:k=L.length:=by omega
   go_wp2_with fail
   go_ret
   exact ⟨rfl,HB.out⟩
theorem i64_xor_nat (a b:Nat) (ha:a<9223372036854775808) (hb:b<9223372036854775808):bits .xor .i64 (a:Int) (b:Int)=((a ^^^ b:Nat):Int):=by
 have hx:a ^^^ b<2 ^ 63:=Nat.xor_lt_two_pow (by omega) (by omega)
 show IntKind.i64.wrap ((BitVec.ofInt 64 (a:Int) ^^^ BitVec.ofInt 64 (b:Int)).toNat:Int)=_
 rw [BitVec.toNat_xor,ofInt_u64 a (by omega),ofInt_u64 b (by omega)]
 generalize a ^^^ b=x at *
 simp [IntKind.wrap,IntKind.bits,IntKind.signed]
 omega
def RdAt (w:World) (rd P:Nat):Prop :=
 ∃ (a:Option Addr) (n c p:Nat),w.heap[rd]? = some (.cells #[.slice a n c,.int .i64 (p:Nat)] 137 (0,0))/\p<=P/\n<=2000 /\
   (n=0\/∃ b o,a=some ⟨b,o,none⟩/\b<rd/\∀ k,k<n->∃ x:Nat,x<256/\w.cell? ⟨b,o+k,none⟩=some (.int .u8 x))
theorem RdAt.lt {w:World} {rd P:Nat} (h:RdAt w rd P):rd<w.heap.size:=by
 obtain ⟨a,n,c,p,h1,_⟩:=h;exact lt_of_heap h1
theorem RdAt.mono {w:World} {rd P Q:Nat} (h:RdAt w rd P) (k:P<=Q):RdAt w rd Q:=by
 obtain ⟨a,n,c,p,h1,h2,h3⟩:=h;exact ⟨a,n,c,p,h1,Nat.le_trans h2 k,h3⟩
theorem RdAt.below {w w':World} {rd P:Nat} (h:RdAt w rd P) (hb:Below w.heap.size w w'):RdAt w' rd P:=by
 obtain ⟨a,n,c,p,h1,h2,h3,h4⟩:=h
 refine ⟨a,n,c,p,(hb.block _ (lt_of_heap h1)).trans h1,h2,h3,?_⟩
 rcases h4 with h4 | ⟨b,o,e,hne,hk⟩
 ·exact .inl h4
 ·refine .inr ⟨b,o,e,hne,fun k hk'=>?_⟩
  obtain ⟨x,hx,hc⟩:=hk k hk'
  exact ⟨x,hx,(hb.cell (World.block_lt_of_cell? w _ hc)).trans hc⟩
theorem RdAt.but {m:Nat->Prop} {w w':World} {rd P:Nat} (h:RdAt w rd P) (hb:But m w w') (hm:∀ i,i<=rd->¬ m i):RdAt w' rd P:=by
 obtain ⟨a,n,c,p,h1,h2,h3,h4⟩:=h
 refine ⟨a,n,c,p,(hb.block _ (lt_of_heap h1) (hm _ (Nat.le_refl _))).trans h1,h2,h3,?_⟩
 rcases h4 with h4 | ⟨b,o,e,hne,hk⟩
 ·exact .inl h4
 ·refine .inr ⟨b,o,e,hne,fun k hk'=>?_⟩
  obtain ⟨x,hx,hc⟩:=hk k hk'
  exact ⟨x,hx,(hb.cell (World.block_lt_of_cell? w _ hc) (hm _ (Nat.le_of_lt hne))).trans hc⟩
theorem RdAt.drew {w:World} {rd P:Nat} (h:RdAt w rd P):RdAt w.drew rd P:=h
theorem RdAt.drewN {w:World} {rd P:Nat} (h:RdAt w rd P) (n:Nat):RdAt (w.drewN n) rd P:=h
theorem RdAt.alloc {w:World} {rd P:Nat} (h:RdAt w rd P) (o:Obj):RdAt (w.alloc o) rd P:=h.below ((Below.refl _ _).alloc (Nat.le_refl _) _)
theorem below_dN_but {m:Nat->Prop} {a w:World} (h:But m a w) (n:Nat):But m a (w.drewN n):=⟨h.os,h.tape,h.output,h.size,h.block⟩
def Picked (rd P n:Nat) (w:World) (en:Ending) (w':World):Prop :=
 ∃ v:Nat,en=.returned (.int .i64 (v:Nat))/\v<n/\But (· = rd) w w'/\RdAt w' rd (P+1)
theorem wrap_to {z:Int} {n:Nat} (e:z=(n:Int)) (h:n<9223372036854775808):IntKind.i64.wrap z=(n:Int):=by rw [e];exact wrap_nat n h
structure Mix (p m x1 x2 n:Nat) (I A B C J D E G H Q R X Y Z V:Nat):Prop where
 i:(p:Int).tmod (m:Int)=(I:Int)
 a:IntKind.i64.wrap ((x1:Int)*131)=(A:Int)
 b:IntKind.i64.wrap ((p:Int)*7)=(B:Int)
 c:IntKind.i64.wrap ((B:Int)+3)=(C:Int)
 j:(C:Int).tmod (m:Int)=(J:Int)
 d:IntKind.i64.wrap ((x2:Int)*1117)=(D:Int)
 e:IntKind.i64.wrap ((A:Int)+(D:Int))=(E:Int)
 g:IntKind.i64.wrap ((p:Int)*29)=(G:Int)
 h:IntKind.i64.wrap ((E:Int)+(G:Int))=(H:Int)
 q:(p:Int).tdiv (m:Int)=(Q:Int)
 r:IntKind.i64.wrap ((Q:Int)*53)=(R:Int)
 x:IntKind.i64.wrap ((H:Int)+(R:Int))=(X:Int)
 y:(X:Int).tdiv 64=(Y:Int)
 z:bits .xor .i64 (X:Int) (Y:Int)=(Z:Int)
 v:(Z:Int).tmod (n:Int)=(V:Int)
 vn:V<n
 wq:IntKind.i64.wrap (Q:Int)=(Q:Int)
 wy:IntKind.i64.wrap (Y:Int)=(Y:Int)
theorem mix_any (p m x1 x2 n:Nat) (hp:p<=1099511627776) (hx1:x1<256) (hx2:x2<256) (hn:0<n) :
 ∃ A B D E G H Q R X Y Z V:Nat,Mix p m x1 x2 n (p % m) A B (p*7+3) ((p*7+3) % m) D E G H Q R X Y Z V:=by
 have hq:p / m<=p:=Nat.div_le_self _ _
 have hX:x1*131+x2*1117+p*29+p / m*53<9223372036854775808:=by omega
 have hY:(x1*131+x2*1117+p*29+p / m*53) / 64<9223372036854775808:=by omega
 refine ⟨x1*131,p*7,x2*1117,x1*131+x2*1117,p*29,x1*131+x2*1117+p*29,p / m,p / m*53,x1*131+x2*1117+p*29+p / m*53,(x1*131+x2*1117+p*29+p / m*53) / 64,(x1*131+x2*1117+p*29+p / m*53) ^^^ ((x1*131+x2*1117+p*29+p / m*53) / 64),((x1*131+x2*1117+p*29+p / m*53) ^^^ ((x1*131+x2*1117+p*29+p / m*53) / 64)) % n,?_⟩
 exact ⟨tmod_nat _ _,wrap_to (by omega) (by omega),wrap_to (by omega) (by omega),wrap_to (by omega) (by omega),tmod_nat _ _,wrap_to (by omega) (by omega),wrap_to (by omega) (by omega),wrap_to (by omega) (by omega),wrap_to (by omega) (by omega),
  tdiv_nat _ _,wrap_to (by omega) (by omega),wrap_to (by omega) hX,tdiv_nat _ 64,i64_xor_nat _ _ hX hY,tmod_nat _ _,Nat.mod_lt _ hn,wrap_nat _ (by omega),wrap_nat _ hY⟩
set_option maxRecDepth 100000 in
theorem pick_any (rd P n:Nat) (w:World) (h:RdAt w rd P) (hn:0<n) (hn2:n<=16777216) (hP:P<=1099511627776) :
 Calls Tryz.prog 83 #[.pointer (some ⟨rd,0,none⟩),.int .i64 (n:Nat)] w (Picked rd P n w):=by
 obtain ⟨a,m,c,p,h1,hp,hm,hcs⟩:=h
 have hpP:p<=1099511627776:=by omega
 have c0:w.cell? ⟨rd,0,none⟩=some (.slice a m c):=by simp [World.cell?,h1]
 have c1:w.cell? ⟨rd,1,none⟩=some (.int .i64 (p:Nat)):=by simp [World.cell?,h1]
 have f1:w.frozen? ⟨rd,1,none⟩=false:=by simp [World.frozen?,h1]
 have hlt:=lt_of_heap h1
 obtain ⟨W,hW⟩:=zzN (w.setCell ⟨rd,1,none⟩ (.int .i64 ((p:Int)+1)))
 have hblk:W.heap[rd]? = some (.cells #[.slice a m c,.int .i64 ((p+1:Nat):Int)] 137 (0,0)):=by
  have h':w.heap[rd]=.cells #[.slice a m c,.int .i64 (p:Nat)] 137 (0,0):=by simpa [Array.getElem?_eq_getElem hlt] using h1
  rw [<- hW]
  show (w.heap.modify rd _)[rd]? = _
  rw [Array.getElem?_eq_getElem (by simpa using hlt),Array.getElem_modify_self,h']
  simp
 have hbut:But (· = rd) w W:=by rw [<- hW];exact (But.refl (· = rd) _).setCell (p:=⟨rd,1,none⟩) (.inl rfl) _
 have d0:W.cell? ⟨rd,0,none⟩=some (.slice a m c):=by simp [World.cell?,hblk]
 have d1:W.cell? ⟨rd,1,none⟩=some (.int .i64 ((p:Int)+1)):=by simp [World.cell?,hblk]
 have hrd:RdAt W rd (P+1):=by
  refine ⟨a,m,c,p+1,hblk,by omega,hm,?_⟩
  rcases hcs with h4 | ⟨b,o,e,hne,hk⟩
  ·exact .inl h4
  ·refine .inr ⟨b,o,e,hne,fun k hk'=>?_⟩
   obtain ⟨x,hx,hc⟩:=hk k hk'
   exact ⟨x,hx,(hbut.cell (World.block_lt_of_cell? w _ hc) (fun e=>Nat.ne_of_lt hne e)).trans hc⟩
 have RD:=Lib.hid hrd;have BT:=Lib.hid hbut
 have g0:¬ (n:Int)<1:=by omega
 have gn:((n:Int) == 0)=false:=by rw [beq_eq_false_iff_ne];omega
 have hWb:∀ (b o:Nat) (v:Value),b≠rd->w.cell? ⟨b,o,none⟩=some v->W.cell? ⟨b,o,none⟩=some v:=fun b o v hne hc =>
  (hbut.cell (p:=⟨b,o,none⟩) (World.block_lt_of_cell? w ⟨b,o,none⟩ hc) (fun e=>hne e)).trans hc
 have WB:=Lib.hid hWb;have HCS:=Lib.hid hcs;have HW:=Lib.hid hW
 clear hrd hbut h1 hblk hWb hcs hW
 go_enter Tryz.func83,Tryz.ntmps83
 go_upto_region 2 with (fail)
 rw [HW.out]
 clear c0 c1 f1
 rcases HCS.out with h0 | ⟨b,o,e,hne,hk⟩
 ·subst h0
  go_wp2_with fail
  go_ret
  exact ⟨0,rfl,hn,BT.out,RD.out⟩
 ·subst e
  have HK:=Lib.hid hk;clear hk
  by_cases hm0:m=0
  ·subst hm0
   go_wp2_with fail
   go_ret
   exact ⟨0,rfl,hn,BT.out,RD.out⟩
  have gm:((m:Int) == 0)=false:=by rw [beq_eq_false_iff_ne];omega
  by_cases hpm:p<m
  ·obtain ⟨x,hx,hc⟩:=HK.out p hpm
   have e1:=WB.out _ _ _ (Nat.ne_of_lt hne) hc
   have hpm':(p:Int)<(m:Int):=by omega
   have et:(x:Int).tmod (n:Int)=((x % n:Nat):Int):=tmod_nat _ _
   have hv:x % n<n:=Nat.mod_lt _ hn
   have HV:=Lib.hid hv;clear hv hc
   go_wp2_with fail
   go_ret
   exact ⟨x % n,rfl,HV.out,BT.out,RD.out⟩
  ·have hpm':¬ (p:Int)<(m:Int):=by omega
   obtain ⟨x1,hx1,hc1⟩:=HK.out (p % m) (Nat.mod_lt _ (by omega))
   obtain ⟨x2,hx2,hc2⟩:=HK.out ((p*7+3) % m) (Nat.mod_lt _ (by omega))
   have e1:=WB.out _ _ _ (Nat.ne_of_lt hne) hc1
   have e2:=WB.out _ _ _ (Nat.ne_of_lt hne) hc2
   obtain ⟨A,B,D,E,G,H,Q,R,X,Y,Z,V,M⟩:=mix_any p m x1 x2 n hpP hx1 hx2 hn
   have hI:p % m<m:=Nat.mod_lt _ (by omega)
   have hJ:(p*7+3) % m<m:=Nat.mod_lt _ (by omega)
   generalize p % m=I at *
   generalize (p*7+3) % m=J at *
   generalize p*7+3=C at *
   have hI':(I:Int)<(m:Int):=by omega
   have hJ':(J:Int)<(m:Int):=by omega
   have q1:=M.i;have q2:=M.a;have q3:=M.b;have q4:=M.c;have q5:=M.j;have q6:=M.d;have q7:=M.e;have q8:=M.g;have q9:=M.h
   have q10:=M.q;have q11:=M.r;have q12:=M.x;have q13:=M.y;have q14:=M.z;have q15:=M.v;have q16:=M.wq;have q17:=M.wy
   have MV:=Lib.hid M.vn
   clear hc1 hc2 M
   go_wp2_with fail
   go_quiet (fail)
   go_wp2_with fail
   go_ret
   exact ⟨V,rfl,MV.out,below_dN_but BT.out _,RD.out.drewN _⟩
def StrSl (w:World) (rd:Nat) (l:Value) (xs:List Bs):Prop :=
 ∃ b o c,l=.slice (some ⟨b,o,none⟩) xs.length c/\b≠rd/\∀ (k:Nat) (s:Bs),xs[k]? = some s->w.cell? ⟨b,o+k,none⟩=some (str s)
theorem StrSl.new {w:World} {rd:Nat} (hrd:rd<w.heap.size) (xs:List Bs) (n:Nat) (hn:n=xs.length) (e:TypeId):StrSl (w.alloc (.cells (xs.map str).toArray e)) rd (.slice (some ⟨w.heap.size,0,none⟩) n n) xs:=by
 subst hn
 refine ⟨w.heap.size,0,_,rfl,by omega,fun k s hs=>?_⟩
 rw [Nat.zero_add]
 simp only [World.cell?,heap_new]
 simp [hs]
def Took (rd P:Nat) (xs:List Bs) (w:World) (en:Ending) (w':World):Prop :=
 ∃ s∈xs,en=.returned (str s)/\But (· = rd) w w'/\RdAt w' rd P
theorem of_any (rd P:Nat) (l:Value) (xs:List Bs) (w:World) (h:RdAt w rd P) (hl:StrSl w rd l xs) (hx:0<xs.length) (hx2:xs.length<=16777216) (hP:P<=1099511627776) :
 Calls Tryz.prog 117 #[.pointer (some ⟨rd,0,none⟩),l] w (Took rd (P+1) xs w):=by
 obtain ⟨b,o,c,rfl,hne,hk⟩:=hl
 have HK:=Lib.hid hk;clear hk
 go_enter Tryz.func117,Tryz.ntmps117
 go_wp2_with fail
 refine (pick_any rd P xs.length w h hx hx2 hP).mono ?_
 rintro en w1 ⟨v,rfl,hv,hb,hr⟩
 obtain ⟨s,hs⟩:∃ s,xs[v]? = some s:=⟨xs[v],by simp [hv]⟩
 have hc:=HK.out v s hs
 have hc1:w1.cell? ⟨b,o+v,none⟩=some (str s):=(hb.cell (p:=⟨b,o+v,none⟩) (World.block_lt_of_cell? w ⟨b,o+v,none⟩ hc) (fun e=>hne e)).trans hc
 have hv':(v:Int)<(xs.length:Int):=by omega
 have HM:=Lib.hid (List.mem_of_getElem? hs)
 clear hs hc
 go_wp2_with fail
 go_ret
 exact ⟨s,HM.out,rfl,hb,hr⟩
def typeTexts:List Bs:=[[98],[40,62,32,98,32,98,41],[40,62,32,98,32,40,62,32,98,32,98,41,41],[40,62,32,40,62,32,98,32,98,41,32,98,41],[40,62,32,40,62,32,98,32,98,41,32,40,62,32,98,32,98,41,41],[40,62,32,40,62,32,40,62,32,98,32,98,41,32,98,41,32,98,41],[40,62,32,40,62,32,98,32,40,62,32,98,32,98,41,41,32,98,41],[40,62,32,98,32,40,62,32,40,62,32,98,32,98,41,32,98,41,41]]
def oddTexts:List Bs:=[[],[99],[40,62,32,98,41],[40,62,32,32,98,32,98,41],[40,62,32,98,32,98,32,98,41],[98,32],[40,62,32,40,62,32,40,62,32,40,62,32,98,32,98,41,32,40,62,32,98,32,98,41,41,32,40,62,32,98,32,98,41,41,32,40,62,32,98,32,40,62,32,98,32,98,41,41,41]]
def badTexts:List Bs:=[[],[120],[40,48,32,116,41],[40,57,32,116,32,102,41],[40,48,32,32,116,32,102,41],[40,48,48,32,116,32,102,41],[117,32],[40,48,32,116,32,102,32,116,32,102,41]]
def atomTexts:List Bs:=[[116],[102],[116],[102],[117]]
set_option maxRecDepth 100000 in
theorem l91Type_any (rd P:Nat) (w:World) (h:RdAt w rd P) (hP:P<=1099511627776) :
 Calls Tryz.prog 99 #[.pointer (some ⟨rd,0,none⟩)] w (Took rd (P+1) typeTexts w):=by
 have hlt:=h.lt
 go_enter Tryz.func99,Tryz.ntmps99
 go_wp2_with fail
 refine (of_any rd P _ typeTexts _ (h.alloc _) (StrSl.new hlt typeTexts 8 rfl _) (by decide) (by decide) hP).mono ?_
 rintro en w1 ⟨s,hs,rfl,hb,hr⟩
 have HM:=Lib.hid hs;clear hs
 go_wp2_with fail
 go_ret
 exact ⟨s,HM.out,rfl,((But.refl _ w).alloc _).trans hb,hr⟩
set_option maxRecDepth 100000 in
theorem l91Odd_any (rd P:Nat) (w:World) (h:RdAt w rd P) (hP:P+1<=1099511627776) :
 Calls Tryz.prog 88 #[.pointer (some ⟨rd,0,none⟩)] w (Took rd (P+2) (typeTexts++oddTexts) w):=by
 go_enter Tryz.func88,Tryz.ntmps88
 go_wp2_with fail
 refine (pick_any rd P 12 w h (by omega) (by omega) (by omega)).mono ?_
 rintro en w1 ⟨v,rfl,hv,hb1,hr1⟩
 have hlt:=hr1.lt
 by_cases hv0:v=0
 ·subst hv0
  go_wp2_with fail
  refine (of_any rd (P+1) _ oddTexts _ (hr1.alloc _) (StrSl.new hlt oddTexts 7 rfl _) (by decide) (by decide) hP).mono ?_
  rintro en w2 ⟨s,hs,rfl,hb,hr⟩
  have HM:=Lib.hid hs;clear hs
  go_wp2_with fail
  go_ret
  exact ⟨s,List.mem_append_right _ HM.out,rfl,(hb1.alloc _).trans hb,hr⟩
 ·have hv1:((v:Int) == 0)=false:=by rw [beq_eq_false_iff_ne];omega
  go_wp2_with fail
  refine (l91Type_any rd (P+1) w1 hr1 hP).mono ?_
  rintro en w2 ⟨s,hs,rfl,hb,hr⟩
  have HM:=Lib.hid hs;clear hs
  go_wp2_with fail
  go_ret
  exact ⟨s,List.mem_append_left _ HM.out,rfl,hb1.trans hb,hr⟩
end Go.Proofs.YtdfkiicodfbibaaGreatDoor

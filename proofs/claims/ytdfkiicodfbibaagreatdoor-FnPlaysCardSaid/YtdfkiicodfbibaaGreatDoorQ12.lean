/- Walks of functions that the statement reaches, and plain words. No conditions. -/
import Derived.Test.YtdfkiicodfbibaaGreatDoorQ11
set_option linter.unusedVariables false
set_option linter.unusedSimpArgs false
set_option maxHeartbeats 16000000
namespace Go.Proofs.YtdfkiicodfbibaaGreatDoor
open Go.RowKit
def MovQ (xs:List Bs) (a:Option Addr) (n c:Nat) (t:Ty) (p:Bs) (w:World) (en:Ending) (w':World):Prop :=
 ∃ a' n' c',en=.returned (.slice a' n' c')/\n'=n+(movesT t p).length/\But (fun b=>(Value.slice a n c).ownBlock=some b) w w'/\Own w' 9 1 (.slice a' n' c') n' ((xs++movesT t p).map str)/\∀ g,(Value.slice a' n' c').ownBlock=some g->(Value.slice a n c).ownBlock=some g\/w.heap.size<=g
structure MvI (B:Nat) (xs:List Bs) (a:Option Addr) (n c:Nat) (ta:Option Addr) (tl tc:Nat) (t:Ty) (p:Bs) (w:World) (k:Nat) (a':Option Addr) (n' c':Nat) (wz:World):Prop where
 len:n'=n+(movesTo t p k).length
 but:But (fun b=>(Value.slice a n c).ownBlock=some b) w wz
 own:Own wz 9 1 (.slice a' n' c') n' ((xs++movesTo t p k).map str)
 row:∀ g,(Value.slice a' n' c').ownBlock=some g->(Value.slice a n c).ownBlock=some g\/w.heap.size<=g
 box:wz.heap[w.heap.size]? = some (.cells #[.slice ta tl tc] 78 (0,0))
theorem Rep.butRow {F:Nat->Prop} {w w':World} {m:Nat->Prop} {d:DV} {v:Value} (h:Rep F w d v) (hb:But m w w') (hm:∀ b,F b->¬ m b):Rep F w' d v :=
 (Rep.keep fun b o hF ho=>⟨hF,by rw [hb.block b (lt_of_heap ho) (hm b hF)];exact ho⟩).1 _ _ h
set_option maxRecDepth 100000 in
theorem l1Moves_any (B:Nat):∀ (m:Nat) (t:Ty) (p:Bs) (tv:Value) (xs:List Bs) (a:Option Addr) (n c:Nat) (w:World),atomsT t<=m->m<=15->p.length+m<=1000->n+200*m<=100000->B<=w.heap.size->Rep (· < B) w (encS t) tv->Own w 9 1 (.slice a n c) n (xs.map str)->(∀ g,(Value.slice a n c).ownBlock=some g->B<=g) ->
 Calls Tryz.prog 128 #[.agg #[tv],str p,.slice a n c] w (MovQ xs a n c t p w):=by
 intro m
 induction m with
 | zero=>intro t p tv xs a n c w h;have:=atomsT_pos t;omega
 | succ m ih =>
   intro t p tv xs a n c w hm h15 hp hnb hBw hv hown hrow
   obtain ⟨ta,tc,rfl⟩:=encS_slice hv
   have hv':=hv
   rw [encS_eq] at hv'
   obtain ⟨sa,sc,e,hcap,hlen,hats⟩:=Rep_sl1_open hv'
   simp only [Value.slice.injEq] at e
   obtain ⟨rfl,_,rfl⟩:=e
   have hal:=args_len t
   obtain ⟨W,hW,hbW,hz,b0⟩:=box_1 w (.cells #[.slice ta t.args.length tc] 78)
   obtain ⟨Q,hQ⟩:∃ O:Bs,O=[113]++p:=⟨_,rfl⟩
   obtain ⟨T,hT⟩:∃ O:Bs,O=[116]++p:=⟨_,rfl⟩
   obtain ⟨G,hG⟩:∃ O:Bs,O=[102]++p:=⟨_,rfl⟩
   have s1:=fun w0=>add_str (P:=Tryz.prog) [113] p (by simp;omega) w0
   have s2:=fun w0=>add_str (P:=Tryz.prog) [116] p (by simp;omega) w0
   have s3:=fun w0=>add_str (P:=Tryz.prog) [102] p (by simp;omega) w0
   rw [<- hQ] at s1;rw [<- hT] at s2;rw [<- hG] at s3
   have HM0:=Lib.hid (show movesTo t p 0=[Q,T,G] by rw [movesTo_zero,hQ,hT,hG];rfl)
   have HALL:=Lib.hid (movesTo_all t p)
   have HNX:=Lib.hid (fun k a (h:t.args[k]? = some a)=>movesTo_next h p)
   have HLN:=Lib.hid (fun k=>movesTo_len (t:=t) (by omega) p k)
   have HW:=Lib.hid (And.intro hW (And.intro hbW b0))
   have AT:=Lib.hid hats
   have IH:=Lib.hid ih
   have HP:=Lib.hid (And.intro hm (And.intro h15 (And.intro hp (And.intro hal (And.intro hBw (And.intro hrow hv))))))
   have HOW:=Lib.hid (hown.keep (w':=W) fun g o _ ho=>by rw [hbW.block g (lt_of_heap ho)];exact ho)
   have HLT:=Lib.hid (fun g hg=>hown.lt (g:=g) hg)
   have hnn:t.args.length<=7:=by omega
   have hpl:p.length<=1000:=by omega
   have hnl:n<=100000:=by omega
   have HNB:=Lib.hid hnb
   clear hQ hT hG hW hbW hz b0 hats ih hm h15 hp hal hv hv' hown hrow hlen hBw hcap hnb
   go_enter Tryz.func128,Tryz.ntmps128
   go_upto_region 1 with (fail)
   rw [HW.out.1]
   go_wp2_with (at_builtin;refine wpList_append_gen rfl _ _ 30 rfl 9 (str []) 1 16 Tryz.underlying30 Tryz.infoStr rfl (by decide) (.slice a n c) n (xs.map str) rfl ?c1 _ 3 [str Q,str T,str G] rfl ?c2 ?c3 ?c4 ?_)
   case c1=>exact HOW.out.alloc _
   case c2=>exact SrcSl.lits #[str Q,str T,str G] 3 rfl (by simp [str,Value.oneCell']) _ (by simp)
   case c3=>unfold maxLen;omega
   case c4=>omega
   intro a2 c2 w2 ho2 hb2 hg2
   have hbb:=HW.out.2.1.alloc HW.out.2.1.size (.cells #[str Q,str T,str G] 9)
   have hI0:MvI B xs a n c ta t.args.length tc t p w 0 a2 (n+3) c2 w2:=by
    refine ⟨by rw [HM0.out];rfl,(But.ofBelow hbb).trans' hb2 (fun _ _ h=>h),by rw [HM0.out,List.map_append];exact ho2,fun g hg=>?_,?_⟩
    ·rcases hg2 g hg with h | h
     ·exact .inl h
     ·(try rw [size_alloc] at h);have:=HW.out.2.1.size;exact .inr (by omega)
    ·have h5:=lt_of_heap HW.out.2.2
     rw [hb2.block _ (by rw [size_alloc];omega) (fun e=>by have:=HLT.out _ e;omega),Below.heap_alloc _ _ _ h5]
     exact HW.out.2.2
   have HI0:=Lib.hid hI0
   clear ho2 hb2 hg2 hbb hI0
   go_wp2_with fail
   go_loopw [2,7] (fun o i wr=>∃ (k n' c':Nat) (a':Option Addr) (wz:World),wz=wr/\k<=t.args.length/\i=.int .i64 k/\o=.slice a' n' c'/\MvI B xs a n c ta t.args.length tc t p w k a' n' c' wz) (fun _ i _=>t.args.length-(intOf i).toNat)
   case atStart=>exact ⟨0,_,_,_,_,rfl,Nat.zero_le _,rfl,rfl,HI0.out⟩
   case round =>
    obtain ⟨k,n',c',a',wr,rfl,hk,rfl,rfl,hI⟩:=hrel
    have HI:=Lib.hid hI
    have z0:=one_cell hI.box
    clear hI
    by_cases hlt:k<t.args.length
    ·have hltI:(k:Int)<(t.args.length:Int):=by omega
     obtain ⟨b',o',u,d,rfl,hFb,hb',hd,hu,hr⟩:=AT.out k hlt
     rw [encSs_at,Option.map_eq_some_iff] at hd
     obtain ⟨t',ht',rfl⟩:=hd
     obtain ⟨ua,uc,rfl⟩:=encS_slice hr
     have hnr:∀ b,b<B->¬ (Value.slice a n c).ownBlock=some b:=fun b hb e=>by have:=HP.out.2.2.2.2.2.1 b e;omega
     have kk:wr.cell? ⟨b',o'+k,none⟩=some (.slice ua t'.args.length uc):=(HI.out.but.cell (p:=⟨b',o'+k,none⟩) hb' (hnr b' hFb)).trans hu
     have hat2:=atomsT_arg ht'
     have hNX:=HNX.out k t' ht'
     have hrw:=Rep.butRow hr HI.out.but hnr
     have HT:=Lib.hid (And.intro hat2 (And.intro hNX hrw))
     have hdl:(dec k).length<=2:=dec_length 1 k (by omega)
     have hadd:=fun w0=>add_str (P:=Tryz.prog) p (dec k) (by omega) w0
     obtain ⟨S,hS⟩:=zzN (p++dec k)
     rw [hS] at hadd HT
     have hSl:S.length<=p.length+1:=by rw [<- hS,List.length_append];have:=dec_small (show k<10 by omega);rw [this];simp
     have hszw:=HI.out.but.size
     have hlen1:=HLN.out (k+1)
     have hn2:n'+200*m<=100000:=by have h1:=HI.out.len;have h2:=HLN.out k;have:=HNB.out;omega
     have C1:=Lib.hid (fun y=>l6Dec_any k (by omega) y)
     have IH1:=Lib.hid (fun (y:World) (hy:Below wr.heap.size wr y)=>IH.out t' S (.slice ua t'.args.length uc) (xs++movesTo t p k) a' n' c' y (by have:=HT.out.1;have:=HP.out;omega) (by have:=HP.out;omega) (by have:=HP.out;omega) hn2 (Nat.le_trans HP.out.2.2.2.2.1 (Nat.le_trans hszw hy.size)) (HT.out.2.2.below hy fun _ h=>h)
      (HI.out.own.keep fun g o _ ho=>by rw [hy.block g (lt_of_heap ho)];exact ho) (fun g hg=>by
       rcases HI.out.row g hg with h | h
       ·exact HP.out.2.2.2.2.2.1 g h
       ·exact Nat.le_trans HP.out.2.2.2.2.1 h))
     unfold MovQ at IH1
     obtain ⟨K,hK⟩:=zzN ((movesT t' S).length)
     rw [hK] at IH1
     have HK:=Lib.hid hK
     have KEY:=Lib.hid (fun (y:World) (hy:Below wr.heap.size wr y)=>(show y.cell? ⟨w.heap.size,0,none⟩=some (.slice (some ⟨b',o',none⟩) t.args.length tc)/\y.cell? ⟨b',o'+k,none⟩=some (.slice ua t'.args.length uc) from
      ⟨(hy.cell (World.block_lt_of_cell? _ _ z0)).trans z0,(hy.cell (World.block_lt_of_cell? _ _ kk)).trans kk⟩))
     clear hS hdl hb' hu hr ht' hat2 hNX hrw hnr hszw hlen1 hK hSl kk hn2
     go_upto_region 5 with (fail)
     clear z0
     refine wp_region_noPanic ?_
     refine wp_region_S (fun w'=>Below wr.heap.size wr w') (fun i=>decide (10<=i)) (by kernel_rfl) ?_
     have hSd:(fun w'=>Below wr.heap.size wr w') wr.drew:=Below.drew (Below.refl _ _)
     refine wpAnyS_takeD 0 [1,3,4,10,11] (v:=?_) (by kernel_rfl) (by kernel_rfl) (by kernel_rfl) (by kernel_rfl) (fun _ _ _ _ h=>h) hSd ?_ ?_
     rotate_left
     ·(intro oi ho;simp at ho;subst ho;refine Or.inl ⟨by rfl,fun w' hw'=>?_⟩;go_simp;try with_reducible rfl)
     (intro d hd;simp at hd;subst hd;simp only [Act.put,List.setIfInBounds_toArray,List.set_cons_zero,List.set_cons_succ])
     refine wpAnyS_takeD 1 [3,4,10,11] (v:=?_) (by kernel_rfl) (by kernel_rfl) (by kernel_rfl) (by kernel_rfl) (fun _ _ _ _ h=>h) hSd ?_ ?_
     rotate_left
     ·(intro oi ho;simp at ho;subst ho;refine Or.inl ⟨by rfl,fun w' hw'=>?_⟩;obtain ⟨e0,e1⟩:=KEY.out w' hw';go_simp;try with_reducible rfl)
     (intro d hd;simp at hd;subst hd;simp only [Act.put,List.setIfInBounds_toArray,List.set_cons_zero,List.set_cons_succ])
     refine wpAnyS_takeD 2 [3,4,10,11] (v:=?_) (by kernel_rfl) (by kernel_rfl) (by kernel_rfl) (by kernel_rfl) (fun _ _ _ _ h=>h) hSd ?_ ?_
     rotate_left
     ·(intro oi ho;simp at ho;subst ho;refine Or.inl ⟨by rfl,fun w' hw'=>?_⟩;go_simp;try with_reducible rfl)
     (intro d hd;simp at hd;subst hd;simp only [Act.put,List.setIfInBounds_toArray,List.set_cons_zero,List.set_cons_succ])
     refine wpAnyS_takeD 3 [4,10,11] (v:=?_) (by kernel_rfl) (by kernel_rfl) (by kernel_rfl) (by kernel_rfl) (fun _ _ _ _ h=>h) hSd ?_ ?_
     rotate_left
     ·(intro oi ho;simp at ho;subst ho;refine Or.inl ⟨by rfl,fun w' hw'=>?_⟩;go_simp;try with_reducible rfl)
     (intro d hd;simp at hd;subst hd;simp only [Act.put,List.setIfInBounds_toArray,List.set_cons_zero,List.set_cons_succ])
     refine wpAnyS_takeD 4 [10,11] (v:=?_) (by kernel_rfl) (by kernel_rfl) (by kernel_rfl) (by kernel_rfl) (fun _ _ _ _ h=>h) hSd ?_ ?_
     rotate_left
     ·(intro oi ho;simp at ho;subst ho;refine Or.inl ⟨by rfl,fun w' hw'=>?_⟩;obtain ⟨e0,e1⟩:=KEY.out w' hw';go_simp;try with_reducible rfl)
     (intro d hd;simp at hd;subst hd;simp only [Act.put,List.setIfInBounds_toArray,List.set_cons_zero,List.set_cons_succ])
     refine wpAnyS_takeD 5 [8,10,11] (v:=?_) (by kernel_rfl) (by kernel_rfl) (by kernel_rfl) (by kernel_rfl) (fun _ _ _ _ h=>h) hSd ?_ ?_
     rotate_left
     ·(intro oi ho;simp at ho;subst ho;refine Or.inl ⟨by rfl,fun w' hw'=>?_⟩;go_simp;try with_reducible rfl)
     (intro d hd;simp at hd;subst hd;simp only [Act.put,List.setIfInBounds_toArray,List.set_cons_zero,List.set_cons_succ])
     refine wpAnyS_takeD 6 [7,8,10,11] (v:=?_) (by kernel_rfl) (by kernel_rfl) (by kernel_rfl) (by kernel_rfl) (fun _ _ _ _ h=>h) hSd ?_ ?_
     rotate_left
     ·(intro oi ho;simp at ho;subst ho;refine Or.inl ⟨by rfl,fun w' hw'=>?_⟩;go_simp;try with_reducible rfl)
     (intro d hd;simp at hd;subst hd;simp only [Act.put,List.setIfInBounds_toArray,List.set_cons_zero,List.set_cons_succ])
     refine wpAnyS_takeD 9 [10,11] (v:=?_) (by kernel_rfl) (by kernel_rfl) (by kernel_rfl) (by kernel_rfl) (fun _ _ _ _ h=>h) hSd ?_ ?_
     rotate_left
     ·(intro oi ho;simp at ho;subst ho;refine Or.inl ⟨by rfl,fun w' hw'=>?_⟩;go_simp;try with_reducible rfl)
     (intro d hd;simp at hd;subst hd;simp only [Act.put,List.setIfInBounds_toArray,List.set_cons_zero,List.set_cons_succ])
     refine wpAnyS_one 7 (by kernel_rfl) ?_
     (intro o7 ho K' hK;simp at ho;subst ho)
     go_simp
     go_at_call 154
     (with_reducible refine (C1.out _).mono ?_)
     rintro en x7 ⟨rfl,hb7⟩
     have hB7:Below wr.heap.size wr x7:=Below.trans hSd (hb7.mono (Below.size hSd))
     refine hK.out _ _ ?_ ?_
     ·exact fun _=>hB7
     clear hK K'
     (try simp only [Act.put,List.setIfInBounds_toArray,List.set_cons_zero,List.set_cons_succ])
     have hS7:=hB7
     refine wpAnyS_takeD 8 [10,11] (v:=?_) (by kernel_rfl) (by kernel_rfl) (by kernel_rfl) (by kernel_rfl) (fun _ _ _ _ h=>h) hS7 ?_ ?_
     rotate_left
     ·(intro oi ho;simp at ho;subst ho;refine Or.inl ⟨by rfl,fun w' hw'=>?_⟩;go_simp;try with_reducible rfl)
     (intro d hd;simp at hd;subst hd;simp only [Act.put,List.setIfInBounds_toArray,List.set_cons_zero,List.set_cons_succ])
     refine wpAnyS_one 10 (by kernel_rfl) ?_
     (intro o10 ho K' hK;simp at ho;subst ho)
     go_simp
     go_at_call 128
     (with_reducible refine (IH1.out x7 hB7).mono ?_)
     rintro en x10 ⟨a3,n3,c3,rfl,hn3,hb10,ho10,hf10⟩
     have HN3:=Lib.hid hn3
     clear hn3
     refine hK.out _ _ ?_ ?_
     ·intro h;simp at h
     clear hK K'
     (try simp only [Act.put,List.setIfInBounds_toArray,List.set_cons_zero,List.set_cons_succ])
     refine wpAnyS_one 11 (by kernel_rfl) ?_
     (intro o11 ho K' hK;simp at ho;subst ho)
     go_simp
     refine hK.out _ _ ?_ ?_
     ·intro h;simp at h
     clear hK K'
     (try simp only [Act.put,List.setIfInBounds_toArray,List.set_cons_zero,List.set_cons_succ])
     refine wpAnyS_done (by kernel_rfl) (NoPanic.normal ?_) _
     clear hSd KEY C1 IH1 hadd
     have hI2:MvI B xs a n c (some ⟨b',o',none⟩) t.args.length tc t p w (k+1) a3 n3 c3 x10:=by
      have hbut7:=HI.out.but.trans' (But.ofBelow (m:=fun _=>False) hB7) (fun _ _ h=>h.elim)
      have hsz7:=hB7.size
      have hszw:=HI.out.but.size
      refine ⟨by rw [HN3.out,HI.out.len,HT.out.2.1,List.length_append,HK.out];omega,hbut7.trans' hb10 (fun i hi e=>?_),by rw [HT.out.2.1,<- List.append_assoc];exact ho10,fun g hg=>?_,?_⟩
      ·rcases HI.out.row i e with h | h
       ·exact h
       ·omega
      ·rcases hf10 g hg with h | h
       ·exact HI.out.row g h
       ·exact .inr (by omega)
      ·have hbx:=(hB7.block _ (lt_of_heap HI.out.box)).trans HI.out.box
       rw [hb10.block _ (lt_of_heap hbx) (fun e=>HI.out.own.notBox HI.out.box (by decide) e)]
       exact hbx
     have HI2:=Lib.hid hI2
     clear hI2 hB7 hb7 hb10 ho10 hf10
     go_wp2_with fail
     go_roundw
     case rel=>exact ⟨k+1,_,_,_,_,rfl,by omega,by go_num,rfl,HI2.out⟩
     case measure=>simp [intOf];omega
    ·have hltI:¬ (k:Int)<(t.args.length:Int):=by omega
     obtain rfl:k=t.args.length:=by omega
     go_wp2_with fail
     go_ret
     have ho:=HI.out.own
     have hl:=HI.out.len
     rw [HALL.out] at ho hl
     exact ⟨a',n',c',rfl,hl,HI.out.but,ho,HI.out.row⟩
theorem NxR.empty (B:Nat) (w:World) (hB:B<=w.heap.size):NxR B [] (some ⟨w.heap.size,0,none⟩) 0 0 [] (w.alloc (.cells #[] 33)):=by
 refine ⟨rfl,⟨Own.lit #[] 0 (by unfold maxLen;omega) rfl,rfl,fun i u x h=>by simp at h,fun i j u u' _ h=>by simp at h⟩,fun g hg=>?_⟩
 rcases hg with hg | ⟨u,hu,_⟩
 ·simp [Value.ownBlock] at hg;omega
 ·simp at hu
theorem rowL_off {t:Ty} {v:Pl} {i:Nat} {ms:List Bs} (h:∀ m∈ms,fitsM t v m i=false):rowL t v i ms=[]:=by
 unfold rowL
 rw [List.filterMap_eq_nil_iff]
 intro m hm
 rw [h m hm];rfl
theorem has_eq (v:Pl) (o:Bool) (n i:Nat):((viewP v o n).map fun n=>((n:Nat):Int)).contains (i:Int)=(viewP v o n).contains i:=by
 rw [Bool.eq_iff_iff,List.contains_iff_mem,List.contains_iff_mem,List.mem_map]
 exact ⟨fun ⟨a,h1,h2⟩=>by obtain rfl:a=i:=by omega
                          exact h1,fun h=>⟨i,h,rfl⟩⟩
theorem who_mod (n:Nat):(n:Int) % 2=((whoI (decide (n % 2=0)):Nat):Int):=by
 rcases Nat.mod_two_eq_zero_or_one n with h | h
 ·rw [decide_eq_true h];unfold whoI;simp;omega
 ·rw [decide_eq_false (by omega)];unfold whoI;simp;omega
set_option maxRecDepth 100000 in
theorem l2Next_nil (t:Ty) (tv:Value) (c1 c2:Nat) (a1 a2:Option Addr) (w:World) (ha:SrcSl 1 (.slice a1 0 c1) 0 [] w) (hb:SrcSl 1 (.slice a2 0 c2) 0 [] w) (ht:∃ b n c,tv=.slice b n c) :
 Calls Tryz.prog 75 #[.agg #[tv],.agg #[.slice a1 0 c1,.slice a2 0 c2]] w (PlsQ (nextL t []) w):=by
 obtain ⟨tb,tn,tc,rfl⟩:=ht
 obtain ⟨W,hW,hbW,hz,b0,b1⟩:=boxes_2 w (.cells #[.slice tb tn tc] 78) (.cells #[.slice a1 0 c1,.slice a2 0 c2] 33)
 obtain ⟨W1,hW1,hbW1,hz1,b2⟩:=box_1 W (.cells #[] 33)
 have b1':=(hbW1.block _ (lt_of_heap b1)).trans b1
 obtain ⟨d0,d1,_,_⟩:=cells_2 b1'
 have hb01:=zzT hbW hbW1
 have CW:=Lib.hid (l2WithPl [] (.slice a1 0 c1) (.slice a2 0 c2) [113] (-1) W1 (ha.below hb01) (hb.below hb01) (Nat.zero_le _))
 have HN:=NxR.empty w.heap.size W hbW.size
 rw [hW1] at HN
 have H:=Lib.hid (And.intro hW (And.intro hW1 (And.intro hb01 HN)))
 clear hW hbW hz b0 b1 hW1 hbW1 hz1 b2 b1' hb01 ha hb HN
 go_enter Tryz.func75,Tryz.ntmps75
 go_upto_region 1 with (fail)
 rw [H.out.1]
 go_upto_region 2 with (fail)
 rw [H.out.2.1]
 go_wp2_with fail
 (with_reducible refine CW.out.mono ?_)
 rintro en y1 ⟨mvn,ptn,rfl,hpn,hb1,hfn⟩
 obtain ⟨a8,c8,e8⟩:=hpn.1.slice
 obtain ⟨a9,c9,e9⟩:=hpn.2.slice
 change mvn=.slice a8 1 c8 at e8
 change ptn=.slice a9 1 c9 at e9
 subst e8;subst e9
 have H1:=Lib.hid (And.intro hb1 (And.intro hpn hfn))
 clear hpn hb1 hfn CW
 go_wp2_with (at_builtin;refine wpList_append_gen rfl _ _ 26 rfl 33 (.agg #[.slice none 0 0,.slice none 0 0]) 2 48 Tryz.underlying26 Tryz.infoPlay rfl (by decide) (.slice (some ⟨W.heap.size,0,none⟩) 0 0) 0 (plC []) rfl ?c1 _ 1 [.slice a8 1 c8,.slice a9 1 c9] rfl ?c2 ?c3 ?c4 ?_)
 case c1=>exact (H.out.2.2.2.below H1.out.1).own.alloc _
 case c2=>exact SrcSl.litk #[.slice a8 1 c8,.slice a9 1 c9] rfl (by simp [Value.oneCell']) _ (by rfl)
 case c3=>unfold maxLen;omega
 case c4=>omega
 intro a7 c7 w7 ho7 hb7 hg7
 have hz1:=H1.out.1.size
 have hN7:=H.out.2.2.2.add (H1.out.1.alloc hz1 _) H.out.2.2.1.size (H1.out.2.1.below ((Below.refl _ _).alloc (Nat.le_refl _) _)) H1.out.2.2 ho7 hb7 (fun g hg=>by rw [size_alloc];exact hg7 g hg)
 have hB7:Below w.heap.size w w7:=(H.out.2.2.1.trans ((H1.out.1.alloc hz1 _).mono H.out.2.2.1.size)).trans (hb7.toBelow (by rw [size_alloc];have:=H.out.2.2.1.size;omega) fun g hg e=>by have:=H.out.2.2.2.new g (.inl e);omega)
 have HF:=Lib.hid (And.intro hB7 hN7)
 clear ho7 hb7 hg7 hz1 hN7 hB7
 go_wp2_with fail
 go_ret
 exact ⟨_,_,_,_,rfl,HF.out.1,HF.out.2⟩
set_option maxRecDepth 100000 in
theorem l2Next_any (F:Nat->Prop) (t:Ty) (v:Pl) (tv mv pt:Value) (w:World) (hk:Rep F w (encS t) tv) (hm:PlIn F t v mv pt w) (h15:atomsT t<=15) (hlg:legalP v=true) (hlen:v.length<60) :
 Calls Tryz.prog 75 #[.agg #[tv],.agg #[mv,pt]] w (PlsQ (nextL t v) w):=by
 obtain ⟨tb,tc,rfl⟩:=encS_slice hk
 obtain ⟨ma,mc,rfl⟩:=hm.m.src.slice
 obtain ⟨pa,pc,rfl⟩:=hm.p.src.slice
 by_cases h0:v.length=0
 ·obtain rfl:=List.eq_nil_of_length_eq_zero h0
  exact l2Next_nil t _ _ _ _ _ w hm.m.src hm.p.src ⟨_,_,_,rfl⟩
 have h0I:¬ (v.length:Int)=0:=by omega
 have h0B:((v.length:Int) == 0)=false:=by simpa using h0I
 have hkB:Rep (· < w.heap.size) w (encS t) (.slice tb t.args.length tc):=(Rep.keep fun b o _ ho=>⟨lt_of_heap ho,ho⟩).1 _ _ hk
 have hmB:PlIn (· < w.heap.size) t v (.slice ma v.length mc) (.slice pa v.length pc) w:=⟨(Rep.keep fun b o _ ho=>⟨lt_of_heap ho,ho⟩).1 _ _ hm.m,(Rep.keep fun b o _ ho=>⟨lt_of_heap ho,ho⟩).1 _ _ hm.p,hm.ok,hm.l⟩
 obtain ⟨W,hW,hbW,hz,b0,b1⟩:=boxes_2 w (.cells #[.slice tb t.args.length tc] 78) (.cells #[.slice ma v.length mc,.slice pa v.length pc] 33)
 obtain ⟨W1,hW1,hbW1,hz1,b2⟩:=box_1 W (.cells #[] 33)
 have E:=Lib.hid (show nextL t v=nextN t v v.length by unfold nextL;rw [if_neg h0])
 have FIT:=Lib.hid (fun m (hm':mvOk t m=true) i (hi:i<v.length)=>fits_eq hm.ok hlg (by omega) hlen hm' hi)
 have hb01:=zzT hbW hbW1
 have CV:=Lib.hid (l2View_any (· < w.heap.size) t v (decide (v.length % 2=0)) v.length (.slice ma v.length mc) (.slice pa v.length pc) W1 (hmB.below hb01).m (hmB.below hb01).p hm.ok (by omega) (Nat.le_refl _) hm.l)
 have hN0:=NxR.empty W.heap.size W (Nat.le_refl _)
 rw [hW1] at hN0
 have b0':=(hbW1.block _ (lt_of_heap b0)).trans b0
 have b1':=(hbW1.block _ (lt_of_heap b1)).trans b1
 have c0:=one_cell b0'
 obtain ⟨d0,d1,_,_⟩:=cells_2 b1'
 have hz2:W.heap.size=w.heap.size+2:=hz
 obtain ⟨o,ho⟩:∃ o,decide (v.length % 2=0)=o:=⟨_,rfl⟩
 have hwm:=who_mod v.length
 rw [ho] at hwm CV
 have hwt:(v.length:Int).tmod 2=((whoI o:Nat):Int):=by rw [Int.tmod_eq_emod_of_nonneg (by omega)];exact hwm
 have FIT2:Hid (∀ m,mvOk t m=true->∀ i,i<v.length->fitsM t v m i=(((viewP v o v.length).contains i && (!(m == [113]) && (byOpp m == o) && ((v[i]?).map (·.1) == some (enab m)))) && (isQ m || pendF v v.length [] == (i:Int)))):=Lib.hid (fun m h i hi=>by rw [FIT.out m h i hi];unfold fitsS;rw [ho])
 have HW:=Lib.hid (And.intro hW (And.intro hW1 (And.intro hbW (And.intro hb01 (And.intro b0' (And.intro b1' (And.intro b2 hN0)))))))
 have HM:=Lib.hid (And.intro hkB (And.intro hmB (And.intro h15 (And.intro hm.ok hm.l))))
 have HZ:=Lib.hid (show W.heap.size<=W1.heap.size from hbW1.size)
 have HZ2:=Lib.hid hz2
 have HMV:=Lib.hid (fun j m (h:(movesT t [])[j]? = some m)=>movesT_lim h15 (List.mem_of_getElem? h))
 have HMV2:=Lib.hid (fun m (h:m∈movesT t [])=>(movesT_lim h15 h).1)
 have H24:=Lib.hid (And.intro (moves_24 h15 []) (fun i=>nextN_len h15 v i))
 have hvl:=hlen
 clear hW hbW hz b0 b1 hW1 hbW1 hz1 b2 b0' b1' hb01 hk hm hkB hmB h15 hlg ho hz2 hN0 FIT hlen
 go_enter Tryz.func75,Tryz.ntmps75
 go_upto_region 1 with (fail)
 rw [HW.out.1]
 go_upto_region 2 with (fail)
 rw [HW.out.2.1]
 go_wp2_with fail
 (with_reducible refine CV.out.mono ?_)
 rintro en w2 ⟨xv,rfl,hb2,hvw⟩
 obtain ⟨vb,vo,vc,rfl,hvb,hvc⟩:=hvw
 have hvp:0<(viewP v o v.length).length:=viewP_pos v o (by omega)
 have hvG:¬ vb=W.heap.size:=fun e=>by
  have h1:=hvc 0 _ (List.getElem?_eq_getElem hvp)
  have h2:=(hb2.block _ (lt_of_heap HW.out.2.2.2.2.2.2.1)).trans HW.out.2.2.2.2.2.2.1
  rw [e] at h1
  simp [World.cell?,h2] at h1
 obtain ⟨nv,hnv⟩:=zzN ((viewP v o v.length).length)
 have hc0:=(hb2.cell (World.block_lt_of_cell? _ _ c0)).trans c0
 have hd0:=(hb2.cell (World.block_lt_of_cell? _ _ d0)).trans d0
 have hd1:=(hb2.cell (World.block_lt_of_cell? _ _ d1)).trans d1
 have hlen1:=HW.out.2.2.2.1.size
 have hbx:Below w2.heap.size w2 (w2.alloc (.cells #[] 9)):=(Below.refl _ _).alloc (Nat.le_refl _) _
 have hm2:Rep (· < w.heap.size) (w2.alloc (.cells #[] 9)) (encS t) (.slice tb t.args.length tc):=(HM.out.1.below (HW.out.2.2.2.1.trans (hb2.mono hlen1)) fun _ h=>h).below hbx fun _ h=>h
 have CM:=Lib.hid (l1Moves_any w.heap.size 15 t [] (.slice tb t.args.length tc) [] (some ⟨w2.heap.size,0,none⟩) 0 0 (w2.alloc (.cells #[] 9)) HM.out.2.2.1 (Nat.le_refl _) (by simp) (by omega) (by rw [size_alloc];have:=hb2.size;omega) hm2 (Own.lit #[] 0 (by unfold maxLen;omega) rfl) (fun g hg=>by simp [Value.ownBlock] at hg;have:=hb2.size;omega))
 unfold MovQ at CM
 obtain ⟨nm,hnm⟩:=zzN ((movesT t []).length)
 rw [hnm] at CM
 have H2:=Lib.hid (And.intro hb2 (And.intro hvb (And.intro hvc (And.intro hvG hbx))))
 have HNV:=Lib.hid hnv
 have HNM:=Lib.hid hnm
 have hnm24:nm<=24:=by rw [<- hnm];exact H24.out.1
 rw [hnv]
 clear hb2 hvb hvc hvG hvp hnv hlen1 hbx hm2 hnm c0 d0 d1 CV
 go_wp2_with fail
 (with_reducible refine CM.out.mono ?_)
 rintro en w3 ⟨a3,n3,c3,rfl,hn3,hb3,ho3,hf3⟩
 obtain rfl:n3=nm:=by omega
 have hb23:Below w2.heap.size w2 w3:=H2.out.2.2.2.2.trans (hb3.toBelow (by rw [size_alloc];omega) fun g hg e=>by simp [Value.ownBlock] at e;omega)
 have hmf:∀ g,(Value.slice a3 n3 c3).ownBlock=some g->w2.heap.size<=g:=fun g hg=>by
  rcases hf3 g hg with h | h
  ·simp [Value.ownBlock] at h;omega
  ·rw [size_alloc] at h;omega
 have hx0:=(hb23.cell (World.block_lt_of_cell? _ _ hc0)).trans hc0
 have hx1:=(hb23.cell (World.block_lt_of_cell? _ _ hd0)).trans hd0
 have hx2:=(hb23.cell (World.block_lt_of_cell? _ _ hd1)).trans hd1
 have hb13:Below W1.heap.size W1 w3:=zzT H2.out.1 hb23
 have hown3:Own w3 9 1 (.slice a3 n3 c3) n3 ((movesT t []).map str):=by rw [List.nil_append] at ho3;exact ho3
 have HS3:=Lib.hid hb13.size
 have H3:=Lib.hid (And.intro hb13 (And.intro hown3 (And.intro hmf (And.intro (HW.out.2.2.2.2.2.2.2.below hb13) hb23))))
 have KEY:=Lib.hid (fun (y z:World) (hy:But (fun b=>b=W.heap.size) w3 y) (hz:Below y.heap.size y z)=>(show (z.cell? ⟨w.heap.size+1,0,none⟩=some (.slice ma v.length mc)/\z.cell? ⟨w.heap.size+1,1,none⟩=some (.slice pa v.length pc))/\IntAt z ((viewP v o v.length).map fun n=>((n:Nat):Int)) (.slice (some ⟨vb,vo,none⟩) nv vc)/\PlIn (· < w.heap.size) t v (.slice ma v.length mc) (.slice pa v.length pc) z from by
  have hzz:=HZ2.out
  have kx:∀ (a:Addr) (u:Value),w3.cell? a=some u->¬ a.block=W.heap.size->z.cell? a=some u:=fun a u h hne=>by
   have h1:=(hy.cell (World.block_lt_of_cell? _ _ h) hne).trans h
   exact (hz.cell (World.block_lt_of_cell? _ _ h1)).trans h1
  have hb1z:Below w.heap.size w z:=(zzT HW.out.2.2.2.1 H3.out.1).trans ((hy.trans (But.ofBelow hz)).toBelow (by have h1:=HW.out.2.2.2.1.size;have h2:=H3.out.1.size;omega) fun i hi e=>by omega)
  refine ⟨⟨kx _ _ hx1 (by show ¬ w.heap.size+1=_;omega),kx _ _ hx2 (by show ¬ w.heap.size+1=_;omega)⟩,NatAt.ints ?_,?_⟩
  ·refine ⟨vb,vo,vc,by rw [HNV.out],?_,fun i n hi=>?_⟩
   ·have h1:=H2.out.2.1;have h2:=H3.out.2.2.2.2.size;have h3:=hy.size;have h4:=hz.size;omega
   ·have h1:=H2.out.2.2.1 i n hi
    exact kx _ _ ((H3.out.2.2.2.2.cell (World.block_lt_of_cell? _ _ h1)).trans h1) (by show ¬ vb=_;exact H2.out.2.2.2.1)
  ·exact ⟨HM.out.2.1.m.below hb1z fun _ h=>h,HM.out.2.1.p.below hb1z fun _ h=>h,HM.out.2.2.2.1,HM.out.2.2.2.2⟩))
 have OWNM:=Lib.hid (fun (y:World) (hy:But (fun b=>b=W.heap.size) w3 y)=>(H3.out.2.1.keep (w':=y) fun g o hg ho=>by
  have h1:=H3.out.2.2.1 g hg
  have h2:=H2.out.1.size
  have h3:=HZ.out
  have h4:W.heap.size<W1.heap.size:=by have:=HW.out.2.2.2.2.2.2.1;exact lt_of_heap this
  rw [hy.block g (lt_of_heap ho) (by omega)];exact ho))
 have CHAS:=Lib.hid (fun (z:World) (i:Nat) (h:IntAt z ((viewP v o v.length).map fun n=>((n:Nat):Int)) (.slice (some ⟨vb,vo,none⟩) nv vc))=>l2Has_any _ (i:Int) _ z h (by rw [List.length_map];have:=viewP_len v o v.length;omega))
 have CW:=Lib.hid (fun (z:World) (h:PlIn (· < w.heap.size) t v (.slice ma v.length mc) (.slice pa v.length pc) z) (m:Bs) (q:Int)=>l2WithPl v (.slice ma v.length mc) (.slice pa v.length pc) m q z h.m.src h.p.src (by omega))
 have CPE:=Lib.hid (fun (z:World) (h:PlIn (· < w.heap.size) t v (.slice ma v.length mc) (.slice pa v.length pc) z)=>l2Pending_any (· < w.heap.size) t v v.length (.slice ma v.length mc) (.slice pa v.length pc) z h.m h.p h.ok (Nat.le_refl _) h.l)
 clear hb3 ho3 hf3 hb23 hmf hx0 hx1 hx2 hb13 hown3 CM hc0 hd0 hd1 hn3
 go_wp2_with fail
 go_loopw [5,9] (fun o x wr=>∃ (i n' c':Nat) (a':Option Addr) (us:List (Value×Value)) (wz:World),wz=wr/\i<=v.length/\x=.int .i64 i/\o=.slice a' n' c'/\But (fun b=>b=W.heap.size) w3 wz/\NxR W.heap.size (nextN t v i) a' n' c' us wz/\∀ g,(Value.slice a' n' c').ownBlock=some g->g=W.heap.size\/w3.heap.size<=g) (fun _ x _=>v.length-(intOf x).toNat)
 case atStart=>exact ⟨0,0,0,_,[],_,rfl,Nat.zero_le _,rfl,rfl,But.refl _ _,H3.out.2.2.2.1,fun g hg=>.inl (by simp [Value.ownBlock] at hg;exact hg.symm)⟩
 case round =>
  obtain ⟨i,n',c',a',us,wr,rfl,hi,rfl,rfl,hB,hN,hR⟩:=hrel
  have HR:=Lib.hid (And.intro hB (And.intro hN hR))
  clear hB hN hR
  by_cases hlt:i<v.length
  ·have hltI:(i:Int)<(v.length:Int):=by omega
   obtain ⟨⟨mi,zi⟩,hvi⟩:∃ x,v[i]? = some x:=⟨_,List.getElem?_eq_getElem hlt⟩
   have HVI:=Lib.hid hvi
   have FITI:=Lib.hid (fun m (h:mvOk t m=true)=>FIT2.out m h i hlt)
   clear hvi
   go_wp2_with fail
   go_loopw [5,10] (fun o x wr'=>∃ (k n2 c2:Nat) (a2:Option Addr) (us2:List (Value×Value)) (wz:World),wz=wr'/\k<=n3/\x=.int .i64 k/\o=.slice a2 n2 c2/\But (fun b=>b=W.heap.size) w3 wz/\NxR W.heap.size (nextN t v i++rowL t v i ((movesT t []).take k)) a2 n2 c2 us2 wz/\∀ g,(Value.slice a2 n2 c2).ownBlock=some g->g=W.heap.size\/w3.heap.size<=g) (fun _ x _=>n3-(intOf x).toNat)
   case atStart=>exact ⟨0,n',c',a',us,_,rfl,Nat.zero_le _,rfl,rfl,HR.out.1,by rw [List.take_zero,rowL_nil,List.append_nil];exact HR.out.2.1,HR.out.2.2⟩
   case round =>
    obtain ⟨k,n2,c2,a2,us2,wq,rfl,hk,rfl,rfl,hBq,hNq,hRq⟩:=hrel
    have HQ:=Lib.hid (And.intro hBq (And.intro hNq hRq))
    clear hBq hNq hRq
    by_cases hkt:k<n3
    ·have hktI:(k:Int)<(n3:Int):=by omega
     obtain ⟨⟨e0,e1⟩,hia,hpl⟩:=KEY.out wq wq HQ.out.1 (Below.refl _ _)
     have CH1:=CHAS.out wq i hia
     have hhe:=has_eq v o v.length i
     rw [hhe] at CH1
     have HPL:=Lib.hid hpl
     clear hia hpl hhe
     cases hh:(viewP v o v.length).contains i with
     | false =>
       rw [hh] at CH1
       have CH1:=Lib.hid CH1
       have HOFF:=Lib.hid (fun ms (h:∀ m∈ms,m∈movesT t [])=>rowL_off (t:=t) (v:=v) (i:=i) (ms:=ms) fun m hm=>by rw [FITI.out m (HMV2.out m (h m hm)),hh];rfl)
       clear hh e0 e1
       go_wp2_with fail
       (with_reducible refine CH1.out.mono ?_)
       rintro en y0 ⟨rfl,e⟩
       subst y0
       have HE:=Lib.hid (show NxR W.heap.size (nextN t v (i+1)) a2 n2 c2 us2 wq by
        have h1:=HQ.out.2.1
        rw [HOFF.out _ (fun m hm=>List.mem_of_mem_take hm),List.append_nil] at h1
        rw [nextN_succ,HOFF.out _ (fun m hm=>hm),List.append_nil];exact h1)
       clear CH1
       go_wp2_with fail
       go_roundw
       case rel=>exact ⟨i+1,n2,c2,a2,us2,_,rfl,by omega,by go_num,rfl,HQ.out.1,HE.out,HQ.out.2.2⟩
       case measure=>simp [intOf];omega
     | true =>
       rw [hh] at CH1
       have CH1:=Lib.hid CH1
       obtain ⟨m,hm⟩:∃ m,(movesT t [])[k]? = some m:=⟨_,List.getElem?_eq_getElem (by rw [HNM.out];exact hkt)⟩
       obtain ⟨mg,mk',emg,hmc⟩:=(OWNM.out wq HQ.out.1).at (j:=k) (u:=str m) (by rw [List.getElem?_map,hm];rfl)
       simp only [Value.slice.injEq,true_and] at emg
       obtain ⟨rfl,rfl⟩:=emg
       obtain ⟨hok,hml⟩:=HMV.out k m hm
       have hFIT:=FITI.out m hok
       rw [hh,HVI.out,Bool.true_and] at hFIT
       have HFIT:=Lib.hid hFIT
       have HNX:=Lib.hid (rowL_take (v:=v) (t:=t) (i:=i) hm)
       have hn2:n2<=2000:=by
        have h1:=HQ.out.2.1.len
        rw [List.length_append] at h1
        have h2:=H24.out.2 i
        have h3:=rowL_len t v i ((movesT t []).take k)
        rw [List.length_take] at h3
        omega
       obtain ⟨c,p,hcp⟩:∃ c p,m=c::p:=by
        cases m with
        | nil=>simp [mvOk] at hok
        | cons c p=>exact ⟨c,p,rfl⟩
       have hpl:p.length<=16777216:=by rw [hcp,List.length_cons] at hml;omega
       have hM0:0<m.length:=by rw [hcp];simp
       have hM0I:(0:Int)<(m.length:Int):=by omega
       have B0:((((⟨m.toArray⟩:ByteArray)[0]'(lt_str hM0)).toNat:Int))=(c.toNat:Int):=by rw [byte_int hM0];subst hcp;rfl
       have hqe:((c.toNat:Int) == 113)=isQ m:=by
        rw [hcp,isQ_cons,Bool.eq_iff_iff,beq_iff_eq,beq_iff_eq]
        exact ⟨fun h=>UInt8.toNat_inj.1 (by show c.toNat=113;omega),fun h=>by rw [h];rfl⟩
       have CB:=Lib.hid (fun x=>l1Player_any c p hpl x)
       have CE:=Lib.hid (fun x=>l1Enabler_any c p hpl x)
       rw [<- hcp] at CB CE
       obtain ⟨pn,hpn⟩:=zzN (plN m)
       obtain ⟨en0,hen0⟩:=zzN (enab m)
       have hwe:=who_eq m o
       rw [hpn] at CB hwe
       rw [hen0] at CE HFIT
       obtain ⟨wi,hwi⟩:=zzN (whoI o)
       rw [hwi] at hwe hwm hwt
       have HWE:=Lib.hid hwe
       obtain ⟨ib,ic,eib,hic⟩:=HPL.out.m.cells
       simp only [Value.slice.injEq,true_and] at eib
       obtain ⟨rfl,rfl⟩:=eib
       obtain ⟨gb,go',rfl,_,hgb,hgc⟩:=hic i _ HVI.out
       have KEY14:=Lib.hid (fun (y:World) (hy:Below wq.heap.size wq y)=>(show y.cell? ⟨w.heap.size+1,0,none⟩=some (.slice (some ⟨gb,go',none⟩) v.length mc)/\y.cell? ⟨gb,go'+i,none⟩=some (str mi)/\y.cell? ⟨mg,k,none⟩=some (str m) from
        ⟨(hy.cell (World.block_lt_of_cell? _ _ e0)).trans e0,(hy.cell (World.block_lt_of_cell? _ _ hgc)).trans hgc,(hy.cell (World.block_lt_of_cell? _ _ hmc)).trans hmc⟩))
       obtain ⟨qq,hqq⟩:=zzN (isQ m)
       rw [hqq] at hqe HFIT
       obtain ⟨pe,hpe⟩:=zzN (pendF v v.length [])
       have CPW:=CPE.out wq HPL.out
       rw [hpe] at CPW HFIT
       have CPW:=Lib.hid CPW
       obtain ⟨fe,hfe⟩:=zzN (fitsM t v m i)
       have HF:Hid (fitsM t v m i=fe):=Lib.hid hfe
       have HFE:=Lib.hid (HFIT.out.symm.trans hfe)
       obtain ⟨pb',pc',epb,hpc'⟩:=HPL.out.p.cells
       have HPE:=Lib.hid hpe
       clear hh hm hok hml hFIT hpl hpn hen0 hwe hwi hgb hgc hic hcp hqq hpe hfe HFIT hpc' epb
       go_wp2_with fail
       (with_reducible refine CH1.out.mono ?_)
       rintro en y0 ⟨rfl,e⟩
       subst y0
       clear CH1
       cases hmq:((m:Bs) == [113]) with
       | true =>
         have hmq2:((m:Bs) != [113])=false:=by rw [bne,hmq];rfl
         obtain rfl:fe=false:=by rw [<- HFE.out,hmq];rfl
         clear HFE
         go_upto_region 14 with (fail)
         refine wp_region_noPanic ?_
         refine wp_region_S (fun w'=>Below wq.heap.size wq w') (fun _=>false) (by kernel_rfl) ?_
         have hSd:(fun w'=>Below wq.heap.size wq w') wq.drew:=Below.drew (Below.refl _ _)
         refine wpAnyS_take 0 (v:=?_) (by kernel_rfl) (by kernel_rfl) (by kernel_rfl) (by kernel_rfl) (fun _ _ _ _ h=>h) hSd ?_ ?_
         rotate_left
         ·(intro oi ho;simp at ho;subst ho;refine Or.inl ⟨by rfl,fun w' hw'=>?_⟩;go_simp;try with_reducible rfl)
         (intro d hd;simp at hd;subst hd;simp only [Act.put,List.setIfInBounds_toArray,List.set_cons_zero,List.set_cons_succ])
         refine wpAnyS_take 1 (v:=?_) (by kernel_rfl) (by kernel_rfl) (by kernel_rfl) (by kernel_rfl) (fun _ _ _ _ h=>h) hSd ?_ ?_
         rotate_left
         ·(intro oi ho;simp at ho;subst ho;refine Or.inl ⟨by rfl,fun w' hw'=>?_⟩;go_simp;try with_reducible rfl)
         (intro d hd;simp at hd;subst hd;simp only [Act.put,List.setIfInBounds_toArray,List.set_cons_zero,List.set_cons_succ])
         refine wpAnyS_take 2 (v:=?_) (by kernel_rfl) (by kernel_rfl) (by kernel_rfl) (by kernel_rfl) (fun _ _ _ _ h=>h) hSd ?_ ?_
         rotate_left
         ·(intro oi ho;simp at ho;subst ho;refine Or.inl ⟨by rfl,fun w' hw'=>?_⟩;go_simp;try with_reducible rfl)
         (intro d hd;simp at hd;subst hd;simp only [Act.put,List.setIfInBounds_toArray,List.set_cons_zero,List.set_cons_succ])
         refine wpAnyS_take 3 (v:=undef) (by kernel_rfl) (by kernel_rfl) (by kernel_rfl) (by kernel_rfl) (fun _ _ _ _ h=>h) hSd (fun oi ho=>by simp at ho;subst ho;exact Or.inr ⟨by rfl,rfl⟩) ?_
         (intro d hd;simp at hd;subst hd;simp only [Act.put,List.setIfInBounds_toArray,List.set_cons_zero,List.set_cons_succ])
         refine wpAnyS_take 4 (v:=undef) (by kernel_rfl) (by kernel_rfl) (by kernel_rfl) (by kernel_rfl) (fun _ _ _ _ h=>h) hSd (fun oi ho=>by simp at ho;subst ho;exact Or.inr ⟨by rfl,rfl⟩) ?_
         (intro d hd;simp at hd;subst hd;simp only [Act.put,List.setIfInBounds_toArray,List.set_cons_zero,List.set_cons_succ])
         refine wpAnyS_take 5 (v:=undef) (by kernel_rfl) (by kernel_rfl) (by kernel_rfl) (by kernel_rfl) (fun _ _ _ _ h=>h) hSd (fun oi ho=>by simp at ho;subst ho;exact Or.inr ⟨by rfl,rfl⟩) ?_
         (intro d hd;simp at hd;subst hd;simp only [Act.put,List.setIfInBounds_toArray,List.set_cons_zero,List.set_cons_succ])
         refine wpAnyS_take 6 (v:=undef) (by kernel_rfl) (by kernel_rfl) (by kernel_rfl) (by kernel_rfl) (fun _ _ _ _ h=>h) hSd (fun oi ho=>by simp at ho;subst ho;exact Or.inr ⟨by rfl,rfl⟩) ?_
         (intro d hd;simp at hd;subst hd;simp only [Act.put,List.setIfInBounds_toArray,List.set_cons_zero,List.set_cons_succ])
         refine wpAnyS_take 7 (v:=undef) (by kernel_rfl) (by kernel_rfl) (by kernel_rfl) (by kernel_rfl) (fun _ _ _ _ h=>h) hSd (fun oi ho=>by simp at ho;subst ho;exact Or.inr ⟨by rfl,rfl⟩) ?_
         (intro d hd;simp at hd;subst hd;simp only [Act.put,List.setIfInBounds_toArray,List.set_cons_zero,List.set_cons_succ])
         refine wpAnyS_take 8 (v:=?_) (by kernel_rfl) (by kernel_rfl) (by kernel_rfl) (by kernel_rfl) (fun _ _ _ _ h=>h) hSd ?_ ?_
         rotate_left
         ·(intro oi ho;simp at ho;subst ho;refine Or.inl ⟨by rfl,fun w' hw'=>?_⟩;go_simp;try with_reducible rfl)
         (intro d hd;simp at hd;subst hd;simp only [Act.put,List.setIfInBounds_toArray,List.set_cons_zero,List.set_cons_succ])
         refine wpAnyS_take 9 (v:=?_) (by kernel_rfl) (by kernel_rfl) (by kernel_rfl) (by kernel_rfl) (fun _ _ _ _ h=>h) hSd ?_ ?_
         rotate_left
         ·(intro oi ho;simp at ho;subst ho;refine Or.inl ⟨by rfl,fun w' hw'=>?_⟩;go_simp;try with_reducible rfl)
         (intro d hd;simp at hd;subst hd;simp only [Act.put,List.setIfInBounds_toArray,List.set_cons_zero,List.set_cons_succ])
         refine wpAnyS_take 10 (v:=undef) (by kernel_rfl) (by kernel_rfl) (by kernel_rfl) (by kernel_rfl) (fun _ _ _ _ h=>h) hSd (fun oi ho=>by simp at ho;subst ho;exact Or.inr ⟨by rfl,rfl⟩) ?_
         (intro d hd;simp at hd;subst hd;simp only [Act.put,List.setIfInBounds_toArray,List.set_cons_zero,List.set_cons_succ])
         refine wpAnyS_take 11 (v:=undef) (by kernel_rfl) (by kernel_rfl) (by kernel_rfl) (by kernel_rfl) (fun _ _ _ _ h=>h) hSd (fun oi ho=>by simp at ho;subst ho;exact Or.inr ⟨by rfl,rfl⟩) ?_
         (intro d hd;simp at hd;subst hd;simp only [Act.put,List.setIfInBounds_toArray,List.set_cons_zero,List.set_cons_succ])
         refine wpAnyS_take 12 (v:=undef) (by kernel_rfl) (by kernel_rfl) (by kernel_rfl) (by kernel_rfl) (fun _ _ _ _ h=>h) hSd (fun oi ho=>by simp at ho;subst ho;exact Or.inr ⟨by rfl,rfl⟩) ?_
         (intro d hd;simp at hd;subst hd;simp only [Act.put,List.setIfInBounds_toArray,List.set_cons_zero,List.set_cons_succ])
         refine wpAnyS_take 13 (v:=undef) (by kernel_rfl) (by kernel_rfl) (by kernel_rfl) (by kernel_rfl) (fun _ _ _ _ h=>h) hSd (fun oi ho=>by simp at ho;subst ho;exact Or.inr ⟨by rfl,rfl⟩) ?_
         (intro d hd;simp at hd;subst hd;simp only [Act.put,List.setIfInBounds_toArray,List.set_cons_zero,List.set_cons_succ])
         refine wpAnyS_take 14 (v:=undef) (by kernel_rfl) (by kernel_rfl) (by kernel_rfl) (by kernel_rfl) (fun _ _ _ _ h=>h) hSd (fun oi ho=>by simp at ho;subst ho;exact Or.inr ⟨by rfl,rfl⟩) ?_
         (intro d hd;simp at hd;subst hd;simp only [Act.put,List.setIfInBounds_toArray,List.set_cons_zero,List.set_cons_succ])
         refine wpAnyS_take 15 (v:=undef) (by kernel_rfl) (by kernel_rfl) (by kernel_rfl) (by kernel_rfl) (fun _ _ _ _ h=>h) hSd (fun oi ho=>by simp at ho;subst ho;exact Or.inr ⟨by rfl,rfl⟩) ?_
         (intro d hd;simp at hd;subst hd;simp only [Act.put,List.setIfInBounds_toArray,List.set_cons_zero,List.set_cons_succ])
         refine wpAnyS_take 16 (v:=undef) (by kernel_rfl) (by kernel_rfl) (by kernel_rfl) (by kernel_rfl) (fun _ _ _ _ h=>h) hSd (fun oi ho=>by simp at ho;subst ho;exact Or.inr ⟨by rfl,rfl⟩) ?_
         (intro d hd;simp at hd;subst hd;simp only [Act.put,List.setIfInBounds_toArray,List.set_cons_zero,List.set_cons_succ])
         refine wpAnyS_take 17 (v:=undef) (by kernel_rfl) (by kernel_rfl) (by kernel_rfl) (by kernel_rfl) (fun _ _ _ _ h=>h) hSd (fun oi ho=>by simp at ho;subst ho;exact Or.inr ⟨by rfl,rfl⟩) ?_
         (intro d hd;simp at hd;subst hd;simp only [Act.put,List.setIfInBounds_toArray,List.set_cons_zero,List.set_cons_succ])
         refine wpAnyS_take 18 (v:=?_) (by kernel_rfl) (by kernel_rfl) (by kernel_rfl) (by kernel_rfl) (fun _ _ _ _ h=>h) hSd ?_ ?_
         rotate_left
         ·(intro oi ho;simp at ho;subst ho;refine Or.inl ⟨by rfl,fun w' hw'=>?_⟩;go_simp;try with_reducible rfl)
         (intro d hd;simp at hd;subst hd;simp only [Act.put,List.setIfInBounds_toArray,List.set_cons_zero,List.set_cons_succ])
         refine wpAnyS_take 19 (v:=?_) (by kernel_rfl) (by kernel_rfl) (by kernel_rfl) (by kernel_rfl) (fun _ _ _ _ h=>h) hSd ?_ ?_
         rotate_left
         ·(intro oi ho;simp at ho;subst ho;refine Or.inl ⟨by rfl,fun w' hw'=>?_⟩;go_simp;try with_reducible rfl)
         (intro d hd;simp at hd;subst hd;simp only [Act.put,List.setIfInBounds_toArray,List.set_cons_zero,List.set_cons_succ])
         refine wpAnyS_done (by kernel_rfl) (NoPanic.normal ?_) _
         have HB14:=Lib.hid (Below.drew (Below.refl wq.heap.size wq))
         clear hSd KEY14
         go_wp2_with fail
         go_roundw
         case rel=>exact ⟨k+1,n2,c2,a2,us2,_,rfl,by omega,by go_num,rfl,HQ.out.1.trans (But.ofBelow (HB14.out)),by rw [HNX.out,HF.out,if_neg (by simp),List.append_nil];exact HQ.out.2.1.below (HB14.out),HQ.out.2.2⟩
         case measure=>simp [intOf];omega
       | false =>
         have hmq2:((m:Bs) != [113])=true:=by rw [bne,hmq];rfl
         cases hbw:(byOpp m == o) with
         | false =>
           have hpw:((pn:Int) == (wi:Int))=false:=HWE.out.trans hbw
           obtain rfl:fe=false:=by rw [<- HFE.out,hmq,hbw];rfl
           clear hbw
           go_upto_region 14 with (fail)
           refine wp_region_noPanic ?_
           refine wp_region_S (fun w'=>Below wq.heap.size wq w') (fun _=>false) (by kernel_rfl) ?_
           have hSd:(fun w'=>Below wq.heap.size wq w') wq.drew:=Below.drew (Below.refl _ _)
           refine wpAnyS_take 0 (v:=?_) (by kernel_rfl) (by kernel_rfl) (by kernel_rfl) (by kernel_rfl) (fun _ _ _ _ h=>h) hSd ?_ ?_
           rotate_left
           ·(intro oi ho;simp at ho;subst ho;refine Or.inl ⟨by rfl,fun w' hw'=>?_⟩;go_simp;try with_reducible rfl)
           (intro d hd;simp at hd;subst hd;simp only [Act.put,List.setIfInBounds_toArray,List.set_cons_zero,List.set_cons_succ])
           refine wpAnyS_take 1 (v:=?_) (by kernel_rfl) (by kernel_rfl) (by kernel_rfl) (by kernel_rfl) (fun _ _ _ _ h=>h) hSd ?_ ?_
           rotate_left
           ·(intro oi ho;simp at ho;subst ho;refine Or.inl ⟨by rfl,fun w' hw'=>?_⟩;go_simp;try with_reducible rfl)
           (intro d hd;simp at hd;subst hd;simp only [Act.put,List.setIfInBounds_toArray,List.set_cons_zero,List.set_cons_succ])
           refine wpAnyS_take 2 (v:=?_) (by kernel_rfl) (by kernel_rfl) (by kernel_rfl) (by kernel_rfl) (fun _ _ _ _ h=>h) hSd ?_ ?_
           rotate_left
           ·(intro oi ho;simp at ho;subst ho;refine Or.inl ⟨by rfl,fun w' hw'=>?_⟩;go_simp;try with_reducible rfl)
           (intro d hd;simp at hd;subst hd;simp only [Act.put,List.setIfInBounds_toArray,List.set_cons_zero,List.set_cons_succ])
           refine wpAnyS_take 3 (v:=?_) (by kernel_rfl) (by kernel_rfl) (by kernel_rfl) (by kernel_rfl) (fun _ _ _ _ h=>h) hSd ?_ ?_
           rotate_left
           ·(intro oi ho;simp at ho;subst ho;refine Or.inl ⟨by rfl,fun w' hw'=>?_⟩;go_simp;try with_reducible rfl)
           (intro d hd;simp at hd;subst hd;simp only [Act.put,List.setIfInBounds_toArray,List.set_cons_zero,List.set_cons_succ])
           refine wpAnyS_take 5 (v:=?_) (by kernel_rfl) (by kernel_rfl) (by kernel_rfl) (by kernel_rfl) (fun _ _ _ _ h=>h) hSd ?_ ?_
           rotate_left
           ·(intro oi ho;simp at ho;subst ho;refine Or.inl ⟨by rfl,fun w' hw'=>?_⟩;go_simp;try with_reducible rfl)
           (intro d hd;simp at hd;subst hd;simp only [Act.put,List.setIfInBounds_toArray,List.set_cons_zero,List.set_cons_succ])
           refine wpAnyS_take 6 (v:=?_) (by kernel_rfl) (by kernel_rfl) (by kernel_rfl) (by kernel_rfl) (fun _ _ _ _ h=>h) hSd ?_ ?_
           rotate_left
           ·(intro oi ho;simp at ho;subst ho;refine Or.inl ⟨by rfl,fun w' hw'=>?_⟩;go_simp;try with_reducible rfl)
           (intro d hd;simp at hd;subst hd;simp only [Act.put,List.setIfInBounds_toArray,List.set_cons_zero,List.set_cons_succ])
           refine wpAnyS_one 4 (by kernel_rfl) ?_
           (intro o4 ho K' hK;simp at ho;subst ho)
           go_simp
           go_at_call 130
           (with_reducible refine (CB.out _).mono ?_)
           rintro en x4 ⟨rfl,e⟩
           subst x4
           refine hK.out _ _ ?_ ?_
           ·exact fun _=>hSd
           clear hK K'
           (try simp only [Act.put,List.setIfInBounds_toArray,List.set_cons_zero,List.set_cons_succ])
           have hS4:=hSd
           refine wpAnyS_take 7 (v:=?_) (by kernel_rfl) (by kernel_rfl) (by kernel_rfl) (by kernel_rfl) (fun _ _ _ _ h=>h) hS4 ?_ ?_
           rotate_left
           ·(intro oi ho;simp at ho;subst ho;refine Or.inl ⟨by rfl,fun w' hw'=>?_⟩;go_simp;try with_reducible rfl)
           (intro d hd;simp at hd;subst hd;simp only [Act.put,List.setIfInBounds_toArray,List.set_cons_zero,List.set_cons_succ])
           refine wpAnyS_take 8 (v:=?_) (by kernel_rfl) (by kernel_rfl) (by kernel_rfl) (by kernel_rfl) (fun _ _ _ _ h=>h) hS4 ?_ ?_
           rotate_left
           ·(intro oi ho;simp at ho;subst ho;refine Or.inl ⟨by rfl,fun w' hw'=>?_⟩;go_simp;try with_reducible rfl)
           (intro d hd;simp at hd;subst hd;simp only [Act.put,List.setIfInBounds_toArray,List.set_cons_zero,List.set_cons_succ])
           refine wpAnyS_take 9 (v:=?_) (by kernel_rfl) (by kernel_rfl) (by kernel_rfl) (by kernel_rfl) (fun _ _ _ _ h=>h) hS4 ?_ ?_
           rotate_left
           ·(intro oi ho;simp at ho;subst ho;refine Or.inl ⟨by rfl,fun w' hw'=>?_⟩;go_simp;try with_reducible rfl)
           (intro d hd;simp at hd;subst hd;simp only [Act.put,List.setIfInBounds_toArray,List.set_cons_zero,List.set_cons_succ])
           refine wpAnyS_take 10 (v:=undef) (by kernel_rfl) (by kernel_rfl) (by kernel_rfl) (by kernel_rfl) (fun _ _ _ _ h=>h) hS4 (fun oi ho=>by simp at ho;subst ho;exact Or.inr ⟨by rfl,rfl⟩) ?_
           (intro d hd;simp at hd;subst hd;simp only [Act.put,List.setIfInBounds_toArray,List.set_cons_zero,List.set_cons_succ])
           refine wpAnyS_take 11 (v:=undef) (by kernel_rfl) (by kernel_rfl) (by kernel_rfl) (by kernel_rfl) (fun _ _ _ _ h=>h) hS4 (fun oi ho=>by simp at ho;subst ho;exact Or.inr ⟨by rfl,rfl⟩) ?_
           (intro d hd;simp at hd;subst hd;simp only [Act.put,List.setIfInBounds_toArray,List.set_cons_zero,List.set_cons_succ])
           refine wpAnyS_take 12 (v:=undef) (by kernel_rfl) (by kernel_rfl) (by kernel_rfl) (by kernel_rfl) (fun _ _ _ _ h=>h) hS4 (fun oi ho=>by simp at ho;subst ho;exact Or.inr ⟨by rfl,rfl⟩) ?_
           (intro d hd;simp at hd;subst hd;simp only [Act.put,List.setIfInBounds_toArray,List.set_cons_zero,List.set_cons_succ])
           refine wpAnyS_take 13 (v:=undef) (by kernel_rfl) (by kernel_rfl) (by kernel_rfl) (by kernel_rfl) (fun _ _ _ _ h=>h) hS4 (fun oi ho=>by simp at ho;subst ho;exact Or.inr ⟨by rfl,rfl⟩) ?_
           (intro d hd;simp at hd;subst hd;simp only [Act.put,List.setIfInBounds_toArray,List.set_cons_zero,List.set_cons_succ])
           refine wpAnyS_take 14 (v:=undef) (by kernel_rfl) (by kernel_rfl) (by kernel_rfl) (by kernel_rfl) (fun _ _ _ _ h=>h) hS4 (fun oi ho=>by simp at ho;subst ho;exact Or.inr ⟨by rfl,rfl⟩) ?_
           (intro d hd;simp at hd;subst hd;simp only [Act.put,List.setIfInBounds_toArray,List.set_cons_zero,List.set_cons_succ])
           refine wpAnyS_take 15 (v:=undef) (by kernel_rfl) (by kernel_rfl) (by kernel_rfl) (by kernel_rfl) (fun _ _ _ _ h=>h) hS4 (fun oi ho=>by simp at ho;subst ho;exact Or.inr ⟨by rfl,rfl⟩) ?_
           (intro d hd;simp at hd;subst hd;simp only [Act.put,List.setIfInBounds_toArray,List.set_cons_zero,List.set_cons_succ])
           refine wpAnyS_take 16 (v:=undef) (by kernel_rfl) (by kernel_rfl) (by kernel_rfl) (by kernel_rfl) (fun _ _ _ _ h=>h) hS4 (fun oi ho=>by simp at ho;subst ho;exact Or.inr ⟨by rfl,rfl⟩) ?_
           (intro d hd;simp at hd;subst hd;simp only [Act.put,List.setIfInBounds_toArray,List.set_cons_zero,List.set_cons_succ])
           refine wpAnyS_take 17 (v:=undef) (by kernel_rfl) (by kernel_rfl) (by kernel_rfl) (by kernel_rfl) (fun _ _ _ _ h=>h) hS4 (fun oi ho=>by simp at ho;subst ho;exact Or.inr ⟨by rfl,rfl⟩) ?_
           (intro d hd;simp at hd;subst hd;simp only [Act.put,List.setIfInBounds_toArray,List.set_cons_zero,List.set_cons_succ])
           refine wpAnyS_take 18 (v:=?_) (by kernel_rfl) (by kernel_rfl) (by kernel_rfl) (by kernel_rfl) (fun _ _ _ _ h=>h) hS4 ?_ ?_
           rotate_left
           ·(intro oi ho;simp at ho;subst ho;refine Or.inl ⟨by rfl,fun w' hw'=>?_⟩;go_simp;try with_reducible rfl)
           (intro d hd;simp at hd;subst hd;simp only [Act.put,List.setIfInBounds_toArray,List.set_cons_zero,List.set_cons_succ])
           refine wpAnyS_take 19 (v:=?_) (by kernel_rfl) (by kernel_rfl) (by kernel_rfl) (by kernel_rfl) (fun _ _ _ _ h=>h) hS4 ?_ ?_
           rotate_left
           ·(intro oi ho;simp at ho;subst ho;refine Or.inl ⟨by rfl,fun w' hw'=>?_⟩;go_simp;try with_reducible rfl)
           (intro d hd;simp at hd;subst hd;simp only [Act.put,List.setIfInBounds_toArray,List.set_cons_zero,List.set_cons_succ])
           refine wpAnyS_done (by kernel_rfl) (NoPanic.normal ?_) _
           have HB14:=Lib.hid (Below.drew (Below.refl wq.heap.size wq))
           clear hSd KEY14
           go_wp2_with fail
           go_roundw
           case rel=>exact ⟨k+1,n2,c2,a2,us2,_,rfl,by omega,by go_num,rfl,HQ.out.1.trans (But.ofBelow (HB14.out)),by rw [HNX.out,HF.out,if_neg (by simp),List.append_nil];exact HQ.out.2.1.below (HB14.out),HQ.out.2.2⟩
           case measure=>simp [intOf];omega
         | true =>
           have hpw:((pn:Int) == (wi:Int))=true:=HWE.out.trans hbw
           cases hen:((mi:Bs) == en0) with
           | false =>
             have hen2:((en0:Bs) == mi)=false:=by rw [Bool.eq_false_iff] at hen ⊢;intro h;exact hen (by rw [beq_iff_eq] at h ⊢;exact h.symm)
             have hom:((Option.map (fun x:Bs×Int=>x.1) (some (mi,zi))) == some en0)=(mi == en0):=rfl
             obtain rfl:fe=false:=by rw [<- HFE.out,hmq,hbw,hom,hen];rfl
             clear hom
             clear hbw
             go_upto_region 14 with (fail)
             refine wp_region_noPanic ?_
             refine wp_region_S (fun w'=>Below wq.heap.size wq w') (fun _=>false) (by kernel_rfl) ?_
             have hSd:(fun w'=>Below wq.heap.size wq w') wq.drew:=Below.drew (Below.refl _ _)
             refine wpAnyS_take 0 (v:=?_) (by kernel_rfl) (by kernel_rfl) (by kernel_rfl) (by kernel_rfl) (fun _ _ _ _ h=>h) hSd ?_ ?_
             rotate_left
             ·(intro oi ho;simp at ho;subst ho;refine Or.inl ⟨by rfl,fun w' hw'=>?_⟩;go_simp;try with_reducible rfl)
             (intro d hd;simp at hd;subst hd;simp only [Act.put,List.setIfInBounds_toArray,List.set_cons_zero,List.set_cons_succ])
             refine wpAnyS_take 1 (v:=?_) (by kernel_rfl) (by kernel_rfl) (by kernel_rfl) (by kernel_rfl) (fun _ _ _ _ h=>h) hSd ?_ ?_
             rotate_left
             ·(intro oi ho;simp at ho;subst ho;refine Or.inl ⟨by rfl,fun w' hw'=>?_⟩;go_simp;try with_reducible rfl)
             (intro d hd;simp at hd;subst hd;simp only [Act.put,List.setIfInBounds_toArray,List.set_cons_zero,List.set_cons_succ])
             refine wpAnyS_take 2 (v:=?_) (by kernel_rfl) (by kernel_rfl) (by kernel_rfl) (by kernel_rfl) (fun _ _ _ _ h=>h) hSd ?_ ?_
             rotate_left
             ·(intro oi ho;simp at ho;subst ho;refine Or.inl ⟨by rfl,fun w' hw'=>?_⟩;go_simp;try with_reducible rfl)
             (intro d hd;simp at hd;subst hd;simp only [Act.put,List.setIfInBounds_toArray,List.set_cons_zero,List.set_cons_succ])
             refine wpAnyS_take 3 (v:=?_) (by kernel_rfl) (by kernel_rfl) (by kernel_rfl) (by kernel_rfl) (fun _ _ _ _ h=>h) hSd ?_ ?_
             rotate_left
             ·(intro oi ho;simp at ho;subst ho;refine Or.inl ⟨by rfl,fun w' hw'=>?_⟩;go_simp;try with_reducible rfl)
             (intro d hd;simp at hd;subst hd;simp only [Act.put,List.setIfInBounds_toArray,List.set_cons_zero,List.set_cons_succ])
             refine wpAnyS_take 5 (v:=?_) (by kernel_rfl) (by kernel_rfl) (by kernel_rfl) (by kernel_rfl) (fun _ _ _ _ h=>h) hSd ?_ ?_
             rotate_left
             ·(intro oi ho;simp at ho;subst ho;refine Or.inl ⟨by rfl,fun w' hw'=>?_⟩;go_simp;try with_reducible rfl)
             (intro d hd;simp at hd;subst hd;simp only [Act.put,List.setIfInBounds_toArray,List.set_cons_zero,List.set_cons_succ])
             refine wpAnyS_take 6 (v:=?_) (by kernel_rfl) (by kernel_rfl) (by kernel_rfl) (by kernel_rfl) (fun _ _ _ _ h=>h) hSd ?_ ?_
             rotate_left
             ·(intro oi ho;simp at ho;subst ho;refine Or.inl ⟨by rfl,fun w' hw'=>?_⟩;go_simp;try with_reducible rfl)
             (intro d hd;simp at hd;subst hd;simp only [Act.put,List.setIfInBounds_toArray,List.set_cons_zero,List.set_cons_succ])
             refine wpAnyS_one 4 (by kernel_rfl) ?_
             (intro o4 ho K' hK;simp at ho;subst ho)
             go_simp
             go_at_call 130
             (with_reducible refine (CB.out _).mono ?_)
             rintro en x4 ⟨rfl,e⟩
             subst x4
             refine hK.out _ _ ?_ ?_
             ·exact fun _=>hSd
             clear hK K'
             (try simp only [Act.put,List.setIfInBounds_toArray,List.set_cons_zero,List.set_cons_succ])
             have hS4:=hSd
             refine wpAnyS_take 7 (v:=?_) (by kernel_rfl) (by kernel_rfl) (by kernel_rfl) (by kernel_rfl) (fun _ _ _ _ h=>h) hS4 ?_ ?_
             rotate_left
             ·(intro oi ho;simp at ho;subst ho;refine Or.inl ⟨by rfl,fun w' hw'=>?_⟩;go_simp;try with_reducible rfl)
             (intro d hd;simp at hd;subst hd;simp only [Act.put,List.setIfInBounds_toArray,List.set_cons_zero,List.set_cons_succ])
             refine wpAnyS_take 8 (v:=?_) (by kernel_rfl) (by kernel_rfl) (by kernel_rfl) (by kernel_rfl) (fun _ _ _ _ h=>h) hS4 ?_ ?_
             rotate_left
             ·(intro oi ho;simp at ho;subst ho;refine Or.inl ⟨by rfl,fun w' hw'=>?_⟩;go_simp;try with_reducible rfl)
             (intro d hd;simp at hd;subst hd;simp only [Act.put,List.setIfInBounds_toArray,List.set_cons_zero,List.set_cons_succ])
             refine wpAnyS_take 9 (v:=?_) (by kernel_rfl) (by kernel_rfl) (by kernel_rfl) (by kernel_rfl) (fun _ _ _ _ h=>h) hS4 ?_ ?_
             rotate_left
             ·(intro oi ho;simp at ho;subst ho;refine Or.inl ⟨by rfl,fun w' hw'=>?_⟩;go_simp;try with_reducible rfl)
             (intro d hd;simp at hd;subst hd;simp only [Act.put,List.setIfInBounds_toArray,List.set_cons_zero,List.set_cons_succ])
             refine wpAnyS_take 10 (v:=?_) (by kernel_rfl) (by kernel_rfl) (by kernel_rfl) (by kernel_rfl) (fun _ _ _ _ h=>h) hS4 ?_ ?_
             rotate_left
             ·(intro oi ho;simp at ho;subst ho;refine Or.inl ⟨by rfl,fun w' hw'=>?_⟩;go_simp;try with_reducible rfl)
             (intro d hd;simp at hd;subst hd;simp only [Act.put,List.setIfInBounds_toArray,List.set_cons_zero,List.set_cons_succ])
             refine wpAnyS_take 12 (v:=?_) (by kernel_rfl) (by kernel_rfl) (by kernel_rfl) (by kernel_rfl) (fun _ _ _ _ h=>h) hS4 ?_ ?_
             rotate_left
             ·(intro oi ho;simp at ho;subst ho;refine Or.inl ⟨by rfl,fun w' hw'=>?_⟩;go_simp;try with_reducible rfl)
             (intro d hd;simp at hd;subst hd;simp only [Act.put,List.setIfInBounds_toArray,List.set_cons_zero,List.set_cons_succ])
             refine wpAnyS_take 13 (v:=?_) (by kernel_rfl) (by kernel_rfl) (by kernel_rfl) (by kernel_rfl) (fun _ _ _ _ h=>h) hS4 ?_ ?_
             rotate_left
             ·(intro oi ho;simp at ho;subst ho;refine Or.inl ⟨by rfl,fun w' hw'=>?_⟩;obtain ⟨e0,e1,e2⟩:=KEY14.out w' hw';go_simp;try with_reducible rfl)
             (intro d hd;simp at hd;subst hd;simp only [Act.put,List.setIfInBounds_toArray,List.set_cons_zero,List.set_cons_succ])
             refine wpAnyS_take 14 (v:=?_) (by kernel_rfl) (by kernel_rfl) (by kernel_rfl) (by kernel_rfl) (fun _ _ _ _ h=>h) hS4 ?_ ?_
             rotate_left
             ·(intro oi ho;simp at ho;subst ho;refine Or.inl ⟨by rfl,fun w' hw'=>?_⟩;go_simp;try with_reducible rfl)
             (intro d hd;simp at hd;subst hd;simp only [Act.put,List.setIfInBounds_toArray,List.set_cons_zero,List.set_cons_succ])
             refine wpAnyS_take 15 (v:=?_) (by kernel_rfl) (by kernel_rfl) (by kernel_rfl) (by kernel_rfl) (fun _ _ _ _ h=>h) hS4 ?_ ?_
             rotate_left
             ·(intro oi ho;simp at ho;subst ho;refine Or.inl ⟨by rfl,fun w' hw'=>?_⟩;go_simp;try with_reducible rfl)
             (intro d hd;simp at hd;subst hd;simp only [Act.put,List.setIfInBounds_toArray,List.set_cons_zero,List.set_cons_succ])
             refine wpAnyS_take 16 (v:=?_) (by kernel_rfl) (by kernel_rfl) (by kernel_rfl) (by kernel_rfl) (fun _ _ _ _ h=>h) hS4 ?_ ?_
             rotate_left
             ·(intro oi ho;simp at ho;subst ho;refine Or.inl ⟨by rfl,fun w' hw'=>?_⟩;obtain ⟨e0,e1,e2⟩:=KEY14.out w' hw';go_simp;try with_reducible rfl)
             (intro d hd;simp at hd;subst hd;simp only [Act.put,List.setIfInBounds_toArray,List.set_cons_zero,List.set_cons_succ])
             refine wpAnyS_one 11 (by kernel_rfl) ?_
             (intro o11 ho K' hK;simp at ho;subst ho)
             go_simp
             go_at_call 131
             (with_reducible refine (CE.out _).mono ?_)
             rintro en x11 ⟨rfl,e⟩
             subst x11
             refine hK.out _ _ ?_ ?_
             ·exact fun _=>hSd
             clear hK K'
             (try simp only [Act.put,List.setIfInBounds_toArray,List.set_cons_zero,List.set_cons_succ])
             have hS11:=hSd
             refine wpAnyS_take 17 (v:=?_) (by kernel_rfl) (by kernel_rfl) (by kernel_rfl) (by kernel_rfl) (fun _ _ _ _ h=>h) hS11 ?_ ?_
             rotate_left
             ·(intro oi ho;simp at ho;subst ho;refine Or.inl ⟨by rfl,fun w' hw'=>?_⟩;go_simp;try with_reducible rfl)
             (intro d hd;simp at hd;subst hd;simp only [Act.put,List.setIfInBounds_toArray,List.set_cons_zero,List.set_cons_succ])
             refine wpAnyS_take 18 (v:=?_) (by kernel_rfl) (by kernel_rfl) (by kernel_rfl) (by kernel_rfl) (fun _ _ _ _ h=>h) hS11 ?_ ?_
             rotate_left
             ·(intro oi ho;simp at ho;subst ho;refine Or.inl ⟨by rfl,fun w' hw'=>?_⟩;go_simp;try with_reducible rfl)
             (intro d hd;simp at hd;subst hd;simp only [Act.put,List.setIfInBounds_toArray,List.set_cons_zero,List.set_cons_succ])
             refine wpAnyS_take 19 (v:=?_) (by kernel_rfl) (by kernel_rfl) (by kernel_rfl) (by kernel_rfl) (fun _ _ _ _ h=>h) hS11 ?_ ?_
             rotate_left
             ·(intro oi ho;simp at ho;subst ho;refine Or.inl ⟨by rfl,fun w' hw'=>?_⟩;go_simp;try with_reducible rfl)
             (intro d hd;simp at hd;subst hd;simp only [Act.put,List.setIfInBounds_toArray,List.set_cons_zero,List.set_cons_succ])
             refine wpAnyS_done (by kernel_rfl) (NoPanic.normal ?_) _
             have HB14:=Lib.hid (Below.drew (Below.refl wq.heap.size wq))
             clear hSd KEY14
             go_wp2_with fail
             go_roundw
             case rel=>exact ⟨k+1,n2,c2,a2,us2,_,rfl,by omega,by go_num,rfl,HQ.out.1.trans (But.ofBelow (HB14.out)),by rw [HNX.out,HF.out,if_neg (by simp),List.append_nil];exact HQ.out.2.1.below (HB14.out),HQ.out.2.2⟩
             case measure=>simp [intOf];omega
           | true =>
             have hen2:((en0:Bs) == mi)=true:=by rw [beq_iff_eq] at hen ⊢;exact hen.symm
             have hom:((Option.map (fun x:Bs×Int=>x.1) (some (mi,zi))) == some en0)=(mi == en0):=rfl
             have HFQ:Hid ((qq || pe == (i:Int))=fe):=Lib.hid (by rw [<- HFE.out,hmq,hbw,hom,hen];rfl)
             clear hom
             clear hbw
             go_upto_region 14 with (fail)
             refine wp_region_noPanic ?_
             refine wp_region_S (fun w'=>Below wq.heap.size wq w') (fun _=>false) (by kernel_rfl) ?_
             have hSd:(fun w'=>Below wq.heap.size wq w') wq.drew:=Below.drew (Below.refl _ _)
             refine wpAnyS_take 0 (v:=?_) (by kernel_rfl) (by kernel_rfl) (by kernel_rfl) (by kernel_rfl) (fun _ _ _ _ h=>h) hSd ?_ ?_
             rotate_left
             ·(intro oi ho;simp at ho;subst ho;refine Or.inl ⟨by rfl,fun w' hw'=>?_⟩;go_simp;try with_reducible rfl)
             (intro d hd;simp at hd;subst hd;simp only [Act.put,List.setIfInBounds_toArray,List.set_cons_zero,List.set_cons_succ])
             refine wpAnyS_take 1 (v:=?_) (by kernel_rfl) (by kernel_rfl) (by kernel_rfl) (by kernel_rfl) (fun _ _ _ _ h=>h) hSd ?_ ?_
             rotate_left
             ·(intro oi ho;simp at ho;subst ho;refine Or.inl ⟨by rfl,fun w' hw'=>?_⟩;go_simp;try with_reducible rfl)
             (intro d hd;simp at hd;subst hd;simp only [Act.put,List.setIfInBounds_toArray,List.set_cons_zero,List.set_cons_succ])
             refine wpAnyS_take 2 (v:=?_) (by kernel_rfl) (by kernel_rfl) (by kernel_rfl) (by kernel_rfl) (fun _ _ _ _ h=>h) hSd ?_ ?_
             rotate_left
             ·(intro oi ho;simp at ho;subst ho;refine Or.inl ⟨by rfl,fun w' hw'=>?_⟩;go_simp;try with_reducible rfl)
             (intro d hd;simp at hd;subst hd;simp only [Act.put,List.setIfInBounds_toArray,List.set_cons_zero,List.set_cons_succ])
             refine wpAnyS_take 3 (v:=?_) (by kernel_rfl) (by kernel_rfl) (by kernel_rfl) (by kernel_rfl) (fun _ _ _ _ h=>h) hSd ?_ ?_
             rotate_left
             ·(intro oi ho;simp at ho;subst ho;refine Or.inl ⟨by rfl,fun w' hw'=>?_⟩;go_simp;try with_reducible rfl)
             (intro d hd;simp at hd;subst hd;simp only [Act.put,List.setIfInBounds_toArray,List.set_cons_zero,List.set_cons_succ])
             refine wpAnyS_take 5 (v:=?_) (by kernel_rfl) (by kernel_rfl) (by kernel_rfl) (by kernel_rfl) (fun _ _ _ _ h=>h) hSd ?_ ?_
             rotate_left
             ·(intro oi ho;simp at ho;subst ho;refine Or.inl ⟨by rfl,fun w' hw'=>?_⟩;go_simp;try with_reducible rfl)
             (intro d hd;simp at hd;subst hd;simp only [Act.put,List.setIfInBounds_toArray,List.set_cons_zero,List.set_cons_succ])
             refine wpAnyS_take 6 (v:=?_) (by kernel_rfl) (by kernel_rfl) (by kernel_rfl) (by kernel_rfl) (fun _ _ _ _ h=>h) hSd ?_ ?_
             rotate_left
             ·(intro oi ho;simp at ho;subst ho;refine Or.inl ⟨by rfl,fun w' hw'=>?_⟩;go_simp;try with_reducible rfl)
             (intro d hd;simp at hd;subst hd;simp only [Act.put,List.setIfInBounds_toArray,List.set_cons_zero,List.set_cons_succ])
             refine wpAnyS_one 4 (by kernel_rfl) ?_
             (intro o4 ho K' hK;simp at ho;subst ho)
             go_simp
             go_at_call 130
             (with_reducible refine (CB.out _).mono ?_)
             rintro en x4 ⟨rfl,e⟩
             subst x4
             refine hK.out _ _ ?_ ?_
             ·exact fun _=>hSd
             clear hK K'
             (try simp only [Act.put,List.setIfInBounds_toArray,List.set_cons_zero,List.set_cons_succ])
             have hS4:=hSd
             refine wpAnyS_take 7 (v:=?_) (by kernel_rfl) (by kernel_rfl) (by kernel_rfl) (by kernel_rfl) (fun _ _ _ _ h=>h) hS4 ?_ ?_
             rotate_left
             ·(intro oi ho;simp at ho;subst ho;refine Or.inl ⟨by rfl,fun w' hw'=>?_⟩;go_simp;try with_reducible rfl)
             (intro d hd;simp at hd;subst hd;simp only [Act.put,List.setIfInBounds_toArray,List.set_cons_zero,List.set_cons_succ])
             refine wpAnyS_take 8 (v:=?_) (by kernel_rfl) (by kernel_rfl) (by kernel_rfl) (by kernel_rfl) (fun _ _ _ _ h=>h) hS4 ?_ ?_
             rotate_left
             ·(intro oi ho;simp at ho;subst ho;refine Or.inl ⟨by rfl,fun w' hw'=>?_⟩;go_simp;try with_reducible rfl)
             (intro d hd;simp at hd;subst hd;simp only [Act.put,List.setIfInBounds_toArray,List.set_cons_zero,List.set_cons_succ])
             refine wpAnyS_take 9 (v:=?_) (by kernel_rfl) (by kernel_rfl) (by kernel_rfl) (by kernel_rfl) (fun _ _ _ _ h=>h) hS4 ?_ ?_
             rotate_left
             ·(intro oi ho;simp at ho;subst ho;refine Or.inl ⟨by rfl,fun w' hw'=>?_⟩;go_simp;try with_reducible rfl)
             (intro d hd;simp at hd;subst hd;simp only [Act.put,List.setIfInBounds_toArray,List.set_cons_zero,List.set_cons_succ])
             refine wpAnyS_take 10 (v:=?_) (by kernel_rfl) (by kernel_rfl) (by kernel_rfl) (by kernel_rfl) (fun _ _ _ _ h=>h) hS4 ?_ ?_
             rotate_left
             ·(intro oi ho;simp at ho;subst ho;refine Or.inl ⟨by rfl,fun w' hw'=>?_⟩;go_simp;try with_reducible rfl)
             (intro d hd;simp at hd;subst hd;simp only [Act.put,List.setIfInBounds_toArray,List.set_cons_zero,List.set_cons_succ])
             refine wpAnyS_take 12 (v:=?_) (by kernel_rfl) (by kernel_rfl) (by kernel_rfl) (by kernel_rfl) (fun _ _ _ _ h=>h) hS4 ?_ ?_
             rotate_left
             ·(intro oi ho;simp at ho;subst ho;refine Or.inl ⟨by rfl,fun w' hw'=>?_⟩;go_simp;try with_reducible rfl)
             (intro d hd;simp at hd;subst hd;simp only [Act.put,List.setIfInBounds_toArray,List.set_cons_zero,List.set_cons_succ])
             refine wpAnyS_take 13 (v:=?_) (by kernel_rfl) (by kernel_rfl) (by kernel_rfl) (by kernel_rfl) (fun _ _ _ _ h=>h) hS4 ?_ ?_
             rotate_left
             ·(intro oi ho;simp at ho;subst ho;refine Or.inl ⟨by rfl,fun w' hw'=>?_⟩;obtain ⟨e0,e1,e2⟩:=KEY14.out w' hw';go_simp;try with_reducible rfl)
             (intro d hd;simp at hd;subst hd;simp only [Act.put,List.setIfInBounds_toArray,List.set_cons_zero,List.set_cons_succ])
             refine wpAnyS_take 14 (v:=?_) (by kernel_rfl) (by kernel_rfl) (by kernel_rfl) (by kernel_rfl) (fun _ _ _ _ h=>h) hS4 ?_ ?_
             rotate_left
             ·(intro oi ho;simp at ho;subst ho;refine Or.inl ⟨by rfl,fun w' hw'=>?_⟩;go_simp;try with_reducible rfl)
             (intro d hd;simp at hd;subst hd;simp only [Act.put,List.setIfInBounds_toArray,List.set_cons_zero,List.set_cons_succ])
             refine wpAnyS_take 15 (v:=?_) (by kernel_rfl) (by kernel_rfl) (by kernel_rfl) (by kernel_rfl) (fun _ _ _ _ h=>h) hS4 ?_ ?_
             rotate_left
             ·(intro oi ho;simp at ho;subst ho;refine Or.inl ⟨by rfl,fun w' hw'=>?_⟩;go_simp;try with_reducible rfl)
             (intro d hd;simp at hd;subst hd;simp only [Act.put,List.setIfInBounds_toArray,List.set_cons_zero,List.set_cons_succ])
             refine wpAnyS_take 16 (v:=?_) (by kernel_rfl) (by kernel_rfl) (by kernel_rfl) (by kernel_rfl) (fun _ _ _ _ h=>h) hS4 ?_ ?_
             rotate_left
             ·(intro oi ho;simp at ho;subst ho;refine Or.inl ⟨by rfl,fun w' hw'=>?_⟩;obtain ⟨e0,e1,e2⟩:=KEY14.out w' hw';go_simp;try with_reducible rfl)
             (intro d hd;simp at hd;subst hd;simp only [Act.put,List.setIfInBounds_toArray,List.set_cons_zero,List.set_cons_succ])
             refine wpAnyS_one 11 (by kernel_rfl) ?_
             (intro o11 ho K' hK;simp at ho;subst ho)
             go_simp
             go_at_call 131
             (with_reducible refine (CE.out _).mono ?_)
             rintro en x11 ⟨rfl,e⟩
             subst x11
             refine hK.out _ _ ?_ ?_
             ·exact fun _=>hSd
             clear hK K'
             (try simp only [Act.put,List.setIfInBounds_toArray,List.set_cons_zero,List.set_cons_succ])
             have hS11:=hSd
             refine wpAnyS_take 17 (v:=?_) (by kernel_rfl) (by kernel_rfl) (by kernel_rfl) (by kernel_rfl) (fun _ _ _ _ h=>h) hS11 ?_ ?_
             rotate_left
             ·(intro oi ho;simp at ho;subst ho;refine Or.inl ⟨by rfl,fun w' hw'=>?_⟩;go_simp;try with_reducible rfl)
             (intro d hd;simp at hd;subst hd;simp only [Act.put,List.setIfInBounds_toArray,List.set_cons_zero,List.set_cons_succ])
             refine wpAnyS_take 18 (v:=?_) (by kernel_rfl) (by kernel_rfl) (by kernel_rfl) (by kernel_rfl) (fun _ _ _ _ h=>h) hS11 ?_ ?_
             rotate_left
             ·(intro oi ho;simp at ho;subst ho;refine Or.inl ⟨by rfl,fun w' hw'=>?_⟩;go_simp;try with_reducible rfl)
             (intro d hd;simp at hd;subst hd;simp only [Act.put,List.setIfInBounds_toArray,List.set_cons_zero,List.set_cons_succ])
             refine wpAnyS_take 19 (v:=?_) (by kernel_rfl) (by kernel_rfl) (by kernel_rfl) (by kernel_rfl) (fun _ _ _ _ h=>h) hS11 ?_ ?_
             rotate_left
             ·(intro oi ho;simp at ho;subst ho;refine Or.inl ⟨by rfl,fun w' hw'=>?_⟩;go_simp;try with_reducible rfl)
             (intro d hd;simp at hd;subst hd;simp only [Act.put,List.setIfInBounds_toArray,List.set_cons_zero,List.set_cons_succ])
             refine wpAnyS_done (by kernel_rfl) (NoPanic.normal ?_) _
             have HB14:=Lib.hid (Below.drew (Below.refl wq.heap.size wq))
             obtain ⟨y0,hy0⟩:=zzN (wq.drew)
             rw [hy0] at HB14 ⊢
             have HY:=HB14
             obtain ⟨⟨e0,e1⟩,hia,hpl⟩:=KEY.out wq y0 HQ.out.1 HY.out
             have CPY:=CPE.out y0 hpl
             rw [HPE.out] at CPY
             have CPY:=Lib.hid CPY
             have HPY:=Lib.hid hpl
             clear hSd KEY14 hy0 hia hpl CPW
             cases qq with
             | true =>
               have hq1:((c.toNat:Int) == 113)=true:=hqe
               obtain rfl:fe=true:=by rw [<- HFQ.out];rfl
               have CW2:=Lib.hid (CW.out y0 HPY.out m (i:Int))
               go_wp2_with fail
               (with_reducible refine CW2.out.mono ?_)
               rintro en y1 ⟨mvn,ptn,rfl,hpn,hb1,hfn⟩
               have hL1:(v++[(m,(i:Int))]).length=v.length+1:=by rw [List.length_append];rfl
               obtain ⟨LU,hLU⟩:=zzN (v.length+1)
               obtain ⟨a8,c8,e8⟩:=hpn.1.slice
               obtain ⟨a9,c9,e9⟩:=hpn.2.slice
               rw [hL1,hLU] at e8 e9
               subst e8;subst e9
               have H1:=Lib.hid (And.intro (zzT HY.out hb1) (And.intro hpn (fun g hg=>Nat.le_trans HY.out.size (hfn g hg))))
               clear hpn hb1 hfn hL1 hLU CW2
               go_wp2_with (at_builtin;refine wpList_append_gen rfl _ _ 26 rfl 33 (.agg #[.slice none 0 0,.slice none 0 0]) 2 48 Tryz.underlying26 Tryz.infoPlay rfl (by decide) (.slice a2 n2 c2) n2 (plC us2) rfl ?c1 _ 1 [.slice a8 LU c8,.slice a9 LU c9] rfl ?c2 ?c3 ?c4 ?_)
               case c1=>exact (HQ.out.2.1.below H1.out.1).own.alloc _
               case c2=>exact SrcSl.litk #[.slice a8 LU c8,.slice a9 LU c9] rfl (by simp [Value.oneCell']) _ (by rfl)
               case c3=>unfold maxLen;omega
               case c4=>omega
               intro a7 c7 w7 ho7 hb7 hg7
               have hz1:=H1.out.1.size
               have hN7:=HQ.out.2.1.add (H1.out.1.alloc hz1 _) (Nat.le_trans HZ.out (Nat.le_trans HS3.out HQ.out.1.size)) (H1.out.2.1.below ((Below.refl _ _).alloc (Nat.le_refl _) _)) H1.out.2.2 ho7 hb7 (fun g hg=>by rw [size_alloc];exact hg7 g hg)
               have hB7:But (fun b=>b=W.heap.size) w3 w7:=(HQ.out.1.trans (But.ofBelow (H1.out.1.alloc hz1 _))).trans' hb7 (fun g hg e=>by
                rcases HQ.out.2.2 g e with h | h
                ·exact h
                ·omega)
               have hR7:∀ g,(Value.slice a7 (n2+1) c7).ownBlock=some g->g=W.heap.size\/w3.heap.size<=g:=fun g hg=>by
                have h3:=HQ.out.1.size
                rcases hg7 g hg with h | h
                ·exact HQ.out.2.2 g h
                ·exact .inr (by omega)
               have H7:=Lib.hid (And.intro hB7 (And.intro hN7 hR7))
               clear ho7 hb7 hg7 hN7 hB7 hR7 hz1
               go_wp2_with fail
               go_roundw
               case rel=>exact ⟨k+1,n2+1,c7,a7,us2++[(.slice a8 LU c8,.slice a9 LU c9)],_,rfl,by omega,by go_num,rfl,H7.out.1,by rw [HNX.out,HF.out,if_pos rfl,<- List.append_assoc];exact H7.out.2.1,H7.out.2.2⟩
               case measure=>simp [intOf];omega
             | false =>
               have hq1:((c.toNat:Int) == 113)=false:=hqe
               cases hpi:(pe == (i:Int)) with
               | false =>
                 obtain rfl:fe=false:=by rw [<- HFQ.out,hpi];rfl
                 go_wp2_with fail
                 (with_reducible refine CPY.out.mono ?_)
                 rintro en y1 ⟨rfl,hb1⟩
                 have HB15:=Lib.hid (zzT HY.out hb1)
                 clear hb1 CPY
                 go_wp2_with fail
                 go_roundw
                 case rel=>exact ⟨k+1,n2,c2,a2,us2,_,rfl,by omega,by go_num,rfl,HQ.out.1.trans (But.ofBelow (HB15.out)),by rw [HNX.out,HF.out,if_neg (by simp),List.append_nil];exact HQ.out.2.1.below (HB15.out),HQ.out.2.2⟩
                 case measure=>simp [intOf];omega
               | true =>
                 obtain rfl:fe=true:=by rw [<- HFQ.out,hpi];rfl
                 go_wp2_with fail
                 (with_reducible refine CPY.out.mono ?_)
                 rintro en y1' ⟨rfl,hb1⟩
                 have h2:=(KEY.out wq y1' HQ.out.1 (zzT HY.out hb1))
                 obtain ⟨⟨g0,g1⟩,_,hpl2⟩:=h2
                 have HPY2:=Lib.hid hpl2
                 have HYY:=Lib.hid (zzT HY.out hb1)
                 clear hb1 CPY e0 e1 hpl2
                 have CW2:=Lib.hid (CW.out y1' HPY2.out m (i:Int))
                 go_wp2_with fail
                 (with_reducible refine CW2.out.mono ?_)
                 rintro en y1 ⟨mvn,ptn,rfl,hpn,hb1,hfn⟩
                 have hL1:(v++[(m,(i:Int))]).length=v.length+1:=by rw [List.length_append];rfl
                 obtain ⟨LU,hLU⟩:=zzN (v.length+1)
                 obtain ⟨a8,c8,e8⟩:=hpn.1.slice
                 obtain ⟨a9,c9,e9⟩:=hpn.2.slice
                 rw [hL1,hLU] at e8 e9
                 subst e8;subst e9
                 have H1:=Lib.hid (And.intro (zzT HYY.out hb1) (And.intro hpn (fun g hg=>Nat.le_trans HYY.out.size (hfn g hg))))
                 clear hpn hb1 hfn hL1 hLU CW2
                 go_wp2_with (at_builtin;refine wpList_append_gen rfl _ _ 26 rfl 33 (.agg #[.slice none 0 0,.slice none 0 0]) 2 48 Tryz.underlying26 Tryz.infoPlay rfl (by decide) (.slice a2 n2 c2) n2 (plC us2) rfl ?c1 _ 1 [.slice a8 LU c8,.slice a9 LU c9] rfl ?c2 ?c3 ?c4 ?_)
                 case c1=>exact (HQ.out.2.1.below H1.out.1).own.alloc _
                 case c2=>exact SrcSl.litk #[.slice a8 LU c8,.slice a9 LU c9] rfl (by simp [Value.oneCell']) _ (by rfl)
                 case c3=>unfold maxLen;omega
                 case c4=>omega
                 intro a7 c7 w7 ho7 hb7 hg7
                 have hz1:=H1.out.1.size
                 have hN7:=HQ.out.2.1.add (H1.out.1.alloc hz1 _) (Nat.le_trans HZ.out (Nat.le_trans HS3.out HQ.out.1.size)) (H1.out.2.1.below ((Below.refl _ _).alloc (Nat.le_refl _) _)) H1.out.2.2 ho7 hb7 (fun g hg=>by rw [size_alloc];exact hg7 g hg)
                 have hB7:But (fun b=>b=W.heap.size) w3 w7:=(HQ.out.1.trans (But.ofBelow (H1.out.1.alloc hz1 _))).trans' hb7 (fun g hg e=>by
                  rcases HQ.out.2.2 g e with h | h
                  ·exact h
                  ·omega)
                 have hR7:∀ g,(Value.slice a7 (n2+1) c7).ownBlock=some g->g=W.heap.size\/w3.heap.size<=g:=fun g hg=>by
                  have h3:=HQ.out.1.size
                  rcases hg7 g hg with h | h
                  ·exact HQ.out.2.2 g h
                  ·exact .inr (by omega)
                 have H7:=Lib.hid (And.intro hB7 (And.intro hN7 hR7))
                 clear ho7 hb7 hg7 hN7 hB7 hR7 hz1
                 go_wp2_with fail
                 go_roundw
                 case rel=>exact ⟨k+1,n2+1,c7,a7,us2++[(.slice a8 LU c8,.slice a9 LU c9)],_,rfl,by omega,by go_num,rfl,H7.out.1,by rw [HNX.out,HF.out,if_pos rfl,<- List.append_assoc];exact H7.out.2.1,H7.out.2.2⟩
                 case measure=>simp [intOf];omega
    ·have hktI:¬ (k:Int)<(n3:Int):=by omega
     obtain rfl:k=n3:=by omega
     have HE:=Lib.hid (show NxR W.heap.size (nextN t v (i+1)) a2 n2 c2 us2 wq by
      have h1:=HQ.out.2.1
      rw [List.take_of_length_le (by rw [HNM.out];exact Nat.le_refl _)] at h1
      rw [nextN_succ];exact h1)
     go_wp2_with fail
     go_roundw
     case rel=>exact ⟨i+1,n2,c2,a2,us2,_,rfl,by omega,by go_num,rfl,HQ.out.1,HE.out,HQ.out.2.2⟩
     case measure=>simp [intOf];omega
  ·have hltI:¬ (i:Int)<(v.length:Int):=by omega
   obtain rfl:i=v.length:=by omega
   have hF:Below w.heap.size w wr:=(zzT HW.out.2.2.2.1 H3.out.1).trans (HR.out.1.toBelow (by have h1:=HW.out.2.2.2.1.size;have h2:=H3.out.1.size;omega) fun j hj e=>by have:=HZ2.out;omega)
   have HF:=Lib.hid hF
   clear hF
   go_wp2_with fail
   go_ret
   rw [E.out]
   exact ⟨_,_,_,_,rfl,HF.out,HR.out.2.1.mono (by have:=HZ2.out;omega)⟩
end Go.Proofs.YtdfkiicodfbibaaGreatDoor

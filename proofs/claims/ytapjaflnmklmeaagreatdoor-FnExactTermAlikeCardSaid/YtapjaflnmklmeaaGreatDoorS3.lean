import Derived.Test.YtapjaflnmklmeaaGreatDoorW9a
import Derived.Deep.RegionHeld3
import Derived.Deep.QuietTactic
import Derived.BigQuiet
/- The walks of the reference's types. -/
namespace Go.Proofs.YtapjaflnmklmeaaGreatDoor
open Go.RowKit
mutual
def encS:Ty→DV
 | .mk ts=>.sl 31 1 ts.length (encSs ts)
def encSs:List Ty→List DV
 | []=>[]
 | t::ts=>encS t::encSs ts
end
def T1Post (L:Nat) (w:World) (o:Option (Ty×Bs)) (en:Ending) (w':World):Prop :=
 ∃ (v:Value) (k:Int) (t:Ty),en=.returned (.tuple #[.agg #[v],.int .i64 k])∧Below w.heap.size w w'∧Rep (w.heap.size≤·) w' (encS t) v∧(o=none→k = -1∧t=.mk [])∧(∀ t' rest,o=some (t',rest)→k=(L:Int)-rest.length∧t=t')
theorem Tryz.infoS:(Tryz.prog.info? 31).map (fun i=>(i.zero,i.size,i.bytes))=some (some (.agg #[.slice none 0 0]),1,24):=by kernel_rfl
theorem encSs_at (ts:List Ty):∀ k:Nat,(encSs ts)[k]? = ts[k]?.map encS:=by
 induction ts with
 | nil=>intro k;simp [encSs]
 | cons t ts ih=>intro k;cases k <;> simp [encSs,ih]
theorem encSs_append (a b:List Ty):encSs (a++b)=encSs a++encSs b:=by
 induction a with
 | nil=>rfl
 | cons t ts ih=>simp [encSs,ih]
theorem encS_eq (t:Ty):encS t=.sl 31 1 t.args.length (encSs t.args):=by cases t;rw [encS];rfl
theorem encS_slice {F:Nat→Prop} {w:World} {t:Ty} {v:Value} (h:Rep F w (encS t) v):∃ a c,v=.slice a t.args.length c:=by
 rw [encS_eq] at h;obtain ⟨a,c,e,_⟩:=Rep_sl1_open h;exact ⟨a,c,e⟩
theorem oneCell_encSs {F:Nat→Prop} {w:World} (ts:List Ty):∀ us,Reps F w (encSs ts) us→∀ u∈us,u.oneCell'=true:=by
 induction ts with
 | nil=>intro us h;rw [encSs,Reps_nil] at h;subst h;simp
 | cons t ts ih =>
   intro us h u hu
   rw [encSs,Reps_cons] at h
   obtain ⟨v,vs',rfl,h1,h2⟩:=h
   rcases List.mem_cons.1 hu with rfl | hu
   ·obtain ⟨a,c,rfl⟩:=encS_slice h1;rfl
   ·exact ih _ h2 u hu
theorem encS_none (F:Nat→Prop) (w:World):Rep F w (encS (.mk [])) (.slice none 0 0):=by
 rw [encS_eq];exact Rep_sl.2 ⟨rfl,none,0,rfl,Nat.le_refl _,fun _=>rfl,.inl rfl⟩
theorem T1Post.no {L:Nat} {w w':World} {o:Option (Ty×Bs)} (ho:o=none) (hb:Below w.heap.size w w') :
 T1Post L w o (.returned (.tuple #[.agg #[.slice none 0 0],.int .i64 (-1)])) w' :=
 ⟨_,_,.mk [],rfl,hb,encS_none _ _,fun _=>⟨rfl,rfl⟩,fun _ _ h=>by rw [ho] at h;simp at h⟩
theorem T1Post.yes {L:Nat} {w w':World} {o:Option (Ty×Bs)} {t:Ty} {rest:Bs} {v:Value} {k:Int} (ho:o=some (t,rest)) (hk:k=(L:Int)-rest.length) (hb:Below w.heap.size w w') (hv:Rep (w.heap.size≤·) w' (encS t) v) :
 T1Post L w o (.returned (.tuple #[.agg #[v],.int .i64 k])) w' :=
 ⟨_,_,t,rfl,hb,hv,fun h=>by rw [ho] at h;simp at h,fun _ _ h=>by rw [ho] at h;simp at h;obtain ⟨rfl,rfl⟩:=h;exact ⟨hk,rfl⟩⟩
def ReadSaid (l:Bs) (d:Nat):Prop:=∀ (i:Nat) (w:World),i≤l.length→d≤21 →
    Calls Tryz.prog 42 #[str l,.int .i64 i,.int .i64 d] w (T1Post l.length w (rdS (21-d) (l.drop i)))
set_option maxHeartbeats 2000000 in
theorem l1Read_step (l:Bs) (hl:Lim l.length) (d:Nat) (ih:d≤20→ReadSaid l (d+1)):ReadSaid l d:=by
 intro i w hi hd
 have hl':=hl.le
 have IH:=Lib.hid ih;clear ih
 by_cases hd20:d≤20
 rotate_left
 ·have h0:Hid (21-d=0):=by show 21-d=0;omega
  go_enter Tryz.func42,Tryz.ntmps42
  go_wp2_with fail
  refine bodyPost_ret (v:=.tuple #[.agg #[.slice none 0 0],.int .i64 (-1)]) (by simp [results,Tryz.results42,go_sem]) rfl ?_
  exact T1Post.no (by rw [h0.out];rfl) ((Below.refl _ _).alloc (Nat.le_refl _) _)
 obtain ⟨n,hn⟩:∃ n,21-d=n+1:=⟨20-d,by omega⟩
 have IH':=Lib.hid (IH.out hd20);clear IH
 have HN:=Lib.hid hn
 have HN':Hid (21-(d+1)=n):=by show 21-(d+1)=n;omega
 clear hn
 by_cases hlt:i<l.length
 rotate_left
 ·go_enter Tryz.func42,Tryz.ntmps42
  go_wp2_with fail
  refine bodyPost_ret (v:=.tuple #[.agg #[.slice none 0 0],.int .i64 (-1)]) (by simp [results,Tryz.results42,go_sem]) rfl ?_
  exact T1Post.no (by rw [HN.out,rdS_no (cut_end (by omega)),cut_end (by omega)];rfl) ((Below.refl _ _).alloc (Nat.le_refl _) _)
 by_cases hb:l[i]=98
 ·have f1:=byte_yes hlt (n:=98) (by decide) hb
  have hc:Cut [98] (l.drop i) (l.drop (i+1)):=by unfold Cut;rw [cut_one hlt,if_pos hb]
  clear hb
  go_enter Tryz.func42,Tryz.ntmps42
  go_wp2_with fail
  refine bodyPost_ret (v:=.tuple #[.agg #[.slice none 0 0],.int .i64 ((i:Int)+1)]) (by simp [results,Tryz.results42,go_sem]) rfl ?_
  exact T1Post.yes (t:=.mk []) (by rw [HN.out,rdS_b hc]) (by simp;omega) ((Below.refl _ _).alloc (Nat.le_refl _) _) (encS_none _ _)
 have f1:=byte_no hlt (n:=98) (by decide) hb
 have hc:NoCut [98] (l.drop i):=by unfold NoCut;rw [cut_one hlt,if_neg hb]
 have HM:=Lib.hid (rdS_no (n:=n) hc)
 clear hb hc
 by_cases h3:i+3≤l.length
 rotate_left
 ·have h3':(l.length:Int)<(i:Int)+3:=by omega
  have hc2:Hid (cut [40,62,32] (l.drop i)=none):=by
   show cut [40,62,32] (l.drop i)=none
   cases hq:cut [40,62,32] (l.drop i) with
   | none=>rfl
   | some r=>have:=(cut_drop hq).2;simp at this;omega
  go_enter Tryz.func42,Tryz.ntmps42
  go_wp2_with fail
  refine bodyPost_ret (v:=.tuple #[.agg #[.slice none 0 0],.int .i64 (-1)]) (by simp [results,Tryz.results42,go_sem]) rfl ?_
  exact T1Post.no (by rw [HN.out,HM.out,hc2.out];rfl) ((Below.refl _ _).alloc (Nat.le_refl _) _)
 have h3':(i:Int)+3≤(l.length:Int):=by omega
 have hx:(l.take (i+3)).drop i=(l.drop i).take 3:=by rw [List.drop_take];congr 1;omega
 rcases cut_cases [40,62,32] (l.drop i) with h4 | ⟨r1,h4⟩
 ·have f2:(((⟨l.toArray⟩:ByteArray).extract i (i+3)).toList == [40,62,32])=false:=by
   rw [ext_list,hx,beq_eq_false_iff_ne]
   intro e
   have h5:=h4.out
   have hp:[40,62,32].isPrefixOf (l.drop i)=true:=by rw [List.isPrefixOf_iff_prefix,← e];exact List.take_prefix _ _
   unfold cut at h5;rw [if_pos hp] at h5;simp at h5
  clear hx
  go_enter Tryz.func42,Tryz.ntmps42
  go_wp2_with fail
  refine bodyPost_ret (v:=.tuple #[.agg #[.slice none 0 0],.int .i64 (-1)]) (by simp [results,Tryz.results42,go_sem]) rfl ?_
  exact T1Post.no (by rw [HN.out,HM.out,h4.out];rfl) ((Below.refl _ _).alloc (Nat.le_refl _) _)
 have f2:(((⟨l.toArray⟩:ByteArray).extract i (i+3)).toList == [40,62,32])=true:=by
  rw [ext_list,hx,beq_iff_eq]
  have h5:=h4.out
  unfold cut at h5;split at h5
  ·rename_i hp
   exact (List.prefix_iff_eq_take.1 (List.isPrefixOf_iff_prefix.1 hp)).symm
  ·simp at h5
 have hr1:=(cut_drop h4.out).1
 have hr1':r1=l.drop (i+3):=hr1
 subst hr1'
 clear hx hr1
 go_enter Tryz.func42,Tryz.ntmps42
 go_wp2_with fail
 rw [show (i:Int)+3=((i+3:Nat):Int) from by omega,show (d:Int)+1=((d+1:Nat):Int) from by omega]
 refine (IH'.out (i+3) _ h3 (by omega)).mono ?_
 rintro en w1 ⟨v1,k1,t1,rfl,hb1,hv1,hn1,hy1⟩
 rw [HN'.out] at hn1 hy1
 have hbA:Below w.heap.size w w1:=((Below.refl w.heap.size w).alloc (Nat.le_refl _) _).trans (hb1.mono (by simp))
 have z1:=hb1.size
 have hz1:w.heap.size<w1.heap.size:=by simp at z1;omega
 have hcell:w1.cell? ⟨w.heap.size,0,none⟩=some (.slice none 0 0):=by rw [hb1.cell (by simp)];simp
 have hfree:w1.frozen? ⟨w.heap.size,0,none⟩=false:=by rw [hb1.frozen (by simp)];simp
 obtain ⟨a1,c1,e1⟩:=encS_slice hv1
 subst e1
 cases hq:rdS n (l.drop (i+3)) with
 | none =>
   obtain ⟨rfl,rfl⟩:=hn1 hq
   have HQ:=Lib.hid hq;clear hq hn1 hy1
   go_wp2_with fail
   refine bodyPost_ret (v:=.tuple #[.agg #[.slice none 0 0],.int .i64 (-1)]) (by simp [results,Tryz.results42,go_sem,hz1,cell_put hcell]) rfl ?_
   exact T1Post.no (by rw [HN.out,HM.out,h4.out];simp [HQ.out]) (by repeat (first | exact hbA | refine Below.alloc ?_ (by simp;omega) _ | refine Below.setCell ?_ (by simp) _ | refine Below.drew ?_))
 | some x =>
   obtain ⟨ta,r2⟩:=x
   obtain ⟨rfl,rfl⟩:=hy1 _ _ hq
   have hsf:=suffix_drop (rdS_suffix hq)
   have hr2:=(rdS_le hq).1
   have HQ:=Lib.hid hq;clear hq hn1 hy1
   obtain ⟨e,he⟩:∃ e,e=l.length-r2.length:=⟨_,rfl⟩
   have hel:e≤l.length:=by omega
   have hr2l:r2.length≤l.length:=by simp at hr2;omega
   have hk:(l.length:Int)-(r2.length:Int)=(e:Int):=by omega
   rw [← he] at hsf
   rw [hk]
   have HSF:=Lib.hid hsf
   clear hk hsf hr2
   by_cases hee:e<l.length
   rotate_left
   ·have hc5:Hid (cut [32] r2=none):=by show cut [32] r2=none;rw [HSF.out];exact cut_end (by omega)
    have HE:=Lib.hid he;clear he
    go_wp2_with fail
    refine bodyPost_ret (v:=.tuple #[.agg #[.slice none 0 0],.int .i64 (-1)]) (by simp [results,Tryz.results42,go_sem,hz1,cell_put hcell]) rfl ?_
    exact T1Post.no (by rw [HN.out,HM.out,h4.out];simp [HQ.out,hc5.out]) (by repeat (first | exact hbA | refine Below.alloc ?_ (by simp;omega) _ | refine Below.setCell ?_ (by simp) _ | refine Below.drew ?_))
   have HE:=Lib.hid he;clear he
   by_cases hb5:l[e]=32
   rotate_left
   ·have f5:=byte_no2 hee (n:=32) (by decide) hb5
    have hc5:Hid (cut [32] r2=none):=by show cut [32] r2=none;rw [HSF.out,cut_one hee,if_neg hb5]
    clear hb5
    go_wp2_with fail
    refine bodyPost_ret (v:=.tuple #[.agg #[.slice none 0 0],.int .i64 (-1)]) (by simp [results,Tryz.results42,go_sem,hz1,cell_put hcell]) rfl ?_
    exact T1Post.no (by rw [HN.out,HM.out,h4.out];simp [HQ.out,hc5.out]) (by repeat (first | exact hbA | refine Below.alloc ?_ (by simp;omega) _ | refine Below.setCell ?_ (by simp) _ | refine Below.drew ?_))
   have f5:=byte_yes2 hee (n:=32) (by decide) hb5
   have g1:decide ((e:Int)<0)=false:=by rw [decide_eq_false_iff_not];omega
   have g2:decide (l.length≤e)=false:=by rw [decide_eq_false_iff_not];omega
   have hc5:Hid (cut [32] r2=some (l.drop (e+1))):=by show cut [32] r2=_;rw [HSF.out,cut_one hee,if_pos hb5]
   clear hb5
   go_wp2_with fail
   rw [show (e:Int)+1=((e+1:Nat):Int) from by omega,show (d:Int)+1=((d+1:Nat):Int) from by omega]
   refine (IH'.out (e+1) _ hee (by omega)).mono ?_
   rintro en w2 ⟨v2,k2,t2,rfl,hb2,hv2,hn2,hy2⟩
   rw [HN'.out] at hn2 hy2
   obtain ⟨a2,c2,e2⟩:=encS_slice hv2
   subst e2
   have z2:=hb2.size
   rw [size_alloc] at z2
   have hbB:Below w.heap.size w w2:=(hbA.alloc hbA.size _).trans (hb2.mono (by rw [size_alloc];omega))
   have hz2:w.heap.size<w2.heap.size:=by omega
   have hz2':w1.heap.size<w2.heap.size:=by omega
   have hcell2:w2.cell? ⟨w.heap.size,0,none⟩=some (.slice none 0 0):=by rw [hb2.cell (by simp;omega)];exact cell_alloc hcell
   have hfree2:w2.frozen? ⟨w.heap.size,0,none⟩=false:=by rw [hb2.frozen (by simp;omega)];rw [World.frozen?_of_block (w:=w1) (Below.heap_alloc _ _ _ hz1)];exact hfree
   have hcellA:w2.cell? ⟨w1.heap.size,0,none⟩=some (.slice a1 t1.args.length c1):=by rw [hb2.cell (by simp)];simp
   have hv1':Rep (w1.heap.size≤·) w2 (encS t1) (.slice a1 t1.args.length c1)∨True:=.inr trivial
   clear hv1' hcell hfree
   cases hq:rdS n (l.drop (e+1)) with
   | none =>
     obtain ⟨rfl,rfl⟩:=hn2 hq
     have HQ2:=Lib.hid hq;clear hq hn2 hy2
     go_wp2_with fail
     refine bodyPost_ret (v:=.tuple #[.agg #[.slice none 0 0],.int .i64 (-1)]) (by simp [results,Tryz.results42,go_sem,hz2,cell_put hcell2]) rfl ?_
     exact T1Post.no (by rw [HN.out,HM.out,h4.out];simp [HQ.out,hc5.out,HQ2.out]) (by repeat (first | exact hbB | refine Below.alloc ?_ (by simp;omega) _ | refine Below.setCell ?_ (by simp) _ | refine Below.drew ?_))
   | some x =>
     obtain ⟨tb,r4⟩:=x
     obtain ⟨rfl,rfl⟩:=hy2 _ _ hq
     have hsf:=suffix_drop (rdS_suffix hq)
     have hr4:=rdS_le hq
     have HQ2:=Lib.hid hq;clear hq hn2 hy2
     obtain ⟨e2,he⟩:∃ e2,e2=l.length-r4.length:=⟨_,rfl⟩
     have hel:e2≤l.length:=by omega
     have hr2l:r4.length≤l.length:=by simp at hr4;omega
     have hk:(l.length:Int)-(r4.length:Int)=(e2:Int):=by omega
     have htl:t2.args.length≤16777216:=by simp at hr4;omega
     rw [← he] at hsf
     rw [hk]
     have HSF2:=Lib.hid hsf
     clear hk hsf hr4
     have HE2:=Lib.hid he;clear he
     by_cases hee2:e2<l.length
     rotate_left
     ·have hc6:Hid (cut [41] r4=none):=by show cut [41] r4=none;rw [HSF2.out];exact cut_end (by omega)
      go_wp2_with fail
      refine bodyPost_ret (v:=.tuple #[.agg #[.slice none 0 0],.int .i64 (-1)]) (by simp [results,Tryz.results42,go_sem,hz2,cell_put hcell2]) rfl ?_
      exact T1Post.no (by rw [HN.out,HM.out,h4.out];simp [HQ.out,hc5.out,HQ2.out,hc6.out]) (by repeat (first | exact hbB | refine Below.alloc ?_ (by simp;omega) _ | refine Below.setCell ?_ (by simp) _ | refine Below.drew ?_))
     by_cases hb6:l[e2]=41
     rotate_left
     ·have f6:=byte_no2 hee2 (n:=41) (by decide) hb6
      have hc6:Hid (cut [41] r4=none):=by show cut [41] r4=none;rw [HSF2.out,cut_one hee2,if_neg hb6]
      clear hb6
      go_wp2_with fail
      refine bodyPost_ret (v:=.tuple #[.agg #[.slice none 0 0],.int .i64 (-1)]) (by simp [results,Tryz.results42,go_sem,hz2,cell_put hcell2]) rfl ?_
      exact T1Post.no (by rw [HN.out,HM.out,h4.out];simp [HQ.out,hc5.out,HQ2.out,hc6.out]) (by repeat (first | exact hbB | refine Below.alloc ?_ (by simp;omega) _ | refine Below.setCell ?_ (by simp) _ | refine Below.drew ?_))
     have f6:=byte_yes2 hee2 (n:=41) (by decide) hb6
     have g3:decide ((e2:Int)<0)=false:=by rw [decide_eq_false_iff_not];omega
     have g4:decide (l.length≤e2)=false:=by rw [decide_eq_false_iff_not];omega
     have hc6:Hid (cut [41] r4=some (l.drop (e2+1))):=by show cut [41] r4=_;rw [HSF2.out,cut_one hee2,if_pos hb6]
     clear hb6
     rw [encS_eq] at hv2
     obtain ⟨xs,hxs,hsrc⟩:=SrcSl.ofRep hv2 (oneCell_encSs _)
     go_wp2_with (at_builtin;refine wpList_append_gen rfl _ _ 29 rfl 31 (.agg #[.slice none 0 0]) 1 24 Tryz.underlying29 Tryz.infoS rfl (by decide) _ 1 [.slice a1 t1.args.length c1] rfl ?c1 _ t2.args.length xs rfl ?c2 ?c3 ?c4 ?_)
     case c1=>exact Own.litAt #[.slice a1 t1.args.length c1] 1 _ (by simp) (by decide) rfl
     case c2=>exact hsrc.keep fun _ _ h=>cell_alloc (cell_alloc h)
     case c3=>unfold maxLen;omega
     case c4=>omega
     intro a' c' w3 ho hb3 hg3
     have hbW:Below w2.heap.size w2 ((w2.alloc (.cells #[.slice a2 t2.args.length c2] 31)).alloc (.cells #[.slice a1 t1.args.length c1] 31)):=((Below.refl _ _).alloc (Nat.le_refl _) _).alloc (by simp) _
     have hb2w:Below w2.heap.size w2 w3:=hbW.trans (hb3.toBelow (by simp;omega) (fun i hi e=>by simp [Value.ownBlock] at e;omega))
     have hbC:Below w.heap.size w w3:=hbB.trans (hb2w.mono (by omega))
     have hcell3:w3.cell? ⟨w.heap.size,0,none⟩=some (.slice none 0 0):=by rw [hb2w.cell hz2];exact hcell2
     have hfree3:w3.frozen? ⟨w.heap.size,0,none⟩=false:=by rw [hb2w.frozen hz2];exact hfree2
     have hv1W:Rep (w.heap.size≤·) w3 (encS t1) (.slice a1 t1.args.length c1):=by
      refine (Rep.keep fun b o h ho=>⟨by have:=sz_le h;omega,?_⟩).1 _ _ hv1
      rw [hb2w.block b (by have:=lt_of_heap ho;omega),hb2.block b (by have:=lt_of_heap ho;simp;omega)]
      exact heap_past ho
     have hxsW:Reps (w.heap.size≤·) w3 (encSs t2.args) xs :=
      (Rep.keep fun b o h ho=>⟨by have:=sz_le h;omega,by rw [hb2w.block b (lt_of_heap ho)];exact ho⟩).2 _ _ hxs
     have hown:∀ g,(Value.slice a' (1+t2.args.length) c').ownBlock=some g→w.heap.size≤g:=by
      intro g h
      rcases hg3 g h with h | h
      ·simp [Value.ownBlock] at h;omega
      ·have:=hb2w.size;omega
     have HG:=Lib.hid hown;have HG3:=Lib.hid hg3;clear hg3 hown
     go_wp2_with fail
     refine bodyPost_ret (v:=.tuple #[.agg #[.slice a' (1+t2.args.length) c'],.int .i64 ((e2:Int)+1)]) (by simp [results,Tryz.results42,go_sem,cell_put hcell3]) rfl ?_
     refine T1Post.yes (t:=arrowT t1 t2) (rest:=l.drop (e2+1)) (by rw [HN.out,HM.out,h4.out];simp [HQ.out,hc5.out,HQ2.out,hc6.out]) (by simp;omega) (hbC.setCell (Nat.le_refl _) _) ?_
     refine (Rep.keep (w:=w3) (F:=fun b=>w.heap.size≤b∧b≠w.heap.size) fun b o h ho=>⟨h.1,?_⟩).1 _ _ ?_
     ·rw [Below.heap_setCell _ _ _ _ (by simpa using h.2)];exact ho
     rw [encS_eq,show (arrowT t1 t2).args.length=1+t2.args.length from by simp [arrowT,Ty.args,Nat.add_comm]]
     refine ho.rep (fun g h=>⟨HG.out g h,?_⟩) ?_
     ·rcases HG3.out g h with h | h
      ·simp [Value.ownBlock] at h;omega
      ·have:=hb2w.size;omega
     ·show Reps _ _ (encS t1::encSs t2.args) _
      refine Reps_cons.2 ⟨_,_,rfl,?_,?_⟩
      ·refine (Rep.keep fun b o h ho=>⟨⟨by have:=sz_le h;omega,by have:=sz_le h;omega⟩,?_⟩).1 _ _ hv1
       rw [hb2w.block b (by have:=lt_of_heap ho;omega),hb2.block b (by have:=lt_of_heap ho;simp;omega)]
       exact heap_past ho
      ·exact (Rep.keep fun b o h ho=>⟨⟨by have:=sz_le h;omega,by have:=sz_le h;omega⟩,by rw [hb2w.block b (lt_of_heap ho)];exact ho⟩).2 _ _ hxs
theorem l1Read_any (l:Bs) (hl:Lim l.length) (n:Nat):∀ d,21-d=n→ReadSaid l d:=by
 induction n with
 | zero=>exact fun d h=>l1Read_step l hl d (fun h'=>by omega)
 | succ n ih=>exact fun d h=>l1Read_step l hl d (fun h'=>ih (d+1) (by omega))
end Go.Proofs.YtapjaflnmklmeaaGreatDoor
namespace Go.Proofs.YtapjaflnmklmeaaGreatDoor
open Go.RowKit
def SizeSSaid (t:Ty):Prop:=∀ (F:Nat→Prop) (w:World) (v:Value),Rep F w (encS t) v →
 Calls Tryz.prog 41 #[.agg #[v]] w fun en w'=>en=.returned (.int .i64 (atomsT t))∧Below w.heap.size w w'
theorem length_le_atomsTs (ts:List Ty):ts.length≤atomsTs ts:=by
 induction ts with
 | nil=>simp
 | cons t ts ih=>simp [atomsTs];omega
set_option maxHeartbeats 1000000 in
theorem l1Size_step (t:Ty) (hl:Lim (atomsT t)) (ih:∀ t',atomsT t'<atomsT t→SizeSSaid t'):SizeSSaid t:=by
 intro F w v hv
 obtain ⟨a,cap,e⟩:=encS_slice hv
 subst e
 have hv':=hv
 rw [encS_eq] at hv'
 obtain ⟨_,_,e,_,hlen,hat⟩:=Rep_sl1_open hv'
 simp only [Value.slice.injEq] at e
 obtain ⟨rfl,_,rfl⟩:=e
 have IH:=Lib.hid ih;clear ih
 have hl':=hl.le
 have E1:=Lib.hid (atomsT_mk t)
 have hlb:t.args.length≤16777216:=by have:=length_le_atomsTs t.args;have:=E1.out;omega
 have AT:=Lib.hid hat;clear hat hlen hv'
 go_enter Tryz.func41,Tryz.ntmps41
 go_wp2_with fail
 go_loopw [3,4] (fun n i wr=>∃ k:Nat,k≤t.args.length∧i=.int .i64 k∧n=.int .i64 ((1+atomsTs (t.args.take k):Nat):Int)∧Below w.heap.size w wr∧wr.cell? ⟨w.heap.size,0,none⟩=some (.slice a t.args.length cap)) (fun _ i _=>t.args.length-(intOf i).toNat)
 case atStart=>exact ⟨0,Nat.zero_le _,rfl,by simp [atomsTs],(Below.refl _ _).alloc (Nat.le_refl _) _,by simp⟩
 case round =>
  rename_i wr
  obtain ⟨k,hk,rfl,rfl,hb,hc⟩:=hrel
  by_cases hlt:k<t.args.length
  ·obtain ⟨b',o,u,d,rfl,_,hb',hd,hu,hr⟩:=AT.out k hlt
   rw [encSs_at,Option.map_eq_some_iff] at hd
   obtain ⟨t',ht',rfl⟩:=hd
   obtain ⟨ua,uc,rfl⟩:=encS_slice hr
   have hu':wr.cell? ⟨b',o+k,none⟩=some (.slice ua t'.args.length uc):=by rw [hb.cell hb'];exact hu
   have hr':=Rep.below (F':=F) hb (fun _ h=>h) hr
   have hs:=atomsTs_take ht'
   have hle:=atomsTs_take_le t.args (k+1)
   have hat':=E1.out
   have IH':=Lib.hid (IH.out t' (by omega))
   have HS:=Lib.hid hs
   have b1:1+atomsTs (t.args.take k)+(1+atomsT t')≤16777216:=by omega
   have hz:=World.block_lt_of_cell? wr _ hc
   clear hs ht' hat' hu hr
   go_wp2_with fail
   refine (IH'.out _ _ _ hr').mono ?_
   rintro en w2 ⟨rfl,hb2⟩
   have hb3:=hb.trans (hb2.mono hb.size)
   have hc2:w2.cell? ⟨w.heap.size,0,none⟩=some (.slice (some ⟨b',o,none⟩) t.args.length cap):=by rw [hb2.cell hz];exact hc
   go_wp2_with fail
   go_roundw
   case rel=>exact ⟨k+1,by omega,by go_num,by rw [HS.out] <;> go_num,hb3,hc2⟩
   case measure=>simp [intOf];omega
  ·obtain rfl:k=t.args.length:=by omega
   go_wp2_with fail
   go_ret
   exact ⟨ret_i64 (by rw [E1.out,List.take_length]),hb⟩
theorem l1Size_any (n:Nat):∀ t,atomsT t≤n→Lim n→SizeSSaid t:=by
 induction n with
 | zero=>intro t h _;have:=atomsT_pos t;omega
 | succ n ih=>exact fun t h hn=>l1Size_step t (hn.mono h) (fun t' h'=>ih t' (by omega) (hn.mono (by omega)))
def specType (l:Bs):Ty×Bool :=
 if 100<l.length then (.mk [],false) else
 match rdS 21 l with
 | none=>(.mk [],false)
 | some (t,rest)=>(t,rest.isEmpty && decide (atomsT t≤15))
def TypePost (l:Bs) (w:World) (en:Ending) (w':World):Prop :=
 ∃ v,en=.returned (.tuple #[.agg #[v],.bool (specType l).2])∧Below w.heap.size w w'∧Rep (w.heap.size≤·) w' (encS (specType l).1) v
set_option maxRecDepth 100000 in
set_option maxHeartbeats 1000000 in
theorem l1Type_any (l:Bs) (hl:Lim l.length) (w:World):Calls Tryz.prog 21 #[str l] w (TypePost l w):=by
 have hl':=hl.le
 by_cases h100:100<l.length
 ·have h100':(100:Int)<(l.length:Int):=by omega
  have HM:specType l=(.mk [],false):=by unfold specType;rw [if_pos h100]
  have HM:=Lib.hid HM
  go_enter Tryz.func21,Tryz.ntmps21
  go_wp2_with fail
  refine bodyPost_ret (v:=.tuple #[.agg #[.slice none 0 0],.bool false]) (by simp [results,Tryz.results21,go_sem]) rfl ?_
  refine ⟨_,by rw [HM.out],(Below.refl _ _).alloc (Nat.le_refl _) _,?_⟩
  rw [HM.out];exact encS_none _ _
 have h100':¬ (100:Int)<(l.length:Int):=by omega
 have HM:specType l=(match rdS 21 l with
  | none=>(.mk [],false)
  | some (t,rest)=>(t,rest.isEmpty && decide (atomsT t≤15))):=by unfold specType;rw [if_neg h100]
 have HM:=Lib.hid HM
 go_enter Tryz.func21,Tryz.ntmps21
 go_wp2_with fail
 refine (l1Read_any l hl 21 0 rfl 0 _ (Nat.zero_le _) (by omega)).mono ?_
 rintro en w1 ⟨v1,k1,t1,rfl,hb1,hv1,hn1,hy1⟩
 rw [show (21-0:Nat)=21 from rfl,List.drop_zero] at hn1 hy1
 obtain ⟨a1,c1,e1⟩:=encS_slice hv1
 subst e1
 have z1:=hb1.size
 rw [size_alloc] at z1
 have hz1:w.heap.size<w1.heap.size:=by omega
 have hbA:Below w.heap.size w w1:=((Below.refl w.heap.size w).alloc (Nat.le_refl _) _).trans (hb1.mono (by simp))
 have hcell:w1.cell? ⟨w.heap.size,0,none⟩=some (.slice none 0 0):=by rw [hb1.cell (by simp)];simp
 have hfree:w1.frozen? ⟨w.heap.size,0,none⟩=false:=by rw [hb1.frozen (by simp)];simp
 cases hq:rdS 21 l with
 | none =>
   obtain ⟨rfl,rfl⟩:=hn1 hq
   have HQ:=Lib.hid hq;clear hq hn1 hy1
   have g1:((-1:Int) == (l.length:Int))=false:=by rw [beq_eq_false_iff_ne];omega
   go_wp2_with fail
   go_region
   go_wp2_with fail
   refine bodyPost_ret (v:=.tuple #[.agg #[.slice a1 0 c1],.bool false]) (by simp [results,Tryz.results21,go_sem,hz1,cell_put hcell,Ty.args]) rfl ?_
   refine ⟨_,by rw [HM.out,HQ.out],(by repeat (first | exact hbA | refine Below.alloc ?_ (by simp;omega) _ | refine Below.setCell ?_ (by simp) _ | refine Below.drew ?_)),?_⟩
   rw [HM.out,HQ.out]
   rw [encS_eq]
   refine Rep_sl.2 ⟨rfl,a1,c1,rfl,Nat.zero_le _,?_,.inl rfl⟩
   obtain ⟨_,_,_,e,_,h0,_⟩:=Rep_sl.1 (by rw [encS_eq] at hv1;exact hv1)
   simp only [Value.slice.injEq] at e
   obtain ⟨rfl,_,rfl⟩:=e;exact h0
 | some x =>
   obtain ⟨t,rest⟩:=x
   obtain ⟨rfl,rfl⟩:=hy1 _ _ hq
   have hat:=rdS_atoms hq
   have HQ:=Lib.hid hq;clear hq hn1 hy1
   obtain ⟨e,he⟩:∃ e,e=l.length-rest.length:=⟨_,rfl⟩
   rw [show (l.length:Int)-(rest.length:Int)=(e:Int) from by omega]
   have HE:=Lib.hid he;clear he
   cases rest with
   | cons x xs =>
     have g1:((e:Int) == (l.length:Int))=false:=by rw [beq_eq_false_iff_ne];have:=HE.out;simp at this hat;omega
     go_wp2_with fail
     go_region
     go_wp2_with fail
     refine bodyPost_ret (v:=.tuple #[.agg #[.slice a1 t1.args.length c1],.bool false]) (by simp [results,Tryz.results21,go_sem,hz1,cell_put hcell]) rfl ?_
     refine ⟨_,by rw [HM.out,HQ.out];rfl,(by repeat (first | exact hbA | refine Below.alloc ?_ (by simp;omega) _ | refine Below.setCell ?_ (by simp) _ | refine Below.drew ?_)),?_⟩
     rw [HM.out,HQ.out]
     refine (Rep.keep fun b o h ho=>⟨by have:=sz_le h;omega,?_⟩).1 _ _ hv1
     have hb:b≠w.heap.size:=by have:=sz_le h;omega
     exact heap_past (by rw [Below.heap_setCell _ _ _ _ (by simpa using hb)];exact ho)
   | nil =>
     obtain rfl:e=l.length:=by have:=HE.out;simpa using this
     have g1:((l.length:Int) == (l.length:Int))=true:=by simp
     have hlA:Lim (atomsT t1):=hl.mono (by simp at hat;omega)
     have hrA:Rep (w.heap.size < ·) (w1.alloc (.cells #[.slice a1 t1.args.length c1] 31)) (encS t1) (.slice a1 t1.args.length c1):=(Rep.keep fun b o h ho=>⟨by have:=sz_le h;omega,heap_past ho⟩).1 _ _ hv1
     have hcA:(w1.alloc (.cells #[.slice a1 t1.args.length c1] 31)).cell? ⟨w1.heap.size,0,none⟩=some (.slice a1 t1.args.length c1):=by simp
     go_wp2_with fail
     go_region_held3 (fun w'=>w'.cell? ⟨w1.heap.size,0,none⟩=some (.slice a1 t1.args.length c1))
      (first
       | exact (hb2.cell (by simp)).trans hcA
       | (rw [World.cell?_of_block (w:=w2) (Below.heap_setCell _ _ _ _ (by simp;omega))];exact (hb2.cell (by simp)).trans hcA)
       | go_keep)
      (first
       | (go_at_call 41;refine (l1Size_any (atomsT t1) t1 (Nat.le_refl _) hlA (w.heap.size < ·) _ _ (by exact hrA.drew)).mono ?_;rintro en w2 ⟨rfl,hb2⟩;have z2:=hb2.size;have hz2:w.heap.size<w2.heap.size:=(by simp at z2;omega);have hcell2:w2.cell? ⟨w.heap.size,0,none⟩=some (.slice none 0 0):=(hb2.cell (by simp;omega)).trans (cell_alloc hcell);have hfree2:w2.frozen? ⟨w.heap.size,0,none⟩=false:=(hb2.frozen (by simp;omega)).trans ((World.frozen?_of_block (w:=w1) (Below.heap_alloc _ _ _ hz1)).trans hfree)))
     go_wp2_with fail
     refine bodyPost_ret (v:=.tuple #[.agg #[.slice a1 t1.args.length c1],.bool (decide ((atomsT t1:Int)≤15))]) (by simp [results,Tryz.results21,go_sem,cell_put hcell2]) rfl ?_
     have hbB:Below w.heap.size w w2:=((hbA.alloc hbA.size _).drew).trans (hb2.mono (by simp;omega))
     refine ⟨.slice a1 t1.args.length c1,?_,hbB.setCell (Nat.le_refl _) _,?_⟩
     ·have e15:decide ((atomsT t1:Int)≤15)=decide (atomsT t1≤15):=by rw [decide_eq_decide];omega
      rw [HM.out,HQ.out,e15];rfl
     ·rw [HM.out,HQ.out]
      refine (Rep.keep fun b o h ho=>⟨by have:=sz_le h;omega,?_⟩).1 _ _ hv1
      have hb:b≠w.heap.size:=by have:=sz_le h;omega
      rw [Below.heap_setCell _ _ _ _ (by simpa using hb),hb2.block b (by have:=lt_of_heap ho;simp;omega)]
      exact heap_past ho
theorem atomsT_arrow (a b:Ty):atomsT (arrowT a b)=1+atomsT a+atomsT b:=by cases b;simp [arrowT,atomsT,atomsTs,Ty.args];omega
end Go.Proofs.YtapjaflnmklmeaaGreatDoor
namespace Go.Proofs.YtapjaflnmklmeaaGreatDoor
open Go.RowKit
set_option maxRecDepth 100000 in
set_option maxHeartbeats 1000000 in
theorem l3Hand_any (F:Nat→Prop) (hand:List Ty) (t:Ty) (hv tv:Value) (w:World) (hh:Rep F w (.sl 31 1 hand.length (encSs hand)) hv) (ht:Rep F w (encS t) tv) (hl:Lim (hand.length+t.args.length)) :
 Calls Tryz.prog 65 #[hv,.agg #[tv]] w fun en w' =>
  ∃ a c,en=.returned (.slice a (hand++t.args).length c)∧Below w.heap.size w w'∧Rep (fun k=>F k∨w.heap.size≤k) w' (.sl 31 1 (hand++t.args).length (encSs (hand++t.args))) (.slice a (hand++t.args).length c):=by
 have hl':=hl.le
 obtain ⟨xs1,hx1,g1⟩:=SrcSl.ofRep hh (oneCell_encSs _)
 have ht':=ht
 rw [encS_eq] at ht'
 obtain ⟨xs2,hx2,g2⟩:=SrcSl.ofRep ht' (oneCell_encSs _)
 obtain ⟨a1,c1,e1⟩:=g1.slice
 obtain ⟨a2,c2,e2⟩:=g2.slice
 subst e1;subst e2
 have hcA:(w.alloc (.cells #[.slice a2 t.args.length c2] 31)).cell? ⟨w.heap.size,0,none⟩=some (.slice a2 t.args.length c2):=by simp
 go_enter Tryz.func65,Tryz.ntmps65
 go_wp2_with fail
 go_region_held3 (fun w'=>w'.cell? ⟨w.heap.size,0,none⟩=some (.slice a2 t.args.length c2))
  (first
   | exact (hbY.cell (by simp)).trans hcA
   | exact (hbX.cell (by simp)).trans hcA
   | go_keep)
  (first
   | (refine step_append_gen (by rfl) (.tmp 7) (.tmp 9) _ (by rfl) 31 (.agg #[.slice none 0 0]) 1 24 Tryz.underlying29 Tryz.infoS rfl (by omega) (.slice ax hand.length cx) hand.length xs1 (by rfl) (by exact hox) (.slice a2 t.args.length c2) t.args.length xs2 (by rfl) (by exact (g2.alloc _).below hbX) (by unfold maxLen;omega) (by omega) ?_;intro ay cy wy hoy hby hgy;obtain ⟨hbY,hfy⟩:=fresh_append hbX hfx hby hgy)
   | (refine step_append_gen (by rfl) (.tmp 5) (.tmp 6) _ (by rfl) 31 (.agg #[.slice none 0 0]) 1 24 Tryz.underlying29 Tryz.infoS rfl (by omega) (.slice (some ⟨w.heap.size+1,0,none⟩) 0 0) 0 [] (by rfl) (by exact (Own.litAt #[] 0 _ (by simp) (by decide) rfl).drew) (.slice a1 hand.length c1) hand.length xs1 (by rfl) (by exact ((g1.alloc _).alloc _).drew) (by unfold maxLen;omega) (by omega) ?_;rw [Nat.zero_add,List.nil_append];intro ax cx wx hox hbx hgx;obtain ⟨hbX,hfx⟩:=fresh_append (((Below.refl _ _).alloc (Nat.le_refl _) _).drew) (own_some (by simp)) hbx hgx))
 go_wp2_with fail
 go_ret
 have hb1:Below w.heap.size w (w.alloc (.cells #[.slice a2 t.args.length c2] 31)):=(Below.refl _ _).alloc (Nat.le_refl _) _
 have hbZ:Below w.heap.size w wy:=hb1.trans (hbY.mono (by simp))
 rw [List.length_append]
 refine ⟨ay,cy,rfl,hbZ,?_⟩
 rw [encSs_append]
 exact hoy.rep (fun g h=>.inr (by have:=hfy g h;simp at this;omega)) (Reps.append (hx1.below hbZ (fun _ h=>.inl h)) (hx2.below hbZ (fun _ h=>.inl h)))
end Go.Proofs.YtapjaflnmklmeaaGreatDoor

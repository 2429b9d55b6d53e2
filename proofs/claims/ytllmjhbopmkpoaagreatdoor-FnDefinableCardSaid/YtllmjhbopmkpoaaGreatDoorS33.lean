/- The walks of the reference's writer of terms: l5List, l5Name2, l5TypeTree, l5Lams, l5Body. -/
import Derived.Test.YtllmjhbopmkpoaaGreatDoorS31
import Derived.Test.YtllmjhbopmkpoaaGreatDoorD4
import Derived.Test.YtllmjhbopmkpoaaGreatDoorP28
import Derived.Test.YtllmjhbopmkpoaaGreatDoorT6
namespace Go.Proofs.YtllmjhbopmkpoaaGreatDoor
open Go.RowKit
def TreePost (w:World) (t:Tr) (en:Ending) (w':World):Prop :=
 ∃ (s:Bs) (a:Option Addr) (n c:Nat),en=.returned (.agg #[str s,.slice a n c])∧Below w.heap.size w w'∧Reps (w.heap.size≤·) w' (encTr t) [str s,.slice a n c]
theorem oneTr {F:Nat→Prop} {w:World}:∀ (ts:List Tr) (us:List Value),Reps F w (encTrs ts) us→∀ u∈us,u.oneCell'=true
 | [],us,h,u,hu=>by rw [encTrs,Reps_nil] at h;subst h;simp at hu
 | t::ts,us,h,u,hu=>by
   rw [encTrs] at h
   obtain ⟨h1,h2⟩:=h.split
   obtain ⟨a,c,e,_⟩:=encTr_open h1
   rw [← List.take_append_drop (encTr t).length us,List.mem_append,e] at hu
   rcases hu with hu | hu
   ·simp only [List.mem_cons,List.not_mem_nil,or_false] at hu
    rcases hu with rfl | rfl <;> simp [str,Value.oneCell']
   ·exact oneTr ts _ h2 u hu
set_option maxRecDepth 100000 in
set_option maxHeartbeats 1000000 in
theorem l5List_any (F:Nat→Prop) (h:Bs) (ts:List Tr) (pv:Value) (w:World) (hF:∀ b,w.heap.size≤b→F b) (hr:Rep F w (.sl 43 2 ts.length (encTrs ts)) pv) (hl:ts.length≤1000) :
 Calls Tryz.prog 76 #[str h,pv] w fun en w'=>∃ (a:Option Addr) (n c:Nat),en=.returned (.agg #[str [],.slice a n c])∧Below w.heap.size w w'∧Reps F w' (encTr (.ls (.am h::ts))) [str [],.slice a n c]:=by
 obtain ⟨news,hnews,hsrc⟩:=SrcSl.ofRep hr (oneTr ts)
 have hres0:NewTr w.heap.size [] (.slice none 0 0) (w.alloc (.cells #[str [],.slice none 0 0] 43)):=heap_new _ _
 have H1:=Lib.hid hsrc;have H2:=Lib.hid hnews
 have HR:=Lib.hid hres0
 clear hsrc hnews hr hres0
 go_enter Tryz.func76,Tryz.ntmps76
 go_wp2_with (at_builtin;refine wpList_append_gen rfl _ _ 41 rfl 43 (.agg #[str [],.slice none 0 0]) 2 40 Tryz.underlying41 Tryz.infoTr rfl (by decide) _ 1 [str h,.slice none 0 0] rfl ?c1 _ ts.length news rfl ?c2 ?c3 ?c4 ?_)
 case c1=>exact Own.litAt #[str h,.slice none 0 0] 1 _ (by simp) (by decide) rfl
 case c2=>exact (H1.out.keep fun _ _ h=>cell_alloc (cell_alloc h))
 case c3=>unfold maxLen;omega
 case c4=>omega
 intro a' c' w' ho hb hg
 have hb1:Below (w.heap.size+1) ((w.alloc (.cells #[str [],.slice none 0 0] 43)).alloc (.cells #[str h,.slice none 0 0] 43)) w':=hb.toBelow (by simp) (fun i hi e=>by simp [Value.ownBlock] at e;omega)
 have hres1:NewTr w.heap.size [] (.slice none 0 0) w':=by
  unfold NewTr;rw [hb1.block _ (by omega)];exact heap_past HR.out
 obtain ⟨r0,r1,rl,rf⟩:=hres1.cells
 have rf0:=rf 0;have rf1:=rf 1
 have HX:=Lib.hid (And.intro ho (And.intro hg (And.intro hb1 hres1)))
 clear ho hg hb hb1 rf hres1
 go_wp2
 obtain ⟨W,hW,s0,s1,hbW,hkW⟩:=HX.out.2.2.2.store (.string ⟨#[]⟩) (.slice a' (1+ts.length) c')
 rw [← hW]
 refine bodyPost_ret (v:=.agg #[str [],.slice a' (1+ts.length) c']) (by simp [results,Tryz.results76,go_sem,s0,s1]) rfl ?_
 have hbw:Below w.heap.size w w':=(((Below.refl w.heap.size w).alloc (Nat.le_refl _) _).alloc (by simp) _).trans (HX.out.2.2.1.mono (by omega))
 refine ⟨a',_,c',rfl,hbW _ _ hbw (Nat.le_refl _),?_⟩
 rw [encTr]
 refine Reps_cons.2 ⟨_,_,rfl,Rep_val.2 rfl,Reps_cons.2 ⟨_,_,rfl,?_,Reps_nil.2 rfl⟩⟩
 rw [show (Tr.am h::ts).length=1+ts.length from by simp;omega]
 have hge:∀ g,(Value.slice a' (1+ts.length) c').ownBlock=some g→w.heap.size+1≤g:=fun g hg=>by
  rcases HX.out.2.1 g hg with e | e
  ·simp [Value.ownBlock] at e;omega
  ·subst e;simp
 refine (HX.out.1.keep fun g o hg ho=>hkW g o (by have:=hge g hg;omega) ho).rep (fun g hg=>hF g (by have:=hge g hg;omega)) ?_
 have e1:encTrs (.am h::ts)=[.val (str h),.sl 43 2 0 []]++encTrs ts:=by rw [encTrs,encTr]
 rw [e1]
 refine Reps.append (Reps_cons.2 ⟨_,_,rfl,Rep_val.2 rfl,Reps_cons.2 ⟨_,_,rfl,Rep_sl.2 ⟨rfl,none,0,rfl,Nat.le_refl _,fun _=>rfl,.inl rfl⟩,Reps_nil.2 rfl⟩⟩) ?_
 exact (Rep.keep fun x o hx ho=>⟨hx,hkW x o (by have:=lt_of_heap ho;omega) (by rw [hbw.block x (lt_of_heap ho)];exact ho)⟩).2 _ _ H2.out
theorem row2 {F:Nat→Prop} {w:World} {t u:Tr} {s1 s2 v1 v2:Value} (h1:Reps F w (encTr t) [s1,v1]) (h2:Reps F w (encTr u) [s2,v2]) (hB:F w.heap.size) (fr:Nat×Nat) :
 Rep F (w.alloc (.cells #[s1,v1,s2,v2] 43 fr)) (.sl 43 2 2 (encTrs [t,u])) (.slice (some ⟨w.heap.size,0,none⟩) 2 2):=by
 refine Rep_sl.2 ⟨by rw [encTrs_length];rfl,_,_,rfl,Nat.le_refl _,(fun h=>by simp at h),.inr ⟨_,0,_,_,rfl,hB,heap_new _ _,?_⟩⟩
 have e:encTrs [t,u]=encTr t++encTr u:=by rw [encTrs,encTrs,encTrs,List.append_nil]
 rw [e]
 exact Reps.append (vs:=[s1,v1]) (us:=[s2,v2]) ((Rep.keep fun x o hx ho=>⟨hx,heap_past ho⟩).2 _ _ h1) ((Rep.keep fun x o hx ho=>⟨hx,heap_past ho⟩).2 _ _ h2)
theorem row3 {F:Nat→Prop} {w:World} {t u r:Tr} {s1 s2 s3 v1 v2 v3:Value} (h1:Reps F w (encTr t) [s1,v1]) (h2:Reps F w (encTr u) [s2,v2]) (h3:Reps F w (encTr r) [s3,v3]) (hB:F w.heap.size) (fr:Nat×Nat) :
 Rep F (w.alloc (.cells #[s1,v1,s2,v2,s3,v3] 43 fr)) (.sl 43 2 3 (encTrs [t,u,r])) (.slice (some ⟨w.heap.size,0,none⟩) 3 3):=by
 refine Rep_sl.2 ⟨by rw [encTrs_length];rfl,_,_,rfl,Nat.le_refl _,(fun h=>by simp at h),.inr ⟨_,0,_,_,rfl,hB,heap_new _ _,?_⟩⟩
 have e:encTrs [t,u,r]=encTr t++(encTr u++encTr r):=by rw [encTrs,encTrs,encTrs,encTrs,List.append_nil]
 rw [e]
 exact Reps.append (vs:=[s1,v1]) (us:=[s2,v2,s3,v3]) ((Rep.keep fun x o hx ho=>⟨hx,heap_past ho⟩).2 _ _ h1) (Reps.append (vs:=[s2,v2]) (us:=[s3,v3]) ((Rep.keep fun x o hx ho=>⟨hx,heap_past ho⟩).2 _ _ h2) ((Rep.keep fun x o hx ho=>⟨hx,heap_past ho⟩).2 _ _ h3))
set_option maxRecDepth 100000 in
theorem l5Name2_any (v:Nat) (hv:v<100000) (w:World):Calls Tryz.prog 77 #[.int .i64 (v:Nat)] w (TreePost w (.am (lname v))):=by
 have hl:=dec_length 4 v (Nat.lt_of_lt_of_le hv (by decide))
 obtain ⟨O,hO⟩:∃ O:Bs,O=[120]++dec v:=⟨_,rfl⟩
 have s1:=fun w0=>add_str (P:=Tryz.prog) [120] (dec v) (by simp;omega) w0
 rw [← hO] at s1
 have HO:=Lib.hid (show lname v=O by rw [hO];rfl)
 clear hO hl
 have C:=Lib.hid (fun wz=>l6Dec_any v (by omega) wz)
 generalize dec v=D at *
 have hres0:NewTr w.heap.size [] (.slice none 0 0) (w.alloc (.cells #[str [],.slice none 0 0] 43)):=heap_new _ _
 have HR:=Lib.hid hres0;clear hres0
 go_enter Tryz.func77,Tryz.ntmps77
 go_wp2_with fail
 (with_reducible refine (C.out _).mono ?_)
 rintro en w1 ⟨rfl,hb1⟩
 have hres1:=HR.out.below hb1 (by simp)
 obtain ⟨r0,r1,rl,rf⟩:=hres1.cells
 have rf0:=rf 0;have rf1:=rf 1
 have HX:=Lib.hid (And.intro hres1 hb1)
 clear rf hres1 hb1
 go_wp2_with fail
 obtain ⟨W,hW,s0,s2,hbW,hkW⟩:=HX.out.1.store (str O) (.slice none 0 0)
 rw [← hW]
 refine bodyPost_ret (v:=.agg #[str O,.slice none 0 0]) (by simp [results,Tryz.results77,go_sem,s0,s2]) rfl ?_
 rw [HO.out]
 refine ⟨O,_,_,_,rfl,hbW _ _ (((Below.refl w.heap.size w).alloc (Nat.le_refl _) _).trans (HX.out.2.mono (by simp))) (Nat.le_refl _),?_⟩
 rw [encTr]
 exact Reps_cons.2 ⟨_,_,rfl,Rep_val.2 rfl,Reps_cons.2 ⟨_,_,rfl,Rep_sl.2 ⟨rfl,none,0,rfl,Nat.le_refl _,fun _=>rfl,.inl rfl⟩,Reps_nil.2 rfl⟩⟩
structure OutTr (F:Nat→Prop) (ob:Nat) (t:Tr) (s:Bs) (a:Option Addr) (n c:Nat) (w:World):Prop where
 box:NewTr ob s (.slice a n c) w
 rep:Reps F w (encTr t) [str s,.slice a n c]
theorem trTs_args (t:Ty):trT t=trT.trTs t.args:=by cases t;rw [trT];rfl
def TypeTreeSaid (t:Ty):Prop:=∀ (F:Nat→Prop) (w:World) (v:Value),Rep F w (encS t) v→Calls Tryz.prog 78 #[.agg #[v]] w (TreePost w (trT t))
set_option maxRecDepth 100000 in
set_option maxHeartbeats 4000000 in
theorem typeTree_step (t:Ty) (h15:atomsT t≤15) (ih:∀ a,atomsT a<atomsT t→TypeTreeSaid a):TypeTreeSaid t:=by
 intro F w v hv
 have hlen:t.args.length≤15:=by
  have h2:=atomsT_mk t
  have:=length_le_atomsTs t.args;omega
 obtain ⟨ta,tc,rfl⟩:=encS_slice hv
 have hv':=hv
 rw [encS_eq] at hv'
 obtain ⟨_,_,est,_,_,hats⟩:=Rep_sl1_open hv'
 simp only [Value.slice.injEq] at est
 obtain ⟨rfl,_,rfl⟩:=est
 have IH:=Lib.hid ih;have ATS:=Lib.hid hats
 have HT:=Lib.hid (trTs_args t)
 have hres0:NewTr (w.heap.size+1) [] (.slice none 0 0) ((w.alloc (.cells #[.slice ta t.args.length tc] 46)).alloc (.cells #[str [],.slice none 0 0] 43)):=by
  have:=heap_new (w.alloc (.cells #[.slice ta t.args.length tc] 46)) (.cells #[str [],.slice none 0 0] 43)
  rw [size_alloc] at this;exact this
 have HR0:=Lib.hid hres0
 clear hv hv' hats ih hres0
 have harg:∀ a∈t.args,atomsT a<atomsT t:=fun a ha=>by
  have h2:=atomsT_mk t
  have hle:∀ ts:List Ty,∀ a∈ts,1+atomsT a≤atomsTs ts:=by
   intro ts
   induction ts with
   | nil=>simp
   | cons x xs ih =>
     intro a ha
     rcases List.mem_cons.1 ha with rfl | ha
     ·simp [atomsTs]
     ·have:=ih a ha;simp [atomsTs];omega
  have:=hle t.args a ha;omega
 have HA:=Lib.hid harg;clear harg
 go_enter Tryz.func78,Tryz.ntmps78
 go_wp2_with fail
 have hst:∃ (s:Bs) (a:Option Addr) (n c:Nat),OutTr (w.heap.size+1+1 < ·) (w.heap.size+1+1) (trT.trTs (t.args.drop t.args.length)) s a n c (((w.alloc (.cells #[.slice ta t.args.length tc] 46)).alloc (.cells #[str [],.slice none 0 0] 43)).alloc (.cells #[str [98],.slice none 0 0] 43)):=by
  refine ⟨[98],none,0,0,?_,?_⟩
  ·have:=heap_new ((w.alloc (.cells #[.slice ta t.args.length tc] 46)).alloc (.cells #[str [],.slice none 0 0] 43)) (.cells #[str [98],.slice none 0 0] 43)
   rw [size_alloc,size_alloc] at this;exact this
  ·rw [List.drop_length,trT.trTs,encTr]
   exact Reps_cons.2 ⟨_,_,rfl,Rep_val.2 rfl,Reps_cons.2 ⟨_,_,rfl,Rep_sl.2 ⟨rfl,none,0,rfl,Nat.le_refl _,fun _=>rfl,.inl rfl⟩,Reps_nil.2 rfl⟩⟩
 go_loopw [4] (fun i wr=>∃ k:Nat,k≤t.args.length∧i=.int .i64 ((k:Int)-1)∧Below w.heap.size w wr∧wr.cell? ⟨w.heap.size,0,none⟩=some (.slice ta t.args.length tc)∧NewTr (w.heap.size+1) [] (.slice none 0 0) wr∧∃ (s:Bs) (a:Option Addr) (n c:Nat),OutTr (w.heap.size+1+1 < ·) (w.heap.size+1+1) (trT.trTs (t.args.drop k)) s a n c wr) (fun i _=>(intOf i+1).toNat)
 case atStart=>exact ⟨t.args.length,Nat.le_refl _,rfl,(fun h=>h.alloc h.size _) (((Below.refl w.heap.size w).alloc (Nat.le_refl _) _).alloc (by simp) _),cell_alloc (cell_alloc (by simp)),heap_past HR0.out,hst⟩
 case round =>
  clear hst
  rename_i wr
  obtain ⟨k,hk,rfl,hb,hbx,hrb,s0,a0,n0,c0,hout⟩:=hrel
  have lob:=lt_of_heap hout.box
  obtain ⟨q0,q1,ql,qf⟩:=hout.box.cells
  obtain ⟨r0,r1,rl,rf⟩:=hrb.cells
  have rf0:=rf 0;have rf1:=rf 1;clear rf
  cases k with
  | zero =>
    have HO:=Lib.hid (And.intro hout (And.intro hrb hb))
    have hz:((0:Nat):Int)-1 = -1:=rfl
    rw [hz]
    clear hz hout hrb hb qf
    go_wp2_with fail
    obtain ⟨W,hW,s1,s2,hbW,hkW⟩:=HO.out.2.1.store (str s0) (.slice a0 n0 c0)
    rw [← hW]
    refine bodyPost_ret (v:=.agg #[str s0,.slice a0 n0 c0]) (by simp [results,Tryz.results78,go_sem,s1,s2]) rfl ?_
    refine ⟨s0,a0,n0,c0,rfl,hbW _ _ HO.out.2.2 (by omega),?_⟩
    have hr:=HO.out.1.rep
    rw [List.drop_zero,← HT.out] at hr
    exact (Rep.keep fun b o h ho=>⟨by have:=h;omega,hkW b o (by have:=h;omega) ho⟩).2 _ _ hr
  | succ j =>
    have hj:j<t.args.length:=by omega
    rw [show ((j+1:Nat):Int)-1=(j:Int) from by omega]
    obtain ⟨ab,ao,au,ad,e,_,haw,had,hac,har⟩:=ATS.out j hj
    subst e
    rw [encSs_at,Option.map_eq_some_iff] at had
    obtain ⟨x,hx,rfl⟩:=had
    obtain ⟨xa,xc,rfl⟩:=encS_slice har
    have hxm:=List.mem_of_getElem? hx
    have q2:=(hb.cell (p:=⟨ab,ao+j,none⟩) haw).trans hac
    have HRX:=Rep.below (F':=F) hb (fun _ h=>h) har
    have CX:=Lib.hid (IH.out x (HA.out x hxm) F wr.drew _ HRX.drew)
    have hstep:trT.trTs (t.args.drop j)=.ls [.am [62],trT x,trT.trTs (t.args.drop (j+1))]:=by
     have hlt:=hj
     rw [List.drop_eq_getElem_cons hlt]
     have ex:t.args[j]=x:=by rw [List.getElem?_eq_getElem hlt] at hx;exact Option.some.inj hx
     rw [ex,trT.trTs]
    have HS:=Lib.hid hstep
    have SX:Hid (∀ w',Below wr.heap.size wr w'→w'.cell? ⟨w.heap.size,0,none⟩=some (.slice (some ⟨ab,ao,none⟩) t.args.length tc)∧w'.cell? ⟨ab,ao+j,none⟩=some (.slice xa x.args.length xc)∧w'.cell? ⟨w.heap.size+1+1,0,none⟩=some (str s0)∧w'.cell? ⟨w.heap.size+1+1,1,none⟩=some (.slice a0 n0 c0)):=by
     show ∀ w',_→_
     intro w' hb'
     exact ⟨(hb'.cell (World.block_lt_of_cell? wr _ hbx)).trans hbx,(hb'.cell (World.block_lt_of_cell? wr _ q2)).trans q2,(hb'.cell (World.block_lt_of_cell? wr _ q0)).trans q0,(hb'.cell (World.block_lt_of_cell? wr _ q1)).trans q1⟩
    have HO:=Lib.hid (And.intro hout (And.intro hrb (And.intro hb (And.intro hbx lob))))
    have hjI:(j:Int)<(t.args.length:Int):=by omega
    clear hstep hx hxm har hac HRX hout hrb hb hbx qf q0 q1 q2 r0 r1 rf0 rf1 rl ql lob
    go_wp2_with fail
    refine wp_region_noPanic ?_
    refine wp_region_S (fun w'=>Below wr.heap.size wr w') (fun i=>i == 9) (by kernel_rfl) ?_
    have hSd:(fun w'=>Below wr.heap.size wr w') wr.drew:=Below.drew (Below.refl _ _)
    refine tk [0,1,2,3,4,6] hSd ?_
    (intro d hd;simp [tkD] at hd;subst hd;simp only [tks,pQ,pZ,pS])
    iterate 6 (refine ⟨?_,?_,?_⟩;rotate_left;· (intro oi ho;simp at ho;subst ho;refine Or.inl ⟨by rfl,fun w' hw'=>?_⟩;obtain ⟨e0,e1,e2,e3⟩:=SX.out w' hw';go_simp;try with_reducible rfl))
    (refine on 5 ?_;intro o ho K' hK;simp at ho;subst ho;go_simp)
    go_at_call 78
    (with_reducible refine CX.out.mono ?_)
    rintro en6 w6 ⟨s6,a6,n6,c6,rfl,hb6,hr6⟩
    have HB6:Hid (Below wr.heap.size wr w6):=hSd.trans hb6
    have HR6:=Lib.hid hr6
    clear hb6 hr6
    (refine hK.out _ _ (fun _=>HB6.out) ?_;clear hK K';try simp only [pQ,pN,pZ,pS])
    (refine on 7 ?_;intro o ho K' hK;simp at ho;subst ho;go_simp)
    (refine hK.out _ _ (fun _=>HB6.out.alloc HB6.out.size _) ?_;clear hK K';try simp only [pQ,pN,pZ,pS])
    (refine on 8 ?_;intro o ho K' hK;simp at ho;subst ho)
    have HF6:Reps (w.heap.size+1+1 < ·) w6 (encTr (trT x)) [str s6,.slice a6 n6 c6]:=(Rep.keep fun b o h ho=>⟨by have:=HO.out.2.2.2.2;have h:wr.heap.size≤b:=h;omega,ho⟩).2 _ _ HR6.out
    have HF0:Reps (w.heap.size+1+1 < ·) w6 (encTr (trT.trTs (t.args.drop (j+1)))) [str s0,.slice a0 n0 c0]:=(Rep.keep fun b o h ho=>⟨h,by rw [HB6.out.block b (lt_of_heap ho)];exact ho⟩).2 _ _ HO.out.1.rep
    have z6:=HB6.out.size
    have lob6:=HO.out.2.2.2.2
    have zw:=HO.out.2.2.1.size
    have CL:=Lib.hid (l5List_any (w.heap.size+1+1 < ·) [62] [trT x,trT.trTs (t.args.drop (j+1))] _ (w6.alloc (.cells #[str s6,.slice a6 n6 c6,str s0,.slice a0 n0 c0] 43 (0,0))) (fun b h=>by rw [size_alloc] at h;omega) (row2 HF6 HF0 (by omega) (0,0)) (by simp))
    clear HF6 HF0
    go_simp
    go_at_call 76
    (with_reducible refine CL.out.mono ?_)
    rintro en8 w8 ⟨a8,n8,c8,rfl,hb8,hr8⟩
    have HB8:Hid (Below wr.heap.size wr w8):=(HB6.out.alloc HB6.out.size _).trans (hb8.mono (HB6.out.alloc HB6.out.size _).size)
    have HR8:=Lib.hid hr8
    clear hb8 hr8
    (refine hK.out _ _ (fun _=>HB8.out) ?_;clear hK K';try simp only [pQ,pN,pZ,pS])
    (refine on 9 ?_;intro o ho K' hK;simp at ho;subst ho)
    have N8:=HO.out.1.box.below HB8.out HO.out.2.2.2.2
    obtain ⟨p0,p1,pl,pf⟩:=N8.cells
    have pf0:=pf 0
    have pf1:=pf 1
    clear pf
    have HN8:=Lib.hid N8
    clear N8
    go_simp
    (refine hK.out _ _ (fun h=>by simp at h) ?_;clear hK K';try simp only [pQ,pN,pZ,pS])
    refine wpAnyS_done (by kernel_rfl) (NoPanic.normal ?_) _
    go_wp2_with fail
    have hN9:NewTr (w.heap.size+1+1) [] (.slice a8 n8 c8) ((w8.setCell ⟨w.heap.size+1+1,0,none⟩ (str [])).setCell ⟨w.heap.size+1+1,1,none⟩ (.slice a8 n8 c8)):=by
     unfold NewTr;rw [setCell_at (setCell_at HN8.out)];rfl
    have kp:∀ i x,i≠w.heap.size+1+1→w8.heap[i]? = some x→((w8.setCell ⟨w.heap.size+1+1,0,none⟩ (str [])).setCell ⟨w.heap.size+1+1,1,none⟩ (.slice a8 n8 c8)).heap[i]? = some x:=fun i x hi hx=>by
     rw [Below.heap_setCell _ _ _ _ (by simpa using hi),Below.heap_setCell _ _ _ _ (by simpa using hi)];exact hx
    have hb8:=HO.out.2.2.1.trans (HB8.out.mono HO.out.2.2.1.size)
    refine ⟨⟨j,by omega,rfl,(hb8.setCell (p:=⟨w.heap.size+1+1,0,none⟩) (show w.heap.size≤w.heap.size+1+1 by omega) _).setCell (p:=⟨w.heap.size+1+1,1,none⟩) (show w.heap.size≤w.heap.size+1+1 by omega) _,?_,?_,[],a8,n8,c8,hN9,?_⟩,by simp only [intOf];omega⟩
    ·exact cell_of_keep ((HB8.out.cell (World.block_lt_of_cell? wr _ HO.out.2.2.2.1)).trans HO.out.2.2.2.1) fun x hx=>kp w.heap.size x (by omega) hx
    ·exact kp _ _ (by omega) (HO.out.2.1.below HB8.out (lt_of_heap HO.out.2.1))
    ·rw [HS.out]
     exact (Rep.keep fun b o h ho=>⟨h,kp b o (by have:=h;omega) ho⟩).2 _ _ HR8.out
theorem typeTree_any (n:Nat):∀ t,atomsT t≤n→atomsT t≤15→TypeTreeSaid t:=by
 induction n with
 | zero=>intro t h _;have:=atomsT_pos t;omega
 | succ n ih=>exact fun t h h15=>typeTree_step t h15 (fun a ha=>ih a (by omega) (by omega))
end Go.Proofs.YtllmjhbopmkpoaaGreatDoor

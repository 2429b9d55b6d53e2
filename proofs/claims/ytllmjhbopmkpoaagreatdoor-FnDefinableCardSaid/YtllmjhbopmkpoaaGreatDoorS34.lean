/- The walks of the reference's l5Lams and l5Body. -/
import Derived.Test.YtllmjhbopmkpoaaGreatDoorS33
import Derived.Test.YtllmjhbopmkpoaaGreatDoorD4
import Derived.Test.YtllmjhbopmkpoaaGreatDoorP28
namespace Go.Proofs.YtllmjhbopmkpoaaGreatDoor
open Go.RowKit
structure BodPre (b:Bd) (H:List Ty):Prop where
 fit:fitB H b
 wf:wfB b
 small:∀ t∈H,atomsT t≤15
 room:H.length+15*sizeB b≤10000
def BodySaidR (N:Nat):Prop:=∀ (F:Nat→Prop) (b:Bd) (H:List Ty) (s v k y lv:Value) (w:World),sizeB b≤N→BodPre b H→Reps F w (encN b) [s,v,k,y]→Rep F w (.sl 46 1 H.length (encSs H)) lv →
 Calls Tryz.prog 75 #[.agg #[s,v,k,y],lv] w (TreePost w (trTm (tmB H b)))
def LamsSaidR (N:Nat):Prop:=∀ (F:Nat→Prop) (t:Ty) (b:Bd) (H:List Ty) (s v k y tv lv:Value) (w:World),sizeB b≤N→BodPre b (H++t.args)→atomsT t≤15→Reps F w (encN b) [s,v,k,y]→Rep F w (encS t) tv→Rep F w (.sl 46 1 H.length (encSs H)) lv →
 Calls Tryz.prog 40 #[.agg #[s,v,k,y],.agg #[tv],lv] w (TreePost w (trTm (tmL H t b)))
theorem lams_step_tr (n:Nat) (ts:List Ty) (b:Tm) {j:Nat} {a:Ty} (h:ts[j]? = some a):trTm (lamsTm (n+j) (ts.drop j) b)=.ls [.am lamW,.am (lname (n+j)),trT a,trTm (lamsTm (n+(j+1)) (ts.drop (j+1)) b)]:=by
 have hlt:=(List.getElem?_eq_some_iff.1 h).1
 rw [List.drop_eq_getElem_cons hlt]
 have ex:ts[j]=a:=by rw [List.getElem?_eq_getElem hlt] at h;exact Option.some.inj h
 rw [ex,lamsTm,trTm]
 rfl
theorem fitBs_atS {hand ts:List Ty} {ss:List Bd} (h:fitBs (hands hand ts) ss) {j:Nat} {a:Ty} {s:Bd} (ha:ts[j]? = some a) (hs:ss[j]? = some s):fitB (hand++a.args) s:=by
 obtain ⟨g,h1,h2⟩:=fitBs_at _ _ h j s hs
 unfold hands at h1
 rw [List.getElem?_map,ha] at h1
 simp at h1
 subst h1
 exact h2
theorem OutTr.next {F:Nat→Prop} {ob:Nat} {s0:Bs} {sl0:Value} {w:World} {t:Tr} {s:Bs} {a:Option Addr} {n c:Nat} (hF:∀ b,F b→b≠ob) (hN:NewTr ob s0 sl0 w) (hr:Reps F w (encTr t) [str s,.slice a n c]) :
 OutTr F ob t s a n c ((w.setCell ⟨ob,0,none⟩ (str s)).setCell ⟨ob,1,none⟩ (.slice a n c)):=by
 have kp:∀ i x,i≠ob→w.heap[i]? = some x→((w.setCell ⟨ob,0,none⟩ (str s)).setCell ⟨ob,1,none⟩ (.slice a n c)).heap[i]? = some x:=fun i x hi hx=>by
  rw [Below.heap_setCell _ _ _ _ (by simpa using hi),Below.heap_setCell _ _ _ _ (by simpa using hi)];exact hx
 refine ⟨?_,(Rep.keep fun b o h ho=>⟨h,kp b o (hF b h) ho⟩).2 _ _ hr⟩
 unfold NewTr;rw [setCell_at (setCell_at hN)];rfl
theorem set2_keep {ob:Nat} {w:World} {u0 u1:Value} {i:Nat} {x:Obj} (hi:i≠ob) (hx:w.heap[i]? = some x):((w.setCell ⟨ob,0,none⟩ u0).setCell ⟨ob,1,none⟩ u1).heap[i]? = some x:=by
 rw [Below.heap_setCell _ _ _ _ (by simpa using hi),Below.heap_setCell _ _ _ _ (by simpa using hi)];exact hx
theorem set2_below {B ob:Nat} {w0 w:World} {u0 u1:Value} (h:Below B w0 w) (hB:B≤ob):Below B w0 ((w.setCell ⟨ob,0,none⟩ u0).setCell ⟨ob,1,none⟩ u1) :=
 (h.setCell (p:=⟨ob,0,none⟩) hB _).setCell (p:=⟨ob,1,none⟩) hB _
theorem set2_cell {ob:Nat} {w:World} {u0 u1 u:Value} {b o:Nat} (hi:b≠ob) (hx:w.cell? ⟨b,o,none⟩=some u):((w.setCell ⟨ob,0,none⟩ u0).setCell ⟨ob,1,none⟩ u1).cell? ⟨b,o,none⟩=some u:=by
 rw [World.cell?_of_block (w:=w.setCell ⟨ob,0,none⟩ u0) (Below.heap_setCell _ _ _ _ (by simpa using hi)),World.cell?_of_block (w:=w) (Below.heap_setCell _ _ _ _ (by simpa using hi))];exact hx
set_option maxRecDepth 100000 in
set_option maxHeartbeats 4000000 in
theorem lamsR_step (N:Nat) (ih:BodySaidR N):LamsSaidR N:=by
 intro F t b H s v k y tv lv w hsz hp h15 hb htv hlv
 have hal:=arg_count h15
 have hroom:=hp.room
 rw [List.length_append] at hroom
 obtain ⟨ta,tc,rfl⟩:=encS_slice htv
 obtain ⟨la,lc,rfl,_,_⟩:=Rep_sl1_open hlv
 have htv':=htv
 rw [encS_eq] at htv'
 obtain ⟨_,_,est,_,_,hats⟩:=Rep_sl1_open htv'
 simp only [Value.slice.injEq] at est
 obtain ⟨rfl,_,rfl⟩:=est
 obtain ⟨nv,b2,d2,b3,d3,e,_,_⟩:=encN_open hb
 simp only [List.cons.injEq,and_true] at e
 obtain ⟨rfl,rfl,rfl,rfl⟩:=e
 have ATS:=Lib.hid hats
 have HB:=Lib.hid (And.intro hb (And.intro htv (And.intro hlv hp)))
 obtain ⟨W0,hW0⟩:∃ W,W=(((w.alloc (.cells #[str (atomOf b),.int .i64 nv,.slice b2 (kidsOf b).length d2,.slice b3 (yesOf b).length d3] 51)).alloc (.cells #[.slice ta t.args.length tc] 46)).alloc (.cells #[str [],.slice none 0 0] 43)):=⟨_,rfl⟩
 have hbW:Below w.heap.size w W0:=by subst hW0;exact (fun h=>h.alloc h.size _) (((Below.refl w.heap.size w).alloc (Nat.le_refl _) _).alloc (by simp) _)
 have zW:W0.heap.size=w.heap.size+1+1+1:=by subst hW0;simp
 have t0:W0.cell? ⟨w.heap.size+1,0,none⟩=some (.slice ta t.args.length tc):=by
  subst hW0
  refine cell_alloc ?_
  have:=heap_new (w.alloc (.cells #[str (atomOf b),.int .i64 nv,.slice b2 (kidsOf b).length d2,.slice b3 (yesOf b).length d3] 51)) (.cells #[.slice ta t.args.length tc] 46)
  rw [size_alloc] at this
  simp only [World.cell?,this];rfl
 have n0:W0.cell? ⟨w.heap.size,0,none⟩=some (str (atomOf b))∧W0.cell? ⟨w.heap.size,1,none⟩=some (.int .i64 nv)∧W0.cell? ⟨w.heap.size,2,none⟩=some (.slice b2 (kidsOf b).length d2)∧W0.cell? ⟨w.heap.size,3,none⟩=some (.slice b3 (yesOf b).length d3):=by
  subst hW0
  exact ⟨cell_alloc (cell_alloc (by simp)),cell_alloc (cell_alloc (by simp)),cell_alloc (cell_alloc (by simp)),cell_alloc (cell_alloc (by simp))⟩
 have hres0:NewTr (w.heap.size+1+1) [] (.slice none 0 0) W0:=by
  subst hW0
  have:=heap_new ((w.alloc (.cells #[str (atomOf b),.int .i64 nv,.slice b2 (kidsOf b).length d2,.slice b3 (yesOf b).length d3] 51)).alloc (.cells #[.slice ta t.args.length tc] 46)) (.cells #[str [],.slice none 0 0] 43)
  rw [size_alloc,size_alloc] at this
  exact this
 have CH:=Lib.hid (l3Hand_any F H t _ _ W0 (Rep.below hbW (fun _ h=>h) hlv) (Rep.below hbW (fun _ h=>h) htv) (show _≤_ by omega))
 have H0:=Lib.hid (And.intro hbW (And.intro t0 (And.intro n0 hres0)))
 have IH:=Lib.hid ih
 clear ih hats htv htv' hlv hb hp hbW n0 hres0
 go_enter Tryz.func40,Tryz.ntmps40
 go_wp2_with fail
 rw [← hW0]
 clear hW0
 (with_reducible refine CH.out.mono ?_)
 rintro en1 w1 ⟨a1,c1,rfl,hb1,hr1⟩
 have hbw1:=H0.out.1.trans (hb1.mono H0.out.1.size)
 have z1:=hb1.size
 have hb1n:=Reps.below (F':=fun i=>F i∨W0.heap.size≤i) hbw1 (fun _ h=>Or.inl h) HB.out.1
 have cb:=(IH.out (fun i=>F i∨W0.heap.size≤i) b (H++t.args) _ _ _ _ _ w1 hsz HB.out.2.2.2 hb1n hr1)
 rw [List.length_append] at cb
 have CB:=Lib.hid cb
 clear cb
 have H1:=Lib.hid (And.intro hb1 hbw1)
 obtain ⟨n0,n1,n2,n3⟩:=H0.out.2.2.1
 have q0:=(hb1.cell (p:=⟨w.heap.size,0,none⟩) (by simp only;omega)).trans n0
 have q1:=(hb1.cell (p:=⟨w.heap.size,1,none⟩) (by simp only;omega)).trans n1
 have q2:=(hb1.cell (p:=⟨w.heap.size,2,none⟩) (by simp only;omega)).trans n2
 have q3:=(hb1.cell (p:=⟨w.heap.size,3,none⟩) (by simp only;omega)).trans n3
 clear hb1 hr1 hb1n CH n0 n1 n2 n3 t0
 go_wp2_with fail
 (with_reducible refine CB.out.mono ?_)
 rintro en2 w2 ⟨s2,a2,n2,c2,rfl,hb2,hr2⟩
 have z2:=hb2.size
 have hbw2:=hbw1.trans (hb2.mono hbw1.size)
 have hbW2:=H1.out.1.trans (hb2.mono H1.out.1.size)
 have t2:=(hbW2.cell (p:=⟨w.heap.size+1,0,none⟩) (by simp only;omega)).trans H0.out.2.1
 have hres2:=H0.out.2.2.2.below hbW2 (by omega)
 have hout:OutTr (fun i=>w.heap.size+1+1<i∧i≠w2.heap.size) w2.heap.size (trTm (lamsTm (H.length+t.args.length) (t.args.drop t.args.length) (tmB (H++t.args) b))) s2 a2 n2 c2 (w2.alloc (.cells #[str s2,.slice a2 n2 c2] 43)):=by
  refine ⟨heap_new _ _,?_⟩
  rw [List.drop_length,lamsTm]
  exact (Rep.keep fun i o h ho=>⟨⟨by have h:w1.heap.size≤i:=h;omega,by have:=lt_of_heap ho;omega⟩,heap_past ho⟩).2 _ _ hr2
 have hlt2:w.heap.size+1+1<w2.heap.size:=by omega
 have hb3:Below w.heap.size w (w2.alloc (.cells #[str s2,.slice a2 n2 c2] 43)):=hbw2.alloc hbw2.size _
 have t3:(w2.alloc (.cells #[str s2,.slice a2 n2 c2] 43)).cell? ⟨w.heap.size+1,0,none⟩=some (.slice ta t.args.length tc):=cell_alloc t2
 have hres3:NewTr (w.heap.size+1+1) [] (.slice none 0 0) (w2.alloc (.cells #[str s2,.slice a2 n2 c2] 43)):=heap_past hres2
 have H3:=Lib.hid (And.intro hb3 (And.intro t3 (And.intro hres3 hout)))
 clear hb2 hr2 hbw2 hbW2 hres2 hout hb3 hres3 q0 q1 q2 q3 z1 z2 CB hbw1
 have nH:H.length≤10000:=by omega
 go_wp2_with fail
 clear t3
 obtain ⟨W3,hW3⟩:∃ W,W=w2.alloc (.cells #[str s2,.slice a2 n2 c2] 43):=⟨_,rfl⟩
 rw [← hW3] at H3 ⊢
 clear hW3 t2
 obtain ⟨ob,hob⟩:∃ x,x=w2.heap.size:=⟨_,rfl⟩
 rw [← hob] at H3 hlt2 ⊢
 clear hob
 go_loopw [9] (fun i wr=>∃ k:Nat,k≤t.args.length∧i=.int .i64 ((k:Int)-1)∧Below w.heap.size w wr∧wr.cell? ⟨w.heap.size+1,0,none⟩=some (.slice ta t.args.length tc)∧NewTr (w.heap.size+1+1) [] (.slice none 0 0) wr∧∃ (s:Bs) (a:Option Addr) (n c:Nat),OutTr (fun i=>w.heap.size+1+1<i∧i≠ob) ob (trTm (lamsTm (H.length+k) (t.args.drop k) (tmB (H++t.args) b))) s a n c wr) (fun i _=>(intOf i+1).toNat)
 case atStart=>exact ⟨t.args.length,Nat.le_refl _,rfl,H3.out.1,H3.out.2.1,H3.out.2.2.1,_,_,_,_,H3.out.2.2.2⟩
 case round =>
  clear H3
  rename_i wr
  obtain ⟨k,hk,rfl,hb,hbx,hrb,s0,a0,n0,c0,hout⟩:=hrel
  have lob:=lt_of_heap hout.box
  obtain ⟨q0,q1,ql,qf⟩:=hout.box.cells
  obtain ⟨r0,r1,rl,rf⟩:=hrb.cells
  have rf0:=rf 0;have rf1:=rf 1;clear rf
  cases k with
  | zero =>
    have HO:=Lib.hid (And.intro hout (And.intro hrb hb))
    have hz:((0:Nat):Int)-1 = -1:=rfl
    rw [hz]
    clear hz hout hrb hb qf
    go_wp2_with fail
    obtain ⟨W,hW,s1,s2',hbW,hkW⟩:=HO.out.2.1.store (str s0) (.slice a0 n0 c0)
    rw [← hW]
    refine bodyPost_ret (v:=.agg #[str s0,.slice a0 n0 c0]) (by simp [results,Tryz.results40,go_sem,s1,s2']) rfl ?_
    refine ⟨s0,a0,n0,c0,rfl,hbW _ _ HO.out.2.2 (by omega),?_⟩
    have hr:=HO.out.1.rep
    rw [List.drop_zero,Nat.add_zero] at hr
    exact (Rep.keep fun b o h ho=>⟨by have:=h.1;omega,hkW b o (by have:=h.1;omega) ho⟩).2 _ _ hr
  | succ j =>
    have hj:j<t.args.length:=by omega
    rw [show ((j+1:Nat):Int)-1=(j:Int) from by omega]
    obtain ⟨ab,ao,au,ad,e,_,haw,had,hac,har⟩:=ATS.out j hj
    subst e
    rw [encSs_at,Option.map_eq_some_iff] at had
    obtain ⟨x,hx,rfl⟩:=had
    obtain ⟨xa,xc,rfl⟩:=encS_slice har
    have hx15:=arg_small h15 x (List.mem_of_getElem? hx)
    have q2:=(hb.cell (p:=⟨ab,ao+j,none⟩) haw).trans hac
    have HRX:=Lib.hid (Rep.below (F':=F) hb (fun _ h=>h) har)
    have CN:Hid (Calls Tryz.prog 77 #[.int .i64 ((H.length:Int)+(j:Int))] wr.drew (TreePost wr.drew (.am (lname (H.length+j))))):=by
     show Calls _ _ _ _ _
     have:=l5Name2_any (H.length+j) (by omega) wr.drew
     rwa [Int.natCast_add] at this
    have CX:=Lib.hid (fun wz (hz:Below wr.heap.size wr wz)=>typeTree_any 15 x hx15 hx15 F wz _ (Rep.below hz (fun _ h=>h) HRX.out))
    have HS:=Lib.hid (lams_step_tr H.length t.args (tmB (H++t.args) b) hx)
    have SX:Hid (∀ w',Below wr.heap.size wr w'→w'.cell? ⟨w.heap.size+1,0,none⟩=some (.slice (some ⟨ab,ao,none⟩) t.args.length tc)∧w'.cell? ⟨ab,ao+j,none⟩=some (.slice xa x.args.length xc)∧w'.cell? ⟨ob,0,none⟩=some (str s0)∧w'.cell? ⟨ob,1,none⟩=some (.slice a0 n0 c0)):=by
     show ∀ w',_→_
     intro w' hb'
     exact ⟨(hb'.cell (World.block_lt_of_cell? wr _ hbx)).trans hbx,(hb'.cell (World.block_lt_of_cell? wr _ q2)).trans q2,(hb'.cell (World.block_lt_of_cell? wr _ q0)).trans q0,(hb'.cell (World.block_lt_of_cell? wr _ q1)).trans q1⟩
    have HO:=Lib.hid (And.intro hout (And.intro hrb (And.intro hb (And.intro hbx lob))))
    have hjI:(j:Int)<(t.args.length:Int):=by omega
    have hwj:IntKind.i64.wrap ((H.length:Int)+(j:Int))=(H.length:Int)+(j:Int):=IntWalk.i64_in _ (by omega)
    clear hx har hac hout hrb hb hbx qf q0 q1 q2 r0 r1 rf0 rf1 rl ql lob
    go_wp2_with fail
    refine wp_region_noPanic ?_
    refine wp_region_S (fun w'=>Below wr.heap.size wr w') (fun i=>i == 14) (by kernel_rfl) ?_
    have hSd:(fun w'=>Below wr.heap.size wr w') wr.drew:=Below.drew (Below.refl _ _)
    refine tk [0,1,2,3,5,6,7,8,9,11] hSd ?_
    (intro d hd;simp [tkD] at hd;subst hd;simp only [tks,pQ,pZ,pS])
    iterate 10 (refine ⟨?_,?_,?_⟩;rotate_left;· (intro oi ho;simp at ho;subst ho;refine Or.inl ⟨by rfl,fun w' hw'=>?_⟩;obtain ⟨e0,e1,e2,e3⟩:=SX.out w' hw';go_simp;try with_reducible rfl))
    (refine on 4 ?_;intro o ho K' hK;simp at ho;subst ho;go_simp)
    go_at_call 77
    (with_reducible refine CN.out.mono ?_)
    rintro en4 w4 ⟨s4,a4,n4,c4,rfl,hb4,hr4⟩
    have HB4:Hid (Below wr.heap.size wr w4):=hSd.trans hb4
    have HR4:=Lib.hid hr4
    clear hb4 hr4
    (refine hK.out _ _ (fun _=>HB4.out) ?_;clear hK K';try simp only [pQ,pN,pZ,pS])
    (refine on 10 ?_;intro o ho K' hK;simp at ho;subst ho;go_simp)
    go_at_call 78
    (with_reducible refine (CX.out w4 HB4.out).mono ?_)
    rintro en6 w6 ⟨s6,a6,n6,c6,rfl,hb6,hr6⟩
    have HB6:Hid (Below wr.heap.size wr w6):=HB4.out.trans (hb6.mono HB4.out.size)
    have HR6:=Lib.hid (And.intro hr6 hb6)
    clear hb6 hr6
    (refine hK.out _ _ (fun _=>HB6.out) ?_;clear hK K';try simp only [pQ,pN,pZ,pS])
    (refine on 12 ?_;intro o ho K' hK;simp at ho;subst ho;go_simp)
    (refine hK.out _ _ (fun _=>HB6.out.alloc HB6.out.size _) ?_;clear hK K';try simp only [pQ,pN,pZ,pS])
    (refine on 13 ?_;intro o ho K' hK;simp at ho;subst ho)
    have lob6:=HO.out.2.2.2.2
    have zw:=HO.out.2.2.1.size
    have z4:=HB4.out.size
    have z6:=HB6.out.size
    have HF4:Reps (fun i=>w.heap.size+1+1<i∧i≠ob) w6 (encTr (.am (lname (H.length+j)))) [str s4,.slice a4 n4 c4]:=(Rep.keep fun b o h ho=>⟨⟨by have h:wr.heap.size≤b:=h;omega,by have h:wr.heap.size≤b:=h;omega⟩,by rw [HR6.out.2.block b (lt_of_heap ho)];exact ho⟩).2 _ _ HR4.out
    have HF6:Reps (fun i=>w.heap.size+1+1<i∧i≠ob) w6 (encTr (trT x)) [str s6,.slice a6 n6 c6]:=(Rep.keep fun b o h ho=>⟨⟨by have h:w4.heap.size≤b:=h;omega,by have h:w4.heap.size≤b:=h;omega⟩,ho⟩).2 _ _ HR6.out.1
    have HF0:Reps (fun i=>w.heap.size+1+1<i∧i≠ob) w6 (encTr (trTm (lamsTm (H.length+(j+1)) (t.args.drop (j+1)) (tmB (H++t.args) b)))) [str s0,.slice a0 n0 c0]:=(Rep.keep fun b o h ho=>⟨h,by rw [HB6.out.block b (lt_of_heap ho)];exact ho⟩).2 _ _ HO.out.1.rep
    have CL:=Lib.hid (l5List_any (fun i=>w.heap.size+1+1<i∧i≠ob) [108,97,109] [.am (lname (H.length+j)),trT x,trTm (lamsTm (H.length+(j+1)) (t.args.drop (j+1)) (tmB (H++t.args) b))] _ (w6.alloc (.cells #[str s4,.slice a4 n4 c4,str s6,.slice a6 n6 c6,str s0,.slice a0 n0 c0] 43 (0,0))) (fun b h=>by rw [size_alloc] at h;exact ⟨by omega,by omega⟩) (row3 HF4 HF6 HF0 ⟨by omega,by omega⟩ (0,0)) (by simp))
    clear HF4 HF6 HF0
    go_simp
    go_at_call 76
    (with_reducible refine CL.out.mono ?_)
    rintro en8 w8 ⟨a8,n8,c8,rfl,hb8,hr8⟩
    have HB8:Hid (Below wr.heap.size wr w8):=(HB6.out.alloc HB6.out.size _).trans (hb8.mono (HB6.out.alloc HB6.out.size _).size)
    have HR8:=Lib.hid hr8
    clear hb8 hr8
    (refine hK.out _ _ (fun _=>HB8.out) ?_;clear hK K';try simp only [pQ,pN,pZ,pS])
    (refine on 14 ?_;intro o ho K' hK;simp at ho;subst ho)
    have N8:=HO.out.1.box.below HB8.out HO.out.2.2.2.2
    obtain ⟨p0,p1,pl,pf⟩:=N8.cells
    have pf0:=pf 0
    have pf1:=pf 1
    clear pf
    have HN8:=Lib.hid N8
    clear N8
    go_simp
    (refine hK.out _ _ (fun h=>by simp at h) ?_;clear hK K';try simp only [pQ,pN,pZ,pS])
    refine wpAnyS_done (by kernel_rfl) (NoPanic.normal ?_) _
    clear hwj
    go_wp2_with fail
    have hb8:=HO.out.2.2.1.trans (HB8.out.mono HO.out.2.2.1.size)
    have hO9:=OutTr.next (fun i h=>h.2) HN8.out HR8.out
    refine ⟨⟨j,by omega,rfl,set2_below hb8 (by omega),?_,?_,[],a8,n8,c8,?_⟩,by simp only [intOf];omega⟩
    ·exact set2_cell (by omega) ((HB8.out.cell (World.block_lt_of_cell? wr _ HO.out.2.2.2.1)).trans HO.out.2.2.2.1)
    ·exact set2_keep (by omega) (HO.out.2.1.below HB8.out (lt_of_heap HO.out.2.1))
    ·rw [HS.out]
     exact hO9
theorem app_step_tr (H:List Ty) (f:Tm) {ts:List Ty} {ss:List Bd} {k:Nat} {a:Ty} {s:Bd} (ha:ts[k]? = some a) (hs:ss[k]? = some s) :
 trTm (tmApps H f (ts.take (k+1)) (ss.take (k+1)))=.ls [.am appW,trTm (tmApps H f (ts.take k) (ss.take k)),trTm (tmL H a s)]:=by
 have e1:ts.take (k+1)=ts.take k++[a]:=by rw [List.take_add_one,ha];rfl
 have e2:ss.take (k+1)=ss.take k++[s]:=by rw [List.take_add_one,hs];rfl
 have h1:=(List.getElem?_eq_some_iff.1 ha).1
 have h2:=(List.getElem?_eq_some_iff.1 hs).1
 rw [e1,e2,tmApps_snoc _ _ _ _ _ _ (by rw [List.length_take,List.length_take];omega),trTm]
theorem BodPre.ask {H:List Ty} {v:Nat} {ss:List Bd} {y no:Bd} (h:BodPre (.ask v ss y no) H) :
 ∃ t,H[v]? = some t∧atomsT t≤15∧t.args.length=ss.length∧BodPre y H∧BodPre no H∧(∀ (k:Nat) (a:Ty) (s:Bd),t.args[k]? = some a→ss[k]? = some s→BodPre s (H++a.args)∧atomsT a≤15):=by
 obtain ⟨hf,hw,hs,hr⟩:=h
 rw [fitB] at hf
 rw [wfB] at hw
 rw [sizeB] at hr
 obtain ⟨t,ht,f1,f2,f3⟩:=hf
 have h15:=hs t (List.mem_of_getElem? ht)
 have hlen:=fitBs_length _ _ f1
 rw [hands_length] at hlen
 have py:=sizeB_pos y
 have pn:=sizeB_pos no
 refine ⟨t,ht,h15,hlen,⟨f2,hw.2.1,hs,by omega⟩,⟨f3,hw.2.2,hs,by omega⟩,fun k a s ha hk=>?_⟩
 have ha15:=arg_small h15 a (List.mem_of_getElem? ha)
 have hal:=arg_count ha15
 have hsz:=mem_sizeBs (List.mem_of_getElem? hk)
 refine ⟨⟨fitBs_atS f1 ha hk,wfBs_at _ hw.1 k s hk,fun x hx=>?_,by rw [List.length_append];omega⟩,ha15⟩
 rcases List.mem_append.1 hx with hx | hx
 ·exact hs x hx
 ·exact arg_small ha15 x hx
set_option maxRecDepth 100000 in
set_option maxHeartbeats 4000000 in
theorem bodyR_step (N:Nat) (hB:BodySaidR N) (hL:LamsSaidR N):BodySaidR (N+1):=by
 intro F b H s0 v0 k0 y0 lv w hsz hp hb hlv
 have e1:=encN_lv hb
 subst e1
 obtain ⟨_,a2,c2,a3,c3,e,hk,hy⟩:=encN_open hb
 simp only [List.cons.injEq,and_true] at e
 obtain ⟨rfl,_,rfl,rfl⟩:=e
 cases b with
 | leaf c =>
   obtain ⟨la,lc,rfl,_,_⟩:=Rep_sl1_open hlv
   clear hb hk hy hB hL hlv
   show Calls Tryz.prog 75 #[.agg #[str [c],.int .i64 (0:Nat),.slice a2 0 c2,.slice a3 0 c3],.slice la H.length lc] w _
   go_enter Tryz.func75,Tryz.ntmps75
   go_wp2_with fail
   refine bodyPost_ret (v:=.agg #[str [c],.slice none 0 0]) (by simp [results,Tryz.results75,go_sem]) rfl ?_
   rw [tmB,trTm]
   refine ⟨[c],none,0,0,rfl,(fun h=>h.alloc h.size _) ((Below.refl w.heap.size w).alloc (Nat.le_refl _) _),?_⟩
   rw [encTr]
   exact Reps_cons.2 ⟨_,_,rfl,Rep_val.2 rfl,Reps_cons.2 ⟨_,_,rfl,Rep_sl.2 ⟨rfl,none,0,rfl,Nat.le_refl _,fun _=>rfl,.inl rfl⟩,Reps_nil.2 rfl⟩⟩
 | ask v ss yb nb =>
   have IB:=Lib.hid hB;have IL:=Lib.hid hL;clear hB hL
   obtain ⟨t,ht,h15,hlen,PY,PN,PS⟩:=hp.ask
   have hroom:=hp.room
   rw [sizeB] at hroom hsz
   have hvl:=(List.getElem?_eq_some_iff.1 ht).1
   have hal:=arg_count h15
   have py:=sizeB_pos yb
   have pn:=sizeB_pos nb
   obtain ⟨_,_,ek,atk⟩:=AtNs.of hk
   simp only [Value.slice.injEq,true_and] at ek
   rw [← ek.1] at atk;clear ek
   obtain ⟨_,_,ek,aty⟩:=AtNs.of hy
   simp only [Value.slice.injEq,true_and] at ek
   rw [← ek.1] at aty;clear ek
   change AtNs F w ss a2 at atk
   change AtNs F w [yb,nb] a3 at aty
   obtain ⟨yb0,yo,s0,v0,p2,m2,d2,p3,m3,d3,yt,ey,hyb0,hyt,u0,u1,u2,u3,hry⟩:=aty 0 (by simp)
   obtain ⟨yb1,yo1,s1,v1,p4,m4,d4,p5,m5,d5,nt,en1,hyb1,hnt,z0,z1,z2,z3,hrn⟩:=aty 1 (by simp)
   rw [ey] at en1
   simp only [Option.some.injEq,Addr.mk.injEq,and_true] at en1
   obtain ⟨rfl,rfl⟩:=en1
   simp only [List.getElem?_cons_zero,Option.some.injEq] at hyt
   simp only [List.getElem?_cons_succ,List.getElem?_cons_zero,Option.some.injEq] at hnt
   subst hyt;subst hnt
   simp only [Nat.zero_mul,Nat.add_zero] at u0 u1 u2 u3
   simp only [Nat.one_mul,Nat.add_assoc,Nat.reduceAdd] at z0 z1 z2 z3
   obtain ⟨la,lc,rfl,_,_,hatH⟩:=Rep_sl1_open hlv
   obtain ⟨hb',ho',hu,hd,e,_,hbw',hdd,hc',hrk⟩:=hatH v hvl
   subst e
   rw [encSs_at,ht] at hdd
   simp only [Option.map_some,Option.some.injEq] at hdd
   subst hdd
   obtain ⟨ka,kc,rfl⟩:=encS_slice hrk
   have hrk':=hrk
   rw [encS_eq] at hrk'
   obtain ⟨_,_,est,_,_,hats⟩:=Rep_sl1_open hrk'
   simp only [Value.slice.injEq] at est
   obtain ⟨rfl,_,rfl⟩:=est
   subst ey
   have KY:KeepY w.heap.size (.slice (some ⟨yb0,yo,none⟩) 2 c3) yb0 yo (str s0) (.int .i64 v0) (.slice p2 m2 d2) (.slice p3 m3 d3) (str s1) (.int .i64 v1) (.slice p4 m4 d4) (.slice p5 m5 d5) (w.alloc (.cells #[str [],.int .i64 (v:Nat),.slice a2 ss.length c2,.slice (some ⟨yb0,yo,none⟩) 2 c3] 51)) :=
    ⟨by simp,cell_alloc u0,cell_alloc u1,cell_alloc u2,cell_alloc u3,cell_alloc z0,cell_alloc z1,cell_alloc z2,cell_alloc z3⟩
   have HK:=Lib.hid atk;have HA:=Lib.hid hats
   have HRY:=Lib.hid (And.intro hry hrn)
   have HP:=Lib.hid (And.intro PY (And.intro PN PS))
   have HLV:=Lib.hid (And.intro hlv (And.intro hc' hbw'))
   have HT:=Lib.hid ht
   have hres0:NewTr (w.heap.size+1) [] (.slice none 0 0) ((w.alloc (.cells #[str [],.int .i64 (v:Nat),.slice a2 ss.length c2,.slice (some ⟨yb0,yo,none⟩) 2 c3] 51)).alloc (.cells #[str [],.slice none 0 0] 43)):=by
    have:=heap_new (w.alloc (.cells #[str [],.int .i64 (v:Nat),.slice a2 ss.length c2,.slice (some ⟨yb0,yo,none⟩) 2 c3] 51)) (.cells #[str [],.slice none 0 0] 43)
    rw [size_alloc] at this;exact this
   have CN:=Lib.hid (fun wz=>l5Name2_any v (by omega) wz)
   have hb0:Below w.heap.size w ((w.alloc (.cells #[str [],.int .i64 (v:Nat),.slice a2 ss.length c2,.slice (some ⟨yb0,yo,none⟩) 2 c3] 51)).alloc (.cells #[str [],.slice none 0 0] 43)):=(fun h=>h.alloc h.size _) ((Below.refl w.heap.size w).alloc (Nat.le_refl _) _)
   have n1:((w.alloc (.cells #[str [],.int .i64 (v:Nat),.slice a2 ss.length c2,.slice (some ⟨yb0,yo,none⟩) 2 c3] 51)).alloc (.cells #[str [],.slice none 0 0] 43)).cell? ⟨w.heap.size,1,none⟩=some (.int .i64 (v:Nat))∧((w.alloc (.cells #[str [],.int .i64 (v:Nat),.slice a2 ss.length c2,.slice (some ⟨yb0,yo,none⟩) 2 c3] 51)).alloc (.cells #[str [],.slice none 0 0] 43)).cell? ⟨w.heap.size,2,none⟩=some (.slice a2 ss.length c2):=⟨cell_alloc (by simp),cell_alloc (by simp)⟩
   have H0:=Lib.hid (And.intro hb0 (And.intro n1 (And.intro hres0 ((KY.below ((Below.refl _ _).alloc (Nat.le_refl _) _):KeepY w.heap.size (.slice (some ⟨yb0,yo,none⟩) 2 c3) yb0 yo (str s0) (.int .i64 v0) (.slice p2 m2 d2) (.slice p3 m3 d3) (str s1) (.int .i64 v1) (.slice p4 m4 d4) (.slice p5 m5 d5) ((w.alloc (.cells #[str [],.int .i64 (v:Nat),.slice a2 ss.length c2,.slice (some ⟨yb0,yo,none⟩) 2 c3] 51)).alloc (.cells #[str [],.slice none 0 0] 43)))))))
   clear hb hk hy hlv atk aty hats hrk hrk' hatH ht PY PN PS hry hrn u0 u1 u2 u3 z0 z1 z2 z3 hc' hres0 hb0 n1 KY hp
   show Calls Tryz.prog 75 #[.agg #[str [],.int .i64 (v:Nat),.slice a2 ss.length c2,.slice (some ⟨yb0,yo,none⟩) 2 c3],.slice (some ⟨hb',ho',none⟩) H.length lc] w _
   go_enter Tryz.func75,Tryz.ntmps75
   go_wp2_with fail
   (with_reducible refine (CN.out _).mono ?_)
   rintro en1 w1 ⟨s6,a6,n6,c6,rfl,hb1,hr1⟩
   have hbw1:=H0.out.1.trans (hb1.mono H0.out.1.size)
   have hres1:=H0.out.2.2.1.below hb1 (by simp)
   have zz:=hb1.size
   rw [size_alloc,size_alloc] at zz
   have hn1:w1.cell? ⟨w.heap.size,1,none⟩=some (.int .i64 (v:Nat)):=(hb1.cell (p:=⟨w.heap.size,1,none⟩) (by simp;omega)).trans H0.out.2.1.1
   have hn2:w1.cell? ⟨w.heap.size,2,none⟩=some (.slice a2 ss.length c2):=(hb1.cell (p:=⟨w.heap.size,2,none⟩) (by simp;omega)).trans H0.out.2.1.2
   have hKY1:=H0.out.2.2.2.below hb1
   have hout:OutTr (fun i=>w.heap.size+1<i∧i≠w1.heap.size) w1.heap.size (trTm (tmApps H (.nm (lname v)) (t.args.take 0) (ss.take 0))) s6 a6 n6 c6 (w1.alloc (.cells #[str s6,.slice a6 n6 c6] 43)):=by
    refine ⟨heap_new _ _,?_⟩
    rw [List.take_zero,List.take_zero,tmApps_nil,trTm]
    exact (Rep.keep fun i o h ho=>⟨⟨by rw [size_alloc,size_alloc] at h;omega,by have:=lt_of_heap ho;omega⟩,heap_past ho⟩).2 _ _ hr1
   have hlt1:w.heap.size+1<w1.heap.size:=by omega
   have H3:=Lib.hid (And.intro (hbw1.alloc hbw1.size (.cells #[str s6,.slice a6 n6 c6] 43)) (And.intro ((cell_alloc hn1:(w1.alloc (.cells #[str s6,.slice a6 n6 c6] 43)).cell? ⟨w.heap.size,1,none⟩=some (.int .i64 (v:Nat)))) (And.intro ((cell_alloc hn2:(w1.alloc (.cells #[str s6,.slice a6 n6 c6] 43)).cell? ⟨w.heap.size,2,none⟩=some (.slice a2 ss.length c2))) (And.intro ((heap_past hres1:NewTr (w.heap.size+1) [] (.slice none 0 0) (w1.alloc (.cells #[str s6,.slice a6 n6 c6] 43)))) (And.intro (hKY1.below ((Below.refl _ _).alloc (Nat.le_refl _) (.cells #[str s6,.slice a6 n6 c6] 43))) hout)))))
   clear hb1 hr1 hbw1 hres1 hn1 hn2 hKY1 hout zz CN
   go_wp2_with fail
   obtain ⟨W3,hW3⟩:∃ W,W=w1.alloc (.cells #[str s6,.slice a6 n6 c6] 43):=⟨_,rfl⟩
   rw [← hW3] at H3 ⊢
   clear hW3
   obtain ⟨ob,hob⟩:∃ x,x=w1.heap.size:=⟨_,rfl⟩
   rw [← hob] at H3 hlt1 ⊢
   clear hob H0
   go_loopw [6] (fun i wr=>∃ k:Nat,k≤ss.length∧i=.int .i64 (k:Nat)∧Below w.heap.size w wr∧wr.cell? ⟨w.heap.size,1,none⟩=some (.int .i64 (v:Nat))∧wr.cell? ⟨w.heap.size,2,none⟩=some (.slice a2 ss.length c2)∧NewTr (w.heap.size+1) [] (.slice none 0 0) wr ∧
    KeepY w.heap.size (.slice (some ⟨yb0,yo,none⟩) 2 c3) yb0 yo (str s0) (.int .i64 v0) (.slice p2 m2 d2) (.slice p3 m3 d3) (str s1) (.int .i64 v1) (.slice p4 m4 d4) (.slice p5 m5 d5) wr ∧
    ∃ (s:Bs) (a:Option Addr) (n c:Nat),OutTr (fun i=>w.heap.size+1<i∧i≠ob) ob (trTm (tmApps H (.nm (lname v)) (t.args.take k) (ss.take k))) s a n c wr) (fun i _=>ss.length-(intOf i).toNat)
   case atStart=>exact ⟨0,Nat.zero_le _,rfl,H3.out.1,H3.out.2.1,H3.out.2.2.1,H3.out.2.2.2.1,H3.out.2.2.2.2.1,_,_,_,_,H3.out.2.2.2.2.2⟩
   case round =>
    clear H3
    rename_i wr
    obtain ⟨k,hk,rfl,hb,hn1,hn2,hrb,hKY,s9,a9,n9,c9,hout⟩:=hrel
    have lob:=lt_of_heap hout.box
    obtain ⟨q0,q1,ql,qf⟩:=hout.box.cells
    by_cases hlt:k<ss.length
    ·have hltI:(k:Int)<(ss.length:Int):=by omega
     have hltK:(k:Int)<(t.args.length:Int):=by omega
     have hvI:(v:Int)<(H.length:Int):=by omega
     obtain ⟨kb,ko,s',v',b2,m7,e2,b3,m8,e3,sb,ekb,hkb,hsb,x0,x1,x2,x3,hrs⟩:=HK.out k hlt
     subst ekb
     obtain ⟨ab,ao,au,ad,e,_,haw,had,hac,har⟩:=HA.out k (by omega)
     subst e
     rw [encSs_at,Option.map_eq_some_iff] at had
     obtain ⟨x,hx,rfl⟩:=had
     obtain ⟨xa,xc,rfl⟩:=encS_slice har
     have f0:=(hb.cell hkb).trans x0
     have f1:=(hb.cell hkb).trans x1
     have f2:=(hb.cell hkb).trans x2
     have f3:=(hb.cell hkb).trans x3
     have g0:=(hb.cell (p:=⟨ab,ao+k,none⟩) haw).trans hac
     have g1:=(hb.cell (p:=⟨hb',ho'+v,none⟩) HLV.out.2.2).trans HLV.out.2.1
     have hPS:=HP.out.2.2 k x sb hx hsb
     have hszs:=mem_sizeBs (List.mem_of_getElem? hsb)
     have CLam:=Lib.hid (IL.out F x sb H _ _ _ _ _ _ wr.drew (by omega) hPS.1 hPS.2 (Reps.below hb (fun _ h=>h) hrs).drew (Rep.below hb (fun _ h=>h) har).drew (Rep.below hb (fun _ h=>h) HLV.out.1).drew)
     have HS:=Lib.hid (app_step_tr H (.nm (lname v)) hx hsb)
     have SX:Hid (∀ w',Below wr.heap.size wr w'→w'.cell? ⟨w.heap.size,1,none⟩=some (.int .i64 (v:Nat))∧w'.cell? ⟨w.heap.size,2,none⟩=some (.slice (some ⟨kb,ko,none⟩) ss.length c2)∧w'.cell? ⟨ob,0,none⟩=some (str s9)∧w'.cell? ⟨ob,1,none⟩=some (.slice a9 n9 c9) ∧
      w'.cell? ⟨kb,ko+k*4,none⟩=some (str s')∧w'.cell? ⟨kb,ko+k*4+1,none⟩=some (.int .i64 v')∧w'.cell? ⟨kb,ko+k*4+2,none⟩=some (.slice b2 m7 e2)∧w'.cell? ⟨kb,ko+k*4+3,none⟩=some (.slice b3 m8 e3) ∧
      w'.cell? ⟨ab,ao+k,none⟩=some (.slice xa x.args.length xc)∧w'.cell? ⟨hb',ho'+v,none⟩=some (.slice (some ⟨ab,ao,none⟩) t.args.length kc)):=by
      show ∀ w',_→_
      intro w' hb'
      have kk:∀ (a:Addr) (u:Value),wr.cell? a=some u→w'.cell? a=some u:=fun a u h=>(hb'.cell (World.block_lt_of_cell? wr _ h)).trans h
      exact ⟨kk _ _ hn1,kk _ _ hn2,kk _ _ q0,kk _ _ q1,kk _ _ f0,kk _ _ f1,kk _ _ f2,kk _ _ f3,kk _ _ g0,kk _ _ g1⟩
     have HO:=Lib.hid (And.intro hout (And.intro hrb (And.intro hb (And.intro lob (And.intro hn1 (And.intro hn2 hKY))))))
     clear hx hsb har hac hrs x0 x1 x2 x3 hout hrb hb qf q0 q1 ql f0 f1 f2 f3 g0 g1 lob hPS hszs hn1 hKY
     go_wp2_with fail
     refine wp_region_noPanic ?_
     refine wp_region_S (fun w'=>Below wr.heap.size wr w') (fun i=>i == 19) (by kernel_rfl) ?_
     have hSd:(fun w'=>Below wr.heap.size wr w') wr.drew:=Below.drew (Below.refl _ _)
     refine tk [0,1,2,3,4,5,6,7,8,9,10,11,12,13,14,15] hSd ?_
     (intro d hd;simp [tkD] at hd;subst hd;simp only [tks,pQ,pZ,pS])
     iterate 16 (refine ⟨?_,?_,?_⟩;rotate_left;· (intro oi ho;simp at ho;subst ho;refine Or.inl ⟨by rfl,fun w' hw'=>?_⟩;obtain ⟨e0,e1,e2,e3,e4,e5,e6,e7,e8,e9⟩:=SX.out w' hw';go_simp;try with_reducible rfl))
     (refine on 16 ?_;intro o ho K' hK;simp at ho;subst ho;go_simp)
     go_at_call 40
     (with_reducible refine CLam.out.mono ?_)
     rintro en6 w6 ⟨s6',a6',n6',c6',rfl,hb6,hr6⟩
     have HB6:Hid (Below wr.heap.size wr w6):=hSd.trans hb6
     have HR6:=Lib.hid hr6
     clear hb6 hr6
     (refine hK.out _ _ (fun _=>HB6.out) ?_;clear hK K';try simp only [pQ,pN,pZ,pS])
     (refine on 17 ?_;intro o ho K' hK;simp at ho;subst ho;go_simp)
     (refine hK.out _ _ (fun _=>HB6.out.alloc HB6.out.size _) ?_;clear hK K';try simp only [pQ,pN,pZ,pS])
     (refine on 18 ?_;intro o ho K' hK;simp at ho;subst ho)
     have lob6:=HO.out.2.2.2.1
     have zw:=HO.out.2.2.1.size
     have z6:=HB6.out.size
     have HF6:Reps (fun i=>w.heap.size+1<i∧i≠ob) w6 (encTr (trTm (tmL H x sb))) [str s6',.slice a6' n6' c6']:=(Rep.keep fun b o h ho=>⟨⟨by have h:wr.heap.size≤b:=h;omega,by have h:wr.heap.size≤b:=h;omega⟩,ho⟩).2 _ _ HR6.out
     have HF0:Reps (fun i=>w.heap.size+1<i∧i≠ob) w6 (encTr (trTm (tmApps H (.nm (lname v)) (t.args.take k) (ss.take k)))) [str s9,.slice a9 n9 c9]:=(Rep.keep fun b o h ho=>⟨h,by rw [HB6.out.block b (lt_of_heap ho)];exact ho⟩).2 _ _ HO.out.1.rep
     have CL:=Lib.hid (l5List_any (fun i=>w.heap.size+1<i∧i≠ob) [97,112,112] [(trTm (tmApps H (.nm (lname v)) (t.args.take k) (ss.take k))),trTm (tmL H x sb)] _ (w6.alloc (.cells #[str s9,.slice a9 n9 c9,str s6',.slice a6' n6' c6'] 43 (0,0))) (fun b h=>by rw [size_alloc] at h;exact ⟨by omega,by omega⟩) (row2 HF0 HF6 ⟨by omega,by omega⟩ (0,0)) (by simp))
     clear HF6 HF0
     go_simp
     go_at_call 76
     (with_reducible refine CL.out.mono ?_)
     rintro en8 w8 ⟨a8,n8,c8,rfl,hb8,hr8⟩
     have HB8:Hid (Below wr.heap.size wr w8):=(HB6.out.alloc HB6.out.size _).trans (hb8.mono (HB6.out.alloc HB6.out.size _).size)
     have HR8:=Lib.hid hr8
     clear hb8 hr8
     (refine hK.out _ _ (fun _=>HB8.out) ?_;clear hK K';try simp only [pQ,pN,pZ,pS])
     (refine on 19 ?_;intro o ho K' hK;simp at ho;subst ho)
     have N8:=HO.out.1.box.below HB8.out HO.out.2.2.2.1
     obtain ⟨p0,p1,pl,pf⟩:=N8.cells
     have pf0:=pf 0
     have pf1:=pf 1
     clear pf
     have HN8:=Lib.hid N8
     clear N8
     go_simp
     (refine hK.out _ _ (fun h=>by simp at h) ?_;clear hK K';try simp only [pQ,pN,pZ,pS])
     refine wpAnyS_done (by kernel_rfl) (NoPanic.normal ?_) _
     go_wp2_with fail
     have hb8:=HO.out.2.2.1.trans (HB8.out.mono HO.out.2.2.1.size)
     have hO9:=OutTr.next (fun i h=>h.2) HN8.out HR8.out
     have hkeep:∀ (b o:Nat) (u:Value),b≠ob→wr.cell? ⟨b,o,none⟩=some u→((w8.setCell ⟨ob,0,none⟩ (str [])).setCell ⟨ob,1,none⟩ (.slice a8 n8 c8)).cell? ⟨b,o,none⟩=some u:=fun b o u hbo h=>set2_cell hbo ((HB8.out.cell (World.block_lt_of_cell? wr _ h)).trans h)
     have z8:=hb8.size
     have ny:yb0≠ob:=by omega
     obtain ⟨k1,k2,k3,k4,k5,k6,k7,k8,k9⟩:=HO.out.2.2.2.2.2.2
     refine ⟨⟨k+1,by omega,by go_num,set2_below hb8 (by omega),hkeep _ _ _ (by omega) HO.out.2.2.2.2.1,hkeep _ _ _ (by omega) HO.out.2.2.2.2.2.1,set2_keep (by omega) (HO.out.2.1.below HB8.out (lt_of_heap HO.out.2.1)),
      ⟨hkeep _ _ _ (by omega) k1,hkeep _ _ _ ny k2,hkeep _ _ _ ny k3,hkeep _ _ _ ny k4,hkeep _ _ _ ny k5,hkeep _ _ _ ny k6,hkeep _ _ _ ny k7,hkeep _ _ _ ny k8,hkeep _ _ _ ny k9⟩,[],a8,n8,c8,?_⟩,by simp only [intOf];omega⟩
     rw [HS.out]
     exact hO9
    ·obtain rfl:k=ss.length:=by omega
     have htk:t.args.take ss.length=t.args:=List.take_of_length_le (by omega)
     rw [htk,List.take_length] at hout
     have hnl:¬ ((ss.length:Int)<(ss.length:Int)):=by omega
     have HE:=Lib.hid (show trTm (tmB H (.ask v ss yb nb))=.ls [.am ifW,trTm (tmApps H (.nm (lname v)) t.args ss),trTm (tmB H yb),trTm (tmB H nb)] by
      have e:(H[v]?.map Ty.args).getD []=t.args:=by rw [HT.out];rfl
      rw [tmB,trTm,e])
     have CY:=Lib.hid (IB.out F yb H _ _ _ _ _ wr.drew (by omega) HP.out.1 (Reps.below hb (fun _ h=>h) HRY.out.1).drew (Rep.below hb (fun _ h=>h) HLV.out.1).drew)
     have CZ:=Lib.hid (fun wz (hz:Below wr.heap.size wr wz)=>IB.out F nb H _ _ _ _ _ wz (by omega) HP.out.2.1 (Reps.below (hb.trans (hz.mono hb.size)) (fun _ h=>h) HRY.out.2) (Rep.below (hb.trans (hz.mono hb.size)) (fun _ h=>h) HLV.out.1))
     obtain ⟨hy3,x0,x1,x2,x3,x4,x5,x6,x7⟩:=id hKY
     have SX:Hid (∀ w',Below wr.heap.size wr w'→w'.cell? ⟨w.heap.size,3,none⟩=some (.slice (some ⟨yb0,yo,none⟩) 2 c3)∧w'.cell? ⟨ob,0,none⟩=some (str s9)∧w'.cell? ⟨ob,1,none⟩=some (.slice a9 n9 c9) ∧
      w'.cell? ⟨yb0,yo,none⟩=some (str s0)∧w'.cell? ⟨yb0,yo+1,none⟩=some (.int .i64 v0)∧w'.cell? ⟨yb0,yo+2,none⟩=some (.slice p2 m2 d2)∧w'.cell? ⟨yb0,yo+3,none⟩=some (.slice p3 m3 d3) ∧
      w'.cell? ⟨yb0,yo+4,none⟩=some (str s1)∧w'.cell? ⟨yb0,yo+5,none⟩=some (.int .i64 v1)∧w'.cell? ⟨yb0,yo+6,none⟩=some (.slice p4 m4 d4)∧w'.cell? ⟨yb0,yo+7,none⟩=some (.slice p5 m5 d5)):=by
      show ∀ w',_→_
      intro w' hb'
      have kk:∀ (a:Addr) (u:Value),wr.cell? a=some u→w'.cell? a=some u:=fun a u h=>(hb'.cell (World.block_lt_of_cell? wr _ h)).trans h
      exact ⟨kk _ _ hy3,kk _ _ q0,kk _ _ q1,kk _ _ x0,kk _ _ x1,kk _ _ x2,kk _ _ x3,kk _ _ x4,kk _ _ x5,kk _ _ x6,kk _ _ x7⟩
     have HO:=Lib.hid (And.intro hout (And.intro hrb (And.intro hb (lt_of_heap hrb))))
     clear hout hrb hb qf q0 q1 ql hKY hy3 x0 x1 x2 x3 x4 x5 x6 x7 htk hn1
     go_wp2_with fail
     refine wp_region_noPanic ?_
     refine wp_region_S (fun w'=>Below wr.heap.size wr w') (fun i=>i == 15) (by kernel_rfl) ?_
     have hSd:(fun w'=>Below wr.heap.size wr w') wr.drew:=Below.drew (Below.refl _ _)
     refine tk [0,1,2,3,4,5,7,8,9,10,11] hSd ?_
     (intro d hd;simp [tkD] at hd;subst hd;simp only [tks,pQ,pZ,pS])
     iterate 11 (refine ⟨?_,?_,?_⟩;rotate_left;· (intro oi ho;simp at ho;subst ho;refine Or.inl ⟨by rfl,fun w' hw'=>?_⟩;obtain ⟨e0,e1,e2,e3,e4,e5,e6,e7,e8,e9,e10⟩:=SX.out w' hw';go_simp;try with_reducible rfl))
     (refine on 6 ?_;intro o ho K' hK;simp at ho;subst ho;go_simp)
     go_at_call 75
     (with_reducible refine CY.out.mono ?_)
     rintro en4 w4 ⟨sY,aY,nY,cY,rfl,hb4,hr4⟩
     have HB4:Hid (Below wr.heap.size wr w4):=hSd.trans hb4
     have HR4:=Lib.hid hr4
     clear hb4 hr4
     (refine hK.out _ _ (fun _=>HB4.out) ?_;clear hK K';try simp only [pQ,pN,pZ,pS])
     (refine on 12 ?_;intro o ho K' hK;simp at ho;subst ho;go_simp)
     go_at_call 75
     (with_reducible refine (CZ.out w4 HB4.out).mono ?_)
     rintro en6 w6 ⟨sZ,aZ,nZ,cZ,rfl,hb6,hr6⟩
     have HB6:Hid (Below wr.heap.size wr w6):=HB4.out.trans (hb6.mono HB4.out.size)
     have HR6:=Lib.hid (And.intro hr6 hb6)
     clear hb6 hr6
     (refine hK.out _ _ (fun _=>HB6.out) ?_;clear hK K';try simp only [pQ,pN,pZ,pS])
     (refine on 13 ?_;intro o ho K' hK;simp at ho;subst ho;go_simp)
     (refine hK.out _ _ (fun _=>HB6.out.alloc HB6.out.size _) ?_;clear hK K';try simp only [pQ,pN,pZ,pS])
     (refine on 14 ?_;intro o ho K' hK;simp at ho;subst ho)
     have zw:=HO.out.2.2.1.size
     have z4:=HB4.out.size
     have z6:=HB6.out.size
     have lrb:=HO.out.2.2.2
     have HF4:Reps (w.heap.size+1 < ·) w6 (encTr (trTm (tmB H yb))) [str sY,.slice aY nY cY]:=(Rep.keep fun b o h ho=>⟨by have h:wr.heap.size≤b:=h;omega,by rw [HR6.out.2.block b (lt_of_heap ho)];exact ho⟩).2 _ _ HR4.out
     have HF6:Reps (w.heap.size+1 < ·) w6 (encTr (trTm (tmB H nb))) [str sZ,.slice aZ nZ cZ]:=(Rep.keep fun b o h ho=>⟨by have h:w4.heap.size≤b:=h;omega,ho⟩).2 _ _ HR6.out.1
     have HF0:Reps (w.heap.size+1 < ·) w6 (encTr (trTm (tmApps H (.nm (lname v)) t.args ss))) [str s9,.slice a9 n9 c9]:=(Rep.keep fun b o h ho=>⟨h.1,by rw [HB6.out.block b (lt_of_heap ho)];exact ho⟩).2 _ _ HO.out.1.rep
     have CL:=Lib.hid (l5List_any (w.heap.size+1 < ·) [105,102] [(trTm (tmApps H (.nm (lname v)) t.args ss)),trTm (tmB H yb),trTm (tmB H nb)] _ (w6.alloc (.cells #[str s9,.slice a9 n9 c9,str sY,.slice aY nY cY,str sZ,.slice aZ nZ cZ] 43 (0,0))) (fun b h=>by rw [size_alloc] at h;omega) (row3 HF0 HF4 HF6 (by omega) (0,0)) (by simp))
     clear HF4 HF6 HF0
     go_simp
     go_at_call 76
     (with_reducible refine CL.out.mono ?_)
     rintro en8 w8 ⟨a8,n8,c8,rfl,hb8,hr8⟩
     have HB8:Hid (Below wr.heap.size wr w8):=(HB6.out.alloc HB6.out.size _).trans (hb8.mono (HB6.out.alloc HB6.out.size _).size)
     have HR8:=Lib.hid hr8
     clear hb8 hr8
     (refine hK.out _ _ (fun _=>HB8.out) ?_;clear hK K';try simp only [pQ,pN,pZ,pS])
     (refine on 15 ?_;intro o ho K' hK;simp at ho;subst ho)
     have N8:=HO.out.2.1.below HB8.out HO.out.2.2.2
     obtain ⟨p0,p1,pl,pf⟩:=N8.cells
     have pf0:=pf 0
     have pf1:=pf 1
     clear pf
     have HN8:=Lib.hid N8
     clear N8
     go_simp
     (refine hK.out _ _ (fun h=>by simp at h) ?_;clear hK K';try simp only [pQ,pN,pZ,pS])
     refine wpAnyS_done (by kernel_rfl) (NoPanic.normal ?_) _
     go_wp2_with fail
     obtain ⟨W,hW,s11,s12,hbW,hkW⟩:=HN8.out.store (.string ⟨#[]⟩) (.slice a8 n8 c8)
     rw [← hW]
     refine bodyPost_ret (v:=.agg #[str [],.slice a8 n8 c8]) (by simp [results,Tryz.results75,go_sem,s11,s12]) rfl ?_
     have hb8:=HO.out.2.2.1.trans (HB8.out.mono HO.out.2.2.1.size)
     rw [HE.out]
     exact ⟨[],a8,n8,c8,rfl,hbW _ _ hb8 (by omega),(Rep.keep fun b o h ho=>⟨by have:=h;omega,hkW b o (by have:=h;omega) ho⟩).2 _ _ HR8.out⟩
theorem bodyR_any (N:Nat):BodySaidR N:=by
 induction N with
 | zero=>exact fun F b H s v k y lv w h=>by have:=sizeB_pos b;omega
 | succ N ih=>exact bodyR_step N ih (lamsR_step N ih)
theorem lamsR_any (N:Nat):LamsSaidR N:=lamsR_step N (bodyR_any N)
end Go.Proofs.YtllmjhbopmkpoaaGreatDoor

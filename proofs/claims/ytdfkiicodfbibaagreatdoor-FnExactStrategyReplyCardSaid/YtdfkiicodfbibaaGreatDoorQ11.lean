/- Walks of functions that the statement reaches, and plain words. No conditions. -/
import Derived.Test.YtdfkiicodfbibaaGreatDoorQ10
set_option linter.unusedVariables false
set_option linter.unusedSimpArgs false
set_option maxHeartbeats 8000000
namespace Go.Proofs.YtdfkiicodfbibaaGreatDoor
open Go.RowKit
def StRep (F:Nat->Prop) (w:World) (s:St) (bv lsl:Value):Prop:=Rep F w (encB s.1) bv/\LvRep F w s.2.1 lsl
theorem StRep.keep {F F':Nat->Prop} {w w':World} {s:St} {bv lsl:Value} (h:StRep F w s bv lsl) (hk:∀ b o,F b->w.heap[b]? = some o->F' b/\w'.heap[b]? = some o):StRep F' w' s bv lsl:=⟨(Rep.keep hk).1 _ _ h.1,(Rep.keep hk).1 _ _ h.2⟩
def BehS (s':St) (F:Nat->Prop) (w:World) (en:Ending) (w':World):Prop :=
 ∃ ba la lc,en=.returned (.agg #[.pointer (some ⟨ba,0,none⟩),.slice la s'.2.1.length lc,.int .i64 (s'.2.2.1:Nat),str s'.2.2.2])/\Below w.heap.size w w'/\StRep F w' s' (.pointer (some ⟨ba,0,none⟩)) (.slice la s'.2.1.length lc)
theorem behind_step {t:Ty} {hand:List Ty} {s:St} {l:Nat} {ss:List Bd} {y n:Bd} {a:Ty} {pl:Place} {c:UInt8} {p:Bs} {z:Nat} (k:Nat) (F:Nat->Prop) (bv kv lsl:Value) (w:World)
 (hd:StepD t hand s l ss y n a pl c p) (hs:StFit t hand s z) (h15:atomsT t<=15) (hz:z<=100) (hg:Glob w) (hk:Rep F w (encK t) kv) (hr:StRep F w s bv lsl) (hF:∀ b,w.heap.size<=b->F b) :
 ∃ s',stepW t s (c::p) k=some s'/\Calls Tryz.prog 160 #[.agg #[bv,lsl,.int .i64 (s.2.2.1:Nat),str s.2.2.2],kv,str (c::p),.int .i64 (k:Nat)] w (BehS s' F w):=by
 have hal:=atT_len _ _ _ hd.hat
 have hargs:=args_len a
 have hll:=hs.ll
 have hlen:=hd.len
 obtain ⟨b,lv,bg⟩:=s
 have hb0:b=.ask l ss y n:=hd.body
 subst hb0
 obtain ⟨hb,hlv⟩:=hr
 have hlv':LvRep F w lv lsl:=hlv
 have hb':Rep F w (encB (.ask l ss y n)) bv:=hb
 have hll':lv.length<=8*z:=hll
 unfold stepW
 simp only
 rcases hd.mv with ⟨rfl,j,aj,sb,hp,hj,haj,hsb,hat,hld⟩ | ⟨hc,hp⟩
 ·rw [if_pos rfl,hld,hsb]
  have e0:argsAt t p=aj.args.length:=by unfold argsAt;rw [hat]
  have e1:=atT_len _ _ _ hat
  have hpos:0<p.length:=by rw [hp,List.length_append];simp
  refine ⟨_,rfl,(behind_q F t aj l j ss sb y n bv kv lsl lv bg p k w hg hb' hk hlv' h15 hsb hj hpos (by omega) ?_ hat (by omega) (by omega)).mono ?_⟩
  ·subst hp;simp
  ·rintro en w' ⟨ba,la,lc,rfl,hbl,rb,rl⟩
   refine ⟨ba,la,lc,?_,hbl,Rep.below hbl (fun _ h=>h) rb,?_⟩
   ·show _=Ending.returned (.agg #[_,.slice la (lv++placesOf (argsAt t p) k p).length lc,_,_])
    rw [e0]
   ·show LvRep F w' (lv++placesOf (argsAt t p) k p) (.slice la (lv++placesOf (argsAt t p) k p).length lc)
    rw [e0]
    exact (Rep.keep fun i o hi ho=>⟨hF i hi,ho⟩).1 _ _ rl
 ·have hc':¬ c=113:=by rcases hc with h | h <;> rw [h] <;> decide
  rw [if_neg hc']
  obtain ⟨la,lc,rfl,_⟩:=hlv'.open
  obtain ⟨kb,ks,rfl,_⟩:=encK_open hk
  refine ⟨_,rfl,(behind_ans c hc F l ss y n bv (.pointer (some ⟨kb,0,none⟩)) la lv.length lc bg (c::p) k w hb' (by simp) rfl ⟨_,rfl⟩).mono ?_⟩
  rintro en w' ⟨ba,rfl,hbl,rb⟩
  refine ⟨ba,la,lc,rfl,hbl,?_,Rep.below hbl (fun _ h=>h) hlv'⟩
  show Rep F w' (encB (if c=102 then n else y)) _
  have:(if c=102 then n else y)=(if c=116 then y else n):=by rcases hc with h | h <;> rw [h] <;> rfl
  rw [this]
  exact Rep.below hbl (fun _ h=>h) rb
theorem behind_step2 {t:Ty} {hand:List Ty} {s s':St} {l:Nat} {ss:List Bd} {y n:Bd} {a:Ty} {pl:Place} {c:UInt8} {p:Bs} {z k:Nat} (hst:stepW t s (c::p) k=some s') (F:Nat->Prop) (bv kv lsl:Value) (w:World)
 (hd:StepD t hand s l ss y n a pl c p) (hs:StFit t hand s z) (h15:atomsT t<=15) (hz:z<=100) (hg:Glob w) (hk:Rep F w (encK t) kv) (hr:StRep F w s bv lsl) (hF:∀ b,w.heap.size<=b->F b) :
 Calls Tryz.prog 160 #[.agg #[bv,lsl,.int .i64 (s.2.2.1:Nat),str s.2.2.2],kv,str (c::p),.int .i64 (k:Nat)] w (BehS s' F w):=by
 obtain ⟨s2,h2,h3⟩:=behind_step k F bv kv lsl w hd hs h15 hz hg hk hr hF
 rw [hst] at h2
 obtain rfl:=Option.some.inj h2
 exact h3
def StandQ (s:St) (w:World) (en:Ending) (w':World):Prop :=
 ∃ bv lsl,en=.returned (.agg #[bv,lsl,.int .i64 (s.2.2.1:Nat),str s.2.2.2])/\Below w.heap.size w w'/\StRep (fun _=>True) w' s bv lsl
set_option maxRecDepth 100000 in
theorem standIn_any (F:Nat->Prop) (t:Ty) (b:Bd) (v:Pl) (k n:Nat) (hnk:n=k+1) (s0:St) (kv bv mv pt:Value) (w:World) (hg:Glob w) (hk:Rep F w (encK t) kv) (hb:Rep F w (encB b) bv) (hm:PlIn F t v mv pt w)
 (h15:atomsT t<=15) (hf:fitB t.args b) (hw:wfB b) (hkv:k<v.length) (hke:k % 2=0) (hfo:followsTo t b v k) (hs0:placeAt t b v (k+1)=some s0) :
 Calls Tryz.prog 108 #[kv,bv,.agg #[mv,pt],.int .i64 (n:Nat)] w (StandQ s0 w):=by
 have h60:=valid_len hm.ok
 have VC:=Lib.hid (view_chain hm.ok k hkv hke)
 have PF:=Lib.hid (fun e (he:e<=k) (he2:e % 2=0)=>place_fits h15 hf hw hm.ok e (by omega) he2 (fun i hi h=>hfo i (by omega) h))
 have FO:=Lib.hid (And.intro hfo hs0)
 have FIT:=Lib.hid (startW_fit (b:=b) h15 hf hw)
 have hn1:0<n:=by omega
 have hn2:n<=v.length:=by omega
 have HK:=Lib.hid hnk;clear hnk
 obtain ⟨ba,rfl⟩:=encB_ptr hb
 obtain ⟨kb,ks,rfl,_⟩:=encK_open hk
 obtain ⟨ma,mc,rfl,hmc⟩:=hm.m.cells
 obtain ⟨pa,pc,rfl,hpc⟩:=hm.p.cells
 obtain ⟨W,hW,hbW,hz,b0,b1⟩:=boxes_2 w (.cells #[.slice ma v.length mc,.slice pa v.length pc] 33) (.cells #[.pointer none,.slice none 0 0,.int .i64 0,str []] 150)
 obtain ⟨c0,c1,_,_⟩:=cells_2 b0
 have CV:=Lib.hid (view_any F t v false n _ _ W (hm.below hbW).m (hm.below hbW).p hm.ok hn1 hn2 hm.l)
 have HI:=Lib.hid (And.intro hg (And.intro hk (And.intro hb (And.intro hmc (And.intro h15 (And.intro hm.ok hm))))))
 have HW:=Lib.hid (And.intro hW (And.intro hbW (And.intro hz (And.intro b0 b1))))
 clear hW hbW hz b0 b1 hg hk hb hm h15 hmc hpc hf hw hfo hs0
 go_enter Tryz.func108,Tryz.ntmps108
 go_upto_region 1 with (fail)
 rw [HW.out.1]
 go_wp2_with fail
 (with_reducible refine CV.out.mono ?_)
 rintro en w2 ⟨vv,rfl,hb2,hN2⟩
 rw [HK.out] at hN2
 generalize hvw:viewP v false (k+1)=vw at *
 obtain ⟨vb,vo,vc,rfl,hvl,hvc⟩:=hN2
 obtain ⟨z0,hz0⟩:∃ z0:Nat,z0=0:=⟨_,rfl⟩
 have h0:w2.cell? ⟨vb,vo,none⟩=some (.int .i64 (z0:Nat)):=by rw [hz0];exact hvc 0 0 VC.out.zero
 have HZ:=Lib.hid hz0
 have hvp:0<vw.length:=(List.getElem?_eq_some_iff.1 VC.out.zero).1
 have hvpI:(0:Int)<(vw.length:Int):=by omega
 have hg2:=(HI.out.1.below HW.out.2.1).below hb2
 have hk2:=(HI.out.2.1.below HW.out.2.1 (fun _ h=>h)).below hb2 (fun _ h=>h)
 have CS:=Lib.hid (standOf_any F t (.pointer (some ⟨kb,0,none⟩)) (.pointer (some ⟨ba,0,none⟩)) z0 w2 hg2 hk2 HI.out.2.2.2.2.1 ⟨_,rfl⟩)
 have H2:=Lib.hid (And.intro hb2 (And.intro hvl hvc))
 clear hz0 hg2 hk2 hb2 hvl hvc c0 c1 CV hvw
 go_wp2_with fail
 (with_reducible refine CS.out.mono ?_)
 rintro en w3 ⟨la,lc,rfl,hb3,hlv⟩
 clear h0 CS
 obtain ⟨Y,hY,hbY,hzY,y0⟩:=box_1 w3 (.cells #[.pointer (some ⟨ba,0,none⟩),.slice la (placesOf t.args.length z0 []).length lc,.int .i64 (z0:Nat),str []] 150)
 have hz1:=HW.out.2.2.1
 have hs2:=H2.out.1.size
 have hs3:=hb3.size
 have hb2Y:Below w2.heap.size w2 Y:=zzT hb3 hbY
 have hbWY:Below W.heap.size W Y:=zzT H2.out.1 hb2Y
 have hbwY:Below w.heap.size w Y:=zzT HW.out.2.1 hbWY
 have HST:=Lib.hid (show StRep (fun g=>g≠w3.heap.size/\g≠w.heap.size+1) Y (startW t b) (.pointer (some ⟨ba,0,none⟩)) (.slice la (placesOf t.args.length z0 []).length lc) by
  constructor
  ·refine (Rep.keep fun i o _ ho=>⟨?_,?_⟩).1 _ _ HI.out.2.2.1
   ·have:=lt_of_heap ho;omega
   ·rw [hbwY.block _ (lt_of_heap ho)];exact ho
  ·rw [HZ.out] at hlv ⊢
   refine (Rep.keep fun i o hi ho=>⟨?_,?_⟩).1 _ _ hlv
   ·have:=lt_of_heap ho
    have h9:w2.heap.size<=i:=hi
    omega
   ·rw [hbY.block _ (lt_of_heap ho)];exact ho)
 have HY:=Lib.hid (And.intro hY (And.intro hbwY (And.intro hbWY (And.intro hb2Y (And.intro y0 hzY)))))
 have HSZ:=Lib.hid (And.intro hz1 (And.intro hs2 hs3))
 clear hY hbY hzY y0 hz1 hs2 hs3 hb2Y hbWY hbwY hlv hb3
 go_wp2_with fail
 rw [HY.out.1]
 generalize hsb:w3.heap.size=sb at *
 go_loopw [11] (fun i wr=>∃ (wz:World) (j e:Nat) (s:St) (hand:List Ty) (xv lsl:Value),wz=wr/\i=.int .i64 ((2*j+2:Nat):Int)/\vw[2*j]? = some e/\placeAt t b v (e+1)=some s/\StFit t hand s (e+1)/\wz.heap[sb]? = some (.cells #[xv,lsl,.int .i64 (s.2.2.1:Nat),str s.2.2.2] 150 (0,0))/\StRep (fun g=>g≠sb/\g≠w.heap.size+1) wz s xv lsl/\But (fun g=>g=sb) Y wz) (fun i _=>vw.length+2-(intOf i).toNat)
 case atStart =>
  refine ⟨_,0,0,startW t b,t.args,_,_,rfl,rfl,VC.out.zero,placeAt_first t b v,?_,?_,HST.out,But.refl _ _⟩
  ·exact FIT.out
  ·have hz0:=HZ.out
   subst hz0
   exact HY.out.2.2.2.2.1
 case round =>
  obtain ⟨wr,j,e,s,hand,xv,lsl,rfl,rfl,hve,hpl,hfit,hbox,hst,hB⟩:=hrel
  obtain ⟨xa,rfl⟩:=encB_ptr hst.1
  obtain ⟨lsa,lsc,rfl,_⟩:=LvRep.open hst.2
  obtain ⟨q0,q1,q2,q3⟩:=cells_4 hbox
  have hsbY:sb<Y.heap.size:=lt_of_heap HY.out.2.2.2.2.1
  have hek:=VC.out.all _ _ hve
  have hjv:=(List.getElem?_eq_some_iff.1 hve).1
  have hvk:=VC.out.len
  obtain ⟨i2,hi2⟩:=zzM (2*j+2)
  rw [<- hi2]
  have hwr:Below w.heap.size w wr:=HY.out.2.1.trans (hB.toBelow (by have:=HY.out.2.1.size;omega) fun i hi e1=>by have h1:=HSZ.out;omega)
  have HB:=Lib.hid (And.intro hB hwr)
  have HST2:=Lib.hid (And.intro hst (And.intro hbox (And.intro hfit hpl)))
  clear hB hwr hst hbox
  by_cases hlt:i2<vw.length
  ·have hltI:(i2:Int)<(vw.length:Int):=by omega
   obtain ⟨e1,e',c,p,h1,h2,h3,h4,h5,h6,h7⟩:=VC.out.step j (by omega)
   obtain rfl:e1=e:=Option.some.inj (h1.symm.trans hve)
   have hr:=FO.out.1 (e1+1) (by have:=h6.lt;omega) h6.odd
   obtain ⟨x,hx,hxe⟩:=h6.en
   unfold replyAt at hr
   rw [hpl,Option.bind_some,hx] at hr
   obtain ⟨l,ss,y,nn,a,pl,hd⟩:=step_data HI.out.2.2.2.2.1 hfit h7 h4 hxe hr
   obtain ⟨s',hand',hs1,hs2⟩:=hd.next (k:=e') hfit (by have:=h6.lt;omega) (by omega) HI.out.2.2.2.2.1
   have hpl':placeAt t b v (e'+1)=some s':=by rw [placeAt_step HI.out.2.2.2.2.2.1 b (by omega) h4 h6,hpl,Option.bind_some,hs1]
   have he'v:(e':Int)<(v.length:Int):=by omega
   obtain ⟨mb,mo,rfl,_,hmb,hmk⟩:=HI.out.2.2.2.1 e' _ h6.at'
   have CB:=Lib.hid (fun (y:World) (hy:Below wr.heap.size wr y)=>behind_step2 hs1 (fun g=>g≠sb/\g≠w.heap.size+1) (.pointer (some ⟨xa,0,none⟩)) (.pointer (some ⟨kb,0,none⟩)) (.slice lsa s.2.1.length lsc) y hd hfit HI.out.2.2.2.2.1 (by omega) ((HI.out.1.below HB.out.2).below hy)
    ((Rep.keep fun i o _ ho=>⟨by have:=lt_of_heap ho;have h1:=HSZ.out;omega,by rw [hy.block i (by have:=lt_of_heap ho;have:=HB.out.2.size;omega),HB.out.2.block i (lt_of_heap ho)];exact ho⟩).1 _ _ HI.out.2.1)
    (HST2.out.1.keep fun i o hi ho=>⟨hi,by rw [hy.block i (lt_of_heap ho)];exact ho⟩) (fun i hi=>by have h9:wr.heap.size<=i:=Nat.le_trans hy.size hi;have h1:=HSZ.out;have h2:=HB.out.1.size;omega))
   have HN:=Lib.hid (And.intro hpl' (And.intro hs2 (And.intro (show vw[2*(j+1)]? = some e' from h2) (show i2+2=2*(j+1)+2 by omega))))
   obtain ⟨M,hM⟩:=zzM (c::p)
   rw [<- hM] at CB hmk
   have KEY:=Lib.hid (fun (y:World) (hy:Below wr.heap.size wr y)=>(show (y.cell? ⟨sb,0,none⟩=some (.pointer (some ⟨xa,0,none⟩))/\y.cell? ⟨sb,1,none⟩=some (.slice lsa s.2.1.length lsc)/\y.cell? ⟨sb,2,none⟩=some (.int .i64 (s.2.2.1:Nat))/\y.cell? ⟨sb,3,none⟩=some (str s.2.2.2))/\y.cell? ⟨w.heap.size,0,none⟩=some (.slice (some ⟨mb,mo,none⟩) v.length mc)/\y.cell? ⟨vb,vo+i2,none⟩=some (.int .i64 (e':Nat))/\y.cell? ⟨mb,mo+e',none⟩=some (str M) from by
    have hk:∀ (a:Addr) (u:Value),wr.cell? a=some u->y.cell? a=some u:=fun a u h=>(hy.cell (World.block_lt_of_cell? _ _ h)).trans h
    have hwk:∀ (a:Addr) (u:Value),w.cell? a=some u->y.cell? a=some u:=fun a u h=>hk a u ((HB.out.2.cell (World.block_lt_of_cell? _ _ h)).trans h)
    obtain ⟨k0,_⟩:=cells_2 HW.out.2.2.2.1
    have hY0:∀ (a:Addr) (u:Value),a.block≠sb->a.block<Y.heap.size->Y.cell? a=some u->y.cell? a=some u:=fun a u hne hl h=>hk a u ((HB.out.1.cell hl hne).trans h)
    have h1:=HSZ.out
    refine ⟨⟨hk _ _ q0,hk _ _ q1,hk _ _ q2,hk _ _ q3⟩,hY0 _ _ (by show w.heap.size≠sb;omega) (by show w.heap.size<_;omega) ((HY.out.2.2.1.cell (World.block_lt_of_cell? _ _ k0)).trans k0),?_,hwk _ _ hmk⟩
    have hvi:vw[i2]? = some e':=by rw [hi2];exact h2
    exact hY0 _ _ (by show vb≠sb;have:=H2.out.2.1;omega) (by show vb<_;have:=H2.out.2.1;omega) ((HY.out.2.2.2.1.cell (p:=⟨vb,vo+i2,none⟩) H2.out.2.1).trans (H2.out.2.2 i2 e' hvi))))
   have hw2:IntKind.i64.wrap ((i2:Int)+2)=((i2+2:Nat):Int):=by rw [wrap_low _ (by omega) (by omega)];omega
   clear q0 q1 q2 q3 hr hx hxe hd hs1 hs2 hpl' h1 h2 h3 h4 h5 h6 h7 hmb hmk hve hpl hfit hi2 hM hek hjv hvk
   go_upto_region 6 with (fail)
   refine wp_region_noPanic ?_
   refine wp_region_S (fun w'=>Below wr.heap.size wr w') (fun i=>i=15) (by kernel_rfl) ?_
   have hSd:(fun w'=>Below wr.heap.size wr w') wr.drew:=Below.drew (Below.refl _ _)
   refine wpAnyS_take 0 (v:=?_) (by kernel_rfl) (by kernel_rfl) (by kernel_rfl) (by kernel_rfl) (fun _ _ _ _ h=>h) hSd ?_ ?_
   rotate_left
   ·(intro oi ho;simp at ho;subst ho;refine Or.inl ⟨by rfl,fun w' hw'=>?_⟩;obtain ⟨e0,e1,e2,e3⟩:=(KEY.out w' hw').1;go_simp;try with_reducible rfl)
   (intro d hd;simp at hd;subst hd;simp only [Act.put,List.setIfInBounds_toArray,List.set_cons_zero,List.set_cons_succ])
   refine wpAnyS_take 1 (v:=?_) (by kernel_rfl) (by kernel_rfl) (by kernel_rfl) (by kernel_rfl) (fun _ _ _ _ h=>h) hSd ?_ ?_
   rotate_left
   ·(intro oi ho;simp at ho;subst ho;refine Or.inl ⟨by rfl,fun w' hw'=>?_⟩;go_simp;try with_reducible rfl)
   (intro d hd;simp at hd;subst hd;simp only [Act.put,List.setIfInBounds_toArray,List.set_cons_zero,List.set_cons_succ])
   refine wpAnyS_take 2 (v:=?_) (by kernel_rfl) (by kernel_rfl) (by kernel_rfl) (by kernel_rfl) (fun _ _ _ _ h=>h) hSd ?_ ?_
   rotate_left
   ·(intro oi ho;simp at ho;subst ho;refine Or.inl ⟨by rfl,fun w' hw'=>?_⟩;go_simp;try with_reducible rfl)
   (intro d hd;simp at hd;subst hd;simp only [Act.put,List.setIfInBounds_toArray,List.set_cons_zero,List.set_cons_succ])
   refine wpAnyS_take 3 (v:=?_) (by kernel_rfl) (by kernel_rfl) (by kernel_rfl) (by kernel_rfl) (fun _ _ _ _ h=>h) hSd ?_ ?_
   rotate_left
   ·(intro oi ho;simp at ho;subst ho;refine Or.inl ⟨by rfl,fun w' hw'=>?_⟩;have e0:=(KEY.out w' hw').2.1;go_simp;try with_reducible rfl)
   (intro d hd;simp at hd;subst hd;simp only [Act.put,List.setIfInBounds_toArray,List.set_cons_zero,List.set_cons_succ])
   refine wpAnyS_take 4 (v:=?_) (by kernel_rfl) (by kernel_rfl) (by kernel_rfl) (by kernel_rfl) (fun _ _ _ _ h=>h) hSd ?_ ?_
   rotate_left
   ·(intro oi ho;simp at ho;subst ho;refine Or.inl ⟨by rfl,fun w' hw'=>?_⟩;go_simp;try with_reducible rfl)
   (intro d hd;simp at hd;subst hd;simp only [Act.put,List.setIfInBounds_toArray,List.set_cons_zero,List.set_cons_succ])
   refine wpAnyS_take 5 (v:=?_) (by kernel_rfl) (by kernel_rfl) (by kernel_rfl) (by kernel_rfl) (fun _ _ _ _ h=>h) hSd ?_ ?_
   rotate_left
   ·(intro oi ho;simp at ho;subst ho;refine Or.inl ⟨by rfl,fun w' hw'=>?_⟩;go_simp;try with_reducible rfl)
   (intro d hd;simp at hd;subst hd;simp only [Act.put,List.setIfInBounds_toArray,List.set_cons_zero,List.set_cons_succ])
   refine wpAnyS_take 6 (v:=?_) (by kernel_rfl) (by kernel_rfl) (by kernel_rfl) (by kernel_rfl) (fun _ _ _ _ h=>h) hSd ?_ ?_
   rotate_left
   ·(intro oi ho;simp at ho;subst ho;refine Or.inl ⟨by rfl,fun w' hw'=>?_⟩;go_simp;try with_reducible rfl)
   (intro d hd;simp at hd;subst hd;simp only [Act.put,List.setIfInBounds_toArray,List.set_cons_zero,List.set_cons_succ])
   refine wpAnyS_take 7 (v:=?_) (by kernel_rfl) (by kernel_rfl) (by kernel_rfl) (by kernel_rfl) (fun _ _ _ _ h=>h) hSd ?_ ?_
   rotate_left
   ·(intro oi ho;simp at ho;subst ho;refine Or.inl ⟨by rfl,fun w' hw'=>?_⟩;have e0:=(KEY.out w' hw').2.2.1;go_simp;try with_reducible rfl)
   (intro d hd;simp at hd;subst hd;simp only [Act.put,List.setIfInBounds_toArray,List.set_cons_zero,List.set_cons_succ])
   refine wpAnyS_take 8 (v:=?_) (by kernel_rfl) (by kernel_rfl) (by kernel_rfl) (by kernel_rfl) (fun _ _ _ _ h=>h) hSd ?_ ?_
   rotate_left
   ·(intro oi ho;simp at ho;subst ho;refine Or.inl ⟨by rfl,fun w' hw'=>?_⟩;go_simp;try with_reducible rfl)
   (intro d hd;simp at hd;subst hd;simp only [Act.put,List.setIfInBounds_toArray,List.set_cons_zero,List.set_cons_succ])
   refine wpAnyS_take 9 (v:=?_) (by kernel_rfl) (by kernel_rfl) (by kernel_rfl) (by kernel_rfl) (fun _ _ _ _ h=>h) hSd ?_ ?_
   rotate_left
   ·(intro oi ho;simp at ho;subst ho;refine Or.inl ⟨by rfl,fun w' hw'=>?_⟩;have e0:=(KEY.out w' hw').2.2.2;go_simp;try with_reducible rfl)
   (intro d hd;simp at hd;subst hd;simp only [Act.put,List.setIfInBounds_toArray,List.set_cons_zero,List.set_cons_succ])
   refine wpAnyS_take 10 (v:=?_) (by kernel_rfl) (by kernel_rfl) (by kernel_rfl) (by kernel_rfl) (fun _ _ _ _ h=>h) hSd ?_ ?_
   rotate_left
   ·(intro oi ho;simp at ho;subst ho;refine Or.inl ⟨by rfl,fun w' hw'=>?_⟩;go_simp;try with_reducible rfl)
   (intro d hd;simp at hd;subst hd;simp only [Act.put,List.setIfInBounds_toArray,List.set_cons_zero,List.set_cons_succ])
   refine wpAnyS_take 11 (v:=?_) (by kernel_rfl) (by kernel_rfl) (by kernel_rfl) (by kernel_rfl) (fun _ _ _ _ h=>h) hSd ?_ ?_
   rotate_left
   ·(intro oi ho;simp at ho;subst ho;refine Or.inl ⟨by rfl,fun w' hw'=>?_⟩;go_simp;try with_reducible rfl)
   (intro d hd;simp at hd;subst hd;simp only [Act.put,List.setIfInBounds_toArray,List.set_cons_zero,List.set_cons_succ])
   refine wpAnyS_take 12 (v:=?_) (by kernel_rfl) (by kernel_rfl) (by kernel_rfl) (by kernel_rfl) (fun _ _ _ _ h=>h) hSd ?_ ?_
   rotate_left
   ·(intro oi ho;simp at ho;subst ho;refine Or.inl ⟨by rfl,fun w' hw'=>?_⟩;go_simp;try with_reducible rfl)
   (intro d hd;simp at hd;subst hd;simp only [Act.put,List.setIfInBounds_toArray,List.set_cons_zero,List.set_cons_succ])
   refine wpAnyS_take 13 (v:=?_) (by kernel_rfl) (by kernel_rfl) (by kernel_rfl) (by kernel_rfl) (fun _ _ _ _ h=>h) hSd ?_ ?_
   rotate_left
   ·(intro oi ho;simp at ho;subst ho;refine Or.inl ⟨by rfl,fun w' hw'=>?_⟩;have e0:=(KEY.out w' hw').2.2.1;go_simp;try with_reducible rfl)
   (intro d hd;simp at hd;subst hd;simp only [Act.put,List.setIfInBounds_toArray,List.set_cons_zero,List.set_cons_succ])
   refine wpAnyS_one 14 (by kernel_rfl) ?_
   (intro o14 ho K' hK;simp at ho;subst ho)
   go_simp
   go_at_call 160
   (with_reducible refine (CB.out _ hSd).mono ?_)
   rintro en x14 ⟨b2,l2,c2,rfl,hb14,hr14⟩
   have hB14:Below wr.heap.size wr x14:=zzT hSd hb14
   have xx:=(hB14.block _ (lt_of_heap HST2.out.2.1)).trans HST2.out.2.1
   refine hK.out _ _ ?_ ?_
   ·exact fun _=>hB14
   clear hK K'
   (try simp only [Act.put,List.setIfInBounds_toArray,List.set_cons_zero,List.set_cons_succ])
   have hS14:=hB14
   refine wpAnyS_one 15 (by kernel_rfl) ?_
   (intro o15 ho K' hK;simp at ho;subst ho)
   have f0:=frozen_4 xx 0;have f1:=frozen_4 xx 1;have f2:=frozen_4 xx 2;have f3:=frozen_4 xx 3
   obtain ⟨e0,e1,e2,e3⟩:=cells_4 xx
   go_simp
   refine hK.out _ _ ?_ ?_
   ·intro h;simp at h
   clear hK K'
   (try simp only [Act.put,List.setIfInBounds_toArray,List.set_cons_zero,List.set_cons_succ])
   refine wpAnyS_done (by kernel_rfl) (NoPanic.normal ?_) _
   obtain ⟨W10,hW10⟩:=zzN (((((x14.setCell ⟨sb,0,none⟩ (.pointer (some ⟨b2,0,none⟩))).setCell ⟨sb,1,none⟩ (.slice l2 s'.2.1.length c2)).setCell ⟨sb,2,none⟩ (.int .i64 (s'.2.2.1:Nat))).setCell ⟨sb,3,none⟩ (str s'.2.2.2)))
   rw [hW10]
   have hbx10:W10.heap[sb]? = some (.cells #[.pointer (some ⟨b2,0,none⟩),.slice l2 s'.2.1.length c2,.int .i64 (s'.2.2.1:Nat),str s'.2.2.2] 150 (0,0)):=by rw [<- hW10];exact set_four xx _ _ _ _
   have hoth:∀ g,g≠sb->W10.heap[g]? = x14.heap[g]?:=fun g hg=>by
    rw [<- hW10,Below.heap_setCell _ _ _ _ (by show g≠sb;exact hg),Below.heap_setCell _ _ _ _ (by show g≠sb;exact hg),Below.heap_setCell _ _ _ _ (by show g≠sb;exact hg),Below.heap_setCell _ _ _ _ (by show g≠sb;exact hg)]
   have hB10:But (fun g=>g=sb) Y W10:=by
    rw [<- hW10]
    exact ((((HB.out.1.trans (But.ofBelow hB14)).setCell (p:=⟨sb,0,none⟩) (.inl rfl) _).setCell (p:=⟨sb,1,none⟩) (.inl rfl) _).setCell (p:=⟨sb,2,none⟩) (.inl rfl) _).setCell (p:=⟨sb,3,none⟩) (.inl rfl) _
   have H10:=Lib.hid (And.intro hbx10 (And.intro hB10 (hr14.keep (F':=fun g=>g≠sb/\g≠w.heap.size+1) (w':=W10) fun i o hi ho=>⟨hi,by rw [hoth i hi.1];exact ho⟩)))
   clear hbx10 hoth hB10 hr14 hW10 xx hB14 hb14 hS14 hSd KEY CB
   go_wp2_with fail
   go_roundw
   case rel=>exact ⟨_,j+1,e',s',hand',_,_,rfl,by rw [<- HN.out.2.2.2];rfl,HN.out.2.2.1,HN.out.1,HN.out.2.1,H10.out.1,H10.out.2.2,H10.out.2.1⟩
   case measure=>simp [intOf];omega
  ·have hltI:¬ (i2:Int)<(vw.length:Int):=by omega
   have hodd:=VC.out.odd
   have hlast:=VC.out.last
   have h1:=HSZ.out
   rw [show vw.length-1=2*j from by omega,hve] at hlast
   obtain rfl:=Option.some.inj hlast
   obtain rfl:s=s0:=Option.some.inj (hpl.symm.trans FO.out.2)
   have b1:wr.heap[w.heap.size+1]? = some (.cells #[.pointer none,.slice none 0 0,.int .i64 0,str []] 150 (0,0)):=by
    rw [HB.out.1.block _ (by omega) (by omega),HY.out.2.2.1.block _ (by omega)];exact HW.out.2.2.2.2
   have f0:=frozen_4 b1 0;have f1:=frozen_4 b1 1;have f2:=frozen_4 b1 2;have f3:=frozen_4 b1 3
   obtain ⟨z0',z1',z2',z3'⟩:=cells_4 b1
   have HS:=Lib.hid (And.intro b1 h1)
   clear hve hpl hfit hek hvk hlast hodd b1 h1 hjv
   go_wp2_with fail
   have hV:=set_four HS.out.1 (.pointer (some ⟨xa,0,none⟩)) (.slice lsa s.2.1.length lsc) (.int .i64 (s.2.2.1:Nat)) (str s.2.2.2)
   obtain ⟨s0',s1',s2',s3'⟩:=cells_4 hV
   have hoth:∀ g,g≠w.heap.size+1->((((wr.setCell ⟨w.heap.size+1,0,none⟩ (.pointer (some ⟨xa,0,none⟩))).setCell ⟨w.heap.size+1,1,none⟩ (.slice lsa s.2.1.length lsc)).setCell ⟨w.heap.size+1,2,none⟩ (.int .i64 (s.2.2.1:Nat))).setCell ⟨w.heap.size+1,3,none⟩ (str s.2.2.2)).heap[g]? = wr.heap[g]?:=fun g hg=>by
    rw [Below.heap_setCell _ _ _ _ (by show g≠w.heap.size+1;exact hg),Below.heap_setCell _ _ _ _ (by show g≠w.heap.size+1;exact hg),Below.heap_setCell _ _ _ _ (by show g≠w.heap.size+1;exact hg),Below.heap_setCell _ _ _ _ (by show g≠w.heap.size+1;exact hg)]
   have hbF:=(((HB.out.2.setCell (p:=⟨w.heap.size+1,0,none⟩) (Nat.le_succ _) (.pointer (some ⟨xa,0,none⟩))).setCell (p:=⟨w.heap.size+1,1,none⟩) (Nat.le_succ _) (.slice lsa s.2.1.length lsc)).setCell (p:=⟨w.heap.size+1,2,none⟩) (Nat.le_succ _) (.int .i64 (s.2.2.1:Nat))).setCell (p:=⟨w.heap.size+1,3,none⟩) (Nat.le_succ _) (str s.2.2.2)
   refine bodyPost_ret (v:=.agg #[(.pointer (some ⟨xa,0,none⟩)),(.slice lsa s.2.1.length lsc),.int .i64 (s.2.2.1:Nat),str s.2.2.2]) (by simp [results,Tryz.results108,go_sem,s0',s1',s2',s3']) rfl ?_
   exact ⟨_,_,rfl,hbF,HST2.out.1.keep fun i o hi ho=>⟨trivial,by rw [hoth i hi.2];exact ho⟩⟩
set_option maxRecDepth 100000 in
theorem tells_u (F:Nat->Prop) (bv lsl:Value) (bg:Place) (w:World) (hb:Rep F w (encB (.leaf 117)) bv) :
 Calls Tryz.prog 109 #[.agg #[bv,lsl,.int .i64 (bg.1:Nat),str bg.2]] w fun en w'=>en=.returned (.tuple #[str [],.int .i64 (-1)])/\Below w.heap.size w w':=by
 have C:=Lib.hid (fun wz (h:Below w.heap.size w wz)=>isList_leaf F wz 117 bv (hb.below h (fun _ h=>h)))
 obtain ⟨b,sl,rfl,_,hc,_⟩:=leaf_open hb
 obtain ⟨W,hW,hbW,hz,bx⟩:=box_1 w (.cells #[.pointer (some ⟨b,0,none⟩),lsl,.int .i64 (bg.1:Nat),str bg.2] 150)
 have CW:=Lib.hid (C.out W hbW)
 obtain ⟨e0,e1,e2,e3⟩:=cells_4 bx
 have c1:W.cell? ⟨b,0,none⟩=some (.string ⟨#[117]⟩):=(hbW.cell (by exact lt_of_heap hc)).trans (by simp [World.cell?,hc])
 have HW:=Lib.hid (And.intro hW hbW)
 clear hW hbW hz bx hc hb C e1
 go_enter Tryz.func109,Tryz.ntmps109
 go_upto_region 1 with (fail)
 rw [HW.out.1]
 go_wp2_with fail
 (with_reducible refine CW.out.mono ?_)
 rintro en w1 ⟨rfl,ew⟩
 subst ew
 go_wp2_with fail
 go_ret2
 exact ⟨rfl,HW.out.2⟩
def tellV (s:St):Bs×Int:=(told s).getD ([],-1)
theorem tells_any {t:Ty} {hand:List Ty} {s:St} {n:Nat} (F:Nat->Prop) (bv lsl:Value) (w:World) (hs:StFit t hand s n) (h15:atomsT t<=15) (hn:n<=100) (hr:StRep F w s bv lsl) :
 Calls Tryz.prog 109 #[.agg #[bv,lsl,.int .i64 (s.2.2.1:Nat),str s.2.2.2]] w fun en w'=>en=.returned (.tuple #[str (tellV s).1,.int .i64 (tellV s).2])/\Below w.heap.size w w':=by
 obtain ⟨ta,hta⟩:=hs.bgt
 have hbl:=atT_len _ _ _ hta
 have hll:=hs.ll
 obtain ⟨b,lv,bg⟩:=s
 cases b with
 | leaf c =>
   by_cases hc:c=117
   ·subst hc;exact tells_u F bv lsl bg w hr.1
   ·refine (tells_leaf F c bv lsl bg w hr.1 hc (by have:bg.2.length<=100:=by { show ((Bd.leaf c,lv,bg):St).2.2.2.length<=100;omega };omega)).mono ?_
    rintro en w' ⟨rfl,hb⟩
    refine ⟨?_,hb⟩
    unfold tellV told
    simp only [if_neg hc,Option.getD_some]
 | ask l ss y nn =>
   have hf:=hs.fit
   rw [show ((Bd.ask l ss y nn,lv,bg):St).1=.ask l ss y nn from rfl,fitB] at hf
   obtain ⟨a,h1,_⟩:=hf
   obtain ⟨pl,hl,hat,_⟩:=hs.pf.each l a h1
   have hl':lv[l]? = some pl:=hl
   have hpl:=atT_len _ _ _ hat
   have hll':lv.length<=8*n:=hll
   refine (tells_ask F l ss y nn bv lsl lv bg pl w hr.1 hr.2 hl' (by omega) (by omega)).mono ?_
   rintro en w' ⟨rfl,hb⟩
   refine ⟨?_,hb⟩
   unfold tellV told
   simp only [hl',Option.map_some,Option.getD_some]
theorem tellV_eq {s:St} {c:UInt8} {p:Bs} {z:Int}:told s=some (c::p,z)↔((tellV s).1=c::p/\(tellV s).2=z):=by
 unfold tellV
 cases h:told s with
 | none=>simp
 | some x=>obtain ⟨m,y⟩:=x;simp
set_option maxRecDepth 100000 in
theorem follows_any (F:Nat->Prop) (t:Ty) (b:Bd) (v:Pl) (kv bv mv pt:Value) (w:World) (hg:Glob w) (hk:Rep F w (encK t) kv) (hb:Rep F w (encB b) bv) (hm:PlIn F t v mv pt w)
 (h15:atomsT t<=15) (hf:fitB t.args b) (hw:wfB b) :
 Calls Tryz.prog 58 #[kv,bv,.agg #[mv,pt]] w fun en w'=>en=.returned (.bool (decide (followsTo t b v v.length)))/\Below w.heap.size w w':=by
 have h60:=valid_len hm.ok
 obtain ⟨ba,rfl⟩:=encB_ptr hb
 obtain ⟨kb,ks,rfl,_⟩:=encK_open hk
 obtain ⟨ma,mc,rfl,hmc⟩:=hm.m.cells
 obtain ⟨pa,pc,rfl,hpc⟩:=hm.p.cells
 obtain ⟨W,hW,hbW,hz,b0⟩:=box_1 w (.cells #[.slice ma v.length mc,.slice pa v.length pc] 33)
 obtain ⟨c0,c1,_,_⟩:=cells_2 b0
 have PF:=Lib.hid (fun e (he:e<v.length) (he2:e % 2=0)=>place_fits h15 hf hw hm.ok e he he2)
 have SIN:=Lib.hid (fun (y:World) (hy:Below W.heap.size W y) (k n:Nat) (hnk:n=k+1) (s0:St) (hkv:k<v.length) (hke:k % 2=0) (hfo:followsTo t b v k) (hs0:placeAt t b v (k+1)=some s0) =>
  standIn_any F t b v k n hnk s0 _ _ _ _ y ((hg.below hbW).below hy) ((hk.below hbW fun _ h=>h).below hy fun _ h=>h) ((hb.below hbW fun _ h=>h).below hy fun _ h=>h) ((hm.below hbW).below hy) h15 hf hw hkv hke hfo hs0)
 have HH:=Lib.hid (And.intro hmc (And.intro hpc (And.intro hbW (And.intro hm.ok h15))))
 have HW:=Lib.hid hW
 clear hm hmc hpc hz b0 hbW hW hg hk hb h15 hf hw
 go_enter Tryz.func58,Tryz.ntmps58
 go_upto_region 1 with (fail)
 rw [HW.out]
 go_wp2_with fail
 go_loopw [7] (fun i wr=>∃ (wz:World) (k n:Nat),wz=wr/\n=k+1/\k % 2=0/\k<=v.length+1/\i=.int .i64 (n:Nat)/\followsTo t b v n/\Below W.heap.size W wz) (fun i _=>v.length+5-(intOf i).toNat)
 case atStart=>exact ⟨_,0,1,rfl,rfl,rfl,by omega,rfl,fun i hi h=>by omega,Below.refl _ _⟩
 case round =>
  obtain ⟨wr,k,n,rfl,hnk,hke,hkl,rfl,hfo,hB⟩:=hrel
  have d0:=(hB.cell (World.block_lt_of_cell? _ _ c0)).trans c0
  have d1:=(hB.cell (World.block_lt_of_cell? _ _ c1)).trans c1
  clear c0 c1
  have HB:=Lib.hid (And.intro hB (zzT HH.out.2.2.1 hB))
  clear hB
  by_cases hlt:n<v.length
  ·have hltI:(n:Int)<(v.length:Int):=by omega
   obtain ⟨x,p,z,hvk,hok⟩:=valid_at HH.out.2.2.2.1 hlt
   obtain ⟨mb,mo,rfl,_,hmb,hmk⟩:=HH.out.1 n _ hvk
   obtain ⟨pb,po,rfl,_,hpb,hpk⟩:=HH.out.2.1 n _ hvk
   obtain ⟨s,hand,hs0,hfit⟩:=PF.out k (by omega) hke (fun i hi h=>hfo i (by omega) h)
   have CS:=Lib.hid (SIN.out wr HB.out.1 k n hnk s (by omega) hke (fun i hi h=>hfo i (by omega) h) hs0)
   have hrep:replyAt t b v n=told s:=by unfold replyAt;rw [hnk,hs0];rfl
   have HQ:Hid ((tellV s).1=x::p/\(tellV s).2=z↔replyAt t b v n=v[n]?):=Lib.hid (by rw [hrep,hvk];exact tellV_eq.symm)
   have CT:=Lib.hid (fun (y:World) (xv lv:Value) (hr:StRep (fun _=>True) y s xv lv)=>tells_any (fun _=>True) xv lv y hfit HH.out.2.2.2.2 (by omega) hr)
   have KEY:=Lib.hid (fun (y:World) (hy:Below wr.heap.size wr y)=>(show y.cell? ⟨w.heap.size,0,none⟩=some (.slice (some ⟨mb,mo,none⟩) v.length mc)/\y.cell? ⟨w.heap.size,1,none⟩=some (.slice (some ⟨pb,po,none⟩) v.length pc)/\y.cell? ⟨mb,mo+n,none⟩=some (str (x::p))/\y.cell? ⟨pb,po+n,none⟩=some (.int .i64 z) from by
    have hk:∀ (a:Addr) (u:Value),wr.cell? a=some u->y.cell? a=some u:=fun a u h=>(hy.cell (World.block_lt_of_cell? _ _ h)).trans h
    exact ⟨hk _ _ d0,hk _ _ d1,hk _ _ ((HB.out.2.cell (p:=⟨mb,mo+n,none⟩) hmb).trans hmk),hk _ _ ((HB.out.2.cell (p:=⟨pb,po+n,none⟩) hpb).trans hpk)⟩))
   have HF:=Lib.hid (And.intro hfo (And.intro hnk (And.intro hke (And.intro hkl hlt))))
   obtain ⟨M,hM⟩:=zzM (x::p)
   obtain ⟨tm,htm⟩:=zzN ((tellV s).1)
   obtain ⟨tz,htz⟩:=zzN ((tellV s).2)
   rw [<- hM] at KEY HQ
   rw [htm,htz] at HQ CT
   clear hvk hok hmb hmk hpb hpk hs0 hfit hrep hfo hnk hke hkl hM htm htz SIN PF
   go_wp2_with fail
   (with_reducible refine CS.out.mono ?_)
   rintro en w1 ⟨xv,lv,rfl,hb1,hr1⟩
   have CT1:=Lib.hid (CT.out w1 xv lv hr1)
   clear CS CT hr1
   go_wp2_with fail
   (with_reducible refine CT1.out.mono ?_)
   rintro en w2 ⟨rfl,hb2⟩
   have hb12:=zzT hb1 hb2
   obtain ⟨e0,e1,m0,p0⟩:=KEY.out w2 hb12
   have HB2:=Lib.hid (And.intro (zzT HB.out.1 hb12) (zzT HB.out.2 hb12))
   have hw2:IntKind.i64.wrap ((n:Int)+2)=((n+2:Nat):Int):=by rw [wrap_low _ (by omega) (by omega)];omega
   clear hb1 hb2 hb12 d0 d1 KEY CT1
   by_cases hm:tm=M
   ·have hmm:(tm == M)=true:=by simp [hm]
    have hmm2:(tm != M)=false:=by simp [hm]
    by_cases hz:tz=z
    ·have hzz:(tz != z)=false:=by simp [hz]
     have E:=Lib.hid (show followsTo t b v (n+2) from fun i hi h=>by
      have h1:=HF.out.2.1;have h2:=HF.out.2.2.1
      rcases Nat.lt_or_ge i n with h3 | h3
      ·exact HF.out.1 i h3 h
      ·obtain rfl:i=n:=by omega
       exact HQ.out.1 ⟨hm,hz⟩)
     have HE:=Lib.hid (show n+2=(n+1)+1/\(n+1) % 2=0/\n+1<=v.length+1 by
      have h1:=HF.out.2.1;have h2:=HF.out.2.2.1;have h3:=HF.out.2.2.2.2;omega)
     clear hm hz
     go_wp2_with fail
     go_roundw
     case rel=>exact ⟨_,n+1,n+2,rfl,rfl,HE.out.2.1,HE.out.2.2,rfl,E.out,HB2.out.1⟩
     case measure=>simp [intOf];omega
    ·have hzz:(tz != z)=true:=by simp [hz]
     have E:=Lib.hid (show decide (followsTo t b v v.length)=false by
      rw [decide_eq_false_iff_not]
      intro h
      have h1:=HF.out.2.1;have h2:=HF.out.2.2.1
      exact hz (HQ.out.2 (h n HF.out.2.2.2.2 (by omega))).2)
     clear hm hz
     go_wp2_with fail
     go_ret
     exact ⟨by rw [E.out];rfl,HB2.out.2⟩
   ·have hmm:(tm == M)=false:=by simp [hm]
    have hmm2:(tm != M)=true:=by simp [hm]
    have E:=Lib.hid (show decide (followsTo t b v v.length)=false by
     rw [decide_eq_false_iff_not]
     intro h
     have h1:=HF.out.2.1;have h2:=HF.out.2.2.1
     exact hm (HQ.out.2 (h n HF.out.2.2.2.2 (by omega))).1)
    clear hm
    go_wp2_with fail
    go_ret
    exact ⟨by rw [E.out];rfl,HB2.out.2⟩
  ·have hltI:¬ (n:Int)<(v.length:Int):=by omega
   have E:=Lib.hid (show decide (followsTo t b v v.length)=true from decide_eq_true fun i hi h=>hfo i (by omega) h)
   clear hfo hnk
   go_wp2_with fail
   go_ret
   exact ⟨by rw [E.out];rfl,HB.out.2⟩
theorem legalOk_ok {s:Bs} {ms:List Bs} {ps:List Int} (h:legalOk s ms ps=true):playOk s ms ps=true:=by
 unfold legalOk at h;rw [Bool.and_eq_true] at h;exact h.1
theorem AtD_openU {F:Nat->Prop} {w:World} {l:Nat} {ss:List Bd} {y n:Bd} {begun args:List Nat} {opens:Nat} {vs:List Value} (h:Reps F w (AtD (.ask l ss y n) begun args opens) vs) :
 ∃ a2 c2 a3 c3 ba bc aa ac,vs=[str [],.int .i64 (l:Nat),.slice a2 ss.length c2,.slice a3 2 c3,.slice ba begun.length bc,.slice aa args.length ac,.int .i64 (opens:Nat)] /\
   Rep F w (.sl 81 4 ss.length (encNs ss)) (.slice a2 ss.length c2)/\Rep F w (.sl 81 4 2 (encNs [y,n])) (.slice a3 2 c3)/\Rep F w (numD begun) (.slice ba begun.length bc)/\Rep F w (numD args) (.slice aa args.length ac):=by
 obtain ⟨a2,c2,a3,c3,ba,bc,aa,ac,e,h1,h5,h6⟩:=AtD_open h
 obtain ⟨v,a2',c2',a3',c3',e',h2,h3⟩:=encN_open h1
 simp only [List.cons.injEq,and_true,Value.slice.injEq] at e'
 obtain ⟨_,_,⟨rfl,_,rfl⟩,⟨rfl,_,rfl⟩⟩:=e'
 exact ⟨a2,c2,a3,c3,ba,bc,aa,ac,e,h2,h3,h5,h6⟩
theorem l1At_ago (F:Nat->Prop) (t a:Ty) (p:Bs) (tv:Value) (w x:World) (h:Rep F w (encS t) tv) (ht:atomsT t<=15) (hp:Lim p.length) (hat:atT t p=some a) (hx:Below w.heap.size w x) :
 Calls Tryz.prog 174 #[.agg #[tv],str p] x fun en w'=>∃ ka kc,en=.returned (.tuple #[.agg #[.slice ka a.args.length kc],.bool true])/\Below x.heap.size x w'/\Rep F w (encS a) (.slice ka a.args.length kc):=by
 have h1:Rep (fun b=>F b/\b<w.heap.size) x (encS t) tv:=(Rep.keep fun b o hf ho=>⟨⟨hf,lt_of_heap ho⟩,by rw [hx.block _ (lt_of_heap ho)];exact ho⟩).1 _ _ h
 refine (l1At_any _ t p tv x h1 ht hp).mono ?_
 rintro en w' ⟨va,vn,vc,rfl,hb,hv⟩
 have h2:=hv a hat
 obtain ⟨ka,kc,e⟩:=encS_slice h2
 simp only [Value.slice.injEq] at e
 obtain ⟨rfl,rfl,rfl⟩:=e
 refine ⟨va,vc,by rw [hat];rfl,hb,(Rep.keep fun b o hf ho=>⟨hf.1,by rw [<- hx.block _ hf.2];exact ho⟩).1 _ _ h2⟩
theorem numD_ne {F:Nat->Prop} {w:World} {ns:List Nat} {x:Value} (h:Rep F w (numD ns) x) {g:Nat} {c:Array Value} {T:TypeId} {fr:Nat×Nat} (hb:w.heap[g]? = some (.cells c T fr)) (hT:3≠T):Rep (fun i=>F i/\i≠g) w (numD ns) x:=by
 unfold numD at *
 rw [Rep_sl] at *
 obtain ⟨hl,a,cap,hv,hn,hz,h⟩:=h
 refine ⟨hl,a,cap,hv,hn,hz,?_⟩
 rcases h with h | ⟨b,o,cs,fr',ha,hF,hc,hr⟩
 ·exact .inl h
 ·refine .inr ⟨b,o,cs,fr',ha,⟨hF,?_⟩,hc,?_⟩
  ·rintro rfl
   rw [hc] at hb;simp at hb;exact hT hb.2.1
  ·rw [show (ns.map fun n=>DV.val (.int .i64 (n:Nat)))=(ns.map fun n=>Value.int .i64 (n:Nat)).map DV.val from by simp [Function.comp_def]] at *
   exact (Reps_vals _ _).2 ((Reps_vals _ _).1 hr)
structure NumQ (B:Nat) (xs ys:List Nat) (u v:Value) (w:World):Prop where
 l:Rep (B<=·) w (numD xs) u
 r:Rep (B<=·) w (numD ys) v
theorem NumQ.below {B:Nat} {xs ys:List Nat} {u v:Value} {w w':World} (h:NumQ B xs ys u v w) (hb:Below w.heap.size w w'):NumQ B xs ys u v w':=⟨h.l.below hb (fun _ h=>h),h.r.below hb (fun _ h=>h)⟩
theorem NumQ.notBox {B:Nat} {xs ys:List Nat} {u v:Value} {w:World} (h:NumQ B xs ys u v w) {g:Nat} {c:Array Value} {T:TypeId} {fr:Nat×Nat} (hb:w.heap[g]? = some (.cells c T fr)) (h1:3≠T) (_:3≠T) :
 Rep (fun i=>B<=i/\i≠g) w (numD xs) u/\Rep (fun i=>B<=i/\i≠g) w (numD ys) v:=⟨numD_ne h.l hb h1,numD_ne h.r hb h1⟩
theorem NumQ.but {B:Nat} {xs ys:List Nat} {u v:Value} {w w':World} {g:Nat} (_:NumQ B xs ys u v w) (hb:But (fun i=>i=g) w w') (hn:Rep (fun i=>B<=i/\i≠g) w (numD xs) u/\Rep (fun i=>B<=i/\i≠g) w (numD ys) v):NumQ B xs ys u v w' :=
 ⟨(Rep.keep fun i o hi ho=>⟨hi.1,by rw [hb.block i (lt_of_heap ho) hi.2];exact ho⟩).1 _ _ hn.1,(Rep.keep fun i o hi ho=>⟨hi.1,by rw [hb.block i (lt_of_heap ho) hi.2];exact ho⟩).1 _ _ hn.2⟩
theorem int_place:3≠177:=by decide
theorem AtD_mk {F:Nat->Prop} {w:World} {b:Bd} {begun args:List Nat} {opens:Nat} {y0 y1 y2 y3 u v:Value} (h1:Reps F w (encN b) [y0,y1,y2,y3]) (h2:Rep F w (numD begun) u) (h3:Rep F w (numD args) v):Reps F w (AtD b begun args opens) [y0,y1,y2,y3,u,v,.int .i64 (opens:Nat)]:=by
 show Reps F w (encN b++[numD begun,numD args,.val (.int .i64 (opens:Nat))]) ([y0,y1,y2,y3]++[u,v,.int .i64 (opens:Nat)])
 exact Reps.append h1 (Reps_cons.2 ⟨_,_,rfl,h2,Reps_cons.2 ⟨_,_,rfl,h3,Reps_cons.2 ⟨_,_,rfl,Rep_val.2 rfl,Reps_nil.2 rfl⟩⟩⟩)
def WalkQ (s:St) (v:Pl) (w:World) (en:Ending) (w':World):Prop :=
 ∃ x0 x1 x2 x3 x4 x5 x6,en=.returned (.tuple #[.agg #[x0,x1,x2,x3,x4,x5,x6],.bool true])/\Below w.heap.size w w'/\SpAt (fun _=>True) w' s.1 s.2.1 s.2.2 v [x0,x1,x2,x3,x4,x5,x6]
set_option maxRecDepth 100000 in
theorem l3Walk_any (F:Nat->Prop) (t:Ty) (b:Bd) (v:Pl) (k:Nat) (s0:St) (tv mv pt:Value) (nv:List Value) (w:World) (hk:Rep F w (encS t) tv) (hb:Reps F w (encN b) nv) (hm:PlIn F t v mv pt w)
 (h15:atomsT t<=15) (hf:fitB t.args b) (hw:wfB b) (hvk:v.length=k+1) (hke:k % 2=0) (hfo:followsTo t b v k) (hs0:placeAt t b v (k+1)=some s0) :
 Calls Tryz.prog 133 #[.agg #[tv],.agg nv.toArray,.agg #[mv,pt]] w (WalkQ s0 v w):=by
 have h60:=valid_len hm.ok
 have VC:=Lib.hid (view_chain hm.ok k (by omega) hke)
 have FO:=Lib.hid (And.intro hfo hs0)
 have FIT:=Lib.hid (startW_fit (b:=b) h15 hf hw)
 have hn1:0<v.length:=by omega
 obtain ⟨vi,a2,c2,a3,c3,rfl,_,_⟩:=encN_open hb
 obtain ⟨ta,tc,rfl⟩:=encS_slice hk
 obtain ⟨ma,mc,rfl,hmc⟩:=hm.m.cells
 obtain ⟨pa,pc,rfl,hpc⟩:=hm.p.cells
 generalize hq0:atomOf b=q0 at *
 generalize hq2:(kidsOf b).length=q2 at *
 generalize hq3:(yesOf b).length=q3 at *
 obtain ⟨W,hW,hbW,hz,b0,b1,b2,b3⟩:=boxes_4 w (.cells #[.slice ta t.args.length tc] 78) (.cells #[str q0,.int .i64 vi,.slice a2 q2 c2,.slice a3 q3 c3] 81) (.cells #[.slice ma v.length mc,.slice pa v.length pc] 33) (.cells #[str [],.int .i64 0,.slice none 0 0,.slice none 0 0,.slice none 0 0,.slice none 0 0,.int .i64 0] 177)
 obtain ⟨c0,c1,_,_⟩:=cells_2 b2
 have CV:=l2View_any F t v false v.length _ _ W (hm.below hbW).m (hm.below hbW).p hm.ok hn1 (Nat.le_refl _) hm.l
 rw [show ((whoI false:Nat):Int)=1 from rfl] at CV
 have CV:=Lib.hid CV
 have HI:=Lib.hid (And.intro hk (And.intro hb (And.intro hmc (And.intro h15 (And.intro hm.ok hm)))))
 have HW:=Lib.hid (And.intro hW (And.intro hbW (And.intro hz (And.intro b0 (And.intro b1 (And.intro b2 b3))))))
 have HK:=Lib.hid hvk
 clear hW hbW hz b0 b1 b2 b3 hk hb hm h15 hmc hpc hf hw hfo hs0 hvk
 go_enter Tryz.func133,Tryz.ntmps133
 go_upto_region 1 with (fail)
 rw [HW.out.1]
 go_wp2_with fail
 (with_reducible refine CV.out.mono ?_)
 rintro en w2 ⟨vv,rfl,hb2,hN2⟩
 rw [HK.out] at hN2
 generalize hvw:viewP v false (k+1)=vw at *
 obtain ⟨vb,vo,vc,rfl,hvl,hvc⟩:=hN2
 obtain ⟨z0,hz0⟩:∃ z0:Nat,z0=0:=⟨_,rfl⟩
 have h0:w2.cell? ⟨vb,vo,none⟩=some (.int .i64 (z0:Nat)):=by rw [hz0];exact hvc 0 0 VC.out.zero
 have HZ:=Lib.hid hz0
 have hvp:0<vw.length:=(List.getElem?_eq_some_iff.1 VC.out.zero).1
 have hvpI:(0:Int)<(vw.length:Int):=by omega
 have hwk2:Below w.heap.size w w2:=zzT HW.out.2.1 hb2
 have KEY2:Hid (∀ x,Below w2.heap.size w2 x->(x.cell? ⟨w.heap.size+1,0,none⟩=some (str q0)/\x.cell? ⟨w.heap.size+1,1,none⟩=some (.int .i64 vi)/\x.cell? ⟨w.heap.size+1,2,none⟩=some (.slice a2 q2 c2)/\x.cell? ⟨w.heap.size+1,3,none⟩=some (.slice a3 q3 c3))/\x.cell? ⟨w.heap.size,0,none⟩=some (.slice ta t.args.length tc)/\x.cell? ⟨vb,vo,none⟩=some (.int .i64 (z0:Nat))):=Lib.hid (fun x hx=>by
  have key:∀ {p:Addr} {u:Value},W.cell? p=some u->x.cell? p=some u:=fun h=>(hx.cell (Nat.lt_of_lt_of_le (World.block_lt_of_cell? _ _ h) hb2.size)).trans ((hb2.cell (World.block_lt_of_cell? _ _ h)).trans h)
  obtain ⟨i0,i1,i2,i3⟩:=cells_4 HW.out.2.2.2.2.1
  exact ⟨⟨key i0,key i1,key i2,key i3⟩,key (one_cell HW.out.2.2.2.1),(hx.cell (World.block_lt_of_cell? _ _ h0)).trans h0⟩)
 have num0:∀ (F:Nat->Prop) (x:World),Rep F x (numD []) (.slice none 0 0):=fun F x=>Rep_sl.2 ⟨rfl,none,0,rfl,Nat.le_refl _,fun _=>rfl,.inl rfl⟩
 have hargs:=args_len t
 have h15':=HI.out.2.2.2.1
 have CBG:Hid (∀ x,Below w2.heap.size w2 x->Calls Tryz.prog 173 #[.agg #[str [],.int .i64 0,.slice none 0 0,.slice none 0 0,.slice none 0 0,.slice none 0 0,.int .i64 0],.agg #[str q0,.int .i64 vi,.slice a2 q2 c2,.slice a3 q3 c3],.agg #[.slice ta t.args.length tc],.int .i64 (z0:Nat)] x fun en w'=>∃ ba bc aa ac,en=.returned (.agg #[str q0,.int .i64 vi,.slice a2 q2 c2,.slice a3 q3 c3,.slice ba t.args.length bc,.slice aa t.args.length ac,.int .i64 (z0:Nat)])/\Below x.heap.size x w'/\NumQ w2.heap.size (List.replicate t.args.length z0) (List.range t.args.length) (.slice ba t.args.length bc) (.slice aa t.args.length ac) w'):=Lib.hid (fun x hx=>by
  refine (l3Begin_any F [] [] [] 0 none 0 0 none 0 0 none 0 none 0 0 q0 vi a2 q2 c2 a3 q3 c3 t (.slice ta t.args.length tc) z0 x (num0 _ _) (num0 _ _) (((HI.out.1.below hwk2 fun _ h=>h)).below hx fun _ h=>h) (by omega) (by simp) (by simp)).mono ?_
  rintro en w' ⟨ba,bc,aa,ac,rfl,hb,h1,h2⟩
  simp only [List.length_nil,Nat.zero_add,List.nil_append] at h1 h2 ⊢
  have hz:=hx.size
  exact ⟨ba,bc,aa,ac,rfl,hb,⟨(Rep.keep fun i o hi ho=>⟨Nat.le_trans hz hi,ho⟩).1 _ _ h1,(Rep.keep fun i o hi ho=>⟨Nat.le_trans hz hi,ho⟩).1 _ _ h2⟩⟩)
 have H2:=Lib.hid (And.intro hb2 (And.intro hvl (And.intro hvc hwk2)))
 clear hz0 hb2 hvl hvc c0 c1 CV hvw hwk2 num0 h15' h0
 go_upto_region 2 with (fail)
 refine cut_code (X:=Option Addr×Nat×Option Addr×Nat×Nat) (fun zz x=>((((((((zz.put (some 21) (.agg #[str [],.int .i64 0,.slice none 0 0,.slice none 0 0,.slice none 0 0,.slice none 0 0,.int .i64 0])).put (some 22) (.agg #[str q0,.int .i64 vi,.slice a2 q2 c2,.slice a3 q3 c3])).put (some 23) (.agg #[.slice ta t.args.length tc])).put (some 24) (.slice (some ⟨vb,vo,none⟩) vw.length vc)).put (some 25) (.pointer (some ⟨vb,vo,none⟩))).put (some 26) (.int .i64 (z0:Nat))).put (some 27) (.agg #[str q0,.int .i64 vi,.slice a2 q2 c2,.slice a3 q3 c3,.slice x.1 t.args.length x.2.1,.slice x.2.2.1 t.args.length x.2.2.2.1,.int .i64 (z0:Nat)])).put (some 9) (.pointer (some ⟨x.2.2.2.2,0,none⟩)))) (fun x w7=>Below w2.heap.size w2 w7/\w7.heap[x.2.2.2.2]? = some (.cells #[str q0,.int .i64 vi,.slice a2 q2 c2,.slice a3 q3 c3,.slice x.1 t.args.length x.2.1,.slice x.2.2.1 t.args.length x.2.2.2.1,.int .i64 (z0:Nat)] 177 (0,0))/\w2.heap.size<=x.2.2.2.2/\NumQ w2.heap.size (List.replicate t.args.length z0) (List.range t.args.length) (.slice x.1 t.args.length x.2.1) (.slice x.2.2.1 t.args.length x.2.2.2.1) w7) ?_ ?_
 ·refine wp_region_noPanic ?_
  refine wp_region_S (fun w'=>Below w2.heap.size w2 w') (fun _=>false) (by kernel_rfl) ?_
  obtain ⟨y0,hy0⟩:=zzN (w2.drew)
  rw [hy0]
  have hBy0:Below w2.heap.size w2 y0:=by rw [<- hy0];exact Below.drew (Below.refl _ _)
  obtain ⟨tg0,htg0⟩:∃ x:Nat->Nat,x=fun _=>0:=⟨_,rfl⟩
  clear hy0 htg0
  refine wpAnyS_take 0 (v:=?_) (by kernel_rfl) (by kernel_rfl) (by kernel_rfl) (by kernel_rfl) (fun _ _ _ _ h=>h) hBy0 ?_ ?_
  rotate_left
  ·(intro oi ho;simp at ho;subst ho;refine Or.inl ⟨by rfl,fun w' hw'=>?_⟩;go_simp;try with_reducible rfl)
  (intro d hd;simp at hd;subst hd;simp only [Act.put,List.setIfInBounds_toArray,List.set_cons_zero,List.set_cons_succ])
  refine wpAnyS_take 1 (v:=?_) (by kernel_rfl) (by kernel_rfl) (by kernel_rfl) (by kernel_rfl) (fun _ _ _ _ h=>h) hBy0 ?_ ?_
  rotate_left
  ·(intro oi ho;simp at ho;subst ho;refine Or.inl ⟨by rfl,fun w' hw'=>?_⟩;obtain ⟨⟨e0,e1,e2,e3⟩,_⟩:=KEY2.out w' hw';go_simp;try with_reducible rfl)
  (intro d hd;simp at hd;subst hd;simp only [Act.put,List.setIfInBounds_toArray,List.set_cons_zero,List.set_cons_succ])
  refine wpAnyS_take 2 (v:=?_) (by kernel_rfl) (by kernel_rfl) (by kernel_rfl) (by kernel_rfl) (fun _ _ _ _ h=>h) hBy0 ?_ ?_
  rotate_left
  ·(intro oi ho;simp at ho;subst ho;refine Or.inl ⟨by rfl,fun w' hw'=>?_⟩;have e0:=(KEY2.out w' hw').2.1;go_simp;try with_reducible rfl)
  (intro d hd;simp at hd;subst hd;simp only [Act.put,List.setIfInBounds_toArray,List.set_cons_zero,List.set_cons_succ])
  refine wpAnyS_take 3 (v:=?_) (by kernel_rfl) (by kernel_rfl) (by kernel_rfl) (by kernel_rfl) (fun _ _ _ _ h=>h) hBy0 ?_ ?_
  rotate_left
  ·(intro oi ho;simp at ho;subst ho;refine Or.inl ⟨by rfl,fun w' hw'=>?_⟩;go_simp;try with_reducible rfl)
  (intro d hd;simp at hd;subst hd;simp only [Act.put,List.setIfInBounds_toArray,List.set_cons_zero,List.set_cons_succ])
  refine wpAnyS_take 4 (v:=?_) (by kernel_rfl) (by kernel_rfl) (by kernel_rfl) (by kernel_rfl) (fun _ _ _ _ h=>h) hBy0 ?_ ?_
  rotate_left
  ·(intro oi ho;simp at ho;subst ho;refine Or.inl ⟨by rfl,fun w' hw'=>?_⟩;go_simp;try with_reducible rfl)
  (intro d hd;simp at hd;subst hd;simp only [Act.put,List.setIfInBounds_toArray,List.set_cons_zero,List.set_cons_succ])
  refine wpAnyS_take 5 (v:=?_) (by kernel_rfl) (by kernel_rfl) (by kernel_rfl) (by kernel_rfl) (fun _ _ _ _ h=>h) hBy0 ?_ ?_
  rotate_left
  ·(intro oi ho;simp at ho;subst ho;refine Or.inl ⟨by rfl,fun w' hw'=>?_⟩;have e0:=(KEY2.out w' hw').2.2;go_simp;try with_reducible rfl)
  (intro d hd;simp at hd;subst hd;simp only [Act.put,List.setIfInBounds_toArray,List.set_cons_zero,List.set_cons_succ])
  refine wpAnyS_two 6 7 (by kernel_rfl) ?_ ?_
  ·(intro o6 ho K' hK;simp at ho;subst ho)
   go_simp
   go_at_call 173
   (with_reducible refine (CBG.out _ hBy0).mono ?_)
   rintro en y1 ⟨ba,bc,aa,ac,rfl,hb,hnp⟩
   have CP:Hid (NumQ w2.heap.size (List.replicate t.args.length z0) (List.range t.args.length) (.slice ba t.args.length bc) (.slice aa t.args.length ac) y1):=hnp
   clear hnp
   have hBy1:Below w2.heap.size w2 y1:=zzT hBy0 hb
   have hby1:=Lib.hid hb;clear hb
   refine hK.out _ _ (fun _=>?_) ?_
   ·exact hBy1
   clear hK K'
   (try simp only [Act.put,List.setIfInBounds_toArray,List.set_cons_zero,List.set_cons_succ])
   refine wpAnyS_one 7 (by kernel_rfl) ?_
   (intro o7 ho K' hK;simp at ho;subst ho)
   go_simp
   refine hK.out _ _ (fun _=>?_) ?_
   ·exact hBy1.alloc hBy1.size _
   clear hK K'
   (try simp only [Act.put,List.setIfInBounds_toArray,List.set_cons_zero,List.set_cons_succ])
   obtain ⟨y2,hnew⟩:=zzN (y1.alloc (.cells #[str [],.int .i64 0,.slice none 0 0,.slice none 0 0,.slice none 0 0,.slice none 0 0,.int .i64 0] 177))
   obtain ⟨gA,hgA⟩:=zzN (y1.heap.size)
   rw [hnew,hgA]
   have hBy2:Below w2.heap.size w2 y2:=by rw [<- hnew];exact hBy1.alloc hBy1.size _
   obtain ⟨tg2,htg⟩:=zzN (retag tg0 gA 1)
   have CP:Hid (NumQ w2.heap.size (List.replicate t.args.length z0) (List.range t.args.length) (.slice ba t.args.length bc) (.slice aa t.args.length ac) y2):=by rw [<- hnew];exact CP.out.below ((Below.refl _ _).alloc (Nat.le_refl _) _)
   have EA:Hid (y2.heap[gA]? = some (.cells #[str [],.int .i64 0,.slice none 0 0,.slice none 0 0,.slice none 0 0,.slice none 0 0,.int .i64 0] 177 (0,0))/\tg2 gA=1/\w2.heap.size<=gA):=by rw [<- hnew,<- htg,<- hgA];exact ⟨heap_new _ _,by unfold retag;rw [if_pos rfl],hBy1.size⟩
   clear hnew hgA htg
   refine wpAnyS_one 8 (by kernel_rfl) ?_
   (intro o8 ho K' hK;simp at ho;subst ho)
   obtain ⟨uA0,cA0⟩:∃ u,y2.cell? ⟨gA,0,none⟩=some u:=⟨_,by simp [World.cell?,EA.out.1];rfl⟩
   have fA0:y2.frozen? ⟨gA,0,none⟩=false:=by simp [World.frozen?,EA.out.1]
   obtain ⟨uA1,cA1⟩:∃ u,y2.cell? ⟨gA,1,none⟩=some u:=⟨_,by simp [World.cell?,EA.out.1];rfl⟩
   have fA1:y2.frozen? ⟨gA,1,none⟩=false:=by simp [World.frozen?,EA.out.1]
   obtain ⟨uA2,cA2⟩:∃ u,y2.cell? ⟨gA,2,none⟩=some u:=⟨_,by simp [World.cell?,EA.out.1];rfl⟩
   have fA2:y2.frozen? ⟨gA,2,none⟩=false:=by simp [World.frozen?,EA.out.1]
   obtain ⟨uA3,cA3⟩:∃ u,y2.cell? ⟨gA,3,none⟩=some u:=⟨_,by simp [World.cell?,EA.out.1];rfl⟩
   have fA3:y2.frozen? ⟨gA,3,none⟩=false:=by simp [World.frozen?,EA.out.1]
   obtain ⟨uA4,cA4⟩:∃ u,y2.cell? ⟨gA,4,none⟩=some u:=⟨_,by simp [World.cell?,EA.out.1];rfl⟩
   have fA4:y2.frozen? ⟨gA,4,none⟩=false:=by simp [World.frozen?,EA.out.1]
   obtain ⟨uA5,cA5⟩:∃ u,y2.cell? ⟨gA,5,none⟩=some u:=⟨_,by simp [World.cell?,EA.out.1];rfl⟩
   have fA5:y2.frozen? ⟨gA,5,none⟩=false:=by simp [World.frozen?,EA.out.1]
   obtain ⟨uA6,cA6⟩:∃ u,y2.cell? ⟨gA,6,none⟩=some u:=⟨_,by simp [World.cell?,EA.out.1];rfl⟩
   have fA6:y2.frozen? ⟨gA,6,none⟩=false:=by simp [World.frozen?,EA.out.1]
   go_simp
   refine hK.out _ _ (fun _=>?_) ?_
   ·exact (((((((hBy2.setCell (p:=⟨gA,0,none⟩) EA.out.2.2 _).setCell (p:=⟨gA,1,none⟩) EA.out.2.2 _).setCell (p:=⟨gA,2,none⟩) EA.out.2.2 _).setCell (p:=⟨gA,3,none⟩) EA.out.2.2 _).setCell (p:=⟨gA,4,none⟩) EA.out.2.2 _).setCell (p:=⟨gA,5,none⟩) EA.out.2.2 _).setCell (p:=⟨gA,6,none⟩) EA.out.2.2 _)
   clear hK K'
   (try simp only [Act.put,List.setIfInBounds_toArray,List.set_cons_zero,List.set_cons_succ])
   obtain ⟨y3,hnew⟩:=zzN ((((((((y2.setCell ⟨gA,0,none⟩ (str q0)).setCell ⟨gA,1,none⟩ (.int .i64 vi)).setCell ⟨gA,2,none⟩ (.slice a2 q2 c2)).setCell ⟨gA,3,none⟩ (.slice a3 q3 c3)).setCell ⟨gA,4,none⟩ (.slice ba t.args.length bc)).setCell ⟨gA,5,none⟩ (.slice aa t.args.length ac)).setCell ⟨gA,6,none⟩ (.int .i64 (z0:Nat))))
   rw [hnew]
   have hBy3:Below w2.heap.size w2 y3:=by rw [<- hnew];exact (((((((hBy2.setCell (p:=⟨gA,0,none⟩) EA.out.2.2 _).setCell (p:=⟨gA,1,none⟩) EA.out.2.2 _).setCell (p:=⟨gA,2,none⟩) EA.out.2.2 _).setCell (p:=⟨gA,3,none⟩) EA.out.2.2 _).setCell (p:=⟨gA,4,none⟩) EA.out.2.2 _).setCell (p:=⟨gA,5,none⟩) EA.out.2.2 _).setCell (p:=⟨gA,6,none⟩) EA.out.2.2 _)
   have hbt:But (fun i=>i=gA) y2 y3:=by rw [<- hnew];exact ((((((((But.refl (fun i=>i=gA) y2).setCell (p:=⟨gA,0,none⟩) (.inl rfl) _).setCell (p:=⟨gA,1,none⟩) (.inl rfl) _).setCell (p:=⟨gA,2,none⟩) (.inl rfl) _).setCell (p:=⟨gA,3,none⟩) (.inl rfl) _).setCell (p:=⟨gA,4,none⟩) (.inl rfl) _).setCell (p:=⟨gA,5,none⟩) (.inl rfl) _).setCell (p:=⟨gA,6,none⟩) (.inl rfl) _)
   have htg:∀ g,g=gA->tg2 g=1:=fun g e=>by rw [e];exact EA.out.2.1
   have CP:Hid (NumQ w2.heap.size (List.replicate t.args.length z0) (List.range t.args.length) (.slice ba t.args.length bc) (.slice aa t.args.length ac) y3):=CP.out.but hbt (CP.out.notBox EA.out.1 (by decide) (by decide))
   have EA:Hid (y3.heap[gA]? = some (.cells #[str q0,.int .i64 vi,.slice a2 q2 c2,.slice a3 q3 c3,.slice ba t.args.length bc,.slice aa t.args.length ac,.int .i64 (z0:Nat)] 177 (0,0))/\tg2 gA=1/\w2.heap.size<=gA):=⟨by rw [<- hnew];exact (setCell_at' (setCell_at' (setCell_at' (setCell_at' (setCell_at' (setCell_at' (setCell_at' EA.out.1))))))),EA.out.2⟩
   clear hnew hbt htg cA0 fA0 cA1 fA1 cA2 fA2 cA3 fA3 cA4 fA4 cA5 fA5 cA6 fA6
   refine wpAnyS_done (by kernel_rfl) (NoPanic.normal ?_) _
   exact ⟨rfl,⟨ba,bc,aa,ac,gA⟩,by rfl,hBy3,EA.out.1,EA.out.2.2,CP.out⟩
  ·(intro o7 ho K' hK;simp at ho;subst ho)
   go_simp
   refine hK.out _ _ (fun _=>?_) ?_
   ·exact hBy0.alloc hBy0.size _
   clear hK K'
   (try simp only [Act.put,List.setIfInBounds_toArray,List.set_cons_zero,List.set_cons_succ])
   obtain ⟨y4,hnew⟩:=zzN (y0.alloc (.cells #[str [],.int .i64 0,.slice none 0 0,.slice none 0 0,.slice none 0 0,.slice none 0 0,.int .i64 0] 177))
   obtain ⟨gA,hgA⟩:=zzN (y0.heap.size)
   rw [hnew,hgA]
   have hBy4:Below w2.heap.size w2 y4:=by rw [<- hnew];exact hBy0.alloc hBy0.size _
   obtain ⟨tg4,htg⟩:=zzN (retag tg0 gA 1)
   have EA:Hid (y4.heap[gA]? = some (.cells #[str [],.int .i64 0,.slice none 0 0,.slice none 0 0,.slice none 0 0,.slice none 0 0,.int .i64 0] 177 (0,0))/\tg4 gA=1/\w2.heap.size<=gA):=by rw [<- hnew,<- htg,<- hgA];exact ⟨heap_new _ _,by unfold retag;rw [if_pos rfl],hBy0.size⟩
   clear hnew hgA htg
   refine wpAnyS_one 6 (by kernel_rfl) ?_
   (intro o6 ho K' hK;simp at ho;subst ho)
   go_simp
   go_at_call 173
   (with_reducible refine (CBG.out _ hBy4).mono ?_)
   rintro en y5 ⟨ba,bc,aa,ac,rfl,hb,hnp⟩
   have CP:Hid (NumQ w2.heap.size (List.replicate t.args.length z0) (List.range t.args.length) (.slice ba t.args.length bc) (.slice aa t.args.length ac) y5):=hnp
   clear hnp
   have hBy5:Below w2.heap.size w2 y5:=zzT hBy4 hb
   have EA:Hid (y5.heap[gA]? = some (.cells #[str [],.int .i64 0,.slice none 0 0,.slice none 0 0,.slice none 0 0,.slice none 0 0,.int .i64 0] 177 (0,0))/\tg4 gA=1/\w2.heap.size<=gA):=⟨(hb.block _ (lt_of_heap EA.out.1)).trans EA.out.1,EA.out.2⟩
   have hby5:=Lib.hid hb;clear hb
   refine hK.out _ _ (fun _=>?_) ?_
   ·exact hBy5
   clear hK K'
   (try simp only [Act.put,List.setIfInBounds_toArray,List.set_cons_zero,List.set_cons_succ])
   refine wpAnyS_one 8 (by kernel_rfl) ?_
   (intro o8 ho K' hK;simp at ho;subst ho)
   obtain ⟨uA0,cA0⟩:∃ u,y5.cell? ⟨gA,0,none⟩=some u:=⟨_,by simp [World.cell?,EA.out.1];rfl⟩
   have fA0:y5.frozen? ⟨gA,0,none⟩=false:=by simp [World.frozen?,EA.out.1]
   obtain ⟨uA1,cA1⟩:∃ u,y5.cell? ⟨gA,1,none⟩=some u:=⟨_,by simp [World.cell?,EA.out.1];rfl⟩
   have fA1:y5.frozen? ⟨gA,1,none⟩=false:=by simp [World.frozen?,EA.out.1]
   obtain ⟨uA2,cA2⟩:∃ u,y5.cell? ⟨gA,2,none⟩=some u:=⟨_,by simp [World.cell?,EA.out.1];rfl⟩
   have fA2:y5.frozen? ⟨gA,2,none⟩=false:=by simp [World.frozen?,EA.out.1]
   obtain ⟨uA3,cA3⟩:∃ u,y5.cell? ⟨gA,3,none⟩=some u:=⟨_,by simp [World.cell?,EA.out.1];rfl⟩
   have fA3:y5.frozen? ⟨gA,3,none⟩=false:=by simp [World.frozen?,EA.out.1]
   obtain ⟨uA4,cA4⟩:∃ u,y5.cell? ⟨gA,4,none⟩=some u:=⟨_,by simp [World.cell?,EA.out.1];rfl⟩
   have fA4:y5.frozen? ⟨gA,4,none⟩=false:=by simp [World.frozen?,EA.out.1]
   obtain ⟨uA5,cA5⟩:∃ u,y5.cell? ⟨gA,5,none⟩=some u:=⟨_,by simp [World.cell?,EA.out.1];rfl⟩
   have fA5:y5.frozen? ⟨gA,5,none⟩=false:=by simp [World.frozen?,EA.out.1]
   obtain ⟨uA6,cA6⟩:∃ u,y5.cell? ⟨gA,6,none⟩=some u:=⟨_,by simp [World.cell?,EA.out.1];rfl⟩
   have fA6:y5.frozen? ⟨gA,6,none⟩=false:=by simp [World.frozen?,EA.out.1]
   go_simp
   refine hK.out _ _ (fun _=>?_) ?_
   ·exact (((((((hBy5.setCell (p:=⟨gA,0,none⟩) EA.out.2.2 _).setCell (p:=⟨gA,1,none⟩) EA.out.2.2 _).setCell (p:=⟨gA,2,none⟩) EA.out.2.2 _).setCell (p:=⟨gA,3,none⟩) EA.out.2.2 _).setCell (p:=⟨gA,4,none⟩) EA.out.2.2 _).setCell (p:=⟨gA,5,none⟩) EA.out.2.2 _).setCell (p:=⟨gA,6,none⟩) EA.out.2.2 _)
   clear hK K'
   (try simp only [Act.put,List.setIfInBounds_toArray,List.set_cons_zero,List.set_cons_succ])
   obtain ⟨y6,hnew⟩:=zzN ((((((((y5.setCell ⟨gA,0,none⟩ (str q0)).setCell ⟨gA,1,none⟩ (.int .i64 vi)).setCell ⟨gA,2,none⟩ (.slice a2 q2 c2)).setCell ⟨gA,3,none⟩ (.slice a3 q3 c3)).setCell ⟨gA,4,none⟩ (.slice ba t.args.length bc)).setCell ⟨gA,5,none⟩ (.slice aa t.args.length ac)).setCell ⟨gA,6,none⟩ (.int .i64 (z0:Nat))))
   rw [hnew]
   have hBy6:Below w2.heap.size w2 y6:=by rw [<- hnew];exact (((((((hBy5.setCell (p:=⟨gA,0,none⟩) EA.out.2.2 _).setCell (p:=⟨gA,1,none⟩) EA.out.2.2 _).setCell (p:=⟨gA,2,none⟩) EA.out.2.2 _).setCell (p:=⟨gA,3,none⟩) EA.out.2.2 _).setCell (p:=⟨gA,4,none⟩) EA.out.2.2 _).setCell (p:=⟨gA,5,none⟩) EA.out.2.2 _).setCell (p:=⟨gA,6,none⟩) EA.out.2.2 _)
   have hbt:But (fun i=>i=gA) y5 y6:=by rw [<- hnew];exact ((((((((But.refl (fun i=>i=gA) y5).setCell (p:=⟨gA,0,none⟩) (.inl rfl) _).setCell (p:=⟨gA,1,none⟩) (.inl rfl) _).setCell (p:=⟨gA,2,none⟩) (.inl rfl) _).setCell (p:=⟨gA,3,none⟩) (.inl rfl) _).setCell (p:=⟨gA,4,none⟩) (.inl rfl) _).setCell (p:=⟨gA,5,none⟩) (.inl rfl) _).setCell (p:=⟨gA,6,none⟩) (.inl rfl) _)
   have htg:∀ g,g=gA->tg4 g=1:=fun g e=>by rw [e];exact EA.out.2.1
   have CP:Hid (NumQ w2.heap.size (List.replicate t.args.length z0) (List.range t.args.length) (.slice ba t.args.length bc) (.slice aa t.args.length ac) y6):=CP.out.but hbt (CP.out.notBox EA.out.1 (by decide) (by decide))
   have EA:Hid (y6.heap[gA]? = some (.cells #[str q0,.int .i64 vi,.slice a2 q2 c2,.slice a3 q3 c3,.slice ba t.args.length bc,.slice aa t.args.length ac,.int .i64 (z0:Nat)] 177 (0,0))/\tg4 gA=1/\w2.heap.size<=gA):=⟨by rw [<- hnew];exact (setCell_at' (setCell_at' (setCell_at' (setCell_at' (setCell_at' (setCell_at' (setCell_at' EA.out.1))))))),EA.out.2⟩
   clear hnew hbt htg cA0 fA0 cA1 fA1 cA2 fA2 cA3 fA3 cA4 fA4 cA5 fA5 cA6 fA6
   refine wpAnyS_done (by kernel_rfl) (NoPanic.normal ?_) _
   exact ⟨rfl,⟨ba,bc,aa,ac,gA⟩,by rfl,hBy6,EA.out.1,EA.out.2.2,CP.out⟩
 rintro ⟨ba,bc,aa,ac,gA⟩ Y ⟨hY,hYA,hgA,hNQ⟩
 dsimp only at hYA hgA hNQ
 simp only [pQ,pN,pZ,pS]
 clear KEY2 CBG
 have hzW:=HW.out.2.2.1
 have hsz2:=H2.out.1.size
 have HSZ:=Lib.hid (And.intro hzW (And.intro hsz2 hgA))
 have hwY:Below w.heap.size w Y:=zzT H2.out.2.2.2 hY
 have hWY:Below W.heap.size W Y:=zzT H2.out.1 hY
 have hv0:v[0]? = some ([113],-1):=by
  obtain ⟨c,p,z,hv,ho⟩:=valid_at HI.out.2.2.2.2.1 hn1
  obtain ⟨rfl,rfl,rfl⟩:=ho.zero rfl
  exact hv
 have HST:Hid (SpAt (fun g=>g≠gA/\g≠w.heap.size+3) Y (startW t b).1 (startW t b).2.1 (startW t b).2.2 v [str q0,.int .i64 vi,.slice a2 q2 c2,.slice a3 q3 c3,.slice ba t.args.length bc,.slice aa t.args.length ac,.int .i64 (z0:Nat)]):=Lib.hid (by
  have h0:SpecPl [] (0,[]) v [] [] 0:=⟨rfl,rfl,fun i pl h=>by simp at h,rfl,113,-1,hv0⟩
  have h1:=h0.kid t.args.length 0 [] (by have:=HI.out.2.2.2.1;omega) hv0
  simp only [List.nil_append] at h1
  have hz0:=HZ.out
  subst hz0
  refine ⟨_,_,_,h1,AtD_mk (b:=b) ?_ ?_ ?_⟩
  ·exact (Rep.keep fun i o _ ho=>⟨by have:=lt_of_heap ho;omega,by rw [hwY.block _ (lt_of_heap ho)];exact ho⟩).2 _ _ HI.out.2.1
  ·exact (Rep.keep fun i o hi ho=>⟨⟨hi.2,by have:=hi.1;omega⟩,ho⟩).1 _ _ (numD_ne hNQ.l hYA int_place)
  ·exact (Rep.keep fun i o hi ho=>⟨⟨hi.2,by have:=hi.1;omega⟩,ho⟩).1 _ _ (numD_ne hNQ.r hYA int_place))
 have HY:=Lib.hid (And.intro hwY (And.intro hWY (And.intro hY hYA)))
 clear hwY hWY hY hYA hNQ hzW hsz2 hv0 hgA
 go_wp2_with fail
 go_loopw [10] (fun i wr=>∃ (wz:World) (j e:Nat) (s:St) (hand:List Ty) (x0 x1 x2 x3 x4 x5 x6:Value),wz=wr/\i=.int .i64 ((2*j+2:Nat):Int)/\vw[2*j]? = some e/\placeAt t b v (e+1)=some s/\StFit t hand s (e+1)/\wz.heap[gA]? = some (.cells #[x0,x1,x2,x3,x4,x5,x6] 177 (0,0))/\SpAt (fun g=>g≠gA/\g≠w.heap.size+3) wz s.1 s.2.1 s.2.2 v [x0,x1,x2,x3,x4,x5,x6]/\But (fun g=>g=gA) Y wz) (fun i _=>vw.length+2-(intOf i).toNat)
 case atStart =>
  exact ⟨_,0,0,startW t b,t.args,_,_,_,_,_,_,_,rfl,rfl,VC.out.zero,placeAt_first t b v,FIT.out,HY.out.2.2.2,HST.out,But.refl _ _⟩
 case round =>
  obtain ⟨wr,j,e,s,hand,x0,x1,x2,x3,x4,x5,x6,rfl,rfl,hve,hpl,hfit,hbox,hst,hB⟩:=hrel
  obtain ⟨lenE,hjv⟩:e<=k/\2*j<vw.length:=⟨VC.out.all _ _ hve,(List.getElem?_eq_some_iff.1 hve).1⟩
  have hvlen:=VC.out.len
  have hvl1:=HK.out
  have hAY:gA<Y.heap.size:=lt_of_heap HY.out.2.2.2
  obtain ⟨i2,hi2⟩:=zzM (2*j+2)
  rw [<- hi2]
  have hwr:Below w.heap.size w wr:=HY.out.1.trans (hB.toBelow (by have:=HY.out.1.size;omega) fun i hi e1=>by have h1:=HSZ.out;omega)
  have HB:=Lib.hid (And.intro hB hwr)
  have HST2:=Lib.hid (And.intro hst (And.intro hbox (And.intro hfit hpl)))
  have hWr:∀ i o,W.heap[i]? = some o->i≠gA->wr.heap[i]? = some o:=fun i o h hne=>by
   have hl:=lt_of_heap h
   rw [HB.out.1.block i (by have:=HY.out.2.1.size;omega) hne,HY.out.2.1.block i hl];exact h
  have g0:w.heap.size≠gA:=by have:=HSZ.out;omega
  have g2:w.heap.size+1+1≠gA:=by have:=HSZ.out;omega
  have g3:w.heap.size+3≠gA:=by have:=HSZ.out;omega
  have R0:=hWr _ _ HW.out.2.2.2.1 g0
  have R2:=hWr _ _ HW.out.2.2.2.2.2.1 g2
  have R3:=hWr _ _ HW.out.2.2.2.2.2.2 g3
  have HR:=Lib.hid (And.intro R0 (And.intro R2 R3))
  clear hB hwr hst hbox hWr g0 g2 g3 R0 R2 R3
  by_cases hlt:i2<vw.length
  ·have hltI:(i2:Int)<(vw.length:Int):=by omega
   obtain ⟨e1,e',c,p,h1,h2,h3,h4,h5,h6,h7⟩:=VC.out.step j (by omega)
   obtain rfl:e1=e:=Option.some.inj (h1.symm.trans hve)
   have hr:=FO.out.1 (e1+1) (by have:=h6.lt;omega) h6.odd
   obtain ⟨x,hx,hxe⟩:=h6.en
   unfold replyAt at hr
   rw [hpl,Option.bind_some,hx] at hr
   obtain ⟨l,ss,y,nn,a,pl,hd⟩:=step_data HI.out.2.2.2.1 hfit h7 h4 hxe hr
   obtain ⟨s',hand',hs1,hs2⟩:=hd.next (k:=e') hfit (by have:=h6.lt;omega) (by omega) HI.out.2.2.2.1
   have hpl':placeAt t b v (e'+1)=some s':=by rw [placeAt_step HI.out.2.2.2.2.1 b (by omega) h4 h6,hpl,Option.bind_some,hs1]
   have he'v:(e':Int)<(v.length:Int):=by omega
   obtain ⟨mb,mo,rfl,_,hmb,hmk⟩:=HI.out.2.2.1 e' _ h6.at'
   have hvi:vw[i2]? = some e':=by rw [hi2];exact h2
   obtain ⟨begun,args,opens,hsp,hat⟩:=HST2.out.1
   obtain ⟨b',lv,bg⟩:=s
   have hb0:b'=.ask l ss y nn:=hd.body
   subst hb0
   obtain ⟨n2,d2,n3,d3,na,da,nb,db,ex,hkids,hyes,hbeg,harg⟩:=AtD_openU hat
   simp only [List.cons.injEq,and_true] at ex
   obtain ⟨rfl,rfl,rfl,rfl,rfl,rfl,rfl⟩:=ex
   have HN:=Lib.hid (And.intro hpl' (And.intro hs2 (And.intro (show vw[2*(j+1)]? = some e' from h2) (show i2+2=2*(j+1)+2 by omega))))
   have HD:=Lib.hid (And.intro hd (And.intro hs1 (And.intro h6 (And.intro h7 hvi))))
   have HT:=Lib.hid (And.intro hsp (And.intro hkids (And.intro hyes (And.intro hbeg harg))))
   have hlen:=hd.len
   have hal:=atT_len _ _ _ hd.hat
   have hargs2:=args_len a
   have hll:=hfit.ll
   have hll':lv.length<=8*(e1+1):=hll
   have HLN:=Lib.hid (And.intro hlen (And.intro hal (And.intro hargs2 hll')))
   obtain ⟨M,hM⟩:=zzM (c::p)
   rw [<- hM] at hmk
   have KEY:=Lib.hid (fun (y:World) (hy:Below wr.heap.size wr y)=>(show (y.cell? ⟨gA,0,none⟩=some (str [])/\y.cell? ⟨gA,1,none⟩=some (.int .i64 (l:Nat))/\y.cell? ⟨gA,2,none⟩=some (.slice n2 ss.length d2)/\y.cell? ⟨gA,3,none⟩=some (.slice n3 2 d3)/\y.cell? ⟨gA,4,none⟩=some (.slice na begun.length da)/\y.cell? ⟨gA,5,none⟩=some (.slice nb args.length db)/\y.cell? ⟨gA,6,none⟩=some (.int .i64 (opens:Nat)))/\y.cell? ⟨w.heap.size+2,0,none⟩=some (.slice (some ⟨mb,mo,none⟩) v.length mc)/\y.cell? ⟨vb,vo+i2,none⟩=some (.int .i64 (e':Nat))/\y.cell? ⟨mb,mo+e',none⟩=some (str M)/\y.cell? ⟨w.heap.size,0,none⟩=some (.slice ta t.args.length tc) from by
    have hk:∀ (a:Addr) (u:Value),wr.cell? a=some u->y.cell? a=some u:=fun a u h=>(hy.cell (World.block_lt_of_cell? _ _ h)).trans h
    have hwk:∀ (a:Addr) (u:Value),w.cell? a=some u->y.cell? a=some u:=fun a u h=>hk a u ((HB.out.2.cell (World.block_lt_of_cell? _ _ h)).trans h)
    obtain ⟨q0,q1,q2,q3,q4,q5,q6⟩:=cells_7 HST2.out.2.1
    obtain ⟨k0,_⟩:=cells_2 HR.out.2.1
    refine ⟨⟨hk _ _ q0,hk _ _ q1,hk _ _ q2,hk _ _ q3,hk _ _ q4,hk _ _ q5,hk _ _ q6⟩,hk _ _ k0,?_,hwk _ _ hmk,hk _ _ (one_cell HR.out.1)⟩
    have hl2:=H2.out.2.1
    refine hk _ _ ((HB.out.1.cell (p:=⟨vb,vo+i2,none⟩) (by show vb<_;have:=HY.out.2.2.1.size;omega) (by show vb≠gA;have:=HSZ.out;omega)).trans ?_)
    exact (HY.out.2.2.1.cell (p:=⟨vb,vo+i2,none⟩) hl2).trans (H2.out.2.2.1 i2 e' hvi)))
   have hw2:IntKind.i64.wrap ((i2:Int)+2)=((i2+2:Nat):Int):=by rw [wrap_low _ (by omega) (by omega)];omega
   have hM0:0<M.length:=by rw [hM];simp
   have hM0I:(0:Int)<(M.length:Int):=by omega
   have B0:((((⟨M.toArray⟩:ByteArray)[0]'(lt_str hM0)).toNat:Int))=(c.toNat:Int):=by rw [byte_int hM0];subst hM;rfl
   obtain ⟨q0,_⟩:=(KEY.out wr (Below.refl _ _)).1
   have HM:=Lib.hid hM
   clear hr hx hxe hd hs1 hs2 hpl' h1 h2 h3 h4 h5 h6 h7 hmb hmk hve hpl hfit hi2 hM lenE hjv hvlen hvl1 hvi hsp hat hkids hyes hbeg harg hlen hal hargs2 hll hll' hAY
   go_upto_region 8 with (fail)
   refine wp_region_noPanic ?_
   refine wp_region_S (fun w'=>Below wr.heap.size wr w') (fun _=>false) (by kernel_rfl) ?_
   have hSd:(fun w'=>Below wr.heap.size wr w') wr.drew:=Below.drew (Below.refl _ _)
   refine wpAnyS_take 0 (v:=?_) (by kernel_rfl) (by kernel_rfl) (by kernel_rfl) (by kernel_rfl) (fun _ _ _ _ h=>h) hSd ?_ ?_
   rotate_left
   ·(intro oi ho;simp at ho;subst ho;refine Or.inl ⟨by rfl,fun w' hw'=>?_⟩;go_simp;try with_reducible rfl)
   (intro d hd;simp at hd;subst hd;simp only [Act.put,List.setIfInBounds_toArray,List.set_cons_zero,List.set_cons_succ])
   refine wpAnyS_take 1 (v:=?_) (by kernel_rfl) (by kernel_rfl) (by kernel_rfl) (by kernel_rfl) (fun _ _ _ _ h=>h) hSd ?_ ?_
   rotate_left
   ·(intro oi ho;simp at ho;subst ho;refine Or.inl ⟨by rfl,fun w' hw'=>?_⟩;have e0:=(KEY.out w' hw').2.1;go_simp;try with_reducible rfl)
   (intro d hd;simp at hd;subst hd;simp only [Act.put,List.setIfInBounds_toArray,List.set_cons_zero,List.set_cons_succ])
   refine wpAnyS_take 2 (v:=?_) (by kernel_rfl) (by kernel_rfl) (by kernel_rfl) (by kernel_rfl) (fun _ _ _ _ h=>h) hSd ?_ ?_
   rotate_left
   ·(intro oi ho;simp at ho;subst ho;refine Or.inl ⟨by rfl,fun w' hw'=>?_⟩;go_simp;try with_reducible rfl)
   (intro d hd;simp at hd;subst hd;simp only [Act.put,List.setIfInBounds_toArray,List.set_cons_zero,List.set_cons_succ])
   refine wpAnyS_take 3 (v:=?_) (by kernel_rfl) (by kernel_rfl) (by kernel_rfl) (by kernel_rfl) (fun _ _ _ _ h=>h) hSd ?_ ?_
   rotate_left
   ·(intro oi ho;simp at ho;subst ho;refine Or.inl ⟨by rfl,fun w' hw'=>?_⟩;go_simp;try with_reducible rfl)
   (intro d hd;simp at hd;subst hd;simp only [Act.put,List.setIfInBounds_toArray,List.set_cons_zero,List.set_cons_succ])
   refine wpAnyS_take 4 (v:=?_) (by kernel_rfl) (by kernel_rfl) (by kernel_rfl) (by kernel_rfl) (fun _ _ _ _ h=>h) hSd ?_ ?_
   rotate_left
   ·(intro oi ho;simp at ho;subst ho;refine Or.inl ⟨by rfl,fun w' hw'=>?_⟩;go_simp;try with_reducible rfl)
   (intro d hd;simp at hd;subst hd;simp only [Act.put,List.setIfInBounds_toArray,List.set_cons_zero,List.set_cons_succ])
   refine wpAnyS_take 5 (v:=?_) (by kernel_rfl) (by kernel_rfl) (by kernel_rfl) (by kernel_rfl) (fun _ _ _ _ h=>h) hSd ?_ ?_
   rotate_left
   ·(intro oi ho;simp at ho;subst ho;refine Or.inl ⟨by rfl,fun w' hw'=>?_⟩;have e0:=(KEY.out w' hw').2.2.1;go_simp;try with_reducible rfl)
   (intro d hd;simp at hd;subst hd;simp only [Act.put,List.setIfInBounds_toArray,List.set_cons_zero,List.set_cons_succ])
   refine wpAnyS_take 6 (v:=?_) (by kernel_rfl) (by kernel_rfl) (by kernel_rfl) (by kernel_rfl) (fun _ _ _ _ h=>h) hSd ?_ ?_
   rotate_left
   ·(intro oi ho;simp at ho;subst ho;refine Or.inl ⟨by rfl,fun w' hw'=>?_⟩;go_simp;try with_reducible rfl)
   (intro d hd;simp at hd;subst hd;simp only [Act.put,List.setIfInBounds_toArray,List.set_cons_zero,List.set_cons_succ])
   refine wpAnyS_take 7 (v:=?_) (by kernel_rfl) (by kernel_rfl) (by kernel_rfl) (by kernel_rfl) (fun _ _ _ _ h=>h) hSd ?_ ?_
   rotate_left
   ·(intro oi ho;simp at ho;subst ho;refine Or.inl ⟨by rfl,fun w' hw'=>?_⟩;have e0:=(KEY.out w' hw').2.2.2.1;go_simp;try with_reducible rfl)
   (intro d hd;simp at hd;subst hd;simp only [Act.put,List.setIfInBounds_toArray,List.set_cons_zero,List.set_cons_succ])
   refine wpAnyS_take 8 (v:=?_) (by kernel_rfl) (by kernel_rfl) (by kernel_rfl) (by kernel_rfl) (fun _ _ _ _ h=>h) hSd ?_ ?_
   rotate_left
   ·(intro oi ho;simp at ho;subst ho;refine Or.inl ⟨by rfl,fun w' hw'=>?_⟩;go_simp;try with_reducible rfl)
   (intro d hd;simp at hd;subst hd;simp only [Act.put,List.setIfInBounds_toArray,List.set_cons_zero,List.set_cons_succ])
   refine wpAnyS_done (by kernel_rfl) (NoPanic.normal ?_) _
   obtain ⟨W8,hW8⟩:=zzN (wr.drew)
   rw [hW8]
   have hb8:Below wr.heap.size wr W8:=by rw [<- hW8];exact Below.drew (Below.refl _ _)
   have H8:=Lib.hid (And.intro hb8 (And.intro ((hb8.block _ (lt_of_heap HST2.out.2.1)).trans HST2.out.2.1) (And.intro (HB.out.1.trans (But.ofBelow hb8)) (zzT HB.out.2 hb8))))
   have hk8:∀ (a:Addr) (u:Value),wr.cell? a=some u->W8.cell? a=some u:=fun a u h=>(H8.out.1.cell (World.block_lt_of_cell? _ _ h)).trans h
   clear hb8 hW8 hSd q0
   rcases HD.out.1.mv with ⟨hc,jj,aj,sb,hp,hj10,haj,hsb,hat,hld⟩ | ⟨hc,hp⟩
   ·subst hc
    have hs1:=HD.out.2.1
    unfold stepW at hs1
    simp only [if_true] at hs1
    rw [hld,hsb] at hs1
    have ea:argsAt t p=aj.args.length:=by unfold argsAt;rw [hat]
    rw [ea] at hs1
    obtain rfl:s'=(sb,lv++placesOf aj.args.length e' p,(e',p)):=(Option.some.inj hs1).symm
    have hjs:=(List.getElem?_eq_some_iff.1 hsb).1
    have hjsI:(jj:Int)<(ss.length:Int):=by omega
    obtain ⟨_,_,ex,hats⟩:=AtNs.of (bs:=ss) HT.out.2.1
    simp only [Value.slice.injEq] at ex
    obtain ⟨rfl,_,rfl⟩:=ex
    obtain ⟨kb,ko,s1,v1,ka2,kn2,kc2,ka3,kn3,kc3,sd,ex,hkbl,hsd,y0,y1,y2,y3,hyk⟩:=hats jj hjs
    subst ex
    obtain rfl:sb=sd:=Option.some.inj (hsb.symm.trans hsd)
    have eM:=HM.out
    obtain ⟨m1,hm1⟩:=zzM (p.length)
    have hMl:M.length=m1+1:=by rw [eM,hm1];rfl
    have hal1:=atT_len _ _ _ hat
    have hargs1:=args_len aj
    have hp60:p.length<=100:=by have:=HI.out.2.2.2.1;omega
    have hpm:IntKind.i64.wrap ((M.length:Int)-1)=(m1:Int):=by rw [hMl,show ((m1+1:Nat):Int)-1=(m1:Int) from by omega];exact wrap_nat _ (by omega)
    have hpi:m1<M.length:=by omega
    have hm1I:(m1:Int)<(M.length:Int):=by omega
    have hl1:M[m1]=digit jj:=by
     have h9:M[m1]? = some (digit jj):=by
      rw [eM,hm1]
      show (113::p)[p.length]? = _
      rw [hp,List.length_append];simp
     exact (List.getElem?_eq_some_iff.1 h9).2
    have B1:((((⟨M.toArray⟩:ByteArray)[m1]'(lt_str hpi)).toNat:Int))=48+(jj:Int):=by rw [byte_int hpi,hl1,digit_nat hj10];omega
    have hj8:IntKind.u8.wrap (48+(jj:Int)-48)=(jj:Int):=by simp [IntKind.wrap,IntKind.bits,IntKind.signed];omega
    have hqn:((((113:UInt8).toNat:Nat):Int) != 113)=false:=rfl
    have exx:(⟨M.toArray⟩:ByteArray).extract 1 M.length=⟨p.toArray⟩:=by rw [hMl,eM,hm1];exact ext_tail 113 p
    have h1M:(1:Int)<=(M.length:Int):=by omega
    have CAT:=Lib.hid (fun x (hx:Below wr.heap.size wr x)=>l1At_ago F t aj p (.slice ta t.args.length tc) w x HI.out.1 HI.out.2.2.2.1 (show _<=_ by omega) hat (zzT HB.out.2 hx))
    have HKID:=Lib.hid (And.intro (And.intro y0 (And.intro y1 (And.intro y2 y3))) hyk)
    have HARG:=Lib.hid (And.intro hargs1 (And.intro hal1 hat))
    have hkk8:=Lib.hid hk8
    clear hp haj hsb hat hld hs1 ea hats hkbl hsd y0 y1 y2 y3 hyk eM hm1 hl1 hargs1 hal1 hk8 hjs hMl
    go_upto_region 15 with (fail)
    have KEY8:=Lib.hid (fun (y:World) (hy:Below W8.heap.size W8 y)=>KEY.out y (zzT H8.out.1 hy))
    have CAT8:=Lib.hid (fun (y:World) (hy:Below W8.heap.size W8 y)=>CAT.out y (zzT H8.out.1 hy))
    clear CAT
    refine cut_code (X:=Option Addr×Nat×Nat) (fun zz x=>(((((((((zz.put (some 68) (.agg #[.slice ta t.args.length tc])).put (some 69) (str M)).put (some 70) (str p)).put (some 71) (.tuple #[.agg #[.slice x.1 aj.args.length x.2.1],.bool true])).put (some 67) (.tuple #[.agg #[.slice x.1 aj.args.length x.2.1],.bool true])).put (some 72) (.agg #[.slice x.1 aj.args.length x.2.1])).put (some 73) (.bool true)).put (some 14) (.pointer (some ⟨x.2.2,0,none⟩))).put (some 15) (.bool true))) (fun x w7=>Below W8.heap.size W8 w7/\w7.heap[x.2.2]? = some (.cells #[.slice x.1 aj.args.length x.2.1] 78 (0,0))/\W8.heap.size<=x.2.2/\Rep F w (encS aj) (.slice x.1 aj.args.length x.2.1)) ?_ ?_
    ·refine wp_region_noPanic ?_
     refine wp_region_S (fun w'=>Below W8.heap.size W8 w') (fun _=>false) (by kernel_rfl) ?_
     obtain ⟨z0,hz0⟩:=zzN (W8.drew)
     rw [hz0]
     have hBz0:Below W8.heap.size W8 z0:=by rw [<- hz0];exact Below.drew (Below.refl _ _)
     obtain ⟨tg0,htg0⟩:∃ x:Nat->Nat,x=fun _=>0:=⟨_,rfl⟩
     clear hz0 htg0
     refine wpAnyS_take 0 (v:=?_) (by kernel_rfl) (by kernel_rfl) (by kernel_rfl) (by kernel_rfl) (fun _ _ _ _ h=>h) hBz0 ?_ ?_
     rotate_left
     ·(intro oi ho;simp at ho;subst ho;refine Or.inl ⟨by rfl,fun w' hw'=>?_⟩;have e0:=(KEY8.out w' hw').2.2.2.2;go_simp;try with_reducible rfl)
     (intro d hd;simp at hd;subst hd;simp only [Act.put,List.setIfInBounds_toArray,List.set_cons_zero,List.set_cons_succ])
     refine wpAnyS_take 1 (v:=?_) (by kernel_rfl) (by kernel_rfl) (by kernel_rfl) (by kernel_rfl) (fun _ _ _ _ h=>h) hBz0 ?_ ?_
     rotate_left
     ·(intro oi ho;simp at ho;subst ho;refine Or.inl ⟨by rfl,fun w' hw'=>?_⟩;go_simp;try with_reducible rfl)
     (intro d hd;simp at hd;subst hd;simp only [Act.put,List.setIfInBounds_toArray,List.set_cons_zero,List.set_cons_succ])
     refine wpAnyS_take 2 (v:=?_) (by kernel_rfl) (by kernel_rfl) (by kernel_rfl) (by kernel_rfl) (fun _ _ _ _ h=>h) hBz0 ?_ ?_
     rotate_left
     ·(intro oi ho;simp at ho;subst ho;refine Or.inl ⟨by rfl,fun w' hw'=>?_⟩;go_simp;try with_reducible rfl)
     (intro d hd;simp at hd;subst hd;simp only [Act.put,List.setIfInBounds_toArray,List.set_cons_zero,List.set_cons_succ])
     refine wpAnyS_two 3 7 (by kernel_rfl) ?_ ?_
     ·(intro o3 ho K' hK;simp at ho;subst ho)
      go_simp
      go_at_call 174
      (with_reducible refine (CAT8.out _ hBz0).mono ?_)
      rintro en z1 ⟨ka,kc,rfl,hb,hkr⟩
      have HKR:=Lib.hid hkr
      clear hkr
      have hBz1:Below W8.heap.size W8 z1:=zzT hBz0 hb
      have hbz1:=Lib.hid hb;clear hb
      refine hK.out _ _ (fun _=>?_) ?_
      ·exact hBz1
      clear hK K'
      (try simp only [Act.put,List.setIfInBounds_toArray,List.set_cons_zero,List.set_cons_succ])
      refine wpAnyS_take 4 (v:=?_) (by kernel_rfl) (by kernel_rfl) (by kernel_rfl) (by kernel_rfl) (fun _ _ _ _ h=>h) hBz1 ?_ ?_
      rotate_left
      ·(intro oi ho;simp at ho;subst ho;refine Or.inl ⟨by rfl,fun w' hw'=>?_⟩;go_simp;try with_reducible rfl)
      (intro d hd;simp at hd;subst hd;simp only [Act.put,List.setIfInBounds_toArray,List.set_cons_zero,List.set_cons_succ])
      refine wpAnyS_take 5 (v:=?_) (by kernel_rfl) (by kernel_rfl) (by kernel_rfl) (by kernel_rfl) (fun _ _ _ _ h=>h) hBz1 ?_ ?_
      rotate_left
      ·(intro oi ho;simp at ho;subst ho;refine Or.inl ⟨by rfl,fun w' hw'=>?_⟩;go_simp;try with_reducible rfl)
      (intro d hd;simp at hd;subst hd;simp only [Act.put,List.setIfInBounds_toArray,List.set_cons_zero,List.set_cons_succ])
      refine wpAnyS_take 6 (v:=?_) (by kernel_rfl) (by kernel_rfl) (by kernel_rfl) (by kernel_rfl) (fun _ _ _ _ h=>h) hBz1 ?_ ?_
      rotate_left
      ·(intro oi ho;simp at ho;subst ho;refine Or.inl ⟨by rfl,fun w' hw'=>?_⟩;go_simp;try with_reducible rfl)
      (intro d hd;simp at hd;subst hd;simp only [Act.put,List.setIfInBounds_toArray,List.set_cons_zero,List.set_cons_succ])
      refine wpAnyS_one 7 (by kernel_rfl) ?_
      (intro o7 ho K' hK;simp at ho;subst ho)
      go_simp
      refine hK.out _ _ (fun _=>?_) ?_
      ·exact hBz1.alloc hBz1.size _
      clear hK K'
      (try simp only [Act.put,List.setIfInBounds_toArray,List.set_cons_zero,List.set_cons_succ])
      obtain ⟨z2,hnew⟩:=zzN (z1.alloc (.cells #[.slice none 0 0] 78))
      obtain ⟨gK,hgK⟩:=zzN (z1.heap.size)
      rw [hnew,hgK]
      have hBz2:Below W8.heap.size W8 z2:=by rw [<- hnew];exact hBz1.alloc hBz1.size _
      obtain ⟨tg2,htg⟩:=zzN (retag tg0 gK 4)
      have EK:Hid (z2.heap[gK]? = some (.cells #[.slice none 0 0] 78 (0,0))/\tg2 gK=4/\W8.heap.size<=gK):=by rw [<- hnew,<- htg,<- hgK];exact ⟨heap_new _ _,by unfold retag;rw [if_pos rfl],hBz1.size⟩
      clear hnew hgK htg
      refine wpAnyS_one 8 (by kernel_rfl) ?_
      (intro o8 ho K' hK;simp at ho;subst ho)
      obtain ⟨uK0,cK0⟩:∃ u,z2.cell? ⟨gK,0,none⟩=some u:=⟨_,by simp [World.cell?,EK.out.1];rfl⟩
      have fK0:z2.frozen? ⟨gK,0,none⟩=false:=by simp [World.frozen?,EK.out.1]
      go_simp
      refine hK.out _ _ (fun _=>?_) ?_
      ·exact (hBz2.setCell (p:=⟨gK,0,none⟩) EK.out.2.2 _)
      clear hK K'
      (try simp only [Act.put,List.setIfInBounds_toArray,List.set_cons_zero,List.set_cons_succ])
      obtain ⟨z3,hnew⟩:=zzN ((z2.setCell ⟨gK,0,none⟩ (.slice ka aj.args.length kc)))
      rw [hnew]
      have hBz3:Below W8.heap.size W8 z3:=by rw [<- hnew];exact (hBz2.setCell (p:=⟨gK,0,none⟩) EK.out.2.2 _)
      have hbt:But (fun i=>i=gK) z2 z3:=by rw [<- hnew];exact ((But.refl (fun i=>i=gK) z2).setCell (p:=⟨gK,0,none⟩) (.inl rfl) _)
      have htg:∀ g,g=gK->tg2 g=4:=fun g e=>by rw [e];exact EK.out.2.1
      have EK:Hid (z3.heap[gK]? = some (.cells #[.slice ka aj.args.length kc] 78 (0,0))/\tg2 gK=4/\W8.heap.size<=gK):=⟨by rw [<- hnew];exact (setCell_at' EK.out.1),EK.out.2⟩
      clear hnew hbt htg cK0 fK0
      refine wpAnyS_one 9 (by kernel_rfl) ?_
      (intro o9 ho K' hK;simp at ho;subst ho)
      go_simp
      refine hK.out _ _ (fun _=>?_) ?_
      ·exact hBz3
      clear hK K'
      (try simp only [Act.put,List.setIfInBounds_toArray,List.set_cons_zero,List.set_cons_succ])
      refine wpAnyS_done (by kernel_rfl) (NoPanic.normal ?_) _
      exact ⟨rfl,⟨ka,kc,gK⟩,by rfl,hBz3,EK.out.1,EK.out.2.2,HKR.out⟩
     ·(intro o7 ho K' hK;simp at ho;subst ho)
      go_simp
      refine hK.out _ _ (fun _=>?_) ?_
      ·exact hBz0.alloc hBz0.size _
      clear hK K'
      (try simp only [Act.put,List.setIfInBounds_toArray,List.set_cons_zero,List.set_cons_succ])
      obtain ⟨z5,hnew⟩:=zzN (z0.alloc (.cells #[.slice none 0 0] 78))
      obtain ⟨gK,hgK⟩:=zzN (z0.heap.size)
      rw [hnew,hgK]
      have hBz5:Below W8.heap.size W8 z5:=by rw [<- hnew];exact hBz0.alloc hBz0.size _
      obtain ⟨tg5,htg⟩:=zzN (retag tg0 gK 4)
      have EK:Hid (z5.heap[gK]? = some (.cells #[.slice none 0 0] 78 (0,0))/\tg5 gK=4/\W8.heap.size<=gK):=by rw [<- hnew,<- htg,<- hgK];exact ⟨heap_new _ _,by unfold retag;rw [if_pos rfl],hBz0.size⟩
      clear hnew hgK htg
      refine wpAnyS_one 3 (by kernel_rfl) ?_
      (intro o3 ho K' hK;simp at ho;subst ho)
      go_simp
      go_at_call 174
      (with_reducible refine (CAT8.out _ hBz5).mono ?_)
      rintro en z6 ⟨ka,kc,rfl,hb,hkr⟩
      have HKR:=Lib.hid hkr
      clear hkr
      have hBz6:Below W8.heap.size W8 z6:=zzT hBz5 hb
      have EK:Hid (z6.heap[gK]? = some (.cells #[.slice none 0 0] 78 (0,0))/\tg5 gK=4/\W8.heap.size<=gK):=⟨(hb.block _ (lt_of_heap EK.out.1)).trans EK.out.1,EK.out.2⟩
      have hbz6:=Lib.hid hb;clear hb
      refine hK.out _ _ (fun _=>?_) ?_
      ·exact hBz6
      clear hK K'
      (try simp only [Act.put,List.setIfInBounds_toArray,List.set_cons_zero,List.set_cons_succ])
      refine wpAnyS_take 4 (v:=?_) (by kernel_rfl) (by kernel_rfl) (by kernel_rfl) (by kernel_rfl) (fun _ _ _ _ h=>h) hBz6 ?_ ?_
      rotate_left
      ·(intro oi ho;simp at ho;subst ho;refine Or.inl ⟨by rfl,fun w' hw'=>?_⟩;go_simp;try with_reducible rfl)
      (intro d hd;simp at hd;subst hd;simp only [Act.put,List.setIfInBounds_toArray,List.set_cons_zero,List.set_cons_succ])
      refine wpAnyS_take 5 (v:=?_) (by kernel_rfl) (by kernel_rfl) (by kernel_rfl) (by kernel_rfl) (fun _ _ _ _ h=>h) hBz6 ?_ ?_
      rotate_left
      ·(intro oi ho;simp at ho;subst ho;refine Or.inl ⟨by rfl,fun w' hw'=>?_⟩;go_simp;try with_reducible rfl)
      (intro d hd;simp at hd;subst hd;simp only [Act.put,List.setIfInBounds_toArray,List.set_cons_zero,List.set_cons_succ])
      refine wpAnyS_take 6 (v:=?_) (by kernel_rfl) (by kernel_rfl) (by kernel_rfl) (by kernel_rfl) (fun _ _ _ _ h=>h) hBz6 ?_ ?_
      rotate_left
      ·(intro oi ho;simp at ho;subst ho;refine Or.inl ⟨by rfl,fun w' hw'=>?_⟩;go_simp;try with_reducible rfl)
      (intro d hd;simp at hd;subst hd;simp only [Act.put,List.setIfInBounds_toArray,List.set_cons_zero,List.set_cons_succ])
      refine wpAnyS_one 8 (by kernel_rfl) ?_
      (intro o8 ho K' hK;simp at ho;subst ho)
      obtain ⟨uK0,cK0⟩:∃ u,z6.cell? ⟨gK,0,none⟩=some u:=⟨_,by simp [World.cell?,EK.out.1];rfl⟩
      have fK0:z6.frozen? ⟨gK,0,none⟩=false:=by simp [World.frozen?,EK.out.1]
      go_simp
      refine hK.out _ _ (fun _=>?_) ?_
      ·exact (hBz6.setCell (p:=⟨gK,0,none⟩) EK.out.2.2 _)
      clear hK K'
      (try simp only [Act.put,List.setIfInBounds_toArray,List.set_cons_zero,List.set_cons_succ])
      obtain ⟨z7,hnew⟩:=zzN ((z6.setCell ⟨gK,0,none⟩ (.slice ka aj.args.length kc)))
      rw [hnew]
      have hBz7:Below W8.heap.size W8 z7:=by rw [<- hnew];exact (hBz6.setCell (p:=⟨gK,0,none⟩) EK.out.2.2 _)
      have hbt:But (fun i=>i=gK) z6 z7:=by rw [<- hnew];exact ((But.refl (fun i=>i=gK) z6).setCell (p:=⟨gK,0,none⟩) (.inl rfl) _)
      have htg:∀ g,g=gK->tg5 g=4:=fun g e=>by rw [e];exact EK.out.2.1
      have EK:Hid (z7.heap[gK]? = some (.cells #[.slice ka aj.args.length kc] 78 (0,0))/\tg5 gK=4/\W8.heap.size<=gK):=⟨by rw [<- hnew];exact (setCell_at' EK.out.1),EK.out.2⟩
      clear hnew hbt htg cK0 fK0
      refine wpAnyS_one 9 (by kernel_rfl) ?_
      (intro o9 ho K' hK;simp at ho;subst ho)
      go_simp
      refine hK.out _ _ (fun _=>?_) ?_
      ·exact hBz7
      clear hK K'
      (try simp only [Act.put,List.setIfInBounds_toArray,List.set_cons_zero,List.set_cons_succ])
      refine wpAnyS_done (by kernel_rfl) (NoPanic.normal ?_) _
      exact ⟨rfl,⟨ka,kc,gK⟩,by rfl,hBz7,EK.out.1,EK.out.2.2,HKR.out⟩
    rintro ⟨ka,kc,gK⟩ W9 ⟨hB9,hK9,hgK,hkr⟩
    dsimp only at hK9 hgK hkr
    simp only [pQ,pN,pZ,pS]
    have hr9:Below wr.heap.size wr W9:=zzT H8.out.1 hB9
    have KEY9:=Lib.hid (fun (y:World) (hy:Below W9.heap.size W9 y)=>(show _/\_/\y.cell? ⟨gK,0,none⟩=some (.slice ka aj.args.length kc)/\(y.cell? ⟨kb,ko+jj*4,none⟩=some (str s1)/\y.cell? ⟨kb,ko+jj*4+1,none⟩=some (.int .i64 v1)/\y.cell? ⟨kb,ko+jj*4+2,none⟩=some (.slice ka2 kn2 kc2)/\y.cell? ⟨kb,ko+jj*4+3,none⟩=some (.slice ka3 kn3 kc3)) from by
     have hry:=zzT hr9 hy
     have key:∀ {p:Addr} {u:Value},wr.cell? p=some u->y.cell? p=some u:=fun h=>(hry.cell (World.block_lt_of_cell? _ _ h)).trans h
     have k9:=one_cell hK9
     exact ⟨(KEY.out y hry).1,(KEY.out y hry).2.2.1,(hy.cell (World.block_lt_of_cell? _ _ k9)).trans k9,key HKID.out.1.1,key HKID.out.1.2.1,key HKID.out.1.2.2.1,key HKID.out.1.2.2.2⟩))
    have CBG9:=Lib.hid (fun (y:World) (hy:Below W9.heap.size W9 y)=>by
     have hry:=zzT hr9 hy
     have h1:begun.length=lv.length:=HT.out.1.lb
     have h2:args.length=lv.length:=HT.out.1.la
     have h3:=HLN.out.2.2.2
     have h4:=HARG.out.1
     have h5:=HARG.out.2.1
     have h6:=HD.out.2.2.1.lt
     have h7:=HI.out.2.2.2.1
     have kp:∀ {d:DV} {u:Value},Rep (fun g=>g≠gA/\g≠w.heap.size+3) wr d u->Rep (fun _=>True) y d u:=fun h=>(Rep.keep fun i o _ ho=>⟨trivial,by rw [hry.block i (lt_of_heap ho)];exact ho⟩).1 _ _ h
     exact l3Begin_any (fun _=>True) begun args [] (l:Nat) (some ⟨kb,ko,none⟩) ss.length d2 n3 2 d3 na da nb db (opens:Nat) s1 v1 ka2 kn2 kc2 ka3 kn3 kc3 aj (.slice ka aj.args.length kc) e' y (kp HT.out.2.2.2.1) (kp HT.out.2.2.2.2)
      ((Rep.keep fun i o _ ho=>⟨trivial,by rw [hry.block i (by have:=lt_of_heap ho;have:=HB.out.2.size;omega),HB.out.2.block i (lt_of_heap ho)];exact ho⟩).1 _ _ hkr) (by omega) (by omega) (by omega))
    have hbx9:=(hr9.block _ (lt_of_heap HST2.out.2.1)).trans HST2.out.2.1
    have H9:=Lib.hid (And.intro hr9 (And.intro (HB.out.1.trans (But.ofBelow hr9)) (And.intro (zzT HB.out.2 hr9) hbx9)))
    clear hB9 hK9 hgK hkr hr9 hbx9 KEY KEY8 CAT8
    go_upto_region 16 with (fail)
    refine wp_region_noPanic ?_
    refine wp_region_S (fun w'=>Below W9.heap.size W9 w') (fun i=>i=13) (by kernel_rfl) ?_
    have hSd:(fun w'=>Below W9.heap.size W9 w') W9.drew:=Below.drew (Below.refl _ _)
    refine wpAnyS_take 0 (v:=?_) (by kernel_rfl) (by kernel_rfl) (by kernel_rfl) (by kernel_rfl) (fun _ _ _ _ h=>h) hSd ?_ ?_
    rotate_left
    ·(intro oi ho;simp at ho;subst ho;refine Or.inl ⟨by rfl,fun w' hw'=>?_⟩;obtain ⟨e0,e1,e2,e3,e4,e5,e6⟩:=(KEY9.out w' hw').1;go_simp;try with_reducible rfl)
    (intro d hd;simp at hd;subst hd;simp only [Act.put,List.setIfInBounds_toArray,List.set_cons_zero,List.set_cons_succ])
    refine wpAnyS_take 1 (v:=?_) (by kernel_rfl) (by kernel_rfl) (by kernel_rfl) (by kernel_rfl) (fun _ _ _ _ h=>h) hSd ?_ ?_
    rotate_left
    ·(intro oi ho;simp at ho;subst ho;refine Or.inl ⟨by rfl,fun w' hw'=>?_⟩;go_simp;try with_reducible rfl)
    (intro d hd;simp at hd;subst hd;simp only [Act.put,List.setIfInBounds_toArray,List.set_cons_zero,List.set_cons_succ])
    refine wpAnyS_take 2 (v:=?_) (by kernel_rfl) (by kernel_rfl) (by kernel_rfl) (by kernel_rfl) (fun _ _ _ _ h=>h) hSd ?_ ?_
    rotate_left
    ·(intro oi ho;simp at ho;subst ho;refine Or.inl ⟨by rfl,fun w' hw'=>?_⟩;go_simp;try with_reducible rfl)
    (intro d hd;simp at hd;subst hd;simp only [Act.put,List.setIfInBounds_toArray,List.set_cons_zero,List.set_cons_succ])
    refine wpAnyS_take 3 (v:=?_) (by kernel_rfl) (by kernel_rfl) (by kernel_rfl) (by kernel_rfl) (fun _ _ _ _ h=>h) hSd ?_ ?_
    rotate_left
    ·(intro oi ho;simp at ho;subst ho;refine Or.inl ⟨by rfl,fun w' hw'=>?_⟩;have e0:=(KEY9.out w' hw').1.2.2.1;go_simp;try with_reducible rfl)
    (intro d hd;simp at hd;subst hd;simp only [Act.put,List.setIfInBounds_toArray,List.set_cons_zero,List.set_cons_succ])
    refine wpAnyS_take 4 (v:=?_) (by kernel_rfl) (by kernel_rfl) (by kernel_rfl) (by kernel_rfl) (fun _ _ _ _ h=>h) hSd ?_ ?_
    rotate_left
    ·(intro oi ho;simp at ho;subst ho;refine Or.inl ⟨by rfl,fun w' hw'=>?_⟩;go_simp;try with_reducible rfl)
    (intro d hd;simp at hd;subst hd;simp only [Act.put,List.setIfInBounds_toArray,List.set_cons_zero,List.set_cons_succ])
    refine wpAnyS_take 5 (v:=?_) (by kernel_rfl) (by kernel_rfl) (by kernel_rfl) (by kernel_rfl) (fun _ _ _ _ h=>h) hSd ?_ ?_
    rotate_left
    ·(intro oi ho;simp at ho;subst ho;refine Or.inl ⟨by rfl,fun w' hw'=>?_⟩;go_simp;try with_reducible rfl)
    (intro d hd;simp at hd;subst hd;simp only [Act.put,List.setIfInBounds_toArray,List.set_cons_zero,List.set_cons_succ])
    refine wpAnyS_take 6 (v:=?_) (by kernel_rfl) (by kernel_rfl) (by kernel_rfl) (by kernel_rfl) (fun _ _ _ _ h=>h) hSd ?_ ?_
    rotate_left
    ·(intro oi ho;simp at ho;subst ho;refine Or.inl ⟨by rfl,fun w' hw'=>?_⟩;obtain ⟨e0,e1,e2,e3⟩:=(KEY9.out w' hw').2.2.2;go_simp;try with_reducible rfl)
    (intro d hd;simp at hd;subst hd;simp only [Act.put,List.setIfInBounds_toArray,List.set_cons_zero,List.set_cons_succ])
    refine wpAnyS_take 7 (v:=?_) (by kernel_rfl) (by kernel_rfl) (by kernel_rfl) (by kernel_rfl) (fun _ _ _ _ h=>h) hSd ?_ ?_
    rotate_left
    ·(intro oi ho;simp at ho;subst ho;refine Or.inl ⟨by rfl,fun w' hw'=>?_⟩;have e0:=(KEY9.out w' hw').2.2.1;go_simp;try with_reducible rfl)
    (intro d hd;simp at hd;subst hd;simp only [Act.put,List.setIfInBounds_toArray,List.set_cons_zero,List.set_cons_succ])
    refine wpAnyS_take 8 (v:=?_) (by kernel_rfl) (by kernel_rfl) (by kernel_rfl) (by kernel_rfl) (fun _ _ _ _ h=>h) hSd ?_ ?_
    rotate_left
    ·(intro oi ho;simp at ho;subst ho;refine Or.inl ⟨by rfl,fun w' hw'=>?_⟩;go_simp;try with_reducible rfl)
    (intro d hd;simp at hd;subst hd;simp only [Act.put,List.setIfInBounds_toArray,List.set_cons_zero,List.set_cons_succ])
    refine wpAnyS_take 9 (v:=?_) (by kernel_rfl) (by kernel_rfl) (by kernel_rfl) (by kernel_rfl) (fun _ _ _ _ h=>h) hSd ?_ ?_
    rotate_left
    ·(intro oi ho;simp at ho;subst ho;refine Or.inl ⟨by rfl,fun w' hw'=>?_⟩;go_simp;try with_reducible rfl)
    (intro d hd;simp at hd;subst hd;simp only [Act.put,List.setIfInBounds_toArray,List.set_cons_zero,List.set_cons_succ])
    refine wpAnyS_take 10 (v:=?_) (by kernel_rfl) (by kernel_rfl) (by kernel_rfl) (by kernel_rfl) (fun _ _ _ _ h=>h) hSd ?_ ?_
    rotate_left
    ·(intro oi ho;simp at ho;subst ho;refine Or.inl ⟨by rfl,fun w' hw'=>?_⟩;go_simp;try with_reducible rfl)
    (intro d hd;simp at hd;subst hd;simp only [Act.put,List.setIfInBounds_toArray,List.set_cons_zero,List.set_cons_succ])
    refine wpAnyS_take 11 (v:=?_) (by kernel_rfl) (by kernel_rfl) (by kernel_rfl) (by kernel_rfl) (fun _ _ _ _ h=>h) hSd ?_ ?_
    rotate_left
    ·(intro oi ho;simp at ho;subst ho;refine Or.inl ⟨by rfl,fun w' hw'=>?_⟩;have e0:=(KEY9.out w' hw').2.1;go_simp;try with_reducible rfl)
    (intro d hd;simp at hd;subst hd;simp only [Act.put,List.setIfInBounds_toArray,List.set_cons_zero,List.set_cons_succ])
    refine wpAnyS_one 12 (by kernel_rfl) ?_
    (intro o12 ho K' hK;simp at ho;subst ho)
    go_simp
    go_at_call 173
    (with_reducible refine (CBG9.out _ hSd).mono ?_)
    rintro en x12 ⟨b12,bc12,a12,ac12,rfl,hb12,hr1,hr2⟩
    have hB12:Below W9.heap.size W9 x12:=zzT hSd hb12
    have xx:=(hB12.block _ (lt_of_heap H9.out.2.2.2)).trans H9.out.2.2.2
    refine hK.out _ _ ?_ ?_
    ·exact fun _=>hB12
    clear hK K'
    (try simp only [Act.put,List.setIfInBounds_toArray,List.set_cons_zero,List.set_cons_succ])
    have hS12:=hB12
    refine wpAnyS_one 13 (by kernel_rfl) ?_
    (intro o13 ho K' hK;simp at ho;subst ho)
    have f0:=frozen_4 xx 0;have f1:=frozen_4 xx 1;have f2:=frozen_4 xx 2;have f3:=frozen_4 xx 3;have f4:=frozen_4 xx 4;have f5:=frozen_4 xx 5;have f6:=frozen_4 xx 6
    obtain ⟨e0,e1,e2,e3,e4,e5,e6⟩:=cells_7 xx
    go_simp
    refine hK.out _ _ ?_ ?_
    ·intro h;simp at h
    clear hK K'
    (try simp only [Act.put,List.setIfInBounds_toArray,List.set_cons_zero,List.set_cons_succ])
    refine wpAnyS_done (by kernel_rfl) (NoPanic.normal ?_) _
    obtain ⟨W10,hW10⟩:=zzN ((((((((x12.setCell ⟨gA,0,none⟩ (str s1)).setCell ⟨gA,1,none⟩ (.int .i64 v1)).setCell ⟨gA,2,none⟩ (.slice ka2 kn2 kc2)).setCell ⟨gA,3,none⟩ (.slice ka3 kn3 kc3)).setCell ⟨gA,4,none⟩ (.slice b12 (begun.length+aj.args.length) bc12)).setCell ⟨gA,5,none⟩ (.slice a12 (args.length+aj.args.length) ac12)).setCell ⟨gA,6,none⟩ (.int .i64 (e':Nat))))
    rw [hW10]
    have bx10:W10.heap[gA]? = some (.cells #[str s1,.int .i64 v1,.slice ka2 kn2 kc2,.slice ka3 kn3 kc3,.slice b12 (begun.length+aj.args.length) bc12,.slice a12 (args.length+aj.args.length) ac12,.int .i64 (e':Nat)] 177 (0,0)):=by rw [<- hW10];exact set_seven xx _ _ _ _ _ _ _
    have hoth:∀ g,g≠gA->W10.heap[g]? = x12.heap[g]?:=fun g hg=>by
     rw [<- hW10,Below.heap_setCell _ _ _ _ (by show g≠gA;exact hg),Below.heap_setCell _ _ _ _ (by show g≠gA;exact hg),Below.heap_setCell _ _ _ _ (by show g≠gA;exact hg),Below.heap_setCell _ _ _ _ (by show g≠gA;exact hg),Below.heap_setCell _ _ _ _ (by show g≠gA;exact hg),Below.heap_setCell _ _ _ _ (by show g≠gA;exact hg),Below.heap_setCell _ _ _ _ (by show g≠gA;exact hg)]
    have hB10:But (fun g=>g=gA) Y W10:=by
     rw [<- hW10]
     exact (((((((H9.out.2.1.trans (But.ofBelow hB12)).setCell (p:=⟨gA,0,none⟩) (.inl rfl) _).setCell (p:=⟨gA,1,none⟩) (.inl rfl) _).setCell (p:=⟨gA,2,none⟩) (.inl rfl) _).setCell (p:=⟨gA,3,none⟩) (.inl rfl) _).setCell (p:=⟨gA,4,none⟩) (.inl rfl) _).setCell (p:=⟨gA,5,none⟩) (.inl rfl) _).setCell (p:=⟨gA,6,none⟩) (.inl rfl) _
    have kp:∀ i o,(i≠gA/\i≠w.heap.size+3)->wr.heap[i]? = some o->(i≠gA/\i≠w.heap.size+3)/\W10.heap[i]? = some o:=fun i o hi ho=>⟨hi,by rw [hoth i hi.1,hB12.block i (by have:=lt_of_heap ho;have:=H9.out.1.size;omega),H9.out.1.block i (lt_of_heap ho)];exact ho⟩
    have kn:∀ i o,W9.heap.size<=i->x12.heap[i]? = some o->(i≠gA/\i≠w.heap.size+3)/\W10.heap[i]? = some o:=fun i o hi ho=>by
     have h1:=HSZ.out;have h2:=lt_of_heap H9.out.2.2.2;have h3:=HY.out.1.size;have h4:=H9.out.2.1.size;have h5:=HY.out.2.1.size
     exact ⟨⟨by omega,by omega⟩,by rw [hoth i (by omega)];exact ho⟩
    have hspk:=HT.out.1.kid aj.args.length e' p (by have h4:=HARG.out.1;have h5:=HARG.out.2.1;have h7:=HI.out.2.2.2.1;omega) HD.out.2.2.1.at'
    have H10:=Lib.hid (And.intro bx10 (And.intro hB10 (show SpAt (fun g=>g≠gA/\g≠w.heap.size+3) W10 sb (lv++placesOf aj.args.length e' p) (e',p) v [str s1,.int .i64 v1,.slice ka2 kn2 kc2,.slice ka3 kn3 kc3,.slice b12 (begun.length+aj.args.length) bc12,.slice a12 (args.length+aj.args.length) ac12,.int .i64 (e':Nat)] from ⟨_,_,e',hspk,AtD_mk ((Rep.keep kp).2 _ _ HKID.out.2) ((Rep.keep kn).1 _ _ hr1) ((Rep.keep kn).1 _ _ hr2)⟩)))
    clear bx10 hoth hB10 kp kn hspk hW10 xx hr1 hr2 hB12 hb12 hS12 hSd KEY9 CBG9
    go_wp2_with fail
    go_roundw
    case rel=>exact ⟨_,j+1,e',_,hand',_,_,_,_,_,_,_,rfl,by rw [<- HN.out.2.2.2];rfl,HN.out.2.2.1,HN.out.1,HN.out.2.1,H10.out.1,H10.out.2.2,H10.out.2.1⟩
    case measure=>simp [intOf];omega
   ·clear hp
    rcases hc with rfl | rfl
    ·obtain ⟨_,_,ex,hats⟩:=AtNs.of (bs:=[y,nn]) HT.out.2.2.1
     simp only [Value.slice.injEq] at ex
     obtain ⟨rfl,_,rfl⟩:=ex
     obtain ⟨kb,ko,s1,v1,ka2,kn2,kc2,ka3,kn3,kc3,sd,ex,hkbl,hsd,y0,y1,y2,y3,hyk⟩:=hats 0 (by simp)
     subst ex
     obtain rfl:y=sd:=Option.some.inj hsd
     have hs1:=HD.out.2.1
     obtain rfl:s'=(y,lv,bg):=(Option.some.inj hs1).symm
     have y0':=hk8 _ _ y0
     have y1':=hk8 _ _ y1
     have y2':=hk8 _ _ y2
     have y3':=hk8 _ _ y3
     have HYK:=Lib.hid hyk
     obtain ⟨⟨q0,q1,q2,q3,_⟩,_⟩:=KEY.out W8 H8.out.1
     have hqn:((((116:UInt8).toNat:Nat):Int) != 113)=true:=rfl
     have hqf:((((116:UInt8).toNat:Nat):Int) == 102)=false:=rfl
     have f0:=frozen_4 H8.out.2.1 0;have f1:=frozen_4 H8.out.2.1 1;have f2:=frozen_4 H8.out.2.1 2;have f3:=frozen_4 H8.out.2.1 3
     clear hats hkbl hsd y0 y1 y2 y3 hyk hs1 hk8
     simp only [Nat.zero_mul,Nat.one_mul,Nat.add_zero] at y0' y1' y2' y3'
     go_upto_region 5 with (fail)
     obtain ⟨W10,hW10⟩:=zzN ((((W8.setCell ⟨gA,0,none⟩ (str s1)).setCell ⟨gA,1,none⟩ (.int .i64 v1)).setCell ⟨gA,2,none⟩ (.slice ka2 kn2 kc2)).setCell ⟨gA,3,none⟩ (.slice ka3 kn3 kc3))
     rw [hW10]
     have bx10:W10.heap[gA]? = some (.cells #[str s1,.int .i64 v1,.slice ka2 kn2 kc2,.slice ka3 kn3 kc3,.slice na begun.length da,.slice nb args.length db,.int .i64 (opens:Nat)] 177 (0,0)):=by
      rw [<- hW10,setCell_at' (setCell_at' (setCell_at' (setCell_at' H8.out.2.1)))];rfl
     have hoth:∀ g,g≠gA->W10.heap[g]? = W8.heap[g]?:=fun g hg=>by
      rw [<- hW10,Below.heap_setCell _ _ _ _ (by show g≠gA;exact hg),Below.heap_setCell _ _ _ _ (by show g≠gA;exact hg),Below.heap_setCell _ _ _ _ (by show g≠gA;exact hg),Below.heap_setCell _ _ _ _ (by show g≠gA;exact hg)]
     have hB10:But (fun g=>g=gA) Y W10:=by
      rw [<- hW10]
      exact (((H8.out.2.2.1.setCell (p:=⟨gA,0,none⟩) (.inl rfl) _).setCell (p:=⟨gA,1,none⟩) (.inl rfl) _).setCell (p:=⟨gA,2,none⟩) (.inl rfl) _).setCell (p:=⟨gA,3,none⟩) (.inl rfl) _
     have kp:∀ i o,(i≠gA/\i≠w.heap.size+3)->wr.heap[i]? = some o->(i≠gA/\i≠w.heap.size+3)/\W10.heap[i]? = some o:=fun i o hi ho=>⟨hi,by rw [hoth i hi.1,H8.out.1.block i (lt_of_heap ho)];exact ho⟩
     have H10:=Lib.hid (And.intro bx10 (And.intro hB10 (show SpAt (fun g=>g≠gA/\g≠w.heap.size+3) W10 y lv bg v [str s1,.int .i64 v1,.slice ka2 kn2 kc2,.slice ka3 kn3 kc3,.slice na begun.length da,.slice nb args.length db,.int .i64 (opens:Nat)] from ⟨begun,args,opens,HT.out.1,AtD_mk ((Rep.keep kp).2 _ _ HYK.out) ((Rep.keep kp).1 _ _ HT.out.2.2.2.1) ((Rep.keep kp).1 _ _ HT.out.2.2.2.2)⟩)))
     clear bx10 hoth hB10 kp hW10 q0 q1 q2 q3 f0 f1 f2 f3 y0' y1' y2' y3'
     go_wp2_with fail
     go_roundw
     case rel=>exact ⟨_,j+1,e',_,hand',_,_,_,_,_,_,_,rfl,by rw [<- HN.out.2.2.2];rfl,HN.out.2.2.1,HN.out.1,HN.out.2.1,H10.out.1,H10.out.2.2,H10.out.2.1⟩
     case measure=>simp [intOf];omega
    ·obtain ⟨_,_,ex,hats⟩:=AtNs.of (bs:=[y,nn]) HT.out.2.2.1
     simp only [Value.slice.injEq] at ex
     obtain ⟨rfl,_,rfl⟩:=ex
     obtain ⟨kb,ko,s1,v1,ka2,kn2,kc2,ka3,kn3,kc3,sd,ex,hkbl,hsd,y0,y1,y2,y3,hyk⟩:=hats 1 (by simp)
     subst ex
     obtain rfl:nn=sd:=Option.some.inj hsd
     have hs1:=HD.out.2.1
     obtain rfl:s'=(nn,lv,bg):=(Option.some.inj hs1).symm
     have y0':=hk8 _ _ y0
     have y1':=hk8 _ _ y1
     have y2':=hk8 _ _ y2
     have y3':=hk8 _ _ y3
     have HYK:=Lib.hid hyk
     obtain ⟨⟨q0,q1,q2,q3,_⟩,_⟩:=KEY.out W8 H8.out.1
     have hqn:((((102:UInt8).toNat:Nat):Int) != 113)=true:=rfl
     have hqf:((((102:UInt8).toNat:Nat):Int) == 102)=true:=rfl
     have f0:=frozen_4 H8.out.2.1 0;have f1:=frozen_4 H8.out.2.1 1;have f2:=frozen_4 H8.out.2.1 2;have f3:=frozen_4 H8.out.2.1 3
     clear hats hkbl hsd y0 y1 y2 y3 hyk hs1 hk8
     simp only [Nat.zero_mul,Nat.one_mul,Nat.add_zero] at y0' y1' y2' y3'
     go_upto_region 5 with (fail)
     obtain ⟨W10,hW10⟩:=zzN ((((W8.setCell ⟨gA,0,none⟩ (str s1)).setCell ⟨gA,1,none⟩ (.int .i64 v1)).setCell ⟨gA,2,none⟩ (.slice ka2 kn2 kc2)).setCell ⟨gA,3,none⟩ (.slice ka3 kn3 kc3))
     rw [hW10]
     have bx10:W10.heap[gA]? = some (.cells #[str s1,.int .i64 v1,.slice ka2 kn2 kc2,.slice ka3 kn3 kc3,.slice na begun.length da,.slice nb args.length db,.int .i64 (opens:Nat)] 177 (0,0)):=by
      rw [<- hW10,setCell_at' (setCell_at' (setCell_at' (setCell_at' H8.out.2.1)))];rfl
     have hoth:∀ g,g≠gA->W10.heap[g]? = W8.heap[g]?:=fun g hg=>by
      rw [<- hW10,Below.heap_setCell _ _ _ _ (by show g≠gA;exact hg),Below.heap_setCell _ _ _ _ (by show g≠gA;exact hg),Below.heap_setCell _ _ _ _ (by show g≠gA;exact hg),Below.heap_setCell _ _ _ _ (by show g≠gA;exact hg)]
     have hB10:But (fun g=>g=gA) Y W10:=by
      rw [<- hW10]
      exact (((H8.out.2.2.1.setCell (p:=⟨gA,0,none⟩) (.inl rfl) _).setCell (p:=⟨gA,1,none⟩) (.inl rfl) _).setCell (p:=⟨gA,2,none⟩) (.inl rfl) _).setCell (p:=⟨gA,3,none⟩) (.inl rfl) _
     have kp:∀ i o,(i≠gA/\i≠w.heap.size+3)->wr.heap[i]? = some o->(i≠gA/\i≠w.heap.size+3)/\W10.heap[i]? = some o:=fun i o hi ho=>⟨hi,by rw [hoth i hi.1,H8.out.1.block i (lt_of_heap ho)];exact ho⟩
     have H10:=Lib.hid (And.intro bx10 (And.intro hB10 (show SpAt (fun g=>g≠gA/\g≠w.heap.size+3) W10 nn lv bg v [str s1,.int .i64 v1,.slice ka2 kn2 kc2,.slice ka3 kn3 kc3,.slice na begun.length da,.slice nb args.length db,.int .i64 (opens:Nat)] from ⟨begun,args,opens,HT.out.1,AtD_mk ((Rep.keep kp).2 _ _ HYK.out) ((Rep.keep kp).1 _ _ HT.out.2.2.2.1) ((Rep.keep kp).1 _ _ HT.out.2.2.2.2)⟩)))
     clear bx10 hoth hB10 kp hW10 q0 q1 q2 q3 f0 f1 f2 f3 y0' y1' y2' y3'
     go_wp2_with fail
     go_roundw
     case rel=>exact ⟨_,j+1,e',_,hand',_,_,_,_,_,_,_,rfl,by rw [<- HN.out.2.2.2];rfl,HN.out.2.2.1,HN.out.1,HN.out.2.1,H10.out.1,H10.out.2.2,H10.out.2.1⟩
     case measure=>simp [intOf];omega
  ·have hltI:¬ (i2:Int)<(vw.length:Int):=by omega
   have hodd:=VC.out.odd
   have hlast:=VC.out.last
   have h1:=HSZ.out
   rw [show vw.length-1=2*j from by omega,hve] at hlast
   obtain rfl:=Option.some.inj hlast
   obtain rfl:s=s0:=Option.some.inj (HST2.out.2.2.2.symm.trans FO.out.2)
   obtain ⟨begun,args,opens,hsp,hat⟩:=HST2.out.1
   obtain ⟨n2,d2,n3,d3,na,da,nb,db,ex,_⟩:=AtD_open hat
   generalize atomOf s.1=u0 at ex
   generalize lvOf s.1=u1 at ex
   generalize (kidsOf s.1).length=u2 at ex
   generalize (yesOf s.1).length=u3 at ex
   simp only [List.cons.injEq,and_true] at ex
   obtain ⟨rfl,rfl,rfl,rfl,rfl,rfl,rfl⟩:=ex
   obtain ⟨q0,q1,q2,q3,q4,q5,q6⟩:=cells_7 HST2.out.2.1
   obtain ⟨z0',z1',z2',z3',z4',z5',z6'⟩:=cells_7 HR.out.2.2
   have f0:=frozen_4 HR.out.2.2 0;have f1:=frozen_4 HR.out.2.2 1;have f2:=frozen_4 HR.out.2.2 2;have f3:=frozen_4 HR.out.2.2 3;have f4:=frozen_4 HR.out.2.2 4;have f5:=frozen_4 HR.out.2.2 5;have f6:=frozen_4 HR.out.2.2 6
   have HAT:=Lib.hid (And.intro hsp hat)
   clear hve lenE hjv hvlen hvl1 hlast hodd h1 hsp hat hi2 hAY
   go_wp2_with fail
   have hV:=set_seven HR.out.2.2 (str u0) (.int .i64 (u1:Nat)) (.slice n2 u2 d2) (.slice n3 u3 d3) (.slice na begun.length da) (.slice nb args.length db) (.int .i64 (opens:Nat))
   obtain ⟨s0',s1',s2',s3',s4',s5',s6'⟩:=cells_7 hV
   have hoth:∀ g,g≠w.heap.size+3->(((((((wr.setCell ⟨w.heap.size+3,0,none⟩ (str u0)).setCell ⟨w.heap.size+3,1,none⟩ (.int .i64 (u1:Nat))).setCell ⟨w.heap.size+3,2,none⟩ (.slice n2 u2 d2)).setCell ⟨w.heap.size+3,3,none⟩ (.slice n3 u3 d3)).setCell ⟨w.heap.size+3,4,none⟩ (.slice na begun.length da)).setCell ⟨w.heap.size+3,5,none⟩ (.slice nb args.length db)).setCell ⟨w.heap.size+3,6,none⟩ (.int .i64 (opens:Nat))).heap[g]? = wr.heap[g]?:=fun g hg=>by
    rw [Below.heap_setCell _ _ _ _ (by show g≠w.heap.size+3;exact hg),Below.heap_setCell _ _ _ _ (by show g≠w.heap.size+3;exact hg),Below.heap_setCell _ _ _ _ (by show g≠w.heap.size+3;exact hg),Below.heap_setCell _ _ _ _ (by show g≠w.heap.size+3;exact hg),Below.heap_setCell _ _ _ _ (by show g≠w.heap.size+3;exact hg),Below.heap_setCell _ _ _ _ (by show g≠w.heap.size+3;exact hg),Below.heap_setCell _ _ _ _ (by show g≠w.heap.size+3;exact hg)]
   have hbF:=((((((HB.out.2.setCell (p:=⟨w.heap.size+3,0,none⟩) (Nat.le_add_right _ _) (str u0)).setCell (p:=⟨w.heap.size+3,1,none⟩) (Nat.le_add_right _ _) (.int .i64 (u1:Nat))).setCell (p:=⟨w.heap.size+3,2,none⟩) (Nat.le_add_right _ _) (.slice n2 u2 d2)).setCell (p:=⟨w.heap.size+3,3,none⟩) (Nat.le_add_right _ _) (.slice n3 u3 d3)).setCell (p:=⟨w.heap.size+3,4,none⟩) (Nat.le_add_right _ _) (.slice na begun.length da)).setCell (p:=⟨w.heap.size+3,5,none⟩) (Nat.le_add_right _ _) (.slice nb args.length db)).setCell (p:=⟨w.heap.size+3,6,none⟩) (Nat.le_add_right _ _) (.int .i64 (opens:Nat))
   refine bodyPost_ret (v:=.tuple #[.agg #[str u0,.int .i64 (u1:Nat),.slice n2 u2 d2,.slice n3 u3 d3,.slice na begun.length da,.slice nb args.length db,.int .i64 (opens:Nat)],.bool true]) (by simp [results,Tryz.results133,go_sem,s0',s1',s2',s3',s4',s5',s6']) rfl ?_
   exact ⟨_,_,_,_,_,_,_,rfl,hbF,begun,args,opens,HAT.out.1,(Rep.keep fun i o hi ho=>⟨trivial,by rw [hoth i hi.2];exact ho⟩).2 _ _ HAT.out.2⟩

section
variable {P:Program} {ops:Array Oper} {Q:Exit->Act->World->Prop} {md:Region.Mode} {S:World->Prop} {T:Nat->Bool}
end
structure Kv (va:Nat) (vw:Value) (w:World) (vw':Value) (w':World):Prop where
 but:But (Mv va vw) w w'
 row:∀ g,vw'.ownBlock=some g->vw.ownBlock=some g\/w.heap.size<=g
theorem Kv.obj {va:Nat} {vw vw':Value} {w w':World} (h:Kv va vw w vw' w') {b:Nat} {o:Obj} (hF:Fv va vw b) (ho:w.heap[b]? = some o):Fv va vw' b/\w'.heap[b]? = some o :=
 ⟨⟨hF.1,fun e=>by
   rcases h.row b e with h1 | h1
   ·exact hF.2 h1
   ·have:=lt_of_heap ho;omega⟩,by rw [h.but.block b (lt_of_heap ho) (fun e=>e.elim hF.1 hF.2)];exact ho⟩
theorem Kv.rep {va:Nat} {vw vw':Value} {w w':World} (h:Kv va vw w vw' w') {d:DV} {x:Value} (hr:Rep (Fv va vw) w d x):Rep (Fv va vw') w' d x:=Fv.keep h.but h.row hr
theorem Kv.trans {va:Nat} {vw vw' vw'':Value} {w w' w'':World} (h:Kv va vw w vw' w') (k:Kv va vw' w' vw'' w''):Kv va vw w vw'' w'' :=
 ⟨h.but.trans' k.but (fun i hi hm=>hm.imp id (fun e=>(h.row i e).resolve_right (by omega))),fun g hg=>(k.row g hg).elim (fun e=>h.row g e) (fun e=>.inr (Nat.le_trans h.but.size e))⟩
theorem Kv.below {va:Nat} {vw:Value} {w w':World} (hb:Below w.heap.size w w'):Kv va vw w vw w':=⟨But.ofBelow hb,fun _ hg=>.inl hg⟩
structure AskV (t:Ty) (l:Nat) (ss:List Bd) (y n:Bd) (lv:List Place) (bg:Place) (asked:Pl) (kv bv lsl mv pt:Value) (B0 B1:Nat) (va:Nat) (vw:Value) (w:World):Prop where
 g:Glob w
 ng:∀ g,Mv va vw g->NotG g
 rk:Rep (Fv va vw) w (encK t) kv
 rb:Rep (Fv va vw) w (encB (.ask l ss y n)) bv
 rl:LvRep (Fv va vw) w lv lsl
 rm:MvRep (Fv va vw) w asked mv
 rp:PtRep (Fv va vw) w asked pt
 f0:Fv va vw B0
 b0:w.heap[B0]? = some (.cells #[bv,lsl,.int .i64 (bg.1:Nat),str bg.2] 150 (0,0))
 f1:Fv va vw B1
 b1:w.heap[B1]? = some (.cells #[mv,pt] 33 (0,0))
theorem AskV.keep {t:Ty} {l:Nat} {ss:List Bd} {y n:Bd} {lv:List Place} {bg:Place} {asked:Pl} {kv bv lsl mv pt:Value} {B0 B1:Nat} {va:Nat} {vw vw':Value} {w w':World}
 (h:AskV t l ss y n lv bg asked kv bv lsl mv pt B0 B1 va vw w) (k:Kv va vw w vw' w'):AskV t l ss y n lv bg asked kv bv lsl mv pt B0 B1 va vw' w' :=
 ⟨h.g.but k.but h.ng,fun g hg=>hg.elim (fun e=>h.ng g (.inl e)) (fun e=>(k.row g e).elim (fun e=>h.ng g (.inr e)) (fun e=>h.g.new e)),k.rep h.rk,k.rep h.rb,k.rep h.rl,k.rep h.rm,k.rep h.rp,
  (k.obj h.f0 h.b0).1,(k.obj h.f0 h.b0).2,(k.obj h.f1 h.b1).1,(k.obj h.f1 h.b1).2⟩
structure Ko (vw:Value) (w:World) (vw':Value) (w':World):Prop where
 but:But (fun i=>vw.ownBlock=some i) w w'
 row:∀ g,vw'.ownBlock=some g->vw.ownBlock=some g\/w.heap.size<=g
abbrev Fo (vw:Value) (i:Nat):Prop:=¬ vw.ownBlock=some i
theorem Ko.obj {vw vw':Value} {w w':World} (h:Ko vw w vw' w') {b:Nat} {o:Obj} (hF:Fo vw b) (ho:w.heap[b]? = some o):Fo vw' b/\w'.heap[b]? = some o :=
 ⟨fun e=>by
  rcases h.row b e with h1 | h1
  ·exact hF h1
  ·have:=lt_of_heap ho;omega,by rw [h.but.block b (lt_of_heap ho) hF];exact ho⟩
theorem Ko.rep {vw vw':Value} {w w':World} (h:Ko vw w vw' w') {d:DV} {x:Value} (hr:Rep (Fo vw) w d x):Rep (Fo vw') w' d x:=(Rep.keep fun _ _ hF ho=>h.obj hF ho).1 _ _ hr
theorem Ko.reps {vw vw':Value} {w w':World} (h:Ko vw w vw' w') {d:List DV} {x:List Value} (hr:Reps (Fo vw) w d x):Reps (Fo vw') w' d x:=(Rep.keep fun _ _ hF ho=>h.obj hF ho).2 _ _ hr
theorem Ko.trans {vw vw' vw'':Value} {w w' w'':World} (h:Ko vw w vw' w') (k:Ko vw' w' vw'' w''):Ko vw w vw'' w'' :=
 ⟨h.but.trans' k.but (fun i hi hm=>(h.row i hm).resolve_right (by omega)),fun g hg=>(k.row g hg).elim (fun e=>h.row g e) (fun e=>.inr (Nat.le_trans h.but.size e))⟩
theorem Ko.below {vw:Value} {w w':World} (hb:Below w.heap.size w w'):Ko vw w vw w':=⟨But.ofBelow hb,fun _ hg=>.inl hg⟩
theorem SpAt.ko {vw vw':Value} {w w':World} (h:Ko vw w vw' w') {b:Bd} {lv:List Place} {bg:Place} {v:Pl} {vs:List Value} (hr:SpAt (Fo vw) w b lv bg v vs):SpAt (Fo vw') w' b lv bg v vs:=by
 obtain ⟨begun,args,opens,h1,h2⟩:=hr
 exact ⟨begun,args,opens,h1,h.reps h2⟩
theorem SpAt.below {F:Nat->Prop} {w w':World} (hb:Below w.heap.size w w') {b:Bd} {lv:List Place} {bg:Place} {v:Pl} {vs:List Value} (hr:SpAt F w b lv bg v vs):SpAt F w' b lv bg v vs:=by
 obtain ⟨begun,args,opens,h1,h2⟩:=hr
 exact ⟨begun,args,opens,h1,h2.below hb (fun _ h=>h)⟩
def TvOut (o:Option (List Pl)) (vw:Value) (us:List (Value×Value)) (L:List Pl) (w:World) (en:Ending) (w':World):Prop :=
 ∃ a n c,en=.returned (.tuple #[.slice a n c,.bool o.isSome])/\But (fun i=>vw.ownBlock=some i) w w'/\∀ out,o=some out->∃ us',PlsAt w' (L++out) (.slice a n c) (us++us')/\(∀ g,(Value.slice a n c).ownBlock=some g->vw.ownBlock=some g\/w.heap.size<=g)/\∀ u∈us',∀ g,u.1.ownBlock=some g\/u.2.ownBlock=some g->w.heap.size<=g
theorem TvOut.no {t:Ty} {b:Bd} {lv:List Place} {bg:Place} {v:Pl} {vw:Value} {us:List (Value×Value)} {L:List Pl} {w w':World} {a:Option Addr} {n c:Nat} (hb:But (fun i=>vw.ownBlock=some i) w w') (e:viewsB t b lv bg v=none) :
 TvOut (viewsB t b lv bg v) vw us L w (.returned (.tuple #[.slice a n c,.bool false])) w':=by
 rw [e]
 exact ⟨a,n,c,rfl,hb,fun out h=>by simp at h⟩
theorem boxes_3 (w:World) (A B C:Obj):∃ W,((w.alloc A).alloc B).alloc C=W/\Below w.heap.size w W/\W.heap.size=w.heap.size+3/\W.heap[w.heap.size]? = some A/\W.heap[w.heap.size+1]? = some B/\W.heap[w.heap.size+2]? = some C:=by
 obtain ⟨X,hX,hbX,hz,x0,x1⟩:=boxes_2 w A B
 obtain ⟨Y,hY,hbY,hz2,y0⟩:=box_1 X C
 rw [hX,hY]
 exact ⟨Y,rfl,zzT hbX hbY,by omega,(hbY.block _ (lt_of_heap x0)).trans x0,(hbY.block _ (lt_of_heap x1)).trans x1,by rw [<- hz];exact y0⟩
theorem l2WithPl (v:Pl) (mv pt:Value) (s:Bs) (p:Int) (w:World) (h1:SrcSl 1 mv v.length (logM v) w) (h2:SrcSl 1 pt v.length (logP v) w) (hl:v.length<=1000) :
 Calls Tryz.prog 126 #[.agg #[mv,pt],str s,.int .i64 p] w (CopyP (v++[(s,p)]) w):=by
 refine (l2With_any v.length v.length mv pt (logM v) (logP v) s p w h1 h2 (by omega) (by omega)).mono ?_
 rintro en w' ⟨a1,c1,a2,c2,rfl,hb,ho1,ho2,hf1,hf2⟩
 refine ⟨_,_,rfl,⟨?_,?_⟩,hb,fun g hg=>hg.elim (hf1 g) (hf2 g)⟩
 ·rw [show logM (v++[(s,p)])=logM v++[str s] from by simp [logM],List.length_append];exact ho1
 ·rw [show logP (v++[(s,p)])=logP v++[.int .i64 p] from by simp [logP],List.length_append];exact ho2
end Go.Proofs.YtdfkiicodfbibaaGreatDoor

/- The walk of the reference's l5Term. -/
import Derived.Test.YtapjaflnmklmeaaGreatDoorS31
import Derived.Test.YtapjaflnmklmeaaGreatDoorT6
import Derived.Deep.RegionHeld3
namespace Go.Proofs.YtapjaflnmklmeaaGreatDoor
open Go.RowKit
def STermPost (w:World) (o:Option Tr) (en:Ending) (w':World):Prop :=
 ∃ (s:Bs) (a:Option Addr) (n c:Nat),en=.returned (.tuple #[.agg #[str s,.slice a n c],.bool o.isSome])∧Below w.heap.size w w'∧(∀ t,o=some t→okTr t∧Reps (w.heap.size≤·) w' (encTr t) [str s,.slice a n c])
abbrev KeepTr (tb:Nat) (u0 u1:Value) (w':World):Prop:=w'.cell? ⟨tb,0,none⟩=some u0∧w'.cell? ⟨tb,1,none⟩=some u1
theorem KeepTr.below {tb:Nat} {u0 u1:Value} {w w':World} (h:KeepTr tb u0 u1 w) (hb:Below w.heap.size w w'):KeepTr tb u0 u1 w' :=
 ⟨(hb.cell (World.block_lt_of_cell? w _ h.1)).trans h.1,(hb.cell (World.block_lt_of_cell? w _ h.2)).trans h.2⟩
theorem KeepTr.set {tb:Nat} {u0 u1:Value} {w:World} (h:KeepTr tb u0 u1 w) (b o:Nat) (u:Value) (hb:tb≠b):KeepTr tb u0 u1 (w.setCell ⟨b,o,none⟩ u) :=
 ⟨(World.cell?_of_block (Below.heap_setCell _ _ _ _ (by simpa using hb))).trans h.1,(World.cell?_of_block (Below.heap_setCell _ _ _ _ (by simpa using hb))).trans h.2⟩
theorem isTr_ok {l:Bs} {t:Tr} {r:Bs} {e:Nat} (h:rdTr e l=some (t,r)):okTr t:=(rdTr_canon e l t r h).2.1
set_option maxRecDepth 100000 in
set_option maxHeartbeats 4000000 in
theorem l5Term_any (l:Bs) (hl:Lim l.length) (w:World):Calls Tryz.prog 16 #[str l] w (STermPost w (specTerm l)):=by
 have hl':=hl.le
 by_cases h1000:1000<l.length
 ·have h1:(1000:Int)<(l.length:Int):=by omega
  have HM:=Lib.hid (show specTerm l=none by unfold specTerm;rw [if_pos h1000])
  go_enter Tryz.func16,Tryz.ntmps16
  go_wp2_with fail
  refine bodyPost_ret (v:=.tuple #[.agg #[str [],.slice none 0 0],.bool false]) (by simp [results,Tryz.results16,go_sem]) rfl ?_
  exact ⟨[],none,0,0,by rw [HM.out];rfl,(Below.refl _ _).alloc (Nat.le_refl _) _,fun t h=>by rw [HM.out] at h;simp at h⟩
 have h1:¬ (1000:Int)<(l.length:Int):=by omega
 have HM:=Lib.hid (show specTerm l=(match rdTr 101 l with | some (t,[])=>if isTr t && decide (sizeTr t≤60) then some t else none | _=>none) by unfold specTerm;rw [if_neg h1000];rfl)
 clear h1000
 have C:Hid (∀ wz,Calls Tryz.prog 38 #[str l,.int .i64 0,.int .i64 0] wz (TrPost l.length wz (rdTr 101 l))):=fun wz=>by
  have h:=l5Read_any l hl 101 (by omega) 0 0 wz (by omega) (Nat.zero_le _)
  rw [List.drop_zero] at h
  exact h
 go_enter Tryz.func16,Tryz.ntmps16
 go_wp2_with fail
 (with_reducible refine (C.out _).mono ?_)
 rintro en w1 ⟨s6,a6,n6,c6,k6,rfl,hb1,hn1,hy1⟩
 have z1:=hb1.size
 rw [size_alloc] at z1
 have hres1:NewTr w.heap.size [] (.slice none 0 0) w1:=NewTr.below (heap_new _ _) hb1 (by simp)
 have hbw1:Below w.heap.size w w1:=((Below.refl w.heap.size w).alloc (Nat.le_refl _) _).trans (hb1.mono (by simp))
 obtain ⟨W2,hW2⟩:∃ W,W=w1.alloc (.cells #[str s6,.slice a6 n6 c6] 28):=⟨_,rfl⟩
 have hK2:KeepTr w1.heap.size (str s6) (.slice a6 n6 c6) W2:=by subst hW2;exact ⟨by simp,by simp⟩
 have hK2d:KeepTr w1.heap.size (str s6) (.slice a6 n6 c6) W2.drew:=hK2
 have hres2:NewTr w.heap.size [] (.slice none 0 0) W2:=by subst hW2;exact heap_past hres1
 have hbw2:Below w.heap.size w W2:=by subst hW2;exact hbw1.alloc hbw1.size _
 have z2:W2.heap.size=w1.heap.size+1:=by subst hW2;simp
 obtain ⟨r0,r1,rl,rf⟩:=hres2.cells
 have rf0:=rf 0;have rf1:=rf 1;clear rf
 have ne1:w1.heap.size≠w.heap.size:=by omega
 have FIN:∀ (Wz:World) (B:Bool) (o:Option Tr),specTerm l=o→o.isSome=B→Below w.heap.size w Wz→(∀ t,o=some t→okTr t∧Reps (fun b=>w.heap.size<b) Wz (encTr t) [str s6,.slice a6 n6 c6]) →
  ∀ W,(∀ B w0,Below B w0 Wz→B≤w.heap.size→Below B w0 W)→(∀ i x,i≠w.heap.size→Wz.heap[i]? = some x→W.heap[i]? = some x)→STermPost w (specTerm l) (.returned (.tuple #[.agg #[str s6,.slice a6 n6 c6],.bool B])) W:=by
  intro Wz B o ho hB hb hr W hbW hkW
  rw [ho]
  exact ⟨s6,a6,n6,c6,by rw [hB],hbW _ _ hb (Nat.le_refl _),fun t ht=>⟨(hr t ht).1,(Rep.keep fun b o hb' ho=>⟨Nat.le_of_lt hb',hkW b o (by have:=hb';omega) ho⟩).2 _ _ (hr t ht).2⟩⟩
 have FN:=Lib.hid FIN;clear FIN
 by_cases hfull:k6=(l.length:Int)
 rotate_left
 ·have q:(k6 == (l.length:Int))=false:=by rw [beq_eq_false_iff_ne];exact hfull
  have hno:specTerm l=none:=by
   rw [HM.out]
   cases hq:rdTr 101 l with
   | none=>rfl
   | some x =>
     obtain ⟨t,rest⟩:=x
     cases rest with
     | nil=>have:=(hy1 t [] hq).1;simp at this;exact absurd this hfull
     | cons a b=>rfl
  have HN:=Lib.hid hno
  have HR:=Lib.hid (And.intro hres2 hbw2)
  clear hno hfull hy1 hn1 hb1 hbw1 hres1
  have q0:W2.cell? ⟨w1.heap.size,0,none⟩=some (str s6):=hK2.1
  have q1:W2.cell? ⟨w1.heap.size,1,none⟩=some (.slice a6 n6 c6):=hK2.2
  go_wp2_with fail
  rw [← hW2]
  clear hW2
  go_region
  go_wp2_with fail
  obtain ⟨W,hW,s0,s1,hbW,hkW⟩:=(HR.out.1).store (str s6) (.slice a6 n6 c6)
  rw [← hW]
  refine bodyPost_ret (v:=.tuple #[.agg #[str s6,.slice a6 n6 c6],.bool false]) (by simp [results,Tryz.results16,go_sem,s0,s1]) rfl ?_
  exact FN.out W2 false none HN.out rfl HR.out.2 (fun t h=>by simp at h) W.drew (fun B w0 h hB=>(hbW B w0 h hB).drew) hkW
 obtain ⟨t,hq⟩:∃ t,rdTr 101 l=some (t,[]):=by
  cases hq:rdTr 101 l with
  | none=>have:=hn1 hq;omega
  | some x =>
    obtain ⟨t,rest⟩:=x
    have h1:=(hy1 t rest hq).1
    have:rest.length=0:=by omega
    rw [List.eq_nil_of_length_eq_zero this];exact ⟨t,rfl⟩
 have q:(k6 == (l.length:Int))=true:=by rw [beq_iff_eq];exact hfull
 have hrt:=(hy1 t [] hq).2
 have hok:=isTr_ok hq
 have hlt:Lim (textTr t).length:=hl.mono (by have:=congrArg List.length (rdTr_canon 101 l t [] hq).1;simp at this;omega)
 have hm:specTerm l=if isTr t && decide (sizeTr t≤60) then some t else none:=by rw [HM.out,hq]
 have HM:=Lib.hid hm
 have hr2:Reps (fun b=>w.heap.size<b) W2 (encTr t) [str s6,.slice a6 n6 c6]:=by
  subst hW2
  exact (Rep.keep fun b o h ho=>⟨by have:=h;rw [size_alloc] at this;omega,heap_past ho⟩).2 _ _ hrt
 have HR2:=Lib.hid hr2
 have CI:=Lib.hid (l5Is_any _ t (Nat.le_refl _) hlt hok _ W2.drew _ _ hr2.drew)
 have CS:=Lib.hid (fun wz (hb:Below W2.heap.size W2 wz)=>l5Size_any _ t (Nat.le_refl _) hlt hok _ wz _ _ (Reps.below (F':=fun b=>w.heap.size<b) hb (fun _ h=>h) hr2))
 have hsz:sizeTr t≤16777216:=by have:=size_text t hok;have:=hlt.le;omega
 have HOK:=Lib.hid (And.intro hok hbw2)
 have rl0:=rl
 clear hm hr2 hrt hy1 hn1 hb1 hbw1 hres1 hq r0 r1 rf0 rf1 rl hfull hok
 cases hi:isTr t with
 | false =>
   have HI:=Lib.hid hi
   have HN:=Lib.hid (show specTerm l=none by rw [HM.out,hi];rfl)
   clear hi
   go_wp2_with fail
   rw [← hW2]
   clear hW2
   refine wp_region_noPanic ?_
   refine wp_region_S (fun w'=>KeepTr w1.heap.size (str s6) (.slice a6 n6 c6) w') (fun _=>false) (by kernel_rfl) ?_
   have hSd:(fun w'=>KeepTr w1.heap.size (str s6) (.slice a6 n6 c6) w') W2.drew:=hK2
   refine tk [0,1,2,3,4,5,6] hSd ?_
   (intro d hd;simp [tkD] at hd;subst hd;simp only [tks,pQ,pZ,pS])
   iterate 7 (refine ⟨?_,?_,?_⟩;rotate_left;· (intro oi ho;simp at ho;subst ho;refine Or.inl ⟨by rfl,fun w' hw'=>?_⟩;obtain ⟨e0,e1⟩:=hw';go_simp;try with_reducible rfl))
   (refine on 7 ?_;intro o ho K' hK;simp at ho;subst ho;go_simp)
   go_at_call 39
   (with_reducible refine CI.out.mono ?_)
   rintro en5 w5 ⟨rfl,hb5⟩
   rw [HI.out]
   have HB5:Hid (Below W2.heap.size W2 w5):=(Below.drew (Below.refl W2.heap.size W2)).trans hb5
   have hK5:=hK2.below HB5.out
   have HN5:=Lib.hid (hres2.below HB5.out rl0)
   clear hb5
   (refine hK.out _ _ (fun _=>hK5) ?_;clear hK K';try simp only [pQ,pN,pZ,pS])
   have hS7:=hK5
   refine tk [8,9,10] hS7 ?_
   (intro d hd;simp [tkD] at hd;subst hd;simp only [tks,pQ,pZ,pS])
   iterate 3 (refine ⟨?_,?_,?_⟩;rotate_left;· (intro oi ho;simp at ho;subst ho;first | (refine Or.inr ⟨by rfl,?_⟩;with_reducible rfl) | (refine Or.inl ⟨by rfl,fun w' hw'=>?_⟩;go_simp;try with_reducible rfl)))
   (refine on 11 ?_;intro o ho K' hK;simp at ho;subst ho;go_simp)
   (refine hK.out _ _ (fun _=>hK5) ?_;clear hK K';try simp only [pQ,pN,pZ,pS])
   refine tk [12,13] hS7 ?_
   (intro d hd;simp [tkD] at hd;subst hd;simp only [tks,pQ,pZ,pS])
   iterate 2 (refine ⟨?_,?_,?_⟩;rotate_left;· (intro oi ho;simp at ho;subst ho;first | (refine Or.inr ⟨by rfl,?_⟩;with_reducible rfl) | (refine Or.inl ⟨by rfl,fun w' hw'=>?_⟩;go_simp;try with_reducible rfl)))
   (refine on 14 ?_;intro o ho K' hK;simp at ho;subst ho)
   obtain ⟨r0,r1,rl,rf⟩:=(HN5.out).cells
   have rf0:=rf 0
   have rf1:=rf 1
   clear rf
   go_simp
   (refine hK.out _ _ (fun _=>(hK5.set _ _ _ ne1).set _ _ _ ne1) ?_;clear hK K';try simp only [pQ,pN,pZ,pS])
   (refine on 15 ?_;intro o ho K' hK;simp at ho;subst ho;go_simp)
   (refine hK.out _ _ (fun _=>(hK5.set _ _ _ ne1).set _ _ _ ne1) ?_;clear hK K';try simp only [pQ,pN,pZ,pS])
   refine wpAnyS_done (by kernel_rfl) (NoPanic.normal ?_) _
   go_wp2_with fail
   obtain ⟨W,hW,s0,s1,hbW,hkW⟩:=(HN5.out).store (str s6) (.slice a6 n6 c6)
   rw [← hW]
   refine bodyPost_ret (v:=.tuple #[.agg #[str s6,.slice a6 n6 c6],.bool false]) (by simp [results,Tryz.results16,go_sem,s0,s1]) rfl ?_
   exact FN.out w5 false none HN.out rfl (HOK.out.2.trans (HB5.out.mono HOK.out.2.size)) (fun t h=>by simp at h) W hbW hkW
 | true =>
   have HI:=Lib.hid hi
   have HN:=Lib.hid (show specTerm l=if decide (sizeTr t≤60) then some t else none by rw [HM.out,hi];rfl)
   clear hi
   go_wp2_with fail
   rw [← hW2]
   clear hW2
   refine wp_region_noPanic ?_
   refine wp_region_S (fun w'=>KeepTr w1.heap.size (str s6) (.slice a6 n6 c6) w') (fun _=>false) (by kernel_rfl) ?_
   have hSd:(fun w'=>KeepTr w1.heap.size (str s6) (.slice a6 n6 c6) w') W2.drew:=hK2
   refine tk [0,1,2,3,4,5,6] hSd ?_
   (intro d hd;simp [tkD] at hd;subst hd;simp only [tks,pQ,pZ,pS])
   iterate 7 (refine ⟨?_,?_,?_⟩;rotate_left;· (intro oi ho;simp at ho;subst ho;refine Or.inl ⟨by rfl,fun w' hw'=>?_⟩;obtain ⟨e0,e1⟩:=hw';go_simp;try with_reducible rfl))
   (refine on 7 ?_;intro o ho K' hK;simp at ho;subst ho;go_simp)
   go_at_call 39
   (with_reducible refine CI.out.mono ?_)
   rintro en5 w5 ⟨rfl,hb5⟩
   rw [HI.out]
   have HB5:Hid (Below W2.heap.size W2 w5):=(Below.drew (Below.refl W2.heap.size W2)).trans hb5
   have hK5:=hK2.below HB5.out
   have HN5:=Lib.hid (hres2.below HB5.out rl0)
   clear hb5
   (refine hK.out _ _ (fun _=>hK5) ?_;clear hK K';try simp only [pQ,pN,pZ,pS])
   have hS7:=hK5
   refine tk [8,9,10] hS7 ?_
   (intro d hd;simp [tkD] at hd;subst hd;simp only [tks,pQ,pZ,pS])
   iterate 3 (refine ⟨?_,?_,?_⟩;rotate_left;· (intro oi ho;simp at ho;subst ho;refine Or.inl ⟨by rfl,fun w' hw'=>?_⟩;obtain ⟨e0,e1⟩:=hw';go_simp;try with_reducible rfl))
   (refine on 11 ?_;intro o ho K' hK;simp at ho;subst ho;go_simp)
   go_at_call 40
   (with_reducible refine (CS.out w5 HB5.out).mono ?_)
   rintro en7 w7 ⟨rfl,hb7⟩
   have HB7:Hid (Below W2.heap.size W2 w7):=HB5.out.trans (hb7.mono HB5.out.size)
   have hK7:=hK2.below HB7.out
   have HN7:=Lib.hid (hres2.below HB7.out rl0)
   clear hb7
   (refine hK.out _ _ (fun _=>hK7) ?_;clear hK K';try simp only [pQ,pN,pZ,pS])
   have hS11:=hK7
   refine tk [12,13] hS11 ?_
   (intro d hd;simp [tkD] at hd;subst hd;simp only [tks,pQ,pZ,pS])
   iterate 2 (refine ⟨?_,?_,?_⟩;rotate_left;· (intro oi ho;simp at ho;subst ho;refine Or.inl ⟨by rfl,fun w' hw'=>?_⟩;go_simp;try with_reducible rfl))
   (refine on 14 ?_;intro o ho K' hK;simp at ho;subst ho)
   obtain ⟨r0,r1,rl,rf⟩:=(HN7.out).cells
   have rf0:=rf 0
   have rf1:=rf 1
   clear rf
   go_simp
   (refine hK.out _ _ (fun _=>(hK7.set _ _ _ ne1).set _ _ _ ne1) ?_;clear hK K';try simp only [pQ,pN,pZ,pS])
   (refine on 15 ?_;intro o ho K' hK;simp at ho;subst ho;go_simp)
   (refine hK.out _ _ (fun _=>(hK7.set _ _ _ ne1).set _ _ _ ne1) ?_;clear hK K';try simp only [pQ,pN,pZ,pS])
   refine wpAnyS_done (by kernel_rfl) (NoPanic.normal ?_) _
   go_wp2_with fail
   obtain ⟨W,hW,s0,s1,hbW,hkW⟩:=(HN7.out).store (str s6) (.slice a6 n6 c6)
   rw [← hW]
   refine bodyPost_ret (v:=.tuple #[.agg #[str s6,.slice a6 n6 c6],.bool (decide ((sizeTr t:Int)≤60))]) (by simp [results,Tryz.results16,go_sem,s0,s1]) rfl ?_
   by_cases h60:sizeTr t≤60
   ·exact FN.out w7 _ (some t) (by rw [HN.out,if_pos (by simpa using h60)]) (by rw [decide_eq_true (by omega)];rfl) (HOK.out.2.trans (HB7.out.mono HOK.out.2.size)) (fun t' h=>by
     obtain rfl:=Option.some.inj h
     exact ⟨HOK.out.1,Reps.below HB7.out (fun _ h=>h) HR2.out⟩) W hbW hkW
   ·exact FN.out w7 _ none (by rw [HN.out,if_neg (by simpa using h60)]) (by rw [decide_eq_false (by omega)];rfl) (HOK.out.2.trans (HB7.out.mono HOK.out.2.size)) (fun t h=>by simp at h) W hbW hkW
end Go.Proofs.YtapjaflnmklmeaaGreatDoor

/- The walk of the reference's StrategyTerm. -/
import Derived.Test.YtllmjhbopmkpoaaGreatDoorS34
import Derived.Test.YtllmjhbopmkpoaaGreatDoorS32
import Derived.Test.YtllmjhbopmkpoaaGreatDoorP28
namespace Go.Proofs.YtllmjhbopmkpoaaGreatDoor
open Go.RowKit
theorem termOf_lenR {t:Ty} {b:Bd} (h:Good t b):(textTr (trTm (tmL [] t b))).length≤400000:=by
 have ha:=arg_small h.atoms
 have hc:=arg_count h.atoms
 have hs:=h.size
 have h1:=tmB_len b ([]++t.args) (by rw [List.nil_append];exact h.fit) (fun x hx=>by rw [List.nil_append] at hx;exact ha x hx) (by simp;omega)
 have h2:=headTx_len t.args 0 ha (by omega)
 show (textTm (tmL [] t b)).length≤_
 unfold tmL
 rw [List.length_nil,lams_text,List.length_append,List.length_append,closeTx_length]
 omega
set_option maxRecDepth 20000 in
set_option maxHeartbeats 1000000 in
theorem specStrategyTerm_any (s text:Bs) (w:World) (hs:Lim s.length) (hl:Lim text.length) :
 Calls Tryz.prog 17 #[str s,str text] w fun en w'=>en=.returned (.tuple #[str ((stratTerm s text).getD []),.bool (stratTerm s text).isSome])∧Below w.heap.size w w':=by
 have C0:=Lib.hid (l3Strategy_any s text hs hl w)
 go_enter Tryz.func17,Tryz.ntmps17
 go_wp2_with fail
 (with_reducible refine C0.out.mono ?_)
 rintro en w1 ⟨a,c,s',v',a2,n2,c2,a3,n3,c3,rfl,hb1,hrt,hrs⟩
 obtain ⟨W,hW⟩:∃ W,W=(w1.alloc (.cells #[.slice a (specType s).1.args.length c] 46)).alloc (.cells #[str s',.int .i64 v',.slice a2 n2 c2,.slice a3 n3 c3] 51):=⟨_,rfl⟩
 have hbW:Below w.heap.size w W:=by subst hW;exact (hb1.alloc hb1.size _).alloc (by have:=hb1.size;simp;omega) _
 cases hq:specStrat s text with
 | none =>
   have HM:=Lib.hid (show stratTerm s text=none by unfold stratTerm;rw [hq];rfl)
   have HB:=Lib.hid (And.intro hW hbW)
   clear hq hrt hrs hb1 hW hbW
   simp only [Option.isSome_none]
   go_wp2_with fail
   rw [← HB.out.1]
   go_ret2
   exact ⟨by rw [HM.out];rfl,HB.out.2⟩
 | some b =>
   obtain ⟨hgood,_⟩:=specStrat_good hq
   have rb:=hrs b hq
   have hlen:=termOf_lenR hgood
   have hok:=okTr_word _ (termOf_good hgood).1
   have HM:=Lib.hid (show stratTerm s text=if (specTerm (textTr (trTm (tmL [] (specType s).1 b)))).isSome then some (textTr (trTm (tmL [] (specType s).1 b))) else none by
    have h:=stratTerm_both hq
    unfold stratTerm
    rw [hq,Option.bind_some,← h];rfl)
   have n0:W.cell? ⟨w1.heap.size+1,0,none⟩=some (str s'):=by subst hW;simp
   have n1:W.cell? ⟨w1.heap.size+1,1,none⟩=some (.int .i64 v'):=by subst hW;simp
   have n2':W.cell? ⟨w1.heap.size+1,2,none⟩=some (.slice a2 n2 c2):=by subst hW;simp
   have n3':W.cell? ⟨w1.heap.size+1,3,none⟩=some (.slice a3 n3 c3):=by subst hW;simp
   have t0:W.cell? ⟨w1.heap.size,0,none⟩=some (.slice a (specType s).1.args.length c):=by subst hW;exact cell_alloc (by simp)
   have hkeep:∀ x,∀ i o,w1.heap[i]? = some o→(W.alloc x).heap[i]? = some o:=fun x i o ho=>by subst hW;exact heap_past (heap_past (heap_past ho))
   have rb3:Reps (w.heap.size≤·) (W.alloc (.cells #[] 46)) (encN b) [str s',.int .i64 v',.slice a2 n2 c2,.slice a3 n3 c3]:=(Rep.keep fun i o h ho=>⟨h,hkeep _ i o ho⟩).2 _ _ rb
   have rt3:Rep (w.heap.size≤·) (W.alloc (.cells #[] 46)) (encS (specType s).1) (.slice a (specType s).1.args.length c):=(Rep.keep fun i o h ho=>⟨h,hkeep _ i o ho⟩).1 _ _ hrt
   have CL:=Lib.hid (lamsR_any (sizeB b) (w.heap.size≤·) (specType s).1 b [] _ _ _ _ _ (.slice (some ⟨w1.heap.size+1+1,0,none⟩) 0 0) (W.alloc (.cells #[] 46)) (Nat.le_refl _)
    ⟨by rw [List.nil_append];exact hgood.fit,hgood.wf,fun t h=>by rw [List.nil_append] at h;exact arg_small hgood.atoms t h,by have:=hgood.size;have:=arg_count hgood.atoms;rw [List.nil_append];omega⟩ hgood.atoms rb3 rt3
    (Rep_sl.2 ⟨rfl,some ⟨w1.heap.size+1+1,0,none⟩,0,rfl,Nat.le_refl _,fun h=>by simp at h,.inl rfl⟩))
   obtain ⟨X,hX⟩:∃ X,trTm (tmL [] (specType s).1 b)=X:=⟨_,rfl⟩
   have hok':okTr (trTm (tmL [] (specType s).1 b)):=hok
   rw [hX] at HM CL hlen hok'
   have CT:=Lib.hid (l5Text_any (textTr X).length X (Nat.le_refl _) (show _≤_ by omega) hok')
   obtain ⟨Y,hY⟩:∃ Y,textTr X=Y:=⟨_,rfl⟩
   have CT2:Hid (TextTrSaid X):=CT
   have hYl:Y.length≤400000:=by rw [← hY];exact hlen
   rw [hY] at HM
   have C5:=Lib.hid (fun wz=>l5Term_any Y (show _≤_ by omega) wz)
   have HB:=Lib.hid hbW
   have HY:=Lib.hid hY
   clear hq hrt hrs hb1 hbW rb hgood hlen hok hok' hkeep rb3 rt3 CT hX hY hYl
   simp only [Option.isSome_some]
   go_wp2_with fail
   rw [← hW]
   clear hW
   (with_reducible refine CL.out.mono ?_)
   rintro en w3 ⟨s3,a4,n4,c4,rfl,hb3,hr3⟩
   have HB3:Hid (Below w.heap.size w w3):=(HB.out.alloc HB.out.size _).trans (hb3.mono (HB.out.alloc HB.out.size _).size)
   have C6:=Lib.hid (CT2.out _ w3 _ _ hr3)
   clear hb3 hr3 n0 n1 n2' n3' t0 CL CT2
   go_wp2_with fail
   (with_reducible refine C6.out.mono ?_)
   rintro en w4 ⟨rfl,hb4⟩
   have HB4:=Lib.hid (HB3.out.trans (hb4.mono HB3.out.size))
   rw [HY.out]
   clear hb4
   go_wp2_with fail
   (with_reducible refine (C5.out w4).mono ?_)
   rintro en w5 ⟨s5,a5,n5,c5,rfl,hb5,_⟩
   have HB5:=Lib.hid ((HB4.out.trans (hb5.mono HB4.out.size)).alloc (HB4.out.trans (hb5.mono HB4.out.size)).size (.cells #[str s5,.slice a5 n5 c5] 43))
   clear hb5
   cases ht:specTerm Y with
   | none =>
     have HT:=Lib.hid ht
     clear ht
     simp only [Option.isSome_none]
     go_wp2_with fail
     go_ret2
     exact ⟨by rw [HM.out,HT.out];rfl,HB5.out⟩
   | some t =>
     have HT:=Lib.hid ht
     clear ht
     simp only [Option.isSome_some]
     go_wp2_with fail
     go_ret2
     exact ⟨by rw [HM.out,HT.out];rfl,HB5.out⟩
end Go.Proofs.YtllmjhbopmkpoaaGreatDoor

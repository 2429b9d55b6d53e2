/- Walks of functions that the statement reaches, and plain words. No conditions. -/
import Derived.Test.YtdfkiicodfbibaaGreatDoorQ12
set_option linter.unusedVariables false
set_option linter.unusedSimpArgs false
set_option maxHeartbeats 16000000
namespace Go.Proofs.YtdfkiicodfbibaaGreatDoor
open Go.RowKit
def PlQ (o:Option Pl) (w:World) (en:Ending) (w':World):Prop :=
 ∃ a1 c1 a2 c2,en=.returned (.tuple #[.agg #[.slice a1 (o.getD []).length c1,.slice a2 (o.getD []).length c2],.bool o.isSome])/\Below w.heap.size w w'/\PlayAt w' (o.getD []) (.slice a1 (o.getD []).length c1) (.slice a2 (o.getD []).length c2) /\
   ∀ g,(Value.slice a1 (o.getD []).length c1).ownBlock=some g\/(Value.slice a2 (o.getD []).length c2).ownBlock=some g->w.heap.size<=g
theorem PlQ.none {w w':World} (hb:Below w.heap.size w w'):PlQ none w (.returned (.tuple #[.agg #[.slice .none 0 0,.slice .none 0 0],.bool false])) w' :=
 ⟨_,_,_,_,rfl,hb,playAt_nil _,fun g h=>by simp [Value.ownBlock] at h⟩
theorem told_ne {s:St} {x:Bs×Int} (h:told s=some x):∃ c p,x.1=c::p:=by
 unfold told at h
 split at h
 ·split at h
  ·simp at h
  ·obtain rfl:=Option.some.inj h;exact ⟨_,_,rfl⟩
 ·rw [Option.map_eq_some_iff] at h
  obtain ⟨pl,_,rfl⟩:=h
  exact ⟨_,_,rfl⟩
set_option maxRecDepth 100000 in
theorem reply_any (F:Nat->Prop) (t:Ty) (b:Bd) (v:Pl) (k:Nat) (kv bv mv pt:Value) (w:World) (hg:Glob w) (hk:Rep F w (encK t) kv) (hb:Rep F w (encB b) bv) (hm:PlIn F t v mv pt w)
 (h15:atomsT t<=15) (hf:fitB t.args b) (hw:wfB b) (hvk:v.length=k+1) (hke:k % 2=0) (hfo:followsTo t b v k) :
 Calls Tryz.prog 55 #[kv,bv,.agg #[mv,pt]] w (PlQ (replyTo t b v) w):=by
 have h60:=valid_len hm.ok
 obtain ⟨s,hand,hs0,hfit⟩:=place_fits h15 hf hw hm.ok k (by omega) hke hfo
 obtain ⟨ba,rfl⟩:=encB_ptr hb
 obtain ⟨kb,ks,rfl,_⟩:=encK_open hk
 obtain ⟨ma,mc,rfl,_⟩:=hm.m.cells
 obtain ⟨pa,pc,rfl,_⟩:=hm.p.cells
 obtain ⟨W,hW,hbW,hz,b0,b1⟩:=boxes_2 w (.cells #[.slice ma v.length mc,.slice pa v.length pc] 33) (.cells #[.slice none 0 0,.slice none 0 0] 33)
 obtain ⟨c0,c1,_,_⟩:=cells_2 b0
 have CS:=Lib.hid (standIn_any F t b v k v.length hvk s (.pointer (some ⟨kb,0,none⟩)) (.pointer (some ⟨ba,0,none⟩)) (.slice ma v.length mc) (.slice pa v.length pc) W (hg.below hbW) (hk.below hbW fun _ h=>h) (hb.below hbW fun _ h=>h) (hm.below hbW) h15 hf hw (by omega) hke hfo hs0)
 have CT:=Lib.hid (fun (y:World) (xv lv:Value) (hr:StRep (fun _=>True) y s xv lv)=>tells_any (fun _=>True) xv lv y hfit h15 (by omega) hr)
 have CW:=Lib.hid (fun (y:World) (hy:Below W.heap.size W y) (m:Bs) (z:Int)=>with_any v (.slice ma v.length mc) (.slice pa v.length pc) m z y (MvRep.src ((hm.below hbW).below hy).m) (PtRep.src ((hm.below hbW).below hy).p) (by omega))
 have HR:Hid (replyAt t b v v.length=told s):=Lib.hid (by unfold replyAt;rw [hvk,hs0];rfl)
 have HW:=Lib.hid (And.intro hW (And.intro hbW (And.intro b1 hz)))
 clear hm hW hbW hz b0 b1 hg hk hb h15 hf hw hs0 hfit hfo hke hvk
 by_cases he:v.length=60
 ·have E:=Lib.hid (show replyTo t b v=none by unfold replyTo;rw [if_pos he])
  rw [he] at HW c0 c1
  rw [he]
  obtain ⟨z0,z1,f0,f1⟩:=cells_2 HW.out.2.2.1
  clear CS CT CW HR he h60
  go_enter Tryz.func55,Tryz.ntmps55
  go_upto_region 1 with (fail)
  rw [HW.out.1]
  go_wp2_with fail
  have hV:=set_two' HW.out.2.2.1 (.slice none 0 0) (.slice none 0 0)
  obtain ⟨s0,s1,_,_⟩:=cells_2 hV
  refine bodyPost_ret (v:=.tuple #[.agg #[.slice none 0 0,.slice none 0 0],.bool false]) (by simp [results,Tryz.results55,go_sem,s0,s1]) rfl ?_
  rw [E.out]
  exact PlQ.none ((HW.out.2.1.setCell (p:=⟨w.heap.size+1,0,none⟩) (Nat.le_add_right _ _) _).setCell (p:=⟨w.heap.size+1,1,none⟩) (Nat.le_add_right _ _) _)
 ·have heI:¬ (v.length:Int)=60:=by omega
  have heB:((v.length:Int) == 60)=false:=by simpa using heI
  have E:=Lib.hid (show replyTo t b v=(told s).map fun x=>v++[x] by unfold replyTo;rw [if_neg he,HR.out])
  clear HR he
  go_enter Tryz.func55,Tryz.ntmps55
  go_upto_region 1 with (fail)
  rw [HW.out.1]
  go_wp2_with fail
  (with_reducible refine CS.out.mono ?_)
  rintro en w1 ⟨xv,lv,rfl,hb1,hr1⟩
  have d0:=(hb1.cell (World.block_lt_of_cell? _ _ c0)).trans c0
  have d1:=(hb1.cell (World.block_lt_of_cell? _ _ c1)).trans c1
  have HB1:=Lib.hid hb1
  have CT1:=CT.out w1 xv lv hr1
  clear CS CT hb1 hr1 c0 c1
  cases ho:told s with
  | none =>
    rw [ho] at E
    have et:tellV s=([],-1):=by unfold tellV;rw [ho];rfl
    rw [et] at CT1
    have CT1:=Lib.hid CT1
    clear CW ho et
    go_wp2_with fail
    (with_reducible refine CT1.out.mono ?_)
    rintro en w2 ⟨rfl,hb2⟩
    have hb12:=zzT HB1.out hb2
    have b3:=(hb12.block _ (lt_of_heap HW.out.2.2.1)).trans HW.out.2.2.1
    obtain ⟨z0,z1,f0,f1⟩:=cells_2 b3
    have HB2:=Lib.hid (And.intro b3 (zzT HW.out.2.1 hb12))
    clear hb2 hb12 b3 d0 d1 CT1
    go_wp2_with fail
    have hV:=set_two' HB2.out.1 (.slice none 0 0) (.slice none 0 0)
    obtain ⟨s0,s1,_,_⟩:=cells_2 hV
    refine bodyPost_ret (v:=.tuple #[.agg #[.slice none 0 0,.slice none 0 0],.bool false]) (by simp [results,Tryz.results55,go_sem,s0,s1]) rfl ?_
    rw [E.out]
    exact PlQ.none ((HB2.out.2.setCell (p:=⟨w.heap.size+1,0,none⟩) (Nat.le_add_right _ _) _).setCell (p:=⟨w.heap.size+1,1,none⟩) (Nat.le_add_right _ _) _)
  | some x =>
    rw [ho] at E
    obtain ⟨c,p,hcp⟩:=told_ne ho
    obtain ⟨m,z⟩:=x
    simp only at hcp
    have et:tellV s=(m,z):=by unfold tellV;rw [ho];rfl
    rw [et] at CT1
    have CT1:=Lib.hid CT1
    have hm1:(m == ([]:Bs))=false:=by rw [hcp];rfl
    have hm2:¬ m=[]:=by rw [hcp];simp
    clear ho et hcp
    go_wp2_with fail
    (with_reducible refine CT1.out.mono ?_)
    rintro en w2 ⟨rfl,hb2⟩
    have hb12:=zzT HB1.out hb2
    have b3:=(hb12.block _ (lt_of_heap HW.out.2.2.1)).trans HW.out.2.2.1
    have e0:=(hb2.cell (World.block_lt_of_cell? _ _ d0)).trans d0
    have e1:=(hb2.cell (World.block_lt_of_cell? _ _ d1)).trans d1
    have CW2:=Lib.hid (CW.out w2 hb12 m z)
    have HB2:=Lib.hid (And.intro b3 (zzT HW.out.2.1 hb12))
    clear hb2 hb12 b3 d0 d1 CT1 CW
    go_wp2_with fail
    (with_reducible refine CW2.out.mono ?_)
    rintro en w3 ⟨mvn,ptn,rfl,hpn,hb3,hfn⟩
    obtain ⟨a8,c8,e8⟩:=hpn.1.slice
    obtain ⟨a9,c9,e9⟩:=hpn.2.slice
    subst e8;subst e9
    have b3:=(hb3.block _ (lt_of_heap HB2.out.1)).trans HB2.out.1
    obtain ⟨z0,z1,f0,f1⟩:=cells_2 b3
    have HB3:=Lib.hid (And.intro b3 (And.intro (zzT HB2.out.2 hb3) (And.intro hpn (And.intro hfn (show w.heap.size+1<w2.heap.size from lt_of_heap HB2.out.1)))))
    clear hb3 b3 hpn hfn CW2 e0 e1
    generalize hL:(v++[(m,z)]).length=L at *
    go_wp2_with fail
    have hV:=set_two' HB3.out.1 (.slice a8 L c8) (.slice a9 L c9)
    obtain ⟨s0',s1',_,_⟩:=cells_2 hV
    have hoth:∀ g,g≠w.heap.size+1->((w3.setCell ⟨w.heap.size+1,0,none⟩ (.slice a8 L c8)).setCell ⟨w.heap.size+1,1,none⟩ (.slice a9 L c9)).heap[g]? = w3.heap[g]?:=fun g hg=>by
     rw [Below.heap_setCell _ _ _ _ (by show g≠w.heap.size+1;exact hg),Below.heap_setCell _ _ _ _ (by show g≠w.heap.size+1;exact hg)]
    refine bodyPost_ret (v:=.tuple #[.agg #[.slice a8 L c8,.slice a9 L c9],.bool true]) (by simp [results,Tryz.results55,go_sem,s0',s1']) rfl ?_
    rw [E.out]
    have hlt:=HB3.out.2.2.2.2
    refine ⟨a8,c8,a9,c9,by rw [Option.map_some,Option.getD_some,hL];rfl,(HB3.out.2.1.setCell (p:=⟨w.heap.size+1,0,none⟩) (Nat.le_add_right _ _) _).setCell (p:=⟨w.heap.size+1,1,none⟩) (Nat.le_add_right _ _) _,?_,fun g hg=>?_⟩
    ·rw [Option.map_some,Option.getD_some,hL]
     refine ⟨HB3.out.2.2.1.1.keep fun g o hg ho=>?_,HB3.out.2.2.1.2.keep fun g o hg ho=>?_⟩
     ·have:=HB3.out.2.2.2.1 g (.inl hg)
      rw [hoth g (by omega)];exact ho
     ·have:=HB3.out.2.2.2.1 g (.inr hg)
      rw [hoth g (by omega)];exact ho
    ·rw [Option.map_some,Option.getD_some,hL] at hg
     have:=HB3.out.2.2.2.1 g hg;omega
def replyIn (t:Ty) (b:Bd) (v:Pl) (lg:Bool) (n:Nat):Option Pl:=if (lg && decide (n % 2=1) && decide (followsTo t b v v.length))=true then replyTo t b v else none
def replyOk (s text:Bs) (ms:List Bs) (ps:List Int):Option Pl:=match specStrat s text with
 | none=>none
 | some b=>replyIn (specType s).1 b (ms.zip ps) (legalOk s ms ps) ms.length
theorem replyOk_none {s text:Bs} (h:rdTS s text=none) (ms:List Bs) (ps:List Int):replyOk s text ms ps=none:=by
 rw [rdTS_eq,Option.map_eq_none_iff] at h
 unfold replyOk;rw [h]
theorem replyOk_some {s text:Bs} {t:Ty} {b:Bd} (h:rdTS s text=some (t,b)) (ms:List Bs) (ps:List Int):replyOk s text ms ps=replyIn t b (ms.zip ps) (legalOk s ms ps) ms.length/\t=(specType s).1/\Good t b:=by
 rw [rdTS_eq,Option.map_eq_some_iff] at h
 obtain ⟨b',h,e⟩:=h
 simp at e;obtain ⟨rfl,rfl⟩:=e
 refine ⟨?_,rfl,(specStrat_good h).1⟩
 unfold replyOk;rw [h]
theorem replyIn_no (t:Ty) (b:Bd) (v:Pl) (n:Nat):replyIn t b v false n=none:=by unfold replyIn;simp
theorem replyIn_even (t:Ty) (b:Bd) (v:Pl) (lg:Bool) {n:Nat} (h:n % 2=0):replyIn t b v lg n=none:=by unfold replyIn;rw [decide_eq_false (show ¬ n % 2=1 by omega)];simp
theorem replyIn_off (t:Ty) (b:Bd) (v:Pl) (lg:Bool) (n:Nat) (h:decide (followsTo t b v v.length)=false):replyIn t b v lg n=none:=by unfold replyIn;rw [h];simp
theorem replyIn_yes (t:Ty) (b:Bd) (v:Pl) {n:Nat} (hn:n % 2=1) (h:decide (followsTo t b v v.length)=true):replyIn t b v true n=replyTo t b v:=by unfold replyIn;rw [h,decide_eq_true hn];rfl
theorem zip_len {s:Bs} {ms:List Bs} {ps:List Int} (h:playOk s ms ps=true):(ms.zip ps).length=ms.length:=by
 obtain ⟨h1,_⟩:=playOk_zip h
 rw [List.length_zip];omega
set_option maxRecDepth 100000 in
theorem implStrategyReply_any (F:Nat->Prop) (s text:Bs) (mv pt:Value) (ms:List Bs) (ps:List Int) (w:World) (hg:Glob w) (hs:Lim s.length) (ht:Lim text.length) (hm:MsRep F w ms mv) (hp:PsRep F w ps pt) (hl:∀ x∈ms,Lim x.length) :
 Calls Tryz.prog 36 #[str s,str text,.agg #[mv,pt]] w (PlQ (replyOk s text ms ps) w):=by
 obtain ⟨ma,mc,rfl⟩:=hm.slice
 obtain ⟨pa,pc,rfl⟩:=hp.slice
 obtain ⟨W,hW,hbW,hz,b0,b1⟩:=boxes_2 w (.cells #[.slice ma ms.length mc,.slice pa ps.length pc] 33) (.cells #[.slice none 0 0,.slice none 0 0] 33)
 have C:=Lib.hid (strategy_any s text W (hg.below hbW) hs ht)
 have CL:=Lib.hid (fun (y:World) (hy:Below W.heap.size W y)=>implPlayLegal_any F s _ _ ms ps y hs ((hm.below hbW fun _ h=>h).below hy fun _ h=>h) ((hp.below hbW fun _ h=>h).below hy fun _ h=>h) hl)
 have HP:=Lib.hid (fun (y:World) (hy:Below W.heap.size W y) (h:playOk s ms ps=true)=>(plIn_zip (hm.below hbW fun _ h=>h) (hp.below hbW fun _ h=>h) hl h).below hy)
 have HG:=Lib.hid (fun (y:World) (hy:Below W.heap.size W y)=>(hg.below hbW).below hy)
 have HW:=Lib.hid (And.intro hW (And.intro hbW (And.intro b0 b1)))
 clear hW hbW hz b0 b1 hg hs ht hm hp hl
 go_enter Tryz.func36,Tryz.ntmps36
 go_upto_region 1 with (fail)
 rw [HW.out.1]
 go_wp2_with fail
 (with_reducible refine C.out.mono ?_)
 rintro en w1 ⟨kv,bv,rfl,hb1,hn1,hy1⟩
 clear C
 obtain ⟨c0,c1,_,_⟩:=cells_2 HW.out.2.2.1
 have d0:=(hb1.cell (World.block_lt_of_cell? _ _ c0)).trans c0
 have d1:=(hb1.cell (World.block_lt_of_cell? _ _ c1)).trans c1
 have b3:=(hb1.block _ (lt_of_heap HW.out.2.2.2)).trans HW.out.2.2.2
 obtain ⟨z0,z1,f0,f1⟩:=cells_2 b3
 clear c0 c1
 have HB:=Lib.hid (And.intro hb1 (And.intro (zzT HW.out.2.1 hb1) b3))
 clear b3
 cases hq:rdTS s text with
 | none =>
   obtain rfl:=hn1 hq
   have E:=Lib.hid (replyOk_none hq ms ps)
   clear hn1 hy1 hq hb1
   go_wp2_with fail
   have hV:=set_two' HB.out.2.2 (.slice none 0 0) (.slice none 0 0)
   obtain ⟨s0,s1,_,_⟩:=cells_2 hV
   refine bodyPost_ret (v:=.tuple #[.agg #[.slice none 0 0,.slice none 0 0],.bool false]) (by simp [results,Tryz.results36,go_sem,s0,s1]) rfl ?_
   rw [E.out]
   exact PlQ.none ((HB.out.2.1.setCell (p:=⟨w.heap.size+1,0,none⟩) (Nat.le_add_right _ _) _).setCell (p:=⟨w.heap.size+1,1,none⟩) (Nat.le_add_right _ _) _)
 | some tb =>
   obtain ⟨t,b⟩:=tb
   obtain ⟨rk,rb⟩:=hy1 t b hq
   obtain ⟨E,et,hgd⟩:=replyOk_some hq ms ps
   obtain ⟨ka,ks,rfl,_⟩:=encK_open rk
   obtain ⟨ba,rfl⟩:=encB_ptr rb
   have E:=Lib.hid E
   have HR:=Lib.hid (And.intro rk (And.intro rb (And.intro et hgd)))
   have C1:=Lib.hid (CL.out w1 hb1)
   clear hn1 hy1 hq hb1 rk rb et hgd CL
   cases hlg:legalOk s ms ps with
   | false =>
     rw [hlg] at C1
     have E:=Lib.hid (show replyOk s text ms ps=none by rw [E.out,hlg,replyIn_no])
     clear hlg z0 z1 f0 f1
     go_wp2_with fail
     (with_reducible refine C1.out.mono ?_)
     rintro en w2 ⟨rfl,hb2⟩
     have b3:=(hb2.block _ (lt_of_heap HB.out.2.2)).trans HB.out.2.2
     obtain ⟨z0,z1,f0,f1⟩:=cells_2 b3
     have HB2:=Lib.hid (And.intro (zzT HB.out.2.1 hb2) b3)
     clear hb2 d0 d1 b3
     go_wp2_with fail
     have hV:=set_two' HB2.out.2 (.slice none 0 0) (.slice none 0 0)
     obtain ⟨s0,s1,_,_⟩:=cells_2 hV
     refine bodyPost_ret (v:=.tuple #[.agg #[.slice none 0 0,.slice none 0 0],.bool false]) (by simp [results,Tryz.results36,go_sem,s0,s1]) rfl ?_
     rw [E.out]
     exact PlQ.none ((HB2.out.1.setCell (p:=⟨w.heap.size+1,0,none⟩) (Nat.le_add_right _ _) _).setCell (p:=⟨w.heap.size+1,1,none⟩) (Nat.le_add_right _ _) _)
   | true =>
     rw [hlg] at C1
     have HOK:=Lib.hid (legalOk_ok hlg)
     have E:=Lib.hid (show replyOk s text ms ps=replyIn t b (ms.zip ps) true ms.length by rw [E.out,hlg])
     have hml:ms.length<=60:=by have h1:=zip_len HOK.out;have h2:=valid_len (playOk_zip HOK.out).2.1;omega
     clear hlg z0 z1 f0 f1
     go_wp2_with fail
     (with_reducible refine C1.out.mono ?_)
     rintro en w2 ⟨rfl,hb2⟩
     have hb12:=zzT HB.out.1 hb2
     have e0:=(hb2.cell (World.block_lt_of_cell? _ _ d0)).trans d0
     have e1:=(hb2.cell (World.block_lt_of_cell? _ _ d1)).trans d1
     have b3:=(hb2.block _ (lt_of_heap HB.out.2.2)).trans HB.out.2.2
     obtain ⟨z0,z1,f0,f1⟩:=cells_2 b3
     rcases Nat.mod_two_eq_zero_or_one ms.length with hmd | hmd
     ·have hmi:(ms.length:Int).tmod 2=0:=by rw [Int.tmod_eq_emod_of_nonneg (by omega)];omega
      have E:=Lib.hid (show replyOk s text ms ps=none by rw [E.out,replyIn_even t b _ _ hmd])
      have HB2:=Lib.hid (And.intro (zzT HB.out.2.1 hb2) b3)
      clear hb2 d0 d1 hb12 b3 C1 HP HG hmd
      go_wp2_with fail
      have hV:=set_two' HB2.out.2 (.slice none 0 0) (.slice none 0 0)
      obtain ⟨s0,s1,_,_⟩:=cells_2 hV
      refine bodyPost_ret (v:=.tuple #[.agg #[.slice none 0 0,.slice none 0 0],.bool false]) (by simp [results,Tryz.results36,go_sem,s0,s1]) rfl ?_
      rw [E.out]
      exact PlQ.none ((HB2.out.1.setCell (p:=⟨w.heap.size+1,0,none⟩) (Nat.le_add_right _ _) _).setCell (p:=⟨w.heap.size+1,1,none⟩) (Nat.le_add_right _ _) _)
     have hmi:(ms.length:Int).tmod 2=1:=by rw [Int.tmod_eq_emod_of_nonneg (by omega)];omega
     have hpl:=HP.out w2 hb12 HOK.out
     rw [<- HR.out.2.2.1] at hpl
     have C2:=Lib.hid (follows_any (fun _=>True) t b (ms.zip ps) (.pointer (some ⟨ka,0,none⟩)) (.pointer (some ⟨ba,0,none⟩)) _ _ w2 (HG.out w2 hb12)
      ((Rep.below hb2 fun _ _=>trivial) HR.out.1) ((Rep.below hb2 fun _ _=>trivial) HR.out.2.1) ⟨(Rep.keep fun b o _ ho=>⟨trivial,ho⟩).1 _ _ hpl.m,(Rep.keep fun b o _ ho=>⟨trivial,ho⟩).1 _ _ hpl.p,hpl.ok,hpl.l⟩ HR.out.2.2.2.atoms HR.out.2.2.2.fit HR.out.2.2.2.wf)
     have HPL:=Lib.hid hpl
     have HMD:=Lib.hid hmd
     have HB2:=Lib.hid (And.intro (zzT HB.out.2.1 hb2) (And.intro b3 (And.intro hb12 hb2)))
     obtain ⟨r,hr⟩:=zzN (decide (followsTo t b (ms.zip ps) (ms.zip ps).length))
     rw [hr] at C2
     clear hb2 d0 d1 hb12 hpl C1 HP b3 hmd
     cases r with
     | false =>
       have E:=Lib.hid (show replyOk s text ms ps=none by rw [E.out,replyIn_off t b _ _ _ hr])
       clear hr z0 z1 f0 f1
       go_wp2_with fail
       (with_reducible refine C2.out.mono ?_)
       rintro en w3 ⟨rfl,hb3⟩
       have b3:=(hb3.block _ (lt_of_heap HB2.out.2.1)).trans HB2.out.2.1
       obtain ⟨z0,z1,f0,f1⟩:=cells_2 b3
       have HB3:=Lib.hid (And.intro (zzT HB2.out.1 hb3) b3)
       clear hb3 b3
       go_wp2_with fail
       have hV:=set_two' HB3.out.2 (.slice none 0 0) (.slice none 0 0)
       obtain ⟨s0,s1,_,_⟩:=cells_2 hV
       refine bodyPost_ret (v:=.tuple #[.agg #[.slice none 0 0,.slice none 0 0],.bool false]) (by simp [results,Tryz.results36,go_sem,s0,s1]) rfl ?_
       rw [E.out]
       exact PlQ.none ((HB3.out.1.setCell (p:=⟨w.heap.size+1,0,none⟩) (Nat.le_add_right _ _) _).setCell (p:=⟨w.heap.size+1,1,none⟩) (Nat.le_add_right _ _) _)
     | true =>
       have E:=Lib.hid (show replyOk s text ms ps=replyTo t b (ms.zip ps) by rw [E.out,replyIn_yes t b _ HMD.out hr])
       have HF:=Lib.hid (of_decide_eq_true hr)
       clear hr z0 z1 f0 f1
       go_wp2_with fail
       (with_reducible refine C2.out.mono ?_)
       rintro en w3 ⟨rfl,hb3⟩
       have hb13:=zzT HB2.out.2.2.1 hb3
       have g0:=(hb3.cell (World.block_lt_of_cell? _ _ e0)).trans e0
       have g1:=(hb3.cell (World.block_lt_of_cell? _ _ e1)).trans e1
       have b3:=(hb3.block _ (lt_of_heap HB2.out.2.1)).trans HB2.out.2.1
       have hlen:=zip_len HOK.out
       have h13:=zzT HB2.out.2.2.2 hb3
       have C3:=Lib.hid (reply_any (fun _=>True) t b (ms.zip ps) (ms.length-1) (.pointer (some ⟨ka,0,none⟩)) (.pointer (some ⟨ba,0,none⟩)) _ _ w3 (HG.out w3 hb13)
        ((Rep.below h13 fun _ _=>trivial) HR.out.1) ((Rep.below h13 fun _ _=>trivial) HR.out.2.1) (PlIn.below ⟨(Rep.keep fun b o _ ho=>⟨trivial,ho⟩).1 _ _ HPL.out.m,(Rep.keep fun b o _ ho=>⟨trivial,ho⟩).1 _ _ HPL.out.p,HPL.out.ok,HPL.out.l⟩ hb3) HR.out.2.2.2.atoms HR.out.2.2.2.fit HR.out.2.2.2.wf
        (by have:=HMD.out;omega) (by have:=HMD.out;omega) (fun i hi ho=>HF.out i (by omega) ho))
       have HB3:=Lib.hid (And.intro (zzT HB2.out.1 hb3) b3)
       obtain ⟨o,ho⟩:=zzN (replyTo t b (ms.zip ps))
       rw [ho] at C3 E
       clear hb3 b3 hb13 h13 hlen ho C2 e0 e1
       go_wp2_with fail
       (with_reducible refine C3.out.mono ?_)
       rintro en w4 ⟨a8,c8,a9,c9,rfl,hb4,hpn,hfn⟩
       have b3:=(hb4.block _ (lt_of_heap HB3.out.2)).trans HB3.out.2
       obtain ⟨z0,z1,f0,f1⟩:=cells_2 b3
       have HB4:=Lib.hid (And.intro b3 (And.intro (zzT HB3.out.1 hb4) (And.intro hpn (And.intro hfn (show w.heap.size+1<w3.heap.size from lt_of_heap HB3.out.2)))))
       obtain ⟨L,hL⟩:=zzN ((o.getD []).length)
       obtain ⟨q,hq⟩:=zzN (o.isSome)
       have HQ:=Lib.hid hq
       rw [hL] at HB4 ⊢
       rw [hq]
       have HL:=Lib.hid hL
       clear hb4 b3 hpn hfn C3 g0 g1 hL hq
       go_wp2_with fail
       have hV:=set_two' HB4.out.1 (.slice a8 L c8) (.slice a9 L c9)
       obtain ⟨s0',s1',_,_⟩:=cells_2 hV
       have hoth:∀ g,g≠w.heap.size+1->((w4.setCell ⟨w.heap.size+1,0,none⟩ (.slice a8 L c8)).setCell ⟨w.heap.size+1,1,none⟩ (.slice a9 L c9)).heap[g]? = w4.heap[g]?:=fun g hg=>by
        rw [Below.heap_setCell _ _ _ _ (by show g≠w.heap.size+1;exact hg),Below.heap_setCell _ _ _ _ (by show g≠w.heap.size+1;exact hg)]
       refine bodyPost_ret (v:=.tuple #[.agg #[.slice a8 L c8,.slice a9 L c9],.bool q]) (by simp [results,Tryz.results36,go_sem,s0',s1']) rfl ?_
       rw [E.out]
       have hlt:=HB4.out.2.2.2.2
       refine ⟨a8,c8,a9,c9,by rw [HL.out,HQ.out],(HB4.out.2.1.setCell (p:=⟨w.heap.size+1,0,none⟩) (Nat.le_add_right _ _) _).setCell (p:=⟨w.heap.size+1,1,none⟩) (Nat.le_add_right _ _) _,?_,fun g hg=>?_⟩
       ·rw [HL.out]
        refine ⟨HB4.out.2.2.1.1.keep fun g o hg ho=>?_,HB4.out.2.2.1.2.keep fun g o hg ho=>?_⟩
        ·have:=HB4.out.2.2.2.1 g (.inl hg)
         rw [hoth g (by omega)];exact ho
        ·have:=HB4.out.2.2.2.1 g (.inr hg)
         rw [hoth g (by omega)];exact ho
       ·rw [HL.out] at hg
        have:=HB4.out.2.2.2.1 g hg
        have h5:=HW.out.2.1.size;have h6:=HB3.out.1.size
        omega
theorem replyOk_spec (s text:Bs) (ms:List Bs) (ps:List Int):replyOk s text ms ps=match specStrat s text with
 | none=>none
 | some b=>replyIn (specType s).1 b (ms.zip ps) (legalOk s ms ps) ms.length:=rfl
theorem replyTo_of {t:Ty} {b:Bd} {v:Pl} {s:St} (h:¬ v.length=60) (hr:replyAt t b v v.length=told s):replyTo t b v=(told s).map fun x=>v++[x]:=by unfold replyTo;rw [if_neg h,hr]
set_option maxRecDepth 100000 in
theorem specStrategyReply_any (F:Nat->Prop) (s text:Bs) (mv pt:Value) (ms:List Bs) (ps:List Int) (w:World) (hs:Lim s.length) (ht:Lim text.length) (hm:MsRep F w ms mv) (hp:PsRep F w ps pt) (hl:∀ x∈ms,Lim x.length) :
 Calls Tryz.prog 35 #[str s,str text,.agg #[mv,pt]] w (PlQ (replyOk s text ms ps) w):=by
 obtain ⟨ma,mc,rfl⟩:=hm.slice
 obtain ⟨pa,pc,rfl⟩:=hp.slice
 obtain ⟨W,hW,hbW,hz,b0,b1⟩:=boxes_2 w (.cells #[.slice ma ms.length mc,.slice pa ps.length pc] 33) (.cells #[.slice none 0 0,.slice none 0 0] 33)
 have C:=Lib.hid (l3Strategy_any s text hs ht W)
 have CL:=Lib.hid (fun (y:World) (hy:Below W.heap.size W y)=>specPlayLegal_any F s _ _ ms ps y hs ((hm.below hbW fun _ h=>h).below hy fun _ h=>h) ((hp.below hbW fun _ h=>h).below hy fun _ h=>h) hl)
 have HP:=Lib.hid (fun (y:World) (hy:Below W.heap.size W y) (h:playOk s ms ps=true)=>(plIn_zip (hm.below hbW fun _ h=>h) (hp.below hbW fun _ h=>h) hl h).below hy)
 have HW:=Lib.hid (And.intro hW (And.intro hbW (And.intro b0 b1)))
 clear hW hbW hz b0 b1 hs ht hm hp hl
 go_enter Tryz.func35,Tryz.ntmps35
 go_upto_region 1 with (fail)
 rw [HW.out.1]
 go_wp2_with fail
 (with_reducible refine C.out.mono ?_)
 rintro en w1 ⟨ta,tc,s',v',a2,n2,c2,a3,n3,c3,rfl,hb1,hrt,hrb⟩
 have HGD:=Lib.hid (fun b (h:specStrat s text=some b)=>(specStrat_good h).1)
 have HFO:=Lib.hid (replyOk_spec s text ms ps)
 generalize hT:(specType s).1=t at *
 obtain ⟨so,hso⟩:=zzM (specStrat s text)
 rw [<- hso] at hrb HGD HFO ⊢
 clear hso C
 obtain ⟨X,hX,hbX,hzX,x0,x1⟩:=boxes_2 w1 (.cells #[.slice ta t.args.length tc] 78) (.cells #[str s',.int .i64 v',.slice a2 n2 c2,.slice a3 n3 c3] 81)
 have hWX:Below W.heap.size W X:=zzT hb1 hbX
 obtain ⟨c0,c1,_,_⟩:=cells_2 HW.out.2.2.1
 have d0:=(hWX.cell (World.block_lt_of_cell? _ _ c0)).trans c0
 have d1:=(hWX.cell (World.block_lt_of_cell? _ _ c1)).trans c1
 have b3:=(hWX.block _ (lt_of_heap HW.out.2.2.2)).trans HW.out.2.2.2
 have t0:=one_cell x0
 obtain ⟨m0,m1,m2,m3⟩:=cells_4 x1
 have HX:=Lib.hid (And.intro hX (And.intro hWX (And.intro (zzT HW.out.2.1 hWX) b3)))
 have hrt2:Rep (fun _=>True) X (encS t) (.slice ta t.args.length tc):=(Rep.keep fun i o _ ho=>⟨trivial,by rw [hbX.block i (lt_of_heap ho)];exact ho⟩).1 _ _ hrt
 have hrb2:∀ b,so=some b->Reps (fun _=>True) X (encN b) [str s',.int .i64 v',.slice a2 n2 c2,.slice a3 n3 c3]:=fun b h=>(Rep.keep fun i o _ ho=>⟨trivial,by rw [hbX.block i (lt_of_heap ho)];exact ho⟩).2 _ _ (hrb b h)
 have HR:=Lib.hid (And.intro hrt2 hrb2)
 have HT:=Lib.hid hT
 obtain ⟨z0,z1,f0,f1⟩:=cells_2 b3
 clear c0 c1 hb1 hX hbX hzX x0 x1 hWX hrt hrb hrt2 hrb2 hT b3
 go_upto_region 2 with (fail)
 rw [HX.out.1]
 cases so with
 | none =>
   have E:Hid (replyOk s text ms ps=none):=Lib.hid HFO.out
   clear HFO
   go_wp2_with fail
   have hV:=set_two' HX.out.2.2.2 (.slice none 0 0) (.slice none 0 0)
   obtain ⟨s0,s1,_,_⟩:=cells_2 hV
   refine bodyPost_ret (v:=.tuple #[.agg #[.slice none 0 0,.slice none 0 0],.bool false]) (by simp [results,Tryz.results35,go_sem,s0,s1]) rfl ?_
   rw [E.out]
   exact PlQ.none ((HX.out.2.2.1.setCell (p:=⟨w.heap.size+1,0,none⟩) (Nat.le_add_right _ _) _).setCell (p:=⟨w.heap.size+1,1,none⟩) (Nat.le_add_right _ _) _)
 | some b =>
   have E:replyOk s text ms ps=replyIn t b (ms.zip ps) (legalOk s ms ps) ms.length:=HFO.out
   have hgd:=HGD.out b rfl
   have C1:=CL.out X HX.out.2.1
   clear HFO HGD CL
   cases hlg:legalOk s ms ps with
   | false =>
     rw [hlg] at E C1
     have E:=Lib.hid (E.trans (replyIn_no _ _ _ _))
     have C1:=Lib.hid C1
     clear hlg hgd z0 z1 f0 f1
     go_wp2_with fail
     (with_reducible refine C1.out.mono ?_)
     rintro en w2 ⟨rfl,hb2⟩
     have b3:=(hb2.block _ (lt_of_heap HX.out.2.2.2)).trans HX.out.2.2.2
     obtain ⟨z0,z1,f0,f1⟩:=cells_2 b3
     have HB2:=Lib.hid (And.intro (zzT HX.out.2.2.1 hb2) b3)
     clear hb2 d0 d1 t0 m0 m1 m2 m3 b3
     go_wp2_with fail
     have hV:=set_two' HB2.out.2 (.slice none 0 0) (.slice none 0 0)
     obtain ⟨s0,s1,_,_⟩:=cells_2 hV
     refine bodyPost_ret (v:=.tuple #[.agg #[.slice none 0 0,.slice none 0 0],.bool false]) (by simp [results,Tryz.results35,go_sem,s0,s1]) rfl ?_
     rw [E.out]
     exact PlQ.none ((HB2.out.1.setCell (p:=⟨w.heap.size+1,0,none⟩) (Nat.le_add_right _ _) _).setCell (p:=⟨w.heap.size+1,1,none⟩) (Nat.le_add_right _ _) _)
   | true =>
     rw [hlg] at E C1
     have HOK:=Lib.hid (legalOk_ok hlg)
     have hlen:=zip_len HOK.out
     have hv60:=valid_len (playOk_zip HOK.out).2.1
     have hml:ms.length<=60:=by omega
     have HLEN:=Lib.hid hlen
     have E:=Lib.hid E
     have C1:=Lib.hid C1
     have HG:=Lib.hid hgd
     clear hlg hgd hlen hv60 z0 z1 f0 f1
     go_wp2_with fail
     (with_reducible refine C1.out.mono ?_)
     rintro en w2 ⟨rfl,hb2⟩
     have hk:∀ (a:Addr) (u:Value),X.cell? a=some u->w2.cell? a=some u:=fun a u h=>(hb2.cell (World.block_lt_of_cell? _ _ h)).trans h
     have e0:=hk _ _ d0;have e1:=hk _ _ d1;have u0:=hk _ _ t0;have y0:=hk _ _ m0;have y1:=hk _ _ m1;have y2:=hk _ _ m2;have y3:=hk _ _ m3
     have b3:=(hb2.block _ (lt_of_heap HX.out.2.2.2)).trans HX.out.2.2.2
     obtain ⟨z0,z1,f0,f1⟩:=cells_2 b3
     have HB2:=Lib.hid (And.intro (zzT HX.out.2.2.1 hb2) (And.intro b3 hb2))
     have HPL:=Lib.hid (HP.out w2 (zzT HX.out.2.1 hb2) HOK.out)
     clear hk d0 d1 t0 m0 m1 m2 m3 b3 hb2 C1 HP
     rcases Nat.mod_two_eq_zero_or_one ms.length with hmd | hmd
     ·have hmi:(ms.length:Int).tmod 2=0:=by rw [Int.tmod_eq_emod_of_nonneg (by omega)];omega
      have E:=Lib.hid (E.out.trans (replyIn_even t b _ _ hmd))
      clear hmd
      go_wp2_with fail
      have hV:=set_two' HB2.out.2.1 (.slice none 0 0) (.slice none 0 0)
      obtain ⟨s0,s1,_,_⟩:=cells_2 hV
      refine bodyPost_ret (v:=.tuple #[.agg #[.slice none 0 0,.slice none 0 0],.bool false]) (by simp [results,Tryz.results35,go_sem,s0,s1]) rfl ?_
      rw [E.out]
      exact PlQ.none ((HB2.out.1.setCell (p:=⟨w.heap.size+1,0,none⟩) (Nat.le_add_right _ _) _).setCell (p:=⟨w.heap.size+1,1,none⟩) (Nat.le_add_right _ _) _)
     have hmi:(ms.length:Int).tmod 2=1:=by rw [Int.tmod_eq_emod_of_nonneg (by omega)];omega
     have HMD:=Lib.hid hmd
     clear hmd
     have h60:¬ (60:Int)<=(ms.length:Int):=by have:=HMD.out;omega
     have h60':¬ 60<=ms.length:=by omega
     have hpl:=HPL.out
     have C2:=l3Follows_any t b (ms.zip ps) (.slice ta t.args.length tc) (.slice ma ms.length mc) (.slice pa ps.length pc) [str s',.int .i64 v',.slice a2 n2 c2,.slice a3 n3 c3] w2 ((Rep.below HB2.out.2.2 fun _ h=>h) HR.out.1) ((Rep.keep fun i o hi ho=>⟨hi,by rw [HB2.out.2.2.block i (lt_of_heap ho)];exact ho⟩).2 _ _ (HR.out.2 b rfl))
      ⟨(Rep.keep fun b o _ ho=>⟨trivial,ho⟩).1 _ _ hpl.m,(Rep.keep fun b o _ ho=>⟨trivial,ho⟩).1 _ _ hpl.p,hpl.ok,hpl.l⟩ HG.out.atoms HG.out.fit HG.out.wf
     obtain ⟨r,hr⟩:=zzN (decide (followsTo t b (ms.zip ps) (ms.zip ps).length))
     rw [hr] at C2
     have C2:=Lib.hid (show Calls Tryz.prog 62 #[.agg #[.slice ta t.args.length tc],.agg #[str s',.int .i64 v',.slice a2 n2 c2,.slice a3 n3 c3],.agg #[.slice ma ms.length mc,.slice pa ps.length pc]] w2 _ from C2)
     clear hpl
     cases r with
     | false =>
       have E:=Lib.hid (E.out.trans (replyIn_off t b _ _ _ hr))
       clear hr z0 z1 f0 f1
       go_wp2_with fail
       (with_reducible refine C2.out.mono ?_)
       rintro en w3 ⟨rfl,hb3⟩
       have b3:=(hb3.block _ (lt_of_heap HB2.out.2.1)).trans HB2.out.2.1
       obtain ⟨z0,z1,f0,f1⟩:=cells_2 b3
       have HB3:=Lib.hid (And.intro (zzT HB2.out.1 hb3) b3)
       clear hb3 b3
       go_wp2_with fail
       have hV:=set_two' HB3.out.2 (.slice none 0 0) (.slice none 0 0)
       obtain ⟨s0,s1,_,_⟩:=cells_2 hV
       refine bodyPost_ret (v:=.tuple #[.agg #[.slice none 0 0,.slice none 0 0],.bool false]) (by simp [results,Tryz.results35,go_sem,s0,s1]) rfl ?_
       rw [E.out]
       exact PlQ.none ((HB3.out.1.setCell (p:=⟨w.heap.size+1,0,none⟩) (Nat.le_add_right _ _) _).setCell (p:=⟨w.heap.size+1,1,none⟩) (Nat.le_add_right _ _) _)
     | true =>
       have E:=Lib.hid (E.out.trans (replyIn_yes t b _ HMD.out hr))
       have HF:=Lib.hid (of_decide_eq_true hr)
       clear hr z0 z1 f0 f1
       go_wp2_with fail
       (with_reducible refine C2.out.mono ?_)
       rintro en w3 ⟨rfl,hb3⟩
       have hk:∀ (a:Addr) (u:Value),w2.cell? a=some u->w3.cell? a=some u:=fun a u h=>(hb3.cell (World.block_lt_of_cell? _ _ h)).trans h
       have d0:=hk _ _ e0;have d1:=hk _ _ e1;have t0:=hk _ _ u0;have m0:=hk _ _ y0;have m1:=hk _ _ y1;have m2:=hk _ _ y2;have m3:=hk _ _ y3
       have h23:=zzT HB2.out.2.2 hb3
       have hpl:=HPL.out.below hb3
       obtain ⟨st,hand,hst,hfit⟩:=place_fits HG.out.atoms HG.out.fit HG.out.wf hpl.ok (ms.length-1) (by have:=HMD.out;have:=HLEN.out;omega) (by have:=HMD.out;omega) (fun i hi ho=>HF.out i (by have:=HLEN.out;omega) ho)
       have C3:=Lib.hid (show Calls Tryz.prog 76 #[.agg #[.slice ta t.args.length tc],.agg #[str s',.int .i64 v',.slice a2 n2 c2,.slice a3 n3 c3],.agg #[.slice ma ms.length mc,.slice pa ps.length pc]] w3 _ from
        l3Reply_any (fun _=>True) t b (ms.zip ps) (ms.length-1) st (.slice ta t.args.length tc) (.slice ma ms.length mc) (.slice pa ps.length pc) [str s',.int .i64 v',.slice a2 n2 c2,.slice a3 n3 c3] w3 ((Rep.below h23 fun _ h=>h) HR.out.1) ((Rep.keep fun i o hi ho=>⟨hi,by rw [h23.block i (lt_of_heap ho)];exact ho⟩).2 _ _ (HR.out.2 b rfl))
         ⟨(Rep.keep fun b o _ ho=>⟨trivial,ho⟩).1 _ _ hpl.m,(Rep.keep fun b o _ ho=>⟨trivial,ho⟩).1 _ _ hpl.p,hpl.ok,hpl.l⟩ HG.out.atoms HG.out.fit HG.out.wf
         (by have:=HMD.out;have:=HLEN.out;omega) (by have:=HMD.out;omega) (fun i hi ho=>HF.out i (by have:=HLEN.out;omega) ho) hst)
       have E:=Lib.hid (show replyOk s text ms ps=(told st).map fun x=>ms.zip ps++[x] from E.out.trans (replyTo_of (by have:=HLEN.out;omega) (by
        unfold replyAt;rw [show (ms.zip ps).length=ms.length-1+1 from by have:=HMD.out;have:=HLEN.out;omega,hst];rfl)))
       have b3:=(hb3.block _ (lt_of_heap HB2.out.2.1)).trans HB2.out.2.1
       have HB3:=Lib.hid (And.intro (zzT HB2.out.1 hb3) b3)
       clear hk e0 e1 u0 y0 y1 y2 y3 hb3 b3 hpl h23 hst hfit C2
       go_wp2_with fail
       (with_reducible refine C3.out.mono ?_)
       rintro en w4 ⟨a8,n8,c8,a9,n9,c9,rfl,hb4,_,hsome⟩
       obtain ⟨Y,hY,hbY,hzY,p0⟩:=box_1 w4 (.cells #[.slice a8 n8 c8,.slice a9 n9 c9] 33)
       have b3:=(hbY.block _ (lt_of_heap ((hb4.block _ (lt_of_heap HB3.out.2)).trans HB3.out.2))).trans ((hb4.block _ (lt_of_heap HB3.out.2)).trans HB3.out.2)
       obtain ⟨z0,z1,f0,f1⟩:=cells_2 b3
       obtain ⟨q0,q1,_,_⟩:=cells_2 p0
       have hb3Y:Below w.heap.size w Y:=(zzT HB3.out.1 hb4).trans (hbY.mono (Nat.le_trans HB3.out.1.size hb4.size))
       have HY:=Lib.hid (And.intro hY (And.intro b3 (And.intro hb3Y (And.intro hbY (show w.heap.size+1<w3.heap.size from lt_of_heap HB3.out.2)))))
       have HSO:=Lib.hid hsome
       clear hY b3 hb3Y hbY hzY p0 hb4 hsome C3 d0 d1 t0 m0 m1 m2 m3
       obtain ⟨o,ho⟩:=zzN (told st)
       rw [ho] at E HSO
       rw [ho]
       cases o with
       | none =>
         have E:=Lib.hid (show replyOk s text ms ps=none from E.out)
         clear ho HSO
         go_upto_region 5 with (fail)
         rw [HY.out.1]
         go_wp2_with fail
         have hV:=set_two' HY.out.2.1 (.slice none 0 0) (.slice none 0 0)
         obtain ⟨s0,s1,_,_⟩:=cells_2 hV
         refine bodyPost_ret (v:=.tuple #[.agg #[.slice none 0 0,.slice none 0 0],.bool false]) (by simp [results,Tryz.results35,go_sem,s0,s1]) rfl ?_
         rw [E.out]
         exact PlQ.none ((HY.out.2.2.1.setCell (p:=⟨w.heap.size+1,0,none⟩) (Nat.le_add_right _ _) _).setCell (p:=⟨w.heap.size+1,1,none⟩) (Nat.le_add_right _ _) _)
       | some x =>
         obtain ⟨hpn,hfn⟩:=HSO.out x rfl
         have E:=Lib.hid (show replyOk s text ms ps=some (ms.zip ps++[x]) from E.out)
         have l8:n8=(ms.zip ps++[x]).length:=by obtain ⟨_,_,e⟩:=hpn.1.slice;exact (Value.slice.inj e).2.1
         have l9:n9=(ms.zip ps++[x]).length:=by obtain ⟨_,_,e⟩:=hpn.2.slice;exact (Value.slice.inj e).2.1
         have h9:n8=n9:=l8.trans l9.symm
         subst h9
         have hpY:=hpn.below HY.out.2.2.2.1
         have HPN:=Lib.hid (And.intro hpY (And.intro hfn (And.intro l8 l9)))
         clear ho HSO hpn hfn hpY l8 l9
         go_upto_region 5 with (fail)
         rw [HY.out.1]
         go_wp2_with fail
         have hV:=set_two' HY.out.2.1 (.slice a8 n8 c8) (.slice a9 n8 c9)
         obtain ⟨s0',s1',_,_⟩:=cells_2 hV
         have hoth:∀ g,g≠w.heap.size+1->((Y.setCell ⟨w.heap.size+1,0,none⟩ (.slice a8 n8 c8)).setCell ⟨w.heap.size+1,1,none⟩ (.slice a9 n8 c9)).heap[g]? = Y.heap[g]?:=fun g hg=>by
          rw [Below.heap_setCell _ _ _ _ (by show g≠w.heap.size+1;exact hg),Below.heap_setCell _ _ _ _ (by show g≠w.heap.size+1;exact hg)]
         refine bodyPost_ret (v:=.tuple #[.agg #[.slice a8 n8 c8,.slice a9 n8 c9],.bool true]) (by simp [results,Tryz.results35,go_sem,s0',s1']) rfl ?_
         rw [E.out]
         have hlt:=HY.out.2.2.2.2
         refine ⟨a8,c8,a9,c9,by rw [Option.getD_some,<- HPN.out.2.2.1];rfl,(HY.out.2.2.1.setCell (p:=⟨w.heap.size+1,0,none⟩) (Nat.le_add_right _ _) _).setCell (p:=⟨w.heap.size+1,1,none⟩) (Nat.le_add_right _ _) _,?_,fun g hg=>?_⟩
         ·rw [Option.getD_some,show (ms.zip ps++[x]).length=n8 from HPN.out.2.2.1.symm]
          refine ⟨?_,?_⟩
          ·exact HPN.out.1.1.keep fun g o hg ho=>by
            have:=HPN.out.2.1 g (.inl hg)
            rw [hoth g (by omega)];exact ho
          ·exact HPN.out.1.2.keep fun g o hg ho=>by
            have:=HPN.out.2.1 g (.inr hg)
            rw [hoth g (by omega)];exact ho
         ·rw [Option.getD_some,show (ms.zip ps++[x]).length=n8 from HPN.out.2.2.1.symm] at hg
          have:=HPN.out.2.1 g hg
          have h5:=HW.out.2.1.size;have h6:=HB3.out.1.size
          omega
def IntsAt (w:World) (a:Option Addr) (zs:List Int):Prop:=∀ (j:Nat) (z:Int),zs[j]? = some z->∃ b o,a=some ⟨b,o,none⟩/\w.cell? ⟨b,o+j,none⟩=some (.int .i64 z)
theorem IntsAt.below {w w':World} {a:Option Addr} {zs:List Int} (h:IntsAt w a zs) (hb:Below w.heap.size w w'):IntsAt w' a zs:=fun j z hz=>by
 obtain ⟨b,o,e,hc⟩:=h j z hz
 exact ⟨b,o,e,(hb.cell (World.block_lt_of_cell? _ _ hc)).trans hc⟩
def SizedI (left:Nat) (n:Nat) (w:World) (en:Ending) (w':World):Prop :=
 w'=w/\(en=.returned (.int .i64 (-1))\/∃ r:Nat,en=.returned (.int .i64 (r:Nat))/\n<=left/\r<=left)
theorem szIntS_any (left:Nat) (a:Option Addr) (n c:Nat) (w:World) (hl:left<=16777216) (hx:n<=9223372036854775807) :
 Calls Tryz.prog 60 #[.slice a n c,.int .i64 (left:Nat)] w (SizedI left n w):=by
 by_cases h0:left<n
 ·have h1:(left:Int)-(n:Int)<0:=by omega
  go_enter Tryz.func60,Tryz.ntmps60
  go_wp2_with fail
  go_ret
  exact ⟨rfl,.inl rfl⟩
 ·have h1:¬ (left:Int)-(n:Int)<0:=by omega
  have hw:IntKind.i64.wrap ((left:Int)-(n:Int))=((left-n:Nat):Int):=by rw [show (left:Int)-(n:Int)=((left-n:Nat):Int) from by omega];exact wrap_nat _ (by omega)
  obtain ⟨r,hr⟩:=zzM (left-n)
  rw [<- hr] at hw
  have h2:¬ (r:Int)<0:=by omega
  have HR:=Lib.hid (show n<=left/\r<=left by omega)
  clear hr h0
  go_enter Tryz.func60,Tryz.ntmps60
  go_wp2_with fail
  go_ret
  exact ⟨rfl,.inr ⟨r,rfl,HR.out⟩⟩
def MadeI (g:Nat) (xs:List Int) (k:Nat) (w:World):Prop :=
 ∃ Y:Array Value,w.heap[g]? = some (.cells Y 3 (0,0))/\Y.size=xs.length/\∀ (j:Nat) (s:Int),j<k->xs[j]? = some s->Y[j]? = some (.int .i64 s)
theorem MadeI.cell {g:Nat} {xs:List Int} {k:Nat} {w:World} (h:MadeI g xs k w) (hk:k<xs.length):(∃ u,w.cell? ⟨g,k,none⟩=some u)/\w.frozen? ⟨g,k,none⟩=false:=by
 obtain ⟨Y,hY,hs,_⟩:=h
 exact ⟨⟨Y[k]'(by omega),by simp [World.cell?,hY,show k<Y.size by omega]⟩,by simp [World.frozen?,hY]⟩
theorem MadeI.put {g:Nat} {xs:List Int} {k:Nat} {w:World} (h:MadeI g xs k w) {s:Int} (hk:xs[k]? = some s):MadeI g xs (k+1) (w.setCell ⟨g,k,none⟩ (.int .i64 s)):=by
 obtain ⟨Y,hY,hs,hj⟩:=h
 refine ⟨Y.setIfInBounds k (.int .i64 s),setCell_at hY,by simp [hs],fun j s' hj' hs'=>?_⟩
 have hlt:=(List.getElem?_eq_some_iff.1 hk).1
 rcases Nat.lt_or_ge j k with h | h
 ·rw [Array.getElem?_setIfInBounds_ne (by omega)];exact hj j s' h hs'
 ·obtain rfl:j=k:=by omega
  rw [hk] at hs';simp at hs';subst hs'
  rw [Array.getElem?_setIfInBounds_self_of_lt (by omega)]
set_option maxRecDepth 100000 in
theorem toIntS_own (a:Option Addr) (c:Nat) (xs:List Int) (w:World) (h:IntsAt w a xs) (hx:xs.length<=16777216) :
 Calls Tryz.prog 64 #[.slice a xs.length c] w fun en w'=>∃ c',en=.returned (.slice (some ⟨w.heap.size,0,none⟩) xs.length c')/\Own w' 3 1 (.slice (some ⟨w.heap.size,0,none⟩) xs.length c') xs.length (zsV xs)/\Below w.heap.size w w':=by
 have H:=Lib.hid h;clear h
 obtain ⟨X,hX,hmk⟩:∃ X:Array Value,X.size=xs.length/\(Instr.makeSlice 31 (.int .i64 (xs.length:Int)) (.int .i64 (xs.length:Int))).run Tryz.prog w=.ok (.slice (some ⟨w.heap.size,0,none⟩) xs.length xs.length) (w.alloc (.cells X 3)):=by
  obtain ⟨i,hi,hz,hsize,hby⟩:=info_parts Tryz.infoInt2
  have hr:=run_makeSlice (P:=Tryz.prog) w 31 3 i _ Tryz.underlying31 hi hz .i64 .i64 (xs.length:Int) (xs.length:Int) (by omega) (by omega) (by rw [hsize];simp;omega) (by rw [hby];omega) (by omega)
  simp only [Int.toNat_natCast] at hr
  exact ⟨_,by rw [size_madeCells,hsize,Nat.mul_one],hr⟩
 have HX:=Lib.hid hX;clear hX
 go_enter Tryz.func64,Tryz.ntmps64
 go_wp2_with fail
 go_loopw [4] (fun i wr=>∃ k:Nat,k<=xs.length/\i=.int .i64 k/\Below w.heap.size w wr/\MadeI w.heap.size xs k wr) (fun i _=>xs.length-(intOf i).toNat)
 case atStart=>exact ⟨0,Nat.zero_le _,rfl,(Below.refl _ _).alloc (Nat.le_refl _) _,X,heap_new _ _,HX.out,fun j s h=>by omega⟩
 case round =>
  clear hmk
  obtain ⟨k,hk,rfl,hb,hm⟩:=hrel
  by_cases hlt:k<xs.length
  ·obtain ⟨s,hks⟩:∃ s,xs[k]? = some s:=⟨xs[k],by simp [hlt]⟩
   obtain ⟨b,o,e,hc⟩:=H.out.below hb k s hks
   subst e
   obtain ⟨⟨u,hu⟩,hf⟩:=hm.cell hlt
   have HP:=Lib.hid (hm.put hks);have HB:=Lib.hid hb
   clear hks hm hb
   have hlt':(k:Int)<(xs.length:Int):=by omega
   go_wp2_with fail
   go_roundw
   case rel=>exact ⟨k+1,by omega,by go_num,HB.out.setCell (p:=⟨w.heap.size,k,none⟩) (Nat.le_refl _) _,HP.out⟩
   case measure=>simp [intOf];omega
  ·obtain rfl:k=xs.length:=by omega
   have HM:=Lib.hid hm;clear hm
   go_wp2_with fail
   go_ret
   refine ⟨_,rfl,?_,hb⟩
   obtain ⟨Y,hY,hsz,hj⟩:=HM.out
   refine ⟨by simp [zsV],.inr ⟨_,_,Y,rfl,Nat.zero_le _,hY,Nat.le_refl _,by unfold maxLen;omega,by omega,?_⟩⟩
   apply List.ext_getElem?
   intro j
   rw [Nat.mul_one,List.getElem?_take,Array.getElem?_toList]
   unfold zsV
   rw [List.getElem?_map]
   split
   ·rename_i hj2
    rw [hj j xs[j] hj2 (List.getElem?_eq_getElem hj2),List.getElem?_eq_getElem hj2];rfl
   ·rename_i hj2
    rw [List.getElem?_eq_none (by omega)];rfl
def SizedL (left:Nat) (xs:List Bs) (w:World) (en:Ending) (w':World):Prop :=
 w'=w/\(en=.returned (.int .i64 (-1))\/∃ r:Nat,en=.returned (.int .i64 (r:Nat))/\r<=left/\xs.length<=left/\∀ s∈xs,s.length<=left)
theorem szStrings_le (left:Nat) (a:Option Addr) (c:Nat) (xs:List Bs) (w:World) (h:StrsAt w a xs) (hl:left<=16777216) (hx:xs.length<=9223372036854775807) (hs:∀ s∈xs,s.length<=9223372036854775807) :
 Calls Tryz.prog 59 #[.slice a xs.length c,.int .i64 (left:Nat)] w (SizedL left xs w):=by
 have H:=Lib.hid h;have HS:=Lib.hid hs;clear h hs
 by_cases h0:left<xs.length
 ·have h1:(left:Int)-(xs.length:Int)<0:=by omega
  go_enter Tryz.func59,Tryz.ntmps59
  go_wp2_with fail
  go_ret
  exact ⟨rfl,.inl rfl⟩
 have h1:¬ (left:Int)-(xs.length:Int)<0:=by omega
 have hxl:xs.length<=16777216:=by omega
 go_enter Tryz.func59,Tryz.ntmps59
 go_wp2_with fail
 go_loopw [1,5] (fun l i wr=>∃ k r:Nat,k<=xs.length/\i=.int .i64 k/\l=.int .i64 (r:Nat)/\r<=left/\(∀ s∈xs.take k,s.length<=left)/\wr=w) (fun _ i _=>xs.length-(intOf i).toNat)
 case atStart=>exact ⟨0,left-xs.length,Nat.zero_le _,rfl,by go_num,by omega,by simp,rfl⟩
 case round =>
  obtain ⟨k,r,hk,rfl,rfl,hr,hall,rfl⟩:=hrel
  have HA:=Lib.hid hall;clear hall
  by_cases hlt:k<xs.length
  ·obtain ⟨s,hks⟩:∃ s,xs[k]? = some s:=⟨xs[k],by simp [hlt]⟩
   obtain ⟨b,o,e,hc⟩:=H.out k s hks
   subst e
   have hs9:=HS.out s (List.mem_of_getElem? hks)
   have HK:=Lib.hid hks;clear hks
   have hlt':(k:Int)<(xs.length:Int):=by omega
   by_cases hneg:r<s.length
   ·have hneg':(r:Int)-(s.length:Int)<0:=by omega
    go_wp2_with fail
    go_ret
    exact ⟨rfl,.inl rfl⟩
   ·have hneg':¬ (r:Int)-(s.length:Int)<0:=by omega
    have hsl:s.length<=16777216:=by omega
    have HA2:Hid (∀ x∈xs.take (k+1),x.length<=left):=by
     show ∀ x∈xs.take (k+1),x.length<=left
     intro x hx
     rw [List.take_add_one,HK.out] at hx
     rcases List.mem_append.1 hx with hx | hx
     ·exact HA.out x hx
     ·simp at hx;subst hx;omega
    go_wp2_with fail
    go_roundw
    case rel=>exact ⟨k+1,r-s.length,by omega,by go_num,by go_num,by omega,HA2.out,trivial⟩
    case measure=>simp [intOf];omega
  ·obtain rfl:k=xs.length:=by omega
   go_wp2_with fail
   go_ret
   exact ⟨rfl,.inr ⟨r,rfl,hr,by omega,by have:=HA.out;rwa [List.take_length] at this⟩⟩
def SizedP (left:Nat) (ms:List Bs) (ps:List Int) (w:World) (en:Ending) (w':World):Prop :=
 Below w.heap.size w w'/\(en=.returned (.int .i64 (-1))\/∃ r:Nat,en=.returned (.int .i64 (r:Nat))/\ms.length<=left/\ps.length<=left/\∀ s∈ms,s.length<=left)
set_option maxRecDepth 100000 in
theorem szPlay_any (left:Nat) (a a2:Option Addr) (c c2:Nat) (ms:List Bs) (ps:List Int) (w:World) (h:StrsAt w a ms) (hl:left<=16777216) (hx:ms.length<=9223372036854775807) (hs:∀ s∈ms,s.length<=9223372036854775807) (hp:ps.length<=9223372036854775807) :
 Calls Tryz.prog 18 #[.agg #[.slice a ms.length c,.slice a2 ps.length c2],.int .i64 (left:Nat)] w (SizedP left ms ps w):=by
 obtain ⟨W,hW,hbW,hz,b0⟩:=box_1 w (.cells #[.slice a ms.length c,.slice a2 ps.length c2] 35)
 obtain ⟨c0,c1,_,_⟩:=cells_2 b0
 have C1:=Lib.hid (szStrings_le left a c ms W (h.below hbW) hl hx hs)
 have C2:=Lib.hid (fun r (hr:r<=left)=>szIntS_any r a2 ps.length c2 W (by omega) hp)
 have HW:=Lib.hid (And.intro hW hbW)
 clear hW hbW hz b0 h hl hx hs hp
 go_enter Tryz.func18,Tryz.ntmps18
 go_upto_region 1 with (fail)
 rw [HW.out.1]
 go_wp2_with fail
 (with_reducible refine C1.out.mono ?_)
 rintro en w1 ⟨e,h1⟩
 subst w1
 rcases h1 with rfl | ⟨r,rfl,hr,hn,hall⟩
 ·go_wp2_with fail
  go_ret
  exact ⟨HW.out.2,.inl rfl⟩
 ·have hr0:¬ (r:Int)<0:=by omega
  have C3:=Lib.hid (C2.out r hr)
  have HA:=Lib.hid (And.intro hr (And.intro hn hall))
  clear hr hn hall C2
  go_wp2_with fail
  (with_reducible refine C3.out.mono ?_)
  rintro en w2 ⟨e,h2⟩
  subst w2
  rcases h2 with rfl | ⟨r2,rfl,hr2,_⟩
  ·go_wp2_with fail
   go_ret
   exact ⟨HW.out.2,.inl rfl⟩
  ·have hr20:¬ (r2:Int)<0:=by omega
   have HB:=Lib.hid hr2
   clear hr2
   go_wp2_with fail
   go_ret
   exact ⟨HW.out.2,.inr ⟨r2,rfl,HA.out.2.1,by have h1:=HA.out.1;have h2:=HB.out;omega,HA.out.2.2⟩⟩
def PlayOwn (B:Nat) (ms:List Bs) (ps:List Int) (mv pt:Value) (w:World):Prop:=Own w 9 1 mv ms.length (ms.map str)/\Own w 3 1 pt ps.length (zsV ps)/\∀ g,mv.ownBlock=some g\/pt.ownBlock=some g->B<=g
set_option maxRecDepth 100000 in
theorem toPlay_any (a a2:Option Addr) (c c2:Nat) (ms:List Bs) (ps:List Int) (w:World) (h:StrsAt w a ms) (h2:IntsAt w a2 ps) (hx:ms.length<=16777216) (hp:ps.length<=16777216) :
 Calls Tryz.prog 20 #[.agg #[.slice a ms.length c,.slice a2 ps.length c2]] w fun en w'=>∃ a8 c8 a9 c9,en=.returned (.agg #[.slice a8 ms.length c8,.slice a9 ps.length c9])/\Below w.heap.size w w'/\PlayOwn w.heap.size ms ps (.slice a8 ms.length c8) (.slice a9 ps.length c9) w':=by
 obtain ⟨W,hW,hbW,hz,b0,b1,b2⟩:=boxes_3 w (.cells #[.slice a ms.length c,.slice a2 ps.length c2] 35) (.cells #[.slice none 0 0,.slice none 0 0] 33) (.cells #[.slice none 0 0,.slice none 0 0] 33)
 obtain ⟨c0,c1,_,_⟩:=cells_2 b0
 have C1:=Lib.hid (toStringS_own a c ms W (h.below hbW) hx)
 have HI:=Lib.hid (fun (y:World) (hy:Below w.heap.size w y)=>toIntS_own a2 c2 ps y (h2.below hy) hp)
 have HW:=Lib.hid (And.intro hW (And.intro hbW (And.intro hz (And.intro b0 (And.intro b1 b2)))))
 clear hW hbW hz b0 b1 b2 h h2 hx hp
 go_enter Tryz.func20,Tryz.ntmps20
 go_upto_region 2 with (fail)
 rw [HW.out.1]
 go_wp2_with fail
 (with_reducible refine C1.out.mono ?_)
 rintro en w1 ⟨c8,rfl,ho1,hb1⟩
 have b2:=(hb1.block _ (lt_of_heap HW.out.2.2.2.2.2)).trans HW.out.2.2.2.2.2
 have e1:=(hb1.cell (World.block_lt_of_cell? _ _ c1)).trans c1
 obtain ⟨z0,z1,f0,f1⟩:=cells_2 b2
 obtain ⟨gS,hgS⟩:=zzN (W.heap.size)
 have hz:=HW.out.2.2.1
 have HS:=Lib.hid (And.intro hgS (And.intro ho1 (And.intro hb1 (And.intro b2 hz))))
 rw [hgS]
 clear ho1 hb1 b2 c0 c1 C1 hz hgS
 go_upto_region 3 with (fail)
 obtain ⟨X1,hX1⟩:=zzN (w1.setCell ⟨w.heap.size+2,0,none⟩ (.slice (some ⟨gS,0,none⟩) ms.length c8))
 rw [hX1]
 have b2x:X1.heap[w.heap.size+2]? = some (.cells #[.slice (some ⟨gS,0,none⟩) ms.length c8,.slice none 0 0] 33 (0,0)):=by rw [<- hX1,setCell_at' HS.out.2.2.2.1];rfl
 have oth1:∀ g,g≠w.heap.size+2->X1.heap[g]? = w1.heap[g]?:=fun g hg=>by rw [<- hX1,Below.heap_setCell _ _ _ _ (by show g≠w.heap.size+2;exact hg)]
 have hB1:Below w.heap.size w X1:=by rw [<- hX1];exact (zzT HW.out.2.1 HS.out.2.2.1).setCell (p:=⟨w.heap.size+2,0,none⟩) (Nat.le_add_right _ _) _
 have e1x:X1.cell? ⟨w.heap.size,1,none⟩=some (.slice a2 ps.length c2):=by
  simp only [World.cell?] at e1 ⊢
  rw [oth1 w.heap.size (by omega)];exact e1
 have C2:=Lib.hid (HI.out X1 hB1)
 have H1:=Lib.hid (And.intro b2x (And.intro oth1 hB1))
 clear b2x oth1 hB1 e1 z0 z1 f0 f1 HI hX1
 go_wp2_with fail
 (with_reducible refine C2.out.mono ?_)
 rintro en w2 ⟨c9,rfl,ho2,hb2⟩
 have b2y:=(hb2.block _ (lt_of_heap H1.out.1)).trans H1.out.1
 obtain ⟨z0,z1,f0,f1⟩:=cells_2 b2y
 obtain ⟨gI,hgI⟩:=zzN (X1.heap.size)
 have H2:=Lib.hid (And.intro hgI (And.intro ho2 (And.intro hb2 b2y)))
 rw [hgI]
 clear ho2 hb2 b2y C2 hgI e1x
 go_upto_region 4 with (fail)
 obtain ⟨X2,hX2⟩:=zzN (w2.setCell ⟨w.heap.size+2,1,none⟩ (.slice (some ⟨gI,0,none⟩) ps.length c9))
 rw [hX2]
 have b2z:X2.heap[w.heap.size+2]? = some (.cells #[.slice (some ⟨gS,0,none⟩) ms.length c8,.slice (some ⟨gI,0,none⟩) ps.length c9] 33 (0,0)):=by rw [<- hX2,setCell_at' H2.out.2.2.2];rfl
 have oth2:∀ g,g≠w.heap.size+2->X2.heap[g]? = w2.heap[g]?:=fun g hg=>by rw [<- hX2,Below.heap_setCell _ _ _ _ (by show g≠w.heap.size+2;exact hg)]
 have hB2:Below w.heap.size w X2:=by rw [<- hX2];exact (zzT H1.out.2.2 H2.out.2.2.1).setCell (p:=⟨w.heap.size+2,1,none⟩) (Nat.le_add_right _ _) _
 have hzW:=HS.out.2.2.2.2
 have hs1:=HS.out.2.2.1.size
 have hgS:=HS.out.1
 have hgI:=H2.out.1
 have hlt1:w.heap.size+2<w1.heap.size:=lt_of_heap HS.out.2.2.2.1
 have hX1s:w1.heap.size<=X1.heap.size:=by
  have h1:w1.heap[w1.heap.size-1]?≠none:=by rw [Array.getElem?_eq_getElem (by omega)];simp
  by_cases hc:X1.heap.size<=w1.heap.size-1
  ·have h2:=H1.out.2.1 (w1.heap.size-1)
   by_cases hq:w1.heap.size-1=w.heap.size+2
   ·have:=lt_of_heap H1.out.1;omega
   ·rw [<- h2 hq] at h1;exact absurd (Array.getElem?_eq_none hc) h1
  ·omega
 have b1z:X2.heap[w.heap.size+1]? = some (.cells #[.slice none 0 0,.slice none 0 0] 33 (0,0)):=by
  rw [oth2 _ (by omega),H2.out.2.2.1.block _ (by omega),H1.out.2.1 _ (by omega),HS.out.2.2.1.block _ (by omega)];exact HW.out.2.2.2.2.1
 have k1:∀ g o,w.heap.size+3<=g->w1.heap[g]? = some o->X2.heap[g]? = some o:=fun g o hg ho=>by
  have:=lt_of_heap ho
  rw [oth2 g (by omega),H2.out.2.2.1.block g (by omega),H1.out.2.1 g (by omega)];exact ho
 have k2:∀ g o,w.heap.size+3<=g->w2.heap[g]? = some o->X2.heap[g]? = some o:=fun g o hg ho=>by rw [oth2 g (by omega)];exact ho
 have hO1:Own X2 9 1 (.slice (some ⟨gS,0,none⟩) ms.length c8) ms.length (ms.map str):=(hgS ▸ HS.out.2.1).keep fun g o hg ho=>k1 g o (by simp [Value.ownBlock] at hg;omega) ho
 have hO2:Own X2 3 1 (.slice (some ⟨gI,0,none⟩) ps.length c9) ps.length (zsV ps):=(hgI ▸ H2.out.2.1).keep fun g o hg ho=>k2 g o (by simp [Value.ownBlock] at hg;omega) ho
 have HX:=Lib.hid (And.intro hO1 (And.intro hO2 (And.intro hB2 (And.intro b1z (show w.heap.size+3<=gS/\w.heap.size+3<=gI by omega)))))
 obtain ⟨y0,y1,_,_⟩:=cells_2 b2z
 obtain ⟨u0,u1,g0,g1⟩:=cells_2 b1z
 clear z0 z1 f0 f1 b2z oth2 hB2 hzW hs1 hgS hgI hlt1 hX1s b1z k1 k2 hO1 hO2 hX2
 go_wp2_with fail
 have hV:=set_two' HX.out.2.2.2.1 (.slice (some ⟨gS,0,none⟩) ms.length c8) (.slice (some ⟨gI,0,none⟩) ps.length c9)
 obtain ⟨s0',s1',_,_⟩:=cells_2 hV
 refine bodyPost_ret (v:=.agg #[.slice (some ⟨gS,0,none⟩) ms.length c8,.slice (some ⟨gI,0,none⟩) ps.length c9]) (by simp [results,Tryz.results20,go_sem,s0',s1']) rfl ?_
 have oth3:∀ g,g≠w.heap.size+1->((X2.setCell ⟨w.heap.size+1,0,none⟩ (.slice (some ⟨gS,0,none⟩) ms.length c8)).setCell ⟨w.heap.size+1,1,none⟩ (.slice (some ⟨gI,0,none⟩) ps.length c9)).heap[g]? = X2.heap[g]?:=fun g hg=>by
  rw [Below.heap_setCell _ _ _ _ (by show g≠w.heap.size+1;exact hg),Below.heap_setCell _ _ _ _ (by show g≠w.heap.size+1;exact hg)]
 have hg:=HX.out.2.2.2.2
 refine ⟨_,_,_,_,rfl,(HX.out.2.2.1.setCell (p:=⟨w.heap.size+1,0,none⟩) (Nat.le_add_right _ _) _).setCell (p:=⟨w.heap.size+1,1,none⟩) (Nat.le_add_right _ _) _,HX.out.1.keep fun g o hg ho=>?_,HX.out.2.1.keep fun g o hg ho=>?_,fun g hg=>?_⟩
 ·simp [Value.ownBlock] at hg;rw [oth3 g (by omega)];exact ho
 ·simp [Value.ownBlock] at hg;rw [oth3 g (by omega)];exact ho
 ·simp [Value.ownBlock] at hg;omega
theorem PlayOwn.below {B:Nat} {ms:List Bs} {ps:List Int} {mv pt:Value} {w w':World} (h:PlayOwn B ms ps mv pt w) (hb:Below w.heap.size w w'):PlayOwn B ms ps mv pt w' :=
 ⟨h.1.keep fun g o _ ho=>by rw [hb.block g (lt_of_heap ho)];exact ho,h.2.1.keep fun g o _ ho=>by rw [hb.block g (lt_of_heap ho)];exact ho,h.2.2⟩
theorem PlayOwn.rep {B:Nat} {ms:List Bs} {ps:List Int} {mv pt:Value} {w:World} (h:PlayOwn B ms ps mv pt w):MsRep (fun _=>True) w ms mv/\PsRep (fun _=>True) w ps pt:=by
 constructor
 ·refine h.1.rep (fun _ _=>trivial) ?_
  rw [show (ms.map fun m=>DV.val (str m))=(ms.map str).map DV.val from by rw [List.map_map];rfl];exact (Reps_vals _ _).2 rfl
 ·refine h.2.1.rep (fun _ _=>trivial) ?_
  rw [show (ps.map fun z=>DV.val (.int .i64 z))=(zsV ps).map DV.val from by unfold zsV;rw [List.map_map];rfl];exact (Reps_vals _ _).2 rfl
set_option maxRecDepth 100000 in
theorem eqPlay_own {B B':Nat} (ms:List Bs) (ps:List Int) (mv pt mv' pt':Value) (w:World) (h:PlayOwn B ms ps mv pt w) (h':PlayOwn B' ms ps mv' pt' w) (hl:ms.length<=16777216) (hl2:ps.length<=16777216) :
 Calls Tryz.prog 21 #[.agg #[mv,pt],.agg #[mv',pt']] w fun en w'=>en=.returned (.bool true)/\Below w.heap.size w w':=by
 obtain ⟨a1,c1,rfl⟩:=h.1.slice
 obtain ⟨a2,c2,rfl⟩:=h.2.1.slice
 obtain ⟨a1',c1',rfl⟩:=h'.1.slice
 obtain ⟨a2',c2',rfl⟩:=h'.2.1.slice
 obtain ⟨W,hW,hbW,hz,b0,b1⟩:=boxes_2 w (.cells #[.slice a1 ms.length c1,.slice a2 ps.length c2] 33) (.cells #[.slice a1' ms.length c1',.slice a2' ps.length c2'] 33)
 have C1:=Lib.hid (eqStringS_any a1 a1' c1 c1' ms W (h.below hbW).1.strs (h'.below hbW).1.strs hl)
 have C2:=Lib.hid (fun (y:World) (hy:Below W.heap.size W y)=>eqIntS_any a2 a2' ps.length c2 c2' ps y ((h.below hbW).below hy).2.1 ((h'.below hbW).below hy).2.1 hl2)
 obtain ⟨c0,k1,_,_⟩:=cells_2 b0
 obtain ⟨d0,k2,_,_⟩:=cells_2 b1
 have HW:=Lib.hid (And.intro hW hbW)
 clear h h' hW hbW hz b0 b1
 go_enter Tryz.func21,Tryz.ntmps21
 go_upto_region 1 with (fail)
 rw [HW.out.1]
 go_wp2_with fail
 (with_reducible refine C1.out.mono ?_)
 rintro en w1 ⟨rfl,hb1⟩
 have C3:=Lib.hid (C2.out w1 hb1)
 have q1:=(hb1.cell (World.block_lt_of_cell? _ _ k1)).trans k1
 have q2:=(hb1.cell (World.block_lt_of_cell? _ _ k2)).trans k2
 have HB:=Lib.hid (zzT HW.out.2 hb1)
 clear hb1 c0 d0 k1 k2 C1 C2
 go_wp2_with fail
 (with_reducible refine C3.out.mono ?_)
 rintro en w2 ⟨rfl,hb2⟩
 have HB2:=Lib.hid (zzT HB.out hb2)
 clear hb2 q1 q2
 go_wp2_with fail
 go_ret
 exact ⟨rfl,HB2.out⟩
set_option maxRecDepth 100000 in
theorem markPlay_own {B:Nat} (ms:List Bs) (ps:List Int) (mv pt:Value) (w:World) (h:PlayOwn B ms ps mv pt w) (hk:1+ms.length+ps.length<=100000000) :
 Calls Tryz.prog 37 #[.agg #[mv,pt],.int .i64 1] w fun en w'=>en=.returned (.int .i64 ((1+ms.length+ps.length:Nat):Int))/\But (fun b=>mv.ownBlock=some b\/pt.ownBlock=some b) w w':=by
 have hun:∀ g,mv.ownBlock=some g->pt.ownBlock≠some g:=fun g hg=>h.1.unlike h.2.1 (by decide) hg
 obtain ⟨a1,c1,rfl⟩:=h.1.slice
 obtain ⟨a2,c2,rfl⟩:=h.2.1.slice
 have HUN:=Lib.hid hun;clear hun
 have hb0:Below w.heap.size w (w.alloc (.cells #[.slice a1 ms.length c1,.slice a2 ps.length c2] 33)):=(Below.refl _ _).alloc (Nat.le_refl _) _
 have o1:Own (w.alloc (.cells #[.slice a1 ms.length c1,.slice a2 ps.length c2] 33)) 9 1 (.slice a1 ms.length c1) ms.length (ms.map str):=h.1.alloc _
 have C1:=markStringS_any 1 ms.length a1 c1 _ _ o1 (Nat.le_refl _) (by omega)
 rw [show ((1:Nat):Int)=1 from rfl] at C1
 have C1:=Lib.hid C1
 have O2:=Lib.hid h.2.1;have HB0:=Lib.hid hb0
 have lt1:∀ g,(Value.slice a1 ms.length c1).ownBlock=some g->g<w.heap.size:=fun g hg=>h.1.lt hg
 have LT1:=Lib.hid lt1
 clear o1 hb0 lt1 h
 go_enter Tryz.func37,Tryz.ntmps37
 go_wp2_with fail
 (with_reducible refine C1.out.mono ?_)
 rintro en w1 ⟨rfl,hb1,ho1⟩
 have hsz:=hb1.size
 rw [size_alloc] at hsz
 have d1:w1.cell? ⟨w.heap.size,1,none⟩=some (.slice a2 ps.length c2):=by
  rw [hb1.cell (by rw [size_alloc];show w.heap.size<_;omega) (fun e=>by have:=LT1.out _ e;simp at this)];simp
 have o2:Own w1 3 1 (.slice a2 ps.length c2) ps.length (zsV ps):=O2.out.keep fun g o hg ho=>by
  have hlt:=lt_of_heap ho
  rw [hb1.block g (by rw [size_alloc];omega) (fun e=>HUN.out g e hg),Below.heap_alloc _ _ _ hlt];exact ho
 have C2:=markIntS_any (1+ms.length) ps.length a2 c2 _ w1 o2 (by omega)
 rw [Int.natCast_add,show ((1:Nat):Int)=1 from rfl] at C2
 have C2:=Lib.hid C2
 have HB1:=Lib.hid hb1
 clear hb1 ho1 o2 hsz C1
 go_wp2_with fail
 (with_reducible refine C2.out.mono ?_)
 rintro en w2 ⟨rfl,hb2,_⟩
 have hbut:But (fun b=>(Value.slice a1 ms.length c1).ownBlock=some b\/(Value.slice a2 ps.length c2).ownBlock=some b) w w2:=((But.ofBelow HB0.out).trans (HB1.out.weak fun i _ h=>.inl h)).trans' hb2 fun i _ h=>.inr h
 have HB2:=Lib.hid hbut
 clear hb2 hbut C2 d1
 go_wp2_with fail
 go_ret
 refine ⟨?_,HB2.out⟩
 show Ending.returned (Value.int .i64 ((1:Int)+(ms.length:Int)+(ps.length:Int)))=_
 rw [Int.natCast_add,Int.natCast_add];rfl
def Sty (P:World->Prop):Prop:=∀ w w',P w->Below w.heap.size w w'->P w'
theorem sty_play (log:List (Bs×Int)) (mv pt:Value):Sty fun w=>PlayAt w log mv pt:=fun _ _ h hb=>h.below hb
theorem sty_mark (n k:Nat) (mv pt:Value):Sty fun w=>MarkAt w n k mv pt:=fun _ _ h hb=>h.below hb
structure R4 (W:World) (b5 b8 b10 b11:Nat) (v5 v8 v10 v11:Value×Value) (P X G:World->Prop) (wi:World):Prop where
 bel:Below W.heap.size W wi
 p:P wi
 x:X wi
 g:G wi
 c5:wi.heap[b5]? = some (.cells #[v5.1,v5.2] 35 (0,0))
 c8:wi.heap[b8]? = some (.cells #[v8.1,v8.2] 33 (0,0))
 c10:wi.heap[b10]? = some (.cells #[v10.1,v10.2] 33 (0,0))
 c11:wi.heap[b11]? = some (.cells #[v11.1,v11.2] 33 (0,0))
theorem R4.below {W:World} {b5 b8 b10 b11:Nat} {v5 v8 v10 v11:Value×Value} {P X G:World->Prop} {wi wj:World} (h:R4 W b5 b8 b10 b11 v5 v8 v10 v11 P X G wi) (hP:Sty P) (hX:Sty X) (hG:Sty G) (hb:Below wi.heap.size wi wj):R4 W b5 b8 b10 b11 v5 v8 v10 v11 P X G wj :=
 ⟨zzT h.bel hb,hP _ _ h.p hb,hX _ _ h.x hb,hG _ _ h.g hb,(hb.block _ (lt_of_heap h.c5)).trans h.c5,(hb.block _ (lt_of_heap h.c8)).trans h.c8,(hb.block _ (lt_of_heap h.c10)).trans h.c10,(hb.block _ (lt_of_heap h.c11)).trans h.c11⟩
theorem R4.mid {W:World} {b5 b8 b10 b11:Nat} {v5 v8 v10 v11:Value×Value} {P X G:World->Prop} {wi:World} (h:R4 W b5 b8 b10 b11 v5 v8 v10 v11 P X G wi) :
 wi.cell? ⟨b5,0,none⟩=some v5.1/\wi.cell? ⟨b5,1,none⟩=some v5.2/\wi.cell? ⟨b8,0,none⟩=some v8.1/\wi.cell? ⟨b8,1,none⟩=some v8.2/\wi.cell? ⟨b10,0,none⟩=some v10.1/\wi.cell? ⟨b10,1,none⟩=some v10.2/\wi.cell? ⟨b11,0,none⟩=some v11.1/\wi.cell? ⟨b11,1,none⟩=some v11.2 :=
 ⟨(cells_2 h.c5).1,(cells_2 h.c5).2.1,(cells_2 h.c8).1,(cells_2 h.c8).2.1,(cells_2 h.c10).1,(cells_2 h.c10).2.1,(cells_2 h.c11).1,(cells_2 h.c11).2.1⟩
theorem PlayOwn.notBox {B:Nat} {ms:List Bs} {ps:List Int} {mv pt:Value} {w:World} (h:PlayOwn B ms ps mv pt w) {T:TypeId} {g:Nat} {c:Array Value} {fr:Nat×Nat} (hb:w.heap[g]? = some (.cells c T fr)) (h1:9≠T) (h2:3≠T):∀ i,mv.ownBlock=some i\/pt.ownBlock=some i->¬ i=g:=by
 intro i hi e
 subst e
 exact hi.elim (h.1.notBox hb h1) (h.2.1.notBox hb h2)
theorem sty_own (B:Nat) (ms:List Bs) (ps:List Int) (mv pt:Value):Sty fun w=>PlayOwn B ms ps mv pt w:=fun _ _ h hb=>h.below hb
theorem sty_true:Sty fun _=>True:=fun _ _ _ _=>trivial
theorem replyOk_len (s text:Bs) (ms:List Bs) (ps:List Int):((replyOk s text ms ps).getD []).length<=100:=by
 unfold replyOk
 cases specStrat s text with
 | none=>simp
 | some b =>
   simp only
   unfold replyIn
   split
   ·rename_i h
    simp only [Bool.and_eq_true] at h
    have h1:=(playOk_zip (legalOk_ok h.1.1)).2.1
    have h2:=valid_len h1
    unfold replyTo
    split
    ·simp
    ·cases replyAt (specType s).1 b (ms.zip ps) (ms.zip ps).length with
     | none=>simp
     | some x=>simp only [Option.map_some,Option.getD_some,List.length_append,List.length_singleton];omega
   ·simp
set_option maxRecDepth 100000 in
theorem law_reply (s text:Bs) (a a2:Option Addr) (c c2:Nat) (ms:List Bs) (ps:List Int) (w:World) (hg:Glob w) (h:StrsAt w a ms) (h2:IntsAt w a2 ps) (hs:s.length<=9223372036854775807) (ht:text.length<=9223372036854775807) (hx:ms.length<=9223372036854775807) (hxs:∀ m∈ms,m.length<=9223372036854775807) (hp:ps.length<=9223372036854775807) :
 Calls Tryz.prog 9 #[str s,str text,.agg #[.slice a ms.length c,.slice a2 ps.length c2]] w fun en w'=>en=.returned (.bool true)/\Below w.heap.size w w':=by
 obtain ⟨W,hW,hbW,hz,b0⟩:=box_1 w (.cells #[.slice a ms.length c,.slice a2 ps.length c2] 35)
 obtain ⟨c0,c1,_,_⟩:=cells_2 b0
 have HW:=Lib.hid (And.intro hW (And.intro hbW b0))
 have C1:=szPlay_any 1048576 a a2 c c2 ms ps W (h.below hbW) (by omega) hx hxs hp
 rw [show ((1048576:Nat):Int)=1048576 from rfl] at C1
 have C1:=Lib.hid C1
 have HI:=Lib.hid (And.intro (hg.below hbW) (And.intro (h.below hbW) (h2.below hbW)))
 clear hW hbW hz b0 hg h h2 hx hxs hp
 by_cases h1:1048576<s.length
 ·have h1I:(1048576:Int)<(s.length:Int):=by omega
  go_enter Tryz.func9,Tryz.ntmps9
  go_upto_region 1 with (fail)
  rw [HW.out.1]
  go_wp2_with fail
  go_ret
  exact ⟨rfl,HW.out.2.1⟩
 have h1I:¬ (1048576:Int)<(s.length:Int):=by omega
 by_cases h3:1048576<text.length
 ·have h3I:(1048576:Int)<(text.length:Int):=by omega
  go_enter Tryz.func9,Tryz.ntmps9
  go_upto_region 1 with (fail)
  rw [HW.out.1]
  go_wp2_with fail
  go_ret
  exact ⟨rfl,HW.out.2.1⟩
 have h3I:¬ (1048576:Int)<(text.length:Int):=by omega
 have HL:=Lib.hid (show Lim s.length/\Lim text.length from ⟨show _<=_ by omega,show _<=_ by omega⟩)
 clear h1 h3
 go_enter Tryz.func9,Tryz.ntmps9
 go_upto_region 1 with (fail)
 rw [HW.out.1]
 go_wp2_with fail
 (with_reducible refine C1.out.mono ?_)
 rintro en w1 ⟨hb1,e⟩
 have d0:=(hb1.cell (World.block_lt_of_cell? _ _ c0)).trans c0
 have d1:=(hb1.cell (World.block_lt_of_cell? _ _ c1)).trans c1
 have HB1:=Lib.hid (And.intro hb1 (zzT HW.out.2.1 hb1))
 clear hb1 C1 c0 c1
 rcases e with rfl | ⟨r,rfl,hn,hn2,hall⟩
 ·go_wp2_with fail
  go_ret
  exact ⟨rfl,HB1.out.2⟩
 have hr0:¬ (r:Int)<0:=by omega
 have CT:=Lib.hid (fun (y:World) (hy:Below W.heap.size W y)=>toPlay_any a a2 c c2 ms ps y (HI.out.2.1.below hy) (HI.out.2.2.below hy) (by omega) (by omega))
 have HA:=Lib.hid (show (∀ x∈ms,Lim x.length)/\ms.length<=1048576/\ps.length<=1048576 from ⟨fun x hx=>(show x.length<=_ by have:=hall x hx;omega),by omega,by omega⟩)
 have HLEN:=Lib.hid (replyOk_len s text ms ps)
 have CSF:=Lib.hid (fun (y:World) (mv pt:Value) (hh:PlayOwn 0 ms ps mv pt y)=>specStrategyReply_any (fun _=>True) s text mv pt ms ps y HL.out.1 HL.out.2 hh.rep.1 hh.rep.2 HA.out.1)
 have CIF:=Lib.hid (fun (y:World) (hy:Below W.heap.size W y) (mv pt:Value) (hh:PlayOwn 0 ms ps mv pt y)=>implStrategyReply_any (fun _=>True) s text mv pt ms ps y (HI.out.1.below hy) HL.out.1 HL.out.2 hh.rep.1 hh.rep.2 HA.out.1)
 generalize replyOk s text ms ps=o at *
 unfold PlQ at CSF CIF
 obtain ⟨log,hlog⟩:=zzN (o.getD [])
 obtain ⟨q,hq⟩:=zzN (o.isSome)
 rw [hlog] at CSF CIF HLEN
 rw [hq] at CSF CIF
 have hqq:(q != q)=false:=by simp
 obtain ⟨L,hL⟩:=zzN (log.length)
 rw [hL] at CSF CIF
 have HLL:=Lib.hid hL
 have CT1:=Lib.hid (CT.out w1 HB1.out.1)
 clear hn hn2 hall hlog hq hL
 go_wp2_with fail
 (with_reducible refine CT1.out.mono ?_)
 rintro en w2 ⟨a3,c3,a4,c4,rfl,hb2,hp2⟩
 have CS:=Lib.hid (CSF.out w2 _ _ ⟨hp2.1,hp2.2.1,fun _ _=>Nat.zero_le _⟩)
 have hb12:=zzT HB1.out.1 hb2
 have HB2:=Lib.hid (And.intro hb12 (zzT HW.out.2.1 hb12))
 clear hb2 hp2 hb12 d0 d1 CT1 CSF
 go_wp2_with fail
 (with_reducible refine CS.out.mono ?_)
 rintro en w3 ⟨a8,c8,a9,c9,rfl,hb3,hpw,hfw⟩
 obtain ⟨W4,hW4,hbW4,hz4,x8⟩:=box_1 w3 (.cells #[.slice a8 L c8,.slice a9 L c9] 33)
 have hb14:Below W.heap.size W W4:=(zzT HB2.out.1 hb3).trans (hbW4.mono (Nat.le_trans HB2.out.1.size hb3.size))
 have x5:=(hb14.block _ (lt_of_heap HW.out.2.2)).trans HW.out.2.2
 obtain ⟨d0,d1,_,_⟩:=cells_2 x5
 have HP4:=Lib.hid (And.intro hpw (hpw.below hbW4))
 have H4:=Lib.hid (And.intro hW4 (And.intro hb14 (And.intro x8 hz4)))
 have CT2:=Lib.hid (CT.out W4 hb14)
 clear hW4 hbW4 hz4 x8 hb14 x5 hpw hfw hb3 CS
 go_upto_region 10 with (fail)
 rw [H4.out.1]
 go_wp2_with fail
 (with_reducible refine CT2.out.mono ?_)
 rintro en w5 ⟨a5,c5,a6,c6,rfl,hb5,hp5⟩
 obtain ⟨W6,hW6,hbW6,hz6,x10⟩:=box_1 w5 (.cells #[.slice a5 ms.length c5,.slice a6 ps.length c6] 33)
 have hb46:Below W4.heap.size W4 W6:=zzT hb5 hbW6
 have hb16:Below W.heap.size W W6:=zzT H4.out.2.1 hb46
 have hp6:=hp5.below hbW6
 obtain ⟨f0,f1,_,_⟩:=cells_2 x10
 have CI:=Lib.hid (CIF.out W6 hb16 _ _ ⟨hp6.1,hp6.2.1,fun _ _=>Nat.zero_le _⟩)
 have H6:=Lib.hid (And.intro hW6 (And.intro hb46 (And.intro hb16 (And.intro x10 (And.intro hp6 hz6)))))
 clear hW6 hbW6 hz6 x10 hb46 hb16 hp6 hp5 hb5 d0 d1 CT2
 go_upto_region 11 with (fail)
 rw [H6.out.1]
 go_wp2_with fail
 (with_reducible refine CI.out.mono ?_)
 rintro en w7 ⟨a12,c12,a13,c13,rfl,hb7,hpg,hfg⟩
 obtain ⟨W8,hW8,hbW8,hz8,x11⟩:=box_1 w7 (.cells #[.slice a12 L c12,.slice a13 L c13] 33)
 have hb68:Below W6.heap.size W6 W8:=zzT hb7 hbW8
 have hb48:Below W4.heap.size W4 W8:=zzT H6.out.2.1 hb68
 have hb18:Below W.heap.size W W8:=zzT H4.out.2.1 hb48
 have hS:R4 W w.heap.size w3.heap.size w5.heap.size w7.heap.size (.slice a ms.length c,.slice a2 ps.length c2) (.slice a8 L c8,.slice a9 L c9) (.slice a5 ms.length c5,.slice a6 ps.length c6) (.slice a12 L c12,.slice a13 L c13) (fun w=>PlayAt w log (.slice a8 L c8) (.slice a9 L c9)) (fun w=>PlayOwn W4.heap.size ms ps (.slice a5 ms.length c5) (.slice a6 ps.length c6) w) (fun w=>PlayAt w log (.slice a12 L c12) (.slice a13 L c13)) W8 :=
  ⟨hb18,HP4.out.2.below hb48,H6.out.2.2.2.2.1.below hb68,hpg.below hbW8,(hb18.block _ (lt_of_heap HW.out.2.2)).trans HW.out.2.2,(hb48.block _ (lt_of_heap H4.out.2.2.1)).trans H4.out.2.2.1,(hb68.block _ (lt_of_heap H6.out.2.2.2.1)).trans H6.out.2.2.2.1,x11⟩
 have hlw:∀ g,(Value.slice a8 L c8).ownBlock=some g\/(Value.slice a9 L c9).ownBlock=some g->g<W4.heap.size:=fun g h=>by
  rcases h with h | h
  ·exact HP4.out.2.1.lt h
  ·exact HP4.out.2.2.lt h
 have hlx:∀ g,(Value.slice a5 ms.length c5).ownBlock=some g\/(Value.slice a6 ps.length c6).ownBlock=some g->W4.heap.size<=g/\g<W6.heap.size:=fun g h=>by
  refine ⟨H6.out.2.2.2.2.1.2.2 g h,?_⟩
  rcases h with h | h
  ·exact H6.out.2.2.2.2.1.1.lt h
  ·exact H6.out.2.2.2.2.1.2.1.lt h
 have H8:=Lib.hid (And.intro hW8 (And.intro hS (And.intro hlw (And.intro hlx hfg))))
 clear hW8 hbW8 hz8 x11 hb68 hb48 hb18 hS hlw hlx hpg hfg hb7 f0 f1 CI
 obtain ⟨g0,g1,g2,g3,g4,g5,g6,g7⟩:=H8.out.2.1.mid
 dsimp only at g0 g1 g2 g3 g4 g5 g6 g7
 have CE:∀ (y:World) (a12 a13 a8 a9:Option Addr) (c12 c13 c8 c9:Nat),PlayAt y log (.slice a12 L c12) (.slice a13 L c13)->PlayAt y log (.slice a8 L c8) (.slice a9 L c9)->Calls Tryz.prog 21 #[.agg #[.slice a12 L c12,.slice a13 L c13],.agg #[.slice a8 L c8,.slice a9 L c9]] y fun en w'=>en=.returned (.bool true)/\Below y.heap.size y w':=fun y _ _ _ _ _ _ _ _ h h'=>eqPlay_any log _ _ _ _ y h h' (by have:=HLEN.out;omega)
 have CE:=Lib.hid CE
 have C4:=Lib.hid (CE.out W8 _ _ _ _ _ _ _ _ H8.out.2.1.g H8.out.2.1.p)
 go_upto_region 12 with (fail)
 rw [H8.out.1]
 go_wp2_with fail
 (with_reducible refine C4.out.mono ?_)
 rintro en w9 ⟨rfl,hb9⟩
 have H9:=Lib.hid (H8.out.2.1.below (sty_play _ _ _) (sty_own _ _ _ _ _) (sty_play _ _ _) hb9)
 clear hb9 C4 g0 g1 g2 g3 g4 g5 g6 g7
 have KEY:=Lib.hid (fun (y:World) (hy:Below w9.heap.size w9 y)=>(H9.out.below (sty_play _ _ _) (sty_own _ _ _ _ _) (sty_play _ _ _) hy).mid)
 have CT5:=Lib.hid (fun (y:World) (hy:Below w9.heap.size w9 y)=>CT.out y (zzT H9.out.bel hy))
 go_upto_region 14 with (fail)
 refine wp_region_noPanic ?_
 refine wp_region_S (fun w'=>Below w9.heap.size w9 w') (fun _=>false) (by kernel_rfl) ?_
 have hSd:(fun w'=>Below w9.heap.size w9 w') w9.drew:=Below.drew (Below.refl _ _)
 refine wpAnyS_take 0 (v:=?_) (by kernel_rfl) (by kernel_rfl) (by kernel_rfl) (by kernel_rfl) (fun _ _ _ _ h=>h) hSd ?_ ?_
 rotate_left
 ·(intro oi ho;simp at ho;subst ho;refine Or.inl ⟨by rfl,fun w' hw'=>?_⟩;obtain ⟨e0,e1,e2,e3,e4,e5,e6,e7⟩:=KEY.out w' hw';clear e2 e3 e6 e7;go_simp;try with_reducible rfl)
 (intro d hd;simp at hd;subst hd;simp only [Act.put,List.setIfInBounds_toArray,List.set_cons_zero,List.set_cons_succ])
 refine wpAnyS_take 1 (v:=?_) (by kernel_rfl) (by kernel_rfl) (by kernel_rfl) (by kernel_rfl) (fun _ _ _ _ h=>h) hSd ?_ ?_
 rotate_left
 ·(intro oi ho;simp at ho;subst ho;refine Or.inl ⟨by rfl,fun w' hw'=>?_⟩;obtain ⟨e0,e1,e2,e3,e4,e5,e6,e7⟩:=KEY.out w' hw';clear e2 e3 e6 e7;go_simp;try with_reducible rfl)
 (intro d hd;simp at hd;subst hd;simp only [Act.put,List.setIfInBounds_toArray,List.set_cons_zero,List.set_cons_succ])
 refine wpAnyS_one 2 (by kernel_rfl) ?_
 (intro o2 ho K' hK;simp at ho;subst ho)
 go_simp
 go_at_call 20
 (with_reducible refine (CT5.out _ hSd).mono ?_)
 rintro en x2 ⟨a7,c7,a14,c14,rfl,hb6,hp6⟩
 have hB2:Below w9.heap.size w9 x2:=zzT hSd hb6
 have CEO:=eqPlay_own ms ps _ _ _ _ x2 (H9.out.x.below hB2) hp6 (by have:=HA.out;omega) (by have:=HA.out;omega)
 refine hK.out _ _ ?_ ?_
 ·exact fun _=>hB2
 clear hK K'
 (try simp only [Act.put,List.setIfInBounds_toArray,List.set_cons_zero,List.set_cons_succ])
 refine wpAnyS_one 3 (by kernel_rfl) ?_
 (intro o3 ho K' hK;simp at ho;subst ho)
 go_simp
 go_at_call 21
 (with_reducible refine CEO.mono ?_)
 rintro en x3 ⟨rfl,hb7⟩
 have hB3:Below w9.heap.size w9 x3:=zzT hB2 hb7
 clear CEO
 refine hK.out _ _ ?_ ?_
 ·exact fun _=>hB3
 clear hK K'
 (try simp only [Act.put,List.setIfInBounds_toArray,List.set_cons_zero,List.set_cons_succ])
 have hS3:=hB3
 refine wpAnyS_take 4 (v:=?_) (by kernel_rfl) (by kernel_rfl) (by kernel_rfl) (by kernel_rfl) (fun _ _ _ _ h=>h) hS3 ?_ ?_
 rotate_left
 ·(intro oi ho;simp at ho;subst ho;refine Or.inl ⟨by rfl,fun w' hw'=>?_⟩;go_simp;try with_reducible rfl)
 (intro d hd;simp at hd;subst hd;simp only [Act.put,List.setIfInBounds_toArray,List.set_cons_zero,List.set_cons_succ])
 refine wpAnyS_done (by kernel_rfl) (NoPanic.normal ?_) _
 have HX:=Lib.hid (H9.out.below (sty_play _ _ _) (sty_own _ _ _ _ _) (sty_play _ _ _) hB3)
 clear hSd hS3 hB3 hB2 hb6 hb7 hp6 KEY CT5
 obtain ⟨g0,g1,g2,g3,g4,g5,g6,g7⟩:=HX.out.mid
 dsimp only at g0 g1 g2 g3 g4 g5 g6 g7
 have C6:=Lib.hid (markPlay_own ms ps _ _ x3 HX.out.x (by have:=HA.out;omega))
 go_wp2_with fail
 (with_reducible refine C6.out.mono ?_)
 rintro en w10 ⟨rfl,hb10⟩
 have hS10:R4 W w.heap.size w3.heap.size w5.heap.size w7.heap.size (.slice a ms.length c,.slice a2 ps.length c2) (.slice a8 L c8,.slice a9 L c9) (.slice a5 ms.length c5,.slice a6 ps.length c6) (.slice a12 L c12,.slice a13 L c13) (fun w=>PlayAt w log (.slice a8 L c8) (.slice a9 L c9)) (fun _=>True) (fun w=>PlayAt w log (.slice a12 L c12) (.slice a13 L c13)) w10:=by
  have hnb:=HX.out.x
  have hs4:=H4.out.2.1.size
  refine ⟨HX.out.bel.trans (hb10.toBelow HX.out.bel.size fun i hi e=>by have:=(H8.out.2.2.2.1 i e).1;omega),?_,trivial,?_,?_,?_,?_,?_⟩
  ·exact HX.out.p.but hb10 fun g hg e=>by have:=H8.out.2.2.1 g hg;have:=(H8.out.2.2.2.1 g e).1;omega
  ·exact HX.out.g.but hb10 fun g hg e=>by have:=H8.out.2.2.2.2 g hg;have:=(H8.out.2.2.2.1 g e).2;omega
  ·exact (hb10.block _ (lt_of_heap HX.out.c5) fun e=>hnb.notBox HX.out.c5 (by decide) (by decide) _ e rfl).trans HX.out.c5
  ·exact (hb10.block _ (lt_of_heap HX.out.c8) fun e=>hnb.notBox HX.out.c8 (by decide) (by decide) _ e rfl).trans HX.out.c8
  ·exact (hb10.block _ (lt_of_heap HX.out.c10) fun e=>hnb.notBox HX.out.c10 (by decide) (by decide) _ e rfl).trans HX.out.c10
  ·exact (hb10.block _ (lt_of_heap HX.out.c11) fun e=>hnb.notBox HX.out.c11 (by decide) (by decide) _ e rfl).trans HX.out.c11
 have H10:=Lib.hid hS10
 clear hS10 hb10 C6 g0 g1 g2 g3 g4 g5 g6 g7
 obtain ⟨g0,g1,g2,g3,g4,g5,g6,g7⟩:=H10.out.mid
 dsimp only at g0 g1 g2 g3 g4 g5 g6 g7
 obtain ⟨K,hK⟩:=zzN (1+ms.length+ps.length)
 rw [hK]
 have hK0:¬ (K:Int)<0:=by omega
 have C7:=Lib.hid (CE.out w10 _ _ _ _ _ _ _ _ H10.out.g H10.out.p)
 clear hK
 go_wp2_with fail
 (with_reducible refine C7.out.mono ?_)
 rintro en w11 ⟨rfl,hb11⟩
 have H11:=Lib.hid (H10.out.below (sty_play _ _ _) sty_true (sty_play _ _ _) hb11)
 clear hb11 C7 hK0 g0 g1 g2 g3 g4 g5 g6 g7
 obtain ⟨g0,g1,g2,g3,g4,g5,g6,g7⟩:=H11.out.mid
 dsimp only at g0 g1 g2 g3 g4 g5 g6 g7
 have C8:=markPlay_any 1 log _ _ w11 H11.out.g (by omega) (by have:=HLEN.out;omega)
 rw [HLL.out,show ((1:Nat):Int)=1 from rfl] at C8
 have C8:=Lib.hid C8
 go_wp2_with fail
 (with_reducible refine C8.out.mono ?_)
 rintro en w12 ⟨rfl,hb12,hmk⟩
 have hS12:R4 W w.heap.size w3.heap.size w5.heap.size w7.heap.size (.slice a ms.length c,.slice a2 ps.length c2) (.slice a8 L c8,.slice a9 L c9) (.slice a5 ms.length c5,.slice a6 ps.length c6) (.slice a12 L c12,.slice a13 L c13) (fun w=>PlayAt w log (.slice a8 L c8) (.slice a9 L c9)) (fun _=>True) (fun w=>MarkAt w L 1 (.slice a12 L c12) (.slice a13 L c13)) w12:=by
  have hnb:=H11.out.g
  have hs4:=H4.out.2.1.size
  have hs6:=H6.out.2.1.size
  refine ⟨H11.out.bel.trans (hb12.toBelow H11.out.bel.size fun i hi e=>by have:=H8.out.2.2.2.2 i e;omega),?_,trivial,hmk,?_,?_,?_,?_⟩
  ·exact H11.out.p.but hb12 fun g hg e=>by have:=H8.out.2.2.1 g hg;have:=H8.out.2.2.2.2 g e;omega
  ·exact (hb12.block _ (lt_of_heap H11.out.c5) fun e=>hnb.notBox H11.out.c5 (by decide) (by decide) _ e rfl).trans H11.out.c5
  ·exact (hb12.block _ (lt_of_heap H11.out.c8) fun e=>hnb.notBox H11.out.c8 (by decide) (by decide) _ e rfl).trans H11.out.c8
  ·exact (hb12.block _ (lt_of_heap H11.out.c10) fun e=>hnb.notBox H11.out.c10 (by decide) (by decide) _ e rfl).trans H11.out.c10
  ·exact (hb12.block _ (lt_of_heap H11.out.c11) fun e=>hnb.notBox H11.out.c11 (by decide) (by decide) _ e rfl).trans H11.out.c11
 have H12:=Lib.hid hS12
 clear hS12 hb12 hmk C8 g0 g1 g2 g3 g4 g5 g6 g7
 obtain ⟨g0,g1,g2,g3,g4,g5,g6,g7⟩:=H12.out.mid
 dsimp only at g0 g1 g2 g3 g4 g5 g6 g7
 have hLI:L<=100:=by have:=HLEN.out;have:=HLL.out;omega
 have C10:=fun (y:World) (h:MarkAt y L 1 (.slice a12 L c12) (.slice a13 L c13))=>heldPlay_any 1 L (.slice a12 L c12) (.slice a13 L c13) y h (by omega) (by omega)
 rw [show ((1:Nat):Int)=1 from rfl] at C10
 have C10:=Lib.hid C10
 obtain ⟨M,hM⟩:=zzN (1+L+L)
 rw [hM] at C10 ⊢
 have hM0:¬ (M:Int)<0:=by omega
 have hM1:((M:Int) != (M:Int))=false:=by simp
 have C9:=Lib.hid (C10.out w12 H12.out.g)
 clear hM hLI
 go_wp2_with fail
 (with_reducible refine C9.out.mono ?_)
 rintro en w13 ⟨rfl,hb13⟩
 have H13:=Lib.hid (H12.out.below (sty_play _ _ _) sty_true (sty_mark _ _ _ _) hb13)
 clear hb13 C9 g0 g1 g2 g3 g4 g5 g6 g7
 obtain ⟨g0,g1,g2,g3,g4,g5,g6,g7⟩:=H13.out.mid
 dsimp only at g0 g1 g2 g3 g4 g5 g6 g7
 have CT7:=Lib.hid (CT.out w13 H13.out.bel)
 go_wp2_with fail
 (with_reducible refine CT7.out.mono ?_)
 rintro en w14 ⟨a15,c15,a16,c16,rfl,hb14,hp14⟩
 have H14:=Lib.hid (H13.out.below (sty_play _ _ _) sty_true (sty_mark _ _ _ _) hb14)
 have CI2:=Lib.hid (CIF.out w14 H14.out.bel _ _ ⟨hp14.1,hp14.2.1,fun _ _=>Nat.zero_le _⟩)
 clear hb14 hp14 CT7 g0 g1 g2 g3 g4 g5 g6 g7
 go_wp2_with fail
 (with_reducible refine CI2.out.mono ?_)
 rintro en w15 ⟨a17,c17,a18,c18,rfl,hb15,hph,_⟩
 obtain ⟨W16,hW16,hbW16,hz16,x16⟩:=box_1 w15 (.cells #[.slice a17 L c17,.slice a18 L c18] 33)
 have H16:=Lib.hid (And.intro hW16 (And.intro ((H14.out.below (sty_play _ _ _) sty_true (sty_mark _ _ _ _) hb15).below (sty_play _ _ _) sty_true (sty_mark _ _ _ _) hbW16) (hph.below hbW16)))
 obtain ⟨q0,q1,_,_⟩:=cells_2 x16
 clear hW16 hbW16 hz16 x16 hph hb15 CI2
 obtain ⟨g0,g1,g2,g3,g4,g5,g6,g7⟩:=H16.out.2.1.mid
 dsimp only at g0 g1 g2 g3 g4 g5 g6 g7
 have C11:=Lib.hid (CE.out W16 _ _ _ _ _ _ _ _ H16.out.2.2 H16.out.2.1.p)
 go_upto_region 29 with (fail)
 rw [H16.out.1]
 go_wp2_with fail
 (with_reducible refine C11.out.mono ?_)
 rintro en w17 ⟨rfl,hb17⟩
 have H17:=Lib.hid (H16.out.2.1.below (sty_play _ _ _) sty_true (sty_mark _ _ _ _) hb17)
 clear hb17 C11 g0 g1 g2 g3 g4 g5 g6 g7 q0 q1
 obtain ⟨g0,g1,g2,g3,g4,g5,g6,g7⟩:=H17.out.mid
 dsimp only at g0 g1 g2 g3 g4 g5 g6 g7
 have C12:=Lib.hid (C10.out w17 H17.out.g)
 go_wp2_with fail
 (with_reducible refine C12.out.mono ?_)
 rintro en w18 ⟨rfl,hb18⟩
 have HF:=Lib.hid (HW.out.2.1.trans ((zzT H17.out.bel hb18).mono HW.out.2.1.size))
 clear hb18
 go_wp2_with fail
 go_ret
 exact ⟨rfl,HF.out⟩
end Go.Proofs.YtdfkiicodfbibaaGreatDoor

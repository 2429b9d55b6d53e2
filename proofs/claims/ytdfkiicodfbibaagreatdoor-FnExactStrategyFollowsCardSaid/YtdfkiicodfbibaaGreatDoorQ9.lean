/- Walks of functions that the statement reaches, and plain words. No conditions. -/
import Derived.Test.YtdfkiicodfbibaaGreatDoorQ7
set_option linter.unusedVariables false
set_option linter.unusedSimpArgs false
set_option maxHeartbeats 4000000
namespace Go.Proofs.YtdfkiicodfbibaaGreatDoor
open Go.RowKit
def MsRep (F:Nat->Prop) (w:World) (ms:List Bs) (x:Value):Prop:=Rep F w (.sl 9 1 ms.length (ms.map fun m=>DV.val (str m))) x
def PsRep (F:Nat->Prop) (w:World) (ps:List Int) (x:Value):Prop:=Rep F w (.sl 3 1 ps.length (ps.map fun z=>DV.val (.int .i64 z))) x
def validIn (t:Ty) (ms:List Bs) (ps:List Int):Bool:=decide (ms.length<=60) && (decide (ps.length=ms.length) && allAt t (ms.zip ps) (ms.zip ps).length)
theorem MsRep.slice {F:Nat->Prop} {w:World} {ms:List Bs} {x:Value} (h:MsRep F w ms x):∃ a c,x=.slice a ms.length c:=by
 obtain ⟨a,c,e,_⟩:=Rep_sl1_open h;exact ⟨a,c,e⟩
theorem PsRep.slice {F:Nat->Prop} {w:World} {ps:List Int} {x:Value} (h:PsRep F w ps x):∃ a c,x=.slice a ps.length c:=by
 obtain ⟨a,c,e,_⟩:=Rep_sl1_open h;exact ⟨a,c,e⟩
theorem zip_fst {ms:List Bs} {ps:List Int} (h:ps.length=ms.length):(ms.zip ps).map (·.1)=ms:=by
 rw [List.map_fst_zip (by omega)]
theorem zip_snd {ms:List Bs} {ps:List Int} (h:ps.length=ms.length):(ms.zip ps).map (·.2)=ps:=by
 rw [List.map_snd_zip (by omega)]
theorem MsRep.zip {F:Nat->Prop} {w:World} {ms:List Bs} {ps:List Int} {x:Value} (h:MsRep F w ms x) (he:ps.length=ms.length):MvRep F w (ms.zip ps) x:=by
 have h1:(ms.zip ps).length=ms.length:=by rw [List.length_zip];omega
 unfold MvRep
 rw [h1,show (ms.zip ps).map (fun m=>DV.val (str m.1))=ms.map (fun m=>DV.val (str m)) from by
  conv=>rhs;rw [<- zip_fst he]
  rw [List.map_map];rfl]
 exact h
theorem PsRep.zip {F:Nat->Prop} {w:World} {ms:List Bs} {ps:List Int} {x:Value} (h:PsRep F w ps x) (he:ps.length=ms.length):PtRep F w (ms.zip ps) x:=by
 have h1:(ms.zip ps).length=ps.length:=by rw [List.length_zip];omega
 unfold PtRep
 rw [h1,show (ms.zip ps).map (fun m=>DV.val (.int .i64 m.2))=ps.map (fun z=>DV.val (.int .i64 z)) from by
  conv=>rhs;rw [<- zip_snd he]
  rw [List.map_map];rfl]
 exact h
set_option maxRecDepth 100000 in
theorem hasPlay_any (F:Nat->Prop) (t:Ty) (kv mv pt:Value) (ms:List Bs) (ps:List Int) (w:World) (hk:Rep F w (encK t) kv) (ht:atomsT t<=15) (hm:MsRep F w ms mv) (hp:PsRep F w ps pt) (hl:∀ x∈ms,Lim x.length) :
 Calls Tryz.prog 112 #[kv,.agg #[mv,pt]] w fun en w'=>en=.returned (.bool (validIn t ms ps))/\Below w.heap.size w w':=by
 by_cases h60:ms.length<=60
 ·by_cases he:ps.length=ms.length
  ·refine (hasPlay_v F t kv mv pt (ms.zip ps) w hk ht (hm.zip he) (hp.zip he) (by rw [List.length_zip];omega) (fun x hx=>hl _ (List.of_mem_zip hx).1)).mono ?_
   rintro en w' ⟨rfl,hb⟩
   refine ⟨?_,hb⟩
   unfold validIn
   rw [decide_eq_true h60,decide_eq_true he];rfl
  ·have E:=Lib.hid (show validIn t ms ps=false by unfold validIn;rw [decide_eq_false he,Bool.false_and,Bool.and_false])
   obtain ⟨kb,ks,rfl,_⟩:=encK_open hk
   obtain ⟨ma,mc,rfl⟩:=hm.slice
   obtain ⟨pa,pc,rfl⟩:=hp.slice
   obtain ⟨W,hW,hbW,hz,b0⟩:=box_1 w (.cells #[.slice ma ms.length mc,.slice pa ps.length pc] 33)
   obtain ⟨c0,c1,_,_⟩:=cells_2 b0
   have hlen:¬ (60:Int)<(ms.length:Int):=by omega
   have hne:((ps.length:Int) != (ms.length:Int))=true:=by simp;omega
   have HW:=Lib.hid hW
   have HB:=Lib.hid hbW
   clear hk hm hp hz b0 hbW hW hl h60 he
   go_enter Tryz.func112,Tryz.ntmps112
   go_upto_region 1 with (fail)
   rw [HW.out]
   go_wp2_with fail
   go_ret
   exact ⟨by rw [E.out];rfl,HB.out⟩
 ·have E:=Lib.hid (show validIn t ms ps=false by unfold validIn;rw [decide_eq_false h60,Bool.false_and])
  obtain ⟨kb,ks,rfl,_⟩:=encK_open hk
  obtain ⟨ma,mc,rfl⟩:=hm.slice
  obtain ⟨pa,pc,rfl⟩:=hp.slice
  obtain ⟨W,hW,hbW,hz,b0⟩:=box_1 w (.cells #[.slice ma ms.length mc,.slice pa ps.length pc] 33)
  obtain ⟨c0,c1,_,_⟩:=cells_2 b0
  have hlen:(60:Int)<(ms.length:Int):=by omega
  have HW:=Lib.hid hW
  have HB:=Lib.hid hbW
  clear hk hm hp hz b0 hbW hW hl h60
  go_enter Tryz.func112,Tryz.ntmps112
  go_upto_region 1 with (fail)
  rw [HW.out]
  go_wp2_with fail
  go_ret
  exact ⟨by rw [E.out];rfl,HB.out⟩
set_option maxRecDepth 100000 in
theorem l2Valid_any (F:Nat->Prop) (t:Ty) (tv mv pt:Value) (ms:List Bs) (ps:List Int) (w:World) (hk:Rep F w (encS t) tv) (ht:atomsT t<=15) (hm:MsRep F w ms mv) (hp:PsRep F w ps pt) (hl:∀ x∈ms,Lim x.length) :
 Calls Tryz.prog 164 #[.agg #[tv],.agg #[mv,pt]] w fun en w'=>en=.returned (.bool (validIn t ms ps))/\Below w.heap.size w w':=by
 by_cases h60:ms.length<=60
 ·by_cases he:ps.length=ms.length
  ·refine (l2Valid_v F t tv mv pt (ms.zip ps) w hk ht (hm.zip he) (hp.zip he) (by rw [List.length_zip];omega) (fun x hx=>hl _ (List.of_mem_zip hx).1)).mono ?_
   rintro en w' ⟨rfl,hb⟩
   refine ⟨?_,hb⟩
   unfold validIn
   rw [decide_eq_true h60,decide_eq_true he];rfl
  ·have E:=Lib.hid (show validIn t ms ps=false by unfold validIn;rw [decide_eq_false he,Bool.false_and,Bool.and_false])
   obtain ⟨ta,tc,rfl⟩:=encS_slice hk
   obtain ⟨ma,mc,rfl⟩:=hm.slice
   obtain ⟨pa,pc,rfl⟩:=hp.slice
   obtain ⟨W,hW,hbW,hz,b0,b1⟩:=boxes_2 w (.cells #[.slice ta t.args.length tc] 78) (.cells #[.slice ma ms.length mc,.slice pa ps.length pc] 33)
   obtain ⟨c0,c1,_,_⟩:=cells_2 b1
   have hlen:¬ (60:Int)<(ms.length:Int):=by omega
   have hne:((ps.length:Int) != (ms.length:Int))=true:=by simp;omega
   have HW:=Lib.hid hW
   have HB:=Lib.hid hbW
   clear hk hm hp hz b0 b1 hbW hW hl h60 he
   go_enter Tryz.func164,Tryz.ntmps164
   go_upto_region 1 with (fail)
   rw [HW.out]
   go_wp2_with fail
   go_ret
   exact ⟨by rw [E.out];rfl,HB.out⟩
 ·have E:=Lib.hid (show validIn t ms ps=false by unfold validIn;rw [decide_eq_false h60,Bool.false_and])
  obtain ⟨ta,tc,rfl⟩:=encS_slice hk
  obtain ⟨ma,mc,rfl⟩:=hm.slice
  obtain ⟨pa,pc,rfl⟩:=hp.slice
  obtain ⟨W,hW,hbW,hz,b0,b1⟩:=boxes_2 w (.cells #[.slice ta t.args.length tc] 78) (.cells #[.slice ma ms.length mc,.slice pa ps.length pc] 33)
  obtain ⟨c0,c1,_,_⟩:=cells_2 b1
  have hlen:(60:Int)<(ms.length:Int):=by omega
  have HW:=Lib.hid hW
  have HB:=Lib.hid hbW
  clear hk hm hp hz b0 b1 hbW hW hl h60
  go_enter Tryz.func164,Tryz.ntmps164
  go_upto_region 1 with (fail)
  rw [HW.out]
  go_wp2_with fail
  go_ret
  exact ⟨by rw [E.out];rfl,HB.out⟩
theorem MsRep.below {F F':Nat->Prop} {w w':World} {ms:List Bs} {x:Value} (h:MsRep F w ms x) (hb:Below w.heap.size w w') (hF:∀ b,F b->F' b):MsRep F' w' ms x:=Rep.below hb hF h
theorem PsRep.below {F F':Nat->Prop} {w w':World} {ps:List Int} {x:Value} (h:PsRep F w ps x) (hb:Below w.heap.size w w') (hF:∀ b,F b->F' b):PsRep F' w' ps x:=Rep.below hb hF h
def playOk (s:Bs) (ms:List Bs) (ps:List Int):Bool:=(specType s).2 && validIn (specType s).1 ms ps
theorem playOk_kind {s:Bs} {t:Ty} (h:rdKind s=some t) (ms:List Bs) (ps:List Int):playOk s ms ps=validIn t ms ps/\atomsT t<=15:=by
 rw [specType_eq] at h
 unfold playOk
 cases h2:(specType s).2 with
 | false=>rw [h2] at h;simp at h
 | true =>
   rw [h2] at h
   obtain rfl:=Option.some.inj h
   exact ⟨by rw [Bool.true_and],(specType_canon h2).2⟩
theorem playOk_none {s:Bs} (h:rdKind s=none) (ms:List Bs) (ps:List Int):playOk s ms ps=false:=by
 rw [specType_eq] at h
 unfold playOk
 cases h2:(specType s).2 with
 | false=>rfl
 | true=>rw [h2] at h;simp at h
set_option maxRecDepth 100000 in
theorem implPlayValid_any (F:Nat->Prop) (s:Bs) (mv pt:Value) (ms:List Bs) (ps:List Int) (w:World) (hs:Lim s.length) (hm:MsRep F w ms mv) (hp:PsRep F w ps pt) (hl:∀ x∈ms,Lim x.length) :
 Calls Tryz.prog 72 #[str s,.agg #[mv,pt]] w fun en w'=>en=.returned (.bool (playOk s ms ps))/\Below w.heap.size w w':=by
 obtain ⟨ma,mc,rfl⟩:=hm.slice
 obtain ⟨pa,pc,rfl⟩:=hp.slice
 obtain ⟨W,hW,hbW,hz,b0⟩:=box_1 w (.cells #[.slice ma ms.length mc,.slice pa ps.length pc] 33)
 have C:=Lib.hid (readKind_any s W hs)
 have HR:=Lib.hid (And.intro (hm.below hbW (F':=fun _=>True) fun _ _=>trivial) (And.intro (hp.below hbW (F':=fun _=>True) fun _ _=>trivial) (And.intro hl hbW)))
 have HW:=Lib.hid (And.intro hW b0)
 clear hs hm hp hl hW hz b0 hbW
 go_enter Tryz.func72,Tryz.ntmps72
 go_upto_region 1 with (fail)
 rw [HW.out.1]
 go_wp2_with fail
 (with_reducible refine C.out.mono ?_)
 rintro en w1 ⟨kv,rfl,hb1,hn1,hy1⟩
 clear C
 obtain ⟨c0,c1,_,_⟩:=cells_2 HW.out.2
 have c0':=(hb1.cell (World.block_lt_of_cell? _ _ c0)).trans c0
 have c1':=(hb1.cell (World.block_lt_of_cell? _ _ c1)).trans c1
 clear c0 c1
 have HB1:=Lib.hid (And.intro hb1 (zzT HR.out.2.2.2 hb1))
 cases hq:rdKind s with
 | none =>
   obtain rfl:=hn1 hq
   have E:=Lib.hid (playOk_none hq ms ps)
   clear hn1 hy1 hq hb1
   go_wp2_with fail
   go_ret
   exact ⟨by rw [E.out];rfl,HB1.out.2⟩
 | some t =>
   have rk:=hy1 t hq
   obtain ⟨ka,ks,rfl,_⟩:=encK_open rk
   obtain ⟨E,h15⟩:=playOk_kind hq ms ps
   have E:=Lib.hid E
   have C2:=Lib.hid (hasPlay_any (fun _=>True) t (.pointer (some ⟨ka,0,none⟩)) _ _ ms ps w1 ((Rep.keep fun b o _ ho=>⟨trivial,ho⟩).1 _ _ rk) h15 (HR.out.1.below HB1.out.1 fun _ h=>h) (HR.out.2.1.below HB1.out.1 fun _ h=>h) HR.out.2.2.1)
   clear hn1 hy1 hq hb1 rk h15
   go_wp2_with fail
   (with_reducible refine C2.out.mono ?_)
   rintro en w2 ⟨rfl,hb2⟩
   have HB2:=Lib.hid (zzT HB1.out.2 hb2)
   clear hb2
   go_wp2_with fail
   go_ret
   exact ⟨by rw [E.out];rfl,HB2.out⟩
set_option maxRecDepth 100000 in
theorem specPlayValid_any (F:Nat->Prop) (s:Bs) (mv pt:Value) (ms:List Bs) (ps:List Int) (w:World) (hs:Lim s.length) (hm:MsRep F w ms mv) (hp:PsRep F w ps pt) (hl:∀ x∈ms,Lim x.length) :
 Calls Tryz.prog 113 #[str s,.agg #[mv,pt]] w fun en w'=>en=.returned (.bool (playOk s ms ps))/\Below w.heap.size w w':=by
 obtain ⟨ma,mc,rfl⟩:=hm.slice
 obtain ⟨pa,pc,rfl⟩:=hp.slice
 obtain ⟨W,hW,hbW,hz,b0⟩:=box_1 w (.cells #[.slice ma ms.length mc,.slice pa ps.length pc] 33)
 have C:=Lib.hid (l1Type_any s hs W)
 have HR:=Lib.hid (And.intro (hm.below hbW (F':=fun _=>True) fun _ _=>trivial) (And.intro (hp.below hbW (F':=fun _=>True) fun _ _=>trivial) (And.intro hl hbW)))
 have HW:=Lib.hid (And.intro hW b0)
 clear hs hm hp hl hW hz b0 hbW
 go_enter Tryz.func113,Tryz.ntmps113
 go_upto_region 1 with (fail)
 rw [HW.out.1]
 go_wp2_with fail
 (with_reducible refine C.out.mono ?_)
 rintro en w1 ⟨tv,rfl,hb1,rt⟩
 clear C
 obtain ⟨ta,tc,rfl⟩:=encS_slice rt
 have h15:(specType s).2=true->atomsT (specType s).1<=15:=fun h=>(specType_canon h).2
 have E:playOk s ms ps=((specType s).2 && validIn (specType s).1 ms ps):=rfl
 generalize (specType s).2=ok at h15 E ⊢
 generalize (specType s).1=t at h15 E rt ⊢
 obtain ⟨X,hX,hbX,hzX,x0⟩:=box_1 w1 (.cells #[.slice ta t.args.length tc] 78)
 have hB:=zzT hb1 hbX
 obtain ⟨c0,c1,_,_⟩:=cells_2 HW.out.2
 have c0':=(hB.cell (World.block_lt_of_cell? _ _ c0)).trans c0
 have c1':=(hB.cell (World.block_lt_of_cell? _ _ c1)).trans c1
 have t0:=one_cell x0
 clear c0 c1
 have HB1:=Lib.hid (And.intro hB (zzT HR.out.2.2.2 hB))
 have E:=Lib.hid E
 have HX:=Lib.hid (And.intro hX (And.intro hbX rt))
 clear hb1 hX hbX hzX x0 hB rt
 cases ok with
 | false =>
   go_upto_region 2 with (fail)
   rw [HX.out.1]
   clear h15
   go_wp2_with fail
   go_ret
   exact ⟨by rw [E.out];rfl,HB1.out.2⟩
 | true =>
   have C2:=Lib.hid (l2Valid_any (fun _=>True) t (.slice ta t.args.length tc) _ _ ms ps X ((Rep.below HX.out.2.1 fun _ _=>trivial) HX.out.2.2) (h15 rfl) (HR.out.1.below HB1.out.1 fun _ h=>h) (HR.out.2.1.below HB1.out.1 fun _ h=>h) HR.out.2.2.1)
   clear h15
   go_upto_region 2 with (fail)
   rw [HX.out.1]
   go_wp2_with fail
   (with_reducible refine C2.out.mono ?_)
   rintro en w2 ⟨rfl,hb2⟩
   have HB2:=Lib.hid (zzT HB1.out.2 hb2)
   clear hb2
   go_wp2_with fail
   go_ret
   exact ⟨by rw [E.out];rfl,HB2.out⟩
end Go.Proofs.YtdfkiicodfbibaaGreatDoor

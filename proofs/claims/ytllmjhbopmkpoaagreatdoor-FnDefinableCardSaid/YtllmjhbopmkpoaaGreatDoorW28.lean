/- The walk of impl's TermType. -/
import Derived.Test.YtllmjhbopmkpoaaGreatDoorW27
namespace Go.Proofs.YtllmjhbopmkpoaaGreatDoor
open Go.RowKit
def kindI (s:Bs):Option Bs:=(termType s).map textT
set_option maxHeartbeats 1000000 in
theorem implTermType_any (s:Bs) (w:World) (hs:Lim s.length) :
 Calls Tryz.prog 13 #[str s] w fun en w'=>en=.returned (.tuple #[str ((kindI s).getD []),.bool (kindI s).isSome])∧Below w.heap.size w w':=by
 have C0:=Lib.hid (readTerm_any s w hs)
 clear hs
 go_enter Tryz.func13,Tryz.ntmps13
 go_wp2_with fail
 (with_reducible refine C0.out.mono ?_)
 rintro en w1 ⟨v,rfl,hb1,hn1,hy1⟩
 cases ht:implTerm s with
 | none =>
   obtain rfl:=hn1 ht
   have HM:=Lib.hid (show kindI s=none by unfold kindI termType;rw [ht];rfl)
   have HB:=Lib.hid hb1
   clear ht hn1 hy1 hb1
   go_wp2_with fail
   go_ret2
   exact ⟨by rw [HM.out];rfl,HB.out⟩
 | some t =>
   have hr:=hy1 t ht
   obtain ⟨tb,rfl⟩:=encTm_ptr hr
   obtain ⟨_,hok,h60⟩:=implTerm_some ht
   have CT:=Lib.hid (typed_any (sizeTm t) (w.heap.size≤·) t [] _ _ w1 (Nat.le_refl _) ⟨hr,nil_names _ _,hok,by simp [kinds],by simp;omega⟩)
   have HB:=Lib.hid hb1
   have HM:=Lib.hid (show kindI s=(typeOf [] t).map textT by unfold kindI termType;rw [ht];rfl)
   clear ht hn1 hy1 hb1 hr hok h60
   go_wp2_with fail
   (with_reducible refine CT.out.mono ?_)
   rintro en w2 ⟨kv,rfl,hb2,hn2,hy2⟩
   have HB2:=Lib.hid (HB.out.trans (hb2.mono HB.out.size))
   cases hk:typeOf [] t with
   | none =>
     obtain rfl:=hn2 hk
     have HM2:=Lib.hid (show kindI s=none by rw [HM.out,hk];rfl)
     clear hk hn2 hy2 hb2
     go_wp2_with fail
     go_ret2
     exact ⟨by rw [HM2.out];rfl,HB2.out⟩
   | some k =>
     have hrk:=hy2 k hk
     have h15:=type_small t [] k (by simp [kinds]) hk
     obtain ⟨kb,_,e,_⟩:=encK_open hrk
     subst e
     have CK:=Lib.hid (textK_any 15 k h15 (by omega) _ w2 _ hrk)
     have HM2:=Lib.hid (show kindI s=some (textT k) by rw [HM.out,hk];rfl)
     clear hk hn2 hy2 hb2 hrk h15
     go_wp2_with fail
     (with_reducible refine CK.out.mono ?_)
     rintro en w3 ⟨rfl,hb3⟩
     have HB3:=Lib.hid (HB2.out.trans (hb3.mono HB2.out.size))
     clear hb3
     go_wp2_with fail
     go_ret2
     exact ⟨by rw [HM2.out];rfl,HB3.out⟩
end Go.Proofs.YtllmjhbopmkpoaaGreatDoor

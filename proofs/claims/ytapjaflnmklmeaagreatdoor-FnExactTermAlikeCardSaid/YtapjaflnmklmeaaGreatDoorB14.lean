import Derived.Test.YtapjaflnmklmeaaGreatDoorB12
import Derived.Test.YtapjaflnmklmeaaGreatDoorS15
import Derived.Deep.DeepCutAuto
/- The walk of l4Written. -/
namespace Go.Proofs.YtapjaflnmklmeaaGreatDoor
open Go.RowKit
def wrOf (t:Ty) (o:Option Bd):Option Bs:=o.bind fun out=>(specStrat (textT t) (textB out)).map fun _=>textB out
def TxtPost (o:Option Bs) (w:World) (en:Ending) (w':World):Prop:=en=.returned (.tuple #[str (o.getD []),.bool o.isSome])∧Below w.heap.size w w'
set_option maxRecDepth 100000 in
set_option maxHeartbeats 8000000 in
theorem l4Written_any (F:Nat→Prop) (t:Ty) (o:Option Bd) (tv:Value) (s:Bs) (v:Int) (a1:Option Addr) (n1 c1:Nat) (a2:Option Addr) (n2 c2:Nat) (w:World) (h15:atomsT t≤15) (ht:Rep F w (encS t) tv)
 (hn:∀ x,o=some x→Reps F w (encN x) [str s,.int .i64 v,.slice a1 n1 c1,.slice a2 n2 c2]∧sizeB x≤1000∧lvB x) :
 Calls Tryz.prog 11 #[.agg #[tv],.agg #[str s,.int .i64 v,.slice a1 n1 c1,.slice a2 n2 c2],.bool o.isSome] w (TxtPost (wrOf t o) w):=by
 obtain ⟨ta,tc,rfl⟩:=encS_slice ht
 obtain ⟨W,hW⟩:∃ W,(w.alloc (.cells #[.slice ta t.args.length tc] 31)).alloc (.cells #[str s,.int .i64 v,.slice a1 n1 c1,.slice a2 n2 c2] 36)=W:=⟨_,rfl⟩
 have hbW:Below w.heap.size w W:=by rw [← hW];exact ((Below.refl _ _).alloc (Nat.le_refl _) _).alloc (by rw [size_alloc];omega) _
 have bT:W.heap[w.heap.size]? = some (.cells #[.slice ta t.args.length tc] 31 (0,0)):=by rw [← hW];exact heap_past (heap_new _ _)
 have bN:W.heap[w.heap.size+1]? = some (.cells #[str s,.int .i64 v,.slice a1 n1 c1,.slice a2 n2 c2] 36 (0,0)):=by
  have:=heap_new (w.alloc (.cells #[.slice ta t.args.length tc] 31)) (.cells #[str s,.int .i64 v,.slice a1 n1 c1,.slice a2 n2 c2] 36)
  rw [size_alloc,hW] at this;exact this
 obtain ⟨y0,y1,y2,y3⟩:=cells4 bN
 have HW:=Lib.hid (And.intro hW (And.intro hbW (And.intro bT (And.intro bN (And.intro ht hn)))));clear hW hbW bT bN ht hn
 cases o with
 | none =>
   simp only [Option.isSome_none]
   go_enter Tryz.func11,Tryz.ntmps11
   go_wp2_with fail
   go_ret2
   have h:=HW.out.2.1
   rw [← HW.out.1] at h
   exact ⟨rfl,h⟩
 | some x =>
   simp only [Option.isSome_some]
   obtain ⟨hrx,hsz,hlv⟩:=HW.out.2.2.2.2.2 x rfl
   have hrW:=Reps.below (F':=F) HW.out.2.1 (fun _ h=>h) hrx
   have C0:=Lib.hid (l3Text_any (sizeB x) x (Nat.le_refl _) (by omega) hlv F W _ _ _ _ hrW)
   have hlen:(textB x).length≤12000:=by have:=textB_length x hlv;omega
   have hwr:wrOf t (some x)=(specStrat (textT t) (textB x)).map fun _=>textB x:=rfl
   obtain ⟨Y,hY⟩:∃ Y,Y=textB x:=⟨_,rfl⟩
   rw [← hY] at C0 hlen hwr
   obtain ⟨X,hX⟩:∃ X,X=textT t:=⟨_,rfl⟩
   have hXl:Lim X.length:=by rw [hX];have:=textT_length 15 t h15;show _≤_;omega
   have hYl:Lim Y.length:=by show _≤_;omega
   rw [← hX] at hwr
   have HWR:=Lib.hid hwr
   have HX:=Lib.hid (And.intro hX hY);clear hrx hsz hlv hrW hlen hwr hX hY
   go_enter Tryz.func11,Tryz.ntmps11
   go_upto_region 1 with (fail)
   rw [HW.out.1]
   go_wp2_with fail
   (with_reducible refine C0.out.mono ?_)
   rintro en w2 ⟨rfl,hb2⟩
   have hbw2:Below w.heap.size w w2:=HW.out.2.1.trans (hb2.mono HW.out.2.1.size)
   have hT2:w2.heap[w.heap.size]? = some (.cells #[.slice ta t.args.length tc] 31 (0,0)):=(hb2.block _ (lt_of_heap HW.out.2.2.1)).trans HW.out.2.2.1
   have SX:Hid (∀ w',Below w2.heap.size w2 w'→w'.cell? ⟨w.heap.size,0,none⟩=some (.slice ta t.args.length tc)∧True):=by
    show ∀ w',_→_
    intro w' hb'
    have h:=(hb'.block _ (lt_of_heap hT2)).trans hT2
    exact ⟨by simp [World.cell?,h],trivial⟩
   have C1:Hid (∀ wz,Below w2.heap.size w2 wz→Calls Tryz.prog 29 #[.agg #[.slice ta t.args.length tc]] wz fun en w'=>en=.returned (str X)∧Below wz.heap.size wz w'):=by
    show ∀ wz,_→_
    intro wz hz
    rw [HX.out.1]
    exact l1Text_any 15 t h15 (by omega) F wz _ (Rep.below (hbw2.trans (hz.mono hbw2.size)) (fun _ h=>h) HW.out.2.2.2.2.1)
   have C2:=Lib.hid (fun wz=>l3Strategy_any X Y hXl hYl wz)
   have H2:=Lib.hid hbw2
   clear hb2 hbw2 hT2 y0 y1 y2 y3 hXl hYl
   have t2:=(SX.out w2 (Below.refl _ _)).1
   go_wp2_with fail
   (with_reducible refine (C1.out w2 (Below.refl _ _)).mono ?_)
   rintro en w3 ⟨rfl,hb3⟩
   have HB3:=Lib.hid hb3;clear hb3
   go_wp2_with fail
   (with_reducible refine (C2.out w3).mono ?_)
   rintro en w4 ⟨sa,sc,s',v',a2',n2',c2',a3',n3',c3',rfl,hb4,-,-⟩
   have HB:=Lib.hid (H2.out.trans ((HB3.out.trans (hb4.mono HB3.out.size)).mono H2.out.size));clear hb4 C0 C1 C2 SX t2
   have FIN:∀ (o o':Obj),Below w.heap.size w ((w4.alloc o).alloc o'):=fun o o'=>(HB.out.alloc HB.out.size _).alloc (by rw [size_alloc];exact Nat.le_succ_of_le HB.out.size) _
   have HFIN:=Lib.hid FIN;clear FIN
   cases hq:specStrat X Y with
   | none =>
     have h:=HWR.out
     rw [hq] at h
     simp only [Option.isSome_none]
     have HR:=Lib.hid h;clear h hq
     go_wp2_with fail
     go_ret2
     rw [HR.out]
     exact ⟨rfl,HFIN.out _ _⟩
   | some b =>
     have h:=HWR.out
     rw [hq] at h
     simp only [Option.isSome_some]
     have HR:=Lib.hid h;clear h hq
     go_wp2_with fail
     go_ret2
     rw [HR.out]
     exact ⟨rfl,HFIN.out _ _⟩
end Go.Proofs.YtapjaflnmklmeaaGreatDoor
namespace Go.Proofs.YtapjaflnmklmeaaGreatDoor
open Go.RowKit
end Go.Proofs.YtapjaflnmklmeaaGreatDoor

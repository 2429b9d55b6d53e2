/- Walks of functions that the statement reaches, and plain words. No conditions. -/
import Derived.Laws.Entries
import Derived.Test.YthoimoenbccflaaDoorQ10
set_option linter.unusedVariables false
set_option linter.unusedSimpArgs false
set_option maxHeartbeats 4000000
namespace Go.Proofs.YthoimoenbccflaaDoor
open Go.RowKit
theorem ext_tail (c:UInt8) (p:Bs):(⟨(c::p).toArray⟩:ByteArray).extract 1 (c::p).length=⟨p.toArray⟩:=by rw [ext_str,List.take_length];rfl
def BehQ (b':Bd) (lv:List Place) (bg:Place) (F:Nat->Prop) (w:World) (en:Ending) (w':World):Prop :=
 ∃ a la lc,en=.returned (.agg #[.pointer (some ⟨a,0,none⟩),.slice la lv.length lc,.int .i64 (bg.1:Nat),str bg.2])/\Below w.heap.size w w'/\Rep F w (encB b') (.pointer (some ⟨a,0,none⟩))/\LvRep (w.heap.size<=·) w' lv (.slice la lv.length lc)
set_option maxRecDepth 100000 in
theorem behind_q (F:Nat->Prop) (t a:Ty) (l j:Nat) (ss:List Bd) (s y n:Bd) (bv kv lsl:Value) (lv:List Place) (bg:Place) (p:Bs) (idx:Nat) (w:World) (hg:Glob w) (hb:Rep F w (encB (.ask l ss y n)) bv) (hk:Rep F w (encK t) kv) (hlv:LvRep F w lv lsl) (ht:atomsT t<=15)
 (hs:ss[j]? = some s) (hj:j<10) (hp:0<p.length) (hpl:p.length<=1000) (hlast:p[p.length-1]=digit j) (hat:atT t p=some a) (hll:lv.length<=100000) (hssl:ss.length<=100000) :
 Calls Tryd.prog 32 #[.agg #[bv,lsl,.int .i64 (bg.1:Nat),str bg.2],kv,str (113::p),.int .i64 (idx:Nat)] w (BehQ s (lv++placesOf a.args.length idx p) (idx,p) F w):=by
 obtain ⟨kb,ks,rfl,_,hkb,hkr⟩:=encK_open hk
 obtain ⟨la,lc,rfl,_⟩:=hlv.open
 obtain ⟨b,sl,yv,nv,rfl,_,hbc,hsr,hy,hn⟩:=ask_open hb
 obtain ⟨sa,sc,rfl,hcap,hlen,hats⟩:=Rep_sl1_open hsr
 have hjl:=(List.getElem?_eq_some_iff.1 hs).1
 obtain ⟨sb,so,su,sd,rfl,_,hsb,hsd,hsc,hsu⟩:=hats j hjl
 rw [encBs_at,hs] at hsd
 obtain rfl:=Option.some.inj hsd
 obtain ⟨ab,rfl⟩:=encB_ptr hsu
 obtain ⟨W,hW,hbW,hz,b0,b1⟩:=boxes_2 w (.cells #[.pointer (some ⟨b,0,none⟩),.slice la lv.length lc,.int .i64 (bg.1:Nat),str bg.2] 56) (.cells #[.pointer none,.slice none 0 0,.int .i64 0,str []] 56)
 have a15:=atT_len _ _ _ hat
 have aarg:=args_len a
 have KEY:Hid (∀ x,Below W.heap.size W x->x.cell? ⟨w.heap.size,0,none⟩=some (.pointer (some ⟨b,0,none⟩))/\x.cell? ⟨b,2,none⟩=some (.slice (some ⟨sb,so,none⟩) ss.length sc)/\x.cell? ⟨sb,so+j,none⟩=some (.pointer (some ⟨ab,0,none⟩))):=Lib.hid (fun x hx=>by
  obtain ⟨k0,_,_,_⟩:=cells_4 b0
  have k2:W.cell? ⟨b,2,none⟩=some (.slice (some ⟨sb,so,none⟩) ss.length sc):=(hbW.cell (by exact lt_of_heap hbc)).trans (by simp [World.cell?,hbc])
  have k3:W.cell? ⟨sb,so+j,none⟩=some (.pointer (some ⟨ab,0,none⟩)):=(hbW.cell hsb).trans hsc
  exact ⟨(hx.cell (World.block_lt_of_cell? _ _ k0)).trans k0,(hx.cell (World.block_lt_of_cell? _ _ k2)).trans k2,(hx.cell (World.block_lt_of_cell? _ _ k3)).trans k3⟩)
 have f0:=frozen_4 b0 0
 have ex:(⟨(113::p).toArray⟩:ByteArray).extract 1 (p.length+1)=⟨p.toArray⟩:=ext_tail 113 p
 obtain ⟨m1,hm1⟩:∃ m,m=p.length-1:=⟨_,rfl⟩
 have hpm:IntKind.i64.wrap ((p.length:Int)-1)=(m1:Int):=by rw [show (p.length:Int)-1=(m1:Int) from by omega];exact wrap_nat _ (by omega)
 have hpi:m1<p.length:=by omega
 have hl1:p[m1]=digit j:=by subst hm1;exact hlast
 have B:((((⟨p.toArray⟩:ByteArray)[m1]'(lt_str hpi)).toNat:Int))=48+(j:Int):=by rw [byte_int hpi,hl1,digit_nat hj];omega
 have hj8:IntKind.u8.wrap (48+(j:Int)-48)=(j:Int):=by simp [IntKind.wrap,IntKind.bits,IntKind.signed];omega
 have hjI:(j:Int)<(ss.length:Int):=by omega
 have hm1I:(m1:Int)<(p.length:Int):=by omega
 have HW:=Lib.hid (And.intro hW (And.intro hbW (And.intro hz (And.intro b0 b1))))
 have HA:=Lib.hid (And.intro hg (And.intro hk (And.intro hlv (And.intro hat (And.intro hsu (And.intro ht (And.intro a15 aarg)))))))
 have HL:=Lib.hid (And.intro hpl hll)
 clear hW hbW hz b0 b1 hbc hsr hy hn hb hats hlen hcap hsc hsb hsu hg hk hlv hkb hkr hat hs hlast ht a15 aarg hm1 hl1 hpl hll
 go_enter Tryd.func32,Tryd.ntmps32
 go_upto_region 1 with (fail)
 rw [HW.out.1]
 go_upto_region 3 with (fail)
 refine wp_region_noPanic ?_
 refine wp_region_S (fun w'=>Below W.heap.size W w') (fun i=>i == 14) (by kernel_rfl) ?_
 have hSd:(fun w'=>Below W.heap.size W w') W.drew:=Below.drew (Below.refl _ _)
 refine wpAnyS_take 0 (v:=?_) (by kernel_rfl) (by kernel_rfl) (by kernel_rfl) (by kernel_rfl) (fun _ _ _ _ h=>h) hSd ?_ ?_
 rotate_left
 ·(intro oi ho;simp at ho;subst ho;refine Or.inl ⟨by rfl,fun w' hw'=>?_⟩;go_simp;try with_reducible rfl)
 (intro d hd;simp at hd;subst hd;simp only [Act.put,List.setIfInBounds_toArray,List.set_cons_zero,List.set_cons_succ])
 refine wpAnyS_take 1 (v:=?_) (by kernel_rfl) (by kernel_rfl) (by kernel_rfl) (by kernel_rfl) (fun _ _ _ _ h=>h) hSd ?_ ?_
 rotate_left
 ·(intro oi ho;simp at ho;subst ho;refine Or.inl ⟨by rfl,fun w' hw'=>?_⟩;obtain ⟨e0,e1,e2⟩:=KEY.out w' hw';go_simp;try with_reducible rfl)
 (intro d hd;simp at hd;subst hd;simp only [Act.put,List.setIfInBounds_toArray,List.set_cons_zero,List.set_cons_succ])
 refine wpAnyS_take 2 (v:=?_) (by kernel_rfl) (by kernel_rfl) (by kernel_rfl) (by kernel_rfl) (fun _ _ _ _ h=>h) hSd ?_ ?_
 rotate_left
 ·(intro oi ho;simp at ho;subst ho;refine Or.inl ⟨by rfl,fun w' hw'=>?_⟩;go_simp;try with_reducible rfl)
 (intro d hd;simp at hd;subst hd;simp only [Act.put,List.setIfInBounds_toArray,List.set_cons_zero,List.set_cons_succ])
 refine wpAnyS_take 3 (v:=?_) (by kernel_rfl) (by kernel_rfl) (by kernel_rfl) (by kernel_rfl) (fun _ _ _ _ h=>h) hSd ?_ ?_
 rotate_left
 ·(intro oi ho;simp at ho;subst ho;refine Or.inl ⟨by rfl,fun w' hw'=>?_⟩;go_simp;try with_reducible rfl)
 (intro d hd;simp at hd;subst hd;simp only [Act.put,List.setIfInBounds_toArray,List.set_cons_zero,List.set_cons_succ])
 refine wpAnyS_take 4 (v:=?_) (by kernel_rfl) (by kernel_rfl) (by kernel_rfl) (by kernel_rfl) (fun _ _ _ _ h=>h) hSd ?_ ?_
 rotate_left
 ·(intro oi ho;simp at ho;subst ho;refine Or.inl ⟨by rfl,fun w' hw'=>?_⟩;obtain ⟨e0,e1,e2⟩:=KEY.out w' hw';go_simp;try with_reducible rfl)
 (intro d hd;simp at hd;subst hd;simp only [Act.put,List.setIfInBounds_toArray,List.set_cons_zero,List.set_cons_succ])
 refine wpAnyS_take 5 (v:=?_) (by kernel_rfl) (by kernel_rfl) (by kernel_rfl) (by kernel_rfl) (fun _ _ _ _ h=>h) hSd ?_ ?_
 rotate_left
 ·(intro oi ho;simp at ho;subst ho;refine Or.inl ⟨by rfl,fun w' hw'=>?_⟩;go_simp;try with_reducible rfl)
 (intro d hd;simp at hd;subst hd;simp only [Act.put,List.setIfInBounds_toArray,List.set_cons_zero,List.set_cons_succ])
 refine wpAnyS_take 6 (v:=?_) (by kernel_rfl) (by kernel_rfl) (by kernel_rfl) (by kernel_rfl) (fun _ _ _ _ h=>h) hSd ?_ ?_
 rotate_left
 ·(intro oi ho;simp at ho;subst ho;refine Or.inl ⟨by rfl,fun w' hw'=>?_⟩;go_simp;try with_reducible rfl)
 (intro d hd;simp at hd;subst hd;simp only [Act.put,List.setIfInBounds_toArray,List.set_cons_zero,List.set_cons_succ])
 refine wpAnyS_take 7 (v:=?_) (by kernel_rfl) (by kernel_rfl) (by kernel_rfl) (by kernel_rfl) (fun _ _ _ _ h=>h) hSd ?_ ?_
 rotate_left
 ·(intro oi ho;simp at ho;subst ho;refine Or.inl ⟨by rfl,fun w' hw'=>?_⟩;go_simp;try with_reducible rfl)
 (intro d hd;simp at hd;subst hd;simp only [Act.put,List.setIfInBounds_toArray,List.set_cons_zero,List.set_cons_succ])
 refine wpAnyS_take 8 (v:=?_) (by kernel_rfl) (by kernel_rfl) (by kernel_rfl) (by kernel_rfl) (fun _ _ _ _ h=>h) hSd ?_ ?_
 rotate_left
 ·(intro oi ho;simp at ho;subst ho;refine Or.inl ⟨by rfl,fun w' hw'=>?_⟩;go_simp;try with_reducible rfl)
 (intro d hd;simp at hd;subst hd;simp only [Act.put,List.setIfInBounds_toArray,List.set_cons_zero,List.set_cons_succ])
 refine wpAnyS_take 9 (v:=?_) (by kernel_rfl) (by kernel_rfl) (by kernel_rfl) (by kernel_rfl) (fun _ _ _ _ h=>h) hSd ?_ ?_
 rotate_left
 ·(intro oi ho;simp at ho;subst ho;refine Or.inl ⟨by rfl,fun w' hw'=>?_⟩;go_simp;try with_reducible rfl)
 (intro d hd;simp at hd;subst hd;simp only [Act.put,List.setIfInBounds_toArray,List.set_cons_zero,List.set_cons_succ])
 refine wpAnyS_take 10 (v:=?_) (by kernel_rfl) (by kernel_rfl) (by kernel_rfl) (by kernel_rfl) (fun _ _ _ _ h=>h) hSd ?_ ?_
 rotate_left
 ·(intro oi ho;simp at ho;subst ho;refine Or.inl ⟨by rfl,fun w' hw'=>?_⟩;go_simp;try with_reducible rfl)
 (intro d hd;simp at hd;subst hd;simp only [Act.put,List.setIfInBounds_toArray,List.set_cons_zero,List.set_cons_succ])
 refine wpAnyS_take 11 (v:=?_) (by kernel_rfl) (by kernel_rfl) (by kernel_rfl) (by kernel_rfl) (fun _ _ _ _ h=>h) hSd ?_ ?_
 rotate_left
 ·(intro oi ho;simp at ho;subst ho;refine Or.inl ⟨by rfl,fun w' hw'=>?_⟩;go_simp;try with_reducible rfl)
 (intro d hd;simp at hd;subst hd;simp only [Act.put,List.setIfInBounds_toArray,List.set_cons_zero,List.set_cons_succ])
 refine wpAnyS_take 12 (v:=?_) (by kernel_rfl) (by kernel_rfl) (by kernel_rfl) (by kernel_rfl) (fun _ _ _ _ h=>h) hSd ?_ ?_
 rotate_left
 ·(intro oi ho;simp at ho;subst ho;refine Or.inl ⟨by rfl,fun w' hw'=>?_⟩;obtain ⟨e0,e1,e2⟩:=KEY.out w' hw';go_simp;try with_reducible rfl)
 (intro d hd;simp at hd;subst hd;simp only [Act.put,List.setIfInBounds_toArray,List.set_cons_zero,List.set_cons_succ])
 refine wpAnyS_take 13 (v:=?_) (by kernel_rfl) (by kernel_rfl) (by kernel_rfl) (by kernel_rfl) (fun _ _ _ _ h=>h) hSd ?_ ?_
 rotate_left
 ·(intro oi ho;simp at ho;subst ho;refine Or.inl ⟨by rfl,fun w' hw'=>?_⟩;go_simp;try with_reducible rfl)
 (intro d hd;simp at hd;subst hd;simp only [Act.put,List.setIfInBounds_toArray,List.set_cons_zero,List.set_cons_succ])
 refine wpAnyS_one 14 (by kernel_rfl) ?_
 (intro o14 ho K' hK;simp at ho;subst ho)
 obtain ⟨e0,_,_⟩:=KEY.out W (Below.refl _ _)
 go_simp
 refine hK.out _ _ ?_ ?_
 ·intro h;simp at h
 clear hK K'
 (try simp only [Act.put,List.setIfInBounds_toArray,List.set_cons_zero,List.set_cons_succ])
 refine wpAnyS_done (by kernel_rfl) (NoPanic.normal ?_) _
 obtain ⟨W2,hW2⟩:∃ W2,(W.setCell ⟨w.heap.size,0,none⟩ (.pointer (some ⟨ab,0,none⟩))).drew=W2:=⟨_,rfl⟩
 have x0:W2.heap[w.heap.size]? = some (.cells #[.pointer (some ⟨ab,0,none⟩),.slice la lv.length lc,.int .i64 (bg.1:Nat),str bg.2] 56 (0,0)):=by
  rw [<- hW2];show (W.setCell ⟨w.heap.size,0,none⟩ (.pointer (some ⟨ab,0,none⟩))).heap[w.heap.size]? = _
  rw [setCell_at' HW.out.2.2.2.1];rfl
 have x1:W2.heap[w.heap.size+1]? = some (.cells #[.pointer none,.slice none 0 0,.int .i64 0,str []] 56 (0,0)):=by
  rw [<- hW2];show (W.setCell ⟨w.heap.size,0,none⟩ (.pointer (some ⟨ab,0,none⟩))).heap[w.heap.size+1]? = _
  rw [Below.heap_setCell _ _ _ _ (by show w.heap.size+1≠w.heap.size;omega)];exact HW.out.2.2.2.2
 have hb02:Below w.heap.size w W2:=by rw [<- hW2];exact (HW.out.2.1.setCell (p:=⟨w.heap.size,0,none⟩) (Nat.le_refl _) _).drew
 have hz2:W2.heap.size=w.heap.size+2:=by rw [<- hW2];show (W.setCell ⟨w.heap.size,0,none⟩ _).heap.size=_;simp [World.setCell,HW.out.2.2.1]
 rw [hW2]
 have K2:Hid (∀ x,Below W2.heap.size W2 x->x.cell? ⟨w.heap.size,1,none⟩=some (.slice la lv.length lc)):=Lib.hid (fun x hx=>by
  obtain ⟨_,k1,_,_⟩:=cells_4 x0
  exact (hx.cell (World.block_lt_of_cell? _ _ k1)).trans k1)
 have CA:Hid (∀ wz,Below W2.heap.size W2 wz->Calls Tryd.prog 47 #[.pointer (some ⟨kb,0,none⟩),str p] wz fun en w'=>∃ kb2 sa2 sc2,en=.returned (.pointer (some ⟨kb2,0,none⟩))/\w'=wz/\wz.cell? ⟨kb2,0,none⟩=some (.slice sa2 a.args.length sc2)):=Lib.hid (fun wz hz=>by
  have hk2:=HA.out.2.1.below (hb02.trans (hz.mono hb02.size)) (fun _ h=>h)
  have hpl:=HL.out.1
  refine (kindAt_any F t p _ wz hk2 HA.out.2.2.2.2.2.1 (show _<=_ by omega)).mono ?_
  rintro en w' ⟨v,rfl,rfl,_,hy⟩
  obtain ⟨kb2,ks2,rfl,_,hc2,hr2⟩:=encK_open (hy a HA.out.2.2.2.1)
  obtain ⟨sa2,sc2,rfl,_⟩:=Rep_sl1_open hr2
  exact ⟨kb2,sa2,sc2,rfl,rfl,by simp [World.cell?,hc2]⟩)
 have CP:=Lib.hid (fun wz (hz:Below W2.heap.size W2 wz)=>places_any a.args.length idx p wz (HA.out.1.below (hb02.trans (hz.mono hb02.size))) (by have:=HA.out.2.2.2.2.2;omega) (by have:=HL.out.1;omega))
 have CC:=Lib.hid (fun x pa pc (hx:Below W2.heap.size W2 x) (ho:Own x 54 2 (.slice pa a.args.length pc) a.args.length (plcs idx p a.args.length)) =>
  concatP_any x.heap.size lv.length a.args.length (.slice la lv.length lc) (.slice pa a.args.length pc) (lvC lv) (lvC (placesOf a.args.length idx p)) (x.alloc (.cells #[.slice la lv.length lc,.slice pa a.args.length pc] 52)) (by simp) (by simp)
   ((HA.out.2.2.1.below (hb02.trans (hx.mono hb02.size)) (fun _ h=>h)).src.alloc _) ((SrcSl.ofOwn (by rw [plcs_eq] at ho;exact ho) (lvC_one _)).alloc _) (show _<=_ by have:=HL.out.2;omega) (show _<=_ by have:=HA.out.2.2.2.2.2;omega) (show _<=_ by have:=HL.out.2;have:=HA.out.2.2.2.2.2;omega))
 have H2:=Lib.hid (And.intro x0 (And.intro x1 (And.intro hb02 hz2)))
 clear hW2 x0 x1 hb02 hz2 hSd KEY f0 ex hpm B hj8 hjI hm1I
 go_upto_region 4 with (fail)
 refine wp_region_noPanic ?_
 refine wp_region_S (fun w'=>Below W2.heap.size W2 w') (fun i=>i == 15) (by kernel_rfl) ?_
 have hSd:(fun w'=>Below W2.heap.size W2 w') W2.drew:=Below.drew (Below.refl _ _)
 refine wpAnyS_take 0 (v:=?_) (by kernel_rfl) (by kernel_rfl) (by kernel_rfl) (by kernel_rfl) (fun _ _ _ _ h=>h) hSd ?_ ?_
 rotate_left
 ·(intro oi ho;simp at ho;subst ho;refine Or.inl ⟨by rfl,fun w' hw'=>?_⟩;go_simp;try with_reducible rfl)
 (intro d hd;simp at hd;subst hd;simp only [Act.put,List.setIfInBounds_toArray,List.set_cons_zero,List.set_cons_succ])
 refine wpAnyS_take 1 (v:=?_) (by kernel_rfl) (by kernel_rfl) (by kernel_rfl) (by kernel_rfl) (fun _ _ _ _ h=>h) hSd ?_ ?_
 rotate_left
 ·(intro oi ho;simp at ho;subst ho;refine Or.inl ⟨by rfl,fun w' hw'=>?_⟩;have e1:=K2.out w' hw';go_simp;try with_reducible rfl)
 (intro d hd;simp at hd;subst hd;simp only [Act.put,List.setIfInBounds_toArray,List.set_cons_zero,List.set_cons_succ])
 refine wpAnyS_take 2 (v:=?_) (by kernel_rfl) (by kernel_rfl) (by kernel_rfl) (by kernel_rfl) (fun _ _ _ _ h=>h) hSd ?_ ?_
 rotate_left
 ·(intro oi ho;simp at ho;subst ho;refine Or.inl ⟨by rfl,fun w' hw'=>?_⟩;go_simp;try with_reducible rfl)
 (intro d hd;simp at hd;subst hd;simp only [Act.put,List.setIfInBounds_toArray,List.set_cons_zero,List.set_cons_succ])
 refine wpAnyS_take 3 (v:=?_) (by kernel_rfl) (by kernel_rfl) (by kernel_rfl) (by kernel_rfl) (fun _ _ _ _ h=>h) hSd ?_ ?_
 rotate_left
 ·(intro oi ho;simp at ho;subst ho;refine Or.inl ⟨by rfl,fun w' hw'=>?_⟩;go_simp;try with_reducible rfl)
 (intro d hd;simp at hd;subst hd;simp only [Act.put,List.setIfInBounds_toArray,List.set_cons_zero,List.set_cons_succ])
 refine wpAnyS_take 9 (v:=?_) (by kernel_rfl) (by kernel_rfl) (by kernel_rfl) (by kernel_rfl) (fun _ _ _ _ h=>h) hSd ?_ ?_
 rotate_left
 ·(intro oi ho;simp at ho;subst ho;refine Or.inl ⟨by rfl,fun w' hw'=>?_⟩;go_simp;try with_reducible rfl)
 (intro d hd;simp at hd;subst hd;simp only [Act.put,List.setIfInBounds_toArray,List.set_cons_zero,List.set_cons_succ])
 refine wpAnyS_take 10 (v:=?_) (by kernel_rfl) (by kernel_rfl) (by kernel_rfl) (by kernel_rfl) (fun _ _ _ _ h=>h) hSd ?_ ?_
 rotate_left
 ·(intro oi ho;simp at ho;subst ho;refine Or.inl ⟨by rfl,fun w' hw'=>?_⟩;go_simp;try with_reducible rfl)
 (intro d hd;simp at hd;subst hd;simp only [Act.put,List.setIfInBounds_toArray,List.set_cons_zero,List.set_cons_succ])
 refine wpAnyS_one 4 (by kernel_rfl) ?_
 (intro o4 ho K' hK;simp at ho;subst ho)
 go_simp
 go_at_call 47
 (with_reducible refine (CA.out _ hSd).mono ?_)
 rintro en x4 ⟨kb2,sa2,sc2,rfl,ex4,hc4⟩
 subst ex4
 have hc4':Hid (∀ x,Below W2.heap.size W2 x->x.cell? ⟨kb2,0,none⟩=some (.slice sa2 a.args.length sc2)):=Lib.hid (fun x hx=>(hx.cell (World.block_lt_of_cell? W2 _ hc4)).trans hc4)
 refine hK.out _ _ ?_ ?_
 ·exact fun _=>hSd
 clear hK K'
 (try simp only [Act.put,List.setIfInBounds_toArray,List.set_cons_zero,List.set_cons_succ])
 have hS4:=hSd
 refine wpAnyS_take 5 (v:=?_) (by kernel_rfl) (by kernel_rfl) (by kernel_rfl) (by kernel_rfl) (fun _ _ _ _ h=>h) hS4 ?_ ?_
 rotate_left
 ·(intro oi ho;simp at ho;subst ho;refine Or.inl ⟨by rfl,fun w' hw'=>?_⟩;go_simp;try with_reducible rfl)
 (intro d hd;simp at hd;subst hd;simp only [Act.put,List.setIfInBounds_toArray,List.set_cons_zero,List.set_cons_succ])
 refine wpAnyS_take 6 (v:=?_) (by kernel_rfl) (by kernel_rfl) (by kernel_rfl) (by kernel_rfl) (fun _ _ _ _ h=>h) hS4 ?_ ?_
 rotate_left
 ·(intro oi ho;simp at ho;subst ho;refine Or.inl ⟨by rfl,fun w' hw'=>?_⟩;go_simp;try with_reducible rfl)
 (intro d hd;simp at hd;subst hd;simp only [Act.put,List.setIfInBounds_toArray,List.set_cons_zero,List.set_cons_succ])
 refine wpAnyS_take 7 (v:=?_) (by kernel_rfl) (by kernel_rfl) (by kernel_rfl) (by kernel_rfl) (fun _ _ _ _ h=>h) hS4 ?_ ?_
 rotate_left
 ·(intro oi ho;simp at ho;subst ho;refine Or.inl ⟨by rfl,fun w' hw'=>?_⟩;have e1:=hc4'.out w' hw';go_simp;try with_reducible rfl)
 (intro d hd;simp at hd;subst hd;simp only [Act.put,List.setIfInBounds_toArray,List.set_cons_zero,List.set_cons_succ])
 refine wpAnyS_take 8 (v:=?_) (by kernel_rfl) (by kernel_rfl) (by kernel_rfl) (by kernel_rfl) (fun _ _ _ _ h=>h) hS4 ?_ ?_
 rotate_left
 ·(intro oi ho;simp at ho;subst ho;refine Or.inl ⟨by rfl,fun w' hw'=>?_⟩;go_simp;try with_reducible rfl)
 (intro d hd;simp at hd;subst hd;simp only [Act.put,List.setIfInBounds_toArray,List.set_cons_zero,List.set_cons_succ])
 refine wpAnyS_one 11 (by kernel_rfl) ?_
 (intro o11 ho K' hK;simp at ho;subst ho)
 go_simp
 go_at_call 33
 (with_reducible refine (CP.out _ hSd).mono ?_)
 rintro en x11 ⟨pa,pc,rfl,ho11,hb11,hf11⟩
 have hB11:Below W2.heap.size W2 x11:=Below.trans hSd (hb11.mono (Below.size hSd))
 refine hK.out _ _ ?_ ?_
 ·exact fun _=>hB11
 clear hK K'
 (try simp only [Act.put,List.setIfInBounds_toArray,List.set_cons_zero,List.set_cons_succ])
 refine wpAnyS_one 12 (by kernel_rfl) ?_
 (intro o12 ho K' hK;simp at ho;subst ho)
 go_simp
 refine hK.out _ _ ?_ ?_
 ·exact fun _=>hB11.alloc hB11.size _
 clear hK K'
 (try simp only [Act.put,List.setIfInBounds_toArray,List.set_cons_zero,List.set_cons_succ])
 refine wpAnyS_one 13 (by kernel_rfl) ?_
 (intro o13 ho K' hK;simp at ho;subst ho)
 have hB12:Below W2.heap.size W2 (x11.alloc (.cells #[.slice la lv.length lc,.slice pa a.args.length pc] 52)):=hB11.alloc hB11.size _
 go_simp
 go_at_call 46
 (with_reducible refine (CC.out x11 pa pc hB11 ho11).mono ?_)
 rintro en x13 ⟨ca,cc,rfl,ho13,hb13,hf13⟩
 have hB13:Below W2.heap.size W2 x13:=hB12.trans (hb13.mono hB12.size)
 refine hK.out _ _ ?_ ?_
 ·exact fun _=>hB13
 clear hK K'
 (try simp only [Act.put,List.setIfInBounds_toArray,List.set_cons_zero,List.set_cons_succ])
 have hS13:=hB13
 refine wpAnyS_take 14 (v:=?_) (by kernel_rfl) (by kernel_rfl) (by kernel_rfl) (by kernel_rfl) (fun _ _ _ _ h=>h) hS13 ?_ ?_
 rotate_left
 ·(intro oi ho;simp at ho;subst ho;refine Or.inl ⟨by rfl,fun w' hw'=>?_⟩;go_simp;try with_reducible rfl)
 (intro d hd;simp at hd;subst hd;simp only [Act.put,List.setIfInBounds_toArray,List.set_cons_zero,List.set_cons_succ])
 refine wpAnyS_one 15 (by kernel_rfl) ?_
 (intro o15 ho K' hK;simp at ho;subst ho)
 have xx0:=(hB13.block _ (lt_of_heap H2.out.1)).trans H2.out.1
 obtain ⟨_,e1,_,_⟩:=cells_4 xx0
 have f1:=frozen_4 xx0 1
 go_simp
 refine hK.out _ _ ?_ ?_
 ·intro h;simp at h
 clear hK K'
 (try simp only [Act.put,List.setIfInBounds_toArray,List.set_cons_zero,List.set_cons_succ])
 refine wpAnyS_done (by kernel_rfl) (NoPanic.normal ?_) _
 obtain ⟨W3,hW3⟩:∃ W3,x13.setCell ⟨w.heap.size,1,none⟩ (.slice ca (lv.length+a.args.length) cc)=W3:=⟨_,rfl⟩
 have y0:W3.heap[w.heap.size]? = some (.cells #[.pointer (some ⟨ab,0,none⟩),.slice ca (lv.length+a.args.length) cc,.int .i64 (bg.1:Nat),str bg.2] 56 (0,0)):=by rw [<- hW3,setCell_at' xx0];rfl
 have xx1:=(hB13.block _ (lt_of_heap H2.out.2.1)).trans H2.out.2.1
 have y1:W3.heap[w.heap.size+1]? = some (.cells #[.pointer none,.slice none 0 0,.int .i64 0,str []] 56 (0,0)):=by rw [<- hW3,Below.heap_setCell _ _ _ _ (by show w.heap.size+1≠w.heap.size;omega)];exact xx1
 have hb03:Below w.heap.size w W3:=by rw [<- hW3];exact (H2.out.2.2.1.trans (hB13.mono H2.out.2.2.1.size)).setCell (p:=⟨w.heap.size,1,none⟩) (Nat.le_refl _) _
 have hfr:∀ g,(Value.slice ca (lv.length+a.args.length) cc).ownBlock=some g->w.heap.size+2<=g:=fun g hg=>by
  have h1:=hf13 g hg
  have h2:=hB12.size
  have h3:=H2.out.2.2.2
  omega
 have hown:Own W3 54 2 (.slice ca (lv.length+a.args.length) cc) (lv.length+a.args.length) (lvC (lv++placesOf a.args.length idx p)):=by
  rw [lvC_append,<- hW3]
  exact ho13.keep fun g o hg ho=>by
   have:=hfr g hg
   rw [Below.heap_setCell _ _ _ _ (by show g≠w.heap.size;omega)];exact ho
 rw [hW3]
 obtain ⟨k0,k1,k2,k3⟩:=cells_4 y0
 have g2:=frozen_4 y0 2;have g3:=frozen_4 y0 3
 have H3:=Lib.hid (And.intro y0 (And.intro y1 (And.intro hb03 (And.intro hfr hown))))
 clear hW3 y0 y1 xx1 xx0 hb03 hfr hown hB11 hB12 hB13 hb11 hb13 ho11 ho13 hf11 hf13 hc4 hc4' hSd e1 f1 hS13 CA CP CC K2
 go_upto_region 10 with (fail)
 obtain ⟨W4,hW4⟩:∃ W4,(W3.setCell ⟨w.heap.size,2,none⟩ (.int .i64 (idx:Nat))).setCell ⟨w.heap.size,3,none⟩ (str p)=W4:=⟨_,rfl⟩
 have y0:W4.heap[w.heap.size]? = some (.cells #[.pointer (some ⟨ab,0,none⟩),.slice ca (lv.length+a.args.length) cc,.int .i64 (idx:Nat),str p] 56 (0,0)):=by rw [<- hW4,setCell_at' (setCell_at' H3.out.1)];rfl
 have oth:∀ g,g≠w.heap.size->W4.heap[g]? = W3.heap[g]?:=fun g hg=>by rw [<- hW4,Below.heap_setCell _ _ _ _ (by show g≠w.heap.size;exact hg),Below.heap_setCell _ _ _ _ (by show g≠w.heap.size;exact hg)]
 have y1:W4.heap[w.heap.size+1]? = some (.cells #[.pointer none,.slice none 0 0,.int .i64 0,str []] 56 (0,0)):=by rw [oth _ (by omega)];exact H3.out.2.1
 have hb04:Below w.heap.size w W4:=by rw [<- hW4];exact (H3.out.2.2.1.setCell (p:=⟨w.heap.size,2,none⟩) (Nat.le_refl _) _).setCell (p:=⟨w.heap.size,3,none⟩) (Nat.le_refl _) _
 have hown:Own W4 54 2 (.slice ca (lv.length+a.args.length) cc) (lv.length+a.args.length) (lvC (lv++placesOf a.args.length idx p)):=H3.out.2.2.2.2.keep fun g o hg ho=>by
  have:=H3.out.2.2.2.1 g hg
  rw [oth g (by omega)];exact ho
 rw [hW4]
 clear k0 k1 k2 k3 g2 g3
 obtain ⟨k0,k1,k2,k3⟩:=cells_4 y0
 obtain ⟨z0,z1,z2,z3⟩:=cells_4 y1
 have g0:=frozen_4 y1 0;have g1:=frozen_4 y1 1;have g2:=frozen_4 y1 2;have g3:=frozen_4 y1 3
 have H4:=Lib.hid (And.intro y1 (And.intro hb04 hown))
 clear hW4 y0 y1 oth hb04 hown
 go_wp2_with fail
 have hV:=set_four H4.out.1 (.pointer (some ⟨ab,0,none⟩)) (.slice ca (lv.length+a.args.length) cc) (.int .i64 (idx:Nat)) (str p)
 obtain ⟨s0,s1,s2,s3⟩:=cells_4 hV
 have hbF:=(((H4.out.2.1.setCell (p:=⟨w.heap.size+1,0,none⟩) (Nat.le_succ _) (.pointer (some ⟨ab,0,none⟩))).setCell (p:=⟨w.heap.size+1,1,none⟩) (Nat.le_succ _) (.slice ca (lv.length+a.args.length) cc)).setCell (p:=⟨w.heap.size+1,2,none⟩) (Nat.le_succ _) (.int .i64 (idx:Nat))).setCell (p:=⟨w.heap.size+1,3,none⟩) (Nat.le_succ _) (str p)
 refine bodyPost_ret (v:=.agg #[.pointer (some ⟨ab,0,none⟩),.slice ca (lv.length+a.args.length) cc,.int .i64 (idx:Nat),str p]) (by simp [results,Tryd.results32,go_sem,s0,s1,s2,s3]) rfl ?_
 have hlen:(lv++placesOf a.args.length idx p).length=lv.length+a.args.length:=by rw [List.length_append,placesOf_length]
 refine ⟨ab,ca,cc,by rw [hlen],hbF,HA.out.2.2.2.2.1,?_⟩
 rw [hlen]
 refine Own.lv ?_ hlen.symm (fun g hg=>by have:=H3.out.2.2.2.1 g hg;omega)
 exact H4.out.2.2.keep fun g o hg ho=>by
  have:=H3.out.2.2.2.1 g hg
  rw [Below.heap_setCell _ _ _ _ (by show g≠w.heap.size+1;omega),Below.heap_setCell _ _ _ _ (by show g≠w.heap.size+1;omega),Below.heap_setCell _ _ _ _ (by show g≠w.heap.size+1;omega),Below.heap_setCell _ _ _ _ (by show g≠w.heap.size+1;omega)];exact ho
set_option maxRecDepth 100000 in
theorem conv_digit (i:Nat) (h:i<10) (w:World):(convert 21 9 (.int .i32 (48+(i:Int)))).run Tryd.prog w=.ok (str [digit i]) w:=by
 have h1:Tryd.prog.underlying 21=some (.int .i32):=Tryd.underlying21
 have h2:Tryd.prog.underlying 9=some .string:=Tryd.underlying9
 have e:(convert 21 9 (.int .i32 (48+(i:Int)))).run Tryd.prog w=(Conv.intToString (48+(i:Int))).run Tryd.prog w:=by
  simp [convert,run_underlying h1,run_underlying h2]
 rw [e]
 have:i=0\/i=1\/i=2\/i=3\/i=4\/i=5\/i=6\/i=7\/i=8\/i=9:=by omega
 rcases this with rfl | rfl | rfl | rfl | rfl | rfl | rfl | rfl | rfl | rfl <;> rfl
def MvRep (F:Nat->Prop) (w:World) (v:Pl) (x:Value):Prop:=Rep F w (.sl 9 1 v.length (v.map fun m=>DV.val (str m.1))) x
def PtRep (F:Nat->Prop) (w:World) (v:Pl) (x:Value):Prop:=Rep F w (.sl 3 1 v.length (v.map fun m=>DV.val (.int .i64 m.2))) x
theorem Reps_vals {F:Nat->Prop} {w:World}:∀ (us vs:List Value),Reps F w (us.map DV.val) vs↔vs=us
 | [],vs=>by simp [Reps_nil]
 | u::us,vs=>by
   rw [List.map_cons,Reps_cons]
   constructor
   ·rintro ⟨x,xs,rfl,h1,h2⟩
    rw [Rep_val] at h1
    rw [(Reps_vals us xs).1 h2,h1]
   ·rintro rfl
    exact ⟨u,us,rfl,Rep_val.2 rfl,(Reps_vals us us).2 rfl⟩
theorem MvRep.src {F:Nat->Prop} {w:World} {v:Pl} {x:Value} (h:MvRep F w v x):SrcSl 1 x v.length (logM v) w:=by
 have h':Rep F w (.sl 9 1 v.length ((logM v).map DV.val)) x:=by unfold MvRep at h;rw [show (logM v).map DV.val=v.map fun m=>DV.val (str m.1) from by simp [logM,Function.comp_def]];exact h
 obtain ⟨xs,hx,hs⟩:=SrcSl.ofRep h' (fun us hu u hm=>by
  rw [(Reps_vals _ _).1 hu] at hm
  obtain ⟨m,_,rfl⟩:=List.mem_map.1 hm
  simp [str,Value.oneCell'])
 rw [(Reps_vals _ _).1 hx] at hs;exact hs
theorem PtRep.src {F:Nat->Prop} {w:World} {v:Pl} {x:Value} (h:PtRep F w v x):SrcSl 1 x v.length (logP v) w:=by
 have h':Rep F w (.sl 3 1 v.length ((logP v).map DV.val)) x:=by unfold PtRep at h;rw [show (logP v).map DV.val=v.map fun m=>DV.val (.int .i64 m.2) from by simp [logP,Function.comp_def]];exact h
 obtain ⟨xs,hx,hs⟩:=SrcSl.ofRep h' (fun us hu u hm=>by
  rw [(Reps_vals _ _).1 hu] at hm
  obtain ⟨m,_,rfl⟩:=List.mem_map.1 hm
  simp [Value.oneCell'])
 rw [(Reps_vals _ _).1 hx] at hs;exact hs
theorem PlayAt.mv {F:Nat->Prop} {w:World} {v:Pl} {mv pt:Value} (h:PlayAt w v mv pt) (hF:∀ g,mv.ownBlock=some g\/pt.ownBlock=some g->F g):MvRep F w v mv/\PtRep F w v pt:=by
 obtain ⟨a1,c1,rfl⟩:=h.1.slice
 obtain ⟨a2,c2,rfl⟩:=h.2.slice
 refine ⟨h.1.rep (fun g hg=>hF g (.inl hg)) ?_,h.2.rep (fun g hg=>hF g (.inr hg)) ?_⟩
 ·rw [show (v.map fun m=>DV.val (str m.1))=(logM v).map DV.val from by simp [logM,Function.comp_def]];exact (Reps_vals _ _).2 rfl
 ·rw [show (v.map fun m=>DV.val (.int .i64 m.2))=(logP v).map DV.val from by simp [logP,Function.comp_def]];exact (Reps_vals _ _).2 rfl
def Fv (va:Nat) (vw:Value) (i:Nat):Prop:=i≠va/\vw.ownBlock≠some i
def Mv (va:Nat) (vw:Value) (i:Nat):Prop:=i=va\/vw.ownBlock=some i
theorem Fv.keep {va:Nat} {vw vw':Value} {w w':World} (hb:But (Mv va vw) w w') (hf:∀ g,vw'.ownBlock=some g->vw.ownBlock=some g\/w.heap.size<=g) {d:DV} {x:Value} (h:Rep (Fv va vw) w d x):Rep (Fv va vw') w' d x :=
 (Rep.keep fun b o hF ho=>⟨⟨hF.1,fun e=>by
  rcases hf b e with h | h
  ·exact hF.2 h
  ·have:=lt_of_heap ho;omega⟩,by rw [hb.block b (lt_of_heap ho) (fun e=>e.elim hF.1 hF.2)];exact ho⟩).1 _ _ h
structure CollIn (t:Ty) (b:Bd) (hand:List Ty) (lv:List Place) (bg:Place) (v:Pl) (kv bv lsl mv pt:Value) (va:Nat) (vw:Value) (us:List (Value×Value)) (L:List Pl) (w:World):Prop where
 g:Glob w
 t15:atomsT t<=15
 rk:Rep (Fv va vw) w (encK t) kv
 rb:Rep (Fv va vw) w (encB b) bv
 rl:LvRep (Fv va vw) w lv lsl
 rm:MvRep (Fv va vw) w v mv
 rp:PtRep (Fv va vw) w v pt
 fit:fitB hand b
 pf:PlFit t lv hand v.length
 bgl:bg.2.length<=1000
 v1:1<=v.length
 v60:v.length<=60
 ll:lv.length<=8*(v.length+1)
 blk:w.heap[va]? = some (.cells #[kv,vw] 50 (0,0))
 pls:PlsAt w L vw us
 cnt:L.length+sizeB b<=1000
 ng:∀ g,Mv va vw g->NotG g
def CollOut (o:Option (List Pl)) (kv:Value) (va:Nat) (vw:Value) (us:List (Value×Value)) (L:List Pl) (w:World) (en:Ending) (w':World):Prop :=
 en=.returned (.bool o.isSome)/\But (Mv va vw) w w'/\∀ out,o=some out->∃ vw' us',w'.heap[va]? = some (.cells #[kv,vw'] 50 (0,0))/\PlsAt w' (L++out) vw' (us++us')/\(∀ g,vw'.ownBlock=some g->vw.ownBlock=some g\/w.heap.size<=g)/\∀ u∈us',∀ g,u.1.ownBlock=some g\/u.2.ownBlock=some g->w.heap.size<=g
def CollSaid (t:Ty) (b:Bd):Prop:=∀ (hand:List Ty) (lv:List Place) (bg:Place) (v:Pl) (kv bv lsl mv pt:Value) (va:Nat) (vw:Value) (us:List (Value×Value)) (L:List Pl) (w:World),CollIn t b hand lv bg v kv bv lsl mv pt va vw us L w ->
 Calls Tryd.prog 13 #[.pointer (some ⟨va,0,none⟩),.agg #[bv,lsl,.int .i64 (bg.1:Nat),str bg.2],.agg #[mv,pt]] w (CollOut (viewsB t b lv bg v) kv va vw us L w)
theorem PlsG.not_at {w:World} {v:Value} {us:List (Value×Value)} {xs:Rows2} (h:PlsG w v us xs) {va:Nat} {c:Array Value} {fr:Nat×Nat} (hb:w.heap[va]? = some (.cells c 50 fr)):¬ PlB v us va:=by
 have key:∀ {e:TypeId} {sz n:Nat} {r:Value} {ys:List Value},e≠50->Own w e sz r n ys->r.ownBlock≠some va:=by
  intro e sz n r ys he hr hg
  rcases hr.2 with ⟨rfl,_⟩ | ⟨b,cap,cur,rfl,_,hb1,_⟩
  ·simp [Value.ownBlock] at hg
  ·simp [Value.ownBlock] at hg
   subst hg
   rw [hb1] at hb
   simp at hb
   exact he hb.2.1
 rintro (hp | ⟨u,hu,hp⟩)
 ·exact key (by decide) h.own hp
 ·obtain ⟨i,x,h1,h2⟩:=h.mem hu
  rcases hp with hp | hp
  ·exact key (by decide) (h.each i u x h1 h2).1 hp
  ·exact key (by decide) (h.each i u x h1 h2).2 hp
set_option maxRecDepth 100000 in
theorem coll_u (t:Ty):CollSaid t (.leaf 117):=by
 intro hand lv bg v kv bv lsl mv pt va vw us L w h
 obtain ⟨b,sl,rfl,_,hc,_⟩:=leaf_open h.rb
 obtain ⟨a1,c1,rfl⟩:=h.rm.src.slice
 obtain ⟨a2,c2,rfl⟩:=h.rp.src.slice
 obtain ⟨la,lc,rfl,_⟩:=h.rl.open
 obtain ⟨W,hW,hbW,hz,b0,b1⟩:=boxes_2 w (.cells #[.pointer (some ⟨b,0,none⟩),.slice la lv.length lc,.int .i64 (bg.1:Nat),str bg.2] 56) (.cells #[.slice a1 v.length c1,.slice a2 v.length c2] 39)
 obtain ⟨e0,_,_,_⟩:=cells_4 b0
 have d0:W.cell? ⟨b,0,none⟩=some (.string ⟨#[117]⟩):=(hbW.cell (by exact lt_of_heap hc)).trans (by simp [World.cell?,hc])
 have H:=Lib.hid h
 have HW:=Lib.hid (And.intro hW hbW)
 clear h hW hbW hz b0 b1 hc
 go_enter Tryd.func13,Tryd.ntmps13
 go_upto_region 1 with (fail)
 rw [HW.out.1]
 go_wp2_with fail
 go_ret
 have e:viewsB t (.leaf 117) lv bg v=some []:=by rw [viewsB];rfl
 rw [e]
 refine ⟨rfl,But.ofBelow HW.out.2,fun out ho=>?_⟩
 obtain rfl:=Option.some.inj ho
 refine ⟨vw,[],by rw [HW.out.2.block _ (lt_of_heap H.out.blk)];exact H.out.blk,by rw [List.append_nil,List.append_nil];exact PlsG.below H.out.pls HW.out.2,fun g hg=>.inl hg,fun u hu=>by simp at hu⟩
theorem CollOut.no {t:Ty} {b:Bd} {lv:List Place} {bg:Place} {v:Pl} {kv:Value} {va:Nat} {vw:Value} {us:List (Value×Value)} {L:List Pl} {w w':World} (hb:Below w.heap.size w w') (e:viewsB t b lv bg v=none) :
 CollOut (viewsB t b lv bg v) kv va vw us L w (.returned (.bool false)) w':=by
 rw [e]
 exact ⟨rfl,But.ofBelow hb,fun out h=>by simp at h⟩
set_option maxRecDepth 100000 in
theorem coll_leaf_long (t:Ty) (c:UInt8) (hc:¬ c=117) (hand:List Ty) (lv:List Place) (bg:Place) (v:Pl) (kv bv lsl mv pt:Value) (va:Nat) (vw:Value) (us:List (Value×Value)) (L:List Pl) (w:World) (h:CollIn t (.leaf c) hand lv bg v kv bv lsl mv pt va vw us L w) (hv:60<=v.length) :
 Calls Tryd.prog 13 #[.pointer (some ⟨va,0,none⟩),.agg #[bv,lsl,.int .i64 (bg.1:Nat),str bg.2],.agg #[mv,pt]] w (CollOut (viewsB t (.leaf c) lv bg v) kv va vw us L w):=by
 obtain ⟨b,sl,rfl,_,hbc,_⟩:=leaf_open h.rb
 obtain ⟨a1,c1,rfl⟩:=h.rm.src.slice
 obtain ⟨a2,c2,rfl⟩:=h.rp.src.slice
 obtain ⟨la,lc,rfl,_⟩:=h.rl.open
 obtain ⟨W,hW,hbW,hz,b0,b1⟩:=boxes_2 w (.cells #[.pointer (some ⟨b,0,none⟩),.slice la lv.length lc,.int .i64 (bg.1:Nat),str bg.2] 56) (.cells #[.slice a1 v.length c1,.slice a2 v.length c2] 39)
 obtain ⟨e0,_,_,_⟩:=cells_4 b0
 obtain ⟨v0,_,_,_⟩:=cells_2 b1
 have d0:W.cell? ⟨b,0,none⟩=some (.string ⟨#[c]⟩):=(hbW.cell (by exact lt_of_heap hbc)).trans (by simp [World.cell?,hbc])
 have q1:(([c]:Bs) == [117])=false:=by rw [beq_eq_false_iff_ne];simpa using hc
 have hvI:(60:Int)<=(v.length:Int):=by omega
 have HW:=Lib.hid (And.intro hW hbW)
 have E:=Lib.hid (show viewsB t (.leaf c) lv bg v=none by rw [viewsB,if_neg hc,if_pos hv])
 clear h hW hbW hz b0 b1 hbc hc hv
 go_enter Tryd.func13,Tryd.ntmps13
 go_upto_region 1 with (fail)
 rw [HW.out.1]
 go_wp2_with fail
 go_ret
 exact CollOut.no HW.out.2 E.out
set_option maxRecDepth 100000 in
theorem coll_ask_long (t:Ty) (l:Nat) (ss:List Bd) (y n:Bd) (hand:List Ty) (lv:List Place) (bg:Place) (v:Pl) (kv bv lsl mv pt:Value) (va:Nat) (vw:Value) (us:List (Value×Value)) (L:List Pl) (w:World) (h:CollIn t (.ask l ss y n) hand lv bg v kv bv lsl mv pt va vw us L w) (hv:59<=v.length) :
 Calls Tryd.prog 13 #[.pointer (some ⟨va,0,none⟩),.agg #[bv,lsl,.int .i64 (bg.1:Nat),str bg.2],.agg #[mv,pt]] w (CollOut (viewsB t (.ask l ss y n) lv bg v) kv va vw us L w):=by
 have C:=Lib.hid (fun wz (hz:Below w.heap.size w wz)=>isList_ask _ wz l ss y n bv (h.rb.below hz (fun _ h=>h)))
 obtain ⟨b,sl,yv,nv,rfl,_,hbc,_⟩:=ask_open h.rb
 obtain ⟨a1,c1,rfl⟩:=h.rm.src.slice
 obtain ⟨a2,c2,rfl⟩:=h.rp.src.slice
 obtain ⟨la,lc,rfl,_⟩:=h.rl.open
 obtain ⟨W,hW,hbW,hz,b0,b1⟩:=boxes_2 w (.cells #[.pointer (some ⟨b,0,none⟩),.slice la lv.length lc,.int .i64 (bg.1:Nat),str bg.2] 56) (.cells #[.slice a1 v.length c1,.slice a2 v.length c2] 39)
 obtain ⟨e0,_,_,_⟩:=cells_4 b0
 obtain ⟨v0,_,_,_⟩:=cells_2 b1
 have d0:W.cell? ⟨b,0,none⟩=some (.string ⟨#[]⟩):=(hbW.cell (by exact lt_of_heap hbc)).trans (by simp [World.cell?,hbc])
 have HW:=Lib.hid (And.intro hW hbW)
 have CW:=Lib.hid (C.out W hbW)
 have E:=Lib.hid (show viewsB t (.ask l ss y n) lv bg v=none by rw [viewsB,if_pos hv])
 clear h hW hbW hz b0 b1 hbc C
 by_cases h60:60<=v.length
 ·have hvI:(60:Int)<=(v.length:Int):=by omega
  go_enter Tryd.func13,Tryd.ntmps13
  go_upto_region 1 with (fail)
  rw [HW.out.1]
  go_wp2_with fail
  go_ret
  exact CollOut.no HW.out.2 E.out
 ·have hvI:¬ (60:Int)<=(v.length:Int):=by omega
  have hvJ:(59:Int)<=(v.length:Int):=by omega
  go_enter Tryd.func13,Tryd.ntmps13
  go_upto_region 1 with (fail)
  rw [HW.out.1]
  go_wp2_with fail
  (with_reducible refine CW.out.mono ?_)
  rintro en w1 ⟨rfl,ew⟩
  subst ew
  go_wp2_with fail
  go_ret
  exact CollOut.no HW.out.2 E.out
theorem Tryd.infoPlay:(Tryd.prog.info? 39).map (fun i=>(i.zero,i.size,i.bytes))=some (some (.agg #[.slice none 0 0,.slice none 0 0]),2,48):=by kernel_rfl
structure AddIn (w:World) (va:Nat) (kv:Value) (va2:Option Addr) (vc:Nat) (us:List (Value×Value)) (L:List Pl) (l:Pl) (a3 a4:Option Addr) (n3 c3 c4:Nat) (B:Nat) (W:World):Prop where
 own:Own W 39 2 (.slice va2 us.length vc) us.length (plC us)
 pls:PlsAt W L (.slice va2 us.length vc) us
 play:PlayAt W l (.slice a3 n3 c3) (.slice a4 n3 c4)
 blk:W.heap[va]? = some (.cells #[kv,.slice va2 us.length vc] 50 (0,0))
 box:W.heap[B]? = some (.cells #[.slice a3 n3 c3,.slice a4 n3 c4] 39 (0,0))
 nva:¬ (Value.slice va2 us.length vc).ownBlock=some va
 nvb:¬ (Value.slice va2 us.length vc).ownBlock=some B
 new:∀ g,(Value.slice a3 n3 c3).ownBlock=some g\/(Value.slice a4 n3 c4).ownBlock=some g->w.heap.size<=g
 old:∀ g,PlB (.slice va2 us.length vc) us g->g<w.heap.size
theorem AddIn.cells {w:World} {va:Nat} {kv:Value} {va2:Option Addr} {vc:Nat} {us:List (Value×Value)} {L:List Pl} {l:Pl} {a3 a4:Option Addr} {n3 c3 c4:Nat} {B:Nat} {W:World} (h:AddIn w va kv va2 vc us L l a3 a4 n3 c3 c4 B W) :
 W.drew.cell? ⟨va,1,none⟩=some (.slice va2 us.length vc)/\W.drew.cell? ⟨B,0,none⟩=some (.slice a3 n3 c3)/\W.drew.cell? ⟨B,1,none⟩=some (.slice a4 n3 c4) :=
 ⟨(cells_2 h.blk).2.1,(cells_2 h.box).1,(cells_2 h.box).2.1⟩
theorem AddIn.frz {w:World} {va:Nat} {kv:Value} {va2:Option Addr} {vc:Nat} {us:List (Value×Value)} {L:List Pl} {l:Pl} {a3 a4:Option Addr} {n3 c3 c4:Nat} {B:Nat} {W:World} (h:AddIn w va kv va2 vc us L l a3 a4 n3 c3 c4 B W) (w5:World) {o:Obj} (hb:But (fun b=>(Value.slice va2 us.length vc).ownBlock=some b) (W.drew.alloc o) w5):w5.frozen? ⟨va,1,none⟩=false:=by
 have h1:(W.drew.alloc o).heap[va]? = some (.cells #[kv,.slice va2 us.length vc] 50 (0,0)):=heap_past (w:=W.drew) h.blk
 have h2:=(hb.block va (lt_of_heap h1) h.nva).trans h1
 simp [World.frozen?,h2]
theorem AddIn.done {w:World} {va:Nat} {kv:Value} {va2:Option Addr} {vc:Nat} {us:List (Value×Value)} {L:List Pl} {l:Pl} {a3 a4:Option Addr} {n3 c3 c4:Nat} {B:Nat} {W:World} (h:AddIn w va kv va2 vc us L l a3 a4 n3 c3 c4 B W) {a5:Option Addr} {c5:Nat} {w5:World} {o:Obj}
 (ho5:Own w5 39 2 (.slice a5 (us.length+1) c5) (us.length+1) (plC us++[.slice a3 n3 c3,.slice a4 n3 c4])) (hb5:But (fun b=>(Value.slice va2 us.length vc).ownBlock=some b) (W.drew.alloc o) w5)
 (hg5:∀ g,(Value.slice a5 (us.length+1) c5).ownBlock=some g->(Value.slice va2 us.length vc).ownBlock=some g\/W.heap.size<=g) (hB:Below w.heap.size w W) (hva:va<w.heap.size) :
 ∃ V,w5.setCell ⟨va,1,none⟩ (.slice a5 (us.length+1) c5)=V/\But (Mv va (.slice va2 us.length vc)) w V/\V.heap[va]? = some (.cells #[kv,.slice a5 (us.length+1) c5] 50 (0,0)) /\
   PlsAt V (L++[l]) (.slice a5 (us.length+1) c5) (us++[(.slice a3 n3 c3,.slice a4 n3 c4)])/\(∀ g,(Value.slice a5 (us.length+1) c5).ownBlock=some g->(Value.slice va2 us.length vc).ownBlock=some g\/w.heap.size<=g) /\
   (∀ (g:Nat) (x:Obj),g≠va->(Value.slice va2 us.length vc).ownBlock≠some g->W.heap[g]? = some x->V.heap[g]? = some x):=by
 have hAl:∀ (g:Nat) (x:Obj),W.heap[g]? = some x->(W.drew.alloc o).heap[g]? = some x:=fun g x hx=>heap_past (w:=W.drew) hx
 have hbA:Below W.heap.size W (W.drew.alloc o):=(Below.drew (Below.refl W.heap.size W)).alloc (Nat.le_refl _) _
 have hp:PlsAt (W.drew.alloc o) L (.slice va2 us.length vc) us:=PlsG.below h.pls hbA
 have lM:(plX l).1.length=l.length:=by simp [plX,logM]
 have lP:(plX l).2.length=l.length:=by simp [plX,logP]
 have hs:PlsG w5 (.slice a5 (us.length+1) c5) (us++[(.slice a3 n3 c3,.slice a4 n3 c4)]) (L.map plX++[plX l]):=PlsG.snoc (u:=(.slice a3 n3 c3,.slice a4 n3 c4)) (x:=plX l) hp ho5 hb5
  (by rw [lM];exact h.play.1.keep fun g x _ hx=>hAl g x hx) (by rw [lP];exact h.play.2.keep fun g x _ hx=>hAl g x hx) (fun g hg hP=>by have h1:=h.new g hg;have h2:=h.old g hP;omega)
 have hv5:w5.heap[va]? = some (.cells #[kv,.slice va2 us.length vc] 50 (0,0)):=(hb5.block va (lt_of_heap (hAl _ _ h.blk)) h.nva).trans (hAl _ _ h.blk)
 have hz:=hB.size
 refine ⟨_,rfl,?_,by rw [setCell_at' hv5];rfl,?_,fun g hg=>?_,fun g x hne hno hx=>?_⟩
 ·have h1:But (Mv va (.slice va2 us.length vc)) w (W.drew.alloc o):=But.ofBelow (hB.trans (hbA.mono hz))
  exact (h1.trans (hb5.weak fun i _ hi=>.inr hi)).setCell (p:=⟨va,1,none⟩) (.inl (.inl rfl)) _
 ·unfold PlsAt
  rw [List.map_append,List.map_singleton]
  exact hs.but (m:=(· = va)) (But.setCell (m:=(· = va)) (But.refl _ w5) (p:=⟨va,1,none⟩) (.inl rfl) _) (fun b hP e=>by subst e;exact hs.not_at hv5 hP)
 ·rcases hg5 g hg with h1 | h1
  ·exact .inl h1
  ·exact .inr (by omega)
 ·rw [Below.heap_setCell _ _ _ _ (by show g≠va;exact hne),hb5.block g (lt_of_heap (hAl _ _ hx)) hno];exact hAl _ _ hx
set_option maxRecDepth 100000 in
theorem coll_leaf (t:Ty) (c:UInt8) (hc:¬ c=117) (hand:List Ty) (lv:List Place) (bg:Place) (v:Pl) (kv bv lsl mv pt:Value) (va:Nat) (vw:Value) (us:List (Value×Value)) (L:List Pl) (w:World) (h:CollIn t (.leaf c) hand lv bg v kv bv lsl mv pt va vw us L w) (hv:¬ 60<=v.length) :
 Calls Tryd.prog 13 #[.pointer (some ⟨va,0,none⟩),.agg #[bv,lsl,.int .i64 (bg.1:Nat),str bg.2],.agg #[mv,pt]] w (CollOut (viewsB t (.leaf c) lv bg v) kv va vw us L w):=by
 have CI:=Lib.hid (fun wz (hz:But (Mv va vw) w wz)=>isList_leaf (fun _=>True) wz c bv (h.rb.but hz (fun b hb=>⟨fun e=>e.elim hb.1 hb.2,trivial⟩)))
 have CT:=Lib.hid (fun wz (hz:Below w.heap.size w wz)=>tells_leaf (Fv va vw) c bv lsl bg wz (h.rb.below hz (fun _ h=>h)) hc h.bgl)
 have CWI:=Lib.hid (fun wz (hz:Below w.heap.size w wz)=>with_any v mv pt (c::bg.2) (bg.1:Int) wz (h.rm.src.below hz) (h.rp.src.below hz) (by have:=h.v60;omega))
 obtain ⟨b,sl,rfl,_,hbc,_⟩:=leaf_open h.rb
 obtain ⟨a1,c1,rfl⟩:=h.rm.src.slice
 obtain ⟨a2,c2,rfl⟩:=h.rp.src.slice
 obtain ⟨la,lc,rfl,_⟩:=h.rl.open
 obtain ⟨va2,vc,rfl⟩:=h.pls.own.slice
 obtain ⟨W,hW,hbW,hz,b0,b1⟩:=boxes_2 w (.cells #[.pointer (some ⟨b,0,none⟩),.slice la lv.length lc,.int .i64 (bg.1:Nat),str bg.2] 56) (.cells #[.slice a1 v.length c1,.slice a2 v.length c2] 39)
 obtain ⟨e0,e1,e2,e3⟩:=cells_4 b0
 obtain ⟨v0,_,_,_⟩:=cells_2 b1
 have d0:W.cell? ⟨b,0,none⟩=some (.string ⟨#[c]⟩):=(hbW.cell (by exact lt_of_heap hbc)).trans (by simp [World.cell?,hbc])
 have q1:(([c]:Bs) == [117])=false:=by rw [beq_eq_false_iff_ne];simpa using hc
 have hvI:¬ (60:Int)<=(v.length:Int):=by omega
 have HW:=Lib.hid (And.intro hW (And.intro hbW (And.intro hz (And.intro b0 b1))))
 have E:=Lib.hid (show viewsB t (.leaf c) lv bg v=some [v++[(c::bg.2,(bg.1:Int))]] by rw [viewsB,if_neg hc,if_neg hv];rfl)
 have H:=Lib.hid h
 obtain ⟨M,hM⟩:∃ M,M=c::bg.2:=⟨_,rfl⟩
 rw [<- hM] at CT CWI E
 clear h hW hbW hz b0 b1 hbc hc hv hM
 go_enter Tryd.func13,Tryd.ntmps13
 go_upto_region 1 with (fail)
 rw [HW.out.1]
 go_wp2_with fail
 (with_reducible refine (CI.out W (But.ofBelow HW.out.2.1)).mono ?_)
 rintro en wA ⟨rfl,ew⟩
 subst ew
 go_wp2_with fail
 (with_reducible refine (CT.out wA HW.out.2.1).mono ?_)
 rintro en w1 ⟨rfl,hb1⟩
 have HB1:=Lib.hid (HW.out.2.1.trans (hb1.mono HW.out.2.1.size))
 have bx1:=(hb1.block _ (lt_of_heap HW.out.2.2.2.2)).trans HW.out.2.2.2.2
 have by1:=(hb1.block _ (lt_of_heap HW.out.2.2.2.1)).trans HW.out.2.2.2.1
 obtain ⟨x0,x1,_,_⟩:=cells_2 bx1
 have HX:=Lib.hid (And.intro bx1 by1)
 clear hb1 bx1 by1 e0 e1 e2 e3 v0 d0
 go_wp2_with fail
 (with_reducible refine (CWI.out w1 HB1.out).mono ?_)
 rintro en w2 ⟨mv2,pt2,rfl,hp2,hb2,hf2⟩
 obtain ⟨l3,hl3⟩:∃ l3,v++[(M,(bg.1:Int))]=l3:=⟨_,rfl⟩
 rw [hl3] at hp2 E
 obtain ⟨n3,hn3⟩:∃ n3,l3.length=n3:=⟨_,rfl⟩
 obtain ⟨a3,c3,e3⟩:=hp2.1.slice
 obtain ⟨a4,c4,e4⟩:=hp2.2.slice
 rw [hn3] at e3 e4
 subst e3;subst e4
 have hw12:Below w.heap.size w w2:=HB1.out.trans (hb2.mono HB1.out.size)
 have hs1:w.heap.size+2<=w1.heap.size:=by have:=lt_of_heap HX.out.1;omega
 have bx2:=(hb2.block _ (lt_of_heap HX.out.1)).trans HX.out.1
 have by2:=(hb2.block _ (lt_of_heap HX.out.2)).trans HX.out.2
 have f0:=frozen_4 bx2 0;have f1:=frozen_4 bx2 1
 obtain ⟨x0,x1,_,_⟩:=cells_2 bx2
 obtain ⟨W3,hW3⟩:∃ W3,(w2.setCell ⟨w.heap.size+1,0,none⟩ (.slice a3 n3 c3)).setCell ⟨w.heap.size+1,1,none⟩ (.slice a4 n3 c4)=W3:=⟨_,rfl⟩
 have oth:∀ g,g≠w.heap.size+1->W3.heap[g]? = w2.heap[g]?:=fun g hg=>by rw [<- hW3,Below.heap_setCell _ _ _ _ (by show g≠w.heap.size+1;exact hg),Below.heap_setCell _ _ _ _ (by show g≠w.heap.size+1;exact hg)]
 have hb3:Below w.heap.size w W3:=by rw [<- hW3];exact (hw12.setCell (p:=⟨w.heap.size+1,0,none⟩) (Nat.le_succ _) _).setCell (p:=⟨w.heap.size+1,1,none⟩) (Nat.le_succ _) _
 have ADD:AddIn w va kv va2 vc us L l3 a3 a4 n3 c3 c4 (w.heap.size+1) W3:=by
  have hlt:∀ {g:Nat},PlB (.slice va2 us.length vc) us g->g<w.heap.size:=fun hg=>H.out.pls.lt hg
  refine ⟨(H.out.pls.below hb3).own,H.out.pls.below hb3,⟨?_,?_⟩,(hb3.block _ (lt_of_heap H.out.blk)).trans H.out.blk,by rw [<- hW3];exact set_two bx2 _ _,fun e=>H.out.pls.not_at H.out.blk (.inl e),fun e=>by have:=hlt (.inl e);omega,fun g hg=>by have:=hf2 g hg;omega,fun g hg=>hlt hg⟩
  ·rw [<- hn3];rw [<- hn3] at hp2;exact hp2.1.keep fun g o hg ho=>by
    have:=hf2 g (.inl (by rw [<- hn3];exact hg))
    rw [oth g (by omega)];exact ho
  ·rw [<- hn3];rw [<- hn3] at hp2;exact hp2.2.keep fun g o hg ho=>by
    have:=hf2 g (.inr (by rw [<- hn3];exact hg))
    rw [oth g (by omega)];exact ho
 have H3:=Lib.hid ADD
 have HB3:=Lib.hid (And.intro hW3 (And.intro hb3 ((oth w.heap.size (by omega)).trans by2)))
 have husl:us.length<=1000:=by have h1:=H.out.cnt;have h2:=PlsAt.length H.out.pls;omega
 clear ADD hW3 hb3 oth by2 hb2 hf2 hp2 hw12 hn3 hl3 hs1
 go_upto_region 7 with (fail)
 rw [HB3.out.1]
 clear x0 x1 f0 f1 bx2
 refine wp_region_noPanic ?_
 refine wp_region_S (fun w'=>w'.cell? ⟨va,1,none⟩=some (.slice va2 us.length vc)/\w'.cell? ⟨w.heap.size+1,0,none⟩=some (.slice a3 n3 c3)/\w'.cell? ⟨w.heap.size+1,1,none⟩=some (.slice a4 n3 c4)) (fun i=>i == 10) (by kernel_rfl) ?_
 have hSd:(fun w'=>w'.cell? ⟨va,1,none⟩=some (.slice va2 us.length vc)/\w'.cell? ⟨w.heap.size+1,0,none⟩=some (.slice a3 n3 c3)/\w'.cell? ⟨w.heap.size+1,1,none⟩=some (.slice a4 n3 c4)) W3.drew:=H3.out.cells
 refine wpAnyS_take 0 (v:=?_) (by kernel_rfl) (by kernel_rfl) (by kernel_rfl) (by kernel_rfl) (fun _ _ _ _ h=>h) hSd ?_ ?_
 rotate_left
 ·(intro oi ho;simp at ho;subst ho;refine Or.inl ⟨by rfl,fun w' hw'=>?_⟩;go_simp;try with_reducible rfl)
 (intro d hd;simp at hd;subst hd;simp only [Act.put,List.setIfInBounds_toArray,List.set_cons_zero,List.set_cons_succ])
 refine wpAnyS_take 1 (v:=?_) (by kernel_rfl) (by kernel_rfl) (by kernel_rfl) (by kernel_rfl) (fun _ _ _ _ h=>h) hSd ?_ ?_
 rotate_left
 ·(intro oi ho;simp at ho;subst ho;refine Or.inl ⟨by rfl,fun w' hw'=>?_⟩;go_simp;try with_reducible rfl)
 (intro d hd;simp at hd;subst hd;simp only [Act.put,List.setIfInBounds_toArray,List.set_cons_zero,List.set_cons_succ])
 refine wpAnyS_take 2 (v:=?_) (by kernel_rfl) (by kernel_rfl) (by kernel_rfl) (by kernel_rfl) (fun _ _ _ _ h=>h) hSd ?_ ?_
 rotate_left
 ·(intro oi ho;simp at ho;subst ho;refine Or.inl ⟨by rfl,fun w' hw'=>?_⟩;go_simp;try with_reducible rfl)
 (intro d hd;simp at hd;subst hd;simp only [Act.put,List.setIfInBounds_toArray,List.set_cons_zero,List.set_cons_succ])
 refine wpAnyS_take 3 (v:=?_) (by kernel_rfl) (by kernel_rfl) (by kernel_rfl) (by kernel_rfl) (fun _ _ _ _ h=>h) hSd ?_ ?_
 rotate_left
 ·(intro oi ho;simp at ho;subst ho;refine Or.inl ⟨by rfl,fun w' hw'=>?_⟩;go_simp;try with_reducible rfl)
 (intro d hd;simp at hd;subst hd;simp only [Act.put,List.setIfInBounds_toArray,List.set_cons_zero,List.set_cons_succ])
 refine wpAnyS_take 4 (v:=?_) (by kernel_rfl) (by kernel_rfl) (by kernel_rfl) (by kernel_rfl) (fun _ _ _ _ h=>h) hSd ?_ ?_
 rotate_left
 ·(intro oi ho;simp at ho;subst ho;refine Or.inl ⟨by rfl,fun w' hw'=>?_⟩;obtain ⟨e0,e1,e2⟩:=hw';go_simp;try with_reducible rfl)
 (intro d hd;simp at hd;subst hd;simp only [Act.put,List.setIfInBounds_toArray,List.set_cons_zero,List.set_cons_succ])
 refine wpAnyS_take 5 (v:=?_) (by kernel_rfl) (by kernel_rfl) (by kernel_rfl) (by kernel_rfl) (fun _ _ _ _ h=>h) hSd ?_ ?_
 rotate_left
 ·(intro oi ho;simp at ho;subst ho;refine Or.inl ⟨by rfl,fun w' hw'=>?_⟩;obtain ⟨e0,e1,e2⟩:=hw';go_simp;try with_reducible rfl)
 (intro d hd;simp at hd;subst hd;simp only [Act.put,List.setIfInBounds_toArray,List.set_cons_zero,List.set_cons_succ])
 refine wpAnyS_one 6 (by kernel_rfl) ?_
 (intro o6 ho K' hK;simp at ho;subst ho)
 go_simp
 refine hK.out _ _ ?_ ?_
 ·exact fun _=>⟨cell_alloc hSd.1,cell_alloc hSd.2.1,cell_alloc hSd.2.2⟩
 clear hK K'
 (try simp only [Act.put,List.setIfInBounds_toArray,List.set_cons_zero,List.set_cons_succ])
 refine wpAnyS_one 7 (by kernel_rfl) ?_
 (intro o7 ho K' hK;simp at ho;subst ho)
 refine step_append_gen (by rfl) _ _ _ (by rfl) 39 (.agg #[.slice none 0 0,.slice none 0 0]) 2 48 Tryd.underlying22 Tryd.infoPlay rfl (by decide) (.slice va2 us.length vc) us.length (plC us) (by rfl) (H3.out.own.alloc _) _ 1 [.slice a3 n3 c3,.slice a4 n3 c4] (by rfl) (SrcSl.litk #[.slice a3 n3 c3,.slice a4 n3 c4] rfl (by simp [Value.oneCell']) _ (by simp)) (by unfold maxLen;omega) (by omega) ?_
 intro a5 c5 w5 ho5 hb5 hg5
 have hS5:w5.cell? ⟨va,1,none⟩=some (.slice va2 us.length vc)/\w5.cell? ⟨w.heap.size+1,0,none⟩=some (.slice a3 n3 c3)/\w5.cell? ⟨w.heap.size+1,1,none⟩=some (.slice a4 n3 c4):=⟨(hb5.cell (World.block_lt_of_cell? _ _ (cell_alloc hSd.1)) H3.out.nva).trans (cell_alloc hSd.1),(hb5.cell (World.block_lt_of_cell? _ _ (cell_alloc hSd.2.1)) H3.out.nvb).trans (cell_alloc hSd.2.1),(hb5.cell (World.block_lt_of_cell? _ _ (cell_alloc hSd.2.2)) H3.out.nvb).trans (cell_alloc hSd.2.2)⟩
 refine hK.out _ _ ?_ ?_
 ·exact fun _=>hS5
 clear hK K'
 (try simp only [Act.put,List.setIfInBounds_toArray,List.set_cons_zero,List.set_cons_succ])
 refine wpAnyS_one 8 (by kernel_rfl) ?_
 (intro o8 ho K' hK;simp at ho;subst ho)
 go_simp
 refine hK.out _ _ ?_ ?_
 ·exact fun _=>hS5
 clear hK K'
 (try simp only [Act.put,List.setIfInBounds_toArray,List.set_cons_zero,List.set_cons_succ])
 refine wpAnyS_one 9 (by kernel_rfl) ?_
 (intro o9 ho K' hK;simp at ho;subst ho)
 go_simp
 refine hK.out _ _ ?_ ?_
 ·exact fun _=>hS5
 clear hK K'
 (try simp only [Act.put,List.setIfInBounds_toArray,List.set_cons_zero,List.set_cons_succ])
 refine wpAnyS_one 10 (by kernel_rfl) ?_
 (intro o10 ho K' hK;simp at ho;subst ho)
 have f5:w5.frozen? ⟨va,1,none⟩=false:=H3.out.frz w5 hb5
 obtain ⟨e0,e1,e2⟩:=hS5
 go_simp
 refine hK.out _ _ ?_ ?_
 ·intro h;simp at h
 clear hK K'
 (try simp only [Act.put,List.setIfInBounds_toArray,List.set_cons_zero,List.set_cons_succ])
 refine wpAnyS_done (by kernel_rfl) (NoPanic.normal ?_) _
 obtain ⟨V,hV,hbV,hvV,hpV,hgV,hoV⟩:=H3.out.done ho5 hb5 (fun g hg=>(hg5 g hg).imp id fun e=>by rw [e];simp) HB3.out.2.1 (lt_of_heap H.out.blk)
 rw [hV]
 have bs:=hoV _ _ (by have:=lt_of_heap H.out.blk;omega) (fun e=>by have:=H3.out.old _ (.inl e);omega) HB3.out.2.2
 obtain ⟨s0,_,_,_⟩:=cells_4 bs
 have CV:=Lib.hid (CI.out V hbV)
 have HV:=Lib.hid (And.intro hbV (And.intro hvV (And.intro hpV hgV)))
 clear hV hbV hvV hpV hgV hoV bs hSd ho5 hb5 hg5 f5
 go_wp2_with fail
 (with_reducible refine CV.out.mono ?_)
 rintro en wB ⟨rfl,ew⟩
 subst ew
 go_wp2_with fail
 go_ret
 rw [E.out]
 refine ⟨rfl,HV.out.1,fun out ho=>?_⟩
 obtain rfl:=Option.some.inj ho
 exact ⟨_,_,HV.out.2.1,HV.out.2.2.1,HV.out.2.2.2,fun u hu g hg=>by
  rw [List.mem_singleton] at hu
  subst hu
  exact H3.out.new g hg⟩
end Go.Proofs.YthoimoenbccflaaDoor

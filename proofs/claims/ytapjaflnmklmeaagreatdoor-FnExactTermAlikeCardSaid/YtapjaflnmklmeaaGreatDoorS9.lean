import Derived.Test.YtapjaflnmklmeaaGreatDoorS7
import Derived.Test.YtapjaflnmklmeaaGreatDoorP4
/- Words on nodes and levels of the reference. -/
namespace Go.Proofs.YtapjaflnmklmeaaGreatDoor
open Go.RowKit
theorem oneCell_encN {F:Nat→Prop} {w:World} {b:Bd} {us:List Value} (h:Reps F w (encN b) us):∀ u∈us,u.oneCell'=true:=by
 obtain ⟨v,a2,c2,a3,c3,rfl,_⟩:=encN_open h
 simp [str,Value.oneCell']
theorem Tryz.infoBo:(Tryz.prog.info? 89).map (fun i=>(i.zero,i.size,i.bytes))=some (some (.agg #[.int .i64 0,str [],.int .i64 0,.slice none 0 0,.slice none 0 0,.slice none 0 0,.slice none 0 0,.int .i64 0,.int .i64 0]),9,144):=by kernel_rfl
end Go.Proofs.YtapjaflnmklmeaaGreatDoor
namespace Go.Proofs.YtapjaflnmklmeaaGreatDoor
open Go.RowKit
def specStrat (s text:Bs):Option Bd :=
 if (specType s).2=false∨2000<text.length then none else
 match rdN 101 (specType s).1.args text with
 | none=>none
 | some (b,rest)=>if rest=[]∧sizeB b≤200 then some b else none
theorem specType_ok {l:Bs} (h:(specType l).2=true):atomsT (specType l).1≤15:=by
 unfold specType at *
 split at h
 ·simp at h
 ·rename_i hl
  rw [if_neg hl]
  cases hq:rdS 21 l with
  | none=>rw [hq] at h;simp at h
  | some x=>rw [hq] at h;obtain ⟨t,rest⟩:=x;simp at h;exact h.2
theorem hand_of_type {t:Ty} (h:atomsT t≤15):HandOk 101 t.args:=by
 have hm:=atomsT_mk t
 have key:∀ (ts:List Ty) (x:Ty),x∈ts→atomsT x≤atomsTs ts:=by
  intro ts
  induction ts with
  | nil=>intro x hx;simp at hx
  | cons y ys ih =>
    intro x hx
    rcases List.mem_cons.1 hx with rfl | hx
    ·simp [atomsTs];omega
    ·have:=ih x hx;simp [atomsTs];omega
 refine ⟨fun x hx=>?_,?_⟩
 ·have:=key t.args x hx;omega
 ·have:=length_le_atomsTs t.args;omega
theorem cell_set {w:World} {p a:Addr} {u v:Value} (h:w.cell? a=some v) (hne:a.block≠p.block):(w.setCell p u).cell? a=some v:=by
 rw [World.cell?_of_block (w:=w) (Below.heap_setCell _ _ _ _ hne)];exact h
theorem cell_of_keep {w w':World} {a:Addr} {v:Value} (h:w.cell? a=some v) (hk:∀ x,w.heap[a.block]? = some x→w'.heap[a.block]? = some x):w'.cell? a=some v:=by
 have hlt:=World.block_lt_of_cell? w a h
 rw [World.cell?_of_block (w:=w)]
 ·exact h
 ·rw [hk _ (Array.getElem?_eq_getElem hlt),Array.getElem?_eq_getElem hlt]
abbrev KeepS (g1 g2:Nat) (T u0 u1 u2 u3:Value) (w:World):Prop :=
 w.cell? ⟨g1,0,none⟩=some T∧w.cell? ⟨g2,0,none⟩=some u0∧w.cell? ⟨g2,1,none⟩=some u1∧w.cell? ⟨g2,2,none⟩=some u2∧w.cell? ⟨g2,3,none⟩=some u3
theorem KeepS.set {g1 g2:Nat} {T u0 u1 u2 u3:Value} {w:World} (h:KeepS g1 g2 T u0 u1 u2 u3 w) (b o:Nat) (u:Value) (h1:g1≠b) (h2:g2≠b):KeepS g1 g2 T u0 u1 u2 u3 (w.setCell ⟨b,o,none⟩ u) :=
 ⟨cell_set h.1 h1,cell_set h.2.1 h2,cell_set h.2.2.1 h2,cell_set h.2.2.2.1 h2,cell_set h.2.2.2.2 h2⟩
def StratPost (s text:Bs) (w:World) (en:Ending) (w':World):Prop :=
 ∃ (a:Option Addr) (c:Nat) (s':Bs) (v':Int) (a2:Option Addr) (n2 c2:Nat) (a3:Option Addr) (n3 c3:Nat),
   en=.returned (.tuple #[.agg #[.slice a (specType s).1.args.length c],.agg #[str s',.int .i64 v',.slice a2 n2 c2,.slice a3 n3 c3],.bool (specStrat s text).isSome])∧Below w.heap.size w w' ∧
   Rep (w.heap.size≤·) w' (encS (specType s).1) (.slice a (specType s).1.args.length c) ∧
   (∀ b,specStrat s text=some b→Reps (w.heap.size≤·) w' (encN b) [str s',.int .i64 v',.slice a2 n2 c2,.slice a3 n3 c3])
theorem StratPost.no {s text:Bs} {w w':World} {a:Option Addr} {c:Nat} {v:Value} (hv:v=.slice a (specType s).1.args.length c) {s':Bs} {v':Int} {a2:Option Addr} {n2 c2:Nat} {a3:Option Addr} {n3 c3:Nat} {f:Bool} (hf:f=false) (hn:specStrat s text=none) (hb:Below w.heap.size w w')
 (hr:Rep (w.heap.size≤·) w' (encS (specType s).1) v) :
 StratPost s text w (.returned (.tuple #[.agg #[v],.agg #[str s',.int .i64 v',.slice a2 n2 c2,.slice a3 n3 c3],.bool f])) w':=by
 subst hv;subst hf
 exact ⟨a,c,s',v',a2,n2,c2,a3,n3,c3,by rw [hn];rfl,hb,hr,fun b h=>by rw [hn] at h;simp at h⟩
theorem StratPost.yes {s text:Bs} {w w':World} {a:Option Addr} {c:Nat} {v:Value} (hv:v=.slice a (specType s).1.args.length c) {s':Bs} {v':Int} {a2:Option Addr} {n2 c2:Nat} {a3:Option Addr} {n3 c3:Nat} {f:Bool} {b:Bd} (hf:f=true) (hn:specStrat s text=some b) (hb:Below w.heap.size w w')
 (hr:Rep (w.heap.size≤·) w' (encS (specType s).1) v) (hrs:Reps (w.heap.size≤·) w' (encN b) [str s',.int .i64 v',.slice a2 n2 c2,.slice a3 n3 c3]) :
 StratPost s text w (.returned (.tuple #[.agg #[v],.agg #[str s',.int .i64 v',.slice a2 n2 c2,.slice a3 n3 c3],.bool f])) w':=by
 subst hv;subst hf
 exact ⟨a,c,s',v',a2,n2,c2,a3,n3,c3,by rw [hn];rfl,hb,hr,fun b' h=>by rw [hn] at h;simp at h;subst h;exact hrs⟩
set_option maxRecDepth 100000 in
set_option maxHeartbeats 10000000 in
theorem l3Strategy_any (s text:Bs) (hs:Lim s.length) (hl:Lim text.length) (w:World):Calls Tryz.prog 28 #[str s,str text] w (StratPost s text w):=by
 have hs':=hs.le
 have hl':=hl.le
 go_enter Tryz.func28,Tryz.ntmps28
 go_wp2_with fail
 refine (l1Type_any s hs _).mono ?_
 rintro en w1 ⟨v1,rfl,hb1,hv1⟩
 have z1:=hb1.size
 rw [size_alloc,size_alloc] at z1
 obtain ⟨a1,c1,e1⟩:=encS_slice hv1
 have E1:=Lib.hid e1
 have hbA:Below w.heap.size w w1:=(((Below.refl w.heap.size w).alloc (Nat.le_refl _) _).alloc (by simp) _).trans (hb1.mono (by simp;omega))
 have hz1:w.heap.size<w1.heap.size:=by omega
 have hz2:w.heap.size+1<w1.heap.size:=by omega
 have r0:w1.cell? ⟨w.heap.size,0,none⟩=some (.slice none 0 0):=by rw [hb1.cell (by simp only [size_alloc];omega)];exact cell_alloc (by simp)
 have rf0:w1.frozen? ⟨w.heap.size,0,none⟩=false:=by
  rw [hb1.frozen (by simp only [size_alloc];omega)]
  rw [World.frozen?_of_block (w:=w.alloc (.cells #[.slice none 0 0] 31)) (Below.heap_alloc _ _ _ (by simp))];simp
 have hN:NewN (w.heap.size+1) 0 (.slice none 0 0) (.slice none 0 0) w1:=by
  unfold NewN;rw [hb1.block _ (by simp)]
  have:=heap_new (w.alloc (.cells #[.slice none 0 0] 31)) (.cells #[str [],.int .i64 0,.slice none 0 0,.slice none 0 0] 36)
  rw [size_alloc] at this;exact this
 subst e1
 have hv1':Rep (w.heap.size+1 < ·) w1 (encS (specType s).1) (.slice a1 (specType s).1.args.length c1):=(Rep.keep fun b o h ho=>⟨by have:=sz_le h;rw [size_alloc] at this;omega,ho⟩).1 _ _ hv1
 have HS:Hid (specStrat s text=if (specType s).2=false∨2000<text.length then none else
  match rdN 101 (specType s).1.args text with
  | none=>none
  | some (b,rest)=>if rest=[]∧sizeB b≤200 then some b else none):=rfl
 have HOK:=Lib.hid (specType_ok (l:=s))
 generalize hT:(specType s).1=t at *
 generalize hO:(specType s).2=ok at *
 have HT:=Lib.hid hT;clear hT hO hv1
 obtain ⟨q0,q1,q2,q3,ql,qf⟩:=hN.cells
 have qf0:=qf 0;have qf1:=qf 1;have qf2:=qf 2;have qf3:=qf 3;clear qf
 by_cases hcase:ok=true∧text.length≤2000
 rotate_left
 ·have hn:specStrat s text=none:=by
   rw [HS.out,if_pos]
   cases ok with
   | false=>exact .inl rfl
   | true=>exact .inr (by simp at hcase;omega)
  have HN:=Lib.hid hn;clear hn
  have hcase:ok=false∨(ok=true∧(2000:Int)<(text.length:Int)):=by
   cases ok with
   | false=>exact .inl rfl
   | true=>exact .inr ⟨rfl,by simp at hcase;omega⟩
  have h0:NewN (w.heap.size+1) 0 (.slice none 0 0) (.slice none 0 0) (w1.setCell ⟨w.heap.size,0,none⟩ (.slice a1 t.args.length c1)):=by
   unfold NewN;rw [Below.heap_setCell _ _ _ _ (by simp)];exact hN
  obtain ⟨W,hW,s0,s1,s2,s3,hbW,hkW⟩:=h0.store (.string ⟨#[]⟩) (.int .i64 0) (.slice none 0 0) (.slice none 0 0)
  have t0:W.cell? ⟨w.heap.size,0,none⟩=some (.slice a1 t.args.length c1):=cell_of_keep (cell_put r0 _) fun x hx=>hkW _ x (by simp) hx
  have hbF:=hbW _ _ (hbA.setCell (p:=⟨w.heap.size,0,none⟩) (Nat.le_refl _) (.slice a1 t.args.length c1)) (by omega)
  have hrF:Rep (w.heap.size≤·) W (encS t) (.slice a1 t.args.length c1):=(Rep.keep fun b o h ho=>⟨by omega,hkW b o (by omega) (by rw [Below.heap_setCell _ _ _ _ (by simp;omega)];exact ho)⟩).1 _ _ hv1'
  have FIN:Hid (∀ o,StratPost s text w (.returned (.tuple #[.agg #[.slice a1 t.args.length c1],.agg #[str [],.int .i64 0,.slice none 0 0,.slice none 0 0],.bool false])) (W.alloc o)):=fun o =>
   StratPost.no (a:=a1) (c:=c1) (by rw [HT.out]) rfl HN.out (hbF.alloc hbF.size o) (by rw [HT.out];exact (Rep.keep fun b o h ho=>⟨h,heap_past ho⟩).1 _ _ hrF)
  have HW:=Lib.hid hW;clear h0 hW hbW hkW hbF hrF
  rcases hcase with rfl | ⟨rfl,h⟩
  all_goals
   go_wp2_with fail
   rw [← HW.out]
   refine bodyPost_ret (v:=.tuple #[.agg #[.slice a1 t.args.length c1],.agg #[str [],.int .i64 0,.slice none 0 0,.slice none 0 0],.bool false]) (by simp [results,Tryz.results28,go_sem,cell_alloc t0,cell_alloc s0,cell_alloc s1,cell_alloc s2,cell_alloc s3]) rfl ?_
   exact FIN.out _
 obtain ⟨rfl,htl⟩:=hcase
 have htl':¬ (2000:Int)<(text.length:Int):=by omega
 have hat:=HOK.out rfl
 have hm:specStrat s text=(match rdN 101 t.args text with
  | none=>none
  | some (b,rest)=>if rest=[]∧sizeB b≤200 then some b else none):=by rw [HS.out,if_neg (by simp;omega)]
 have HM:=Lib.hid hm;clear hm HS HOK
 have hvE:=hv1'
 rw [encS_eq] at hvE
 have hho:=hand_of_type hat
 go_wp2_with fail
 refine (l3Read_any text hl 101 0 rfl (w.heap.size+1 < ·) t.args _ 0 _ (Nat.zero_le _) hho (by exact (Rep.keep fun b o h ho=>⟨h,heap_past ho⟩).1 _ _ hvE)).mono ?_
 rw [List.drop_zero]
 rintro en w2 ⟨s',v',a2,n2,c2,a3,n3,c3,k,rfl,hb2,hn2,hy2⟩
 have z2:=hb2.size
 rw [size_alloc] at z2
 have hbB:Below w.heap.size w w2:=(hbA.alloc (by omega) _).trans (hb2.mono (by rw [size_alloc];omega))
 have r0':w2.cell? ⟨w.heap.size,0,none⟩=some (.slice none 0 0):=by rw [hb2.cell (by rw [size_alloc];simp only;omega)];exact cell_alloc r0
 have rf0':w2.frozen? ⟨w.heap.size,0,none⟩=false:=by rw [hb2.frozen (by rw [size_alloc];simp only;omega)];rw [World.frozen?_of_block (w:=w1) (Below.heap_alloc _ _ _ hz1)];exact rf0
 have hN':NewN (w.heap.size+1) 0 (.slice none 0 0) (.slice none 0 0) w2:=by
  unfold NewN;rw [hb2.block _ (by rw [size_alloc];omega)];exact heap_past hN
 have hT2:w2.cell? ⟨w1.heap.size,0,none⟩=some (.slice a1 t.args.length c1):=by rw [hb2.cell (by rw [size_alloc];simp only;omega)];simp
 have hv2:Rep (w.heap.size+1 < ·) w2 (encS t) (.slice a1 t.args.length c1):=(Rep.keep fun b o h ho=>⟨h,by rw [hb2.block b (by have:=lt_of_heap ho;rw [size_alloc];omega)];exact heap_past ho⟩).1 _ _ hv1'
 clear r0 rf0 hN q0 q1 q2 q3 ql qf0 qf1 qf2 qf3 hvE hv1' hho
 obtain ⟨q0,q1,q2,q3,ql,qf⟩:=hN'.cells
 have qf0:=qf 0;have qf1:=qf 1;have qf2:=qf 2;have qf3:=qf 3;clear qf
 have y1:w.heap.size<w2.heap.size:=by omega
 have y2:w1.heap.size<w2.heap.size:=by omega
 have HB2:=Lib.hid hb2;clear hb2
 by_cases hk:k=(text.length:Int)
 rotate_left
 ·have g1:(k == (text.length:Int))=false:=by rw [beq_eq_false_iff_ne];exact hk
  have hn:specStrat s text=none:=by
   rw [HM.out]
   cases hq:rdN 101 t.args text with
   | none=>rfl
   | some x =>
     obtain ⟨b,rest⟩:=x
     have h1:=(hy2 b rest hq).1
     simp only
     rw [if_neg]
     rintro ⟨rfl,_⟩
     exact hk (by rw [h1];simp)
  have HN:=Lib.hid hn
  clear hn hk hn2 hy2
  have h0:NewN (w.heap.size+1) 0 (.slice none 0 0) (.slice none 0 0) (w2.setCell ⟨w.heap.size,0,none⟩ (.slice a1 t.args.length c1)):=by
   unfold NewN;rw [Below.heap_setCell _ _ _ _ (by simp)];exact hN'
  obtain ⟨W,hW,s0,s1,s2,s3,hbW,hkW⟩:=h0.store (str s') (.int .i64 v') (.slice a2 n2 c2) (.slice a3 n3 c3)
  have t0:W.cell? ⟨w.heap.size,0,none⟩=some (.slice a1 t.args.length c1):=cell_of_keep (cell_put r0' _) fun x hx=>hkW _ x (by simp) hx
  have hbF:=hbW _ _ (hbB.setCell (p:=⟨w.heap.size,0,none⟩) (Nat.le_refl _) (.slice a1 t.args.length c1)) (by omega)
  have hrF:Rep (w.heap.size≤·) W (encS t) (.slice a1 t.args.length c1):=(Rep.keep fun b o h ho=>⟨by omega,hkW b o (by omega) (by rw [Below.heap_setCell _ _ _ _ (by simp;omega)];exact ho)⟩).1 _ _ hv2
  have FIN:Hid (∀ o,StratPost s text w (.returned (.tuple #[.agg #[.slice a1 t.args.length c1],.agg #[str s',.int .i64 v',.slice a2 n2 c2,.slice a3 n3 c3],.bool false])) (W.alloc o).drew):=fun o =>
   StratPost.no (a:=a1) (c:=c1) (by rw [HT.out]) rfl HN.out ((hbF.alloc hbF.size o).drew) (by rw [HT.out];exact ((Rep.keep fun b o h ho=>⟨h,heap_past ho⟩).1 _ _ hrF).drew)
  have HW:=Lib.hid hW;clear h0 hW hbW hkW hbF hrF
  go_wp2_with fail
  go_region
  go_wp2_with fail
  rw [← HW.out]
  refine bodyPost_ret (v:=.tuple #[.agg #[.slice a1 t.args.length c1],.agg #[str s',.int .i64 v',.slice a2 n2 c2,.slice a3 n3 c3],.bool false]) (by simp [results,Tryz.results28,go_sem,cell_alloc t0,cell_alloc s0,cell_alloc s1,cell_alloc s2,cell_alloc s3]) rfl ?_
  exact FIN.out _
 obtain ⟨b,hqb⟩:∃ b,rdN 101 t.args text=some (b,[]):=by
  cases hq:rdN 101 t.args text with
  | none=>have:=hn2 hq;omega
  | some x =>
    obtain ⟨b,rest⟩:=x
    have h1:=(hy2 b rest hq).1
    have:rest.length=0:=by omega
    rw [List.eq_nil_of_length_eq_zero this];exact ⟨b,rfl⟩
 have hrB:=(hy2 b [] hqb).2
 have hsz:=rdN_size 101 hqb
 have hm:specStrat s text=if sizeB b≤200 then some b else none:=by
  rw [HM.out,hqb];simp
 have HM:=Lib.hid hm
 have hlB:Lim (sizeB b):=hl.mono (by simp at hsz;omega)
 have g1:(k == (text.length:Int))=true:=by rw [beq_iff_eq];exact hk
 clear hm hqb hn2 hy2 hsz
 have HK:=Lib.hid hk;clear hk
 have hrA:Reps (w.heap.size+1 < ·) (w2.alloc (.cells #[str s',.int .i64 v',.slice a2 n2 c2,.slice a3 n3 c3] 36)) (encN b) [str s',.int .i64 v',.slice a2 n2 c2,.slice a3 n3 c3] :=
  (Rep.keep fun b o h ho=>⟨by have:=sz_le h;omega,heap_past ho⟩).2 _ _ hrB
 have hTA:(w2.alloc (.cells #[str s',.int .i64 v',.slice a2 n2 c2,.slice a3 n3 c3] 36)).cell? ⟨w1.heap.size,0,none⟩=some (.slice a1 t.args.length c1):=cell_alloc hT2
 have n0:(w2.alloc (.cells #[str s',.int .i64 v',.slice a2 n2 c2,.slice a3 n3 c3] 36)).cell? ⟨w2.heap.size,0,none⟩=some (str s'):=by simp
 have n1:(w2.alloc (.cells #[str s',.int .i64 v',.slice a2 n2 c2,.slice a3 n3 c3] 36)).cell? ⟨w2.heap.size,1,none⟩=some (.int .i64 v'):=by simp
 have n2':(w2.alloc (.cells #[str s',.int .i64 v',.slice a2 n2 c2,.slice a3 n3 c3] 36)).cell? ⟨w2.heap.size,2,none⟩=some (.slice a2 n2 c2):=by simp
 have n3':(w2.alloc (.cells #[str s',.int .i64 v',.slice a2 n2 c2,.slice a3 n3 c3] 36)).cell? ⟨w2.heap.size,3,none⟩=some (.slice a3 n3 c3):=by simp
 have hK3:KeepS w1.heap.size w2.heap.size (.slice a1 t.args.length c1) (str s') (.int .i64 v') (.slice a2 n2 c2) (.slice a3 n3 c3) (w2.alloc (.cells #[str s',.int .i64 v',.slice a2 n2 c2,.slice a3 n3 c3] 36)):=⟨hTA,n0,n1,n2',n3'⟩
 have hK3d:KeepS w1.heap.size w2.heap.size (.slice a1 t.args.length c1) (str s') (.int .i64 v') (.slice a2 n2 c2) (.slice a3 n3 c3) (w2.alloc (.cells #[str s',.int .i64 v',.slice a2 n2 c2,.slice a3 n3 c3] 36)).drew:=hK3
 have ne1:w1.heap.size≠w.heap.size:=by omega
 have ne2:w2.heap.size≠w.heap.size:=by omega
 have ne3:w1.heap.size≠w.heap.size+1:=by omega
 have ne4:w2.heap.size≠w.heap.size+1:=by omega
 clear hTA n0 n1 n2' n3'
 go_wp2_with fail
 go_region_held3 (fun w'=>w'.cell? ⟨w1.heap.size,0,none⟩=some (.slice a1 t.args.length c1)∧w'.cell? ⟨w2.heap.size,0,none⟩=some (str s')∧w'.cell? ⟨w2.heap.size,1,none⟩=some (.int .i64 v')∧w'.cell? ⟨w2.heap.size,2,none⟩=some (.slice a2 n2 c2)∧w'.cell? ⟨w2.heap.size,3,none⟩=some (.slice a3 n3 c3))
  (first
   | with_reducible exact hK3
   | with_reducible exact hK3d
   | with_reducible exact hK5
   | with_reducible exact hK5.set _ _ _ ne1 ne2
   | with_reducible exact (hK5.set _ _ _ ne1 ne2).set _ _ _ ne3 ne4
   | with_reducible exact ((hK5.set _ _ _ ne1 ne2).set _ _ _ ne3 ne4).set _ _ _ ne3 ne4
   | with_reducible exact (((hK5.set _ _ _ ne1 ne2).set _ _ _ ne3 ne4).set _ _ _ ne3 ne4).set _ _ _ ne3 ne4
   | with_reducible exact ((((hK5.set _ _ _ ne1 ne2).set _ _ _ ne3 ne4).set _ _ _ ne3 ne4).set _ _ _ ne3 ne4).set _ _ _ ne3 ne4
   | with_reducible exact hK5.set _ _ _ ne3 ne4
   | with_reducible exact (hK5.set _ _ _ ne3 ne4).set _ _ _ ne3 ne4
   | with_reducible exact ((hK5.set _ _ _ ne3 ne4).set _ _ _ ne3 ne4).set _ _ _ ne3 ne4
   | with_reducible exact (((hK5.set _ _ _ ne3 ne4).set _ _ _ ne3 ne4).set _ _ _ ne3 ne4).set _ _ _ ne3 ne4
   | with_reducible exact ((((hK5.set _ _ _ ne3 ne4).set _ _ _ ne3 ne4).set _ _ _ ne3 ne4).set _ _ _ ne3 ne4).set _ _ _ ne1 ne2)
  (first
   | (go_at_call 19;refine (l3Size_any (sizeB b) b (Nat.le_refl _) hlB (w.heap.size+1 < ·) _ _ _ _ _ _ _ _ _ (by exact hrA.drew)).mono ?_;rintro en w5 ⟨rfl,hb5⟩;have hK5:KeepS w1.heap.size w2.heap.size (.slice a1 t.args.length c1) (str s') (.int .i64 v') (.slice a2 n2 c2) (.slice a3 n3 c3) w5:=⟨(hb5.cell (by simp;omega)).trans hK3.1,(hb5.cell (by simp)).trans hK3.2.1,(hb5.cell (by simp)).trans hK3.2.2.1,(hb5.cell (by simp)).trans hK3.2.2.2.1,(hb5.cell (by simp)).trans hK3.2.2.2.2⟩;have z5:=hb5.size;have hz5:w.heap.size<w5.heap.size:=(by simp at z5;omega);have r5:w5.cell? ⟨w.heap.size,0,none⟩=some (.slice none 0 0):=(hb5.cell (by simp;omega)).trans (cell_alloc r0');have f5:w5.frozen? ⟨w.heap.size,0,none⟩=false:=(hb5.frozen (by simp;omega)).trans ((World.frozen?_of_block (w:=w2) (Below.heap_alloc _ _ _ y1)).trans rf0');have hN5:NewN (w.heap.size+1) 0 (.slice none 0 0) (.slice none 0 0) w5:=(by unfold NewN;rw [hb5.block _ (by simp;omega)];exact heap_past hN');obtain ⟨p0,p1,p2,p3,pl,pf⟩:=hN5.cells;have pf0:=pf 0;have pf1:=pf 1;have pf2:=pf 2;have pf3:=pf 3;clear pf))
 go_wp2_with fail
 have h0:NewN (w.heap.size+1) 0 (.slice none 0 0) (.slice none 0 0) (w5.setCell ⟨w.heap.size,0,none⟩ (.slice a1 t.args.length c1)):=by
  unfold NewN;rw [Below.heap_setCell _ _ _ _ (by simp)];exact hN5
 obtain ⟨W,hW,s0,s1,s2,s3,hbW,hkW⟩:=h0.store (str s') (.int .i64 v') (.slice a2 n2 c2) (.slice a3 n3 c3)
 have t0:W.cell? ⟨w.heap.size,0,none⟩=some (.slice a1 t.args.length c1):=cell_of_keep (cell_put r5 _) fun x hx=>hkW _ x (by simp) hx
 have hb2w:Below w2.heap.size w2 w5:=((((Below.refl _ _).alloc (Nat.le_refl _) _).drew).trans (hb5.mono (by simp)))
 have hbC:=hbB.trans (hb2w.mono hbB.size)
 have hbF:=hbW _ _ (hbC.setCell (p:=⟨w.heap.size,0,none⟩) (Nat.le_refl _) (.slice a1 t.args.length c1)) (by omega)
 have keepF:∀ i o,w.heap.size+1<i→w2.heap[i]? = some o→W.heap[i]? = some o:=fun i o h ho =>
  hkW i o (by omega) (by rw [Below.heap_setCell _ _ _ _ (by simp;omega),hb2w.block i (lt_of_heap ho)];exact ho)
 have hrF:Rep (w.heap.size≤·) W (encS t) (.slice a1 t.args.length c1):=(Rep.keep fun b o h ho=>⟨by omega,keepF b o h ho⟩).1 _ _ hv2
 have hrN:Reps (w.heap.size≤·) W (encN b) [str s',.int .i64 v',.slice a2 n2 c2,.slice a3 n3 c3]:=(Rep.keep fun b o h ho=>⟨by have:=sz_le h;omega,keepF b o (by have:=sz_le h;omega) ho⟩).2 _ _ hrB
 rw [← hW]
 refine bodyPost_ret (v:=.tuple #[.agg #[.slice a1 t.args.length c1],.agg #[str s',.int .i64 v',.slice a2 n2 c2,.slice a3 n3 c3],.bool (decide ((sizeB b:Int)≤200))]) (by simp [results,Tryz.results28,go_sem,t0,s0,s1,s2,s3]) rfl ?_
 by_cases h200:sizeB b≤200
 ·refine StratPost.yes (a:=a1) (c:=c1) (by rw [HT.out]) (by rw [decide_eq_true_eq];omega) (by rw [HM.out,if_pos h200]) hbF (by rw [HT.out];exact hrF) hrN
 ·exact StratPost.no (a:=a1) (c:=c1) (by rw [HT.out]) (by rw [decide_eq_false_iff_not];omega) (by rw [HM.out,if_neg h200]) hbF (by rw [HT.out];exact hrF)
end Go.Proofs.YtapjaflnmklmeaaGreatDoor

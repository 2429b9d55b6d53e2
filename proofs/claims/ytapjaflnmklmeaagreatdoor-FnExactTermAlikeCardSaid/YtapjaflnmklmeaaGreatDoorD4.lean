import Derived.Test.YtapjaflnmklmeaaGreatDoorP8
import Derived.Laws.IdiomStrings
import Derived.Deep.RegionHeld3
/- The walks of the reference's writers: l6Dec, l3Text. -/
namespace Go.Proofs.YtapjaflnmklmeaaGreatDoor
open Go.RowKit
theorem conv_one {W:World} {g r:Nat} (hr:r<10) (h:W.cell? ⟨g,0,none⟩=some (.int .u8 (48+(r:Int)))) :
 (convert 112 9 (.slice (some ⟨g,0,none⟩) 1 1)).run Tryz.prog W=.ok (str [digit r]) W:=by
 refine run_convert_bytes_back (P:=Tryz.prog) W 112 9 5 ⟨g,0,none⟩ 1 [digit r] Tryz.underlying112 Tryz.underlying5 Tryz.underlying9 (fun j hj=>?_)
 have hj0:j=0:=by simpa using hj
 subst hj0
 have e:(digit r).toNat=48+r:=by rw [digit,UInt8.toNat_ofNat'];exact Nat.mod_eq_of_lt (by omega)
 show W.cell? ((⟨g,0,none⟩:Addr).add 0)=some (.int .u8 ((digit r).toNat:Int))
 rw [e]
 have e2:((48+r:Nat):Int)=48+(r:Int):=by omega
 rw [e2];exact h
theorem conv_new {r:Nat} (hr:r<10) (w:World):(convert 112 9 (.slice (some ⟨w.heap.size,0,none⟩) 1 1)).run Tryz.prog (w.alloc (.cells #[.int .u8 (48+(r:Int))] 5))=.ok (str [digit r]) (w.alloc (.cells #[.int .u8 (48+(r:Int))] 5)) :=
 conv_one hr (by simp)
theorem conv_newd {r:Nat} (hr:r<10) (w:World):(convert 112 9 (.slice (some ⟨w.heap.size,0,none⟩) 1 1)).run Tryz.prog (w.alloc (.cells #[.int .u8 (48+(r:Int))] 5)).drew=.ok (str [digit r]) (w.alloc (.cells #[.int .u8 (48+(r:Int))] 5)).drew :=
 conv_one hr (show (w.alloc (.cells #[.int .u8 (48+(r:Int))] 5)).cell? _=_ by simp)
theorem conv_kept {r:Nat} (hr:r<10) {w W:World} (hb:Below (w.alloc (.cells #[.int .u8 (48+(r:Int))] 5)).drew.heap.size (w.alloc (.cells #[.int .u8 (48+(r:Int))] 5)).drew W) :
 (convert 112 9 (.slice (some ⟨w.heap.size,0,none⟩) 1 1)).run Tryz.prog W=.ok (str [digit r]) W :=
 conv_one hr ((hb.cell (show w.heap.size<(w.alloc (.cells #[.int .u8 (48+(r:Int))] 5)).heap.size by simp)).trans (show (w.alloc (.cells #[.int .u8 (48+(r:Int))] 5)).cell? _=_ by simp))
set_option maxRecDepth 100000 in
set_option maxHeartbeats 1000000 in
theorem l6Dec_small (n:Nat) (hn:n<10) (w:World):Calls Tryz.prog 45 #[.int .i64 (n:Nat)] w fun en w'=>en=.returned (str (dec n))∧Below w.heap.size w w':=by
 have hn':(n:Int)<10:=by omega
 have e:=Lib.hid (dec_small hn)
 have hcv:=conv_new hn w
 go_enter Tryz.func45,Tryz.ntmps45
 go_wp2_with fail
 go_ret
 exact ⟨by rw [e.out];rfl,(Below.refl _ _).alloc (Nat.le_refl _) _⟩
theorem size_alloc_le (w:World) (o:Obj):w.heap.size≤(w.alloc o).drew.heap.size:=by
 show w.heap.size≤(w.alloc o).heap.size
 rw [size_alloc];omega
set_option maxRecDepth 100000 in
set_option maxHeartbeats 2000000 in
theorem l6Dec_step (n:Nat) (hn:¬ n<10) (hl:n≤16777216) (ih:∀ w,Calls Tryz.prog 45 #[.int .i64 ((n / 10:Nat):Int)] w fun en w'=>en=.returned (str (dec (n / 10)))∧Below w.heap.size w w') (w:World) :
 Calls Tryz.prog 45 #[.int .i64 (n:Nat)] w fun en w'=>en=.returned (str (dec n))∧Below w.heap.size w w':=by
 have IH:=Lib.hid ih;clear ih
 have hn':¬ (n:Int)<10:=by omega
 have e:=Lib.hid (dec_great hn)
 have q1:(n:Int).tdiv 10=((n / 10:Nat):Int):=tdiv_nat n 10
 have q2:(n:Int).tmod 10=((n % 10:Nat):Int):=tmod_nat n 10
 have hR:n % 10<10:=Nat.mod_lt _ (by omega)
 have hQ:n / 10≤16777216:=Nat.le_trans (Nat.div_le_self _ _) hl
 have hD:(dec (n / 10)).length≤8:=dec_length 7 (n / 10) (by omega)
 generalize n % 10=R at *
 generalize n / 10=Q at *
 have q3:IntKind.i64.wrap (Q:Int)=(Q:Int):=wrap_nat Q (by omega)
 have q4:IntKind.i64.wrap (48+(R:Int))=48+(R:Int):=by rw [show (48:Int)+R=((48+R:Nat):Int) from by omega];exact wrap_nat _ (by omega)
 have q5:IntKind.u8.wrap (48+(R:Int))=48+(R:Int):=by simp [IntKind.wrap,IntKind.bits,IntKind.signed];omega
 have HR:=Lib.hid hR
 have hadd:=fun w0=>add_str (P:=Tryz.prog) (dec Q) [digit R] (by simp;omega) w0
 have hcv:=conv_newd hR w
 have hcv0:=fun w0=>conv_new hR w0
 go_enter Tryz.func45,Tryz.ntmps45
 go_wp2_with fail
 go_region_with (first
  | (go_at_call 45;refine (IH.out (w.alloc (.cells #[.int .u8 (48+(R:Int))] 5)).drew).mono ?_;rintro en w2 ⟨rfl,hb2⟩;have hcv2:=conv_kept HR.out hb2;have hbb:=Below.trans (((Below.refl w.heap.size w).alloc (Nat.le_refl _) (.cells #[.int .u8 (48+(R:Int))] 5)).drew) (hb2.mono (size_alloc_le w _)))
  | (go_at_call 45;refine (IH.out w.drew).mono ?_;rintro en w2 ⟨rfl,hb2⟩;have hbb:=Below.trans ((Below.refl w.heap.size w).drew) hb2))
 all_goals
  go_wp2_with fail
  go_ret
  refine ⟨by rw [e.out];rfl,?_⟩
  first
   | exact hbb
   | exact hbb.alloc hbb.size _
theorem l6Dec_any (n:Nat):n≤16777216→∀ w,Calls Tryz.prog 45 #[.int .i64 (n:Nat)] w fun en w'=>en=.returned (str (dec n))∧Below w.heap.size w w':=by
 induction n using Nat.strongRecOn with
 | _ n ih =>
   intro hl w
   by_cases h:n<10
   ·exact l6Dec_small n h w
   ·exact l6Dec_step n h hl (ih (n / 10) (Nat.div_lt_self (by omega) (by omega)) (Nat.le_trans (Nat.div_le_self _ _) hl)) w
end Go.Proofs.YtapjaflnmklmeaaGreatDoor
namespace Go.Proofs.YtapjaflnmklmeaaGreatDoor
open Go.RowKit
def TextNSaid (b:Bd):Prop:=∀ (F:Nat→Prop) (w:World) (s v k y:Value),Reps F w (encN b) [s,v,k,y] →
 Calls Tryz.prog 27 #[.agg #[s,v,k,y]] w fun en w'=>en=.returned (str (textB b))∧Below w.heap.size w w'
abbrev KeepY (g:Nat) (ky:Value) (yb0 yo:Nat) (s0 v0 p0 q0 s1 v1 p1 q1:Value) (w':World):Prop :=
 w'.cell? ⟨g,3,none⟩=some ky∧w'.cell? ⟨yb0,yo,none⟩=some s0∧w'.cell? ⟨yb0,yo+1,none⟩=some v0∧w'.cell? ⟨yb0,yo+2,none⟩=some p0∧w'.cell? ⟨yb0,yo+3,none⟩=some q0 ∧
  w'.cell? ⟨yb0,yo+4,none⟩=some s1∧w'.cell? ⟨yb0,yo+5,none⟩=some v1∧w'.cell? ⟨yb0,yo+6,none⟩=some p1∧w'.cell? ⟨yb0,yo+7,none⟩=some q1
theorem KeepY.below {g:Nat} {ky:Value} {yb0 yo:Nat} {s0 v0 p0 q0 s1 v1 p1 q1:Value} {w w':World} (h:KeepY g ky yb0 yo s0 v0 p0 q0 s1 v1 p1 q1 w) (hb:Below w.heap.size w w'):KeepY g ky yb0 yo s0 v0 p0 q0 s1 v1 p1 q1 w':=by
 have key:∀ (a:Addr) (v:Value),w.cell? a=some v→w'.cell? a=some v:=fun a v ha=>by
  rw [hb.cell (World.block_lt_of_cell? w _ ha)];exact ha
 obtain ⟨h1,h2,h3,h4,h5,h6,h7,h8,h9⟩:=h
 exact ⟨key _ _ h1,key _ _ h2,key _ _ h3,key _ _ h4,key _ _ h5,key _ _ h6,key _ _ h7,key _ _ h8,key _ _ h9⟩
set_option maxRecDepth 100000 in
set_option maxHeartbeats 4000000 in
theorem l3Text_step (b:Bd) (hl:sizeB b≤1000000) (hlv:lvB b) (ih:∀ b',sizeB b'<sizeB b→lvB b'→TextNSaid b'):TextNSaid b:=by
 intro F w s v k y hv
 have e1:=encN_lv hv
 subst e1
 obtain ⟨_,a2,c2,a3,c3,e,hk,hy⟩:=encN_open hv
 simp only [List.cons.injEq,and_true] at e
 obtain ⟨rfl,_,rfl,rfl⟩:=e
 cases b with
 | leaf c =>
   clear hv hk hy ih
   show Calls Tryz.prog 27 #[.agg #[str [c],.int .i64 (0:Nat),.slice a2 0 c2,.slice a3 0 c3]] w _
   go_enter Tryz.func27,Tryz.ntmps27
   go_wp2_with fail
   go_ret
   exact ⟨rfl,(Below.refl _ _).alloc (Nat.le_refl _) _⟩
 | ask lv ss yb nb =>
   have IH:=Lib.hid ih;clear ih
   have hsz:=sizeB_parts (.ask lv ss yb nb)
   rw [partsOf_eq,sizeBs_append] at hsz
   change sizeB (.ask lv ss yb nb)=1+(sizeBs ss+sizeBs [yb,nb]) at hsz
   have hyn:sizeBs [yb,nb]=sizeB yb+sizeB nb:=by simp [sizeBs]
   rw [lvB] at hlv
   obtain ⟨lv1,lv2,lv3,lv4⟩:=hlv
   have t1:=textBs_length ss lv2
   have t2:=textB_length yb lv3
   have t3:=textB_length nb lv4
   have t4:(dec lv).length≤5:=dec_length 4 lv (by omega)
   obtain ⟨_,_,ek,atk⟩:=AtNs.of hk
   simp only [Value.slice.injEq,true_and] at ek
   rw [← ek.1] at atk;clear ek
   obtain ⟨_,_,ek,aty⟩:=AtNs.of hy
   simp only [Value.slice.injEq,true_and] at ek
   rw [← ek.1] at aty;clear ek
   change AtNs F w ss a2 at atk
   change AtNs F w [yb,nb] a3 at aty
   obtain ⟨yb0,yo,s0,v0,p2,m2,d2,p3,m3,d3,yt,ey,hyb0,hyt,u0,u1,u2,u3,hry⟩:=aty 0 (by simp)
   obtain ⟨yb1,yo1,s1,v1,p4,m4,d4,p5,m5,d5,nt,en1,hyb1,hnt,z0,z1,z2,z3,hrn⟩:=aty 1 (by simp)
   rw [ey] at en1
   simp only [Option.some.injEq,Addr.mk.injEq,and_true] at en1
   obtain ⟨rfl,rfl⟩:=en1
   simp only [List.getElem?_cons_zero,Option.some.injEq] at hyt
   simp only [List.getElem?_cons_succ,List.getElem?_cons_zero,Option.some.injEq] at hnt
   subst hyt;subst hnt
   simp only [Nat.zero_mul,Nat.add_zero] at u0 u1 u2 u3
   simp only [Nat.one_mul,Nat.add_assoc,Nat.reduceAdd] at z0 z1 z2 z3
   have nss:ss.length≤16777216:=by have:=length_le_sizeBs ss;omega
   have HSZ:=Lib.hid hsz;have HYN:=Lib.hid hyn
   have ATK:=Lib.hid atk
   have LV:=Lib.hid lv2;have LV3:=Lib.hid lv3;have LV4:=Lib.hid lv4
   have lvl:lv≤16777216:=by omega
   have hkY:KeepY w.heap.size (.slice a3 2 c3) yb0 yo (str s0) (.int .i64 v0) (.slice p2 m2 d2) (.slice p3 m3 d3) (str s1) (.int .i64 v1) (.slice p4 m4 d4) (.slice p5 m5 d5) (w.alloc (.cells #[str [],.int .i64 lv,.slice a2 ss.length c2,.slice a3 2 c3] 36)) :=
    ⟨by simp,cell_alloc u0,cell_alloc u1,cell_alloc u2,cell_alloc u3,cell_alloc z0,cell_alloc z1,cell_alloc z2,cell_alloc z3⟩
   have HKY:=Lib.hid hkY
   have HRY:=Lib.hid hry;have HRN:=Lib.hid hrn
   subst ey
   clear hv hk hy atk aty hsz hyn lv2 lv3 lv4 u0 u1 u2 u3 z0 z1 z2 z3 hry hrn hkY
   show Calls Tryz.prog 27 #[.agg #[str [],.int .i64 lv,.slice a2 ss.length c2,.slice (some ⟨yb0,yo,none⟩) 2 c3]] w _
   have hadd0:=fun w0=>add_str (P:=Tryz.prog) [40] (dec lv) (by simp;omega) w0
   go_enter Tryz.func27,Tryz.ntmps27
   go_wp2_with fail
   refine (l6Dec_any lv lvl _).mono ?_
   rintro en w1 ⟨rfl,hb1⟩
   have hbA:Below w.heap.size w w1:=Below.trans ((Below.refl w.heap.size w).alloc (Nat.le_refl _) (.cells #[str [],.int .i64 lv,.slice a2 ss.length c2,.slice (some ⟨yb0,yo,none⟩) 2 c3] 36)) (hb1.mono (by simp))
   have hx2:w1.cell? ⟨w.heap.size,2,none⟩=some (.slice a2 ss.length c2):=(hb1.cell (by simp)).trans (by simp)
   have HKY1:=Lib.hid (HKY.out.below hb1)
   go_wp2_with fail
   clear hadd0
   go_loopw [3,4] (fun o i wr=>∃ k:Nat,k≤ss.length∧i=.int .i64 k∧o=str ([40]++dec lv++textBs (ss.take k))∧Below w.heap.size w wr∧wr.cell? ⟨w.heap.size,2,none⟩=some (.slice a2 ss.length c2)∧KeepY w.heap.size (.slice (some ⟨yb0,yo,none⟩) 2 c3) yb0 yo (str s0) (.int .i64 v0) (.slice p2 m2 d2) (.slice p3 m3 d3) (str s1) (.int .i64 v1) (.slice p4 m4 d4) (.slice p5 m5 d5) wr) (fun _ i _=>ss.length-(intOf i).toNat)
   case atStart=>exact ⟨0,Nat.zero_le _,rfl,by simp [textBs],hbA,hx2,HKY1.out⟩
   case round =>
    clear hx2 HKY1 HKY hbA
    obtain ⟨k,hk,rfl,rfl,hb,hx2,hkY⟩:=hrel
    have HKY:=Lib.hid hkY;clear hkY
    have hlen:([40]++dec lv++textBs (ss.take k)).length≤16777216:=by
     have h1:=textBs_take_len ss k
     have h2:=HSZ.out
     simp only [List.length_append,List.length_cons,List.length_nil];omega
    by_cases hlt:k<ss.length
    ·obtain ⟨bb,o,s',v',b2,n2,e2,b3,n3,e3,t,eb,hbb,ht,u0,u1,u2,u3,hr⟩:=ATK.out k hlt
     subst eb
     have q0:=(hb.cell hbb).trans u0
     have q1:=(hb.cell hbb).trans u1
     have q2:=(hb.cell hbb).trans u2
     have q3:=(hb.cell hbb).trans u3
     have hr':=Reps.below (F':=fun _=>True) hb (fun _ _=>trivial) hr
     have hs1:=sizeBs_take ht
     have hs2:=sizeBs_take_le ss (k+1)
     have hs3:=HSZ.out
     have hs4:=textB_length t (lvBs_at _ LV.out k t ht)
     have C:=Lib.hid (IH.out t (by omega) (lvBs_at _ LV.out k t ht) _ wr _ _ _ _ hr')
     have HT:=Lib.hid (textBs_take ht)
     have ht16:(textB t).length≤16777216:=by omega
     have hlt':(k:Int)<(ss.length:Int):=by omega
     generalize hO:[40]++dec lv++textBs (ss.take k)=O at *
     have HO:=Lib.hid hO
     have hadd1:=fun w0=>add_str (P:=Tryz.prog) O [32] (by simp;omega) w0
     have hadd2:=fun w0=>add_str (P:=Tryz.prog) (O++[32]) (textB t) (by simp;omega) w0
     clear hO hs1 hs2 hs3 hs4 ht u0 u1 u2 u3 hr hr'
     go_wp2_with fail
     refine C.out.mono ?_
     rintro en w2 ⟨rfl,hb2⟩
     have hb3:=hb.trans (hb2.mono hb.size)
     have hx2':w2.cell? ⟨w.heap.size,2,none⟩=some (.slice (some ⟨bb,o,none⟩) ss.length c2):=(hb2.cell (World.block_lt_of_cell? _ ⟨w.heap.size,2,none⟩ hx2)).trans hx2
     have HKY2:=Lib.hid (HKY.out.below hb2)
     go_wp2_with fail
     go_roundw
     case rel=>exact ⟨k+1,by omega,by go_num,by rw [HT.out,← HO.out];simp [str],hb3,hx2',HKY2.out⟩
     case measure=>simp [intOf];omega
    ·obtain rfl:k=ss.length:=by omega
     rw [List.take_length] at hlen ⊢
     have hnl:¬ ((ss.length:Int)<(ss.length:Int)):=by omega
     have HE:Hid (textB (.ask lv ss yb nb)=((((([40]++dec lv++textBs ss)++[32])++textB yb)++[32])++textB nb)++[41]):=by show textB _=_;rw [textB]
     generalize hO:[40]++dec lv++textBs ss=O at *
     clear hO
     obtain ⟨hy3,q0,q1,q2,q3,q4,q5,q6,q7⟩:=HKY.out
     have hry':=(Reps.below (F':=fun _=>True) hb (fun _ _=>trivial) HRY.out).drew
     have hrn':=Reps.below (F':=fun _=>True) hb (fun _ _=>trivial) HRN.out
     have hs3:=HSZ.out
     have hs4:=HYN.out
     have y16:(textB yb).length≤16777216:=by omega
     have n16:(textB nb).length≤16777216:=by omega
     have pp:=sizeB_pos yb;have pq:=sizeB_pos nb
     have CY:=Lib.hid (IH.out yb (by omega) LV3.out _ wr.drew _ _ _ _ hry')
     have CN:=fun W F' h=>IH.out nb (by omega) LV4.out F' W (str s1) (.int .i64 v1) (.slice p4 m4 d4) (.slice p5 m5 d5) h
     have CN':=Lib.hid CN;clear CN
     have RN:=Lib.hid hrn'
     have e16:(O++[32]).length=O.length+1:=by simp
     obtain ⟨O1,h1⟩:∃ x,x=O++[32]:=⟨_,rfl⟩
     obtain ⟨O2,h2⟩:∃ x,x=O1++textB yb:=⟨_,rfl⟩
     obtain ⟨O3,h3⟩:∃ x,x=O2++[32]:=⟨_,rfl⟩
     obtain ⟨O4,h4⟩:∃ x,x=O3++textB nb:=⟨_,rfl⟩
     obtain ⟨O5,h5⟩:∃ x,x=O4++[41]:=⟨_,rfl⟩
     have l1:O1.length≤16777217:=by rw [h1];simp;omega
     have l2:O2.length≤33554433:=by rw [h2];simp;omega
     have l3:O3.length≤33554434:=by rw [h3];simp;omega
     have l4:O4.length≤50331650:=by rw [h4];simp;omega
     have hadd1:=fun w0=>add_str (P:=Tryz.prog) O [32] (by simp;omega) w0
     have hadd2:=fun w0=>add_str (P:=Tryz.prog) O1 (textB yb) (by omega) w0
     have hadd3:=fun w0=>add_str (P:=Tryz.prog) O2 [32] (by simp;omega) w0
     have hadd4:=fun w0=>add_str (P:=Tryz.prog) O3 (textB nb) (by omega) w0
     have hadd5:=fun w0=>add_str (P:=Tryz.prog) O4 [41] (by simp;omega) w0
     have HE5:Hid (O5=textB (.ask lv ss yb nb)):=by show O5=_;rw [HE.out,h5,h4,h3,h2,h1]
     rw [← h1] at hadd1;rw [← h2] at hadd2;rw [← h3] at hadd3;rw [← h4] at hadd4;rw [← h5] at hadd5
     clear h1 h2 h3 h4 h5 HE e16 l1 l2 l3 l4
     have hKd:KeepY w.heap.size (.slice (some ⟨yb0,yo,none⟩) 2 c3) yb0 yo (str s0) (.int .i64 v0) (.slice p2 m2 d2) (.slice p3 m3 d3) (str s1) (.int .i64 v1) (.slice p4 m4 d4) (.slice p5 m5 d5) wr.drew:=HKY.out
     clear hs3 hs4 pp pq hry' hrn' t1 t2 t3 t4
     go_wp2_with fail
     go_region_held3 (fun w'=>w'.cell? ⟨w.heap.size,3,none⟩=some (.slice (some ⟨yb0,yo,none⟩) 2 c3)∧w'.cell? ⟨yb0,yo,none⟩=some (str s0)∧w'.cell? ⟨yb0,yo+1,none⟩=some (.int .i64 v0)∧w'.cell? ⟨yb0,yo+2,none⟩=some (.slice p2 m2 d2)∧w'.cell? ⟨yb0,yo+3,none⟩=some (.slice p3 m3 d3)∧w'.cell? ⟨yb0,yo+4,none⟩=some (str s1)∧w'.cell? ⟨yb0,yo+5,none⟩=some (.int .i64 v1)∧w'.cell? ⟨yb0,yo+6,none⟩=some (.slice p4 m4 d4)∧w'.cell? ⟨yb0,yo+7,none⟩=some (.slice p5 m5 d5))
      (first
       | with_reducible exact hKd
       | with_reducible exact hK3
       | with_reducible exact hK4)
      (first
       | (go_at_call 27;refine (CN'.out _ _ rn3).mono ?_;rintro en w4 ⟨rfl,hb4⟩;have hK4:=hK3.below hb4)
       | (go_at_call 27;refine CY.out.mono ?_;rintro en w3 ⟨rfl,hb3⟩;have hK3:=hKd.below hb3;have rn3:=Reps.below (F':=fun _=>True) hb3 (fun _ _=>trivial) RN.out.drew))
     go_wp2_with fail
     go_ret
     exact ⟨by rw [← HE5.out];rfl,hb.trans ((((Below.refl _ wr).drew).trans (hb3.trans (hb4.mono hb3.size))).mono hb.size)⟩
theorem l3Text_any (n:Nat):∀ b,sizeB b≤n→n≤1000000→lvB b→TextNSaid b:=by
 induction n with
 | zero=>intro b h _;have:=sizeB_pos b;omega
 | succ n ih=>exact fun b h hn hlv=>l3Text_step b (by omega) hlv (fun b' h' hl'=>ih b' (by omega) (by omega) hl')
end Go.Proofs.YtapjaflnmklmeaaGreatDoor

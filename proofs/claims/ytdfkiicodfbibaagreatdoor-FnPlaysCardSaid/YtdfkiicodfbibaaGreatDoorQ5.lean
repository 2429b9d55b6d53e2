/- Walks of functions that the statement reaches, and plain words. No conditions. -/
import Derived.Laws.IdiomStrings
import Derived.Deep.DeepCutAuto
import Derived.Laws.MakeOwn
import Derived.RegionTactic
import Derived.Test.YtdfkiicodfbibaaGreatDoorQ4
set_option linter.unusedVariables false
set_option linter.unusedSimpArgs false
set_option maxHeartbeats 4000000
namespace Go.Proofs.YtdfkiicodfbibaaGreatDoor
open Go.RowKit
theorem conv_one {W:World} {g r:Nat} (hr:r<10) (h:W.cell? ⟨g,0,none⟩=some (.int .u8 (48+(r:Int)))) :
 (convert 22 9 (.slice (some ⟨g,0,none⟩) 1 1)).run Tryz.prog W=.ok (str [digit r]) W:=by
 refine run_convert_bytes_back (P:=Tryz.prog) W 22 9 5 ⟨g,0,none⟩ 1 [digit r] Tryz.underlying22 Tryz.underlying5 Tryz.underlying9 (fun j hj=>?_)
 have hj0:j=0:=by simpa using hj
 subst hj0
 have e:(digit r).toNat=48+r:=by rw [digit,UInt8.toNat_ofNat'];exact Nat.mod_eq_of_lt (by omega)
 show W.cell? ((⟨g,0,none⟩:Addr).add 0)=some (.int .u8 ((digit r).toNat:Int))
 rw [e]
 have e2:((48+r:Nat):Int)=48+(r:Int):=by omega
 rw [e2];exact h
theorem conv_new {r:Nat} (hr:r<10) (w:World):(convert 22 9 (.slice (some ⟨w.heap.size,0,none⟩) 1 1)).run Tryz.prog (w.alloc (.cells #[.int .u8 (48+(r:Int))] 5))=.ok (str [digit r]) (w.alloc (.cells #[.int .u8 (48+(r:Int))] 5)) :=
 conv_one hr (by simp)
theorem conv_newd {r:Nat} (hr:r<10) (w:World):(convert 22 9 (.slice (some ⟨w.heap.size,0,none⟩) 1 1)).run Tryz.prog (w.alloc (.cells #[.int .u8 (48+(r:Int))] 5)).drew=.ok (str [digit r]) (w.alloc (.cells #[.int .u8 (48+(r:Int))] 5)).drew :=
 conv_one hr (show (w.alloc (.cells #[.int .u8 (48+(r:Int))] 5)).cell? _=_ by simp)
theorem conv_kept {r:Nat} (hr:r<10) {w W:World} (hb:Below (w.alloc (.cells #[.int .u8 (48+(r:Int))] 5)).drew.heap.size (w.alloc (.cells #[.int .u8 (48+(r:Int))] 5)).drew W) :
 (convert 22 9 (.slice (some ⟨w.heap.size,0,none⟩) 1 1)).run Tryz.prog W=.ok (str [digit r]) W :=
 conv_one hr ((hb.cell (show w.heap.size<(w.alloc (.cells #[.int .u8 (48+(r:Int))] 5)).heap.size by simp)).trans (show (w.alloc (.cells #[.int .u8 (48+(r:Int))] 5)).cell? _=_ by simp))
set_option maxRecDepth 100000 in
theorem l6Dec_small (n:Nat) (hn:n<10) (w:World):Calls Tryz.prog 154 #[.int .i64 (n:Nat)] w fun en w'=>en=.returned (str (dec n))/\Below w.heap.size w w':=by
 have hn':(n:Int)<10:=by omega
 have e:=Lib.hid (dec_small hn)
 have hcv:=conv_new hn w
 go_enter Tryz.func154,Tryz.ntmps154
 go_wp2_with fail
 go_ret
 exact ⟨by rw [e.out];rfl,(Below.refl _ _).alloc (Nat.le_refl _) _⟩
theorem size_alloc_le (w:World) (o:Obj):w.heap.size<=(w.alloc o).drew.heap.size:=by
 show w.heap.size<=(w.alloc o).heap.size
 rw [size_alloc];omega
set_option maxRecDepth 100000 in
theorem l6Dec_step (n:Nat) (hn:¬ n<10) (hl:n<=16777216) (ih:∀ w,Calls Tryz.prog 154 #[.int .i64 ((n / 10:Nat):Int)] w fun en w'=>en=.returned (str (dec (n / 10)))/\Below w.heap.size w w') (w:World) :
 Calls Tryz.prog 154 #[.int .i64 (n:Nat)] w fun en w'=>en=.returned (str (dec n))/\Below w.heap.size w w':=by
 have IH:=Lib.hid ih;clear ih
 have hn':¬ (n:Int)<10:=by omega
 have e:=Lib.hid (dec_great hn)
 have q1:(n:Int).tdiv 10=((n / 10:Nat):Int):=tdiv_nat n 10
 have q2:(n:Int).tmod 10=((n % 10:Nat):Int):=tmod_nat n 10
 have hR:n % 10<10:=Nat.mod_lt _ (by omega)
 have hQ:n / 10<=16777216:=Nat.le_trans (Nat.div_le_self _ _) hl
 have hD:(dec (n / 10)).length<=8:=dec_length 7 (n / 10) (by omega)
 generalize n % 10=R at *
 generalize n / 10=Q at *
 have q3:IntKind.i64.wrap (Q:Int)=(Q:Int):=wrap_nat Q (by omega)
 have q4:IntKind.i64.wrap (48+(R:Int))=48+(R:Int):=by rw [show (48:Int)+R=((48+R:Nat):Int) from by omega];exact wrap_nat _ (by omega)
 have q5:IntKind.u8.wrap (48+(R:Int))=48+(R:Int):=by simp [IntKind.wrap,IntKind.bits,IntKind.signed];omega
 have HR:=Lib.hid hR
 have hadd:=fun w0=>add_str (P:=Tryz.prog) (dec Q) [digit R] (by simp;omega) w0
 have hcv:=conv_newd hR w
 have hcv0:=fun w0=>conv_new hR w0
 go_enter Tryz.func154,Tryz.ntmps154
 go_wp2_with fail
 go_region_with (first
  | (go_at_call 154;refine (IH.out (w.alloc (.cells #[.int .u8 (48+(R:Int))] 5)).drew).mono ?_;rintro en w2 ⟨rfl,hb2⟩;have hcv2:=conv_kept HR.out hb2;have hbb:=Below.trans (((Below.refl w.heap.size w).alloc (Nat.le_refl _) (.cells #[.int .u8 (48+(R:Int))] 5)).drew) (hb2.mono (size_alloc_le w _)))
  | (go_at_call 154;refine (IH.out w.drew).mono ?_;rintro en w2 ⟨rfl,hb2⟩;have hbb:=Below.trans ((Below.refl w.heap.size w).drew) hb2))
 all_goals
  go_wp2_with fail
  go_ret
  refine ⟨by rw [e.out];rfl,?_⟩
  first
   | exact hbb
   | exact hbb.alloc hbb.size _
theorem l6Dec_any (n:Nat):n<=16777216->∀ w,Calls Tryz.prog 154 #[.int .i64 (n:Nat)] w fun en w'=>en=.returned (str (dec n))/\Below w.heap.size w w':=by
 induction n using Nat.strongRecOn with
 | _ n ih =>
   intro hl w
   by_cases h:n<10
   ·exact l6Dec_small n h w
   ·exact l6Dec_step n h hl (ih (n / 10) (Nat.div_lt_self (by omega) (by omega)) (Nat.le_trans (Nat.div_le_self _ _) hl)) w
def TextNSaid (b:Bd):Prop:=∀ (F:Nat->Prop) (w:World) (s v k y:Value),Reps F w (encN b) [s,v,k,y] ->
 Calls Tryz.prog 100 #[.agg #[s,v,k,y]] w fun en w'=>en=.returned (str (textB b))/\Below w.heap.size w w'
abbrev KeepY (g:Nat) (ky:Value) (yb0 yo:Nat) (s0 v0 p0 q0 s1 v1 p1 q1:Value) (w':World):Prop :=
 w'.cell? ⟨g,3,none⟩=some ky/\w'.cell? ⟨yb0,yo,none⟩=some s0/\w'.cell? ⟨yb0,yo+1,none⟩=some v0/\w'.cell? ⟨yb0,yo+2,none⟩=some p0/\w'.cell? ⟨yb0,yo+3,none⟩=some q0 /\
  w'.cell? ⟨yb0,yo+4,none⟩=some s1/\w'.cell? ⟨yb0,yo+5,none⟩=some v1/\w'.cell? ⟨yb0,yo+6,none⟩=some p1/\w'.cell? ⟨yb0,yo+7,none⟩=some q1
theorem KeepY.below {g:Nat} {ky:Value} {yb0 yo:Nat} {s0 v0 p0 q0 s1 v1 p1 q1:Value} {w w':World} (h:KeepY g ky yb0 yo s0 v0 p0 q0 s1 v1 p1 q1 w) (hb:Below w.heap.size w w'):KeepY g ky yb0 yo s0 v0 p0 q0 s1 v1 p1 q1 w':=by
 have key:∀ (a:Addr) (v:Value),w.cell? a=some v->w'.cell? a=some v:=fun a v ha=>by
  rw [hb.cell (World.block_lt_of_cell? w _ ha)];exact ha
 obtain ⟨h1,h2,h3,h4,h5,h6,h7,h8,h9⟩:=h
 exact ⟨key _ _ h1,key _ _ h2,key _ _ h3,key _ _ h4,key _ _ h5,key _ _ h6,key _ _ h7,key _ _ h8,key _ _ h9⟩
set_option maxRecDepth 100000 in
theorem l3Text_step (b:Bd) (hl:sizeB b<=1000000) (hlv:lvB b) (ih:∀ b',sizeB b'<sizeB b->lvB b'->TextNSaid b'):TextNSaid b:=by
 intro F w s v k y hv
 have e1:=encN_lv hv
 subst e1
 obtain ⟨_,a2,c2,a3,c3,e,hk,hy⟩:=encN_open hv
 simp only [List.cons.injEq,and_true] at e
 obtain ⟨rfl,_,rfl,rfl⟩:=e
 cases b with
 | leaf c =>
   clear hv hk hy ih
   show Calls Tryz.prog 100 #[.agg #[str [c],.int .i64 (0:Nat),.slice a2 0 c2,.slice a3 0 c3]] w _
   go_enter Tryz.func100,Tryz.ntmps100
   go_wp2_with fail
   go_ret
   exact ⟨rfl,(Below.refl _ _).alloc (Nat.le_refl _) _⟩
 | ask lv ss yb nb =>
   have IH:=Lib.hid ih;clear ih
   have hsz:=sizeB_parts (.ask lv ss yb nb)
   rw [partsOf_eq,sizeBs_append] at hsz
   change sizeB (.ask lv ss yb nb)=1+(sizeBs ss+sizeBs [yb,nb]) at hsz
   have hyn:sizeBs [yb,nb]=sizeB yb+sizeB nb:=by simp [sizeBs]
   rw [lvB] at hlv
   obtain ⟨lv1,lv2,lv3,lv4⟩:=hlv
   have t1:=textBs_length ss lv2
   have t2:=textB_length yb lv3
   have t3:=textB_length nb lv4
   have t4:(dec lv).length<=5:=dec_length 4 lv (by omega)
   obtain ⟨_,_,ek,atk⟩:=AtNs.of hk
   simp only [Value.slice.injEq,true_and] at ek
   rw [<- ek.1] at atk;clear ek
   obtain ⟨_,_,ek,aty⟩:=AtNs.of hy
   simp only [Value.slice.injEq,true_and] at ek
   rw [<- ek.1] at aty;clear ek
   change AtNs F w ss a2 at atk
   change AtNs F w [yb,nb] a3 at aty
   obtain ⟨yb0,yo,s0,v0,p2,m2,d2,p3,m3,d3,yt,ey,hyb0,hyt,u0,u1,u2,u3,hry⟩:=aty 0 (by simp)
   obtain ⟨yb1,yo1,s1,v1,p4,m4,d4,p5,m5,d5,nt,en1,hyb1,hnt,z0,z1,z2,z3,hrn⟩:=aty 1 (by simp)
   rw [ey] at en1
   simp only [Option.some.injEq,Addr.mk.injEq,and_true] at en1
   obtain ⟨rfl,rfl⟩:=en1
   simp only [List.getElem?_cons_zero,Option.some.injEq] at hyt
   simp only [List.getElem?_cons_succ,List.getElem?_cons_zero,Option.some.injEq] at hnt
   subst hyt;subst hnt
   simp only [Nat.zero_mul,Nat.add_zero] at u0 u1 u2 u3
   simp only [Nat.one_mul,Nat.add_assoc,Nat.reduceAdd] at z0 z1 z2 z3
   have nss:ss.length<=16777216:=by have:=length_le_sizeBs ss;omega
   have HSZ:=Lib.hid hsz;have HYN:=Lib.hid hyn
   have ATK:=Lib.hid atk
   have LV:=Lib.hid lv2;have LV3:=Lib.hid lv3;have LV4:=Lib.hid lv4
   have lvl:lv<=16777216:=by omega
   have hkY:KeepY w.heap.size (.slice a3 2 c3) yb0 yo (str s0) (.int .i64 v0) (.slice p2 m2 d2) (.slice p3 m3 d3) (str s1) (.int .i64 v1) (.slice p4 m4 d4) (.slice p5 m5 d5) (w.alloc (.cells #[str [],.int .i64 lv,.slice a2 ss.length c2,.slice a3 2 c3] 81)) :=
    ⟨by simp,cell_alloc u0,cell_alloc u1,cell_alloc u2,cell_alloc u3,cell_alloc z0,cell_alloc z1,cell_alloc z2,cell_alloc z3⟩
   have HKY:=Lib.hid hkY
   have HRY:=Lib.hid hry;have HRN:=Lib.hid hrn
   subst ey
   clear hv hk hy atk aty hsz hyn lv2 lv3 lv4 u0 u1 u2 u3 z0 z1 z2 z3 hry hrn hkY
   show Calls Tryz.prog 100 #[.agg #[str [],.int .i64 lv,.slice a2 ss.length c2,.slice (some ⟨yb0,yo,none⟩) 2 c3]] w _
   have hadd0:=fun w0=>add_str (P:=Tryz.prog) [40] (dec lv) (by simp;omega) w0
   go_enter Tryz.func100,Tryz.ntmps100
   go_wp2_with fail
   refine (l6Dec_any lv lvl _).mono ?_
   rintro en w1 ⟨rfl,hb1⟩
   have hbA:Below w.heap.size w w1:=Below.trans ((Below.refl w.heap.size w).alloc (Nat.le_refl _) (.cells #[str [],.int .i64 lv,.slice a2 ss.length c2,.slice (some ⟨yb0,yo,none⟩) 2 c3] 81)) (hb1.mono (by simp))
   have hx2:w1.cell? ⟨w.heap.size,2,none⟩=some (.slice a2 ss.length c2):=(hb1.cell (by simp)).trans (by simp)
   have HKY1:=Lib.hid (HKY.out.below hb1)
   go_wp2_with fail
   clear hadd0
   go_loopw [3,4] (fun o i wr=>∃ k:Nat,k<=ss.length/\i=.int .i64 k/\o=str ([40]++dec lv++textBs (ss.take k))/\Below w.heap.size w wr/\wr.cell? ⟨w.heap.size,2,none⟩=some (.slice a2 ss.length c2)/\KeepY w.heap.size (.slice (some ⟨yb0,yo,none⟩) 2 c3) yb0 yo (str s0) (.int .i64 v0) (.slice p2 m2 d2) (.slice p3 m3 d3) (str s1) (.int .i64 v1) (.slice p4 m4 d4) (.slice p5 m5 d5) wr) (fun _ i _=>ss.length-(intOf i).toNat)
   case atStart=>exact ⟨0,Nat.zero_le _,rfl,by simp [textBs],hbA,hx2,HKY1.out⟩
   case round =>
    clear hx2 HKY1 HKY hbA
    obtain ⟨k,hk,rfl,rfl,hb,hx2,hkY⟩:=hrel
    have HKY:=Lib.hid hkY;clear hkY
    have hlen:([40]++dec lv++textBs (ss.take k)).length<=16777216:=by
     have h1:=textBs_take_len ss k
     have h2:=HSZ.out
     simp only [List.length_append,List.length_cons,List.length_nil];omega
    by_cases hlt:k<ss.length
    ·obtain ⟨bb,o,s',v',b2,n2,e2,b3,n3,e3,t,eb,hbb,ht,u0,u1,u2,u3,hr⟩:=ATK.out k hlt
     subst eb
     have q0:=(hb.cell hbb).trans u0
     have q1:=(hb.cell hbb).trans u1
     have q2:=(hb.cell hbb).trans u2
     have q3:=(hb.cell hbb).trans u3
     have hr':=Reps.below (F':=fun _=>True) hb (fun _ _=>trivial) hr
     have hs1:=sizeBs_take ht
     have hs2:=sizeBs_take_le ss (k+1)
     have hs3:=HSZ.out
     have hs4:=textB_length t (lvBs_at _ LV.out k t ht)
     have C:=Lib.hid (IH.out t (by omega) (lvBs_at _ LV.out k t ht) _ wr _ _ _ _ hr')
     have HT:=Lib.hid (textBs_take ht)
     have ht16:(textB t).length<=16777216:=by omega
     have hlt':(k:Int)<(ss.length:Int):=by omega
     generalize hO:[40]++dec lv++textBs (ss.take k)=O at *
     have HO:=Lib.hid hO
     have hadd1:=fun w0=>add_str (P:=Tryz.prog) O [32] (by simp;omega) w0
     have hadd2:=fun w0=>add_str (P:=Tryz.prog) (O++[32]) (textB t) (by simp;omega) w0
     clear hO hs1 hs2 hs3 hs4 ht u0 u1 u2 u3 hr hr'
     go_wp2_with fail
     refine C.out.mono ?_
     rintro en w2 ⟨rfl,hb2⟩
     have hb3:=zzT hb hb2
     have hx2':w2.cell? ⟨w.heap.size,2,none⟩=some (.slice (some ⟨bb,o,none⟩) ss.length c2):=(hb2.cell (World.block_lt_of_cell? _ ⟨w.heap.size,2,none⟩ hx2)).trans hx2
     have HKY2:=Lib.hid (HKY.out.below hb2)
     go_wp2_with fail
     go_roundw
     case rel=>exact ⟨k+1,by omega,by go_num,by rw [HT.out,<- HO.out];simp [str],hb3,hx2',HKY2.out⟩
     case measure=>simp [intOf];omega
    ·obtain rfl:k=ss.length:=by omega
     rw [List.take_length] at hlen ⊢
     have hnl:¬ ((ss.length:Int)<(ss.length:Int)):=by omega
     have HE:Hid (textB (.ask lv ss yb nb)=((((([40]++dec lv++textBs ss)++[32])++textB yb)++[32])++textB nb)++[41]):=by show textB _=_;rw [textB]
     generalize hO:[40]++dec lv++textBs ss=O at *
     clear hO
     obtain ⟨hy3,q0,q1,q2,q3,q4,q5,q6,q7⟩:=HKY.out
     have hry':=(Reps.below (F':=fun _=>True) hb (fun _ _=>trivial) HRY.out).drew
     have hrn':=Reps.below (F':=fun _=>True) hb (fun _ _=>trivial) HRN.out
     have hs3:=HSZ.out
     have hs4:=HYN.out
     have y16:(textB yb).length<=16777216:=by omega
     have n16:(textB nb).length<=16777216:=by omega
     have pp:=sizeB_pos yb;have pq:=sizeB_pos nb
     have CY:=Lib.hid (IH.out yb (by omega) LV3.out _ wr.drew _ _ _ _ hry')
     have CN:=fun W F' h=>IH.out nb (by omega) LV4.out F' W (str s1) (.int .i64 v1) (.slice p4 m4 d4) (.slice p5 m5 d5) h
     have CN':=Lib.hid CN;clear CN
     have RN:=Lib.hid hrn'
     have e16:(O++[32]).length=O.length+1:=by simp
     obtain ⟨O1,h1⟩:=zzM (O++[32])
     obtain ⟨O2,h2⟩:=zzM (O1++textB yb)
     obtain ⟨O3,h3⟩:=zzM (O2++[32])
     obtain ⟨O4,h4⟩:=zzM (O3++textB nb)
     obtain ⟨O5,h5⟩:=zzM (O4++[41])
     have l1:O1.length<=16777217:=by rw [h1];simp;omega
     have l2:O2.length<=33554433:=by rw [h2];simp;omega
     have l3:O3.length<=33554434:=by rw [h3];simp;omega
     have l4:O4.length<=50331650:=by rw [h4];simp;omega
     have hadd1:=fun w0=>add_str (P:=Tryz.prog) O [32] (by simp;omega) w0
     have hadd2:=fun w0=>add_str (P:=Tryz.prog) O1 (textB yb) (by omega) w0
     have hadd3:=fun w0=>add_str (P:=Tryz.prog) O2 [32] (by simp;omega) w0
     have hadd4:=fun w0=>add_str (P:=Tryz.prog) O3 (textB nb) (by omega) w0
     have hadd5:=fun w0=>add_str (P:=Tryz.prog) O4 [41] (by simp;omega) w0
     have HE5:Hid (O5=textB (.ask lv ss yb nb)):=by show O5=_;rw [HE.out,h5,h4,h3,h2,h1]
     rw [<- h1] at hadd1;rw [<- h2] at hadd2;rw [<- h3] at hadd3;rw [<- h4] at hadd4;rw [<- h5] at hadd5
     clear h1 h2 h3 h4 h5 HE e16 l1 l2 l3 l4
     have hKd:KeepY w.heap.size (.slice (some ⟨yb0,yo,none⟩) 2 c3) yb0 yo (str s0) (.int .i64 v0) (.slice p2 m2 d2) (.slice p3 m3 d3) (str s1) (.int .i64 v1) (.slice p4 m4 d4) (.slice p5 m5 d5) wr.drew:=HKY.out
     clear hs3 hs4 pp pq hry' hrn' t1 t2 t3 t4
     go_wp2_with fail
     go_region_held3 (fun w'=>w'.cell? ⟨w.heap.size,3,none⟩=some (.slice (some ⟨yb0,yo,none⟩) 2 c3)/\w'.cell? ⟨yb0,yo,none⟩=some (str s0)/\w'.cell? ⟨yb0,yo+1,none⟩=some (.int .i64 v0)/\w'.cell? ⟨yb0,yo+2,none⟩=some (.slice p2 m2 d2)/\w'.cell? ⟨yb0,yo+3,none⟩=some (.slice p3 m3 d3)/\w'.cell? ⟨yb0,yo+4,none⟩=some (str s1)/\w'.cell? ⟨yb0,yo+5,none⟩=some (.int .i64 v1)/\w'.cell? ⟨yb0,yo+6,none⟩=some (.slice p4 m4 d4)/\w'.cell? ⟨yb0,yo+7,none⟩=some (.slice p5 m5 d5))
      (first
       | with_reducible exact hKd
       | with_reducible exact hK3
       | with_reducible exact hK4)
      (first
       | (go_at_call 100;refine (CN'.out _ _ rn3).mono ?_;rintro en w4 ⟨rfl,hb4⟩;have hK4:=hK3.below hb4)
       | (go_at_call 100;refine CY.out.mono ?_;rintro en w3 ⟨rfl,hb3⟩;have hK3:=hKd.below hb3;have rn3:=Reps.below (F':=fun _=>True) hb3 (fun _ _=>trivial) RN.out.drew))
     go_wp2_with fail
     go_ret
     exact ⟨by rw [<- HE5.out];rfl,hb.trans ((((Below.refl _ wr).drew).trans (zzT hb3 hb4)).mono hb.size)⟩
theorem l3Text_any (n:Nat):∀ b,sizeB b<=n->n<=1000000->lvB b->TextNSaid b:=by
 induction n with
 | zero=>intro b h _;have:=sizeB_pos b;omega
 | succ n ih=>exact fun b h hn hlv=>l3Text_step b (by omega) hlv (fun b' h' hl'=>ih b' (by omega) (by omega) hl')
mutual
def encSC:SC->List DV
 | .mk b t env bg i=>[.val (.int .i64 (-1))]++(encN b++[encS t,.sl 235 9 env.length (encSCs env),.val (.int .i64 (bg:Nat)),.val (.int .i64 (i:Nat))])
def encSCs:List SC->List DV
 | []=>[]
 | x::xs=>encSC x++encSCs xs
end
structure RS (keep:Bool) (most ra:Nat) (log:List (Bs×Int)) (mv pt:Value) (w:World):Prop where
 blk:w.heap[ra]? = some (.cells #[mv,pt,.int .i64 (log.length:Nat),.int .i64 (most:Nat),.bool keep,.bool (decide (most<log.length))] 103 (0,0))
 sls:∃ a n k a' n' k',mv=.slice a n k/\pt=.slice a' n' k'
 rows:keep=true->log.length<=most->Own w 9 1 mv log.length (logM log)/\Own w 3 1 pt log.length (logP log)
 ne:∀ g,mv.ownBlock=some g\/pt.ownBlock=some g->g≠ra/\g<w.heap.size
theorem RS.but {keep:Bool} {most ra:Nat} {log:List (Bs×Int)} {mv pt:Value} {m:Nat->Prop} {w w':World} (h:RS keep most ra log mv pt w) (hb:But m w w') (hm:∀ b,MBk ra mv pt b->¬ m b):RS keep most ra log mv pt w' :=
 ⟨by rw [hb.block ra (lt_of_heap h.blk) (hm ra (.inl rfl))];exact h.blk,h.sls,
  fun hk hl=>⟨(h.rows hk hl).1.keep fun g o hg ho=>by rw [hb.block g (lt_of_heap ho) (hm g (.inr (.inl hg)))];exact ho,(h.rows hk hl).2.keep fun g o hg ho=>by rw [hb.block g (lt_of_heap ho) (hm g (.inr (.inr hg)))];exact ho⟩,
  fun g hg=>⟨(h.ne g hg).1,Nat.lt_of_lt_of_le (h.ne g hg).2 hb.size⟩⟩
theorem RS.below {keep:Bool} {most ra:Nat} {log:List (Bs×Int)} {mv pt:Value} {w w':World} (h:RS keep most ra log mv pt w) (hb:Below w.heap.size w w'):RS keep most ra log mv pt w' :=
 h.but (m:=fun _=>False) (But.ofBelow hb) fun _ _ h=>h
theorem RS.drew {keep:Bool} {most ra:Nat} {log:List (Bs×Int)} {mv pt:Value} {w:World} (h:RS keep most ra log mv pt w):RS keep most ra log mv pt w.drew:=h.but (m:=fun _=>False) (But.refl _ _).drew fun _ _ h=>h
theorem RS.lt {keep:Bool} {most ra:Nat} {log:List (Bs×Int)} {mv pt:Value} {w:World} (h:RS keep most ra log mv pt w) {b:Nat} (hb:MBk ra mv pt b):b<w.heap.size:=by
 rcases hb with rfl | hb | hb
 ·exact lt_of_heap h.blk
 ·exact (h.ne b (.inl hb)).2
 ·exact (h.ne b (.inr hb)).2
theorem RS.bad {keep:Bool} {most ra:Nat} {log:List (Bs×Int)} {mv pt:Value} {w:World} (h:RS keep most ra log mv pt w):w.cell? ⟨ra,5,none⟩=some (.bool (decide (most<log.length))):=by simp [World.cell?,h.blk]
structure BoxS (F:Nat->Prop) (B:Nat) (b:Bd) (v:Int) (x2 x3:Value) (w:World):Prop where
 blk:w.heap[B]? = some (.cells #[str (atomOf b),.int .i64 v,x2,x3] 81 (0,0))
 rep:Reps F w (encN b) [str (atomOf b),.int .i64 v,x2,x3]
def encSF (x:SF):List DV:=encN (.ask x.v x.ss x.yes x.no)++[.sl 235 9 x.env.length (encSCs x.env),.val (.int .i64 (x.opens:Nat))]
def encSFs:List SF->List DV
 | []=>[]
 | x::xs=>encSF x++encSFs xs
mutual
def okN (n:Nat):SC->Prop
 | .mk b _ e bg i=>nB b/\okNs n e/\e.length<=16*n/\bg<n/\i<=15
def okNs (n:Nat):List SC->Prop
 | []=>True
 | c::cs=>okN n c/\okNs n cs
end
mutual
theorem okN_mono {n m:Nat} (h:n<=m):∀ c,okN n c->okN m c
 | .mk b _ e bg i,k=>by
   rw [okN] at *
   exact ⟨k.1,okNs_mono h e k.2.1,by have:=k.2.2.1;omega,by have:=k.2.2.2.1;omega,k.2.2.2.2⟩
theorem okNs_mono {n m:Nat} (h:n<=m):∀ cs,okNs n cs->okNs m cs
 | [],k=>by rw [okNs] at *;trivial
 | c::cs,k=>by rw [okNs] at *;exact ⟨okN_mono h c k.1,okNs_mono h cs k.2⟩
end
structure SFOk (n:Nat) (x:SF):Prop where
 ok:okF x
 yes:nB x.yes
 no:nB x.no
 env:okNs n x.env
 len:x.env.length<=16*n
 opens:x.opens<n
theorem SFOk.mono {n m:Nat} {x:SF} (h:SFOk n x) (k:n<=m):SFOk m x:=⟨h.ok,h.yes,h.no,okNs_mono k _ h.env,by have:=h.len;omega,by have:=h.opens;omega⟩
def LogOk (log:List (Bs×Int)):Prop:=∀ (i:Nat) (q:Bs) (p:Int),log[i]? = some (q,p)->1<=q.length/\q.length<=2*log.length+1
theorem LogOk.snoc {log:List (Bs×Int)} (h:LogOk log) {s:Bs} {p:Int} (h1:1<=s.length) (h2:s.length<=2*log.length+3):LogOk (log++[(s,p)]):=by
 intro i q p' hi
 have hl:(log++[(s,p)]).length=log.length+1:=by simp
 rw [hl]
 rcases Nat.lt_or_ge i log.length with hlt | hge
 ·rw [List.getElem?_append_left hlt] at hi
  have:=h i q p' hi
  omega
 ·rw [List.getElem?_append_right hge] at hi
  rcases Nat.eq_zero_or_pos (i-log.length) with h0 | h0
  ·rw [h0] at hi;simp at hi;obtain ⟨rfl,rfl⟩:=hi;omega
  ·rw [List.getElem?_eq_none (by simp;omega)] at hi;simp at hi
structure GoAt (keep:Bool) (most ra:Nat) (mv0 pt0:Value) (w:World) (B:Nat) (b:Bd) (env:List SC) (opens:Nat) (st:List SF) (log:List (Bs×Int)) (mv pt:Value) (v:Int) (x2 x3 ev sv:Value) (cells:List Value) (wr:World):Prop where
 rs:RS keep most ra log mv pt wr
 box:BoxS (fun i=>¬ Chg ra mv pt B sv i) B b v x2 x3 wr
 re:Rep (fun i=>¬ Chg ra mv pt B sv i) wr (.sl 235 9 env.length (encSCs env)) ev
 own:Own wr 233 6 sv st.length cells
 rf:Reps (fun i=>¬ Chg ra mv pt B sv i) wr (encSFs st.reverse) cells
 but:But (MBk ra mv0 pt0) w wr
 new:∀ i,MBk ra mv pt i->MBk ra mv0 pt0 i\/w.heap.size<=i
 bB:w.heap.size<=B/\¬ MBk ra mv pt B
 sB:∀ g,sv.ownBlock=some g->w.heap.size<=g/\g≠B/\¬ MBk ra mv pt g
theorem GoAt.drew {keep:Bool} {most ra:Nat} {mv0 pt0:Value} {w:World} {B:Nat} {b:Bd} {env:List SC} {opens:Nat} {st:List SF} {log:List (Bs×Int)} {mv pt:Value} {v:Int} {x2 x3 ev sv:Value} {cells:List Value} {wr:World} (h:GoAt keep most ra mv0 pt0 w B b env opens st log mv pt v x2 x3 ev sv cells wr) :
 GoAt keep most ra mv0 pt0 w B b env opens st log mv pt v x2 x3 ev sv cells wr.drew :=
 ⟨h.rs.drew,⟨h.box.blk,h.box.rep.drew⟩,h.re.drew,h.own.drew,h.rf.drew,h.but.drew,h.new,h.bB,h.sB⟩
theorem cells1 {m:Nat->Prop} {w w':World} {a:Addr} {u:Value} (hb:But m w w') (ha:w.cell? a=some u) (na:¬ m a.block):w'.cell? a=some u:=(hb.cell (World.block_lt_of_cell? w _ ha) na).trans ha
theorem Rep.alloc {F:Nat->Prop} {w:World} {d:DV} {v:Value} (h:Rep F w d v) (o:Obj):Rep F (w.alloc o) d v:=(Rep.keep fun _ _ hf ho=>⟨hf,heap_past ho⟩).1 _ _ h


def Made (g:Nat) (xs:List Bs) (k:Nat) (w:World):Prop :=
 ∃ Y:Array Value,w.heap[g]? = some (.cells Y 9 (0,0))/\Y.size=xs.length/\∀ (j:Nat) (s:Bs),j<k->xs[j]? = some s->Y[j]? = some (str s)
theorem Made.cell {g:Nat} {xs:List Bs} {k:Nat} {w:World} (h:Made g xs k w) (hk:k<xs.length):(∃ u,w.cell? ⟨g,k,none⟩=some u)/\w.frozen? ⟨g,k,none⟩=false:=by
 obtain ⟨Y,hY,hs,_⟩:=h
 exact ⟨⟨Y[k]'(by omega),by simp [World.cell?,hY,show k<Y.size by omega]⟩,by simp [World.frozen?,hY]⟩
theorem Made.put {g:Nat} {xs:List Bs} {k:Nat} {w:World} (h:Made g xs k w) {s:Bs} (hk:xs[k]? = some s):Made g xs (k+1) (w.setCell ⟨g,k,none⟩ (str s)):=by
 obtain ⟨Y,hY,hs,hj⟩:=h
 refine ⟨Y.setIfInBounds k (str s),setCell_at hY,by simp [hs],fun j s' hj' hs'=>?_⟩
 have hlt:=(List.getElem?_eq_some_iff.1 hk).1
 rcases Nat.lt_or_ge j k with h | h
 ·rw [Array.getElem?_setIfInBounds_ne (by omega)];exact hj j s' h hs'
 ·obtain rfl:j=k:=by omega
  rw [hk] at hs';simp at hs';subst hs'
  rw [Array.getElem?_setIfInBounds_self_of_lt (by omega)]

def markT (k:Nat):Bs:=109::dec k
def marksS (k n:Nat):List Value:=(List.range n).map fun i=>str (markT (k+i))
def marksI (k n:Nat):List Value:=(List.range n).map fun i:Nat=>Value.int .i64 ((k:Int)+(i:Int))
def DecTo (k j:Nat) (O:Bs):Prop:=dec k=(if j=0 then [] else dec j)++O/\j<=k
theorem DecTo.next {k j:Nat} {O:Bs} (h:DecTo k j O) (hj:0<j):DecTo k (j / 10) ([digit (j % 10)]++O):=by
 obtain ⟨h1,h2⟩:=h
 refine ⟨?_,Nat.le_trans (Nat.div_le_self _ _) h2⟩
 rw [if_neg (by omega)] at h1
 rw [h1]
 by_cases h10:j<10
 ·rw [dec_small h10,Nat.div_eq_of_lt h10,Nat.mod_eq_of_lt h10];simp
 ·rw [dec_great h10,if_neg (by omega),List.append_assoc]
theorem DecTo.len {k j:Nat} {O:Bs} (h:DecTo k j O) (hk:k<=100000000):O.length<=9:=by
 have:=dec_length 8 k (by omega)
 rw [h.1,List.length_append] at this
 omega
theorem DecTo.done {k:Nat} {O:Bs} (h:DecTo k 0 O):dec k=O:=by have:=h.1;simpa using this
theorem Own.open1 {w:World} {e:TypeId} {a:Option Addr} {n c:Nat} {xs:List Value} (h:Own w e 1 (.slice a n c) n xs) {j:Nat} (hj:j<n) :
 ∃ g,a=some ⟨g,0,none⟩/\g<w.heap.size/\(Value.slice a n c).ownBlock=some g/\(∃ u,xs[j]? = some u/\w.cell? ⟨g,j,none⟩=some u)/\w.frozen? ⟨g,j,none⟩=false:=by
 obtain ⟨hl,⟨_,h0⟩ | ⟨g,cap,cur,hv,_,hg,hnc,_,hcs,htk⟩⟩:=h
 ·omega
 ·simp only [Value.slice.injEq] at hv
  obtain ⟨rfl,_,rfl⟩:=hv
  have hjc:j<cur.size:=by omega
  refine ⟨g,rfl,lt_of_heap hg,rfl,⟨cur[j],?_,?_⟩,?_⟩
  ·rw [<- htk,List.getElem?_take,if_pos (by omega)];simp [hjc]
  ·simp [World.cell?,hg,hjc]
  ·simp [World.frozen?,hg]
theorem Own.put1 {w:World} {e:TypeId} {g n c:Nat} {xs:List Value} (h:Own w e 1 (.slice (some ⟨g,0,none⟩) n c) n xs) (j:Nat) (u:Value):Own (w.setCell ⟨g,j,none⟩ u) e 1 (.slice (some ⟨g,0,none⟩) n c) n (xs.set j u):=by
 obtain ⟨hl,⟨h0,_⟩ | ⟨g',cap,cur,hv,h0,hg,hnc,hcm,hcs,htk⟩⟩:=h
 ·cases h0
 ·simp only [Value.slice.injEq,Option.some.injEq,Addr.mk.injEq] at hv
  obtain ⟨⟨rfl,_,_⟩,_,rfl⟩:=hv
  refine ⟨by simpa using hl,.inr ⟨g,c,cur.setIfInBounds j u,rfl,h0,setCell_at hg,hnc,hcm,by simpa using hcs,?_⟩⟩
  rw [Array.toList_setIfInBounds,<- htk,List.take_set]
theorem Own.strs {w:World} {e:TypeId} {a:Option Addr} {n c:Nat} {xs:List Bs} (h:Own w e 1 (.slice a n c) n (xs.map str)):StrsAt w a xs:=by
 intro k s hs
 have hk:k<n:=by
  have:=h.1
  have h2:=(List.getElem?_eq_some_iff.1 hs).1
  simp at this;omega
 obtain ⟨g,rfl,_,_,⟨u,hu,hc⟩,_⟩:=h.open1 hk
 rw [List.getElem?_map,hs] at hu
 simp at hu
 exact ⟨g,0,rfl,by rw [Nat.zero_add,hu];exact hc⟩
section
variable {P:Program} {ops:Array Oper} {Q:Exit->Act->World->Prop} {md:Region.Mode}
def set1 (b:Nat->Bool) (i:Nat):Nat->Bool:=fun k=>if k=i then true else b k
def lsOf (L:Array Bool):Nat->Bool:=fun k=>L.getD k false
theorem lsOf_set (L:Array Bool) (i:Nat) (h:i<L.size):lsOf (L.setIfInBounds i true)=set1 (lsOf L) i:=by
 funext k
 unfold lsOf set1
 by_cases hk:k=i
 ·subst hk;rw [if_pos rfl];simp [h]
 ·rw [if_neg hk];simp only [Array.getD_eq_getD_getElem?];rw [Array.getElem?_setIfInBounds_ne (fun e=>hk e.symm)]
def openOf (L:Array Bool):Nat:=(L.toList.filter fun x=>!x).length
theorem openOf_set (L:Array Bool) (i:Nat) (h:i<L.size) (hf:L.getD i true=false):openOf (L.setIfInBounds i true)+1=openOf L:=by
 unfold openOf
 rw [Array.toList_setIfInBounds]
 have key:∀ (l:List Bool) (i:Nat),i<l.length->l.getD i true=false->((l.set i true).filter fun x=>!x).length+1=(l.filter fun x=>!x).length:=by
  intro l
  induction l with
  | nil=>intro i h;simp at h
  | cons x l ih =>
    intro i h hf
    cases i with
    | zero=>simp at hf;subst hf;simp
    | succ i =>
      have:=ih i (by simpa using h) (by simpa using hf)
      simp only [List.set_cons_succ,List.filter_cons]
      cases x <;> simp <;> omega
 refine key _ i (by simpa using h) ?_
 simpa [Array.getD_eq_getD_getElem?,List.getD_eq_getElem?_getD] using hf
theorem wpAny_inv {I:(Nat->Bool)->Act->World->Prop} (hacy:∀ (i:Nat) (o:Oper),ops[i]? = some o->∀ e∈o.after,e.on<i)
 (step:∀ (b:Nat->Bool) (a:Act) (w:World) (i:Nat) (o:Oper),ops[i]? = some o->b i=false->(∀ e∈o.after,Region.binds md e=true->b e.on=true)->I b a w ->
  ∀ K':Act->World->Prop,(∀ a w,I (set1 b i) a w->K' a w)->if Region.wanted o (yielded ops a.tmps)=true then Oper.wp P o a w K' Q else K' (a.put o.dst undef) w)
 (done:∀ (b:Nat->Bool) (a:Act) (w:World),(∀ i,i<ops.size->b i=true)->I b a w->Q .normal a w) :
 ∀ (fuel:Nat) (L:Array Bool) (a:Act) (w:World),L.size=ops.size->openOf L<=fuel->I (lsOf L) a w->wpAny P md ops Q fuel L a w:=by
 have hready:∀ (L:Array Bool),L.size=ops.size->Region.ready md ops L=[]->∀ i,i<ops.size->lsOf L i=true:=by
  intro L hL hr i
  induction i using Nat.strongRecOn with
  | _ i ih =>
    intro hi
    cases hb:lsOf L i with
    | true=>rfl
    | false =>
      exfalso
      have:i∈Region.ready md ops L:=by
       unfold Region.ready
       rw [List.mem_filter]
       refine ⟨List.mem_range.2 hi,?_⟩
       have ho:ops[i]? = some ops[i]:=by simp [hi]
       rw [ho]
       have h1:L.getD i true=false:=by
        unfold lsOf at hb
        have h2:L[i]? = some L[i]:=by simp [hL,hi]
        simp only [Array.getD_eq_getD_getElem?,h2,Option.getD_some] at hb ⊢
        exact hb
       simp only [h1,Bool.not_false,Bool.true_and,Option.map_some,Option.getD_some]
       rw [Array.all_eq_true']
       intro e he
       rw [Bool.or_eq_true]
       right
       exact ih e.on (hacy i _ ho e he) (by have:=hacy i _ ho e he;omega)
      rw [hr] at this;simp at this
 intro fuel
 induction fuel with
 | zero =>
   intro L a w hL hf hI
   have hall:∀ i,i<ops.size->lsOf L i=true:=by
    intro i hi
    cases hb:lsOf L i with
    | true=>rfl
    | false =>
      exfalso
      have:openOf L=0:=by omega
      unfold openOf at this
      rw [List.length_eq_zero_iff,List.filter_eq_nil_iff] at this
      unfold lsOf at hb
      have h2:L[i]? = some L[i]:=by simp [hL,hi]
      simp only [Array.getD_eq_getD_getElem?,h2,Option.getD_some] at hb
      have:=this L[i] (by simp)
      rw [hb] at this;simp at this
   rw [wpAny]
   refine ⟨?_,done _ _ _ hall hI⟩
   cases hr:Region.ready md ops L with
   | nil=>rfl
   | cons i rs =>
     exfalso
     have hm:i∈Region.ready md ops L:=by rw [hr];simp
     unfold Region.ready at hm
     rw [List.mem_filter,List.mem_range] at hm
     obtain ⟨hi,h2⟩:=hm
     have:=hall i hi
     unfold lsOf at this
     have h3:L[i]? = some L[i]:=by simp [hL,hi]
     simp only [Array.getD_eq_getD_getElem?,h3,Option.getD_some] at this h2
     rw [this] at h2;simp at h2
 | succ fuel ih =>
   intro L a w hL hf hI
   rw [wpAny]
   refine ⟨fun hr=>done _ _ _ (hready L hL hr) hI,fun i hi=>?_⟩
   unfold Region.ready at hi
   rw [List.mem_filter,List.mem_range] at hi
   obtain ⟨hi,h2⟩:=hi
   have ho:ops[i]? = some ops[i]:=by simp [hi]
   rw [ho] at h2
   simp only [Option.map_some,Option.getD_some,Bool.and_eq_true,Bool.not_eq_true'] at h2
   obtain ⟨h3,h4⟩:=h2
   rw [Array.all_eq_true'] at h4
   have h5:lsOf L i=false:=by
    unfold lsOf
    have:L[i]? = some L[i]:=by simp [hL,hi]
    simp only [Array.getD_eq_getD_getElem?,this,Option.getD_some] at *
    exact h3
   refine wpOp_step ho fun K' hK=>?_
   refine step (lsOf L) a w i ops[i] ho h5 (fun e he hb=>?_) hI K' fun a' w' h'=>hK a' w' (ih _ _ _ (by simpa using hL) (by have:=openOf_set L i (by omega) h3;omega) (by rw [lsOf_set L i (by omega)];exact h'))
   have:=h4 e he
   rw [hb] at this
   simpa [lsOf] using this
def acyB (ops:Array Oper):Bool:=(List.range ops.size).all fun i=>match ops[i]? with
 | some o=>o.after.toList.all fun e=>decide (e.on<i)
 | none=>true
theorem acy_of (h:acyB ops=true) (i:Nat) (o:Oper) (ho:ops[i]? = some o) (e) (he:e∈o.after):e.on<i:=by
 have hi:i<ops.size:=(Array.getElem?_eq_some_iff.1 ho).1
 unfold acyB at h
 rw [List.all_eq_true] at h
 have:=h i (List.mem_range.2 hi)
 rw [ho] at this
 simp only [List.all_eq_true] at this
 have:=this e (by simpa using he)
 simpa using this
end
theorem SrcSl.slice1 {size:Nat} {x:Value} {m:Nat} {news:List Value} {w:World} (h:SrcSl size x m news w):∃ a c,x=.slice a m c:=by
 obtain ⟨_,_,⟨a,c,rfl,_⟩ | ⟨rfl,rfl⟩⟩:=h
 ·exact ⟨_,_,rfl⟩
 ·exact ⟨_,_,rfl⟩
theorem setc_at {w:World} {b o:Nat} {c:Array Value} {e:TypeId} {u:Value} (h:w.heap[b]? = some (.cells c e (0,0))):(w.setCell ⟨b,o,none⟩ u).heap[b]? = some (.cells (c.setIfInBounds o u) e (0,0)):=by
 have hlt:=lt_of_heap h
 have h':w.heap[b]=.cells c e (0,0):=by simpa [Array.getElem?_eq_getElem hlt] using h
 show (w.heap.modify b _)[b]? = _
 rw [Array.getElem?_eq_getElem (by simpa using hlt),Array.getElem_modify_self,h']
 simp
theorem cells2 {w:World} {P:Nat} {u v:Value} {T:TypeId} (h:w.heap[P]? = some (.cells #[u,v] T (0,0))):w.cell? ⟨P,0,none⟩=some u/\w.cell? ⟨P,1,none⟩=some v/\w.frozen? ⟨P,0,none⟩=false/\w.frozen? ⟨P,1,none⟩=false :=
 ⟨by simp [World.cell?,h],by simp [World.cell?,h],by simp [World.frozen?,h],by simp [World.frozen?,h]⟩
def Res (B:Nat) (tag:Nat->Nat) (t:Nat) (w:World) (e:TypeId) (v:Value) (n:Nat) (xs:List Value):Prop :=
 Own w e 1 v n xs/\∀ g,v.ownBlock=some g->tag g=t/\B<=g
def retag (tag:Nat->Nat) (g t:Nat):Nat->Nat:=fun i=>if i=g then t else tag i
theorem Res.alloc {B:Nat} {tag:Nat->Nat} {t:Nat} {w:World} {e:TypeId} {v:Value} {n:Nat} {xs:List Value} (h:Res B tag t w e v n xs) (o:Obj) (t':Nat):Res B (retag tag w.heap.size t') t (w.alloc o) e v n xs :=
 ⟨h.1.alloc o,fun g hg=>⟨by have:=h.1.lt hg;unfold retag;rw [if_neg (by omega)];exact (h.2 g hg).1,(h.2 g hg).2⟩⟩
theorem Res.but {B:Nat} {tag:Nat->Nat} {t:Nat} {w w':World} {e:TypeId} {v:Value} {n:Nat} {xs:List Value} (h:Res B tag t w e v n xs) {m:Nat->Prop} (hb:But m w w') (hm:∀ g,m g->tag g≠t) (t':Nat):Res B (retag tag w.heap.size t') t w' e v n xs :=
 ⟨h.1.keep fun g o hg ho=>by rw [hb.block g (lt_of_heap ho) (fun hmg=>hm g hmg (h.2 g hg).1)];exact ho,fun g hg=>⟨by have:=h.1.lt hg;unfold retag;rw [if_neg (by omega)];exact (h.2 g hg).1,(h.2 g hg).2⟩⟩
theorem Res.lit {B:Nat} (tag:Nat->Nat) (t:Nat) {w:World} (hB:B<=w.heap.size) (e:TypeId) (cs:Array Value) (n:Nat) (hm:n<=maxLen) (hs:cs.size=n):Res B (retag tag w.heap.size t) t (w.alloc (.cells cs e)) e (.slice (some ⟨w.heap.size,0,none⟩) n n) n cs.toList :=
 ⟨Own.lit cs n hm (by omega),fun g hg=>by
  simp [Value.ownBlock] at hg;subst hg
  exact ⟨by unfold retag;rw [if_pos rfl],hB⟩⟩
structure RowInv (B:Nat) (tag:Nat->Nat) (t1 t2:Nat) (e:TypeId) (n:Nat) (xs:List Value) (u:Value) (A C A' C':Bool) (vA vC vA' vC':Value) (w:World):Prop where
 a:A=true->C=false->(∃ g,vA=.slice (some ⟨g,0,none⟩) 0 0)/\Res B tag t1 w e vA 0 []
 c:C=true->C'=false->Res B tag t1 w e vC n xs
 a':A'=true->C'=false->(∃ g,vA'=.slice (some ⟨g,0,none⟩) 1 1)/\Res B tag t2 w e vA' 1 [u]
 c':C'=true->Res B tag t1 w e vC' (n+1) (xs++[u])
 cl:C'=true->C=true
section
variable {B:Nat} {tag:Nat->Nat} {t1 t2:Nat} {e:TypeId} {n:Nat} {xs:List Value} {u:Value} {A C A' C':Bool} {vA vC vA' vC':Value} {w:World}
theorem RowInv.start (B:Nat) (tag:Nat->Nat) (t1 t2:Nat) (e:TypeId) (n:Nat) (xs:List Value) (u vA vC vA' vC':Value) (w:World):RowInv B tag t1 t2 e n xs u false false false false vA vC vA' vC' w :=
 ⟨fun h=>Bool.noConfusion h,fun h=>Bool.noConfusion h,fun h=>Bool.noConfusion h,fun h=>Bool.noConfusion h,fun h=>Bool.noConfusion h⟩
theorem RowInv.alloc (h:RowInv B tag t1 t2 e n xs u A C A' C' vA vC vA' vC' w) (o:Obj) (t':Nat):RowInv B (retag tag w.heap.size t') t1 t2 e n xs u A C A' C' vA vC vA' vC' (w.alloc o) :=
 ⟨fun h1 h2=>⟨(h.a h1 h2).1,(h.a h1 h2).2.alloc o t'⟩,fun h1 h2=>(h.c h1 h2).alloc o t',fun h1 h2=>⟨(h.a' h1 h2).1,(h.a' h1 h2).2.alloc o t'⟩,fun h1=>(h.c' h1).alloc o t',h.cl⟩
theorem RowInv.but (h:RowInv B tag t1 t2 e n xs u A C A' C' vA vC vA' vC' w) {w':World} {m:Nat->Prop} (hb:But m w w') (hm:∀ g,m g->tag g≠t1/\tag g≠t2) (t':Nat):RowInv B (retag tag w.heap.size t') t1 t2 e n xs u A C A' C' vA vC vA' vC' w' :=
 ⟨fun h1 h2=>⟨(h.a h1 h2).1,(h.a h1 h2).2.but hb (fun g k=>(hm g k).1) t'⟩,fun h1 h2=>(h.c h1 h2).but hb (fun g k=>(hm g k).1) t',fun h1 h2=>⟨(h.a' h1 h2).1,(h.a' h1 h2).2.but hb (fun g k=>(hm g k).2) t'⟩,fun h1=>(h.c' h1).but hb (fun g k=>(hm g k).1) t',h.cl⟩
theorem Res.low {t:Nat} {v:Value} {k:Nat} {ys:List Value} (h:Res B tag t w e v k ys) {w':World} {m:Nat->Prop} (hb:But m w w') (hm:∀ g,m g->g<B):Res B tag t w' e v k ys :=
 ⟨h.1.keep fun g o hg ho=>by rw [hb.block g (lt_of_heap ho) (fun hmg=>by have:=hm g hmg;have:=(h.2 g hg).2;omega)];exact ho,h.2⟩
theorem RowInv.low (h:RowInv B tag t1 t2 e n xs u A C A' C' vA vC vA' vC' w) {w':World} {m:Nat->Prop} (hb:But m w w') (hm:∀ g,m g->g<B):RowInv B tag t1 t2 e n xs u A C A' C' vA vC vA' vC' w' :=
 ⟨fun h1 h2=>⟨(h.a h1 h2).1,(h.a h1 h2).2.low hb hm⟩,fun h1 h2=>(h.c h1 h2).low hb hm,fun h1 h2=>⟨(h.a' h1 h2).1,(h.a' h1 h2).2.low hb hm⟩,fun h1=>(h.c' h1).low hb hm,h.cl⟩
theorem RowInv.stepA (h:RowInv B tag t1 t2 e n xs u A C A' C' vA vC vA' vC' w) (hB:B<=w.heap.size):RowInv B (retag tag w.heap.size t1) t1 t2 e n xs u true C A' C' (.slice (some ⟨w.heap.size,0,none⟩) 0 0) vC vA' vC' (w.alloc (.cells #[] e)) :=
 ⟨fun _ _=>⟨⟨_,rfl⟩,Res.lit tag t1 hB e #[] 0 (Nat.zero_le _) rfl⟩,fun h1 h2=>(h.c h1 h2).alloc _ _,fun h1 h2=>⟨(h.a' h1 h2).1,(h.a' h1 h2).2.alloc _ _⟩,fun h1=>(h.c' h1).alloc _ _,h.cl⟩
theorem RowInv.stepA' (h:RowInv B tag t1 t2 e n xs u A C A' C' vA vC vA' vC' w) (hB:B<=w.heap.size):RowInv B (retag tag w.heap.size t2) t1 t2 e n xs u A C true C' vA vC (.slice (some ⟨w.heap.size,0,none⟩) 1 1) vC' (w.alloc (.cells #[u] e)) :=
 ⟨fun h1 h2=>⟨(h.a h1 h2).1,(h.a h1 h2).2.alloc _ _⟩,fun h1 h2=>(h.c h1 h2).alloc _ _,fun _ _=>⟨⟨_,rfl⟩,Res.lit tag t2 hB e #[u] 1 (by unfold maxLen;omega) rfl⟩,fun h1=>(h.c' h1).alloc _ _,h.cl⟩
theorem Res.app {t:Nat} {v v':Value} {k m:Nat} {ys zs:List Value} {w':World} (h:Res B tag t w e v k ys) (hB:B<=w.heap.size) (ho:Own w' e 1 v' m zs) (hg:∀ g,v'.ownBlock=some g->v.ownBlock=some g\/g=w.heap.size):Res B (retag tag w.heap.size t) t w' e v' m zs :=
 ⟨ho,fun g k=>by
  unfold retag
  rcases hg g k with k | k
  ·have:=h.1.lt k
   rw [if_neg (by omega)];exact h.2 g k
  ·rw [if_pos k];exact ⟨rfl,by omega⟩⟩
theorem RowInv.stepC (h:RowInv B tag t1 t2 e n xs u A C A' C' vA vC vA' vC' w) (hA:A=true) (hC:C=false) (ht:t1≠t2) (hB:B<=w.heap.size) {v':Value} {w':World}
 (ho:Own w' e 1 v' n xs) (hb:But (fun b=>vA.ownBlock=some b) w w') (hg:∀ g,v'.ownBlock=some g->vA.ownBlock=some g\/g=w.heap.size) :
 RowInv B (retag tag w.heap.size t1) t1 t2 e n xs u A true A' C' vA v' vA' vC' w':=by
 have hC':C'=false:=by
  cases C' with
  | false=>rfl
  | true=>have:=h.cl rfl;rw [hC] at this;exact this.symm
 subst hA;subst hC;subst hC'
 exact ⟨fun _ h2=>Bool.noConfusion h2,fun _ _=>(h.a rfl rfl).2.app hB ho hg,
  fun h1 h2=>⟨(h.a' h1 h2).1,(h.a' h1 h2).2.but hb (fun g k=>by rw [((h.a rfl rfl).2.2 g k).1];exact ht) t1⟩,fun h1=>Bool.noConfusion h1,fun h1=>Bool.noConfusion h1⟩
theorem RowInv.stepC' (h:RowInv B tag t1 t2 e n xs u A C A' C' vA vC vA' vC' w) (hC:C=true) (hC':C'=false) (hB:B<=w.heap.size) {v':Value} {w':World}
 (ho:Own w' e 1 v' (n+1) (xs++[u])) (hg:∀ g,v'.ownBlock=some g->vC.ownBlock=some g\/g=w.heap.size) :
 RowInv B (retag tag w.heap.size t1) t1 t2 e n xs u A C A' true vA vC vA' v' w':=by
 subst hC;subst hC'
 exact ⟨fun _ h2=>Bool.noConfusion h2,fun _ h2=>Bool.noConfusion h2,fun _ h2=>Bool.noConfusion h2,fun _=>(h.c rfl rfl).app hB ho hg,fun _=>rfl⟩
end
theorem Own.src1 {w:World} {e:TypeId} {g:Nat} {u:Value} (h:Own w e 1 (.slice (some ⟨g,0,none⟩) 1 1) 1 [u]) (hu:u.oneCell'=true):SrcSl 1 (.slice (some ⟨g,0,none⟩) 1 1) 1 [u] w:=by
 obtain ⟨_,⟨h0,_⟩ | ⟨g',cap,cur,hv,_,hg,hnc,_,hcs,htk⟩⟩:=h
 ·cases h0
 ·simp only [Value.slice.injEq,Option.some.injEq,Addr.mk.injEq] at hv
  obtain ⟨⟨rfl,_,_⟩,_,rfl⟩:=hv
  refine ⟨rfl,by simpa using hu,.inl ⟨_,_,rfl,fun j v hj=>?_⟩⟩
  cases j with
  | zero =>
    simp at hj;subst hj
    have h1:cur.toList[0]? = some u:=by
     have:(cur.toList.take 1)[0]? = some u:=by rw [htk];rfl
     rwa [List.getElem?_take,if_pos (by omega)] at this
    rw [show ((⟨g,0,none⟩:Addr).add 0)=⟨g,0,none⟩ from rfl]
    unfold World.cell?
    rw [hg]
    simpa using h1
  | succ j=>simp at hj

theorem Tryz.infoInt2:(Tryz.prog.info? 3).map (fun i=>(i.zero,i.size,i.bytes))=some (some (.int .i64 0),1,8):=by kernel_rfl
theorem Tryz.infoStr2:(Tryz.prog.info? 9).map (fun i=>(i.zero,i.size,i.bytes))=some (some (str []),1,16):=by kernel_rfl
def WithPost (n m:Nat) (xs ys:List Value) (s:Bs) (p:Int) (w:World) (en:Ending) (w':World):Prop :=
 ∃ a1 c1 a2 c2,en=.returned (.agg #[.slice a1 (n+1) c1,.slice a2 (m+1) c2])/\Below w.heap.size w w'/\Own w' 9 1 (.slice a1 (n+1) c1) (n+1) (xs++[str s])/\Own w' 3 1 (.slice a2 (m+1) c2) (m+1) (ys++[.int .i64 p]) /\
   (∀ g,(Value.slice a1 (n+1) c1).ownBlock=some g->w.heap.size<=g)/\(∀ g,(Value.slice a2 (m+1) c2).ownBlock=some g->w.heap.size<=g)
structure WI (n m:Nat) (mv pt:Value) (xs ys:List Value) (s:Bs) (p:Int) (w W0:World) (b:Nat->Bool) (t7 t8 t9 t10 t11 t12 t13 t14 t15 t16 t17 t18 t19 t20 t21:Value) (tag:Nat->Nat) (wr:World):Prop where
 f1:b 1=true->t8=.pointer (some ⟨w.heap.size,0,none⟩)
 f2:b 2=true->t9=mv
 f4:b 4=true->t11=str s
 f8:b 8=true->t15=.pointer (some ⟨w.heap.size,1,none⟩)
 f9:b 9=true->t16=pt
 f11:b 11=true->t18=.int .i64 p
 f14:b 14=true->t21=.agg #[t13,t20]
 g14:b 14=true->b 6=true/\b 13=true
 g15:b 15=true->∀ k,k<15->b k=true
 r1:RowInv W0.heap.size tag 1 2 9 n xs (str s) (b 0) (b 3) (b 5) (b 6) t7 t10 t12 t13 wr
 r2:RowInv W0.heap.size tag 3 4 3 m ys (.int .i64 p) (b 7) (b 10) (b 12) (b 13) t14 t17 t19 t20 wr
 w0:b 15=false->Below W0.heap.size W0 wr
 w1:b 15=true->But (· = w.heap.size+1) W0 wr/\wr.heap[w.heap.size+1]? = some (.cells #[t13,t20] 33 (0,0))
theorem WI.not15 {n m:Nat} {mv pt:Value} {xs ys:List Value} {s:Bs} {p:Int} {w W0:World} {b:Nat->Bool} {t7 t8 t9 t10 t11 t12 t13 t14 t15 t16 t17 t18 t19 t20 t21:Value} {tag:Nat->Nat} {wr:World} (h:WI n m mv pt xs ys s p w W0 b t7 t8 t9 t10 t11 t12 t13 t14 t15 t16 t17 t18 t19 t20 t21 tag wr) {i:Nat} (hi:i<15) (hb:b i=false):b 15=false:=by
 cases h15:b 15 with
 | false=>rfl
 | true=>have:=h.g15 h15 i hi;rw [hb] at this;exact this.symm
def actW (mv pt:Value) (s:Bs) (p:Int) (B:Nat) (t7 t8 t9 t10 t11 t12 t13 t14 t15 t16 t17 t18 t19 t20 t21:Value):Act :=
 { tmps:=#[.agg #[mv,pt],str s,.int .i64 p,.pointer (some ⟨B,0,none⟩),undef,undef,.pointer (some ⟨B+1,0,none⟩),t7,t8,t9,t10,t11,t12,t13,t14,t15,t16,t17,t18,t19,t20,t21],defers:=[] }
def WIA (n m:Nat) (mv pt:Value) (xs ys:List Value) (s:Bs) (p:Int) (w W0:World) (b:Nat->Bool) (a:Act) (wr:World):Prop :=
 ∃ t7 t8 t9 t10 t11 t12 t13 t14 t15 t16 t17 t18 t19 t20 t21 tag,a=actW mv pt s p w.heap.size t7 t8 t9 t10 t11 t12 t13 t14 t15 t16 t17 t18 t19 t20 t21/\WI n m mv pt xs ys s p w W0 b t7 t8 t9 t10 t11 t12 t13 t14 t15 t16 t17 t18 t19 t20 t21 tag wr
set_option maxRecDepth 100000 in
theorem l2With_any (n m:Nat) (mv pt:Value) (xs ys:List Value) (s:Bs) (p:Int) (w:World) (hx:SrcSl 1 mv n xs w) (hy:SrcSl 1 pt m ys w) (hn:n<=1000000) (hm:m<=1000000) :
 Calls Tryz.prog 126 #[.agg #[mv,pt],str s,.int .i64 p] w (WithPost n m xs ys s p w):=by
 obtain ⟨ma,mc,rfl⟩:=hx.slice1
 obtain ⟨pa,pc,rfl⟩:=hy.slice1
 have HX:=Lib.hid hx;have HY:=Lib.hid hy;clear hx hy
 go_enter Tryz.func126,Tryz.ntmps126
 go_wp2_with fail
 rename_i K0 hK0
 obtain ⟨W0,hW0⟩:=zzN ((w.alloc (.cells #[.slice ma n mc,.slice pa m pc] 33)).alloc (.cells #[.slice none 0 0,.slice none 0 0] 33))
 rw [hW0]
 have z0:W0.heap.size=w.heap.size+1+1:=by rw [<- hW0];simp
 have hb0:Below w.heap.size w W0:=by rw [<- hW0];exact ((Below.refl _ _).alloc (Nat.le_refl _) _).alloc (by rw [size_alloc];omega) _
 have c0:W0.cell? ⟨w.heap.size,0,none⟩=some (.slice ma n mc):=by rw [<- hW0];simp
 have c1:W0.cell? ⟨w.heap.size,1,none⟩=some (.slice pa m pc):=by rw [<- hW0];simp
 have h6:W0.heap[w.heap.size+1]? = some (.cells #[.slice none 0 0,.slice none 0 0] 33 (0,0)):=by rw [<- hW0];have:=heap_new (w.alloc (.cells #[.slice ma n mc,.slice pa m pc] 33)) (.cells #[.slice none 0 0,.slice none 0 0] 33);rwa [size_alloc] at this
 clear hW0
 refine wp_region_any (by kernel_rfl) ?_
 refine wpAny_inv (I:=WIA n m (.slice ma n mc) (.slice pa m pc) xs ys s p w W0) ?acy ?step ?done _ _ _ _ rfl ?cnt ?start
 case cnt=>decide
 case acy=>exact acy_of (by kernel_rfl)
 case start =>
  refine ⟨undef,undef,undef,undef,undef,undef,undef,undef,undef,undef,undef,undef,undef,undef,undef,fun _=>0,rfl,?_⟩
  have hf:∀ k,lsOf (Array.replicate 16 false) k=false:=fun k=>by
   unfold lsOf
   rw [Array.getD_eq_getD_getElem?,Array.getElem?_replicate]
   split <;> rfl
  have key:∀ b:Nat->Bool,(∀ k,b k=false)->WI n m (.slice ma n mc) (.slice pa m pc) xs ys s p w W0 b undef undef undef undef undef undef undef undef undef undef undef undef undef undef undef (fun _=>0) W0.drew:=by
   intro b hf
   refine { f1:=fun h=>?_,f2:=fun h=>?_,f4:=fun h=>?_,f8:=fun h=>?_,f9:=fun h=>?_,f11:=fun h=>?_,f14:=fun h=>?_,g14:=fun h=>?_,g15:=fun h=>?_,r1:=?_,r2:=?_,w0:=fun _=>(Below.refl _ _).drew,w1:=fun h=>?_ }
   case refine_10=>rw [hf,hf,hf,hf];exact RowInv.start _ _ _ _ _ _ _ _ _ _ _ _ _
   case refine_11=>rw [hf,hf,hf,hf];exact RowInv.start _ _ _ _ _ _ _ _ _ _ _ _ _
   all_goals (rw [hf] at h;cases h)
  exact key _ hf
 case done =>
  rintro b a wr hall ⟨t7,t8,t9,t10,t11,t12,t13,t14,t15,t16,t17,t18,t19,t20,t21,tag,rfl,hI⟩
  obtain ⟨hbt,hst⟩:=hI.w1 (hall 15 (by decide))
  have R1:=hI.r1.c' (hall 6 (by decide))
  have R2:=hI.r2.c' (hall 13 (by decide))
  obtain ⟨a13,k13,e13⟩:=R1.1.slice
  obtain ⟨a20,k20,e20⟩:=R2.1.slice
  subst e13;subst e20
  obtain ⟨u0,u1,_,_⟩:=cells2 hst
  refine hK0 _ _ ?_
  clear hK0
  unfold actW
  have HF:=Lib.hid (And.intro hbt (And.intro R1 R2));clear hbt R1 R2 hI hst
  go_wp2_with fail
  refine bodyPost_ret (v:=.agg #[.slice a13 (n+1) k13,.slice a20 (m+1) k20]) (by simp [results,Tryz.results126,go_sem,u0,u1]) rfl ?_
  obtain ⟨hbt,R1,R2⟩:=HF.out
  exact ⟨a13,k13,a20,k20,rfl,hb0.trans (hbt.toBelow (by omega) fun i hi e=>by omega),R1.1,R2.1,fun g hg=>by have:=(R1.2 g hg).2;omega,fun g hg=>by have:=(R2.2 g hg).2;omega⟩
 case step =>
  rintro b a wr i o ho hb hpre ⟨t7,t8,t9,t10,t11,t12,t13,t14,t15,t16,t17,t18,t19,t20,t21,tag,rfl,hI⟩ K' hK
  unfold actW at *
  rcases i with _ | _ | _ | _ | _ | _ | _ | _ | _ | _ | _ | _ | _ | _ | _ | _ | i
  ·simp at ho;subst ho
   have h15:=hI.not15 (i:=0) (by omega) hb
   have hB:W0.heap.size<=wr.heap.size:=(hI.w0 h15).size
   go_simp
   exact hK _ _ ⟨.slice (some ⟨wr.heap.size,0,none⟩) 0 0,t8,t9,t10,t11,t12,t13,t14,t15,t16,t17,t18,t19,t20,t21,retag tag wr.heap.size 1,rfl,{ f1:=hI.f1,f2:=hI.f2,f4:=hI.f4,f8:=hI.f8,f9:=hI.f9,f11:=hI.f11,f14:=hI.f14,g14:=hI.g14,g15:=fun h=>absurd h (by rw [show set1 b 0 15=b 15 from rfl,h15];decide),r1:=hI.r1.stepA hB,r2:=hI.r2.alloc _ 1,w0:=fun _=>(hI.w0 h15).alloc hB _,w1:=fun h=>absurd h (by rw [show set1 b 0 15=b 15 from rfl,h15];decide) }⟩
  ·simp at ho;subst ho
   have h15:=hI.not15 (i:=1) (by omega) hb
   have hB:W0.heap.size<=wr.heap.size:=(hI.w0 h15).size
   go_simp
   exact hK _ _ ⟨t7,.pointer (some ⟨w.heap.size,0,none⟩),t9,t10,t11,t12,t13,t14,t15,t16,t17,t18,t19,t20,t21,tag,rfl,{ f1:=fun _=>rfl,f2:=hI.f2,f4:=hI.f4,f8:=hI.f8,f9:=hI.f9,f11:=hI.f11,f14:=hI.f14,g14:=hI.g14,g15:=fun h=>absurd h (by rw [show set1 b 1 15=b 15 from rfl,h15];decide),r1:=hI.r1,r2:=hI.r2,w0:=fun _=>hI.w0 h15,w1:=fun h=>absurd h (by rw [show set1 b 1 15=b 15 from rfl,h15];decide) }⟩
  ·simp at ho;subst ho
   simp [Region.binds] at hpre
   have h15:=hI.not15 (i:=2) (by omega) hb
   have hB:W0.heap.size<=wr.heap.size:=(hI.w0 h15).size
   have q8:=hI.f1 hpre
   have q0:wr.cell? ⟨w.heap.size,0,none⟩=some (.slice ma n mc):=((hI.w0 h15).cell (p:=⟨w.heap.size,0,none⟩) (by rw [z0];show w.heap.size<_;omega)).trans c0
   go_simp
   exact hK _ _ ⟨t7,.pointer (some ⟨w.heap.size,0,none⟩),.slice ma n mc,t10,t11,t12,t13,t14,t15,t16,t17,t18,t19,t20,t21,tag,rfl,{ f1:=fun _=>rfl,f2:=fun _=>rfl,f4:=hI.f4,f8:=hI.f8,f9:=hI.f9,f11:=hI.f11,f14:=hI.f14,g14:=hI.g14,g15:=fun h=>absurd h (by rw [show set1 b 2 15=b 15 from rfl,h15];decide),r1:=hI.r1,r2:=hI.r2,w0:=fun _=>hI.w0 h15,w1:=fun h=>absurd h (by rw [show set1 b 2 15=b 15 from rfl,h15];decide) }⟩
  ·simp at ho;subst ho
   simp [Region.binds] at hpre
   have h15:=hI.not15 (i:=3) (by omega) hb
   have hB:W0.heap.size<=wr.heap.size:=(hI.w0 h15).size
   obtain ⟨⟨g,e7⟩,hres⟩:=hI.r1.a hpre.1 hb
   have hres2:=hres
   rw [e7] at hres2
   have q9:=hI.f2 hpre.2
   refine step_append_gen (by rfl) (.tmp 7) (.tmp 9) 30 (by rfl) 9 (str []) 1 16 Tryz.underlying30 Tryz.infoStr2 rfl (by decide) (.slice (some ⟨g,0,none⟩) 0 0) 0 [] e7 hres2.1 (.slice ma n mc) n xs q9 ((HX.out.belowAll hb0 (Nat.le_refl _)).belowAll (hI.w0 h15) (Nat.le_refl _)) (by unfold maxLen;omega) (by omega) ?_
   intro a' c' w' ho hbt hg
   rw [<- e7] at hbt hg
   simp only [Nat.zero_add,List.nil_append] at ho hg ⊢
   exact hK _ _ ⟨t7,t8,t9,.slice a' n c',t11,t12,t13,t14,t15,t16,t17,t18,t19,t20,t21,retag tag wr.heap.size 1,rfl,{ f1:=hI.f1,f2:=hI.f2,f4:=hI.f4,f8:=hI.f8,f9:=hI.f9,f11:=hI.f11,f14:=hI.f14,g14:=hI.g14,g15:=fun h=>absurd h (by rw [show set1 b 3 15=b 15 from rfl,h15];decide),r1:=hI.r1.stepC hpre.1 hb (by decide) hB ho hbt hg,r2:=hI.r2.but hbt (fun k e=>by rw [(hres.2 k e).1];decide) 1,w0:=fun _=>(hI.w0 h15).trans (hbt.toBelow hB fun k hk e=>by have:=(hres.2 k e).2;omega),w1:=fun h=>absurd h (by rw [show set1 b 3 15=b 15 from rfl,h15];decide) }⟩
  ·simp at ho;subst ho
   have h15:=hI.not15 (i:=4) (by omega) hb
   have hB:W0.heap.size<=wr.heap.size:=(hI.w0 h15).size
   go_simp
   exact hK _ _ ⟨t7,t8,t9,t10,str s,t12,t13,t14,t15,t16,t17,t18,t19,t20,t21,tag,rfl,{ f1:=hI.f1,f2:=hI.f2,f4:=fun _=>rfl,f8:=hI.f8,f9:=hI.f9,f11:=hI.f11,f14:=hI.f14,g14:=hI.g14,g15:=fun h=>absurd h (by rw [show set1 b 4 15=b 15 from rfl,h15];decide),r1:=hI.r1,r2:=hI.r2,w0:=fun _=>hI.w0 h15,w1:=fun h=>absurd h (by rw [show set1 b 4 15=b 15 from rfl,h15];decide) }⟩
  ·simp at ho;subst ho
   simp [Region.binds] at hpre
   have h15:=hI.not15 (i:=5) (by omega) hb
   have hB:W0.heap.size<=wr.heap.size:=(hI.w0 h15).size
   have q11:=hI.f4 hpre
   go_simp
   exact hK _ _ ⟨t7,t8,t9,t10,str s,.slice (some ⟨wr.heap.size,0,none⟩) 1 1,t13,t14,t15,t16,t17,t18,t19,t20,t21,retag tag wr.heap.size 2,rfl,{ f1:=hI.f1,f2:=hI.f2,f4:=fun _=>rfl,f8:=hI.f8,f9:=hI.f9,f11:=hI.f11,f14:=hI.f14,g14:=hI.g14,g15:=fun h=>absurd h (by rw [show set1 b 5 15=b 15 from rfl,h15];decide),r1:=hI.r1.stepA' hB,r2:=hI.r2.alloc _ 2,w0:=fun _=>(hI.w0 h15).alloc hB _,w1:=fun h=>absurd h (by rw [show set1 b 5 15=b 15 from rfl,h15];decide) }⟩
  ·simp at ho;subst ho
   simp [Region.binds] at hpre
   have h15:=hI.not15 (i:=6) (by omega) hb
   have hB:W0.heap.size<=wr.heap.size:=(hI.w0 h15).size
   have hres:=hI.r1.c hpre.1 hb
   obtain ⟨⟨g,e12⟩,hres12⟩:=hI.r1.a' hpre.2.1 hb
   rw [e12] at hres12
   refine step_append_gen (by rfl) (.tmp 10) (.tmp 12) 30 (by rfl) 9 (str []) 1 16 Tryz.underlying30 Tryz.infoStr2 rfl (by decide) t10 n xs rfl hres.1 (.slice (some ⟨g,0,none⟩) 1 1) 1 [str s] e12 (hres12.1.src1 (by simp [Value.oneCell'])) (by unfold maxLen;omega) (by omega) ?_
   intro a' c' w' ho hbt hg
   exact hK _ _ ⟨t7,t8,t9,t10,t11,t12,.slice a' (n+1) c',t14,t15,t16,t17,t18,t19,t20,t21,retag tag wr.heap.size 1,rfl,{ f1:=hI.f1,f2:=hI.f2,f4:=hI.f4,f8:=hI.f8,f9:=hI.f9,f11:=hI.f11,f14:=fun h=>absurd (hI.g14 h).1 (by rw [hb];decide),g14:=fun h=>⟨rfl,(hI.g14 h).2⟩,g15:=fun h=>absurd h (by rw [show set1 b 6 15=b 15 from rfl,h15];decide),r1:=hI.r1.stepC' hpre.1 hb hB ho hg,r2:=hI.r2.but hbt (fun k e=>by rw [(hres.2 k e).1];decide) 1,w0:=fun _=>(hI.w0 h15).trans (hbt.toBelow hB fun k hk e=>by have:=(hres.2 k e).2;omega),w1:=fun h=>absurd h (by rw [show set1 b 6 15=b 15 from rfl,h15];decide) }⟩
  ·simp at ho;subst ho
   have h15:=hI.not15 (i:=7) (by omega) hb
   have hB:W0.heap.size<=wr.heap.size:=(hI.w0 h15).size
   go_simp
   exact hK _ _ ⟨t7,t8,t9,t10,t11,t12,t13,.slice (some ⟨wr.heap.size,0,none⟩) 0 0,t15,t16,t17,t18,t19,t20,t21,retag tag wr.heap.size 3,rfl,{ f1:=hI.f1,f2:=hI.f2,f4:=hI.f4,f8:=hI.f8,f9:=hI.f9,f11:=hI.f11,f14:=hI.f14,g14:=hI.g14,g15:=fun h=>absurd h (by rw [show set1 b 7 15=b 15 from rfl,h15];decide),r1:=hI.r1.alloc _ 3,r2:=hI.r2.stepA hB,w0:=fun _=>(hI.w0 h15).alloc hB _,w1:=fun h=>absurd h (by rw [show set1 b 7 15=b 15 from rfl,h15];decide) }⟩
  ·simp at ho;subst ho
   have h15:=hI.not15 (i:=8) (by omega) hb
   have hB:W0.heap.size<=wr.heap.size:=(hI.w0 h15).size
   go_simp
   exact hK _ _ ⟨t7,t8,t9,t10,t11,t12,t13,t14,.pointer (some ⟨w.heap.size,1,none⟩),t16,t17,t18,t19,t20,t21,tag,rfl,{ f1:=hI.f1,f2:=hI.f2,f4:=hI.f4,f8:=fun _=>rfl,f9:=hI.f9,f11:=hI.f11,f14:=hI.f14,g14:=hI.g14,g15:=fun h=>absurd h (by rw [show set1 b 8 15=b 15 from rfl,h15];decide),r1:=hI.r1,r2:=hI.r2,w0:=fun _=>hI.w0 h15,w1:=fun h=>absurd h (by rw [show set1 b 8 15=b 15 from rfl,h15];decide) }⟩
  ·simp at ho;subst ho
   simp [Region.binds] at hpre
   have h15:=hI.not15 (i:=9) (by omega) hb
   have hB:W0.heap.size<=wr.heap.size:=(hI.w0 h15).size
   have q8:=hI.f8 hpre
   have q0:wr.cell? ⟨w.heap.size,1,none⟩=some (.slice pa m pc):=((hI.w0 h15).cell (p:=⟨w.heap.size,1,none⟩) (by rw [z0];show w.heap.size<_;omega)).trans c1
   go_simp
   exact hK _ _ ⟨t7,t8,t9,t10,t11,t12,t13,t14,.pointer (some ⟨w.heap.size,1,none⟩),.slice pa m pc,t17,t18,t19,t20,t21,tag,rfl,{ f1:=hI.f1,f2:=hI.f2,f4:=hI.f4,f8:=fun _=>rfl,f9:=fun _=>rfl,f11:=hI.f11,f14:=hI.f14,g14:=hI.g14,g15:=fun h=>absurd h (by rw [show set1 b 9 15=b 15 from rfl,h15];decide),r1:=hI.r1,r2:=hI.r2,w0:=fun _=>hI.w0 h15,w1:=fun h=>absurd h (by rw [show set1 b 9 15=b 15 from rfl,h15];decide) }⟩
  ·simp at ho;subst ho
   simp [Region.binds] at hpre
   have h15:=hI.not15 (i:=10) (by omega) hb
   have hB:W0.heap.size<=wr.heap.size:=(hI.w0 h15).size
   obtain ⟨⟨g,e7⟩,hres⟩:=hI.r2.a hpre.1 hb
   have hres2:=hres
   rw [e7] at hres2
   have q9:=hI.f9 hpre.2.1
   refine step_append_gen (by rfl) (.tmp 14) (.tmp 16) 31 (by rfl) 3 (.int .i64 0) 1 8 Tryz.underlying31 Tryz.infoInt2 rfl (by decide) (.slice (some ⟨g,0,none⟩) 0 0) 0 [] e7 hres2.1 (.slice pa m pc) m ys q9 ((HY.out.belowAll hb0 (Nat.le_refl _)).belowAll (hI.w0 h15) (Nat.le_refl _)) (by unfold maxLen;omega) (by omega) ?_
   intro a' c' w' ho hbt hg
   rw [<- e7] at hbt hg
   simp only [Nat.zero_add,List.nil_append] at ho hg ⊢
   exact hK _ _ ⟨t7,t8,t9,t10,t11,t12,t13,t14,t15,t16,.slice a' m c',t18,t19,t20,t21,retag tag wr.heap.size 3,rfl,{ f1:=hI.f1,f2:=hI.f2,f4:=hI.f4,f8:=hI.f8,f9:=hI.f9,f11:=hI.f11,f14:=hI.f14,g14:=hI.g14,g15:=fun h=>absurd h (by rw [show set1 b 10 15=b 15 from rfl,h15];decide),r1:=hI.r1.but hbt (fun k e=>by rw [(hres.2 k e).1];decide) 3,r2:=hI.r2.stepC hpre.1 hb (by decide) hB ho hbt hg,w0:=fun _=>(hI.w0 h15).trans (hbt.toBelow hB fun k hk e=>by have:=(hres.2 k e).2;omega),w1:=fun h=>absurd h (by rw [show set1 b 10 15=b 15 from rfl,h15];decide) }⟩
  ·simp at ho;subst ho
   have h15:=hI.not15 (i:=11) (by omega) hb
   have hB:W0.heap.size<=wr.heap.size:=(hI.w0 h15).size
   go_simp
   exact hK _ _ ⟨t7,t8,t9,t10,t11,t12,t13,t14,t15,t16,t17,.int .i64 p,t19,t20,t21,tag,rfl,{ f1:=hI.f1,f2:=hI.f2,f4:=hI.f4,f8:=hI.f8,f9:=hI.f9,f11:=fun _=>rfl,f14:=hI.f14,g14:=hI.g14,g15:=fun h=>absurd h (by rw [show set1 b 11 15=b 15 from rfl,h15];decide),r1:=hI.r1,r2:=hI.r2,w0:=fun _=>hI.w0 h15,w1:=fun h=>absurd h (by rw [show set1 b 11 15=b 15 from rfl,h15];decide) }⟩
  ·simp at ho;subst ho
   simp [Region.binds] at hpre
   have h15:=hI.not15 (i:=12) (by omega) hb
   have hB:W0.heap.size<=wr.heap.size:=(hI.w0 h15).size
   have q11:=hI.f11 hpre
   go_simp
   exact hK _ _ ⟨t7,t8,t9,t10,t11,t12,t13,t14,t15,t16,t17,.int .i64 p,.slice (some ⟨wr.heap.size,0,none⟩) 1 1,t20,t21,retag tag wr.heap.size 4,rfl,{ f1:=hI.f1,f2:=hI.f2,f4:=hI.f4,f8:=hI.f8,f9:=hI.f9,f11:=fun _=>rfl,f14:=hI.f14,g14:=hI.g14,g15:=fun h=>absurd h (by rw [show set1 b 12 15=b 15 from rfl,h15];decide),r1:=hI.r1.alloc _ 4,r2:=hI.r2.stepA' hB,w0:=fun _=>(hI.w0 h15).alloc hB _,w1:=fun h=>absurd h (by rw [show set1 b 12 15=b 15 from rfl,h15];decide) }⟩
  ·simp at ho;subst ho
   simp [Region.binds] at hpre
   have h15:=hI.not15 (i:=13) (by omega) hb
   have hB:W0.heap.size<=wr.heap.size:=(hI.w0 h15).size
   have hres:=hI.r2.c hpre.1 hb
   obtain ⟨⟨g,e12⟩,hres12⟩:=hI.r2.a' hpre.2.1 hb
   rw [e12] at hres12
   refine step_append_gen (by rfl) (.tmp 17) (.tmp 19) 31 (by rfl) 3 (.int .i64 0) 1 8 Tryz.underlying31 Tryz.infoInt2 rfl (by decide) t17 m ys rfl hres.1 (.slice (some ⟨g,0,none⟩) 1 1) 1 [.int .i64 p] e12 (hres12.1.src1 (by simp [Value.oneCell'])) (by unfold maxLen;omega) (by omega) ?_
   intro a' c' w' ho hbt hg
   exact hK _ _ ⟨t7,t8,t9,t10,t11,t12,t13,t14,t15,t16,t17,t18,t19,.slice a' (m+1) c',t21,retag tag wr.heap.size 3,rfl,{ f1:=hI.f1,f2:=hI.f2,f4:=hI.f4,f8:=hI.f8,f9:=hI.f9,f11:=hI.f11,f14:=fun h=>absurd (hI.g14 h).2 (by rw [hb];decide),g14:=fun h=>⟨(hI.g14 h).1,rfl⟩,g15:=fun h=>absurd h (by rw [show set1 b 13 15=b 15 from rfl,h15];decide),r1:=hI.r1.but hbt (fun k e=>by rw [(hres.2 k e).1];decide) 3,r2:=hI.r2.stepC' hpre.1 hb hB ho hg,w0:=fun _=>(hI.w0 h15).trans (hbt.toBelow hB fun k hk e=>by have:=(hres.2 k e).2;omega),w1:=fun h=>absurd h (by rw [show set1 b 13 15=b 15 from rfl,h15];decide) }⟩
  ·simp at ho;subst ho
   simp [Region.binds] at hpre
   have h15:=hI.not15 (i:=14) (by omega) hb
   have hB:W0.heap.size<=wr.heap.size:=(hI.w0 h15).size
   obtain ⟨a13,k13,e13⟩:=(hI.r1.c' hpre.1).1.slice
   obtain ⟨a20,k20,e20⟩:=(hI.r2.c' hpre.2).1.slice
   subst e13
   subst e20
   go_simp
   exact hK _ _ ⟨t7,t8,t9,t10,t11,t12,.slice a13 (n+1) k13,t14,t15,t16,t17,t18,t19,.slice a20 (m+1) k20,.agg #[.slice a13 (n+1) k13,.slice a20 (m+1) k20],tag,rfl,{ f1:=hI.f1,f2:=hI.f2,f4:=hI.f4,f8:=hI.f8,f9:=hI.f9,f11:=hI.f11,f14:=fun _=>rfl,g14:=fun _=>⟨hpre.1,hpre.2⟩,g15:=fun h=>absurd h (by rw [show set1 b 14 15=b 15 from rfl,h15];decide),r1:=hI.r1,r2:=hI.r2,w0:=fun _=>hI.w0 h15,w1:=fun h=>absurd h (by rw [show set1 b 14 15=b 15 from rfl,h15];decide) }⟩
  ·simp at ho;subst ho
   simp [Region.binds] at hpre
   obtain ⟨a13,k13,e13⟩:=(hI.r1.c' (hI.g14 hpre.1).1).1.slice
   have hall:∀ k,k<15->b k=true:=fun k hk=>by
    obtain ⟨p14,p0⟩:=hpre
    rcases (by omega:k=0\/k=1\/k=2\/k=3\/k=4\/k=5\/k=6\/k=7\/k=8\/k=9\/k=10\/k=11\/k=12\/k=13\/k=14) with rfl | rfl | rfl | rfl | rfl | rfl | rfl | rfl | rfl | rfl | rfl | rfl | rfl | rfl | rfl <;> simp [*]
   obtain ⟨a20,k20,e20⟩:=(hI.r2.c' (hI.g14 hpre.1).2).1.slice
   subst e13;subst e20
   have q21:=hI.f14 hpre.1
   have hblk:wr.heap[w.heap.size+1]? = some (.cells #[.slice none 0 0,.slice none 0 0] 33 (0,0)):=by rw [(hI.w0 hb).block _ (by omega)];exact h6
   obtain ⟨u0,u1,v0,v1⟩:=cells2 hblk
   have hbW:=hI.w0 hb
   have hst:=setc_at (o:=1) (u:=.slice a20 (m+1) k20) (setc_at (o:=0) (u:=.slice a13 (n+1) k13) hblk)
   go_simp
   have hbt:But (· = w.heap.size+1) wr ((wr.setCell ⟨w.heap.size+1,0,none⟩ (.slice a13 (n+1) k13)).setCell ⟨w.heap.size+1,1,none⟩ (.slice a20 (m+1) k20)):=((But.refl (· = w.heap.size+1) wr).setCell (p:=⟨w.heap.size+1,0,none⟩) (.inl rfl) _).setCell (p:=⟨w.heap.size+1,1,none⟩) (.inl rfl) _
   exact hK _ _ ⟨t7,t8,t9,t10,t11,t12,.slice a13 (n+1) k13,t14,t15,t16,t17,t18,t19,.slice a20 (m+1) k20,.agg #[.slice a13 (n+1) k13,.slice a20 (m+1) k20],tag,rfl,{ f1:=hI.f1,f2:=hI.f2,f4:=hI.f4,f8:=hI.f8,f9:=hI.f9,f11:=hI.f11,f14:=fun _=>rfl,g14:=hI.g14,g15:=fun _ k hk=>by rw [show set1 b 15 k=b k from if_neg (by omega)];exact hall k hk,r1:=hI.r1.low hbt (fun k e=>by omega),r2:=hI.r2.low hbt (fun k e=>by omega),w0:=fun h=>Bool.noConfusion (show true=false from h),w1:=fun _=>⟨(But.ofBelow hbW).trans hbt,hst⟩ }⟩
  ·simp at ho
def RnK (w:World) (ra:Nat) (mv pt:Value) (moves most:Nat) (bad:Bool):Prop:=w.heap[ra]? = some (.cells #[mv,pt,.int .i64 (moves:Nat),.int .i64 (most:Nat),.bool true,.bool bad] 103 (0,0))
theorem RnK.cells {w:World} {ra:Nat} {mv pt:Value} {moves most:Nat} {bad:Bool} (h:RnK w ra mv pt moves most bad):w.cell? ⟨ra,0,none⟩=some mv/\w.cell? ⟨ra,1,none⟩=some pt/\w.cell? ⟨ra,2,none⟩=some (.int .i64 (moves:Nat))/\w.cell? ⟨ra,3,none⟩=some (.int .i64 (most:Nat))/\w.cell? ⟨ra,4,none⟩=some (.bool true)/\w.cell? ⟨ra,5,none⟩=some (.bool bad) /\
 w.frozen? ⟨ra,0,none⟩=false/\w.frozen? ⟨ra,1,none⟩=false/\w.frozen? ⟨ra,2,none⟩=false/\w.frozen? ⟨ra,5,none⟩=false:=by
 unfold RnK at h
 exact ⟨by simp [World.cell?,h],by simp [World.cell?,h],by simp [World.cell?,h],by simp [World.cell?,h],by simp [World.cell?,h],by simp [World.cell?,h],by simp [World.frozen?,h],by simp [World.frozen?,h],by simp [World.frozen?,h],by simp [World.frozen?,h]⟩
def PlayAt (w:World) (log:List (Bs×Int)) (mv pt:Value):Prop:=Own w 9 1 mv log.length (logM log)/\Own w 3 1 pt log.length (logP log)
theorem PlayAt.below {w w':World} {log:List (Bs×Int)} {mv pt:Value} (h:PlayAt w log mv pt) (hb:Below w.heap.size w w'):PlayAt w' log mv pt :=
 ⟨h.1.keep fun g o hg ho=>by rw [hb.block g (lt_of_heap ho)];exact ho,h.2.keep fun g o hg ho=>by rw [hb.block g (lt_of_heap ho)];exact ho⟩
theorem PlayAt.but {w w':World} {log:List (Bs×Int)} {mv pt:Value} {m:Nat->Prop} (h:PlayAt w log mv pt) (hb:But m w w') (hm:∀ g,mv.ownBlock=some g\/pt.ownBlock=some g->¬ m g):PlayAt w' log mv pt :=
 ⟨h.1.keep fun g o hg ho=>by rw [hb.block g (lt_of_heap ho) (hm g (.inl hg))];exact ho,h.2.keep fun g o hg ho=>by rw [hb.block g (lt_of_heap ho) (hm g (.inr hg))];exact ho⟩
theorem Own.unlike {w:World} {e e':TypeId} {v v':Value} {n n':Nat} {xs ys:List Value} (h:Own w e 1 v n xs) (h':Own w e' 1 v' n' ys) (he:e≠e') {g:Nat} (hg:v.ownBlock=some g):v'.ownBlock≠some g:=by
 intro hg'
 rcases h.2 with ⟨rfl,_⟩ | ⟨b,cap,cur,rfl,_,hb,_⟩
 ·simp [Value.ownBlock] at hg
 ·rcases h'.2 with ⟨rfl,_⟩ | ⟨b',cap',cur',rfl,_,hb',_⟩
  ·simp [Value.ownBlock] at hg'
  ·simp [Value.ownBlock] at hg hg'
   subst hg;subst hg'
   rw [hb] at hb'
   simp at hb'
   exact he hb'.2
theorem playAt_nil (w:World):PlayAt w [] (.slice none 0 0) (.slice none 0 0):=⟨World.ownsRow_nil w 0 _ 1,World.ownsRow_nil w 0 _ 1⟩
def MarkAt (w:World) (n k:Nat) (mv pt:Value):Prop:=Own w 9 1 mv n (marksS k n)/\Own w 3 1 pt n (marksI (k+n) n)
theorem MarkAt.below {w w':World} {n k:Nat} {mv pt:Value} (h:MarkAt w n k mv pt) (hb:Below w.heap.size w w'):MarkAt w' n k mv pt :=
 ⟨h.1.keep fun g o hg ho=>by rw [hb.block g (lt_of_heap ho)];exact ho,h.2.keep fun g o hg ho=>by rw [hb.block g (lt_of_heap ho)];exact ho⟩
def plC (us:List (Value×Value)):List Value:=us.flatMap fun u=>[u.1,u.2]
theorem plC_cons (u:Value×Value) (us:List (Value×Value)):plC (u::us)=u.1::u.2::plC us:=by simp [plC]
theorem plC_append (us vs:List (Value×Value)):plC (us++vs)=plC us++plC vs:=by simp [plC]
theorem plC_length:∀ us:List (Value×Value),(plC us).length=us.length*2
 | []=>rfl
 | u::us=>by rw [plC_cons,List.length_cons,List.length_cons,plC_length us,List.length_cons];omega
theorem plC_at:∀ (us:List (Value×Value)) (i:Nat) (u:Value×Value),us[i]? = some u->(plC us)[i*2]? = some u.1/\(plC us)[i*2+1]? = some u.2
 | [],i,u,h=>by simp at h
 | v::us,0,u,h=>by obtain rfl:v=u:=by simpa using h
                   rw [plC_cons];exact ⟨rfl,rfl⟩
 | v::us,i+1,u,h=>by
   rw [List.getElem?_cons_succ] at h
   have:=plC_at us i u h
   rw [plC_cons,show (i+1)*2=i*2+1+1 from by omega]
   simpa using this
theorem Own.unlikeG {w:World} {e e':TypeId} {sz sz':Nat} {v v':Value} {n n':Nat} {xs ys:List Value} (h:Own w e sz v n xs) (h':Own w e' sz' v' n' ys) (he:e≠e') {g:Nat} (hg:v.ownBlock=some g):v'.ownBlock≠some g:=by
 intro hg'
 rcases h.2 with ⟨rfl,_⟩ | ⟨b,cap,cur,rfl,_,hb,_⟩
 ·simp [Value.ownBlock] at hg
 ·rcases h'.2 with ⟨rfl,_⟩ | ⟨b',cap',cur',rfl,_,hb',_⟩
  ·simp [Value.ownBlock] at hg'
  ·simp [Value.ownBlock] at hg hg'
   subst hg;subst hg'
   rw [hb] at hb'
   simp at hb'
   exact he hb'.2
theorem str_play:(9:TypeId)≠33:=by decide
theorem int_play:(3:TypeId)≠33:=by decide
theorem str_int:(9:TypeId)≠3:=by decide
abbrev Rows2:=List (List Value×List Value)
structure PlsG (w:World) (v:Value) (us:List (Value×Value)) (xs:Rows2):Prop where
 own:Own w 33 2 v us.length (plC us)
 len:us.length=xs.length
 each:∀ (i:Nat) (u:Value×Value) (x:List Value×List Value),us[i]? = some u->xs[i]? = some x->Own w 9 1 u.1 x.1.length x.1/\Own w 3 1 u.2 x.2.length x.2
 apart:∀ (i j:Nat) (u u':Value×Value),i≠j->us[i]? = some u->us[j]? = some u'->∀ g,(u.1.ownBlock=some g->u'.1.ownBlock≠some g)/\(u.2.ownBlock=some g->u'.2.ownBlock≠some g)
def PlB (v:Value) (us:List (Value×Value)) (b:Nat):Prop:=v.ownBlock=some b\/∃ u∈us,u.1.ownBlock=some b\/u.2.ownBlock=some b
theorem PlsG.mem {w:World} {v:Value} {us:List (Value×Value)} {xs:Rows2} (h:PlsG w v us xs) {u:Value×Value} (hu:u∈us):∃ (i:Nat) (x:List Value×List Value),us[i]? = some u/\xs[i]? = some x:=by
 obtain ⟨i,hi⟩:=List.mem_iff_getElem?.1 hu
 have hl:=(List.getElem?_eq_some_iff.1 hi).1
 rw [h.len] at hl
 exact ⟨i,xs[i],hi,List.getElem?_eq_getElem hl⟩
theorem PlsG.lt {w:World} {v:Value} {us:List (Value×Value)} {xs:Rows2} (h:PlsG w v us xs) {b:Nat} (hb:PlB v us b):b<w.heap.size:=by
 rcases hb with hb | ⟨u,hu,hb⟩
 ·exact h.own.lt hb
 ·obtain ⟨i,x,h1,h2⟩:=h.mem hu
  rcases hb with hb | hb
  ·exact (h.each i u x h1 h2).1.lt hb
  ·exact (h.each i u x h1 h2).2.lt hb
theorem PlsG.but {w w':World} {v:Value} {us:List (Value×Value)} {xs:Rows2} {m:Nat->Prop} (h:PlsG w v us xs) (hb:But m w w') (hm:∀ b,PlB v us b->¬ m b):PlsG w' v us xs :=
 ⟨h.own.keep fun g o hg ho=>by rw [hb.block g (lt_of_heap ho) (hm g (.inl hg))];exact ho,h.len,
  fun i u x h1 h2=>by
   have hu:=List.mem_of_getElem? h1
   obtain ⟨k1,k2⟩:=h.each i u x h1 h2
   exact ⟨k1.keep fun g o hg ho=>by rw [hb.block g (lt_of_heap ho) (hm g (.inr ⟨u,hu,.inl hg⟩))];exact ho,k2.keep fun g o hg ho=>by rw [hb.block g (lt_of_heap ho) (hm g (.inr ⟨u,hu,.inr hg⟩))];exact ho⟩,h.apart⟩
theorem PlsG.below {w w':World} {v:Value} {us:List (Value×Value)} {xs:Rows2} (h:PlsG w v us xs) (hb:Below w.heap.size w w'):PlsG w' v us xs :=
 h.but (m:=fun _=>False) (But.ofBelow hb) fun _ _ h=>h
theorem PlsG.nil (w:World):PlsG w (.slice none 0 0) [] [] :=
 ⟨World.ownsRow_nil w 0 _ 2,rfl,fun i u x h=>by simp at h,fun i j u u' _ h=>by simp at h⟩
theorem PlsG.snoc {w w':World} {v v':Value} {us:List (Value×Value)} {xs:Rows2} (h:PlsG w v us xs) {u:Value×Value} {x:List Value×List Value}
 (ho:Own w' 33 2 v' (us.length+1) (plC us++[u.1,u.2])) (hb:But (fun b=>v.ownBlock=some b) w w')
 (h1:Own w 9 1 u.1 x.1.length x.1) (h2:Own w 3 1 u.2 x.2.length x.2)
 (hf:∀ (g:Nat),u.1.ownBlock=some g\/u.2.ownBlock=some g->¬ PlB v us g):PlsG w' v' (us++[u]) (xs++[x]):=by
 have key:∀ {e:TypeId} {n:Nat} {r:Value} {ys:List Value},Own w e 1 r n ys->(∀ g,r.ownBlock=some g->v.ownBlock≠some g)->Own w' e 1 r n ys:=fun h hne =>
  h.keep fun g o hg ho=>by rw [hb.block g (lt_of_heap ho) (fun e=>hne g hg e)];exact ho
 refine ⟨by rw [List.length_append,List.length_singleton,plC_append];exact ho,by rw [List.length_append,List.length_append,h.len];rfl,fun i u' x' hu hx=>?_,fun i j a b hij ha hb' g=>?_⟩
 ·rcases Nat.lt_or_ge i us.length with hi | hi
  ·rw [List.getElem?_append_left hi] at hu
   rw [List.getElem?_append_left (by rw [<- h.len];exact hi)] at hx
   obtain ⟨k1,k2⟩:=h.each i u' x' hu hx
   exact ⟨key k1 (fun g hg=>k1.unlikeG h.own str_play hg),key k2 (fun g hg=>k2.unlikeG h.own int_play hg)⟩
  ·rw [List.getElem?_append_right hi] at hu
   rw [List.getElem?_append_right (by rw [<- h.len];exact hi),<- h.len] at hx
   have hi0:i-us.length=0:=by have:=(List.getElem?_eq_some_iff.1 hu).1;simp at this;omega
   rw [hi0] at hu hx
   obtain rfl:u=u':=by simpa using hu
   obtain rfl:x=x':=by simpa using hx
   exact ⟨key h1 (fun g hg=>h1.unlikeG h.own str_play hg),key h2 (fun g hg=>h2.unlikeG h.own int_play hg)⟩
 ·have last:∀ {k:Nat} {c:Value×Value},(us++[u])[k]? = some c->(us[k]? = some c/\k<us.length)\/(c=u/\k=us.length):=by
   intro k c hc
   rcases Nat.lt_or_ge k us.length with hk | hk
   ·rw [List.getElem?_append_left hk] at hc;exact .inl ⟨hc,hk⟩
   ·rw [List.getElem?_append_right hk] at hc
    have hi0:k-us.length=0:=by have:=(List.getElem?_eq_some_iff.1 hc).1;simp at this;omega
    rw [hi0] at hc
    exact .inr ⟨by simpa using hc.symm,by omega⟩
  rcases last ha with ⟨ka,hia⟩ | ⟨ea,hia⟩
  ·rcases last hb' with ⟨kb,hjb⟩ | ⟨eb,hjb⟩
   ·exact h.apart i j a b hij ka kb g
   ·have hm:=List.mem_of_getElem? ka
    rw [eb]
    exact ⟨fun e1 e2=>hf g (.inl e2) (.inr ⟨a,hm,.inl e1⟩),fun e1 e2=>hf g (.inr e2) (.inr ⟨a,hm,.inr e1⟩)⟩
  ·rcases last hb' with ⟨kb,hjb⟩ | ⟨eb,hjb⟩
   ·have hm:=List.mem_of_getElem? kb
    rw [ea]
    exact ⟨fun e1 e2=>hf g (.inl e1) (.inr ⟨b,hm,.inl e2⟩),fun e1 e2=>hf g (.inr e1) (.inr ⟨b,hm,.inr e2⟩)⟩
   ·omega
theorem PlB.snoc {v v':Value} {us:List (Value×Value)} {u:Value×Value} {b:Nat} (h:PlB v' (us++[u]) b):v'.ownBlock=some b\/PlB v us b\/u.1.ownBlock=some b\/u.2.ownBlock=some b:=by
 rcases h with h | ⟨c,hc,h⟩
 ·exact .inl h
 ·rcases List.mem_append.1 hc with hc | hc
  ·exact .inr (.inl (.inr ⟨c,hc,h⟩))
  ·simp at hc;subst hc;exact .inr (.inr h)
def plX (l:Pl):List Value×List Value:=(logM l,logP l)
def PlsAt (w:World) (L:List Pl) (v:Value) (us:List (Value×Value)):Prop:=PlsG w v us (L.map plX)
theorem PlsAt.play {w:World} {L:List Pl} {v:Value} {us:List (Value×Value)} (h:PlsAt w L v us) {i:Nat} {u:Value×Value} {l:Pl} (hu:us[i]? = some u) (hl:L[i]? = some l):PlayAt w l u.1 u.2:=by
 have:=h.each i u (plX l) hu (by rw [List.getElem?_map,hl];rfl)
 simpa [plX,PlayAt,logM,logP] using this
theorem PlsAt.length {w:World} {L:List Pl} {v:Value} {us:List (Value×Value)} (h:PlsAt w L v us):us.length=L.length:=by have:=h.len;rwa [List.length_map] at this
theorem PlsG.set1 {w w':World} {v:Value} {us:List (Value×Value)} {xs:Rows2} (h:PlsG w v us xs) {i:Nat} {u:Value×Value} {x:List Value×List Value} (hu:us[i]? = some u) (hx:xs[i]? = some x) {ys:List Value}
 (ho:Own w' 9 1 u.1 ys.length ys) (hb:But (fun b=>u.1.ownBlock=some b) w w'):PlsG w' v us (xs.set i (ys,x.2)):=by
 obtain ⟨o1,o2⟩:=h.each i u x hu hx
 refine ⟨h.own.keep fun g o hg ho=>by rw [hb.block g (lt_of_heap ho) (fun e=>o1.unlikeG h.own str_play e hg)];exact ho,by rw [List.length_set];exact h.len,fun j c y hc hy=>?_,h.apart⟩
 by_cases hij:i=j
 ·subst hij
  rw [hu] at hc
  obtain rfl:=Option.some.inj hc
  rw [List.getElem?_set_self (List.getElem?_eq_some_iff.1 hx).1] at hy
  obtain rfl:=Option.some.inj hy
  exact ⟨ho,o2.keep fun g o hg ho=>by rw [hb.block g (lt_of_heap ho) (fun e=>o1.unlikeG o2 str_int e hg)];exact ho⟩
 ·rw [List.getElem?_set_ne hij] at hy
  obtain ⟨k1,k2⟩:=h.each j c y hc hy
  exact ⟨k1.keep fun g o hg ho=>by rw [hb.block g (lt_of_heap ho) (fun e=>(h.apart i j u c hij hu hc g).1 e hg)];exact ho,
   k2.keep fun g o hg ho=>by rw [hb.block g (lt_of_heap ho) (fun e=>o1.unlikeG k2 str_int e hg)];exact ho⟩
section
variable {P:Program} {ops:Array Oper} {Q:Exit->Act->World->Prop} {md:Region.Mode} {S:World->Prop} {T:Nat->Bool}
def wpAnyS (P:Program) (md:Region.Mode) (ops:Array Oper) (Q:Exit->Act->World->Prop) (S:World->Prop) (T:Nat->Bool):Nat->Array Bool->Act->World->Prop
 | 0,listed,a,w=>Region.ready md ops listed=[]/\Q .normal a w
 | fuel+1,listed,a,w =>
   (Region.ready md ops listed=[]->Q .normal a w) /\
   ∀ i∈Region.ready md ops listed,wpOp P ops Q i (fun a' w'=>(T i=false->S w')/\wpAnyS P md ops Q S T fuel (listed.setIfInBounds i true) a' w') a w
theorem wpAny_of_S:∀ (fuel:Nat) (listed:Array Bool) (a:Act) (w:World),wpAnyS P md ops Q S T fuel listed a w->wpAny P md ops Q fuel listed a w
 | 0,_,_,_,h=>h
 | fuel+1,_,_,_,h=>⟨h.1,fun i hi=>wpOp_mono (fun a' w' h'=>wpAny_of_S fuel _ a' w' h'.2) (h.2 i hi)⟩
theorem ready_keep {md:Region.Mode} {ops:Array Oper} {L:Array Bool} {i j:Nat} (h:j∈Region.ready md ops L) (hne:j≠i):j∈Region.ready md ops (L.setIfInBounds i true):=by
 unfold Region.ready at *
 rw [List.mem_filter] at *
 refine ⟨h.1,?_⟩
 have h2:=h.2
 rw [Bool.and_eq_true] at *
 refine ⟨?_,?_⟩
 ·have e:(L.setIfInBounds i true).getD j true=L.getD j true:=by
   simp only [Array.getD_eq_getD_getElem?]
   rw [Array.getElem?_setIfInBounds_ne (fun e=>hne e.symm)]
  rw [e];exact h2.1
 ·have h3:=h2.2
  cases ho:ops[j]? with
  | none=>rw [ho] at h3;simp at h3
  | some o =>
    rw [ho] at h3
    simp only [Option.map_some,Option.getD_some] at h3 ⊢
    rw [Array.all_eq_true'] at *
    intro e he
    have h4:=h3 e he
    rw [Bool.or_eq_true] at *
    rcases h4 with h4 | h4
    ·exact .inl h4
    ·refine .inr ?_
     by_cases hk:e.on=i
     ·rw [hk]
      simp only [Array.getD_eq_getD_getElem?] at h4 ⊢
      rw [hk] at h4
      rcases Nat.lt_or_ge i L.size with h' | h'
      ·simp [h']
      ·rw [Array.getElem?_eq_none h'] at h4;simp at h4
     ·simp only [Array.getD_eq_getD_getElem?] at h4 ⊢
      rw [Array.getElem?_setIfInBounds_ne (fun e=>hk e.symm)];exact h4
theorem ready_spec {md:Region.Mode} {ops:Array Oper} {L:Array Bool} {j:Nat} (h:j∈Region.ready md ops L) :
 L.getD j true=false/\∃ o,ops[j]? = some o/\∀ e∈o.after,Region.binds md e=true->L.getD e.on false=true:=by
 unfold Region.ready at h
 rw [List.mem_filter] at h
 have h2:=h.2
 rw [Bool.and_eq_true] at h2
 refine ⟨by simpa using h2.1,?_⟩
 cases ho:ops[j]? with
 | none=>have:=h2.2;rw [ho] at this;simp at this
 | some o =>
   refine ⟨o,rfl,fun e he hb=>?_⟩
   have h3:=h2.2
   rw [ho] at h3
   simp only [Option.map_some,Option.getD_some] at h3
   rw [Array.all_eq_true'] at h3
   have h4:=h3 e he
   rw [Bool.or_eq_true] at h4
   rcases h4 with h4 | h4
   ·rw [hb] at h4;simp at h4
   ·exact h4
theorem wpAnyS_first {i:Nat} {oi:Oper} {v:Value} (hi:ops[i]? = some oi) (hsel:∀ (j:Nat) (o:Oper) cs b,ops[j]? = some o->o.op≠.select cs b)
 (hQ:∀ c a w,Q (.panic c) (a.put oi.dst v) w->Q (.panic c) a w)
 (hT:∀ j oj,ops[j]? = some oj->T j=true->∃ e∈oj.after,Region.binds md e=true/\e.on=i) (hTi:T i=false) :
 ∀ (fuel:Nat) (listed:Array Bool) (a:Act) (w:World),
   (∀ j oj,ops[j]? = some oj->j≠i->listed.getD j true=false->(∀ e∈oj.after,Region.binds md e=true->e.on≠i)->oi.apart ops oj=true) ->
   i∈Region.ready md ops listed->YieldsIf P ops S oi v a->S w ->
   wpAnyS P md ops Q S T fuel (listed.setIfInBounds i true) (a.put oi.dst v) w->wpAnyS P md ops Q S T (fuel+1) listed a w:=by
 intro fuel
 induction fuel with
 | zero =>
   intro listed a w _ hr hy hS H
   refine ⟨fun h=>(by rw [h] at hr;cases hr),fun j hj=>?_⟩
   by_cases hji:j=i
   ·subst hji;exact hy.wpOp hi hS ⟨fun _=>hS,H⟩
   ·have:=ready_keep hj hji
    rw [H.1] at this
    cases this
 | succ fuel ih =>
   intro listed a w hfree hr hy hS H
   refine ⟨fun h=>(by rw [h] at hr;cases hr),fun j hj=>?_⟩
   by_cases hji:j=i
   ·subst hji;exact hy.wpOp hi hS ⟨fun _=>hS,H⟩
   ·have h1:=H.2 j (ready_keep hj hji)
    obtain ⟨hjun,oj,hoj,hall⟩:=ready_spec hj
    have hnot:∀ e∈oj.after,Region.binds md e=true->e.on≠i:=fun e he hb heq=>by
     have h1:=hall e he hb
     have h0:=(ready_spec hr).1
     rw [heq] at h1
     simp only [Array.getD_eq_getD_getElem?] at h0 h1
     rcases Nat.lt_or_ge i listed.size with h' | h'
     ·simp [h'] at h0 h1;rw [h0] at h1;cases h1
     ·simp [Array.getElem?_eq_none h'] at h1
    have hTj:T j=false:=by
     cases hT':T j with
     | false=>rfl
     | true =>
       obtain ⟨e,he,hb,heq⟩:=hT j oj hoj hT'
       exact absurd heq (hnot e he hb)
    have h2:=wpOp_putIf hoj (hfree j oj hoj hji hjun hnot) (fun cs b=>hsel i oi cs b hi) (fun cs b=>hsel j oj cs b hoj) hQ hy h1
    have hfree':∀ k ok,ops[k]? = some ok->k≠i->(listed.setIfInBounds j true).getD k true=false ->
     (∀ e∈ok.after,Region.binds md e=true->e.on≠i)->oi.apart ops ok=true:=fun k ok hk hki hun hno=>by
     refine hfree k ok hk hki ?_ hno
     by_cases hjk:j=k
     ·subst hjk;exact hjun
     ·simp only [Array.getD_eq_getD_getElem?] at hun ⊢
      rw [Array.getElem?_setIfInBounds_ne hjk] at hun;exact hun
    refine wpOp_mono (fun a' w' h3=>⟨h3.2.1,ih (listed.setIfInBounds j true) a' w' hfree' (ready_keep hr (Ne.symm hji)) h3.1 (h3.2.1 hTj) ?_⟩) h2
    rw [Array.setIfInBounds_comm _ _ hji]
    exact h3.2.2
def waitT (md:Region.Mode) (ops:Array Oper) (T:Nat->Bool) (i:Nat):Bool :=
 !T i && (List.range ops.size).all fun j=>!T j || ((ops[j]?).map fun o=>o.after.any fun e=>Region.binds md e && e.on == i).getD true
theorem waitT_spec {i:Nat} (h:waitT md ops T i=true):T i=false/\∀ j oj,ops[j]? = some oj->T j=true->∃ e∈oj.after,Region.binds md e=true/\e.on=i:=by
 unfold waitT at h
 rw [Bool.and_eq_true] at h
 refine ⟨by simpa using h.1,fun j oj hj hT=>?_⟩
 have h2:=h.2
 rw [List.all_eq_true] at h2
 have h3:=h2 j (List.mem_range.2 (Array.getElem?_eq_some_iff.1 hj).1)
 rw [hT,hj] at h3
 simp only [Bool.not_true,Bool.false_or,Option.map_some,Option.getD_some] at h3
 rw [Array.any_eq_true'] at h3
 obtain ⟨e,he,h4⟩:=h3
 rw [Bool.and_eq_true,beq_iff_eq] at h4
 exact ⟨e,he,h4⟩
theorem wpAnyS_take (i:Nat) {v:Value} {fuel:Nat} {listed:Array Bool} {a:Act} {w:World}
 (hs:Region.noSelect ops=true) (hf:Region.free md ops listed i=true) (hr:(Region.ready md ops listed).contains i=true) (ht:waitT md ops T i=true)
 (hQ:∀ d c a w,Q (.panic c) (a.put d v) w->Q (.panic c) a w) (hS:S w)
 (hy:∀ oi,ops[i]? = some oi->YieldsIf P ops S oi v a)
 (h:∀ d,(ops[i]?).bind (·.dst)=d->wpAnyS P md ops Q S T fuel (listed.setIfInBounds i true) (a.put d v) w):wpAnyS P md ops Q S T (fuel+1) listed a w:=by
 have hm:i∈Region.ready md ops listed:=by simpa using hr
 obtain ⟨_,oi,hi,_⟩:=ready_spec hm
 obtain ⟨h1,h2⟩:=waitT_spec ht
 exact wpAnyS_first hi (Region.noSelect_spec hs) (fun c a w=>hQ _ c a w) h2 h1 fuel listed a w (Region.free_spec hi hf) hm (hy oi hi) hS (h _ (by rw [hi];rfl))
def tks (P:Program) (ops:Array Oper) (S:World->Prop):List Nat->List (Option Tmp)->Act->(Act->Prop)->Prop
 | i::l,d::ds,a,K=>∃ v,(∀ oi,ops[i]? = some oi->YieldsIf P ops S oi v a)/\tks P ops S l ds (a.put d v) K
 | [],_,a,K=>K a
 | _::_,[],_,_=>False
def tkOk (md:Region.Mode) (ops:Array Oper) (T:Nat->Bool):List Nat->Array Bool->Bool
 | [],_=>true
 | i::l,L=>Region.free md ops L i && ((Region.ready md ops L).contains i && (waitT md ops T i && tkOk md ops T l (L.setIfInBounds i true)))
def tkL:List Nat->Array Bool->Array Bool
 | [],L=>L
 | i::l,L=>tkL l (L.setIfInBounds i true)
def tkN:List Nat->Nat->Nat
 | [],n=>n
 | _::l,n=>tkN l n+1
def tkD (ops:Array Oper):List Nat->List (Option Tmp)
 | []=>[]
 | i::l=>(ops[i]?).bind (·.dst)::tkD ops l
theorem tk (is:List Nat) {fuel:Nat} {listed:Array Bool} {a:Act} {w:World} (hS:S w) (h:∀ ds,tkD ops is=ds->tks P ops S is ds a (fun a'=>wpAnyS P md ops Q S T fuel (tkL is listed) a' w))
 (hok:(Region.noSelect ops && tkOk md ops T is listed)=true:=by kernel_rfl) (hQ:∀ v d c a w,Q (.panic c) (a.put d v) w->Q (.panic c) a w:=by exact fun _ _ _ _ _ h=>h):wpAnyS P md ops Q S T (tkN is fuel) listed a w:=by
 have h':=h _ rfl
 clear h
 rw [Bool.and_eq_true] at hok
 obtain ⟨hs,hok⟩:=hok
 induction is generalizing listed a with
 | nil=>exact h'
 | cons i l ih =>
   rw [tkOk,Bool.and_eq_true,Bool.and_eq_true,Bool.and_eq_true] at hok
   rw [tkD,tks] at h'
   obtain ⟨v,hy,hk⟩:=h'
   exact wpAnyS_take i hs hok.1 hok.2.1 hok.2.2.1 (fun d c a w=>hQ v d c a w) hS hy (fun d hd=>by
    rw [hd] at hk
    exact ih hk hok.2.2.2)
theorem pQ (l:List Value) (df:List Deferred) (k:Nat) (v:Value):Act.put ⟨l.toArray,df⟩ (some k) v=⟨(l.set k v).toArray,df⟩:=by simp [Act.put]
theorem pN (a:Act) (v:Value):Act.put a none v=a:=rfl
theorem pZ (x y:Value) (l:List Value):(x::l).set 0 y=y::l:=rfl
theorem pS (x y:Value) (l:List Value) (n:Nat):(x::l).set (n+1) y=x::l.set n y:=rfl
theorem wpAnyS_one (i:Nat) {fuel:Nat} {listed:Array Bool} {a:Act} {w:World} (hr:Region.ready md ops listed=[i])
 (h:∀ o,ops[i]? = some o->∀ K':Act->World->Prop,Shut (∀ a w,(T i=false->S w)->wpAnyS P md ops Q S T fuel (listed.setIfInBounds i true) a w->K' a w) ->
  if Region.wanted o (yielded ops a.tmps)=true then Oper.wp P o a w K' Q else K' (a.put o.dst undef) w):wpAnyS P md ops Q S T (fuel+1) listed a w:=by
 refine ⟨fun h0=>by rw [hr] at h0;simp at h0,fun j hj=>?_⟩
 rw [hr] at hj
 simp only [List.mem_singleton] at hj
 subst hj
 obtain ⟨_,o,ho,_⟩:=ready_spec (md:=md) (ops:=ops) (L:=listed) (j:=j) (by rw [hr];simp)
 exact wpOp_step ho (fun K' hK=>h o ho K' (fun a w hS hW=>hK a w ⟨hS,hW⟩))
theorem on (i:Nat) {fuel:Nat} {listed:Array Bool} {a:Act} {w:World}
 (h:∀ o,ops[i]? = some o->∀ K':Act->World->Prop,Shut (∀ a w,(T i=false->S w)->wpAnyS P md ops Q S T fuel (listed.setIfInBounds i true) a w->K' a w) ->
  if Region.wanted o (yielded ops a.tmps)=true then Oper.wp P o a w K' Q else K' (a.put o.dst undef) w) (hr:Region.ready md ops listed=[i]:=by kernel_rfl):wpAnyS P md ops Q S T (fuel+1) listed a w :=
 wpAnyS_one i hr h
theorem wpAnyS_two (i j:Nat) {fuel:Nat} {listed:Array Bool} {a:Act} {w:World} (hr:Region.ready md ops listed=[i,j])
 (h:∀ o,ops[i]? = some o->∀ K':Act->World->Prop,Shut (∀ a w,(T i=false->S w)->wpAnyS P md ops Q S T fuel (listed.setIfInBounds i true) a w->K' a w) ->
  if Region.wanted o (yielded ops a.tmps)=true then Oper.wp P o a w K' Q else K' (a.put o.dst undef) w)
 (h2:∀ o,ops[j]? = some o->∀ K':Act->World->Prop,Shut (∀ a w,(T j=false->S w)->wpAnyS P md ops Q S T fuel (listed.setIfInBounds j true) a w->K' a w) ->
  if Region.wanted o (yielded ops a.tmps)=true then Oper.wp P o a w K' Q else K' (a.put o.dst undef) w):wpAnyS P md ops Q S T (fuel+1) listed a w:=by
 refine ⟨fun h0=>by rw [hr] at h0;simp at h0,fun k hk=>?_⟩
 obtain ⟨_,o,ho,_⟩:=ready_spec hk
 rw [hr] at hk
 simp only [List.mem_cons,List.not_mem_nil,or_false] at hk
 rcases hk with rfl | rfl
 ·exact wpOp_step ho (fun K' hK=>h o ho K' (fun a w hS hW=>hK a w ⟨hS,hW⟩))
 ·exact wpOp_step ho (fun K' hK=>h2 o ho K' (fun a w hS hW=>hK a w ⟨hS,hW⟩))
theorem wpAnyS_three (i j k:Nat) {fuel:Nat} {listed:Array Bool} {a:Act} {w:World} (hr:Region.ready md ops listed=[i,j,k])
 (hi:∀ o,ops[i]? = some o->∀ K':Act->World->Prop,Shut (∀ a w,(T i=false->S w)->wpAnyS P md ops Q S T fuel (listed.setIfInBounds i true) a w->K' a w) ->
  if Region.wanted o (yielded ops a.tmps)=true then Oper.wp P o a w K' Q else K' (a.put o.dst undef) w)
 (hj:∀ o,ops[j]? = some o->∀ K':Act->World->Prop,Shut (∀ a w,(T j=false->S w)->wpAnyS P md ops Q S T fuel (listed.setIfInBounds j true) a w->K' a w) ->
  if Region.wanted o (yielded ops a.tmps)=true then Oper.wp P o a w K' Q else K' (a.put o.dst undef) w)
 (hk:∀ o,ops[k]? = some o->∀ K':Act->World->Prop,Shut (∀ a w,(T k=false->S w)->wpAnyS P md ops Q S T fuel (listed.setIfInBounds k true) a w->K' a w) ->
  if Region.wanted o (yielded ops a.tmps)=true then Oper.wp P o a w K' Q else K' (a.put o.dst undef) w):wpAnyS P md ops Q S T (fuel+1) listed a w:=by
 refine ⟨fun h0=>by rw [hr] at h0;simp at h0,fun x hk=>?_⟩
 obtain ⟨_,o,ho,_⟩:=ready_spec hk
 rw [hr] at hk
 simp only [List.mem_cons,List.not_mem_nil,or_false] at hk
 rcases hk with rfl | rfl | rfl
 ·exact wpOp_step ho (fun K' hK=>hi o ho K' (fun a w hS hW=>hK a w ⟨hS,hW⟩))
 ·exact wpOp_step ho (fun K' hK=>hj o ho K' (fun a w hS hW=>hK a w ⟨hS,hW⟩))
 ·exact wpOp_step ho (fun K' hK=>hk o ho K' (fun a w hS hW=>hK a w ⟨hS,hW⟩))
theorem wpAnyS_done {listed:Array Bool} {a:Act} {w:World} (hr:Region.ready md ops listed=[]) (h:Q .normal a w) :
 ∀ fuel,wpAnyS P md ops Q S T fuel listed a w
 | 0=>⟨hr,h⟩
 | _+1=>⟨fun _=>h,by rw [hr];simp⟩
theorem wp_region_S {id:Nat} {a:Act} {w:World} (S:World->Prop) (T:Nat->Bool) (hm:P.follows .mixedOrders=true)
 (h:wpAnyS P .any ops Q S T ops.size (Array.replicate ops.size false) a w.drew):(Code.region id ops true).wp P Q a w :=
 wp_region_any hm (wpAny_of_S _ _ _ _ h)
end
theorem out_cell {m:Nat->Prop} {w6 w7:World} {o:Obj} {ob f:Nat} {u:Value} (hb:But m (w6.alloc o) w7) (hm:¬ m ob) (h:w6.cell? ⟨ob,f,none⟩=some u):w7.cell? ⟨ob,f,none⟩=some u:=by
 have hlt:=World.block_lt_of_cell? w6 ⟨ob,f,none⟩ h
 rw [hb.cell (p:=⟨ob,f,none⟩) (by rw [size_alloc];exact Nat.lt_succ_of_lt hlt) hm]
 exact cell_alloc h
theorem out_free {m:Nat->Prop} {w6 w7:World} {o:Obj} {ob f:Nat} (hb:But m (w6.alloc o) w7) (hm:¬ m ob) (hlt:ob<w6.heap.size) (h:w6.frozen? ⟨ob,f,none⟩=false):w7.frozen? ⟨ob,f,none⟩=false:=by
 rw [World.frozen?_of_block (w:=w6) (by rw [hb.block _ (by rw [size_alloc];omega) hm,Below.heap_alloc _ _ _ hlt])]
 exact h
theorem own_thru {wr w5 w6:World} {e:TypeId} {sz n:Nat} {v:Value} {xs:List Value} {rd:Nat} (h:Own wr e sz v n xs) (hg:∀ g,v.ownBlock=some g->g≠rd) (hb5:But (· = rd) wr w5) (hb6:But (· = rd) w5 w6):Own w6 e sz v n xs :=
 h.keep fun g o hgo ho=>by
  have hlt:=lt_of_heap ho
  rw [hb6.block g (Nat.lt_of_lt_of_le hlt hb5.size) (hg g hgo),hb5.block g hlt (hg g hgo)];exact ho
theorem but_cell {rd:Nat} {w w':World} (hb:But (· = rd) w w') {b o:Nat} {u:Value} (hne:b≠rd) (h:w.cell? ⟨b,o,none⟩=some u):w'.cell? ⟨b,o,none⟩=some u :=
 (hb.cell (p:=⟨b,o,none⟩) (World.block_lt_of_cell? w ⟨b,o,none⟩ h) hne).trans h
theorem but_free {rd:Nat} {w w':World} (hb:But (· = rd) w w') {b o:Nat} (hne:b≠rd) (hlt:b<w.heap.size) (h:w.frozen? ⟨b,o,none⟩=false):w'.frozen? ⟨b,o,none⟩=false:=by
 rw [World.frozen?_of_block (w:=w) (hb.block b hlt hne)];exact h
def FullSl (size:Nat) (v:Value) (n:Nat) (xs:List Value) (w:World):Prop :=
 xs.length=n*size/\((∃ b,v=.slice (some b) n n/\∀ (j:Nat) u,xs[j]? = some u->w.cell? (b.add j)=some u)\/(v=.slice none 0 0/\n=0))
theorem FullSl.ofRep {F:Nat->Prop} {w:World} {e:TypeId} {sz n:Nat} {cs:List DV} {a:Option Addr} {c:Nat} (h:Rep F w (.sl e sz n cs) (.slice a n c)) (hone:∀ us,Reps F w cs us->∀ u∈us,u.oneCell'=true) :
 ∃ xs,Reps F w cs xs/\FullSl sz (.slice a n n) n xs w:=by
 obtain ⟨xs,h1,h2,_,h4⟩:=SrcSl.ofRep h hone
 refine ⟨xs,h1,h2,?_⟩
 rcases h4 with ⟨b,c',e1,h5⟩ | ⟨e1,rfl⟩
 ·injection e1 with e2 e3 e4
  subst e2
  exact .inl ⟨b,rfl,h5⟩
 ·injection e1 with e2 e3 e4
  subst e2
  exact .inr ⟨rfl,rfl⟩
theorem FullSl.drew {w:World} {size n:Nat} {v:Value} {xs:List Value} (h:FullSl size v n xs w):FullSl size v n xs w.drew:=h
theorem cut_code {P:Program} {c:Code} {Q:Exit->Act->World->Prop} {a:Act} {w:World} {X:Type} (f:Act->X->Act) (F:X->World->Prop)
 (h1:c.wp P (fun e a' w'=>e=.normal/\∃ x,a'=f a x/\F x w') a w) (h2:∀ x w',F x w'->Q .normal (f a x) w'):c.wp P Q a w :=
 Code.wp_mono (fun e a' w' ⟨he,x,hx,hF⟩=>by subst he;subst hx;exact h2 x w' hF) h1
theorem setCell_at' {w:World} {b o:Nat} {c:Array Value} {e:TypeId} {u:Value} (h:w.heap[b]? = some (.cells c e (0,0))):(w.setCell ⟨b,o,none⟩ u).heap[b]? = some (.cells (c.setIfInBounds o u) e (0,0)):=by
 have hlt:=lt_of_heap h
 have h':w.heap[b]=.cells c e (0,0):=by simpa [Array.getElem?_eq_getElem hlt] using h
 show (w.heap.modify b _)[b]? = _
 rw [Array.getElem?_eq_getElem (by simpa using hlt),Array.getElem_modify_self,h']
 simp
structure BoxRes (F0:Nat->Prop) (W:World) (g:Nat) (o:Obj) (d:List DV) (v:List Value) (Z:World):Prop where
 below:Below W.heap.size W Z
 new:W.heap.size<=g
 blk:Z.heap[g]? = some o
 rep:Reps (fun i=>(F0 i\/W.heap.size<=i)/\i≠g) Z d v
theorem BoxRes.first {F0:Nat->Prop} {W V0 V1 Z:World} {o:Obj} {d:List DV} {v:List Value} (hF0:∀ i,F0 i->i<W.heap.size) (h0:Below W.heap.size W V0) (hz0:V0.heap.size=W.heap.size+1) (hb:Below V0.heap.size V0 V1) (hr:Reps (fun i=>F0 i\/V0.heap.size<=i) V1 d v)
 (hbt:But (fun i=>i=W.heap.size) V1 Z) (hblk:Z.heap[W.heap.size]? = some o):BoxRes F0 W W.heap.size o d v Z:=by
 have hz:=hb.size
 have hb1:Below W.heap.size W V1:=h0.trans (hb.mono (by omega))
 refine ⟨hb1.trans (hbt.toBelow (by omega) fun i hi e=>by omega),Nat.le_refl _,hblk,?_⟩
 refine (Rep.keep fun i x hi hx=>?_).2 _ _ hr
 have hne:i≠W.heap.size:=by rcases hi with h | h;have:=hF0 i h;omega;omega
 exact ⟨⟨hi.elim .inl (fun h=>.inr (by omega)),hne⟩,by rw [hbt.block i (lt_of_heap hx) hne];exact hx⟩
theorem BoxRes.last {F0:Nat->Prop} {W V1 Z:World} {z o:Obj} {d:List DV} {v:List Value} (hb:Below W.heap.size W V1) (hr:Reps (fun i=>F0 i\/W.heap.size<=i) V1 d v)
 (hbt:But (fun i=>i=V1.heap.size) (V1.alloc z) Z) (hblk:Z.heap[V1.heap.size]? = some o):BoxRes F0 W V1.heap.size o d v Z:=by
 have hz:=hb.size
 refine ⟨(hb.alloc hz z).trans (hbt.toBelow (by rw [size_alloc];omega) fun i hi e=>by omega),hz,hblk,?_⟩
 refine (Rep.keep fun i x hi hx=>?_).2 _ _ hr
 have hl:=lt_of_heap hx
 have hne:i≠V1.heap.size:=by omega
 exact ⟨⟨hi,hne⟩,by rw [hbt.block i (by rw [size_alloc];omega) hne,Below.heap_alloc _ _ _ hl];exact hx⟩
end Go.Proofs.YtdfkiicodfbibaaGreatDoor

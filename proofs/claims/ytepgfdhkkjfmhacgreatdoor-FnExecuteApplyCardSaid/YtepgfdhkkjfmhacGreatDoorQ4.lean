/- Walks of functions that the statement reaches, and plain words. No conditions. -/
import Derived.Laws.IdiomStrings
import Derived.Lib.SliceRun
import Derived.RangeFuncNested
import Derived.RangeFuncBound
import Derived.RangeFuncCalls
import Derived.RangeFuncLeaves
import Derived.RangeFuncFrom
import Derived.RangeFuncBox
import Derived.Shelf.Abstract
import Derived.Shelf.RegionOpen
import Derived.OwnWalkIn
import Derived.TacticsInMore
import Derived.LoopNIn
import Derived.LoopIn
import Derived.Lib.Split
import Derived.Lib.IndexMore
import Derived.Lib.CountLaws
import Derived.Test.YtepgfdhkkjfmhacGreatDoorQ3
set_option linter.unusedVariables false
set_option linter.unusedSimpArgs false
set_option maxHeartbeats 4000000
namespace Go.Proofs.YtepgfdhkkjfmhacGreatDoor
open Go.RowKit
theorem gI {W:World} {g r:Nat} (hr:r<10) (h:W.cell? ⟨g,0,none⟩=some (.int .u8 (48+(r:Int)))) :
 (convert 22 9 (.slice (some ⟨g,0,none⟩) 1 1)).run Tryz.prog W=.ok (str [jy r]) W:=by
 refine run_convert_bytes_back (P:=Tryz.prog) W 22 9 5 ⟨g,0,none⟩ 1 [jy r] Tryz.underlying22 Tryz.underlying5 Tryz.underlying9 (fun j hj=>?_)
 have hj0:j=0:=by simpa using hj
 subst hj0
 have e:(jy r).toNat=48+r:=by rw [jy,UInt8.toNat_ofNat'];exact Nat.mod_eq_of_lt (by omega)
 show W.cell? ((⟨g,0,none⟩:Addr).add 0)=some (.int .u8 ((jy r).toNat:Int))
 rw [e]
 have e2:((48+r:Nat):Int)=48+(r:Int):=by omega
 rw [e2];exact h
theorem xh {r:Nat} (hr:r<10) (w:World):(convert 22 9 (.slice (some ⟨w.heap.size,0,none⟩) 1 1)).run Tryz.prog (w.alloc (.cells #[.int .u8 (48+(r:Int))] 5))=.ok (str [jy r]) (w.alloc (.cells #[.int .u8 (48+(r:Int))] 5)) :=
 gI hr (by simp)
theorem conv_newd {r:Nat} (hr:r<10) (w:World):(convert 22 9 (.slice (some ⟨w.heap.size,0,none⟩) 1 1)).run Tryz.prog (w.alloc (.cells #[.int .u8 (48+(r:Int))] 5)).drew=.ok (str [jy r]) (w.alloc (.cells #[.int .u8 (48+(r:Int))] 5)).drew :=
 gI hr (show (w.alloc (.cells #[.int .u8 (48+(r:Int))] 5)).cell? _=_ by simp)
theorem conv_kept {r:Nat} (hr:r<10) {w W:World} (hb:Below (w.alloc (.cells #[.int .u8 (48+(r:Int))] 5)).drew.heap.size (w.alloc (.cells #[.int .u8 (48+(r:Int))] 5)).drew W) :
 (convert 22 9 (.slice (some ⟨w.heap.size,0,none⟩) 1 1)).run Tryz.prog W=.ok (str [jy r]) W :=
 gI hr ((hb.cell (show w.heap.size<(w.alloc (.cells #[.int .u8 (48+(r:Int))] 5)).heap.size by simp)).trans (show (w.alloc (.cells #[.int .u8 (48+(r:Int))] 5)).cell? _=_ by simp))
set_option maxRecDepth 100000 in
theorem l6Dec_small (n:Nat) (hn:n<10) (w:World):Calls Tryz.prog 65 #[.int .i64 (n:Nat)] w fun en w'=>en=.returned (str (dec n))/\Below w.heap.size w w':=by
 have iX:(n:Int)<10:=by omega
 have e:=gl (qG hn)
 have hcv:=xh hn w
 go_enter Tryz.func65,Tryz.ntmps65
 go_wp2_with fail
 go_ret
 exact ⟨by rw [e.out];rfl,(hG _ _).alloc (g_ _) _⟩
theorem ye (w:World) (o:Obj):w.heap.size<=(w.alloc o).drew.heap.size:=by
 show w.heap.size<=(w.alloc o).heap.size
 rw [zK];omega
set_option maxRecDepth 100000 in
theorem l6Dec_step (n:Nat) (hn:¬ n<10) (hl:n<=16777216) (ih:∀ w,Calls Tryz.prog 65 #[.int .i64 ((n / 10:Nat):Int)] w fun en w'=>en=.returned (str (dec (n / 10)))/\Below w.heap.size w w') (w:World) :
 Calls Tryz.prog 65 #[.int .i64 (n:Nat)] w fun en w'=>en=.returned (str (dec n))/\Below w.heap.size w w':=by
 have IH:=gl ih;clear ih
 have iX:¬ (n:Int)<10:=by omega
 have e:=gl (qL hn)
 have q1:(n:Int).tdiv 10=((n / 10:Nat):Int):=xG n 10
 have q2:(n:Int).tmod 10=((n % 10:Nat):Int):=uQ n 10
 have hR:n % 10<10:=Nat.mod_lt _ (by omega)
 have hQ:n / 10<=16777216:=h_ (Nat.div_le_self _ _) hl
 have hD:(dec (n / 10)).length<=8:=qM 7 (n / 10) (by omega)
 generalize n % 10=R at *
 generalize n / 10=Q at *
 have q3:IntKind.i64.wrap (Q:Int)=(Q:Int):=vD Q (by omega)
 have q4:IntKind.i64.wrap (48+(R:Int))=48+(R:Int):=by rw [show (48:Int)+R=((48+R:Nat):Int) from by omega];exact vD _ (by omega)
 have q5:IntKind.u8.wrap (48+(R:Int))=48+(R:Int):=by simp [IntKind.wrap,IntKind.bits,IntKind.signed];omega
 have HR:=gl hR
 have aG:=fun w0=>zo (P:=Tryz.prog) (dec Q) [jy R] (by simp;omega) w0
 have hcv:=conv_newd hR w
 have hcv0:=fun w0=>xh hR w0
 go_enter Tryz.func65,Tryz.ntmps65
 go_wp2_with fail
 go_region_with (first
  | (go_at_call 65;refine (IH.out (w.alloc (.cells #[.int .u8 (48+(R:Int))] 5)).drew).mono ?_;rintro en w2 ⟨rfl,bZ⟩;have hcv2:=conv_kept HR.out bZ;have hbb:=Below.trans (((hG w.heap.size w).alloc (g_ _) (.cells #[.int .u8 (48+(R:Int))] 5)).drew) (bZ.mono (ye w _)))
  | (go_at_call 65;refine (IH.out w.drew).mono ?_;rintro en w2 ⟨rfl,bZ⟩;have hbb:=Below.trans ((hG w.heap.size w).drew) bZ))
 all_goals
  go_wp2_with fail
  go_ret
  refine ⟨by rw [e.out];rfl,?_⟩
  first
   | exact hbb
   | exact hbb.alloc hbb.size _
theorem l6Dec_any (n:Nat):n<=16777216->∀ w,Calls Tryz.prog 65 #[.int .i64 (n:Nat)] w fun en w'=>en=.returned (str (dec n))/\Below w.heap.size w w':=by
 induction n using Nat.strongRecOn with
 | _ n ih =>
   intro hl w
   by_cases h:n<10
   ·exact l6Dec_small n h w
   ·exact l6Dec_step n h hl (ih (n / 10) (Nat.div_lt_self (by omega) (by omega)) (h_ (Nat.div_le_self _ _) hl)) w
def wS (b:Bd):Prop:=∀ (F:Nat->Prop) (w:World) (s v k y:Value),zH F w (kE b) [s,v,k,y] ->
 Calls Tryz.prog 44 #[.agg #[s,v,k,y]] w fun en w'=>en=.returned (str (zO b))/\Below w.heap.size w w'
abbrev KeepY (g:Nat) (ky:Value) (dW yo:Nat) (s0 v0 p0 q0 s1 v1 p1 q1:Value) (w':World):Prop :=
 w'.cell? ⟨g,3,none⟩=some ky/\w'.cell? ⟨dW,yo,none⟩=some s0/\w'.cell? ⟨dW,yo+1,none⟩=some v0/\w'.cell? ⟨dW,yo+2,none⟩=some p0/\w'.cell? ⟨dW,yo+3,none⟩=some q0 /\
  w'.cell? ⟨dW,yo+4,none⟩=some s1/\w'.cell? ⟨dW,yo+5,none⟩=some v1/\w'.cell? ⟨dW,yo+6,none⟩=some p1/\w'.cell? ⟨dW,yo+7,none⟩=some q1
theorem KeepY.below {g:Nat} {ky:Value} {dW yo:Nat} {s0 v0 p0 q0 s1 v1 p1 q1:Value} {w w':World} (h:KeepY g ky dW yo s0 v0 p0 q0 s1 v1 p1 q1 w) (hb:Below w.heap.size w w'):KeepY g ky dW yo s0 v0 p0 q0 s1 v1 p1 q1 w':=by
 have key:∀ (a:Addr) (v:Value),w.cell? a=some v->w'.cell? a=some v:=fun a v ha=>by
  rw [hb.cell (hU w _ ha)];exact ha
 obtain ⟨h1,h2,h3,h4,h5,h6,h7,h8,h9⟩:=h
 exact ⟨key _ _ h1,key _ _ h2,key _ _ h3,key _ _ h4,key _ _ h5,key _ _ h6,key _ _ h7,key _ _ h8,key _ _ h9⟩
set_option maxRecDepth 100000 in
theorem l3Text_step (b:Bd) (hl:zX b<=1000000) (dQ:lvB b) (ih:∀ b',zX b'<zX b->lvB b'->wS b'):wS b:=by
 intro F w s v k y hv
 have e1:=encN_lv hv
 subst e1
 obtain ⟨_,a2,c2,a3,c3,e,hk,hy⟩:=jg hv
 simp only [List.cons.injEq,and_true] at e
 obtain ⟨rfl,_,rfl,rfl⟩:=e
 cases b with
 | leaf c =>
   clear hv hk hy ih
   show Calls Tryz.prog 44 #[.agg #[str [c],.int .i64 (0:Nat),.slice a2 0 c2,.slice a3 0 c3]] w _
   go_enter Tryz.func44,Tryz.ntmps44
   go_wp2_with fail
   go_ret
   exact ⟨rfl,(hG _ _).alloc (g_ _) _⟩
 | ask lv ss yb nb =>
   have IH:=gl ih;clear ih
   have hsz:=jT (.ask lv ss yb nb)
   rw [gJ,kI] at hsz
   change zX (.ask lv ss yb nb)=1+(zG ss+zG [yb,nb]) at hsz
   have tF:zG [yb,nb]=zX yb+zX nb:=by simp [zG]
   rw [lvB] at dQ
   obtain ⟨lv1,lv2,lv3,lv4⟩:=dQ
   have t1:=jr ss lv2
   have t2:=kz yb lv3
   have t3:=kz nb lv4
   have t4:(dec lv).length<=5:=qM 4 lv (by omega)
   obtain ⟨_,_,ek,atk⟩:=pF.of hk
   simp only [Value.slice.injEq,true_and] at ek
   rw [<- ek.1] at atk;clear ek
   obtain ⟨_,_,ek,aty⟩:=pF.of hy
   simp only [Value.slice.injEq,true_and] at ek
   rw [<- ek.1] at aty;clear ek
   change pF F w ss a2 at atk
   change pF F w [yb,nb] a3 at aty
   obtain ⟨dW,yo,s0,v0,p2,m2,d2,p3,m3,d3,yt,ey,hyb0,hyt,u0,u1,u2,u3,s8⟩:=aty 0 (by simp)
   obtain ⟨yb1,yo1,s1,v1,p4,m4,d4,p5,m5,d5,nt,en1,hyb1,lV,z0,z1,z2,z3,rB⟩:=aty 1 (by simp)
   rw [ey] at en1
   simp only [Option.some.injEq,Addr.mk.injEq,and_true] at en1
   obtain ⟨rfl,rfl⟩:=en1
   simp only [List.getElem?_cons_zero,Option.some.injEq] at hyt
   simp only [List.getElem?_cons_succ,List.getElem?_cons_zero,Option.some.injEq] at lV
   subst hyt;subst lV
   simp only [Nat.zero_mul,Nat.add_zero] at u0 u1 u2 u3
   simp only [Nat.one_mul,Nat.add_assoc,Nat.reduceAdd] at z0 z1 z2 z3
   have nss:ss.length<=16777216:=by have:=km ss;omega
   have HSZ:=gl hsz;have HYN:=gl tF
   have ATK:=gl atk
   have LV:=gl lv2;have LV3:=gl lv3;have LV4:=gl lv4
   have lvl:lv<=16777216:=by omega
   have Br:KeepY w.heap.size (.slice a3 2 c3) dW yo (str s0) (.int .i64 v0) (.slice p2 m2 d2) (.slice p3 m3 d3) (str s1) (.int .i64 v1) (.slice p4 m4 d4) (.slice p5 m5 d5) (w.alloc (.cells #[str [],.int .i64 lv,.slice a2 ss.length c2,.slice a3 2 c3] 46)) :=
    ⟨by simp,zJ u0,zJ u1,zJ u2,zJ u3,zJ z0,zJ z1,zJ z2,zJ z3⟩
   have Ab:=gl Br
   have HRY:=gl s8;have HRN:=gl rB
   subst ey
   clear hv hk hy atk aty hsz tF lv2 lv3 lv4 u0 u1 u2 u3 z0 z1 z2 z3 s8 rB Br
   show Calls Tryz.prog 44 #[.agg #[str [],.int .i64 lv,.slice a2 ss.length c2,.slice (some ⟨dW,yo,none⟩) 2 c3]] w _
   have B_:=fun w0=>zo (P:=Tryz.prog) [40] (dec lv) (by simp;omega) w0
   go_enter Tryz.func44,Tryz.ntmps44
   go_wp2_with fail
   refine (l6Dec_any lv lvl _).mono ?_
   rintro en w1 ⟨rfl,bQ⟩
   have cE:Below w.heap.size w w1:=Below.trans ((hG w.heap.size w).alloc (g_ _) (.cells #[str [],.int .i64 lv,.slice a2 ss.length c2,.slice (some ⟨dW,yo,none⟩) 2 c3] 46)) (bQ.mono (by simp))
   have dI:w1.cell? ⟨w.heap.size,2,none⟩=some (.slice a2 ss.length c2):=(bQ.cell (by simp)).trans (by simp)
   have Cy:=gl (Ab.out.below bQ)
   go_wp2_with fail
   clear B_
   go_loopw [3,4] (fun o i wr=>∃ k:Nat,k<=ss.length/\i=.int .i64 k/\o=str ([40]++dec lv++zv (ss.take k))/\Below w.heap.size w wr/\wr.cell? ⟨w.heap.size,2,none⟩=some (.slice a2 ss.length c2)/\KeepY w.heap.size (.slice (some ⟨dW,yo,none⟩) 2 c3) dW yo (str s0) (.int .i64 v0) (.slice p2 m2 d2) (.slice p3 m3 d3) (str s1) (.int .i64 v1) (.slice p4 m4 d4) (.slice p5 m5 d5) wr) (fun _ i _=>ss.length-(intOf i).toNat)
   case atStart=>exact ⟨0,Nat.zero_le _,rfl,by simp [zv],cE,dI,Cy.out⟩
   case round =>
    clear dI Cy Ab cE
    obtain ⟨k,hk,rfl,rfl,hb,dI,Br⟩:=hrel
    have Ab:=gl Br;clear Br
    have hlen:([40]++dec lv++zv (ss.take k)).length<=16777216:=by
     have h1:=pW ss k
     have h2:=HSZ.out
     simp only [List.length_append,List.length_cons,List.length_nil];omega
    by_cases bY:k<ss.length
    ·obtain ⟨bb,o,s',v',b2,n2,e2,b3,n3,e3,t,eb,hbb,ht,u0,u1,u2,u3,hr⟩:=ATK.out k bY
     subst eb
     have q0:=(hb.cell hbb).trans u0
     have q1:=(hb.cell hbb).trans u1
     have q2:=(hb.cell hbb).trans u2
     have q3:=(hb.cell hbb).trans u3
     have dg:=zH.below (F':=fun _=>True) hb (fun _ _=>trivial) hr
     have cN:=ji ht
     have dO:=qT ss (k+1)
     have fu:=HSZ.out
     have eR:=kz t (pM _ LV.out k t ht)
     have C:=gl (IH.out t (by omega) (pM _ LV.out k t ht) _ wr _ _ _ _ dg)
     have HT:=gl (textBs_take ht)
     have ht16:(zO t).length<=16777216:=by omega
     have cz:(k:Int)<(ss.length:Int):=by omega
     generalize hO:[40]++dec lv++zv (ss.take k)=O at *
     have HO:=gl hO
     have fK:=fun w0=>zo (P:=Tryz.prog) O [32] (by simp;omega) w0
     have fZ:=fun w0=>zo (P:=Tryz.prog) (O++[32]) (zO t) (by simp;omega) w0
     clear hO cN dO fu eR ht u0 u1 u2 u3 hr dg
     go_wp2_with fail
     refine C.out.mono ?_
     rintro en w2 ⟨rfl,bZ⟩
     have bU:=zzT hb bZ
     have hx2':w2.cell? ⟨w.heap.size,2,none⟩=some (.slice (some ⟨bb,o,none⟩) ss.length c2):=(bZ.cell (hU _ ⟨w.heap.size,2,none⟩ dI)).trans dI
     have HKY2:=gl (Ab.out.below bZ)
     go_wp2_with fail
     go_roundw
     case rel=>exact ⟨k+1,by omega,by go_num,by rw [HT.out,<- HO.out];simp [str],bU,hx2',HKY2.out⟩
     case measure=>simp [intOf];omega
    ·obtain rfl:k=ss.length:=by omega
     rw [List.take_length] at hlen ⊢
     have fb:¬ ((ss.length:Int)<(ss.length:Int)):=by omega
     have HE:Hid (zO (.ask lv ss yb nb)=((((([40]++dec lv++zv ss)++[32])++zO yb)++[32])++zO nb)++[41]):=by show zO _=_;rw [zO]
     generalize hO:[40]++dec lv++zv ss=O at *
     clear hO
     obtain ⟨aO,q0,q1,q2,q3,q4,q5,q6,q7⟩:=Ab.out
     have AB:=(zH.below (F':=fun _=>True) hb (fun _ _=>trivial) HRY.out).drew
     have AF:=zH.below (F':=fun _=>True) hb (fun _ _=>trivial) HRN.out
     have fu:=HSZ.out
     have eR:=HYN.out
     have y16:(zO yb).length<=16777216:=by omega
     have n16:(zO nb).length<=16777216:=by omega
     have pp:=kH yb;have pq:=kH nb
     have CY:=gl (IH.out yb (by omega) LV3.out _ wr.drew _ _ _ _ AB)
     have CN:=fun W F' h=>IH.out nb (by omega) LV4.out F' W (str s1) (.int .i64 v1) (.slice p4 m4 d4) (.slice p5 m5 d5) h
     have CN':=gl CN;clear CN
     have RN:=gl AF
     have e16:(O++[32]).length=O.length+1:=by simp
     obtain ⟨O1,h1⟩:=zzM (O++[32])
     obtain ⟨O2,h2⟩:=zzM (O1++zO yb)
     obtain ⟨O3,h3⟩:=zzM (O2++[32])
     obtain ⟨O4,h4⟩:=zzM (O3++zO nb)
     obtain ⟨O5,h5⟩:=zzM (O4++[41])
     have l1:O1.length<=16777217:=by rw [h1];simp;omega
     have l2:O2.length<=33554433:=by rw [h2];simp;omega
     have l3:O3.length<=33554434:=by rw [h3];simp;omega
     have l4:O4.length<=50331650:=by rw [h4];simp;omega
     have fK:=fun w0=>zo (P:=Tryz.prog) O [32] (by simp;omega) w0
     have fZ:=fun w0=>zo (P:=Tryz.prog) O1 (zO yb) (by omega) w0
     have mK:=fun w0=>zo (P:=Tryz.prog) O2 [32] (by simp;omega) w0
     have mZ:=fun w0=>zo (P:=Tryz.prog) O3 (zO nb) (by omega) w0
     have B9:=fun w0=>zo (P:=Tryz.prog) O4 [41] (by simp;omega) w0
     have HE5:Hid (O5=zO (.ask lv ss yb nb)):=by show O5=_;rw [HE.out,h5,h4,h3,h2,h1]
     rw [<- h1] at fK;rw [<- h2] at fZ;rw [<- h3] at mK;rw [<- h4] at mZ;rw [<- h5] at B9
     clear h1 h2 h3 h4 h5 HE e16 l1 l2 l3 l4
     have hKd:KeepY w.heap.size (.slice (some ⟨dW,yo,none⟩) 2 c3) dW yo (str s0) (.int .i64 v0) (.slice p2 m2 d2) (.slice p3 m3 d3) (str s1) (.int .i64 v1) (.slice p4 m4 d4) (.slice p5 m5 d5) wr.drew:=Ab.out
     clear fu eR pp pq AB AF t1 t2 t3 t4
     go_wp2_with fail
     go_region_held3 (fun w'=>w'.cell? ⟨w.heap.size,3,none⟩=some (.slice (some ⟨dW,yo,none⟩) 2 c3)/\w'.cell? ⟨dW,yo,none⟩=some (str s0)/\w'.cell? ⟨dW,yo+1,none⟩=some (.int .i64 v0)/\w'.cell? ⟨dW,yo+2,none⟩=some (.slice p2 m2 d2)/\w'.cell? ⟨dW,yo+3,none⟩=some (.slice p3 m3 d3)/\w'.cell? ⟨dW,yo+4,none⟩=some (str s1)/\w'.cell? ⟨dW,yo+5,none⟩=some (.int .i64 v1)/\w'.cell? ⟨dW,yo+6,none⟩=some (.slice p4 m4 d4)/\w'.cell? ⟨dW,yo+7,none⟩=some (.slice p5 m5 d5))
      (first
       | with_reducible exact hKd
       | with_reducible exact tH
       | with_reducible exact hK4)
      (first
       | (go_at_call 44;refine (CN'.out _ _ rn3).mono ?_;rintro en w4 ⟨rfl,bS⟩;have hK4:=tH.below bS)
       | (go_at_call 44;refine CY.out.mono ?_;rintro en w3 ⟨rfl,bU⟩;have tH:=hKd.below bU;have rn3:=zH.below (F':=fun _=>True) bU (fun _ _=>trivial) RN.out.drew))
     go_wp2_with fail
     go_ret
     exact ⟨by rw [<- HE5.out];rfl,hb.trans ((((hG _ wr).drew).trans (zzT bU bS)).mono hb.size)⟩
theorem gG (n:Nat):∀ b,zX b<=n->n<=1000000->lvB b->wS b:=by
 induction n with
 | zero=>intro b h _;have:=kH b;omega
 | succ n ih=>exact fun b h hn dQ=>l3Text_step b (by omega) dQ (fun b' h' fH=>ih b' (by omega) (by omega) fH)
theorem gO (n:Nat) (s:Value) (xs:List Value) (w:World) (h:zS 1 s n xs w) (hn:Lim n) :
 Calls Tryz.prog 90 #[s] w fun en w' =>
  ∃ a c,en=.returned (.slice a n c)/\Own w' 79 1 (.slice a n c) n xs/\Below w.heap.size w w'/\(∀ g,(Value.slice a n c).ownBlock=some g->w.heap.size<=g):=by
 have hl:=hn.le
 obtain ⟨a,c,e⟩:=h.slice
 subst e
 cases a with
 | none =>
   have h0:n=0/\c=0:=by
    obtain ⟨_,_,⟨a',c',e,_⟩ | ⟨e,h0⟩⟩:=h
    ·simp at e
    ·simp at e;exact e
   obtain ⟨rfl,rfl⟩:=h0
   have hx:xs=[]:=List.eq_nil_of_length_eq_zero (by simpa using h.1)
   subst hx
   have q:=fun w=>Lib.run_eql_slice_nil (P:=Tryz.prog) w 119 79 none 0 0 0 0 Tryz.underlying119
   go_enter Tryz.func90,Tryz.ntmps90
   go_wp2_with fail
   go_ret
   exact ⟨none,0,rfl,World.ownsRow_nil _ _ _ _,hG _ _,fun g h=>by simp [Value.ownBlock] at h⟩
 | some a =>
   have q:=fun w=>Lib.run_eql_slice_nil (P:=Tryz.prog) w 119 79 (some a) n c 0 0 Tryz.underlying119
   go_enter Tryz.func90,Tryz.ntmps90
   go_wp2_with (at_builtin;refine zP rfl _ _ 119 rfl 79 (.pointer none) 1 8 Tryz.underlying119 Tryz.infoB rfl (by decide) _ 0 [] rfl ?c1 _ n xs rfl ?c2 ?c3 ?c4 ?_)
   case c1=>exact Own.lit #[] 0 (by decide) rfl
   case c2=>exact h.keep fun _ _ h=>zJ h
   case c3=>unfold maxLen;omega
   case c4=>omega
   intro a' c' w' ho hb hg
   go_wp2_with fail
   go_ret
   refine ⟨a',c',rfl,ho,((hG w.heap.size w).alloc (g_ _) _).trans (hb.toBelow (by simp) (fun i hi e=>by simp [Value.ownBlock] at e;omega)),fun g h=>?_⟩
   rcases hg g h with h | h
   ·simp [Value.ownBlock] at h;omega
   ·omega
def yg (F:Nat->Prop) (w:World) (b:Bd) (en:Ending) (w':World):Prop :=
 ∃ v,en=.returned v/\Below w.heap.size w w'/\Rep (fun k=>F k\/w.heap.size<=k) w' (.sl 79 1 (zc b).length (qh (zc b))) v
theorem parts_leaf (F:Nat->Prop) (w:World) (c:UInt8) (v:Value) (h:Rep F w (kD (.leaf c)) v) :
 Calls Tryz.prog 57 #[v] w (yg F w (.leaf c)):=by
 obtain ⟨a,e⟩:=zy h
 subst e
 go_enter Tryz.func57,Tryz.ntmps57
 go_wp2_with fail
 refine (vg F w c _ h).mono ?_
 rintro en w' ⟨rfl,e⟩
 subst e
 go_wp2_with fail
 go_ret
 exact ⟨_,rfl,hG _ _,zp.2 ⟨rfl,none,0,rfl,g_ _,fun _=>rfl,.inl rfl⟩⟩
theorem but_below {w wc w6:World} {o:Obj} {v:Value} (hbb:Below w.heap.size w wc) (bP:But (fun b=>v.ownBlock=some b) (wc.alloc o) w6)
 (fi:∀ g,v.ownBlock=some g->w.heap.size<=g):Below w.heap.size w w6:=by
 refine (hbb.alloc hbb.size _).trans (bP.toBelow ?_ ?_)
 ·have:=hbb.size
  show w.heap.size<=(wc.heap.push o).size
  rw [Array.size_push];omega
 ·intro i hi e
  have h:w.heap.size<=i:=fi i e
  omega
theorem but_below2 {w wc w6:World} {v:Value} (hbb:Below w.heap.size w wc) (bP:But (fun b=>v.ownBlock=some b) wc w6)
 (fi:∀ g,v.ownBlock=some g->w.heap.size<=g):Below w.heap.size w w6:=by
 refine hbb.trans (bP.toBelow hbb.size ?_)
 intro i hi e
 have h:w.heap.size<=i:=fi i e
 omega
theorem own_1 {w wc:World} {o:Obj} {v v':Value} (hbb:Below w.heap.size w wc) (fi:∀ g,v.ownBlock=some g->w.heap.size<=g)
 (hg:∀ g,v'.ownBlock=some g->v.ownBlock=some g\/g=(wc.alloc o).heap.size):∀ g,v'.ownBlock=some g->w.heap.size<=g:=by
 intro g h
 rcases hg g h with h | h
 ·exact fi g h
 ·have:=hbb.size
  rw [h,zK];omega
theorem own_2 {w wc:World} {v v':Value} (hbb:Below w.heap.size w wc) (fi:∀ g,v.ownBlock=some g->w.heap.size<=g)
 (hg:∀ g,v'.ownBlock=some g->v.ownBlock=some g\/g=wc.heap.size):∀ g,v'.ownBlock=some g->w.heap.size<=g:=by
 intro g h
 rcases hg g h with h | h
 ·exact fi g h
 ·have:=hbb.size
  rw [h];omega
theorem own_ad {w:World} {o:Obj} {v:Value} (h:∀ g,v.ownBlock=some g->(w.alloc o).drew.heap.size<=g):∀ g,v.ownBlock=some g->w.heap.size<=g:=by
 intro g hg
 have:=h g hg
 have h2:(w.alloc o).drew.heap.size=w.heap.size+1:=zK w o
 omega
set_option maxRecDepth 100000 in
theorem parts_ask (F:Nat->Prop) (w:World) (v:Nat) (ss:List Bd) (y n:Bd) (p:Value) (h:Rep F w (kD (.ask v ss y n)) p) (hn:Lim (ss.length+2)) :
 Calls Tryz.prog 57 #[p] w (yg F w (.ask v ss y n)):=by
 obtain ⟨b,sl,yv,nv,e,l_,hc,nD,hy,hnn⟩:=vL h
 subst e
 obtain ⟨xs,si,cX⟩:=zS.ofRep nD (oneCell_encBs _)
 obtain ⟨sa,sc,esl⟩:=cX.slice
 subst esl
 obtain ⟨ya,ey⟩:=zy hy
 obtain ⟨na,ena⟩:=zy hnn
 subst ey;subst ena
 have c2:w.cell? ⟨b,2,none⟩=some (.slice sa ss.length sc):=by simp [World.cell?,hc]
 have c3:w.cell? ⟨b,3,none⟩=some (.pointer (some ⟨ya,0,none⟩)):=by simp [World.cell?,hc]
 have c4:w.cell? ⟨b,4,none⟩=some (.pointer (some ⟨na,0,none⟩)):=by simp [World.cell?,hc]
 have lb:=zZ hc
 have hl:=hn.le
 clear hc
 go_enter Tryz.func57,Tryz.ntmps57
 go_wp2_with fail
 refine (uv F w v ss y n _ h).mono ?_
 rintro en w' ⟨rfl,e⟩
 obtain rfl:w=w':=e.symm
 go_wp2_with fail
 have hn0:Lim ss.length:=hn.mono (by omega)
 have hm:ss.length+2<=maxLen:=by unfold maxLen;omega
 have eT:(ss.length+2)*8<=140737488355328:=by omega
 have h01:0<1:=by omega
 have dh:∀ u∈(#[.pointer (some ⟨ya,0,none⟩),.pointer (some ⟨na,0,none⟩)]:Array Value).toList,u.oneCell'=true:=by simp [Value.oneCell']
 have HO:=gl dh;clear dh
 go_region_held3 (fun w'=>w'.cell? ⟨b,2,none⟩=some (.slice sa ss.length sc)/\w'.cell? ⟨b,3,none⟩=some (.pointer (some ⟨ya,0,none⟩))/\w'.cell? ⟨b,4,none⟩=some (.pointer (some ⟨na,0,none⟩)))
  (first
   | exact ⟨(fw.cell lb).trans c2,(fw.cell lb).trans c3,(fw.cell lb).trans c4⟩
   | exact ⟨(hbb.cell lb).trans c2,(hbb.cell lb).trans c3,(hbb.cell lb).trans c4⟩
   | go_keep)
  (first
   | (go_at_call 90;refine (gO ss.length _ xs _ cX.drew hn0).mono ?_;rintro en wc ⟨ac,kc,rfl,lQ,iM,lR⟩;have hbb:Below w.heap.size w wc:=(hG w.heap.size w).drew.trans iM;have fi:∀ g,(Value.slice ac ss.length kc).ownBlock=some g->w.heap.size<=g:=lR)
   | (go_at_call 90;refine (gO ss.length _ xs _ (cX.alloc _).drew hn0).mono ?_;rintro en wc ⟨ac,kc,rfl,lQ,iM,lR⟩;have tf:=(zS.lits #[.pointer (some ⟨ya,0,none⟩),.pointer (some ⟨na,0,none⟩)] 2 rfl HO.out _ rfl).drew.below iM;have hbb:Below w.heap.size w wc:=below_ad iM;have fi:=own_ad lR)
   | (refine zT (by rfl) _ _ _ (by rfl) 79 (.pointer none) 1 8 Tryz.underlying119 Tryz.infoB rfl h01 (.slice ac ss.length kc) ss.length xs (by rfl) lQ _ 2 [.pointer (some ⟨ya,0,none⟩),.pointer (some ⟨na,0,none⟩)] (by rfl) tf hm eT ?_;intro a' c' w6 dq bP dH;have fw:Below w.heap.size w w6:=but_below2 hbb bP fi;have hFg:=own_2 hbb fi dH)
   | (refine zT (by rfl) _ _ _ (by rfl) 79 (.pointer none) 1 8 Tryz.underlying119 Tryz.infoB rfl h01 (.slice ac ss.length kc) ss.length xs (by rfl) (lQ.alloc _) _ 2 [.pointer (some ⟨ya,0,none⟩),.pointer (some ⟨na,0,none⟩)] (by rfl) (zS.lits #[.pointer (some ⟨ya,0,none⟩),.pointer (some ⟨na,0,none⟩)] 2 rfl HO.out _ rfl) hm eT ?_;intro a' c' w6 dq bP dH;have fw:Below w.heap.size w w6:=but_below hbb bP fi;have hFg:=own_1 hbb fi dH))
 all_goals
  go_wp2_with fail
  go_ret
  refine ⟨_,rfl,fw,?_⟩
  have:(zc (.ask v ss y n)).length=ss.length+2:=by simp [zc]
  rw [this]
  refine dq.rep (fun g h=>.inr (hFg g h)) ?_
  show zH _ _ (qh (ss++[y,n])) _
  rw [xy]
  refine zH.append (zH.below fw (fun _ h=>.inl h) si) ?_
  exact zQ.2 ⟨_,_,rfl,Rep.below fw (fun _ h=>.inl h) hy,zH.one (Rep.below fw (fun _ h=>.inl h) hnn)⟩
theorem wQ (F:Nat->Prop) (w:World) (b:Bd) (v:Value) (h:Rep F w (kD b) v) (hn:Lim (zX b)) :
 Calls Tryz.prog 57 #[v] w (yg F w b):=by
 cases b with
 | leaf c=>exact parts_leaf F w c v h
 | ask u ss y n=>exact parts_ask F w u ss y n v h (hn.mono (by
  have:=km ss;have:=kH y;have:=kH n;simp [zX];omega))
def wD (b:Bd):Prop:=∀ (F:Nat->Prop) (w:World) (v:Value),Rep F w (kD b) v ->
 Calls Tryz.prog 155 #[v] w fun en w'=>en=.returned (.int .i64 (kB b:Nat))/\Below w.heap.size w w'
theorem depth_step (b:Bd) (hl:Lim (zX b)) (ih:∀ t,zX t<zX b->wD t):wD b:=by
 intro F w v hv
 have IH:=gl ih;clear ih
 have fH:=hl.le
 obtain ⟨a0,e⟩:=zy hv
 subst e
 have hsz:=jT b
 have ov:=yx _ b (g_ _)
 go_enter Tryz.func155,Tryz.ntmps155
 go_wp2_with fail
 refine (wQ F w b _ hv hl).mono ?_
 rintro en w1 ⟨pv,rfl,bQ,hp⟩
 obtain ⟨pa,pc,e,_,_,bJ⟩:=zE hp
 subst e
 have AT:=gl bJ;clear bJ hp
 have hlen:=km (zc b)
 have HS:=gl hsz;clear hsz
 have sZ:(zc b).length<=16777216:=by have:=HS.out;omega
 go_wp2_with fail
 go_loopw [3,9] (fun n i wr=>∃ k:Nat,k<=(zc b).length/\i=.int .i64 k/\n=.int .i64 (( kY ((zc b).take k):Nat):Int)/\Below w1.heap.size w1 wr) (fun _ i _=>(zc b).length-(intOf i).toNat)
 case atStart=>exact ⟨0,Nat.zero_le _,rfl,by simp [kY],hG _ _⟩
 case round =>
  rename_i wr
  obtain ⟨k,hk,rfl,rfl,hb⟩:=hrel
  by_cases bY:k<(zc b).length
  ·obtain ⟨ba,oa,u,d,ea,_,iR,hd,hu,hr⟩:=AT.out k bY
   subst ea
   rw [yR,Option.map_eq_some_iff] at hd
   obtain ⟨t,ht,rfl⟩:=hd
   obtain ⟨ta,eu⟩:=zy hr
   subst eu
   have hc:wr.cell? ⟨ba,oa+k,none⟩=some (.pointer (some ⟨ta,0,none⟩)):=by rw [hb.cell iR];exact hu
   have fd:=depthBs_take ht
   have rV:=ji ht
   have cI:=qT (zc b) (k+1)
   have dg:Rep _ wr (kD t) (.pointer (some ⟨ta,0,none⟩)):=Rep.below hb (fun _ h=>h) hr
   have hsz:=HS.out
   have nC:zX t<zX b:=by omega
   have hdt:=yx _ t (g_ _)
   have IH':=gl (IH.out t nC)
   have hkd:kY ((zc b).take k)<=16777216:=by have h:=gT (ts:=(zc b).take k) (fun t _=>yx _ t (g_ _));have:=qT (zc b) k;omega
   have htd:kB t<=16777216:=by omega
   have HT:=gl fd
   clear fd rV hsz ht hu hr
   go_wp2_with fail
   refine (IH'.out _ _ _ dg).mono ?_
   rintro en w2 ⟨rfl,bZ⟩
   have bU:=zzT hb bZ
   go_wp2_with fail
   all_goals
    go_roundw
    case rel=>exact ⟨k+1,by omega,by go_num,by rw [HT.out];congr 1;omega,bU⟩
    case measure=>simp [intOf];omega
  ·obtain rfl:k=(zc b).length:=by omega
   go_wp2_with fail
   go_ret
   refine ⟨vY ?_,zzT bQ hb⟩
   rw [List.take_length,vG b]
theorem depth_any (n:Nat):∀ b,zX b<=n->Lim n->wD b:=by
 induction n with
 | zero=>intro b h _;have:=kH b;omega
 | succ n ih=>exact fun b h hn=>depth_step b (hn.mono h) (fun t h'=>ih t (by omega) (hn.mono (by omega)))
def pn (b:Bd):Prop:=∀ (F:Nat->Prop) (w:World) (v:Value),Rep F w (kD b) v ->
 Calls Tryz.prog 52 #[v] w fun en w'=>en=.returned (.int .i64 (zX b:Nat))/\Below w.heap.size w w'
theorem size_step (b:Bd) (hl:Lim (zX b)) (ih:∀ t,zX t<zX b->pn t):pn b:=by
 intro F w v hv
 have IH:=gl ih;clear ih
 have fH:=hl.le
 obtain ⟨a0,e⟩:=zy hv
 subst e
 have hsz:=jT b
 go_enter Tryz.func52,Tryz.ntmps52
 go_wp2_with fail
 refine (wQ F w b _ hv hl).mono ?_
 rintro en w1 ⟨pv,rfl,bQ,hp⟩
 obtain ⟨pa,pc,e,_,_,bJ⟩:=zE hp
 subst e
 have AT:=gl bJ;clear bJ hp
 have hlen:=km (zc b)
 have HS:=gl hsz;clear hsz
 have sZ:(zc b).length<=16777216:=by have:=HS.out;omega
 go_wp2_with fail
 go_loopw [3,9] (fun n i wr=>∃ k:Nat,k<=(zc b).length/\i=.int .i64 k/\n=.int .i64 ((1+zG ((zc b).take k):Nat):Int)/\Below w1.heap.size w1 wr) (fun _ i _=>(zc b).length-(intOf i).toNat)
 case atStart=>exact ⟨0,Nat.zero_le _,rfl,by simp [zG],hG _ _⟩
 case round =>
  rename_i wr
  obtain ⟨k,hk,rfl,rfl,hb⟩:=hrel
  by_cases bY:k<(zc b).length
  ·obtain ⟨ba,oa,u,d,ea,_,iR,hd,hu,hr⟩:=AT.out k bY
   subst ea
   rw [yR,Option.map_eq_some_iff] at hd
   obtain ⟨t,ht,rfl⟩:=hd
   obtain ⟨ta,eu⟩:=zy hr
   subst eu
   have hc:wr.cell? ⟨ba,oa+k,none⟩=some (.pointer (some ⟨ta,0,none⟩)):=by rw [hb.cell iR];exact hu
   have rV:=ji ht
   have cI:=qT (zc b) (k+1)
   have dg:Rep _ wr (kD t) (.pointer (some ⟨ta,0,none⟩)):=Rep.below hb (fun _ h=>h) hr
   have hsz:=HS.out
   have nC:zX t<zX b:=by omega
   have IH':=gl (IH.out t nC)
   have hkd:1+zG ((zc b).take k)<=16777216:=by omega
   have htd:zX t<=16777216:=by omega
   have rJ:1+zG ((zc b).take k)+zX t<=16777216:=by omega
   have HT:=gl rV
   clear rV hsz ht hu hr
   go_wp2_with fail
   refine (IH'.out _ _ _ dg).mono ?_
   rintro en w2 ⟨rfl,bZ⟩
   have bU:=zzT hb bZ
   go_wp2_with fail
   all_goals
    go_roundw
    case rel=>exact ⟨k+1,by omega,by go_num,by rw [HT.out];congr 1;omega,bU⟩
    case measure=>simp [intOf];omega
  ·obtain rfl:k=(zc b).length:=by omega
   have hkd:1+zG (zc b)<=16777216:=by have:=HS.out;omega
   rw [List.take_length]
   go_wp2_with fail
   go_ret
   exact ⟨vY (by rw [HS.out]),zzT bQ hb⟩
theorem size_any (n:Nat):∀ b,zX b<=n->Lim n->pn b:=by
 induction n with
 | zero=>intro b h _;have:=kH b;omega
 | succ n ih=>exact fun b h hn=>size_step b (hn.mono h) (fun t h'=>ih t (by omega) (hn.mono (by omega)))
end Go.Proofs.YtepgfdhkkjfmhacGreatDoor
namespace Go.Proofs.YtepgfdhkkjfmhacGreatDoor
open Go.RowKit Go.Shelf
attribute [local go_sem] Oper.semAt_some
def KpB (n₀:Nat) (p:Addr) (sv:Value) (W W':World):Prop:=Below n₀ W W'/\(W.cell? p=some sv->W'.cell? p=some sv)
theorem kpB_t {n₀:Nat} {p:Addr} {sv:Value} {A B C:World} (h:KpB n₀ p sv A B) (k:KpB n₀ p sv B C):KpB n₀ p sv A C:=⟨h.1.trans k.1,fun e=>k.2 (h.2 e)⟩
theorem kpB_b {n₀:Nat} {p:Addr} {sv:Value} {w:World} (hn:n₀<=w.heap.size) (W:World) (l:Nat) (o o':Obj) (hl:w.heap.size<=l) (h:W.heap[l]? = some o) (hc:o.isCells=false) (hw:o.isWalk=false):KpB n₀ p sv W (W.putObj l o') :=
 ⟨belowK_b hn W l o o' hl h hc hw,fun e=>cell_kept e (grownBy_putObj' _ l o') (fun r e=>by cases e;exact ⟨_,h,hc⟩)⟩
def BackAt {α:Type} (ix bl:α->Nat) (n₀:Nat) (w:World) (a:Option Addr) (xs:List α):Prop :=
 ∀ k x,xs[k]? = some x->ix x+k+1=xs.length/\∃ b o,a=some ⟨b,o,none⟩/\b<n₀/\w.cell? ⟨b,o+ix x,none⟩=some (.pointer (some ⟨bl x,0,none⟩))
set_option maxRecDepth 100000 in
theorem back1_in {α:Type} (ix bl:α->Nat) (F:Fence) (n:Nat) (hf:F.fn 68) (AE:F.round=none) (hn:1<=n) (l Bs n₀ cap:Nat) (a:Option Addr) (xs:List α) (hlen:xs.length<=16777216) (J Jx:List α->World->Prop)
 (hY:∀ pre x W,J pre W->pre.length<xs.length->YieldAt F (n-1) Tryz.prog l #[.int .i64 (ix x:Nat),.pointer (some ⟨bl x,0,none⟩)] W fun e W' =>
  (e=.returned (.bool true)/\J (pre++[x]) W'/\KpB n₀ ⟨Bs,0,none⟩ (.slice a xs.length cap) W W')\/(e=.returned (.bool false)/\Jx (pre++[x]) W'))
 (W:World) (hBs:W.cell? ⟨Bs,0,none⟩=some (.slice a xs.length cap)) (hc:BackAt ix bl n₀ W a xs) (h0:J [] W) :
 CallsIn F n Tryz.prog 68 #[.func (.yield l) #[] #[],.pointer (some ⟨Bs,0,none⟩)] W fun e W'=>(∃ v,e=.returned v) /\
  ((∃ ys,ys=xs/\J ys W')\/(∃ pre,pre <+: xs/\Jx pre W')):=by
 refine callsIn_of_wp Tryz.func68 rfl hf ?_ AE
 simp only [Tryz.ntmps68,List.size_toArray,List.length_cons,List.length_nil,Nat.reduceAdd,Nat.reduceSub,Array.replicate_succ,Array.replicate_zero,List.push_toArray,List.append_toArray,List.nil_append,List.cons_append]
 have aj:IntKind.i64.wrap ((xs.length:Int)-1)=(xs.length:Int)-1:=IntWalk.i64_in _ (by omega)
 gi_wp2
 clear aj
 gi_loopw [3] (fun i wr=>Below n₀ W wr/\wr.cell? ⟨Bs,0,none⟩=some (.slice a xs.length cap)/\((i=.int .i64 (-1)/\J xs wr)\/(∃ j:Nat,j<xs.length/\i=.int .i64 (j:Nat)/\J (xs.take (xs.length-1-j)) wr)))
  (fun i _=>(intOf i+1).toNat)
 case atStart =>
  refine ⟨hG _ _,hBs,?_⟩
  cases hx:xs with
  | nil=>subst hx;exact .inl ⟨by simp,h0⟩
  | cons x ys=>subst hx;exact .inr ⟨ys.length,by simp,by simp,by simpa using h0⟩
 case round =>
  obtain ⟨f7,hbs,⟨rfl,hJs⟩ | ⟨j,hj,rfl,hJs⟩⟩:=hrel
  ·gi_wp2
   go_end0
   exact ⟨⟨_,rfl⟩,.inl ⟨_,rfl,hJs⟩⟩
  ·have hj0:(0:Int)<=(j:Int):=by omega
   obtain ⟨x,hx⟩:∃ x,xs[xs.length-1-j]? = some x:=⟨xs[xs.length-1-j],by simp [show xs.length-1-j<xs.length from by omega]⟩
   obtain ⟨e1,b,o,rfl,hb,br⟩:=hc _ x hx
   have e2:ix x=j:=by omega
   have hcx:=(f7.cell (p:=⟨b,o+ix x,none⟩) hb).trans br
   obtain ⟨fn,tmps,assign,body,hy,hR⟩:=hY _ x wr hJs (by rw [List.length_take];omega)
   rw [e2] at hcx hy
   have b7:xs.take (xs.length-1-j)++[x]=xs.take (xs.length-1-j+1):=by rw [List.take_add_one,hx];rfl
   have HX:=gl (go e1 (go e2 (go hx b7)))
   clear hx e1 e2 b7 br
   have hjl:(j:Int)<(xs.length:Int):=by omega
   have hw2:IntKind.i64.wrap ((j:Int)-1)=(j:Int)-1:=IntWalk.i64_in _ (by omega)
   gi_wp2
   refine hR.mono ?_
   rintro e W3 (⟨rfl,Ce,hk3⟩ | ⟨rfl,hJx3⟩)
   ·have hbs3:=hk3.2 hbs
    have fo:=f7.trans hk3.1
    gi_wp2
    go_roundw
    case rel =>
     refine ⟨fo,hbs3,?_⟩
     rw [HX.out.2.2.2] at Ce
     cases j with
     | zero =>
       left
       refine ⟨by simp,?_⟩
       rw [show xs.length-1-0+1=xs.length from by omega,List.take_length] at Ce
       exact Ce
     | succ j =>
       right
       refine ⟨j,by omega,by simp,?_⟩
       rw [show xs.length-1-(j+1)+1=xs.length-1-j from by omega] at Ce
       exact Ce
    case measure=>simp [intOf]
   ·gi_wp2
    refine bodyPost_ret (results_none rfl _ _ _) rfl ?_
    exact ⟨⟨_,rfl⟩,.inr ⟨_,by rw [HX.out.2.2.2];exact List.take_prefix _ _,hJx3⟩⟩
theorem back_in (F:Fence) (n:Nat) (hf:F.fn 46) (AE:F.round=none) (a:Option Addr) (len cap:Nat) (w:World) :
 CallsIn F n Tryz.prog 46 #[.slice a len cap] w fun e w'=>e=.returned (.func (.func 68) #[] #[.pointer (some ⟨w.heap.size,0,none⟩)])/\w'=w.alloc (.cells #[.slice a len cap] 56):=by
 refine callsIn_of_wp Tryz.func46 rfl hf ?_ AE
 simp only [Tryz.ntmps46,List.size_toArray,List.length_cons,List.length_nil,Nat.reduceAdd,Nat.reduceSub,Array.replicate_succ,Array.replicate_zero,List.push_toArray,List.append_toArray,List.nil_append,List.cons_append]
 gi_wp2
 go_ret
 exact ⟨rfl,rfl⟩
theorem back_stops {α:Type} (ix bl:α->Nat) (F:Fence) (n:Nat) (hf:F.fn 68) (AE:F.round=none) (hn:1<=n) (Bs n₀ cap:Nat) (a:Option Addr) (xs:List α) (hlen:xs.length<=16777216) (w:World) (hBs:Bs<w.heap.size) (hn₀:n₀<=w.heap.size)
 (hc:w.cell? ⟨Bs,0,none⟩=some (.slice a xs.length cap)) (hI:BackAt ix bl n₀ w a xs) :
 SeqStopsK F n Tryz.prog 68 #[.pointer (some ⟨Bs,0,none⟩)] (fun x:α=>#[Value.int .i64 (ix x:Nat),.pointer (some ⟨bl x,0,none⟩)]) (KpB n₀ ⟨Bs,0,none⟩ (.slice a xs.length cap)) (fun ys=>ys=xs) (fun pre=>pre <+: xs) xs.length w:=fun l J Jx W hW _ _ hY h0 =>
 back1_in ix bl F n hf AE hn l Bs n₀ cap a xs hlen J Jx hY W ((hW.cell (p:=⟨Bs,0,none⟩) hBs).trans hc) (fun k x hx=>by
  obtain ⟨h1,b,o,h2,h3,h4⟩:=hI k x hx
  exact ⟨h1,b,o,h2,h3,((hW.mono hn₀).cell (p:=⟨b,o+ix x,none⟩) h3).trans h4⟩) h0
def qR:List Ty->Bs:=List.foldl (fun s t=>[40,62,32]++zM t++[32]++s++[41]) [98]
theorem yr (pre:List Ty) (t:Ty):qR (pre++[t])=[40,62,32]++zM t++[32]++qR pre++[41]:=by simp [qR]
theorem xW:∀ ts:List Ty,qR ts.reverse=zM (.mk ts)
 | []=>by rw [jx];rfl
 | t::ts=>by rw [List.reverse_cons,yr,xW ts,jw];simp
structure ue (F:Nat->Prop) (w:World) (t0:Ty) where
 ix:Nat
 bl:Nat
 ty:Ty
 rep:Rep F w (qj ty) (.pointer (some ⟨bl,0,none⟩))
 low:zY ty<zY t0
def xo (t:Ty):Prop:=∀ (F:Nat->Prop) (w:World) (v:Value),Rep F w (qj t) v ->
 Calls Tryz.prog 23 #[v] w fun en w'=>en=.returned (str (zM t))/\Below w.heap.size w w'
theorem textFrom_len (pre:List Ty) (C:Nat) (h:∀ t∈pre,(zM t).length<=C):(qR pre).length<=1+pre.length*(C+5):=by
 have key:∀ (pre:List Ty) (s:Bs),(∀ t∈pre,(zM t).length<=C)->(pre.foldl (fun s t=>[40,62,32]++zM t++[32]++s++[41]) s).length<=s.length+pre.length*(C+5):=by
  intro pre
  induction pre with
  | nil=>intro s _;simp
  | cons t pre ih =>
    intro s h
    have h1:=ih ([40,62,32]++zM t++[32]++s++[41]) fun x hx=>h x (by simp [hx])
    have h2:=h t (by simp)
    simp only [List.foldl_cons,List.length_append,List.length_cons,List.length_nil] at h1 ⊢
    rw [Nat.add_mul]
    omega
 have:=key pre [98] h
 simpa [qR] using this
theorem items_of {F:Nat->Prop} {w:World} {t:Ty} {a:Option Addr} {n₀:Nat} (hF:∀ i,F i->i<n₀) (bJ:Ats F w t.args.length (kZ t.args) a) :
 ∃ xs:List (ue F w t),xs.length=t.args.length/\xs.map ue.ty=t.args.reverse/\BackAt ue.ix ue.bl n₀ w a xs:=by
 have key:∀ m,m<=t.args.length->∃ xs:List (ue F w t),xs.length=m/\xs.map ue.ty=(t.args.take m).reverse/\∀ k x,xs[k]? = some x->x.ix+k+1=m/\∃ b o,a=some ⟨b,o,none⟩/\b<n₀/\w.cell? ⟨b,o+x.ix,none⟩=some (.pointer (some ⟨x.bl,0,none⟩)):=by
  intro m
  induction m with
  | zero=>intro _;exact ⟨[],rfl,by simp,by simp⟩
  | succ m ih =>
    intro hm
    obtain ⟨xs,h1,h2,h3⟩:=ih (by omega)
    obtain ⟨b,o,u,d,ea,l_,f7,hd,hc,be⟩:=bJ m (by omega)
    rw [vS,Option.map_eq_some_iff] at hd
    obtain ⟨ty,ht,rfl⟩:=hd
    obtain ⟨ub,_,rfl,_⟩:=z8 be
    have ct:zY ty<zY t:=by
     have:=vB ht
     have:=jN t.args (m+1)
     have:=kN t
     omega
    refine ⟨⟨m,ub,ty,be,ct⟩::xs,by simp [h1],?_,fun k x hk=>?_⟩
    ·rw [List.map_cons,h2,List.take_add_one,ht];simp
    ·cases k with
     | zero =>
       simp at hk;subst hk
       exact ⟨rfl,b,o,ea,hF b l_,hc⟩
     | succ k =>
       obtain ⟨q1,q2⟩:=h3 k x (by simpa using hk)
       exact ⟨by omega,q2⟩
 obtain ⟨xs,h1,h2,h3⟩:=key t.args.length (g_ _)
 rw [List.take_length] at h2
 exact ⟨xs,h1,h2,fun k x hk=>by obtain ⟨q1,q2⟩:=h3 k x hk;exact ⟨by omega,q2⟩⟩
theorem gB {A B:World} (h:Below A.heap.size A B):KeepsOthers A B :=
 ⟨h.size,fun k o hk _=>(h.block k (zZ hk)).trans hk⟩
theorem keeps_round {w W w':World} {sv:Value} {R O T:Bs} {n₀:Nat} (hn:n₀<=w.heap.size) (hB:Below w.heap.size w W) (hb:Below W.heap.size W.drew w') (hc:w'.cell? ⟨w.heap.size,0,none⟩=some (str R)) (hf:w'.frozen? ⟨w.heap.size,0,none⟩=false) (hT:T=O) :
 KeepsOthers W (w'.setCell ⟨w.heap.size,0,none⟩ (str O))/\KpB w.heap.size ⟨w.heap.size+1,0,none⟩ sv W (w'.setCell ⟨w.heap.size,0,none⟩ (str O)) /\
  ((w'.setCell ⟨w.heap.size,0,none⟩ (str O)).cell? ⟨w.heap.size,0,none⟩=some (str T)/\(w'.setCell ⟨w.heap.size,0,none⟩ (str O)).frozen? ⟨w.heap.size,0,none⟩=false)/\Below w.heap.size w (w'.setCell ⟨w.heap.size,0,none⟩ (str O)):=by
 have h1:Below W.heap.size W w':=⟨hb.os,hb.tape,hb.output,hb.size,hb.block⟩
 have h2:=(h1.mono hB.size).setCell (p:=⟨w.heap.size,0,none⟩) (g_ _) (str O)
 subst hT
 refine ⟨(gB h1).trans (KeepsOthers.setCell _ _ _),⟨h2,fun e=>?_⟩,⟨World.cell?_setCell_same' _ _ _ (by rw [hc];rfl),by rw [World.frozen?_setCell];exact hf⟩,hB.trans h2⟩
 have h3:=(h1.cell (p:=⟨w.heap.size+1,0,none⟩) (hU W _ e)).trans e
 rw [World.cell?_of_block (w:=w') (hH _ _ _ _ (by simp))]
 exact h3
set_option maxRecDepth 100000 in
theorem textK_step (t:Ty) (hl:zY t<=1000) (ih:∀ t',zY t'<zY t->xo t'):xo t:=by
 intro F0 w v h0
 have h1:Rep (fun i=>F0 i/\i<w.heap.size) w (qj t) v:=(Rep.keep fun b o hf ho=>⟨⟨hf,zZ ho⟩,ho⟩).1 _ _ h0
 obtain ⟨b,s,rfl,hb,hc,hs⟩:=z8 h1
 have c1:w.cell? ⟨b,0,none⟩=some s:=by simp [World.cell?,hc]
 obtain ⟨a,cap,rfl,hn,hlen,bJ⟩:=zE hs
 have e_:t.args.length<=1000:=by have:=zl t.args;have:=kN t;omega
 clear hc hs h0 h1 hn hlen
 obtain ⟨W0,fS⟩:=zzN ((w.alloc (.cells #[str [98]] 9)).alloc (.cells #[.slice a t.args.length cap] 56))
 obtain ⟨xs,x1,x2,x3⟩:=items_of (n₀:=w.heap.size) (fun i hi=>hi.2) bJ
 refine (callsIn_wide (n:=4)).1 ?_
 refine callsIn_of_wp_marks Tryz.func23 rfl trivial ?_ rfl
 simp only [Tryz.ntmps23,List.size_toArray,List.length_cons,List.length_nil,Nat.reduceAdd,Nat.reduceSub,Array.replicate_succ,Array.replicate_zero,List.push_toArray,List.append_toArray,List.nil_append,List.cons_append]
 gi_wp2_with (refine ⟨trivial,?_⟩;gi_at_call 46;refine (back_in Fence.wide _ trivial rfl _ _ _ _).mono ?_;rintro e w' ⟨rfl,rfl⟩)
 have ed:W0.heap[w.heap.size]? = some (.cells #[str [98]] 9 (0,0)):=by rw [<- fS];exact zV (zR w _)
 have ce:W0.cell? ⟨w.heap.size,0,none⟩=some (str [98]):=by simp [World.cell?,ed]
 have hf0:W0.frozen? ⟨w.heap.size,0,none⟩=false:=by simp [World.frozen?,ed]
 have hz0:W0.heap.size=w.heap.size+2:=by rw [<- fS];simp
 have dG:W0.cell? ⟨w.heap.size+1,0,none⟩=some (.slice a xs.length cap):=by
  have h:W0.heap[w.heap.size+1]? = some (.cells #[.slice a t.args.length cap] 56 (0,0)):=by
   rw [<- fS]
   have:=zR (w.alloc (.cells #[str [98]] 9)) (.cells #[.slice a t.args.length cap] 56)
   rwa [zK] at this
  simp [World.cell?,h,x1]
 have sx:Below w.heap.size w W0:=by rw [<- fS];exact ((hG _ w).alloc (g_ _) _).alloc (by simp) _
 have oe:BackAt ue.ix ue.bl w.heap.size W0 a xs:=fun k x hx=>by
  obtain ⟨q1,b,o,q2,q3,q4⟩:=x3 k x hx
  exact ⟨q1,b,o,q2,q3,(sx.cell (p:=⟨b,o+x.ix,none⟩) q3).trans q4⟩
 have hx1000:xs.length<=1000:=by omega
 have sP:qR (xs.map ue.ty)=zM t:=by rw [x2,xW];cases t;rfl
 have IH:=gl ih
 clear ih
 refine wpIn_rangeFunc_ownF rfl (by omega) (gf:=68) (lb:=#[.pointer (some ⟨w.heap.size+1,0,none⟩)]) rfl trivial (enters_of Tryz.func68 (by kernel_rfl) rfl)
  (back_stops (α:=ue (fun i=>F0 i/\i<w.heap.size) w t) ue.ix ue.bl Fence.wide _ trivial rfl (by omega) (w.heap.size+1) w.heap.size cap a xs (by omega) W0 (by omega) (by omega) dG oe) kpB_t (kpB_b (by omega)) (hG _ _) (fun _=>rfl)
  (fun pre W=>(W.cell? ⟨w.heap.size,0,none⟩=some (str (qR (pre.map ue.ty)))/\W.frozen? ⟨w.heap.size,0,none⟩=false)/\Below w.heap.size w W)
  (fun _ _ _=>False)
  (OwnFrom.and (Own.from (fun s A B row hs hg hr=>⟨cell_kept hs.1 hg hr,(frozen_kept hs.1 hg hr).trans hs.2⟩) _) (ownFrom_below (g_ _) (by omega)))
  (fun _ _ _ _ _ hs _ _=>hs)
  ⟨⟨ce,hf0⟩,sx⟩
  (fun x=>{ tmps:=#[.pointer (some ⟨b,0,none⟩),undef,str [],.pointer (some ⟨w.heap.size,0,none⟩),undef,.pointer (some ⟨x.bl,0,none⟩),.pointer (some ⟨b,0,none⟩),.pointer (some ⟨b,0,none⟩),.pointer (some ⟨b,0,none⟩),.slice a t.args.length cap,.func (.func 68) #[] #[.pointer (some ⟨w.heap.size+1,0,none⟩)],.int .i64 (x.ix:Nat),.pointer (some ⟨x.bl,0,none⟩),undef,undef,undef,undef,undef,undef,undef,undef],defers:=[] }) ?assign ?body ?done ?stop
 case assign =>
  intro l x W K hK
  gi_wp2
  exact hK
 case body =>
  rintro l pre x W ⟨⟨hc,hf⟩,hB⟩ bG
  have oR:Tryz.prog.follows .mixedOrders=true:=by kernel_rfl
  have hlx:(zM x.ty).length<=3000:=by have:=kO 1000 x.ty (by have:=x.low;omega);have:=x.low;omega
  have cI:(qR (pre.map ue.ty)).length<=1+pre.length*(3000+5):=by
   have:=textFrom_len (pre.map ue.ty) 3000 fun t' d8=>by
    obtain ⟨y,_,rfl⟩:=List.mem_map.1 d8
    have:=kO 1000 y.ty (by have:=y.low;omega);have:=y.low;omega
   rwa [List.length_map] at this
  have hne:qR ((pre++[x]).map ue.ty)=[40,62,32]++zM x.ty++[32]++qR (pre.map ue.ty)++[41]:=by rw [List.map_append,List.map_cons,List.map_nil,yr]
  have AC:Rep (fun i=>F0 i/\i<w.heap.size) W (qj x.ty) (.pointer (some ⟨x.bl,0,none⟩)):=(Rep.keep fun b o hf ho=>⟨hf,by rw [hB.block b hf.2];exact ho⟩).1 _ _ x.rep
  have C1:Hid (∀ X,X=zM x.ty->Calls Tryz.prog 23 #[.pointer (some ⟨x.bl,0,none⟩)] W.drew fun en w'=>en=.returned (str X)/\Below W.heap.size W.drew w'):=by
   show ∀ X,_->_
   rintro X rfl
   exact IH.out x.ty x.low _ W.drew _ ((Rep.keep (w:=W) (w':=W.drew) fun _ _ hf ho=>⟨hf,ho⟩).1 _ _ AC)
  obtain ⟨X,hX⟩:=zzM (zM x.ty)
  obtain ⟨R,hR⟩:=zzM (qR (pre.map ue.ty))
  rw [<- hX] at hlx hne
  rw [<- hR] at cI hne hc
  have C2:=gl (C1.out X hX)
  obtain ⟨O1,h1⟩:=zzM ([40,62,32]++X)
  obtain ⟨O2,h2⟩:=zzM (O1++[32])
  obtain ⟨O3,h3⟩:=zzM (O2++R)
  obtain ⟨O4,h4⟩:=zzM (O3++[41])
  have m1:O1.length=X.length+3:=by rw [h1];simp
  have m2:O2.length=O1.length+1:=by rw [h2];simp
  have m3:O3.length=O2.length+R.length:=by rw [h3];simp
  have fK:=fun w0=>zo (P:=Tryz.prog) [40,62,32] X (by simp;omega) w0
  have fZ:=fun w0=>zo (P:=Tryz.prog) O1 [32] (by simp;omega) w0
  have mK:=fun w0=>zo (P:=Tryz.prog) O2 R (by omega) w0
  have mZ:=fun w0=>zo (P:=Tryz.prog) O3 [41] (by simp;omega) w0
  have H4:Hid (qR ((pre++[x]).map ue.ty)=O4):=by show _=_;rw [hne,h4,h3,h2,h1]
  rw [<- h1] at fK;rw [<- h2] at fZ;rw [<- h3] at mK;rw [<- h4] at mZ
  have HB:=gl hB
  have HXX:=gl (go x3 (go oe (go dG sx)))
  clear h1 h2 h3 h4 m1 m2 m3 hX hR C1 AC hne hlx cI hB x3 oe dG sx sP x2 fS ce hf0 bJ c1
  gi_wp2
  have hcd:W.drew.cell? ⟨w.heap.size,0,none⟩=some (str R):=hc
  have hz:=hU W _ hc
  gi_region_with_o (refine ⟨trivial,?_⟩;gi_at_call 23;refine (CallsIn.inRound l (callsIn_wide.2 C2.out)).mono ?_;rintro e w' ⟨rfl,bj⟩;have BS:w'.cell? ⟨w.heap.size,0,none⟩=some (str R):=(bj.cell (p:=⟨w.heap.size,0,none⟩) hz).trans hcd;have hf':w'.frozen? ⟨w.heap.size,0,none⟩=false:=(bj.frozen (p:=⟨w.heap.size,0,none⟩) hz).trans hf)
  all_goals gi_wp2
  all_goals exact keeps_round (g_ _) HB.out bj BS hf' (by rw [H4.out])
 case done =>
  rintro D ys W hD rfl ⟨⟨hc,hf⟩,hB⟩ hK
  rw [sP] at hc
  gi_wp2
  refine ⟨by simp,.inl ⟨_,_,rfl,run_takeDeferred hK,?_⟩⟩
  exact ⟨_,results_tmp rfl _ _ _,rfl,hB.trans (belowK_b (w:=w) (g_ _) W D _ _ (by omega) hK rfl rfl)⟩
 case stop =>
  rintro D c pre W _ _ h _
  exact h.elim
theorem x5 (n:Nat):∀ t,zY t<=n->n<=1000->xo t:=by
 induction n with
 | zero=>intro t h _;have:=kr t;omega
 | succ n ih=>exact fun t h hn=>textK_step t (by omega) (fun t' h'=>ih t' (by omega) (by omega))
end Go.Proofs.YtepgfdhkkjfmhacGreatDoor
namespace Go.Proofs.YtepgfdhkkjfmhacGreatDoor
open Go.RowKit


def sizeOf' (o:Option Bd):Int:=match o with
 | some b=>(zX b:Int)
 | none=>-1
theorem xA (s text:Bs) (hs:Lim s.length) (hl:Lim text.length) (w:World) (hg:jE w) :
 Calls Tryz.prog 28 #[str s,str text] w fun en w'=>en=.returned (.int .i64 (sizeOf' (zC s text)))/\Below w.heap.size w w':=by
 have he:(uz s text).map Prod.snd=zC s text:=by
  rw [yq];cases zC s text <;> rfl
 rw [<- he];clear he
 go_enter Tryz.func28,Tryz.ntmps28
 go_wp2_with fail
 refine (vU s text w hg hs hl).mono ?_
 rintro en w1 ⟨kv,bv,rfl,bQ,hn,hy⟩
 cases hq:uz s text with
 | none =>
   obtain rfl:=hn hq
   have HQ:=gl hq;clear hq hn hy
   go_wp2_with fail
   go_ret
   exact ⟨vY (by rw [HQ.out];rfl),bQ⟩
 | some x =>
   obtain ⟨t,b⟩:=x
   obtain ⟨hk,hr⟩:=hy t b hq
   have hsz:Lim (zX b):=(show _<=_ by have:=rdTS_size hq;omega)
   have HQ:=gl hq;clear hq hn hy
   obtain ⟨ab,eb⟩:=zy hr
   subst eb
   go_wp2_with fail
   refine (size_any (zX b) b (g_ _) hsz _ _ _ hr).mono ?_
   rintro en w2 ⟨rfl,bZ⟩
   go_wp2_with fail
   go_ret
   exact ⟨vY (by rw [HQ.out];rfl),zzT bQ bZ⟩
theorem implValid_any (s text:Bs) (hs:Lim s.length) (hl:Lim text.length) (w:World) (hg:jE w) :
 Calls Tryz.prog 100 #[str s,str text] w fun en w'=>en=.returned (.bool (zC s text).isSome)/\Below w.heap.size w w':=by
 have he:(uz s text).map Prod.snd=zC s text:=by
  rw [yq];cases zC s text <;> rfl
 rw [<- he];clear he
 go_enter Tryz.func100,Tryz.ntmps100
 go_wp2_with fail
 refine (vU s text w hg hs hl).mono ?_
 rintro en w1 ⟨kv,bv,rfl,bQ,hn,hy⟩
 cases hq:uz s text with
 | none =>
   obtain rfl:=hn hq
   have HQ:=gl hq;clear hq hn hy
   go_wp2_with fail
   go_ret
   exact ⟨ret_bool (by rw [HQ.out];rfl),bQ⟩
 | some x =>
   obtain ⟨t,b⟩:=x
   obtain ⟨hk,hr⟩:=hy t b hq
   have HQ:=gl hq;clear hq hn hy
   obtain ⟨ab,eb⟩:=zy hr
   subst eb
   go_wp2_with fail
   go_ret
   exact ⟨ret_bool (by rw [HQ.out];rfl),bQ⟩
set_option maxRecDepth 100000 in
theorem digits_small (n:Nat) (hn:n<10) (w:World):Calls Tryz.prog 30 #[.int .i64 (n:Nat)] w fun en w'=>en=.returned (str (dec n))/\Below w.heap.size w w':=by
 have iX:(n:Int)<10:=by omega
 have e:=gl (qG hn)
 have hcv:=xh hn w
 go_enter Tryz.func30,Tryz.ntmps30
 go_wp2_with fail
 go_ret
 exact ⟨by rw [e.out];rfl,(hG _ _).alloc (g_ _) _⟩
set_option maxRecDepth 100000 in
theorem digits_step (n:Nat) (hn:¬ n<10) (hl:n<=16777216) (ih:∀ w,Calls Tryz.prog 30 #[.int .i64 ((n / 10:Nat):Int)] w fun en w'=>en=.returned (str (dec (n / 10)))/\Below w.heap.size w w') (w:World) :
 Calls Tryz.prog 30 #[.int .i64 (n:Nat)] w fun en w'=>en=.returned (str (dec n))/\Below w.heap.size w w':=by
 have IH:=gl ih;clear ih
 have iX:¬ (n:Int)<10:=by omega
 have e:=gl (qL hn)
 have q1:(n:Int).tdiv 10=((n / 10:Nat):Int):=xG n 10
 have q2:(n:Int).tmod 10=((n % 10:Nat):Int):=uQ n 10
 have hR:n % 10<10:=Nat.mod_lt _ (by omega)
 have hQ:n / 10<=16777216:=h_ (Nat.div_le_self _ _) hl
 have hD:(dec (n / 10)).length<=8:=qM 7 (n / 10) (by omega)
 generalize n % 10=R at *
 generalize n / 10=Q at *
 have q3:IntKind.i64.wrap (Q:Int)=(Q:Int):=vD Q (by omega)
 have q4:IntKind.i64.wrap (48+(R:Int))=48+(R:Int):=by rw [show (48:Int)+R=((48+R:Nat):Int) from by omega];exact vD _ (by omega)
 have q5:IntKind.u8.wrap (48+(R:Int))=48+(R:Int):=by simp [IntKind.wrap,IntKind.bits,IntKind.signed];omega
 have HR:=gl hR
 have aG:=fun w0=>zo (P:=Tryz.prog) (dec Q) [jy R] (by simp;omega) w0
 have hcv:=conv_newd hR w
 have hcv0:=fun w0=>xh hR w0
 go_enter Tryz.func30,Tryz.ntmps30
 go_wp2_with fail
 go_region_with (first
  | (go_at_call 30;refine (IH.out (w.alloc (.cells #[.int .u8 (48+(R:Int))] 5)).drew).mono ?_;rintro en w2 ⟨rfl,bZ⟩;have hcv2:=conv_kept HR.out bZ;have hbb:=Below.trans (((hG w.heap.size w).alloc (g_ _) (.cells #[.int .u8 (48+(R:Int))] 5)).drew) (bZ.mono (ye w _)))
  | (go_at_call 30;refine (IH.out w.drew).mono ?_;rintro en w2 ⟨rfl,bZ⟩;have hbb:=Below.trans ((hG w.heap.size w).drew) bZ))
 all_goals
  go_wp2_with fail
  go_ret
  refine ⟨by rw [e.out];rfl,?_⟩
  first
   | exact hbb
   | exact hbb.alloc hbb.size _
theorem digits_any (n:Nat):n<=16777216->∀ w,Calls Tryz.prog 30 #[.int .i64 (n:Nat)] w fun en w'=>en=.returned (str (dec n))/\Below w.heap.size w w':=by
 induction n using Nat.strongRecOn with
 | _ n ih =>
   intro hl w
   by_cases h:n<10
   ·exact digits_small n h w
   ·exact digits_step n h hl (ih (n / 10) (Nat.div_lt_self (by omega) (by omega)) (h_ (Nat.div_le_self _ _) hl)) w
theorem endLine_any (s text:Bs) (sz:Nat) (hsz:sz<=1000) (w:World) (C:∀ y,Below w.heap.size w y->Calls Tryz.prog 28 #[str s,str text] y fun en w'=>en=.returned (.int .i64 (sz:Nat))/\Below y.heap.size y w') :
 Calls Tryz.prog 10 #[str s,str text] w fun en w'=>en=.returned (str ([110,111,100,101,115,32]++dec sz++[10]))/\Below w.heap.size w w':=by
 have CC:=gl C
 have CD:=gl (digits_any sz (by omega))
 have ov:(dec sz).length<=4:=qM 3 sz (by omega)
 obtain ⟨O1,aC⟩:∃ O:Bs,[110,111,100,101,115,32]++dec sz=O:=⟨_,rfl⟩
 obtain ⟨O2,iS⟩:∃ O:Bs,O1++[10]=O:=⟨_,rfl⟩
 have s1:=fun w0=>zo (P:=Tryz.prog) [110,111,100,101,115,32] (dec sz) (by simp;omega) w0
 rw [aC] at s1
 have Bn:O1.length<=10:=by rw [<- aC];simp;omega
 have s2:=fun w0=>zo (P:=Tryz.prog) O1 [10] (by simp;omega) w0
 rw [iS] at s2
 have HO:=gl (show [110,111,100,101,115,32]++dec sz++[10]=O2 by rw [aC,iS])
 obtain ⟨D,hD⟩:=zzN (dec sz)
 rw [hD] at s1 CD HO
 rw [hD]
 clear C aC iS Bn ov hD
 go_enter Tryz.func10,Tryz.ntmps10
 go_wp2_with fail
 (with_reducible refine (CC.out _ (hG _ _)).mono ?_)
 rintro en w1 ⟨rfl,bQ⟩
 have cD:=gl bQ
 clear bQ
 go_wp2_with fail
 (with_reducible refine (CD.out _).mono ?_)
 rintro en w2 ⟨rfl,bZ⟩
 have cw:=gl (zzT cD.out bZ)
 clear bZ
 go_wp2_with fail
 go_ret
 exact ⟨by show Ending.returned (str O2)=_;rw [<- HO.out];rfl,cw.out⟩
inductive Mn where
 | op (o:Nat) (t:Ty)
 | bd (t:Ty) (b:Bd) (env:List Mn)
structure Gf where
 yes:Bd
 no:Bd
 env:List Mn
def zq:Nat->List Ty->List Mn
 | _,[]=>[]
 | n,t::ts=>.op n t::zq (n+1) ts
def kL (env:List Mn):List Ty->List Bd->List Mn
 | t::ts,s::ss=>.bd t s env::kL env ts ss
 | _,_=>[]
def zt (ev:Nat->Bd->List Mn->Nat->List Gf->Option (Bd×Nat)) (env:List Mn) (n:Nat):Nat->List Ty->List Bd->Option (List Bd×Nat)
 | l,t::ts,s::ss=>do
   let (x,l1)<-ev l s (env++zq n t.args) (n+t.args.length) []
   let (xs,l2)<-zt ev env n l1 ts ss
   some (x::xs,l2)
 | l,_,_=>some ([],l)
def ev:Nat->Nat->Bd->List Mn->Nat->List Gf->Option (Bd×Nat)
 | 0,_,_,_,_,_=>none
 | d+1,l,b,env,n,st=>match l with
   | 0=>none
   | l+1=>match b with
     | .leaf c=>if c=117 then some (.leaf c,l) else match st with
       | []=>some (.leaf c,l)
       | f::st'=>ev d l (if c=116 then f.yes else f.no) f.env n st'
     | .ask v ss y no=>match env[v]? with
       | none=>none
       | some (.bd t b' e)=>ev d l b' (e++kL env t.args ss) n (⟨y,no,env⟩::st)
       | some (.op o t)=>do
         let (xs,l1)<-zt (ev d) env n l t.args ss
         let (x,l2)<-ev d l1 y env n st
         let (z,l3)<-ev d l2 no env n st
         some (.ask o xs x z,l3)
def zg (ev:Nat->Nat->Bd->List Mn->Nat->List Gf->Option (Bd×Nat×Nat)) (env:List Mn) (n:Nat):Nat->Nat->List Ty->List Bd->Option (List Bd×Nat×Nat)
 | k,l,t::ts,s::ss=>do
   let (x,k1,l1)<-ev k l s (env++zq n t.args) (n+t.args.length) []
   let (xs,k2,l2)<-zg ev env n k1 l1 ts ss
   some (x::xs,k2,l2)
 | k,l,_,_=>some ([],k,l)
def evN:Nat->Nat->Nat->Bd->List Mn->Nat->List Gf->Option (Bd×Nat×Nat)
 | 0,_,_,_,_,_,_=>none
 | d+1,k,l,b,env,n,st=>match l with
   | 0=>none
   | l+1=>match k with
     | 0=>none
     | k+1=>match b with
       | .leaf c=>if c=117 then some (.leaf c,k,l) else match st with
         | []=>some (.leaf c,k,l)
         | f::st'=>evN d (k+1) l (if c=116 then f.yes else f.no) f.env n st'
       | .ask v ss y no=>match env[v]? with
         | none=>none
         | some (.bd t b' e)=>evN d (k+1) l b' (e++kL env t.args ss) n (⟨y,no,env⟩::st)
         | some (.op o t)=>do
           let (xs,k1,l1)<-zg (evN d) env n k l t.args ss
           let (x,k2,l2)<-evN d k1 l1 y env n st
           let (z,k3,l3)<-evN d k2 l2 no env n st
           some (.ask o xs x z,k3,l3)
def uf (k:Nat):Option (Bd×Nat)->Option (Bd×Nat×Nat)
 | none=>none
 | some (b,l)=>if zX b<=k then some (b,k-zX b,l) else none
def uH (k:Nat):Option (List Bd×Nat)->Option (List Bd×Nat×Nat)
 | none=>none
 | some (bs,l)=>if zG bs<=k then some (bs,k-zG bs,l) else none
theorem wE (k:Nat):uf k none=none:=rfl
theorem gq {k l:Nat} {b:Bd} (h:zX b<=k):uf k (some (b,l))=some (b,k-zX b,l):=by simp only [uf];rw [if_pos h]
theorem yL {k l:Nat} {b:Bd} (h:¬ zX b<=k):uf k (some (b,l))=none:=by simp only [uf];rw [if_neg h]
theorem capNs_none (k:Nat):uH k none=none:=rfl
theorem capNs_pos {k l:Nat} {b:List Bd} (h:zG b<=k):uH k (some (b,l))=some (b,k-zG b,l):=by simp only [uH];rw [if_pos h]
theorem capNs_neg {k l:Nat} {b:List Bd} (h:¬ zG b<=k):uH k (some (b,l))=none:=by simp only [uH];rw [if_neg h]
theorem gS (d:Nat) (ih:∀ k l b env n st,evN d k l b env n st=uf k (ev d l b env n st)) (env:List Mn) (n:Nat) :
 ∀ (ts:List Ty) (ss:List Bd) (k l:Nat),zg (evN d) env n k l ts ss=uH k (zt (ev d) env n l ts ss)
 | [],ss,k,l=>by cases ss <;> simp [zg,zt,uH,zG]
 | t::ts,[],k,l=>by simp [zg,zt,uH,zG]
 | t::ts,s::ss,k,l=>by
   simp only [zg,zt,Option.bind_eq_bind,ih]
   cases h1:ev d l s (env++zq n t.args) (n+t.args.length) [] with
   | none=>simp [uf,uH]
   | some x =>
     obtain ⟨x,l1⟩:=x
     simp only [uf,Option.bind_some]
     by_cases hx:zX x<=k
     ·rw [if_pos hx]
      simp only [Option.bind_some,gS d ih env n ts ss]
      cases h2:zt (ev d) env n l1 ts ss with
      | none=>simp [uH]
      | some y =>
        obtain ⟨xs,l2⟩:=y
        have hsz:zG (x::xs)=zX x+zG xs:=by simp only [zG]
        simp only [uH,Option.bind_some]
        by_cases hy:zG xs<=k-zX x
        ·rw [if_pos hy,if_pos (by omega),hsz];simp;omega
        ·rw [if_neg hy,if_neg (by omega)];rfl
     ·rw [if_neg hx]
      cases h2:zt (ev d) env n l1 ts ss with
      | none=>simp [uH]
      | some y =>
        obtain ⟨xs,l2⟩:=y
        have hsz:zG (x::xs)=zX x+zG xs:=by simp only [zG]
        simp only [uH,Option.bind_some]
        rw [if_neg (by omega)];rfl
theorem evN_eq (d:Nat):∀ (k l:Nat) (b:Bd) (env:List Mn) (n:Nat) (st:List Gf),evN d k l b env n st=uf k (ev d l b env n st):=by
 induction d with
 | zero=>intro k l b env n st;simp [evN,ev,uf]
 | succ d ih =>
   intro k l b env n st
   rw [evN.eq_def,ev.eq_def]
   cases l with
   | zero=>simp [uf]
   | succ l =>
     cases k with
     | zero =>
       simp only
       cases h:(match b with
     | .leaf c=>if c=117 then some (.leaf c,l) else match st with
       | []=>some (.leaf c,l)
       | f::st'=>ev d l (if c=116 then f.yes else f.no) f.env n st'
     | .ask v ss y no=>match env[v]? with
       | none=>none
       | some (.bd t b' e)=>ev d l b' (e++kL env t.args ss) n (⟨y,no,env⟩::st)
       | some (.op o t)=>do
         let (xs,l1)<-zt (ev d) env n l t.args ss
         let (x,l2)<-ev d l1 y env n st
         let (z,l3)<-ev d l2 no env n st
         some (.ask o xs x z,l3):Option (Bd×Nat)) with
       | none=>simp [uf]
       | some x=>obtain ⟨x,l'⟩:=x;have:=kH x;simp only [uf];rw [if_neg (by omega)]
     | succ k =>
       simp only
       cases b with
       | leaf c =>
         simp only
         by_cases hc:c=117
         ·rw [if_pos hc,if_pos hc];simp [uf,zX]
         ·rw [if_neg hc,if_neg hc]
          cases st with
          | nil=>simp [uf,zX]
          | cons f st'=>simp only;exact ih _ _ _ _ _ _
       | ask v ss y no =>
         simp only
         cases hv:env[v]? with
         | none=>simp [uf]
         | some m =>
           cases m with
           | bd t b' e=>simp only;exact ih _ _ _ _ _ _
           | op o t =>
             simp only [Option.bind_eq_bind,gS d ih,ih]
             cases h1:zt (ev d) env n l t.args ss with
             | none=>simp only [capNs_none,wE,Option.bind_none]
             | some x =>
               obtain ⟨xs,l1⟩:=x
               by_cases si:zG xs<=k
               ·simp only [capNs_pos si,Option.bind_some]
                cases h2:ev d l1 y env n st with
                | none=>simp only [wE,Option.bind_none]
                | some x =>
                  obtain ⟨x,l2⟩:=x
                  by_cases hx:zX x<=k-zG xs
                  ·simp only [gq hx,Option.bind_some]
                   cases h3:ev d l2 no env n st with
                   | none=>simp only [wE,Option.bind_none]
                   | some z =>
                     obtain ⟨z,l3⟩:=z
                     have hsz:zX (.ask o xs x z)=1+(zG xs+(zX x+zX z)):=by simp only [zX]
                     by_cases hz:zX z<=k-zG xs-zX x
                     ·simp only [gq hz,Option.bind_some]
                      rw [gq (by omega),hsz]
                      simp;omega
                     ·simp only [yL hz,Option.bind_some,Option.bind_none]
                      rw [yL (by omega)]
                  ·simp only [yL hx,Option.bind_some,Option.bind_none]
                   cases h3:ev d l2 no env n st with
                   | none=>rfl
                   | some z =>
                     obtain ⟨z,l3⟩:=z
                     have hsz:zX (.ask o xs x z)=1+(zG xs+(zX x+zX z)):=by simp only [zX]
                     simp only [Option.bind_some]
                     rw [yL (by omega)]
               ·simp only [capNs_neg si,Option.bind_some,Option.bind_none]
                cases h2:ev d l1 y env n st with
                | none=>rfl
                | some x =>
                  obtain ⟨x,l2⟩:=x
                  simp only [Option.bind_some]
                  cases h3:ev d l2 no env n st with
                  | none=>rfl
                  | some z =>
                    obtain ⟨z,l3⟩:=z
                    have hsz:zX (.ask o xs x z)=1+(zG xs+(zX x+zX z)):=by simp only [zX]
                    simp only [Option.bind_some]
                    rw [yL (by omega)]
mutual
def vw (H:List Ty):Mn->Ty->Prop
 | .op o t,t'=>t=t'/\H[o]? = some t
 | .bd t b e,t'=>t=t'/\∃ h,kh H e h/\qA (h++t.args) b
def kh (H:List Ty):List Mn->List Ty->Prop
 | [],h=>h=[]
 | m::ms,h=>∃ t ts,h=t::ts/\vw H m t/\kh H ms ts
end
theorem mnFits_at {H:List Ty}:∀ (cs:List Mn) (h:List Ty),kh H cs h->∀ (i:Nat) (t:Ty),h[i]? = some t->∃ c,cs[i]? = some c/\vw H c t
 | [],h,k,i,c,hc=>by rw [kh] at k;subst k;simp at hc
 | c::cs,h,k,i,t',hc=>by
   rw [kh] at k
   obtain ⟨t,ts,rfl,k1,k2⟩:=k
   cases i with
   | zero=>simp at hc;subst hc;exact ⟨c,rfl,k1⟩
   | succ i=>simp at hc;simpa using mnFits_at cs ts k2 i t' hc
theorem vl {H:List Ty}:∀ (xs bs:List Mn) (h k:List Ty),kh H xs h->kh H bs k->kh H (xs++bs) (h++k)
 | [],bs,h,k,h1,h2=>by rw [kh] at h1;subst h1;simpa using h2
 | a::xs,bs,h,k,h1,h2=>by
   rw [kh] at h1
   obtain ⟨t,ts,rfl,k1,k2⟩:=h1
   simp only [List.cons_append]
   rw [kh]
   exact ⟨t,ts++k,rfl,k1,vl xs bs ts k k2 h2⟩
mutual
theorem mnFit_more {H X:List Ty}:∀ (m:Mn) (t:Ty),vw H m t->vw (H++X) m t
 | .op o t,t',h=>by
   rw [vw] at *
   exact ⟨h.1,by rw [List.getElem?_append_left (List.getElem?_eq_some_iff.1 h.2).1];exact h.2⟩
 | .bd t b e,t',h=>by
   rw [vw] at *
   obtain ⟨h1,k,h2,h3⟩:=h
   exact ⟨h1,k,yC e k h2,h3⟩
theorem yC {H X:List Ty}:∀ (ms:List Mn) (h:List Ty),kh H ms h->kh (H++X) ms h
 | [],h,k=>by rw [kh] at *;exact k
 | m::ms,h,k=>by
   rw [kh] at *
   obtain ⟨t,ts,rfl,k1,k2⟩:=k
   exact ⟨t,ts,rfl,mnFit_more m t k1,yC ms ts k2⟩
end
theorem wJ {H:List Ty}:∀ (ts:List Ty) (n:Nat),(∀ i t,ts[i]? = some t->H[n+i]? = some t)->kh H (zq n ts) ts
 | [],n,h=>by rw [zq,kh]
 | t::ts,n,h=>by
   rw [zq,kh]
   refine ⟨t,ts,rfl,?_,wJ ts (n+1) fun i t' hi=>?_⟩
   ·rw [vw];exact ⟨rfl,by have:=h 0 t rfl;simpa using this⟩
   ·have:=h (i+1) t' (by simpa using hi)
    rw [show n+1+i=n+(i+1) from by omega];exact this
theorem opens_fit_end (H:List Ty) (ts:List Ty):kh (H++ts) (zq H.length ts) ts :=
 wJ ts H.length fun i t h=>by rw [List.getElem?_append_right (by omega),Nat.add_sub_cancel_left];exact h
theorem owns_fit {H h:List Ty} {env:List Mn} (he:kh H env h):∀ (ts:List Ty) (ss:List Bd),kg (kW h ts) ss->kh H (kL env ts ss) ts
 | [],ss,hf=>by
   rw [kL]
   ·rw [kh]
   ·intros;contradiction
 | t::ts,[],hf=>by
   rw [kg] at hf;simp [kW] at hf
 | t::ts,s::ss,hf=>by
   rw [kg] at hf
   obtain ⟨h',mW,e,h1,h2⟩:=hf
   simp only [kW,List.map_cons,List.cons.injEq] at e
   obtain ⟨rfl,rfl⟩:=e
   rw [kL,kh]
   refine ⟨t,ts,rfl,?_,owns_fit he ts ss h2⟩
   rw [vw]
   exact ⟨rfl,h,he,h1⟩
def gfFit (H:List Ty) (f:Gf):Prop:=∃ h,kh H f.env h/\qA h f.yes/\qA h f.no
structure kn (H:List Ty) (b:Bd) (env:List Mn) (st:List Gf):Prop where
 fit:∃ h,kh H env h/\qA h b
 frames:∀ f∈st,gfFit H f
theorem kn.back {H:List Ty} {b:Bd} {env:List Mn} {f:Gf} {st:List Gf} (h:kn H b env (f::st)) (c:UInt8):kn H (if c=116 then f.yes else f.no) f.env st:=by
 obtain ⟨k,k1,k2,k3⟩:=h.frames f (by simp)
 refine ⟨⟨k,k1,?_⟩,fun g hg=>h.frames g (by simp [hg])⟩
 split
 ·exact k2
 ·exact k3
theorem kn.ask {H:List Ty} {v:Nat} {ss:List Bd} {y no:Bd} {env:List Mn} {st:List Gf} (h:kn H (.ask v ss y no) env st) :
 ∃ m t hh,env[v]? = some m/\vw H m t/\kh H env hh/\kg (kW hh t.args) ss/\qA hh y/\qA hh no:=by
 obtain ⟨⟨hh,h1,h2⟩,_⟩:=h
 rw [qA] at h2
 obtain ⟨t,k1,k2,k3,k4⟩:=h2
 obtain ⟨m,m1,m2⟩:=mnFits_at _ _ h1 v t k1
 exact ⟨m,t,hh,m1,m2,h1,k2,k3,k4⟩
theorem kn.call {H:List Ty} {v:Nat} {ss:List Bd} {y no:Bd} {env:List Mn} {st:List Gf} (h:kn H (.ask v ss y no) env st) {t:Ty} {b':Bd} {e:List Mn} (he:env[v]? = some (.bd t b' e)) :
 ss.length=t.args.length/\kn H b' (e++kL env t.args ss) (⟨y,no,env⟩::st):=by
 obtain ⟨m,t',hh,m1,m2,m3,m4,m5,m6⟩:=h.ask
 rw [he] at m1;simp at m1;subst m1
 rw [vw] at m2
 obtain ⟨rfl,k,k1,k2⟩:=m2
 refine ⟨?_,⟨k++t.args,vl _ _ _ _ k1 (owns_fit m3 _ _ m4),k2⟩,fun f hf=>?_⟩
 ·have:=jk _ _ m4;rw [vP] at this;exact this.symm
 ·rcases List.mem_cons.1 hf with rfl | hf
  ·exact ⟨hh,m3,m5,m6⟩
  ·exact h.frames f hf
theorem kn.keep {H:List Ty} {v:Nat} {ss:List Bd} {y no:Bd} {env:List Mn} {st:List Gf} (h:kn H (.ask v ss y no) env st) {t:Ty} {o:Nat} (he:env[v]? = some (.op o t)) :
 ss.length=t.args.length/\H[o]? = some t/\(∀ (k:Nat) (a:Ty) (s:Bd),t.args[k]? = some a->ss[k]? = some s->kn (H++a.args) s (env++zq H.length a.args) [])/\kn H y env st/\kn H no env st:=by
 obtain ⟨m,t',hh,m1,m2,m3,m4,m5,m6⟩:=h.ask
 rw [he] at m1;simp at m1;subst m1
 rw [vw] at m2
 obtain ⟨rfl,k1⟩:=m2
 have hl:=jk _ _ m4
 rw [vP] at hl
 refine ⟨hl.symm,k1,fun k a s ha hs=>?_,⟨⟨hh,m3,m5⟩,h.frames⟩,⟨⟨hh,m3,m6⟩,h.frames⟩⟩
 obtain ⟨x,hx,hf⟩:=xL _ _ m4 k s hs
 have eM:x=hh++a.args:=by simp [kW,ha] at hx;exact hx.symm
 subst eM
 exact ⟨⟨hh++a.args,vl _ _ _ _ (yC _ _ m3) (opens_fit_end H a.args),hf⟩,by simp⟩
theorem gR {H:List Ty} {env:List Mn} {d:Nat} (ih:∀ (H:List Ty) (l:Nat) (b:Bd) (env:List Mn) (st:List Gf) (out:Bd) (l':Nat),kn H b env st->ev d l b env H.length st=some (out,l')->qA H out) :
 ∀ (ts:List Ty) (ss:List Bd) (l:Nat) (kU:List Bd) (l':Nat),ss.length=ts.length->(∀ (k:Nat) (a:Ty) (s:Bd),ts[k]? = some a->ss[k]? = some s->kn (H++a.args) s (env++zq H.length a.args) []) ->
   zt (ev d) env H.length l ts ss=some (kU,l')->kg (kW H ts) kU
 | [],[],l,kU,l',hl,hk,h=>by simp [zt] at h;obtain ⟨rfl,rfl⟩:=h;simp [kW,kg]
 | [],s::ss,l,kU,l',hl,hk,h=>by simp at hl
 | t::ts,[],l,kU,l',hl,hk,h=>by simp at hl
 | t::ts,s::ss,l,kU,l',hl,hk,h=>by
   simp only [zt,Option.bind_eq_bind,Option.bind_eq_some_iff,Prod.exists] at h
   obtain ⟨x,l1,h1,xs,l2,h2,h3⟩:=h
   simp at h3;obtain ⟨rfl,rfl⟩:=h3
   have k0:=hk 0 t s rfl rfl
   have h1':ev d l s (env++zq H.length t.args) (H++t.args).length []=some (x,l1):=by rw [List.length_append];exact h1
   refine ⟨H++t.args,kW H ts,rfl,ih _ _ _ _ _ _ _ k0 h1',gR ih ts ss l1 xs l2 (by simpa using hl) (fun k a s' ha hs=>hk (k+1) a s' (by simpa using ha) (by simpa using hs)) h2⟩
theorem ev_fit (d:Nat):∀ (H:List Ty) (l:Nat) (b:Bd) (env:List Mn) (st:List Gf) (out:Bd) (l':Nat),kn H b env st->ev d l b env H.length st=some (out,l')->qA H out:=by
 induction d with
 | zero=>intro H l b env st out l' _ h;simp [ev] at h
 | succ d ih =>
   intro H l b env st out l' hf h
   rw [ev.eq_def] at h
   cases l with
   | zero=>simp at h
   | succ l =>
     simp only at h
     cases b with
     | leaf c =>
       simp only at h
       split at h
       ·simp at h;obtain ⟨rfl,_⟩:=h;simp [qA]
       ·cases st with
        | nil=>simp at h;obtain ⟨rfl,_⟩:=h;simp [qA]
        | cons f st'=>exact ih _ _ _ _ _ _ _ (hf.back c) h
     | ask v ss y no =>
       simp only at h
       cases hv:env[v]? with
       | none=>rw [hv] at h;simp at h
       | some m =>
         rw [hv] at h
         cases m with
         | bd t b' e=>exact ih _ _ _ _ _ _ _ (hf.call hv).2 h
         | op o t =>
           simp only [Option.bind_eq_bind,Option.bind_eq_some_iff,Prod.exists] at h
           obtain ⟨xs,l1,h1,x,l2,h2,z,l3,h3,h4⟩:=h
           simp at h4;obtain ⟨rfl,_⟩:=h4
           obtain ⟨k1,k2,k3,k4,k5⟩:=hf.keep hv
           rw [qA]
           exact ⟨t,k2,gR ih _ _ _ _ _ k1 k3 h1,ih _ _ _ _ _ _ _ k4 h2,ih _ _ _ _ _ _ _ k5 h3⟩
mutual
def wfB:Bd->Prop
 | .leaf c=>c=116\/c=102\/c=117
 | .ask _ ss y n=>vr ss/\wfB y/\wfB n
def vr:List Bd->Prop
 | []=>True
 | b::bs=>wfB b/\vr bs
end
theorem wO:∀ (xs ys:List Bd),vr xs->vr ys->vr (xs++ys)
 | [],ys,_,h=>h
 | x::xs,ys,h,k=>by rw [vr] at h;exact ⟨h.1,wO xs ys h.2 k⟩
theorem wfBs_at:∀ (xs:List Bd),vr xs->∀ (k:Nat) (b:Bd),xs[k]? = some b->wfB b
 | [],_,k,b,h=>by simp at h
 | x::xs,hw,k,b,h=>by
   rw [vr] at hw
   cases k with
   | zero=>simp at h;subst h;exact hw.1
   | succ k=>exact wfBs_at xs hw.2 k b (by simpa using h)
theorem dec_ne (n:Nat):dec n≠[]:=by
 by_cases h:n<10
 ·rw [qG h];simp
 ·rw [qL h];simp
theorem dig_digit {r:Nat} (h:r<10):dig (jy r)=true:=by
 rcases (by omega:r=0\/r=1\/r=2\/r=3\/r=4\/r=5\/r=6\/r=7\/r=8\/r=9) with rfl | rfl | rfl | rfl | rfl | rfl | rfl | rfl | rfl | rfl <;> rfl
theorem wC {r:Nat} (h:r<10):(jy r).toNat-48=r:=by
 rcases (by omega:r=0\/r=1\/r=2\/r=3\/r=4\/r=5\/r=6\/r=7\/r=8\/r=9) with rfl | rfl | rfl | rfl | rfl | rfl | rfl | rfl | rfl | rfl <;> rfl
theorem dec_all (n:Nat):∀ c∈dec n,dig c=true:=by
 induction n using Nat.strongRecOn with
 | _ n ih =>
   by_cases h:n<10
   ·rw [qG h];intro c hc;simp at hc;subst hc;exact dig_digit h
   ·rw [qL h]
    intro c hc
    rcases List.mem_append.1 hc with hc | hc
    ·exact ih (n / 10) (Nat.div_lt_self (by omega) (by omega)) c hc
    ·simp at hc;subst hc;exact dig_digit (Nat.mod_lt _ (by omega))
theorem dec_val (n:Nat):qK (dec n)=n:=by
 induction n using Nat.strongRecOn with
 | _ n ih =>
   by_cases h:n<10
   ·rw [qG h];unfold qK;simp only [List.foldl_cons,List.foldl_nil];rw [wC h];omega
   ·rw [qL h,uL,ih (n / 10) (Nat.div_lt_self (by omega) (by omega)),wC (Nat.mod_lt _ (by omega))];omega
theorem dec_head (n:Nat):1<(dec n).length->(dec n).head?≠some 48:=by
 induction n using Nat.strongRecOn with
 | _ n ih =>
   by_cases h:n<10
   ·rw [qG h];simp
   ·rw [qL h]
    intro _
    have hne:=dec_ne (n / 10)
    obtain ⟨c,cs,hc⟩:∃ c cs,dec (n / 10)=c::cs:=by
     cases hd:dec (n / 10) with
     | nil=>exact absurd hd hne
     | cons c cs=>exact ⟨c,cs,rfl⟩
    rw [hc]
    simp only [List.cons_append,List.head?_cons,ne_eq,Option.some.injEq]
    by_cases h1:1<(dec (n / 10)).length
    ·have:=ih (n / 10) (Nat.div_lt_self (by omega) (by omega)) h1
     rw [hc] at this;simpa using this
    ·have iO:n / 10<10:=by
      rcases Nat.lt_or_ge (n / 10) 10 with h' | h'
      ·exact h'
      ·exfalso;apply h1
       rw [qL (by omega)]
       have:=List.length_pos_iff.2 (dec_ne (n / 10 / 10))
       simp;omega
     rw [qG iO] at hc
     simp at hc
     obtain ⟨rfl,_⟩:=hc
     intro e
     have hv:=wC iO
     rw [e] at hv
     have:(48:UInt8).toNat-48=0:=rfl
     omega
theorem digsOf_dec {v:Nat} (h:v<10000) (r:Bs):kK (dec v++32::r)=dec v:=by
 have h4:(dec v).length<=4:=qM 3 v (by omega)
 unfold kK
 have key:∀ (ds:Bs) (m:Nat),ds.length<=m->(∀ c∈ds,dig c=true)->((ds++32::r).take m).takeWhile dig=ds:=by
  intro ds
  induction ds with
  | nil =>
    intro m _ _
    cases m with
    | zero=>simp
    | succ m=>simp [dig]
  | cons d ds ih =>
    intro m hm hd
    cases m with
    | zero=>simp at hm
    | succ m =>
      simp only [List.cons_append,List.take_succ_cons,List.takeWhile_cons]
      rw [if_pos (hd d (by simp)),ih m (by simpa using hm) (fun c hc=>hd c (by simp [hc]))]
 exact key _ 4 h4 (dec_all v)
theorem specNum_dec {v:Nat} (h:v<10000) (r:Bs):ke (dec v++32::r)=some (v,(dec v).length):=by
 unfold ke
 rw [digsOf_dec h,dec_val,if_neg]
 rintro (h1 | ⟨h1,h2⟩)
 ·exact dec_ne v h1
 ·have:=dec_head v h1
  apply this
  cases hd:dec v with
  | nil=>exact absurd hd (dec_ne v)
  | cons c cs=>rw [hd] at h2;simpa using h2
theorem x6 (v:Nat) (ss:List Bd) (y n:Bd):zO (.ask v ss y n)=40::(dec v++(zv (ss++[y,n])++[41])):=by
 rw [zO,qd];simp [zv]
theorem askOf_parts (v:Nat) (ss:List Bd) (y n:Bd):vf v ss.length (ss++[y,n])=some (.ask v ss y n):=by
 unfold vf
 rw [List.drop_left,List.take_left]
theorem yY {rd:RdS}:∀ (ps:List Bd) (hs:List (List Ty)) (r:Bs),hs.length=ps.length->(∀ (k:Nat) (h:List Ty) (p:Bd) (r:Bs),hs[k]? = some h->ps[k]? = some p->rd h (zO p++r)=some (p,r))->zU rd hs (zv ps++r)=some (ps,r)
 | [],[],r,_,_=>by simp [zU,zv]
 | [],h::hs,r,hl,_=>by simp at hl
 | p::ps,[],r,hl,_=>by simp at hl
 | p::ps,h::hs,r,hl,hp=>by
   rw [zv,zU]
   have h0:=hp 0 h p (zv ps++r) rfl rfl
   have hc:cut [32] ([32]++zO p++zv ps++r)=some (zO p++(zv ps++r)):=by
    rw [List.append_assoc,List.append_assoc];exact pR [32] _
   simp only [z_,hc,Option.bind_eq_bind,Option.bind_some,h0,yY ps hs r (by simpa using hl) (fun k h' p' r' hh hk=>hp (k+1) h' p' r' (by simpa using hh) (by simpa using hk))]
theorem depthBs_mem {ts:List Bd} {t:Bd} (h:t∈ts):1+kB t<=kY ts:=by
 induction ts with
 | nil=>simp at h
 | cons x xs ih =>
   rcases List.mem_cons.1 h with rfl | h
   ·simp only [kY];omega
   ·have:=ih h;simp only [kY];omega
theorem rdN_text (e:Nat):∀ (hand:List Ty) (b:Bd) (r:Bs),qA hand b->wfB b->kB b<e->kC e hand->rdN e hand (zO b++r)=some (b,r):=by
 induction e with
 | zero=>intro hand b r _ _ h;omega
 | succ e ih =>
   intro hand b r hf hw hd hh
   cases b with
   | leaf c =>
     rw [wfB] at hw
     rw [zO]
     simp only [List.cons_append,List.nil_append,rdN]
     rw [if_pos hw]
   | ask v ss y n =>
     obtain ⟨t,ht,hfp,nD⟩:=fit_parts hf
     rw [wfB] at hw
     have hwp:vr (ss++[y,n]):=wO _ _ hw.1 ⟨hw.2.1,hw.2.2,trivial⟩
     have hv:v<10000:=by
      have h1:=(List.getElem?_eq_some_iff.1 ht).1
      have:=hh.2;omega
     rw [vG] at hd
     have tq:ke (dec v++(zv (ss++[y,n])++[41])++r)=some (v,(dec v).length):=by
      obtain ⟨q,hq⟩:∃ q,dec v++(zv (ss++[y,n])++[41])++r=dec v++32::q:=by
       cases ss with
       | nil=>exact ⟨zO y++zv [n]++[41]++r,by simp [zv]⟩
       | cons s ss=>exact ⟨zO s++zv (ss++[y,n])++[41]++r,by simp [zv]⟩
      rw [hq];exact specNum_dec hv q
     rw [x6,List.cons_append,rdN.eq_def]
     simp only
     rw [if_neg (by decide),if_neg (by decide),tq]
     simp only [ht]
     have BL:(dec v++(zv (ss++[y,n])++[41])++r).drop (dec v).length=zv (ss++[y,n])++([41]++r):=by
      rw [List.append_assoc,List.drop_left,List.append_assoc]
     have AL:zU (rdN e) (ku hand t) (zv (ss++[y,n])++([41]++r))=some (ss++[y,n],[41]++r):=by
      refine yY _ _ _ (jk _ _ hfp) fun k h p r' hk hp=>?_
      obtain ⟨h',nI,hf'⟩:=xL _ _ hfp k p hp
      rw [hk] at nI;simp at nI;subst nI
      have rx:p∈ss++[y,n]:=List.mem_of_getElem? hp
      have hdp:=depthBs_mem rx
      refine ih h p r' hf' (wfBs_at _ hwp k p hp) (by have:kY (ss++[y,n])<e+1:=hd;omega) ?_
      rcases Nat.lt_or_ge k t.args.length with oA | oA
      ·obtain ⟨a,ha⟩:∃ a,t.args[k]? = some a:=⟨t.args[k],by simp [oA]⟩
       rw [xa ha] at hk;simp at hk;subst hk
       exact hh.next ht (List.mem_of_getElem? ha)
      ·have Bo:k<t.args.length+2:=by
        have:=(List.getElem?_eq_some_iff.1 hk).1
        rwa [jR] at this
       rw [xt oA Bo] at hk;simp at hk;subst hk
       have:=hh.same;rwa [List.append_nil] at this
     rw [BL,AL]
     simp only [Option.bind_eq_bind,Option.bind_some,pR]
     rw [<- nD,askOf_parts]
     rfl
theorem yX {rd rd':RdS} (h:∀ hand l x,rd hand l=some x->rd' hand l=some x):∀ (hs:List (List Ty)) (l:Bs) (x:List Bd×Bs),zU rd hs l=some x->zU rd' hs l=some x
 | [],l,x,hx=>by simpa [zU] using hx
 | a::hs,l,x,hx=>by
   simp only [zU,z_,Option.bind_eq_bind,Option.bind_eq_some_iff,Prod.exists] at hx ⊢
   obtain ⟨b,l1,⟨l0,h0,h1⟩,bs,l2,h2,h3⟩:=hx
   exact ⟨b,l1,⟨l0,h0,h _ _ _ h1⟩,bs,l2,yX h hs l1 _ h2,h3⟩
theorem rdN_mono (e:Nat):∀ (e':Nat) (hand:List Ty) (l:Bs) (x:Bd×Bs),e<=e'->rdN e hand l=some x->rdN e' hand l=some x:=by
 induction e with
 | zero=>intro e' hand l x _ h;simp [rdN] at h
 | succ e ih =>
   intro e' hand l x he h
   cases e' with
   | zero=>omega
   | succ e' =>
     cases l with
     | nil=>simp [rdN] at h
     | cons c m =>
       simp only [rdN] at h ⊢
       split at h
       ·rename_i hc;rw [if_pos hc];exact h
       ·rename_i hc
        rw [if_neg hc]
        split at h
        ·simp at h
        ·rename_i cc
         rw [if_neg cc]
         cases hn:ke m with
         | none=>rw [hn] at h;simp at h
         | some vk =>
           obtain ⟨v,k⟩:=vk
           rw [hn] at h
           simp only at h ⊢
           cases ht:hand[v]? with
           | none=>rw [ht] at h;simp at h
           | some t =>
             rw [ht] at h
             simp only [Option.bind_eq_bind,Option.bind_eq_some_iff,Prod.exists] at h ⊢
             obtain ⟨ps,l1,h1,h2⟩:=h
             exact ⟨ps,l1,yX (fun a b c d=>ih e' a b c (by omega) d) _ _ _ h1,h2⟩
theorem yW {rd:RdS} {P:Bd->Prop} (h:∀ hand l b r,rd hand l=some (b,r)->P b):∀ (hs:List (List Ty)) (l:Bs) (ps:List Bd) (r:Bs),zU rd hs l=some (ps,r)->∀ p∈ps,P p
 | [],l,ps,r,hx=>by simp [zU] at hx;obtain ⟨rfl,_⟩:=hx;simp
 | a::hs,l,ps,r,hx=>by
   simp only [zU,z_,Option.bind_eq_bind,Option.bind_eq_some_iff,Prod.exists] at hx
   obtain ⟨b,l1,⟨l0,h0,h1⟩,bs,l2,h2,h3⟩:=hx
   simp at h3;obtain ⟨rfl,rfl⟩:=h3
   intro p hp
   rcases List.mem_cons.1 hp with rfl | hp
   ·exact h _ _ _ _ h1
   ·exact yW h hs l1 bs l2 h2 p hp
theorem gp {v n:Nat} {ps:List Bd} {b:Bd} (h:vf v n ps=some b):∃ ss y no,b=.ask v ss y no/\ps=ss++[y,no]:=by
 unfold vf at h
 split at h
 ·rename_i y no hd
  simp at h;subst h
  exact ⟨_,_,_,rfl,by rw [<- hd,List.take_append_drop]⟩
 ·simp at h
theorem wfBs_of:∀ (ps:List Bd),(∀ p∈ps,wfB p)->vr ps
 | [],_=>trivial
 | p::ps,h=>⟨h p (by simp),wfBs_of ps fun q hq=>h q (by simp [hq])⟩
theorem pu:∀ (xs ys:List Bd),vr (xs++ys)->vr xs/\vr ys
 | [],ys,h=>⟨trivial,h⟩
 | x::xs,ys,h=>by
   simp only [List.cons_append] at h;rw [vr] at h
   have:=pu xs ys h.2
   exact ⟨⟨h.1,this.1⟩,this.2⟩
theorem rdN_wf (e:Nat):∀ (hand:List Ty) (l:Bs) (b:Bd) (r:Bs),rdN e hand l=some (b,r)->wfB b/\kB b<e:=by
 induction e with
 | zero=>intro hand l b r h;simp [rdN] at h
 | succ e ih =>
   intro hand l b r h
   cases l with
   | nil=>simp [rdN] at h
   | cons c m =>
     simp only [rdN] at h
     split at h
     ·rename_i hc;simp at h;obtain ⟨rfl,_⟩:=h;exact ⟨hc,by simp [kB]⟩
     ·split at h
      ·simp at h
      ·split at h
       ·simp at h
       ·split at h
        ·simp at h
        ·simp only [Option.bind_eq_bind,Option.bind_eq_some_iff,Prod.exists] at h
         obtain ⟨ps,l1,h1,l2,h2,b',h3,h4⟩:=h
         simp at h4;obtain ⟨rfl,_⟩:=h4
         obtain ⟨ss,y,no,rfl,rfl⟩:=gp h3
         have k1:=yW (P:=fun b=>wfB b/\kB b<e) (fun hand l b r h=>ih hand l b r h) _ _ _ _ h1
         have k2:=pu _ _ (wfBs_of _ fun p hp=>(k1 p hp).1)
         refine ⟨⟨k2.1,k2.2.1,k2.2.2.1⟩,?_⟩
         rw [vG]
         have key:∀ (qs:List Bd),(∀ q∈qs,kB q<e)->kY qs<=e:=by
          intro qs
          induction qs with
          | nil=>intro _;simp [kY]
          | cons q qs ihq =>
            intro hq
            have h1:=hq q (by simp)
            have h2:=ihq fun x hx=>hq x (by simp [hx])
            simp only [kY];omega
         exact Nat.lt_succ_of_le (key _ fun q hq=>(k1 q hq).2)
mutual
theorem vj:∀ (b:Bd) (hand:List Ty) (e:Nat),qA hand b->kB b<e->kC e hand->2*(zO b).length+7<=9*zX b
 | .leaf c,hand,e,_,_,_=>by simp [zO,zX]
 | .ask v ss y n,hand,0,_,h,_=>by omega
 | .ask v ss y n,hand,e+1,hf,hd,hh=>by
   have hf':=hf
   rw [qA] at hf
   obtain ⟨t,ht,h1,h2,h3⟩:=hf
   have hv:v<10000:=by
    have h1:=(List.getElem?_eq_some_iff.1 ht).1
    have:=hh.2;omega
   have h4:(dec v).length<=4:=qM 3 v (by omega)
   have hs:kC e hand:=by have:=hh.same;rwa [List.append_nil] at this
   simp only [kB] at hd
   have k1:=xP ss t.args hand e h1 (by omega) (fun a ha=>hh.next ht ha)
   have k2:=vj y hand e h2 (by omega) hs
   have k3:=vj n hand e h3 (by omega) hs
   rw [x6,qd]
   simp only [zv,zX,List.length_append,List.length_cons,List.length_nil]
   omega
theorem xP:∀ (bs:List Bd) (ts:List Ty) (hand:List Ty) (e:Nat),kg (kW hand ts) bs->kY bs<=e->(∀ a∈ts,kC e (hand++a.args))->2*(zv bs).length<=9*zG bs
 | [],ts,hand,e,_,_,_=>by simp [zv]
 | b::bs,ts,hand,e,hf,hd,hh=>by
   rw [kg] at hf
   obtain ⟨h',mW,e',h1,h2⟩:=hf
   cases ts with
   | nil=>simp [kW] at e'
   | cons t ts =>
     simp only [kW,List.map_cons,List.cons.injEq] at e'
     obtain ⟨rfl,rfl⟩:=e'
     simp only [kY] at hd
     have k1:=vj b (hand++t.args) e h1 (by omega) (hh t (by simp))
     have k2:=xP bs ts hand e h2 (by omega) (fun a ha=>hh a (by simp [ha]))
     simp only [zv,zG,List.length_append,List.length_cons,List.length_nil]
     omega
end
theorem kC.less {d e:Nat} {levels:List Ty} (h:kC e levels) (hd:d<=e):kC d levels:=⟨h.1,by have:=h.2;omega⟩
theorem yV {t:Ty} (ht:zY t<=15) {b:Bd} (hf:qA t.args b) (hw:wfB b) (hs:zX b<=200):zC (zM t) (zO b)=if kB b<=100 then some b else none:=by
 have hd:=yx _ b (g_ _)
 have hh:kC 201 t.args:=by
  have h1:=wH ht
  have h2:=kN t
  have h3:=zl t.args
  exact ⟨h1.1,by omega⟩
 have hl:=vj b t.args 201 hf (by omega) hh
 unfold zC
 rw [js ht]
 simp only
 rw [if_neg (by simp;omega)]
 by_cases ef:kB b<=100
 ·have:=rdN_text 101 t.args b [] hf hw (by omega) (hh.less (by omega))
  rw [List.append_nil] at this
  rw [this,if_pos ef]
  simp [hs]
 ·rw [if_neg ef]
  cases hq:rdN 101 t.args (zO b) with
  | none=>rfl
  | some x =>
    obtain ⟨b',r⟩:=x
    have h1:=rdN_mono 101 201 _ _ _ (by omega) hq
    have h2:=rdN_text 201 t.args b [] hf hw (by omega) hh
    rw [List.append_nil] at h2
    rw [h2] at h1
    simp at h1
    obtain ⟨rfl,rfl⟩:=h1
    have:=(rdN_wf _ _ _ _ _ hq).2
    omega
theorem qI {p l r:Bs} (h:cut p l=some r):l=p++r:=by
 unfold cut at h
 split at h
 ·rename_i hp
  simp at h
  obtain ⟨q,hq⟩:=List.isPrefixOf_iff_prefix.1 hp
  subst hq
  simp at h;rw [h]
 ·simp at h
theorem dec_dd (n:Nat):dec n=Lib.decDigits n:=by
 induction n using Nat.strongRecOn with
 | _ n ih =>
   by_cases h:n<10
   ·rw [qG h,Lib.decDigits,dif_pos h];rfl
   ·rw [qL h,Lib.decDigits,dif_neg h,ih (n / 10) (Nat.div_lt_self (by omega) (by omega))];rfl
theorem specNum_text {m:Bs} {v k:Nat} (h:ke m=some (v,k)):m=dec v++m.drop k:=by
 obtain ⟨h1,h2,h3,h4⟩:=xB h
 have hd:dec v=kK m:=by
  rw [dec_dd,h2]
  exact xx _ _ rfl h1 (jc m) h4
 obtain ⟨q,hq⟩:=jt m
 rw [hd,h3]
 conv=>lhs;rw [<- hq]
 conv=>rhs;rw [<- hq]
 have:kK (kK m++q)=kK m:=by rw [hq]
 rw [this,List.drop_left]
theorem un {rd:RdS} (ih:∀ hand l b r,rd hand l=some (b,r)->l=zO b++r):∀ (hs:List (List Ty)) (l:Bs) (ps:List Bd) (r:Bs),zU rd hs l=some (ps,r)->l=zv ps++r
 | [],l,ps,r,h=>by simp [zU] at h;obtain ⟨rfl,rfl⟩:=h;simp [zv]
 | a::hs,l,ps,r,hx=>by
   simp only [zU,z_,Option.bind_eq_bind,Option.bind_eq_some_iff,Prod.exists] at hx
   obtain ⟨b,l1,⟨l0,h0,h1⟩,bs,l2,h2,h3⟩:=hx
   simp at h3;obtain ⟨rfl,rfl⟩:=h3
   rw [qI h0,ih _ _ _ _ h1,un ih hs l1 bs l2 h2]
   simp [zv]
theorem rdN_canon (e:Nat):∀ (hand:List Ty) (l:Bs) (b:Bd) (r:Bs),rdN e hand l=some (b,r)->l=zO b++r:=by
 induction e with
 | zero=>intro hand l b r h;simp [rdN] at h
 | succ e ih =>
   intro hand l b r h
   cases l with
   | nil=>simp [rdN] at h
   | cons c m =>
     simp only [rdN] at h
     split at h
     ·simp at h;obtain ⟨rfl,rfl⟩:=h;simp [zO]
     ·split at h
      ·simp at h
      ·rename_i cc
       have cc:c=40:=by simpa using cc
       subst cc
       split at h
       ·simp at h
       ·rename_i v k hn
        split at h
        ·simp at h
        ·simp only [Option.bind_eq_bind,Option.bind_eq_some_iff,Prod.exists] at h
         obtain ⟨ps,l1,h1,l2,h2,b',h3,h4⟩:=h
         simp at h4;obtain ⟨rfl,rfl⟩:=h4
         obtain ⟨ss,y,no,rfl,rfl⟩:=gp h3
         rw [x6]
         conv=>lhs;rw [specNum_text hn,un ih _ _ _ _ h1,qI h2]
         simp
theorem yU {s text:Bs} {b:Bd} (h:zC s text=some b):(zW s).2=true/\rdN 101 (zW s).1.args text=some (b,[])/\zX b<=200:=by
 unfold zC at h
 split at h
 ·simp at h
 ·rename_i h0
  split at h
  ·simp at h
  ·rename_i b' rest hq
   split at h
   ·rename_i hc
    simp at h;subst h
    obtain ⟨rfl,h2⟩:=hc
    exact ⟨by simpa using (not_or.1 h0).1,hq,h2⟩
   ·simp at h
structure xY (t:Ty) (b:Bd):Prop where
 atoms:zY t<=15
 fit:qA t.args b
 wf:wfB b
 size:zX b<=200
 depth:kB b<=100
theorem qS {s text:Bs} {b:Bd} (h:zC s text=some b):xY (zW s).1 b/\text=zO b:=by
 obtain ⟨h1,h2,h3⟩:=yU h
 have hw:=rdN_wf _ _ _ _ _ h2
 refine ⟨⟨qv h1,rdN_fit _ h2,hw.1,h3,by have:=hw.2;omega⟩,?_⟩
 have:=rdN_canon _ _ _ _ _ h2
 rwa [List.append_nil] at this
theorem vy {t:Ty} {b:Bd} (h:xY t b):zC (zM t) (zO b)=some b:=by
 rw [yV h.atoms h.fit h.wf h.size,if_pos h.depth]
theorem rdK_canon (d:Nat):∀ (l:Bs) (t:Ty) (r:Bs),rdK d l=some (t,r)->l=zM t++r:=by
 induction d with
 | zero =>
   intro l t r h
   rcases zi [98] l with hc | ⟨r',hc⟩
   ·rw [jl hc] at h;simp at h
   ·rw [vJ hc] at h;simp at h;obtain ⟨rfl,rfl⟩:=h;rw [jx];exact qI hc.out
 | succ d ih =>
   intro l t r h
   rcases zi [98] l with hc | ⟨r',hc⟩
   ·rw [qQ hc] at h
    simp only [Option.bind_eq_bind,Option.bind_eq_some_iff,Prod.exists] at h
    obtain ⟨r1,h1,a,r2,h2,r3,h3,b,r4,h4,r5,h5,h6⟩:=h
    simp at h6;obtain ⟨rfl,rfl⟩:=h6
    cases b with
    | mk bs =>
    rw [jP,jw,qI h1,ih _ _ _ h2,qI h3,ih _ _ _ h4,qI h5]
    simp [Ty.args]
   ·rw [vJ hc] at h;simp at h;obtain ⟨rfl,rfl⟩:=h;rw [jx];exact qI hc.out
theorem pm {l:Bs} (h:(zW l).2=true):l=zM (zW l).1/\zY (zW l).1<=15:=by
 refine ⟨?_,qv h⟩
 unfold zW at h ⊢
 split at h
 ·simp at h
 ·rename_i hl
  rw [if_neg hl]
  cases hq:rdS 21 l with
  | none=>rw [hq] at h;simp at h
  | some x =>
    obtain ⟨t,rest⟩:=x
    rw [hq] at h
    simp at h
    obtain ⟨h1,h2⟩:=h
    have hq':rdK 20 l=some (t,rest):=hq
    have hr:=rdK_canon _ _ _ _ hq'
    simp only
    have h3:rest=[]:=by simpa using h1
    rw [h3,List.append_nil] at hr;exact hr
mutual
def wfM:Mn->Prop
 | .op _ _=>True
 | .bd _ b e=>wfB b/\vI e
def vI:List Mn->Prop
 | []=>True
 | m::ms=>wfM m/\vI ms
end
theorem qH:∀ (xs ys:List Mn),vI xs->vI ys->vI (xs++ys)
 | [],ys,_,h=>h
 | x::xs,ys,h,k=>by rw [vI] at h;exact ⟨h.1,qH xs ys h.2 k⟩
theorem wfMs_at:∀ (xs:List Mn),vI xs->∀ (k:Nat) (m:Mn),xs[k]? = some m->wfM m
 | [],_,k,b,h=>by simp at h
 | x::xs,hw,k,b,h=>by
   rw [vI] at hw
   cases k with
   | zero=>simp at h;subst h;exact hw.1
   | succ k=>exact wfMs_at xs hw.2 k b (by simpa using h)
theorem qE:∀ (ts:List Ty) (n:Nat),vI (zq n ts)
 | [],n=>trivial
 | t::ts,n=>⟨trivial,qE ts (n+1)⟩
theorem uK {env:List Mn} (he:vI env):∀ (ts:List Ty) (ss:List Bd),vr ss->vI (kL env ts ss)
 | [],ss,_=>by rw [kL];· trivial
               ·intros;contradiction
 | t::ts,[],_=>by rw [kL];· trivial
                  ·intros;contradiction
 | t::ts,s::ss,h=>by
   rw [vr] at h
   rw [kL]
   exact ⟨⟨h.1,he⟩,uK he ts ss h.2⟩
def wfG (f:Gf):Prop:=wfB f.yes/\wfB f.no/\vI f.env
theorem evSubs_wf {d n:Nat} {env:List Mn} (he:vI env) (ih:∀ (l:Nat) (b:Bd) (env:List Mn) (n:Nat) (st:List Gf) (out:Bd) (l':Nat),wfB b->vI env->(∀ f∈st,wfG f)->ev d l b env n st=some (out,l')->wfB out) :
 ∀ (ts:List Ty) (ss:List Bd) (l:Nat) (kU:List Bd) (l':Nat),vr ss->zt (ev d) env n l ts ss=some (kU,l')->vr kU
 | [],ss,l,kU,l',_,h=>by simp [zt] at h;obtain ⟨rfl,_⟩:=h;trivial
 | t::ts,[],l,kU,l',_,h=>by simp [zt] at h;obtain ⟨rfl,_⟩:=h;trivial
 | t::ts,s::ss,l,kU,l',hs,h=>by
   rw [vr] at hs
   simp only [zt,Option.bind_eq_bind,Option.bind_eq_some_iff,Prod.exists] at h
   obtain ⟨x,l1,h1,xs,l2,h2,h3⟩:=h
   simp at h3;obtain ⟨rfl,rfl⟩:=h3
   exact ⟨ih _ _ _ _ _ _ _ hs.1 (qH _ _ he (qE _ _)) (by simp) h1,evSubs_wf he ih ts ss l1 xs l2 hs.2 h2⟩
theorem ev_wf (d:Nat):∀ (l:Nat) (b:Bd) (env:List Mn) (n:Nat) (st:List Gf) (out:Bd) (l':Nat),wfB b->vI env->(∀ f∈st,wfG f)->ev d l b env n st=some (out,l')->wfB out:=by
 induction d with
 | zero=>intro l b env n st out l' _ _ _ h;simp [ev] at h
 | succ d ih =>
   intro l b env n st out l' hb he hs h
   rw [ev.eq_def] at h
   cases l with
   | zero=>simp at h
   | succ l =>
     simp only at h
     cases b with
     | leaf c =>
       simp only at h
       split at h
       ·simp at h;obtain ⟨rfl,_⟩:=h;exact hb
       ·cases st with
        | nil=>simp at h;obtain ⟨rfl,_⟩:=h;exact hb
        | cons f st' =>
          obtain ⟨k1,k2,k3⟩:=hs f (by simp)
          refine ih _ _ _ _ _ _ _ ?_ k3 (fun g hg=>hs g (by simp [hg])) h
          split
          ·exact k1
          ·exact k2
     | ask v ss y no =>
       rw [wfB] at hb
       simp only at h
       cases hv:env[v]? with
       | none=>rw [hv] at h;simp at h
       | some m =>
         rw [hv] at h
         have hm:=wfMs_at _ he _ _ hv
         cases m with
         | bd t b' e =>
           rw [wfM] at hm
           refine ih _ _ _ _ _ _ _ hm.1 (qH _ _ hm.2 (uK he _ _ hb.1)) (fun f hf=>?_) h
           rcases List.mem_cons.1 hf with rfl | hf
           ·exact ⟨hb.2.1,hb.2.2,he⟩
           ·exact hs f hf
         | op o t =>
           simp only [Option.bind_eq_bind,Option.bind_eq_some_iff,Prod.exists] at h
           obtain ⟨xs,l1,h1,x,l2,h2,z,l3,h3,h4⟩:=h
           simp at h4;obtain ⟨rfl,_⟩:=h4
           exact ⟨evSubs_wf he ih _ _ _ _ _ hb.1 h1,ih _ _ _ _ _ _ _ hb.2.1 he hs h2,ih _ _ _ _ _ _ _ hb.2.2 he hs h3⟩
def qp (b:Bd) (env:List Mn) (n:Nat):Option Bd:=match ev 20000 20000 b env n [] with
 | some (out,_)=>if zX out<=200/\kB out<=100 then some out else none
 | none=>none
def qC (b:Bd) (env:List Mn) (n:Nat):Option Bd:=(evN 20000 200 20000 b env n []).map (·.1)
theorem writes_eq (b:Bd) (env:List Mn) (n:Nat):qC b env n=match ev 20000 20000 b env n [] with
 | some (out,_)=>if zX out<=200 then some out else none
 | none=>none:=by
 unfold qC
 rw [evN_eq]
 cases ev 20000 20000 b env n [] with
 | none=>rfl
 | some x =>
   obtain ⟨out,l⟩:=x
   simp only [uf]
   split <;> rfl
theorem written_eq {t:Ty} (ht:zY t<=15) {b:Bd} {env:List Mn} (hf:kn t.args b env []) (hb:wfB b) (he:vI env) :
 (qC b env t.args.length).bind (fun out=>zC (zM t) (zO out))=qp b env t.args.length:=by
 rw [writes_eq]
 unfold qp
 cases hq:ev 20000 20000 b env t.args.length [] with
 | none=>rfl
 | some x =>
   obtain ⟨out,l⟩:=x
   have h1:=ev_fit _ _ _ _ _ _ _ _ hf hq
   have h2:=ev_wf _ _ _ _ _ _ _ _ hb he (by simp) hq
   simp only
   by_cases hs:zX out<=200
   ·rw [if_pos hs]
    simp only [Option.bind_some]
    rw [yV ht h1 h2 hs]
    by_cases hd:kB out<=100
    ·rw [if_pos hd,if_pos ⟨hs,hd⟩]
    ·rw [if_neg hd,if_neg (fun h=>hd h.2)]
   ·rw [if_neg hs,if_neg (fun h=>hs h.1)];rfl
theorem become_good {t:Ty} (ht:zY t<=15) {b:Bd} {env:List Mn} (hf:kn t.args b env []) (hb:wfB b) (he:vI env) {out:Bd} (h:qp b env t.args.length=some out):xY t out:=by
 unfold qp at h
 cases hq:ev 20000 20000 b env t.args.length [] with
 | none=>rw [hq] at h;simp at h
 | some x =>
   obtain ⟨o,l⟩:=x
   rw [hq] at h
   simp only at h
   split at h
   ·rename_i hc
    simp at h;subst h
    exact ⟨ht,ev_fit _ _ _ _ _ _ _ _ hf hq,ev_wf _ _ _ _ _ _ _ _ hb he (by simp) hq,hc.1,hc.2⟩
   ·simp at h
def kR (a:Ty) (n:Bd) (rest:List Ty):List Mn:=.bd a n []::zq 0 rest
def kq (t:Ty) (m:Bd) (l:Bs):Option (Ty×Bd):=match t.args with
 | []=>none
 | a::rest=>(qX a l).bind fun n=>(qp m (kR a n rest) rest.length).map fun out=>(.mk rest,out)
def k_:Ty->Bd->List Bs->Option (Ty×Bd)
 | t,m,[]=>some (t,m)
 | t,m,l::ls=>(kq t m l).bind fun x=>k_ x.1 x.2 ls
theorem jB {a:Ty} {rest:List Ty} {t:Ty} (h:t.args=a::rest):zY t=1+zY a+zY (.mk rest):=by
 cases t with
 | mk ts=>simp only [Ty.args] at h;subst h;exact vd a rest
theorem vC {a:Ty} {n:Bd} {rest:List Ty} (hn:qA a.args n) {m:Bd} (hm:qA (a::rest) m):kn rest m (kR a n rest) []:=by
 refine ⟨⟨a::rest,?_,hm⟩,by simp⟩
 rw [kR,kh]
 refine ⟨a,rest,rfl,?_,wJ rest 0 fun i t h=>by rw [Nat.zero_add];exact h⟩
 rw [vw]
 exact ⟨rfl,[],by rw [kh],by simpa using hn⟩
theorem pU {a:Ty} {n:Bd} {rest:List Ty} (hn:wfB n):vI (kR a n rest):=⟨⟨hn,trivial⟩,qE rest 0⟩
theorem jJ {t:Ty} (ht:zY t<=15) {l:Bs} {b:Bd} (h:qX t l=some b):xY t b/\l=zO b:=by
 rw [vW ht] at h
 have:=qS h
 rw [js ht] at this
 exact this
theorem v_ {t:Ty} {m:Bd} (hm:xY t m) {l:Bs} {x:Ty×Bd} (h:kq t m l=some x):xY x.1 x.2:=by
 unfold kq at h
 cases ht:t.args with
 | nil=>rw [ht] at h;simp at h
 | cons a rest =>
   rw [ht] at h
   simp only [Option.bind_eq_some_iff,Option.map_eq_some_iff] at h
   obtain ⟨n,h1,out,h2,rfl⟩:=h
   have bJ:=jB ht
   have cv:=hm.atoms
   obtain ⟨hn,_⟩:=jJ (by omega) h1
   have hf:=hm.fit
   rw [ht] at hf
   exact become_good (t:=.mk rest) (by omega) (vC hn.fit hf) hm.wf (pU hn.wf) h2
def ki (s m n:Bs):Option Bs:=(zC s m).bind fun b=>match (zW s).1.args with
 | []=>none
 | a::rest=>(zC (zM a) n).bind fun c=>(qC b (kR a c rest) rest.length).bind fun out=>(zC (zM (.mk rest)) (zO out)).map fun _=>zO out
theorem yP {s m:Bs} {b:Bd} (h:zC s m=some b) (n:Bs):ki s m n=(kq (zW s).1 b n).map fun x=>zO x.2:=by
 obtain ⟨hg,_⟩:=qS h
 unfold ki kq
 rw [h]
 simp only [Option.bind_some]
 cases ht:(zW s).1.args with
 | nil=>rfl
 | cons a rest =>
   have bJ:=jB ht
   have cv:=hg.atoms
   simp only
   rw [vW (by omega)]
   cases hn:zC (zM a) n with
   | none=>rfl
   | some c =>
     simp only [Option.bind_some]
     have hc:=(jJ (t:=a) (by omega) (by rw [vW (by omega)];exact hn)).1
     have hf:=hg.fit
     rw [ht] at hf
     have h15':zY (.mk rest)<=15:=by omega
     have key:=written_eq (t:=.mk rest) h15' (vC hc.fit hf) hg.wf (pU (a:=a) (rest:=rest) hc.wf)
     simp only [Ty.args] at key
     rw [<- key]
     cases hw:qC b (kR a c rest) rest.length with
     | none=>rfl
     | some out =>
       simp only [Option.bind_some]
       cases hq:zC (zM (.mk rest)) (zO out) with
       | none=>rfl
       | some o =>
         simp only [Option.map_some]
         have:=(qS hq).2
         rw [this]
theorem uV {s m:Bs} (h:zC s m=none) (n:Bs):ki s m n=none:=by unfold ki;rw [h];rfl
def vh (s m:Bs) (ls:List Bs):Option Bs:=(uz s m).bind fun x=>(k_ x.1 x.2 ls).map fun y=>zO y.2
theorem one_eq (s m n:Bs):vh s m [n]=ki s m n:=by
 unfold vh
 rw [yq]
 cases hq:zC s m with
 | none=>rw [uV hq];rfl
 | some b =>
   rw [yP hq]
   simp only [Option.map_some,Option.bind_some,k_]
   cases kq (zW s).1 b n <;> rfl
theorem xS {c:UInt8}:∀ {l:Bs} (r:Bs),c ∉ l->Lib.index (l++c::r) [c]=(l.length:Int)
 | [],r,_=>by
   rw [List.nil_append,Lib.index,if_pos (by simp [List.isPrefixOf])];rfl
 | b::l,r,h=>by
   have hb:c≠b:=fun e=>h (by simp [e])
   have ih:=xS (l:=l) r (fun e=>h (List.mem_cons_of_mem _ e))
   rw [List.cons_append,Lib.index,if_neg (by simp [List.isPrefixOf,hb]),ih,if_neg (by simp),List.length_cons]
   rfl
theorem index_no {c:UInt8}:∀ {l:Bs},c ∉ l->Lib.index l [c] = -1
 | [],_=>rfl
 | b::l,h=>by
   have hb:c≠b:=fun e=>h (by simp [e])
   have ih:=index_no (l:=l) (fun e=>h (List.mem_cons_of_mem _ e))
   rw [Lib.index,if_neg (by simp [List.isPrefixOf,hb]),ih];rfl
theorem cut_at {c:UInt8} {l r:Bs} (h:c ∉ l):Lib.cut (l++c::r) [c]=(l,r,true):=by
 unfold Lib.cut
 rw [xS r h,if_pos (by omega),Int.toNat_natCast,List.take_left' rfl]
 simp
theorem cut_none {c:UInt8} {l:Bs} (h:c ∉ l):Lib.cut l [c]=(l,[],false):=by
 unfold Lib.cut
 rw [index_no h,if_neg (by omega)]
def qW:List Bs->Bs
 | []=>[]
 | l::ls=>l++10::qW ls
theorem wW:∀ ls:List Bs,ls.length<=(qW ls).length
 | []=>g_ _
 | l::ls=>by rw [qW,List.length_append,List.length_cons,List.length_cons];have:=wW ls;omega
theorem u_:∀ (ls:List Bs) (f:Nat),(∀ l∈ls,(10:UInt8) ∉ l)->ls.length<=f->Lib.countFrom [10] f (qW ls)=ls.length
 | [],f,_,_=>by cases f <;> rfl
 | l::ls,0,_,h=>by simp at h
 | l::ls,f+1,hl,h=>by
   rw [qW,Lib.countFrom,xS (qW ls) (hl l (by simp)),if_neg (by simp),Int.toNat_natCast]
   have e:(l++10::qW ls).drop (l.length+([10]:Bs).length)=qW ls:=by simp
   rw [e,u_ ls f (fun x hx=>hl x (by simp [hx])) (by rw [List.length_cons] at h;omega),List.length_cons,Nat.add_comm]
theorem xH:∀ ls:List Bs,(∀ l∈ls,(10:UInt8) ∉ l)->Lib.splitK [10] 0 ls.length (qW ls)=ls++[[]]
 | [],_=>rfl
 | l::ls,hl=>by
   rw [qW,List.length_cons,Lib.splitK,xS (qW ls) (hl l (by simp)),if_neg (by simp),Int.toNat_natCast,Nat.add_zero,List.take_left' rfl]
   have e:(l++10::qW ls).drop (l.length+([10]:Bs).length)=qW ls:=by simp
   rw [e,xH ls (fun x hx=>hl x (by simp [hx])),List.cons_append]
theorem pK {ls:List Bs} (h:∀ l∈ls,(10:UInt8) ∉ l):Lib.countB ⟨(qW ls).toArray⟩ ⟨#[10]⟩=ls.length:=by
 show Lib.count (qW ls) [10]=_
 unfold Lib.count
 exact u_ ls _ h (Nat.le_succ_of_le (wW ls))
theorem gj:∀ (xs:List ByteArray) (ys:List Bs),xs.map (·.data.toList)=ys->xs=ys.map fun l:Bs=>(⟨l.toArray⟩:ByteArray)
 | [],ys,h=>by subst h;rfl
 | x::xs,ys,h=>by
   subst h
   rw [List.map_cons,List.map_cons,<- gj xs _ rfl]
theorem split_lines {ls:List Bs} (h:∀ l∈ls,(10:UInt8) ∉ l):Lib.splitB ⟨#[10]⟩ 0 (Lib.countB ⟨(qW ls).toArray⟩ ⟨#[10]⟩) ⟨(qW ls).toArray⟩=(ls++[[]]).map fun l:Bs=>(⟨l.toArray⟩:ByteArray):=by
 apply gj
 rw [Lib.splitB_data,pK h]
 exact xH ls h
def kU (ans:Nat->Bs):Nat->Bs
 | 0=>[]
 | i+1=>kU ans i++(ans i++[10])
theorem digit_ne {k:Nat} (h:k<10):jy k≠10:=fun e=>by
 have:=q_ h
 unfold jy at e
 rw [e] at this
 have h2:(10:UInt8).toNat=10:=rfl
 omega
theorem dec_nl (n:Nat):(10:UInt8) ∉ dec n:=by
 induction n using Nat.strongRecOn with
 | _ n ih =>
   by_cases h:n<10
   ·rw [qG h]
    simp only [List.mem_cons,List.not_mem_nil,or_false]
    exact fun e=>digit_ne h e.symm
   ·rw [qL h,List.mem_append]
    rintro (k | k)
    ·exact ih (n / 10) (by omega) k
    ·simp only [List.mem_cons,List.not_mem_nil,or_false] at k
     exact digit_ne (Nat.mod_lt n (by decide)) k.symm
mutual
theorem textT_ne:∀ t:Ty,(10:UInt8) ∉ zM t
 | .mk ts=>by rw [zM];exact textTs_ne ts
theorem textTs_ne:∀ ts:List Ty,(10:UInt8) ∉ y6 ts
 | []=>by rw [y6];decide
 | t::ts=>by
   rw [y6]
   have h1:=textT_ne t
   have h2:=textTs_ne ts
   simp [h1,h2]
end
mutual
theorem yJ:∀ b:Bd,wfB b->(10:UInt8) ∉ zO b
 | .leaf c,h=>by
   rw [wfB] at h
   rw [zO]
   rcases h with rfl | rfl | rfl <;> decide
 | .ask v ss y n,h=>by
   rw [wfB] at h
   have h0:=dec_nl v
   have h1:=textBs_ne ss h.1
   have h2:=yJ y h.2.1
   have h3:=yJ n h.2.2
   rw [zO]
   simp [h0,h1,h2,h3]
theorem textBs_ne:∀ bs:List Bd,vr bs->(10:UInt8) ∉ zv bs
 | [],_=>by rw [zv];decide
 | b::bs,h=>by
   rw [vr] at h
   have h1:=yJ b h.1
   have h2:=textBs_ne bs h.2
   rw [zv]
   simp [h1,h2]
end
inductive Tr where
 | am (a:Bs)
 | ls (ps:List Tr)
mutual
def qF:Tr->Bs
 | .am a=>a
 | .ls ps=>40::xX ps
def xX:List Tr->Bs
 | []=>[41]
 | p::ps=>qF p++qN ps
def qN:List Tr->Bs
 | []=>[41]
 | p::ps=>32::(qF p++qN ps)
end
def wu (s:Bs):Bool:=match s with
 | []=>false
 | c::r=>decide (r.length<=2) && (120<=c && c<=122) && r.all dig
def lamW:Bs:=[108,97,109]
def appW:Bs:=[97,112,112]
def ifW:Bs:=[105,102]
def leafW (a:Bs):Bool:=a == [116] || a == [102] || a == [117]
inductive Tm where
 | nm (x:Bs)
 | wd (w:Bs)
 | lam (x:Bs) (k:Ty) (t:Tm)
 | app (m n:Tm)
 | ite (l m n:Tm)
def trT:Ty->Tr
 | .mk ts=>trTs ts
where trTs:List Ty->Tr
 | []=>.am [98]
 | t::ts=>.ls [.am [62],trT t,trTs ts]
def yd:Tm->Tr
 | .nm x=>.am x
 | .wd w=>.am w
 | .lam x k t=>.ls [.am lamW,.am x,trT k,yd t]
 | .app m n=>.ls [.am appW,yd m,yd n]
 | .ite l m n=>.ls [.am ifW,yd l,yd m,yd n]
def okTm:Tm->Prop
 | .nm x=>wu x=true
 | .wd w=>leafW w=true
 | .lam x _ t=>wu x=true/\okTm t
 | .app m n=>okTm m/\okTm n
 | .ite l m n=>okTm l/\okTm m/\okTm n
def jj:Tm->Nat
 | .nm _=>0
 | .wd _=>0
 | .lam _ _ t=>1+jj t
 | .app m n=>1+max (jj m) (jj n)
 | .ite l m n=>1+max (jj l) (max (jj m) (jj n))
def vO:Nat->Bs->Option (Tm×Bs)
 | d,l=>match cut [40] l with
   | none=>if wu (zN l) then some (.nm (zN l),zD l) else if leafW (zN l) then some (.wd (zN l),zD l) else none
   | some l1=>match d with
     | 0=>none
     | d+1 =>
       if zN l1=lamW then (cut [32] (zD l1)).bind fun l3=>if wu (zN l3) then (cut [32] (zD l3)).bind fun l4=>(rdK 60 l4).bind fun k=>(cut [32] k.2).bind fun l6=>(vO d l6).bind fun t=>(cut [41] t.2).map fun l8=>(.lam (zN l3) k.1 t.1,l8) else none
       else if zN l1=appW then (cut [32] (zD l1)).bind fun l3=>(vO d l3).bind fun m=>(cut [32] m.2).bind fun l4=>(vO d l4).bind fun n=>(cut [41] n.2).map fun l5=>(.app m.1 n.1,l5)
       else if zN l1=ifW then (cut [32] (zD l1)).bind fun l3=>(vO d l3).bind fun x=>(cut [32] x.2).bind fun l4=>(vO d l4).bind fun m=>(cut [32] m.2).bind fun l5=>(vO d l5).bind fun n=>(cut [41] n.2).map fun l6=>(.ite x.1 m.1 n.1,l6)
       else none
theorem name_sep {x:Bs} (h:wu x=true):x≠[]/\∀ c∈x,sep c=false:=by
 cases x with
 | nil=>simp [wu] at h
 | cons c r =>
   simp only [wu,Bool.and_eq_true,decide_eq_true_eq,List.all_eq_true] at h
   obtain ⟨⟨_,h1,h2⟩,h3⟩:=h
   refine ⟨by simp,fun y hy=>?_⟩
   rcases List.mem_cons.1 hy with rfl | hy
   ·rw [Bool.eq_false_iff];intro hs
    simp only [sep,Bool.or_eq_true,beq_iff_eq] at hs
    rcases hs with (rfl | rfl) | rfl <;> revert h1 <;> decide
   ·exact dig_sep (h3 y hy)
theorem leaf_sep {x:Bs} (h:leafW x=true):x≠[]/\∀ c∈x,sep c=false:=by
 simp only [leafW,Bool.or_eq_true,beq_iff_eq] at h
 rcases h with (rfl | rfl) | rfl <;> exact ⟨by simp,by intro c hc;simp at hc;subst hc;decide⟩
mutual
theorem textTr_T:∀ k:Ty,qF (trT k)=zM k
 | .mk ts=>by rw [trT,textTr_Ts ts]
theorem textTr_Ts:∀ ts:List Ty,qF (trT.trTs ts)=zM (.mk ts)
 | []=>by rw [trT.trTs,qF,jx]
 | t::ts=>by rw [trT.trTs,qF,xX,qN,qN,qN,qF,textTr_T t,textTr_Ts ts,jw];simp
end
def qP (t:Tm):Bs:=qF (yd t)
theorem pw (x:Bs) (k:Ty) (t:Tm):qP (.lam x k t)=40::(lamW++32::(x++32::(zM k++32::(qP t++[41])))):=by
 unfold qP;rw [yd,qF,xX,qN,qN,qN,qN,qF,qF,textTr_T]
theorem ph (m n:Tm):qP (.app m n)=40::(appW++32::(qP m++32::(qP n++[41]))):=by
 unfold qP;rw [yd,qF,xX,qN,qN,qN,qF]
theorem pg (l m n:Tm):qP (.ite l m n)=40::(ifW++32::(qP l++32::(qP m++32::(qP n++[41])))):=by
 unfold qP;rw [yd,qF,xX,qN,qN,qN,qN,qF]
theorem rdTm_open {d:Nat} {l:Bs}:vO (d+1) (40::l)=(
        if zN l=lamW then (cut [32] (zD l)).bind fun l3=>if wu (zN l3) then (cut [32] (zD l3)).bind fun l4=>(rdK 60 l4).bind fun k=>(cut [32] k.2).bind fun l6=>(vO d l6).bind fun t=>(cut [41] t.2).map fun l8=>(.lam (zN l3) k.1 t.1,l8) else none
        else if zN l=appW then (cut [32] (zD l)).bind fun l3=>(vO d l3).bind fun m=>(cut [32] m.2).bind fun l4=>(vO d l4).bind fun n=>(cut [41] n.2).map fun l5=>(.app m.1 n.1,l5)
        else if zN l=ifW then (cut [32] (zD l)).bind fun l3=>(vO d l3).bind fun x=>(cut [32] x.2).bind fun l4=>(vO d l4).bind fun m=>(cut [32] m.2).bind fun l5=>(vO d l5).bind fun n=>(cut [41] n.2).map fun l6=>(.ite x.1 m.1 n.1,l6)
        else none):=by
 rw [vO.eq_def]
 simp only [cut_is]
theorem rdTm_canon:∀ (d:Nat) (l:Bs) (t:Tm) (r:Bs),vO d l=some (t,r)->l=qP t++r/\okTm t/\jj t<=d:=by
 intro d
 induction d with
 | zero =>
   intro l t r h
   rw [vO.eq_def] at h
   cases hc:cut [40] l with
   | none =>
     simp only [hc] at h
     split at h
     ·rename_i hn
      simp at h;obtain ⟨rfl,rfl⟩:=h
      exact ⟨by unfold qP;rw [yd,qF];exact jL l,hn,by rw [jj];omega⟩
     ·split at h
      ·rename_i hn
       simp at h;obtain ⟨rfl,rfl⟩:=h
       exact ⟨by unfold qP;rw [yd,qF];exact jL l,hn,by rw [jj];omega⟩
      ·simp at h
   | some l1=>simp [hc] at h
 | succ d ih =>
   intro l t r h
   cases hc:cut [40] l with
   | none =>
     rw [vO.eq_def] at h
     simp only [hc] at h
     split at h
     ·rename_i hn
      simp at h;obtain ⟨rfl,rfl⟩:=h
      exact ⟨by unfold qP;rw [yd,qF];exact jL l,hn,by rw [jj];omega⟩
     ·split at h
      ·rename_i hn
       simp at h;obtain ⟨rfl,rfl⟩:=h
       exact ⟨by unfold qP;rw [yd,qF];exact jL l,hn,by rw [jj];omega⟩
      ·simp at h
   | some l1 =>
     have e0:=qI hc
     rw [e0] at h ⊢
     rw [List.singleton_append] at h ⊢
     rw [rdTm_open] at h
     have ew:=jL l1
     split at h
     ·rename_i hw
      rw [hw] at ew
      simp only [Option.bind_eq_some_iff] at h
      obtain ⟨l3,c1,h⟩:=h
      split at h
      ·rename_i hn
       simp only [Option.bind_eq_some_iff,Option.map_eq_some_iff] at h
       obtain ⟨l4,c2,⟨k,l5⟩,hk,l6,c3,⟨t',l7⟩,ht,l8,c4,e⟩:=h
       simp only [Prod.mk.injEq] at e
       obtain ⟨rfl,rfl⟩:=e
       obtain ⟨e1,o1,d1⟩:=ih _ _ _ ht
       have e2:=rdK_canon _ _ _ _ hk
       refine ⟨?_,⟨hn,o1⟩,by rw [jj];omega⟩
       rw [pw]
       simp only at c3 c4
       conv=>lhs;rw [ew,qI c1,jL l3,qI c2,e2,qI c3,e1,qI c4]
       simp
      ·simp at h
     ·split at h
      ·rename_i hw
       rw [hw] at ew
       simp only [Option.bind_eq_some_iff,Option.map_eq_some_iff] at h
       obtain ⟨l3,c1,⟨m,l4⟩,hm,l5,c2,⟨n,l6⟩,hn,l7,c3,e⟩:=h
       simp only [Prod.mk.injEq] at e
       obtain ⟨rfl,rfl⟩:=e
       obtain ⟨e1,o1,d1⟩:=ih _ _ _ hm
       obtain ⟨e2,o2,d2⟩:=ih _ _ _ hn
       refine ⟨?_,⟨o1,o2⟩,by rw [jj];omega⟩
       rw [ph]
       simp only at c2 c3
       conv=>lhs;rw [ew,qI c1,e1,qI c2,e2,qI c3]
       simp
      ·split at h
       ·rename_i hw
        rw [hw] at ew
        simp only [Option.bind_eq_some_iff,Option.map_eq_some_iff] at h
        obtain ⟨l3,c1,⟨x,l4⟩,hx,l5,c2,⟨m,l6⟩,hm,l7,c3,⟨n,l8⟩,hn,l9,c4,e⟩:=h
        simp only [Prod.mk.injEq] at e
        obtain ⟨rfl,rfl⟩:=e
        obtain ⟨e0,o0,d0⟩:=ih _ _ _ hx
        obtain ⟨e1,o1,d1⟩:=ih _ _ _ hm
        obtain ⟨e2,o2,d2⟩:=ih _ _ _ hn
        refine ⟨?_,⟨o0,o1,o2⟩,by rw [jj];omega⟩
        rw [pg]
        simp only at c2 c3 c4
        conv=>lhs;rw [ew,qI c1,e0,qI c2,e1,qI c3,e2,qI c4]
        simp
       ·simp at h

end Go.Proofs.YtepgfdhkkjfmhacGreatDoor

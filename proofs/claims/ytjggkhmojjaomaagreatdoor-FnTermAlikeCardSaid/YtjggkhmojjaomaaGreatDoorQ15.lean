/- Walks of functions that the statement reaches, and plain words. No conditions. -/
import Derived.Laws.IdiomStrings
import Derived.Test.YtjggkhmojjaomaaGreatDoorQ13
set_option linter.unusedVariables false
set_option linter.unusedSimpArgs false
set_option maxHeartbeats 4000000
namespace Go.Proofs.YtjggkhmojjaomaaGreatDoor
open Go.RowKit
theorem eD {W:World} {g r:Nat} (hr:r<10) (h:W.cell? ⟨g,0,none⟩=some (.int .u8 (48+(r:Int)))) :
 (convert 22 9 (.slice (some ⟨g,0,none⟩) 1 1)).run Tryz.prog W=.ok (str [yR r]) W:=by
 refine run_convert_bytes_back (P:=Tryz.prog) W 22 9 5 ⟨g,0,none⟩ 1 [yR r] Tryz.underlying22 Tryz.underlying5 Tryz.underlying9 (fun j hj=>?_)
 have hj0:j=0:=by simpa using hj
 subst hj0
 have e:(yR r).toNat=48+r:=by rw [yR,UInt8.toNat_ofNat'];exact Nat.mod_eq_of_lt (by omega)
 show W.cell? ((⟨g,0,none⟩:Addr).add 0)=some (.int .u8 ((yR r).toNat:Int))
 rw [e]
 have e2:((48+r:Nat):Int)=48+(r:Int):=by omega
 rw [e2];exact h
theorem conv_new {r:Nat} (hr:r<10) (w:World):(convert 22 9 (.slice (some ⟨w.heap.size,0,none⟩) 1 1)).run Tryz.prog (w.alloc (.cells #[.int .u8 (48+(r:Int))] 5))=.ok (str [yR r]) (w.alloc (.cells #[.int .u8 (48+(r:Int))] 5)) :=
 eD hr (by simp)
theorem conv_newd {r:Nat} (hr:r<10) (w:World):(convert 22 9 (.slice (some ⟨w.heap.size,0,none⟩) 1 1)).run Tryz.prog (w.alloc (.cells #[.int .u8 (48+(r:Int))] 5)).drew=.ok (str [yR r]) (w.alloc (.cells #[.int .u8 (48+(r:Int))] 5)).drew :=
 eD hr (show (w.alloc (.cells #[.int .u8 (48+(r:Int))] 5)).cell? _=_ by simp)
theorem conv_kept {r:Nat} (hr:r<10) {w W:World} (hb:Below (w.alloc (.cells #[.int .u8 (48+(r:Int))] 5)).drew.heap.size (w.alloc (.cells #[.int .u8 (48+(r:Int))] 5)).drew W) :
 (convert 22 9 (.slice (some ⟨w.heap.size,0,none⟩) 1 1)).run Tryz.prog W=.ok (str [yR r]) W :=
 eD hr ((hb.cell (show w.heap.size<(w.alloc (.cells #[.int .u8 (48+(r:Int))] 5)).heap.size by simp)).trans (show (w.alloc (.cells #[.int .u8 (48+(r:Int))] 5)).cell? _=_ by simp))
set_option maxRecDepth 100000 in
theorem l6Dec_small (n:Nat) (hn:n<10) (w:World):Calls Tryz.prog 68 #[.int .i64 (n:Nat)] w fun en w'=>en=.returned (str (dec n))/\Below w.heap.size w w':=by
 have hn':(n:Int)<10:=by omega
 have e:=ed (vD hn)
 have hcv:=conv_new hn w
 go_enter Tryz.func68,Tryz.ntmps68
 go_wp2_with fail
 go_ret
 exact ⟨by rw [e.out];rfl,(e_ _ _).alloc (ei _) _⟩
theorem size_alloc_le (w:World) (o:Obj):w.heap.size<=(w.alloc o).drew.heap.size:=by
 show w.heap.size<=(w.alloc o).heap.size
 rw [zK];omega
set_option maxRecDepth 100000 in
theorem l6Dec_step (n:Nat) (hn:¬ n<10) (hl:n<=16777216) (ih:∀ w,Calls Tryz.prog 68 #[.int .i64 ((n / 10:Nat):Int)] w fun en w'=>en=.returned (str (dec (n / 10)))/\Below w.heap.size w w') (w:World) :
 Calls Tryz.prog 68 #[.int .i64 (n:Nat)] w fun en w'=>en=.returned (str (dec n))/\Below w.heap.size w w':=by
 have IH:=ed ih;clear ih
 have hn':¬ (n:Int)<10:=by omega
 have e:=ed (uN hn)
 have q1:(n:Int).tdiv 10=((n / 10:Nat):Int):=dj n 10
 have q2:(n:Int).tmod 10=((n % 10:Nat):Int):=wS n 10
 have hR:n % 10<10:=Nat.mod_lt _ (by omega)
 have hQ:n / 10<=16777216:=fQ (Nat.div_le_self _ _) hl
 have hD:(dec (n / 10)).length<=8:=u6 7 (n / 10) (by omega)
 generalize n % 10=R at *
 generalize n / 10=Q at *
 have q3:IntKind.i64.wrap (Q:Int)=(Q:Int):=wN Q (by omega)
 have q4:IntKind.i64.wrap (48+(R:Int))=48+(R:Int):=by rw [show (48:Int)+R=((48+R:Nat):Int) from by omega];exact wN _ (by omega)
 have q5:IntKind.u8.wrap (48+(R:Int))=48+(R:Int):=by simp [IntKind.wrap,IntKind.bits,IntKind.signed];omega
 have HR:=ed hR
 have Gi:=fun w0=>qR (P:=Tryz.prog) (dec Q) [yR R] (by simp;omega) w0
 have hcv:=conv_newd hR w
 have hcv0:=fun w0=>conv_new hR w0
 go_enter Tryz.func68,Tryz.ntmps68
 go_wp2_with fail
 go_region_with (first
  | (go_at_call 68;refine (IH.out (w.alloc (.cells #[.int .u8 (48+(R:Int))] 5)).drew).mono ?_;rintro en w2 ⟨rfl,fY⟩;have hcv2:=conv_kept HR.out fY;have hbb:=Below.trans (((e_ w.heap.size w).alloc (ei _) (.cells #[.int .u8 (48+(R:Int))] 5)).drew) (fY.mono (size_alloc_le w _)))
  | (go_at_call 68;refine (IH.out w.drew).mono ?_;rintro en w2 ⟨rfl,fY⟩;have hbb:=Below.trans ((e_ w.heap.size w).drew) fY))
 all_goals
  go_wp2_with fail
  go_ret
  refine ⟨by rw [e.out];rfl,?_⟩
  first
   | exact hbb
   | exact hbb.alloc hbb.size _
theorem l6Dec_any (n:Nat):n<=16777216->∀ w,Calls Tryz.prog 68 #[.int .i64 (n:Nat)] w fun en w'=>en=.returned (str (dec n))/\Below w.heap.size w w':=by
 induction n using Nat.strongRecOn with
 | _ n ih =>
   intro hl w
   by_cases h:n<10
   ·exact l6Dec_small n h w
   ·exact l6Dec_step n h hl (ih (n / 10) (Nat.div_lt_self (by omega) (by omega)) (fQ (Nat.div_le_self _ _) hl)) w
def cz (b:Bd):Prop:=∀ (F:Nat->Prop) (w:World) (s v k y:Value),zX F w (kE b) [s,v,k,y] ->
 Calls Tryz.prog 44 #[.agg #[s,v,k,y]] w fun en w'=>en=.returned (str (kJ b))/\Below w.heap.size w w'
abbrev KeepY (g:Nat) (ky:Value) (sD yo:Nat) (s0 v0 p0 q0 s1 v1 p1 q1:Value) (w':World):Prop :=
 w'.cell? ⟨g,3,none⟩=some ky/\w'.cell? ⟨sD,yo,none⟩=some s0/\w'.cell? ⟨sD,yo+1,none⟩=some v0/\w'.cell? ⟨sD,yo+2,none⟩=some p0/\w'.cell? ⟨sD,yo+3,none⟩=some q0 /\
  w'.cell? ⟨sD,yo+4,none⟩=some s1/\w'.cell? ⟨sD,yo+5,none⟩=some v1/\w'.cell? ⟨sD,yo+6,none⟩=some p1/\w'.cell? ⟨sD,yo+7,none⟩=some q1
theorem KeepY.below {g:Nat} {ky:Value} {sD yo:Nat} {s0 v0 p0 q0 s1 v1 p1 q1:Value} {w w':World} (h:KeepY g ky sD yo s0 v0 p0 q0 s1 v1 p1 q1 w) (hb:Below w.heap.size w w'):KeepY g ky sD yo s0 v0 p0 q0 s1 v1 p1 q1 w':=by
 have key:∀ (a:Addr) (v:Value),w.cell? a=some v->w'.cell? a=some v:=fun a v ha=>by
  rw [hb.cell (e9 w _ ha)];exact ha
 obtain ⟨h1,h2,h3,h4,h5,h6,h7,h8,h9⟩:=h
 exact ⟨key _ _ h1,key _ _ h2,key _ _ h3,key _ _ h4,key _ _ h5,key _ _ h6,key _ _ h7,key _ _ h8,key _ _ h9⟩
set_option maxRecDepth 100000 in
theorem l3Text_step (b:Bd) (hl:zW b<=1000000) (rC:lvB b) (ih:∀ b',zW b'<zW b->lvB b'->cz b'):cz b:=by
 intro F w s v k y hv
 have e1:=encN_lv hv
 subst e1
 obtain ⟨_,a2,c2,a3,c3,e,hk,hy⟩:=vB hv
 simp only [List.cons.injEq,and_true] at e
 obtain ⟨rfl,_,rfl,rfl⟩:=e
 cases b with
 | leaf c =>
   clear hv hk hy ih
   show Calls Tryz.prog 44 #[.agg #[str [c],.int .i64 (0:Nat),.slice a2 0 c2,.slice a3 0 c3]] w _
   go_enter Tryz.func44,Tryz.ntmps44
   go_wp2_with fail
   go_ret
   exact ⟨rfl,(e_ _ _).alloc (ei _) _⟩
 | ask lv ss yb nb =>
   have IH:=ed ih;clear ih
   have hsz:=uC (.ask lv ss yb nb)
   rw [di,jy] at hsz
   change zW (.ask lv ss yb nb)=1+(zR ss+zR [yb,nb]) at hsz
   have Dy:zR [yb,nb]=zW yb+zW nb:=by simp [zR]
   rw [lvB] at rC
   obtain ⟨lv1,lv2,lv3,lv4⟩:=rC
   have t1:=u_ ss lv2
   have t2:=jo yb lv3
   have t3:=jo nb lv4
   have t4:(dec lv).length<=5:=u6 4 lv (by omega)
   obtain ⟨_,_,ek,atk⟩:=pm.of hk
   simp only [Value.slice.injEq,true_and] at ek
   rw [<- ek.1] at atk;clear ek
   obtain ⟨_,_,ek,aty⟩:=pm.of hy
   simp only [Value.slice.injEq,true_and] at ek
   rw [<- ek.1] at aty;clear ek
   change pm F w ss a2 at atk
   change pm F w [yb,nb] a3 at aty
   obtain ⟨sD,yo,s0,v0,p2,m2,d2,p3,m3,d3,yt,ey,hyb0,Ij,u0,u1,u2,u3,Ez⟩:=aty 0 (by simp)
   obtain ⟨yb1,yo1,s1,v1,p4,m4,d4,p5,m5,d5,nt,Gv,hyb1,aN,z0,z1,z2,z3,Aa⟩:=aty 1 (by simp)
   rw [ey] at Gv
   simp only [Option.some.injEq,Addr.mk.injEq,and_true] at Gv
   obtain ⟨rfl,rfl⟩:=Gv
   simp only [List.getElem?_cons_zero,Option.some.injEq] at Ij
   simp only [List.getElem?_cons_succ,List.getElem?_cons_zero,Option.some.injEq] at aN
   subst Ij;subst aN
   simp only [Nat.zero_mul,Nat.add_zero] at u0 u1 u2 u3
   simp only [Nat.one_mul,Nat.add_assoc,Nat.reduceAdd] at z0 z1 z2 z3
   have nss:ss.length<=16777216:=by have:=qB ss;omega
   have GA:=ed hsz;have HYN:=ed Dy
   have ATK:=ed atk
   have LV:=ed lv2;have LV3:=ed lv3;have LV4:=ed lv4
   have lvl:lv<=16777216:=by omega
   have Ji:KeepY w.heap.size (.slice a3 2 c3) sD yo (str s0) (.int .i64 v0) (.slice p2 m2 d2) (.slice p3 m3 d3) (str s1) (.int .i64 v1) (.slice p4 m4 d4) (.slice p5 m5 d5) (w.alloc (.cells #[str [],.int .i64 lv,.slice a2 ss.length c2,.slice a3 2 c3] 48)) :=
    ⟨by simp,zJ u0,zJ u1,zJ u2,zJ u3,zJ z0,zJ z1,zJ z2,zJ z3⟩
   have Hp:=ed Ji
   have GC:=ed Ez;have HRN:=ed Aa
   subst ey
   clear hv hk hy atk aty hsz Dy lv2 lv3 lv4 u0 u1 u2 u3 z0 z1 z2 z3 Ez Aa Ji
   show Calls Tryz.prog 44 #[.agg #[str [],.int .i64 lv,.slice a2 ss.length c2,.slice (some ⟨sD,yo,none⟩) 2 c3]] w _
   have J3:=fun w0=>qR (P:=Tryz.prog) [40] (dec lv) (by simp;omega) w0
   go_enter Tryz.func44,Tryz.ntmps44
   go_wp2_with fail
   refine (l6Dec_any lv lvl _).mono ?_
   rintro en w1 ⟨rfl,fP⟩
   have nw:Below w.heap.size w w1:=Below.trans ((e_ w.heap.size w).alloc (ei _) (.cells #[str [],.int .i64 lv,.slice a2 ss.length c2,.slice (some ⟨sD,yo,none⟩) 2 c3] 48)) (fP.mono (by simp))
   have AZ:w1.cell? ⟨w.heap.size,2,none⟩=some (.slice a2 ss.length c2):=(fP.cell (by simp)).trans (by simp)
   have KO:=ed (Hp.out.below fP)
   go_wp2_with fail
   clear J3
   go_loopw [3,4] (fun o i wr=>∃ k:Nat,k<=ss.length/\i=.int .i64 k/\o=str ([40]++dec lv++kT (ss.take k))/\Below w.heap.size w wr/\wr.cell? ⟨w.heap.size,2,none⟩=some (.slice a2 ss.length c2)/\KeepY w.heap.size (.slice (some ⟨sD,yo,none⟩) 2 c3) sD yo (str s0) (.int .i64 v0) (.slice p2 m2 d2) (.slice p3 m3 d3) (str s1) (.int .i64 v1) (.slice p4 m4 d4) (.slice p5 m5 d5) wr) (fun _ i _=>ss.length-(intOf i).toNat)
   case atStart=>exact ⟨0,Nat.zero_le _,rfl,by simp [kT],nw,AZ,KO.out⟩
   case round =>
    clear AZ KO Hp nw
    obtain ⟨k,hk,rfl,rfl,hb,AZ,Ji⟩:=hrel
    have Hp:=ed Ji;clear Ji
    have hlen:([40]++dec lv++kT (ss.take k)).length<=16777216:=by
     have h1:=dY ss k
     have h2:=GA.out
     simp only [List.length_append,List.length_cons,List.length_nil];omega
    by_cases fG:k<ss.length
    ·obtain ⟨bb,o,s',v',b2,n2,e2,b3,n3,e3,t,eb,hbb,ht,u0,u1,u2,u3,hr⟩:=ATK.out k fG
     subst eb
     have q0:=(hb.cell hbb).trans u0
     have q1:=(hb.cell hbb).trans u1
     have q2:=(hb.cell hbb).trans u2
     have q3:=(hb.cell hbb).trans u3
     have rA:=zX.below (F':=fun _=>True) hb (fun _ _=>trivial) hr
     have rV:=yP ht
     have iU:=jd ss (k+1)
     have ln:=GA.out
     have rX:=jo t (dH _ LV.out k t ht)
     have C:=ed (IH.out t (by omega) (dH _ LV.out k t ht) _ wr _ _ _ _ rA)
     have HT:=ed (textBs_take ht)
     have ht16:(kJ t).length<=16777216:=by omega
     have mX:(k:Int)<(ss.length:Int):=by omega
     generalize hO:[40]++dec lv++kT (ss.take k)=O at *
     have HO:=ed hO
     have iP:=fun w0=>qR (P:=Tryz.prog) O [32] (by simp;omega) w0
     have iW:=fun w0=>qR (P:=Tryz.prog) (O++[32]) (kJ t) (by simp;omega) w0
     clear hO rV iU ln rX ht u0 u1 u2 u3 hr rA
     go_wp2_with fail
     refine C.out.mono ?_
     rintro en w2 ⟨rfl,fY⟩
     have fE:=zzT hb fY
     have hx2':w2.cell? ⟨w.heap.size,2,none⟩=some (.slice (some ⟨bb,o,none⟩) ss.length c2):=(fY.cell (e9 _ ⟨w.heap.size,2,none⟩ AZ)).trans AZ
     have HKY2:=ed (Hp.out.below fY)
     go_wp2_with fail
     go_roundw
     case rel=>exact ⟨k+1,by omega,by go_num,by rw [HT.out,<- HO.out];simp [str],fE,hx2',HKY2.out⟩
     case measure=>simp [intOf];omega
    ·obtain rfl:k=ss.length:=by omega
     rw [List.take_length] at hlen ⊢
     have iY:¬ ((ss.length:Int)<(ss.length:Int)):=by omega
     have HE:Hid (kJ (.ask lv ss yb nb)=((((([40]++dec lv++kT ss)++[32])++kJ yb)++[32])++kJ nb)++[41]):=by show kJ _=_;rw [kJ]
     generalize hO:[40]++dec lv++kT ss=O at *
     clear hO
     obtain ⟨i7,q0,q1,q2,q3,q4,q5,q6,q7⟩:=Hp.out
     have ID:=(zX.below (F':=fun _=>True) hb (fun _ _=>trivial) GC.out).drew
     have IL:=zX.below (F':=fun _=>True) hb (fun _ _=>trivial) HRN.out
     have ln:=GA.out
     have rX:=HYN.out
     have y16:(kJ yb).length<=16777216:=by omega
     have n16:(kJ nb).length<=16777216:=by omega
     have pp:=kW yb;have pq:=kW nb
     have CY:=ed (IH.out yb (by omega) LV3.out _ wr.drew _ _ _ _ ID)
     have CN:=fun W F' h=>IH.out nb (by omega) LV4.out F' W (str s1) (.int .i64 v1) (.slice p4 m4 d4) (.slice p5 m5 d5) h
     have CN':=ed CN;clear CN
     have RN:=ed IL
     have e16:(O++[32]).length=O.length+1:=by simp
     obtain ⟨O1,h1⟩:=zzM (O++[32])
     obtain ⟨O2,h2⟩:=zzM (O1++kJ yb)
     obtain ⟨O3,h3⟩:=zzM (O2++[32])
     obtain ⟨O4,h4⟩:=zzM (O3++kJ nb)
     obtain ⟨O5,h5⟩:=zzM (O4++[41])
     have l1:O1.length<=16777217:=by rw [h1];simp;omega
     have l2:O2.length<=33554433:=by rw [h2];simp;omega
     have l3:O3.length<=33554434:=by rw [h3];simp;omega
     have l4:O4.length<=50331650:=by rw [h4];simp;omega
     have iP:=fun w0=>qR (P:=Tryz.prog) O [32] (by simp;omega) w0
     have iW:=fun w0=>qR (P:=Tryz.prog) O1 (kJ yb) (by omega) w0
     have lD:=fun w0=>qR (P:=Tryz.prog) O2 [32] (by simp;omega) w0
     have lC:=fun w0=>qR (P:=Tryz.prog) O3 (kJ nb) (by omega) w0
     have J2:=fun w0=>qR (P:=Tryz.prog) O4 [41] (by simp;omega) w0
     have HE5:Hid (O5=kJ (.ask lv ss yb nb)):=by show O5=_;rw [HE.out,h5,h4,h3,h2,h1]
     rw [<- h1] at iP;rw [<- h2] at iW;rw [<- h3] at lD;rw [<- h4] at lC;rw [<- h5] at J2
     clear h1 h2 h3 h4 h5 HE e16 l1 l2 l3 l4
     have hKd:KeepY w.heap.size (.slice (some ⟨sD,yo,none⟩) 2 c3) sD yo (str s0) (.int .i64 v0) (.slice p2 m2 d2) (.slice p3 m3 d3) (str s1) (.int .i64 v1) (.slice p4 m4 d4) (.slice p5 m5 d5) wr.drew:=Hp.out
     clear ln rX pp pq ID IL t1 t2 t3 t4
     go_wp2_with fail
     go_region_held3 (fun w'=>w'.cell? ⟨w.heap.size,3,none⟩=some (.slice (some ⟨sD,yo,none⟩) 2 c3)/\w'.cell? ⟨sD,yo,none⟩=some (str s0)/\w'.cell? ⟨sD,yo+1,none⟩=some (.int .i64 v0)/\w'.cell? ⟨sD,yo+2,none⟩=some (.slice p2 m2 d2)/\w'.cell? ⟨sD,yo+3,none⟩=some (.slice p3 m3 d3)/\w'.cell? ⟨sD,yo+4,none⟩=some (str s1)/\w'.cell? ⟨sD,yo+5,none⟩=some (.int .i64 v1)/\w'.cell? ⟨sD,yo+6,none⟩=some (.slice p4 m4 d4)/\w'.cell? ⟨sD,yo+7,none⟩=some (.slice p5 m5 d5))
      (first
       | with_reducible exact hKd
       | with_reducible exact Dt
       | with_reducible exact hK4)
      (first
       | (go_at_call 44;refine (CN'.out _ _ rn3).mono ?_;rintro en w4 ⟨rfl,fx⟩;have hK4:=Dt.below fx)
       | (go_at_call 44;refine CY.out.mono ?_;rintro en w3 ⟨rfl,fE⟩;have Dt:=hKd.below fE;have rn3:=zX.below (F':=fun _=>True) fE (fun _ _=>trivial) RN.out.drew))
     go_wp2_with fail
     go_ret
     exact ⟨by rw [<- HE5.out];rfl,hb.trans ((((e_ _ wr).drew).trans (zzT fE fx)).mono hb.size)⟩
theorem l3Text_any (n:Nat):∀ b,zW b<=n->n<=1000000->lvB b->cz b:=by
 induction n with
 | zero=>intro b h _;have:=kW b;omega
 | succ n ih=>exact fun b h hn rC=>l3Text_step b (by omega) rC (fun b' h' tH=>ih b' (by omega) (by omega) tH)
mutual
def bE:Mn->List DV
 | .op o t=>[.val (.int .i64 (o:Nat)),.val (str []),.val (.int .i64 0),.val (.slice none 0 0),.val (.slice none 0 0),kz t,.val (.slice none 0 0),.val (.int .i64 0),.any]
 | .bd t b env=>[.val (.int .i64 (-1))]++(kE b++[kz t,.sl 130 9 env.length (ke env),.val (.int .i64 (0:Nat)),.any])
def ke:List Mn->List DV
 | []=>[]
 | x::xs=>bE x++ke xs
end
theorem pK (x:Mn):(bE x).length=9:=by cases x <;> simp [bE,ji]
theorem bD:∀ xs:List Mn,(ke xs).length=xs.length*9
 | []=>by simp [ke]
 | x::xs=>by rw [ke,List.length_append,pK,bD xs];simp;omega
theorem vQ:∀ (xs ys:List Mn),ke (xs++ys)=ke xs++ke ys
 | [],ys=>by simp [ke]
 | x::xs,ys=>by simp [ke,vQ xs ys]
theorem vW {F:Nat->Prop} {w:World}:∀ (xs:List Mn) (us:List Value),zX F w (ke xs) us->∀ u∈us,u.oneCell'=true
 | [],us,h,u,hu=>by rw [ke,zC] at h;subst h;simp at hu
 | x::xs,us,h,u,hu=>by
   rw [ke] at h
   obtain ⟨h1,h2⟩:=h.split
   rw [pK] at h1 h2
   rw [<- List.take_append_drop 9 us] at hu
   rcases List.mem_append.1 hu with hu | hu
   ·cases x with
    | op o t =>
      simp only [bE,zQ,zC,zH,yQ] at h1
      obtain ⟨_,_,e,rfl,_,_,rfl,rfl,_,_,rfl,rfl,_,_,rfl,rfl,_,_,rfl,rfl,x1,_,rfl,q1,_,_,rfl,rfl,_,_,rfl,rfl,x3,_,rfl,⟨i3,rfl⟩,rfl⟩:=h1
      obtain ⟨sa,sc,rfl⟩:=kK q1
      rw [e] at hu
      simp only [List.mem_cons,List.not_mem_nil,or_false] at hu
      rcases hu with rfl | rfl | rfl | rfl | rfl | rfl | rfl | rfl | rfl
      all_goals first | rfl | assumption
    | bd t b env =>
      rw [bE] at h1
      obtain ⟨k1,k2⟩:=h1.split
      obtain ⟨k3,k4⟩:=k2.split
      rw [<- List.take_append_drop 1 (us.take 9)] at hu
      rcases List.mem_append.1 hu with hu | hu
      ·simp only [List.length_singleton,zQ,zC,zH] at k1
       obtain ⟨_,_,e,rfl,rfl⟩:=k1
       rw [e] at hu;simp at hu;subst hu;rfl
      ·rw [ji] at k3 k4
       simp only [List.length_singleton] at k3 k4
       rw [<- List.take_append_drop 4 (List.drop 1 (us.take 9))] at hu
       rcases List.mem_append.1 hu with hu | hu
       ·exact oneCell_encN k3 u hu
       ·simp only [zQ,zC,yQ,zH] at k4
        obtain ⟨x0,_,e,q1,x1,_,rfl,q2,_,_,rfl,rfl,x3,_,rfl,⟨i3,rfl⟩,rfl⟩:=k4
        rw [e] at hu
        obtain ⟨sa,sc,rfl⟩:=kK q1
        rw [zp] at q2
        obtain ⟨_,a,c,rfl,_⟩:=q2
        simp only [List.mem_cons,List.not_mem_nil,or_false] at hu
        rcases hu with rfl | rfl | rfl | rfl
        all_goals first | rfl | assumption
   ·exact vW xs _ h2 u hu
def HandWPost (F:Nat->Prop) (hand:List Mn) (own:List Mn) (w:World) (en:Ending) (w':World):Prop :=
 ∃ a c,en=.returned (.slice a (hand.length+own.length) c)/\Below w.heap.size w w'/\Rep (fun i=>F i\/w.heap.size<=i) w' (.sl 130 9 (hand.length+own.length) (ke (hand++own))) (.slice a (hand.length+own.length) c)
set_option maxRecDepth 100000 in
theorem gN (F:Nat->Prop) (hand env:List Mn) (ss:List Bd) (t:Ty) (hv kv tv ev:Value) (w:World) (hh:Rep F w (.sl 130 9 hand.length (ke hand)) hv) (hk:Rep F w (.sl 48 4 ss.length (zg ss)) kv)
 (ht:Rep F w (kz t) tv) (he:Rep F w (.sl 130 9 env.length (ke env)) ev) (hl:hand.length<=10000000) (hs:ss.length=t.args.length) (hs16:ss.length<=16) :
 Calls Tryz.prog 88 #[hv,kv,.agg #[tv],ev,.int .i64 (0:Nat)] w (HandWPost F hand (owns env t.args ss) w):=by
 obtain ⟨io,Dc,g1⟩:=zO.ofRep hh (vW _)
 obtain ⟨a1,c1,e1⟩:=g1.slice
 subst e1
 obtain ⟨ka,kc,e,G2⟩:=pm.of hk
 subst e
 have nz:=ht
 rw [qv] at nz
 obtain ⟨ta,tc,e,_,_,r_⟩:=zP nz
 subst e
 obtain ⟨ea,ec,e⟩:∃ a c,ev=.slice a env.length c:=by have h:=he;rw [zp] at h;obtain ⟨_,a,c,e,_⟩:=h;exact ⟨a,c,e⟩
 subst e
 have H:=ed (ef Dc (ef g1 (ef G2 (ef r_ (ef he hs)))))
 clear Dc g1 G2 r_ he hs hh hk ht nz
 have aM:(owns env t.args ss).length=ss.length:=(xy _ _ H.out.2.2.2.2.2).trans H.out.2.2.2.2.2.symm
 have HOL:=ed aM;clear aM
 go_enter Tryz.func88,Tryz.ntmps88
 go_wp2_with (at_builtin;refine zD rfl _ _ 127 rfl 130 (.agg #[.int .i64 0,str [],.int .i64 0,.slice none 0 0,.slice none 0 0,.slice none 0 0,.slice none 0 0,.int .i64 0,.int .i64 0]) 9 144 Tryz.underlying127 Tryz.infoBo rfl (by decide) (.slice (some ⟨w.heap.size+1,0,none⟩) 0 0) 0 [] rfl ?c1 _ hand.length io rfl ?c2 ?c3 ?c4 ?_)
 case c1=>exact Own.litAt #[] 0 _ (by simp) (by decide) rfl
 case c2=>exact (H.out.2.1.alloc _).alloc _
 case c3=>unfold maxLen;omega
 case c4=>omega
 intro ax cx wx hox tB hgx
 obtain ⟨tI,hfx⟩:=vZ (w:=w.alloc (.cells #[.slice ta t.args.length tc] 43)) ((e_ _ _).alloc (ei _) _) (wu (by simp)) tB (fun g h=>by have:=hgx g h;simpa only [zK] using this)
 have nw:Below w.heap.size w (w.alloc (.cells #[.slice ta t.args.length tc] 43)):=(e_ _ _).alloc (ei _) _
 have JN:Below w.heap.size w wx:=nw.trans (tI.mono (by rw [zK];omega))
 have hcx:wx.cell? ⟨w.heap.size,0,none⟩=some (.slice ta t.args.length tc):=by rw [tI.cell (p:=⟨w.heap.size,0,none⟩) (by rw [zK];simp)];simp
 have JA:∀ g,(Value.slice ax hand.length cx).ownBlock=some g->w.heap.size+1<=g:=fun g hg=>by have:=hfx g hg;rwa [zK] at this
 have HX:=ed (ef hox (ef JN (ef hcx JA)));clear hox tB hgx tI hfx nw JN hcx JA
 go_wp2_with fail
 go_loopw [12,11] (fun i o wr=>∃ (k:Nat) (a':Option Addr) (c':Nat) (cells:List Value),k<=ss.length/\i=.int .i64 k/\o=.slice a' (hand.length+k) c'/\Own wr 130 9 (.slice a' (hand.length+k) c') (hand.length+k) cells /\
  zX (fun i=>F i/\(Value.slice a' (hand.length+k) c').ownBlock≠some i) wr (ke (hand++(owns env t.args ss).take k)) cells/\Below w.heap.size w wr/\wr.cell? ⟨w.heap.size,0,none⟩=some (.slice ta t.args.length tc)/\(∀ g,(Value.slice a' (hand.length+k) c').ownBlock=some g->w.heap.size+1<=g)) (fun i _ _=>ss.length-(intOf i).toNat)
 case atStart =>
  refine ⟨0,ax,cx,io,Nat.zero_le _,rfl,rfl,HX.out.1,?_,HX.out.2.1,HX.out.2.2.1,HX.out.2.2.2⟩
  rw [List.take_zero,List.append_nil]
  exact (Rep.keep fun b o hf ho=>⟨⟨hf,fun e=>by have h1:w.heap.size+1<=b:=HX.out.2.2.2 b e;have:=zZ ho;omega⟩,by rw [HX.out.2.1.block b (zZ ho)];exact ho⟩).2 _ _ H.out.1
 case round =>
  obtain ⟨k,a',c',cells,hk,rfl,rfl,ho,hr,hb,hc,hf⟩:=hrel
  have HR:=ed (ef ho (ef hr (ef hb hf)));clear ho hr hb hf
  by_cases fG:k<ss.length
  ·obtain ⟨kb,ko,s',v',a2,n2,c2,a3,n3,c3,d,e,sK,hd,k0,k1,k2,k3,tm⟩:=H.out.2.2.1 k fG
   subst e
   have EH:k<t.args.length:=by have:=H.out.2.2.2.2.2;omega
   obtain ⟨bt,ot,ut,dt,e,_,rE,hdt,hct,fa⟩:=H.out.2.2.2.1 k EH
   subst e
   rw [vj,Option.map_eq_some_iff] at hdt
   obtain ⟨tk,iw,rfl⟩:=hdt
   obtain ⟨ua,uc,rfl⟩:=kK fa
   have q0:=(HR.out.2.2.1.cell (p:=⟨kb,ko+k*4,none⟩) sK).trans k0
   have q1:=(HR.out.2.2.1.cell (p:=⟨kb,ko+k*4+1,none⟩) sK).trans k1
   have q2:=(HR.out.2.2.1.cell (p:=⟨kb,ko+k*4+2,none⟩) sK).trans k2
   have q3:=(HR.out.2.2.1.cell (p:=⟨kb,ko+k*4+3,none⟩) sK).trans k3
   have q4:=(HR.out.2.2.1.cell (p:=⟨bt,ot+k,none⟩) rE).trans hct
   have HK:=ed (ef hd (ef tm (ef iw fa)));clear hd tm iw fa k0 k1 k2 k3 hct
   have mX:(k:Int)<(ss.length:Int):=by omega
   have hkt':(k:Int)<(t.args.length:Int):=by omega
   have h09:0<9:=by omega
   have tK:hand.length+k+1<=maxLen:=by unfold maxLen;omega
   have nP:(hand.length+k+1)*144<=140737488355328:=by omega
   have DM:=(zO.lit1 (w:=wr) (e:=130) #[.int .i64 (-1),str s',.int .i64 v',.slice a2 n2 c2,.slice a3 n3 c3,.slice ua tk.args.length uc,.slice ea env.length ec,.int .i64 (0:Nat),.int .i64 (k:Nat)] rfl (by simp [str,Value.oneCell']) _ rfl).drew
   have HL:=ed DM;clear DM
   have hrw:∀ g,(Value.slice a' (hand.length+k) c').ownBlock=some g->g<wr.heap.size:=fun g hg=>HR.out.1.lt hg
   have SIX:Hid (∀ w7:World,But (fun b=>(Value.slice a' (hand.length+k) c').ownBlock=some b) (wr.alloc (.cells #[.int .i64 (-1),str s',.int .i64 v',.slice a2 n2 c2,.slice a3 n3 c3,.slice ua tk.args.length uc,.slice ea env.length ec,.int .i64 (0:Nat),.int .i64 (k:Nat)] 130)).drew w7 ->
    w7.cell? ⟨kb,ko+k*4,none⟩=some (str s')/\w7.cell? ⟨kb,ko+k*4+1,none⟩=some (.int .i64 v')/\w7.cell? ⟨kb,ko+k*4+2,none⟩=some (.slice a2 n2 c2)/\w7.cell? ⟨kb,ko+k*4+3,none⟩=some (.slice a3 n3 c3)/\w7.cell? ⟨bt,ot+k,none⟩=some (.slice ua tk.args.length uc)/\w7.cell? ⟨w.heap.size,0,none⟩=some (.slice (some ⟨bt,ot,none⟩) t.args.length tc)):=by
    show ∀ w7:World,_->_
    intro w7 fW
    have hz:=HR.out.2.2.1.size
    have key:∀ (p:Addr) (u:Value),p.block<w.heap.size+1->wr.cell? p=some u->w7.cell? p=some u:=by
     intro p u hp hu
     have h1:(wr.alloc (.cells #[.int .i64 (-1),str s',.int .i64 v',.slice a2 n2 c2,.slice a3 n3 c3,.slice ua tk.args.length uc,.slice ea env.length ec,.int .i64 (0:Nat),.int .i64 (k:Nat)] 130)).drew.cell? p=some u:=zJ hu
     exact (fW.cell (e9 _ _ h1) (fun e=>by have:=HR.out.2.2.2 _ e;omega)).trans h1
    exact ⟨key _ _ (by simp only;omega) q0,key _ _ (by simp only;omega) q1,key _ _ (by simp only;omega) q2,key _ _ (by simp only;omega) q3,key _ _ (by simp only;omega) q4,key _ _ (by simp only;omega) hc⟩
   go_wp2_with fail
   go_region_held3 (fun w'=>w'.cell? ⟨kb,ko+k*4,none⟩=some (str s')/\w'.cell? ⟨kb,ko+k*4+1,none⟩=some (.int .i64 v')/\w'.cell? ⟨kb,ko+k*4+2,none⟩=some (.slice a2 n2 c2)/\w'.cell? ⟨kb,ko+k*4+3,none⟩=some (.slice a3 n3 c3)/\w'.cell? ⟨bt,ot+k,none⟩=some (.slice ua tk.args.length uc)/\w'.cell? ⟨w.heap.size,0,none⟩=some (.slice (some ⟨bt,ot,none⟩) t.args.length tc))
    (first
     | exact ⟨q0,q1,q2,q3,q4,hc⟩
     | exact A8
     | go_keep)
    (first
     | (refine zE (by rfl) _ _ _ (by rfl) 130 (.agg #[.int .i64 0,str [],.int .i64 0,.slice none 0 0,.slice none 0 0,.slice none 0 0,.slice none 0 0,.int .i64 0,.int .i64 0]) 9 144 Tryz.underlying127 Tryz.infoBo rfl h09 (.slice a' (hand.length+k) c') (hand.length+k) cells (by rfl) (HR.out.1.alloc _).drew _ 1 [.int .i64 (-1),str s',.int .i64 v',.slice a2 n2 c2,.slice a3 n3 c3,.slice ua tk.args.length uc,.slice ea env.length ec,.int .i64 (0:Nat),.int .i64 (k:Nat)] (by rfl) HL.out tK nP ?_;intro a7 c7 w7 fu fW fR;have A8:=SIX.out w7 fW))
   have hz:=HR.out.2.2.1.size
   have nV:∀ g,(Value.slice a7 (hand.length+k+1) c7).ownBlock=some g->(Value.slice a' (hand.length+k) c').ownBlock=some g\/g=wr.heap.size+1:=by
    intro g hg
    rcases fR g hg with h | h
    ·exact .inl h
    ·exact .inr (by rw [h];exact zK _ _)
   have nM:Below w.heap.size w w7:=by
    refine ((HR.out.2.2.1.alloc hz _).drew).trans (fW.toBelow (by show _<=(wr.alloc _).heap.size;rw [zK];omega) fun i hi e=>?_)
    have:=HR.out.2.2.2 i e;omega
   have En:∀ (b:Nat) (o:Obj),(Value.slice a' (hand.length+k) c').ownBlock≠some b->wr.heap[b]? = some o->w7.heap[b]? = some o:=by
    intro b o hf ho
    have h2:=zZ ho
    have h3:(wr.alloc (.cells #[.int .i64 (-1),str s',.int .i64 v',.slice a2 n2 c2,.slice a3 n3 c3,.slice ua tk.args.length uc,.slice ea env.length ec,.int .i64 (0:Nat),.int .i64 (k:Nat)] 130)).drew.heap[b]? = some o:=zY ho
    rw [fW.block b (zZ h3) hf];exact h3
   have sA:zX (fun i=>F i/\(Value.slice a7 (hand.length+k+1) c7).ownBlock≠some i) w7 (ke (hand++(owns env t.args ss).take (k+1))) (cells++[.int .i64 (-1),str s',.int .i64 v',.slice a2 n2 c2,.slice a3 n3 c3,.slice ua tk.args.length uc,.slice ea env.length ec,.int .i64 (0:Nat),.int .i64 (k:Nat)]):=by
    have how:=ge (env:=env) t.args ss k tk d HK.out.2.2.1 HK.out.1
    rw [List.take_add_one,how]
    simp only [Option.toList_some]
    rw [<- List.append_assoc,vQ]
    have hnf:∀ (b:Nat) (o:Obj),F b->w.heap[b]? = some o->(F b/\(Value.slice a7 (hand.length+k+1) c7).ownBlock≠some b)/\w7.heap[b]? = some o:=by
     intro b o hf ho
     have h1:=zZ ho
     refine ⟨⟨hf,fun e=>?_⟩,by rw [nM.block b h1];exact ho⟩
     rcases nV b e with h | h
     ·have:=HR.out.2.2.2 b h;omega
     ·omega
    refine zX.append ?_ ?_
    ·exact (Rep.keep fun b o hf ho=>⟨⟨hf.1,fun e=>by
      have:=zZ ho
      rcases nV b e with h | h
      ·exact hf.2 h
      ·omega⟩,En b o hf.2 ho⟩).2 _ _ HR.out.2.1
    ·simp only [ke,bE,List.append_nil,List.cons_append,List.nil_append]
     refine zQ.2 ⟨_,_,rfl,zH.2 rfl,?_⟩
     have h4:=(Rep.keep hnf).2 _ _ HK.out.2.1
     have h5:=(Rep.keep hnf).1 _ _ HK.out.2.2.2
     have h6:=(Rep.keep hnf).1 _ _ H.out.2.2.2.2.1
     exact zX.append h4 (zQ.2 ⟨_,_,rfl,h5,zQ.2 ⟨_,_,rfl,h6,zQ.2 ⟨_,_,rfl,zH.2 rfl,zQ.2 ⟨_,_,rfl,yQ.2 ⟨_,rfl⟩,zC.2 rfl⟩⟩⟩⟩)
   have ai:∀ g,(Value.slice a7 (hand.length+k+1) c7).ownBlock=some g->w.heap.size+1<=g:=by
    intro g hg
    rcases nV g hg with h | h
    ·exact HR.out.2.2.2 g h
    ·omega
   have H7:=ed (ef fu (ef sA (ef nM (ef A8.2.2.2.2.2 ai))));clear fu sA nM A8 ai fW fR nV En q0 q1 q2 q3 q4 hc
   go_wp2_with fail
   go_roundw
   case rel=>exact ⟨k+1,a7,c7,_,by omega,by go_num,rfl,H7.out.1,H7.out.2.1,H7.out.2.2.1,H7.out.2.2.2.1,H7.out.2.2.2.2⟩
   case measure=>simp [intOf];omega
  ·obtain rfl:k=ss.length:=by omega
   have FT:¬ (ss.length:Int)<(ss.length:Int):=by omega
   clear hc
   go_wp2_with fail
   go_ret
   have hr:=HR.out.2.1
   rw [List.take_of_length_le (by rw [HOL.out];exact ei _)] at hr
   unfold HandWPost
   rw [HOL.out]
   refine ⟨a',c',rfl,HR.out.2.2.1,HR.out.1.rep (fun g hg=>.inr (by have:=HR.out.2.2.2 g hg;omega)) ((Rep.keep fun b o hf ho=>⟨.inl hf.1,ho⟩).2 _ _ hr)⟩
set_option maxRecDepth 100000 in
theorem wl (F:Nat->Prop) (n:Nat) (ts:List Ty) (kv:Value) (w:World) (h:Rep F w (.sl 43 1 ts.length (qH ts)) kv) (hl:ts.length<=1000) (hn:n<=1000000) :
 Calls Tryz.prog 66 #[kv,.int .i64 (n:Nat)] w (FreshV w 130 9 ts.length fun w' xs=>zX F w' (ke (opens n ts)) xs):=by
 obtain ⟨ka,kc,e,_,_,fU⟩:=zP h
 subst e
 have H:=ed fU;clear fU h
 go_enter Tryz.func66,Tryz.ntmps66
 go_wp2_with fail
 go_loopw [5,6] (fun o i wr=>∃ k:Nat,k<=ts.length/\i=.int .i64 k/\∃ a c xs,o=.slice a k c/\Own wr 130 9 (.slice a k c) k xs/\zX (fun i=>F i/\i<w.heap.size) wr (ke (opens n (ts.take k))) xs/\Below w.heap.size w wr/\(∀ g,(Value.slice a k c).ownBlock=some g->w.heap.size<=g)) (fun _ i _=>ts.length-(intOf i).toNat)
 case atStart=>exact ⟨0,Nat.zero_le _,rfl,_,_,[],rfl,Own.litAt #[] 0 _ (by simp) (by decide) rfl,by simp [opens,ke,zC],(e_ _ _).alloc (ei _) _,wu (ei _)⟩
 case round =>
  obtain ⟨k,hk,rfl,a,c,xs,rfl,ho,hr,hb,hf⟩:=hrel
  have HO:=ed ho;have HF:=ed hf;have HB:=ed hb;have HR:=ed hr
  clear ho hf hb hr
  by_cases fG:k<ts.length
  ·have mX:(k:Int)<(ts.length:Int):=by omega
   obtain ⟨b,o,u,d,e,_,fh,hd,hc,nI⟩:=H.out k fG
   subst e
   rw [vj,Option.map_eq_some_iff] at hd
   obtain ⟨t,ht,rfl⟩:=hd
   obtain ⟨ua,uc,rfl⟩:=kK nI
   have q0:=(HB.out.cell (p:=⟨b,o+k,none⟩) fh).trans hc
   have HT:=ed (ef ht nI);clear ht nI hc
   go_wp2_with (at_builtin;refine zD rfl _ _ 127 rfl 130 (.agg #[.int .i64 0,str [],.int .i64 0,.slice none 0 0,.slice none 0 0,.slice none 0 0,.slice none 0 0,.int .i64 0,.int .i64 0]) 9 144 Tryz.underlying127 Tryz.infoBo rfl (by decide) (.slice a k c) k xs rfl ?c1 _ 1 [.int .i64 ((n:Int)+(k:Int)),str [],.int .i64 0,.slice none 0 0,.slice none 0 0,.slice ua t.args.length uc,.slice none 0 0,.int .i64 0,.int .i64 0] rfl ?c2 ?c3 ?c4 ?_)
   case c1=>exact HO.out.alloc _
   case c2=>exact zO.lit1 #[.int .i64 ((n:Int)+(k:Int)),str [],.int .i64 0,.slice none 0 0,.slice none 0 0,.slice ua t.args.length uc,.slice none 0 0,.int .i64 0,.int .i64 0] rfl (by simp [str,Value.oneCell']) _ (by simp)
   case c3=>unfold maxLen;omega
   case c4=>omega
   intro a' c' w7 fu fW fR
   have nM:Below w.heap.size w w7:=by
    have h1:=HB.out
    refine (h1.alloc h1.size _).trans (fW.toBelow (by rw [zK];have:=h1.size;omega) fun i hi e=>?_)
    have:=HF.out i e;omega
   have ai:∀ g,(Value.slice a' (k+1) c').ownBlock=some g->w.heap.size<=g:=by
    intro g h
    rcases fR g h with h | h
    ·exact HF.out g h
    ·have h2:=HB.out.size
     omega
   have sA:zX (fun i=>F i/\i<w.heap.size) w7 (ke (opens n (ts.take (k+1)))) (xs++[.int .i64 ((n:Int)+(k:Int)),str [],.int .i64 0,.slice none 0 0,.slice none 0 0,.slice ua t.args.length uc,.slice none 0 0,.int .i64 0,.int .i64 0]):=by
    rw [gW HT.out.1,vQ,ke,ke,List.append_nil]
    refine zX.append ?_ ?_
    ·exact (Rep.keep fun b o hf ho=>⟨hf,by rw [nM.block b hf.2,<- HB.out.block b hf.2];exact ho⟩).2 _ _ HR.out
    ·rw [bE]
     refine zQ.2 ⟨_,_,rfl,zH.2 (by rw [Int.natCast_add]),zQ.2 ⟨_,_,rfl,zH.2 rfl,zQ.2 ⟨_,_,rfl,zH.2 rfl,zQ.2 ⟨_,_,rfl,zH.2 rfl,zQ.2 ⟨_,_,rfl,zH.2 rfl,zQ.2 ⟨_,_,rfl,(Rep.keep fun b o hf ho=>⟨⟨hf,zZ ho⟩,by rw [nM.block b (zZ ho)];exact ho⟩).1 _ _ HT.out.2,zQ.2 ⟨_,_,rfl,zH.2 rfl,zQ.2 ⟨_,_,rfl,zH.2 rfl,zQ.2 ⟨_,_,rfl,yQ.2 ⟨_,rfl⟩,zC.2 rfl⟩⟩⟩⟩⟩⟩⟩⟩⟩
   have HA:=ed (ef fu (ef sA (ef nM ai)));clear fu sA nM ai fW fR
   go_wp2_with fail
   go_roundw
   case rel=>exact ⟨k+1,by omega,by go_num,a',c',_,rfl,HA.out.1,HA.out.2.1,HA.out.2.2.1,HA.out.2.2.2⟩
   case measure=>simp [intOf];omega
  ·obtain rfl:k=ts.length:=by omega
   go_wp2_with fail
   go_ret
   have h0:=HR.out
   rw [List.take_length] at h0
   exact ⟨a,c,xs,rfl,HO.out,(Rep.keep fun b o hf ho=>⟨hf.1,ho⟩).2 _ _ h0,HB.out,HF.out⟩
def Wri (w:World) (ww:Nat) (k s:Int):Prop:=w.heap[ww]? = some (.cells #[.int .i64 k,.int .i64 s] 126 (0,0))
theorem Wri.cell {w:World} {ww:Nat} {k s:Int} (h:Wri w ww k s):w.cell? ⟨ww,0,none⟩=some (.int .i64 k)/\w.cell? ⟨ww,1,none⟩=some (.int .i64 s)/\(∀ o,w.frozen? ⟨ww,o,none⟩=false)/\ww<w.heap.size:=by
 unfold Wri at h
 exact ⟨by simp [World.cell?,h],by simp [World.cell?,h],fun o=>by simp [World.frozen?,h],zZ h⟩
theorem Wri.below {w w':World} {ww:Nat} {k s:Int} (h:Wri w ww k s) (hb:Below w.heap.size w w'):Wri w' ww k s:=by unfold Wri;rw [hb.block ww (zZ h)];exact h
structure WFr where
 v:Nat
 ss:List Bd
 yes:Bd
 no:Bd
 env:List Mn
def WFr.gf (f:WFr):Gf:=⟨f.yes,f.no,f.env⟩
def encF (f:WFr):List DV:=kE (.ask f.v f.ss f.yes f.no)++[.sl 130 9 f.env.length (ke f.env),.val (.int .i64 (0:Nat))]
def uy:List WFr->List DV
 | []=>[]
 | f::st=>uy st++encF f
theorem encF_length (f:WFr):(encF f).length=6:=by simp [encF,ji]
theorem wZ:∀ st:List WFr,(uy st).length=st.length*6
 | []=>rfl
 | f::st=>by rw [uy,List.length_append,wZ st,encF_length,List.length_cons];omega
set_option maxRecDepth 100000 in
theorem dE (ww:Nat) (s:Int) (nvs:Array Value) (s0:Bs) (v0:Int) (a1 a2:Option Addr) (n1 c1 n2 c2:Nat) (hn:nvs=#[str s0,.int .i64 v0,.slice a1 n1 c1,.slice a2 n2 c2]) (ev sv:Value) (n:Nat) (w:World) (h:Wri w ww (-1) s) (h0:0<=s) (h1:s<=1000000000) :
 Calls Tryz.prog 67 #[.pointer (some ⟨ww,0,none⟩),.agg nvs,ev,sv,.int .i64 (n:Nat)] w fun en w' =>
  en=.returned (.agg #[str [117],.int .i64 0,.slice none 0 0,.slice none 0 0])/\But (· = ww) w w'/\Wri w' ww (-1) (s+1):=by
 subst hn
 obtain ⟨W,hW⟩:=zzN ((w.alloc (.cells #[str s0,.int .i64 v0,.slice a1 n1 c1,.slice a2 n2 c2] 48)).alloc (.cells #[str [],.int .i64 0,.slice none 0 0,.slice none 0 0] 48))
 have fD:Below w.heap.size w W:=by rw [<- hW];exact ((e_ _ _).alloc (ei _) _).alloc (by rw [zK];omega) _
 have Ci:=h.below fD
 obtain ⟨k0,k1,kf,klt⟩:=Ci.cell
 have If:=kf 1
 obtain ⟨W2,fb⟩:=zzN (W.setCell ⟨ww,1,none⟩ (.int .i64 (s+1)))
 have tE:Wri W2 ww (-1) (s+1):=by unfold Wri at *;rw [<- fb,zy Ci];rfl
 obtain ⟨m0,m1,mf,mlt⟩:=tE.cell
 have mf0:=mf 0
 have nh:z9 (w.heap.size+1) 0 (.slice none 0 0) (.slice none 0 0) W:=by
  have:=zG (w.alloc (.cells #[str s0,.int .i64 v0,.slice a1 n1 c1,.slice a2 n2 c2] 48)) (.cells #[str [],.int .i64 0,.slice none 0 0,.slice none 0 0] 48)
  rw [zK,hW] at this;exact this
 have hww:=h.cell.2.2.2
 obtain ⟨W3,mG⟩:=zzN (W2.setCell ⟨ww,0,none⟩ (.int .i64 (-1)))
 have sj:Wri W3 ww (-1) (s+1):=by unfold Wri at *;rw [<- mG,zy tE];rfl
 have lG:But (· = ww) W W3:=by rw [<- mG,<- fb];exact ((But.refl (· = ww) W).setCell (p:=⟨ww,1,none⟩) (.inl rfl) _).setCell (p:=⟨ww,0,none⟩) (.inl rfl) _
 have mK:z9 (w.heap.size+1) 0 (.slice none 0 0) (.slice none 0 0) W3:=nh.but lG (by show ¬ (w.heap.size+1=ww);omega)
 obtain ⟨r0,r1,r2,r3,rlt,rf⟩:=mK.cells
 have mg:=rf 0;have nD:=rf 1;have rG:=rf 2;have sh:=rf 3
 have HW:=ed (ef hW (ef fb (ef fD (ef mG (ef sj (ef lG mK))))));clear nh mK lG sj mG rf tE hW fb fD Ci h kf mf
 go_enter Tryz.func67,Tryz.ntmps67
 go_upto_region 1 with (fail)
 rw [HW.out.1]
 refine wp_loop_rounds 1 ?_
 rw [rounds_succ]
 go_upto_region 2 with (fail)
 rw [HW.out.2.1]
 go_upto_region 4 with (fail)
 rw [HW.out.2.2.2.1]
 go_wp2_with fail
 obtain ⟨hW,fb,fD,mG,sj,lG,mK⟩:=HW.out
 obtain ⟨W4,rF,f_,fe,f7,mQ,_,oG⟩:=mK.store (.string ⟨#[117]⟩) (.int .i64 0) (.slice none 0 0) (.slice none 0 0)
 rw [<- rF]
 refine bodyPost_ret (v:=.agg #[str [117],.int .i64 0,.slice none 0 0,.slice none 0 0]) (by simp [results,Tryz.results67,go_sem,f_,fe,f7,mQ,str]) rfl ?_
 refine ⟨rfl,?_,oG ww _ (by omega) sj⟩
 have fE:But (· = ww) w W3:=(But.ofBelow fD).trans lG
 have mH:w.heap.size<=w.heap.size+1:=by omega
 rw [rF]
 exact (((fE.setCell (p:=⟨w.heap.size+1,0,none⟩) (.inr mH) _).setCell (p:=⟨w.heap.size+1,1,none⟩) (.inr mH) _).setCell (p:=⟨w.heap.size+1,2,none⟩) (.inr mH) _).setCell (p:=⟨w.heap.size+1,3,none⟩) (.inr mH) _
def vF (F:Nat->Prop) (ww:Nat) (D:Int) (o:Option (Bd×Nat×Nat)) (w:World) (en:Ending) (w':World):Prop :=
 ∃ s v a1 n1 c1 a2 n2 c2,en=.returned (.agg #[str s,.int .i64 v,.slice a1 n1 c1,.slice a2 n2 c2])/\But (· = ww) w w'/\(o=none->∃ st,Wri w' ww (-1) st/\0<=st/\st<=D) /\
   ∀ x,o=some x->Wri w' ww (x.2.1:Nat) (20000-(x.2.2:Nat))/\zX (fun i=>F i\/w.heap.size<=i) w' (kE x.1) [str s,.int .i64 v,.slice a1 n1 c1,.slice a2 n2 c2]
def Fx (F:Nat->Prop) (w:World) (k:Nat):Nat->Prop:=fun i=>(F i/\i<w.heap.size)\/w.heap.size+k<=i
structure OBox (w:World) (s0:Bs) (v0:Int) (a1 a2 ta:Option Addr) (n1 c1 n2 c2 nt tc:Nat) (wr:World):Prop where
 x0:wr.cell? ⟨w.heap.size,0,none⟩=some (str s0)
 x1:wr.cell? ⟨w.heap.size,1,none⟩=some (.int .i64 v0)
 x2:wr.cell? ⟨w.heap.size,2,none⟩=some (.slice a1 n1 c1)
 x3:wr.cell? ⟨w.heap.size,3,none⟩=some (.slice a2 n2 c2)
 y0:wr.cell? ⟨w.heap.size+1,0,none⟩=some (.slice ta nt tc)
 res:z9 (w.heap.size+2) 0 (.slice none 0 0) (.slice none 0 0) wr
 bel:Below w.heap.size w wr
theorem OBox.below {w wr w':World} {s0:Bs} {v0:Int} {a1 a2 ta:Option Addr} {n1 c1 n2 c2 nt tc:Nat} (h:OBox w s0 v0 a1 a2 ta n1 c1 n2 c2 nt tc wr) (hb:Below (w.heap.size+3) wr w'):OBox w s0 v0 a1 a2 ta n1 c1 n2 c2 nt tc w':=by
 have hr:=h.res.cells.2.2.2.2.1
 have k:∀ (p:Addr),p.block<w.heap.size+3->w'.cell? p=wr.cell? p:=fun p hp=>World.cell?_of_block (w:=wr) (hb.block p.block hp)
 exact ⟨(k ⟨_,_,_⟩ (by show w.heap.size<_;omega)).trans h.x0,(k ⟨_,_,_⟩ (by show w.heap.size<_;omega)).trans h.x1,(k ⟨_,_,_⟩ (by show w.heap.size<_;omega)).trans h.x2,(k ⟨_,_,_⟩ (by show w.heap.size<_;omega)).trans h.x3,
  (k ⟨_,_,_⟩ (by show w.heap.size+1<_;omega)).trans h.y0,h.res.below hb (by omega),h.bel.trans (hb.mono (by omega))⟩
set_option maxRecDepth 100000 in
theorem open_any (F:Nat->Prop) (ww:Nat) (D:Int) (o:Option (Bd×Nat×Nat)) (t:Ty) (env:List Mn) (n:Nat) (s0:Bs) (v0:Int) (a1 a2:Option Addr) (n1 c1 n2 c2:Nat) (tv ev:Value) (w:World)
 (ht:Rep F w (kz t) tv) (he:Rep F w (.sl 130 9 env.length (ke env)) ev) (hl:env.length<=1000000) (Er:t.args.length<=15) (hn:n<=1000000) (hww:ww<w.heap.size)
 (C:∀ (a:Option Addr) (c g:Nat) (wX:World),Below w.heap.size w wX->w.heap.size+3<=wX.heap.size->Rep (Fx F w 3) wX (.sl 130 9 (env.length+t.args.length) (ke (env++opens n t.args))) (.slice a (env.length+t.args.length) c) ->
  Calls Tryz.prog 67 #[.pointer (some ⟨ww,0,none⟩),.agg #[str s0,.int .i64 v0,.slice a1 n1 c1,.slice a2 n2 c2],.slice a (env.length+t.args.length) c,.slice (some ⟨g,0,none⟩) 0 0,.int .i64 ((n:Int)+(t.args.length:Int))] wX (vF (Fx F w 3) ww D o wX)) :
 Calls Tryz.prog 102 #[.pointer (some ⟨ww,0,none⟩),.agg #[str s0,.int .i64 v0,.slice a1 n1 c1,.slice a2 n2 c2],.agg #[tv],ev,.int .i64 (n:Nat)] w (vF F ww D o w):=by
 obtain ⟨exs,B7,aU⟩:=zO.ofRep he (vW env)
 obtain ⟨ea,ec,e⟩:=aU.slice
 subst e
 have nz:=ht
 rw [qv] at nz
 obtain ⟨ta,tc,e,_,_,r_⟩:=zP nz
 subst e
 obtain ⟨W,hW⟩:=zzN (((w.alloc (.cells #[str s0,.int .i64 v0,.slice a1 n1 c1,.slice a2 n2 c2] 48)).alloc (.cells #[.slice ta t.args.length tc] 43)).alloc (.cells #[str [],.int .i64 0,.slice none 0 0,.slice none 0 0] 48))
 have fD:Below w.heap.size w W:=by rw [<- hW];exact (((e_ _ _).alloc (ei _) _).alloc (by rw [zK];omega) _).alloc (by rw [zK,zK];omega) _
 have rS:w.heap.size+3=W.heap.size:=by rw [<- hW];simp only [zK]
 have tB:OBox w s0 v0 a1 a2 ta n1 c1 n2 c2 t.args.length tc W:=by
  have b0:W.heap[w.heap.size]? = some (.cells #[str s0,.int .i64 v0,.slice a1 n1 c1,.slice a2 n2 c2] 48 (0,0)):=by rw [<- hW];exact zY (zY (zG _ _))
  have b1:W.heap[w.heap.size+1]? = some (.cells #[.slice ta t.args.length tc] 43 (0,0)):=by
   have:=zG (w.alloc (.cells #[str s0,.int .i64 v0,.slice a1 n1 c1,.slice a2 n2 c2] 48)) (.cells #[.slice ta t.args.length tc] 43)
   rw [zK] at this
   rw [<- hW];exact zY this
  have b2:W.heap[w.heap.size+2]? = some (.cells #[str [],.int .i64 0,.slice none 0 0,.slice none 0 0] 48 (0,0)):=by
   have:=zG ((w.alloc (.cells #[str s0,.int .i64 v0,.slice a1 n1 c1,.slice a2 n2 c2] 48)).alloc (.cells #[.slice ta t.args.length tc] 43)) (.cells #[str [],.int .i64 0,.slice none 0 0,.slice none 0 0] 48)
   simp only [zK] at this
   rw [<- hW];exact this
  obtain ⟨x0,x1,x2,x3⟩:=kP b0
  exact ⟨x0,x1,x2,x3,by simp [World.cell?,b1],b2,fD⟩
 have hsW:zO 9 (.slice ea env.length ec) env.length exs W:=aU.below fD
 have HP:=ed (ef B7 (ef r_ (ef hW (ef tB (ef hsW (ef C rS))))));clear B7 aU r_ hW tB hsW C fD rS ht nz he
 go_enter Tryz.func102,Tryz.ntmps102
 go_upto_region 1 with (fail)
 rw [HP.out.2.2.1]
 have BX:=HP.out.2.2.2.1
 have y0:=BX.y0
 have rS:=HP.out.2.2.2.2.2.2
 clear BX
 go_wp2_with (at_builtin;refine zD rfl _ _ 127 rfl 130 (.agg #[.int .i64 0,str [],.int .i64 0,.slice none 0 0,.slice none 0 0,.slice none 0 0,.slice none 0 0,.int .i64 0,.int .i64 0]) 9 144 Tryz.underlying127 Tryz.infoBo rfl (by decide) (.slice (some ⟨W.heap.size,0,none⟩) 0 0) 0 [] rfl ?d1 _ env.length exs rfl ?d2 ?d3 ?d4 ?_)
 case d1=>exact Own.litAt #[] 0 _ rfl (by decide) rfl
 case d2=>exact HP.out.2.2.2.2.1.alloc _
 case d3=>unfold maxLen;omega
 case d4=>omega
 intro a6 c6 w6 Di fC Do
 have sk:Below W.heap.size W w6:=((e_ _ _).alloc (ei _) _).trans (fC.toBelow (by rw [zK];omega) fun i hi e=>by simp [Value.ownBlock] at e;omega)
 have EM:∀ g,(Value.slice a6 env.length c6).ownBlock=some g->W.heap.size<=g:=fun g hg=>by
  rcases Do g hg with h | h
  ·simp [Value.ownBlock] at h;omega
  ·omega
 have my:zX (fun i=>F i/\i<w.heap.size) w6 (ke (env++opens n (t.args.take 0))) exs:=by
  rw [List.take_zero,opens,List.append_nil]
  exact (Rep.keep fun b o hf hh=>⟨hf,by rw [(HP.out.2.2.2.1.bel.trans (sk.mono (by omega))).block b hf.2];exact hh⟩).2 _ _ (zX.low HP.out.1)
 have H6:=ed (ef Di (ef sk (ef EM my)));clear Di sk EM my fC Do
 have y0:=(H6.out.2.1.cell (e9 W _ y0)).trans y0
 go_wp2_with fail
 go_loopw [11,12] (fun o i wr=>∃ k:Nat,k<=t.args.length/\i=.int .i64 k/\∃ a c xs,o=.slice a (env.length+k:Nat) c/\Own wr 130 9 (.slice a (env.length+k) c) (env.length+k) xs/\zX (fun i=>F i/\i<w.heap.size) wr (ke (env++opens n (t.args.take k))) xs/\Below W.heap.size W wr/\(∀ g,(Value.slice a (env.length+k) c).ownBlock=some g->W.heap.size<=g)) (fun _ i _=>t.args.length-(intOf i).toNat)
 case atStart=>exact ⟨0,Nat.zero_le _,rfl,a6,c6,exs,rfl,H6.out.1,H6.out.2.2.2,H6.out.2.1,H6.out.2.2.1⟩
 case round =>
  rename_i wr
  obtain ⟨k,hk,rfl,a,c,xs,rfl,ho,hr,hb,hf⟩:=hrel
  have BX:=HP.out.2.2.2.1.below (hb.mono (by omega))
  have z0:=BX.y0
  have HO:=ed ho;have HF:=ed hf;have HB:=ed hb;have HR:=ed hr;have HX:=ed BX
  clear ho hf hb hr y0 BX
  by_cases fG:k<t.args.length
  ·have mX:(k:Int)<(t.args.length:Int):=by omega
   obtain ⟨b,o1,u,d,e,_,fh,hd,hc,nI⟩:=HP.out.2.1 k fG
   subst e
   rw [vj,Option.map_eq_some_iff] at hd
   obtain ⟨t1,ht1,rfl⟩:=hd
   obtain ⟨ua,uc,rfl⟩:=kK nI
   have q0:=(HX.out.bel.cell (p:=⟨b,o1+k,none⟩) fh).trans hc
   have HT:=ed (ef ht1 nI);clear ht1 nI hc
   go_wp2_with (at_builtin;refine zD rfl _ _ 127 rfl 130 (.agg #[.int .i64 0,str [],.int .i64 0,.slice none 0 0,.slice none 0 0,.slice none 0 0,.slice none 0 0,.int .i64 0,.int .i64 0]) 9 144 Tryz.underlying127 Tryz.infoBo rfl (by decide) (.slice a (env.length+k) c) (env.length+k) xs rfl ?e1 _ 1 [.int .i64 ((n:Int)+(k:Int)),str [],.int .i64 0,.slice none 0 0,.slice none 0 0,.slice ua t1.args.length uc,.slice none 0 0,.int .i64 0,.int .i64 0] rfl ?e2 ?e3 ?e4 ?_)
   case e1=>exact HO.out.alloc _
   case e2=>exact zO.lit1 #[.int .i64 ((n:Int)+(k:Int)),str [],.int .i64 0,.slice none 0 0,.slice none 0 0,.slice ua t1.args.length uc,.slice none 0 0,.int .i64 0,.int .i64 0] rfl (by simp [str,Value.oneCell']) _ (by simp)
   case e3=>unfold maxLen;omega
   case e4=>omega
   intro a' c' w7 fu fW fR
   have hzb:=HB.out.size
   have nM:Below W.heap.size W w7:=by
    refine (HB.out.alloc hzb _).trans (fW.toBelow (by rw [zK];omega) fun i hi e=>?_)
    have:=HF.out i e;omega
   have ai:∀ g,(Value.slice a' (env.length+(k+1)) c').ownBlock=some g->W.heap.size<=g:=by
    intro g h
    rcases fR g h with h | h
    ·exact HF.out g h
    ·omega
   have oE:Below w.heap.size w w7:=HP.out.2.2.2.1.bel.trans (nM.mono (by omega))
   have sA:zX (fun i=>F i/\i<w.heap.size) w7 (ke (env++opens n (t.args.take (k+1)))) (xs++[.int .i64 ((n:Int)+(k:Int)),str [],.int .i64 0,.slice none 0 0,.slice none 0 0,.slice ua t1.args.length uc,.slice none 0 0,.int .i64 0,.int .i64 0]):=by
    rw [gW HT.out.1,<- List.append_assoc,vQ,ke,ke,List.append_nil]
    refine zX.append ?_ ?_
    ·exact (Rep.keep fun b o hf ho=>⟨hf,by rw [oE.block b hf.2,<- HX.out.bel.block b hf.2];exact ho⟩).2 _ _ HR.out
    ·rw [bE]
     refine zQ.2 ⟨_,_,rfl,zH.2 (by rw [Int.natCast_add]),zQ.2 ⟨_,_,rfl,zH.2 rfl,zQ.2 ⟨_,_,rfl,zH.2 rfl,zQ.2 ⟨_,_,rfl,zH.2 rfl,zQ.2 ⟨_,_,rfl,zH.2 rfl,zQ.2 ⟨_,_,rfl,(Rep.keep fun b o hf ho=>⟨⟨hf,zZ ho⟩,by rw [oE.block b (zZ ho)];exact ho⟩).1 _ _ HT.out.2,zQ.2 ⟨_,_,rfl,zH.2 rfl,zQ.2 ⟨_,_,rfl,zH.2 rfl,zQ.2 ⟨_,_,rfl,yQ.2 ⟨_,rfl⟩,zC.2 rfl⟩⟩⟩⟩⟩⟩⟩⟩⟩
   have HA:=ed (ef fu (ef sA (ef nM ai)));clear fu sA nM ai fW fR oE
   go_wp2_with fail
   go_roundw
   case rel=>exact ⟨k+1,by omega,by go_num,a',c',_,rfl,HA.out.1,HA.out.2.1,HA.out.2.2.1,HA.out.2.2.2⟩
   case measure=>simp [intOf];omega
  ·obtain rfl:k=t.args.length:=by omega
   have z1:=HX.out.x0;have z2:=HX.out.x1;have z3:=HX.out.x2;have z4:=HX.out.x3
   have z5:(wr.alloc (.cells #[] 146)).cell? ⟨w.heap.size+1,0,none⟩=some (.slice ta t.args.length tc):=zJ z0
   have hzb:=HB.out.size
   have tI:Below w.heap.size w (wr.alloc (.cells #[] 146)):=HX.out.bel.alloc HX.out.bel.size _
   have IS:Rep (Fx F w 3) (wr.alloc (.cells #[] 146)) (.sl 130 9 (env.length+t.args.length) (ke (env++opens n t.args))) (.slice a (env.length+t.args.length) c):=by
    have h0:=HR.out
    rw [List.take_length] at h0
    exact (HO.out.alloc _).rep (fun g hg=>.inr (by have:=HF.out g hg;omega)) ((Rep.keep fun b o hf ho=>⟨.inl hf,zY ho⟩).2 _ _ h0)
   have C2:=ed (HP.out.2.2.2.2.2.1 a c wr.heap.size _ tI (by rw [zK];omega) IS)
   have resX:z9 (w.heap.size+2) 0 (.slice none 0 0) (.slice none 0 0) (wr.alloc (.cells #[] 146)):=zY HX.out.res
   have HY:=ed (ef tI resX);clear tI IS resX
   go_wp2_with fail
   (with_reducible refine C2.out.mono ?_)
   rintro en w9 ⟨s9,v9,b1,m1,d1,b2,m2,d2,rfl,mB,oX,lm⟩
   have th:z9 (w.heap.size+2) 0 (.slice none 0 0) (.slice none 0 0) w9:=HY.out.2.but mB (by show ¬ (w.heap.size+2=ww);omega)
   obtain ⟨r0,r1,r2,r3,rlt,rf⟩:=th.cells
   have mg:=rf 0;have nD:=rf 1;have rG:=rf 2;have sh:=rf 3
   have H9:=ed (ef mB (ef oX (ef lm th)));clear mB oX lm th rf
   go_wp2_with fail
   obtain ⟨W4,rF,f_,fe,f7,mQ,_,oG⟩:=H9.out.2.2.2.store (str s9) (.int .i64 v9) (.slice b1 m1 d1) (.slice b2 m2 d2)
   rw [<- rF]
   refine bodyPost_ret (v:=.agg #[str s9,.int .i64 v9,.slice b1 m1 d1,.slice b2 m2 d2]) (by simp [results,Tryz.results102,go_sem,f_,fe,f7,mQ]) rfl ?_
   have fE:But (· = ww) w w9:=(But.ofBelow HY.out.1).trans H9.out.1
   have mH:w.heap.size<=w.heap.size+2:=by omega
   refine ⟨s9,v9,b1,m1,d1,b2,m2,d2,rfl,?_,fun ho=>?_,fun x hx=>?_⟩
   ·rw [rF]
    exact (((fE.setCell (p:=⟨w.heap.size+2,0,none⟩) (.inr mH) _).setCell (p:=⟨w.heap.size+2,1,none⟩) (.inr mH) _).setCell (p:=⟨w.heap.size+2,2,none⟩) (.inr mH) _).setCell (p:=⟨w.heap.size+2,3,none⟩) (.inr mH) _
   ·obtain ⟨st,h1,h2⟩:=H9.out.2.1 ho
    exact ⟨st,oG ww _ (by omega) h1,h2⟩
   ·obtain ⟨h1,h2⟩:=H9.out.2.2.1 x hx
    refine ⟨oG ww _ (by omega) h1,(Rep.keep fun b ob hf hh=>?_).2 _ _ h2⟩
    rcases hf with (h | h) | h
    ·exact ⟨.inl h.1,oG b _ (by have:=h.2;omega) hh⟩
    ·exact ⟨.inr (by omega),oG b _ (by omega) hh⟩
    ·rw [zK] at h
     exact ⟨.inr (by omega),oG b _ (by omega) hh⟩
structure eT (F:Nat->Prop) (ww d k l n:Nat) (H:List Ty) (b:Bd) (env:List Mn) (st:List WFr) (s0:Bs) (v0:Int) (a1 a2:Option Addr) (n1 c1 n2 c2:Nat) (ev sv:Value) (w:World):Prop where
 wri:Wri w ww (k:Nat) (20000-(l:Nat))
 hF:∀ i,F i->i≠ww
 ld:l<=d
 d20:d<=20000
 k200:k<=200
 fit:jT H b env (st.map WFr.gf)
 hn:H.length=n
 el:env.length+16*d<=1000000
 nl:n+16*d<=1000000
 stl:st.length+d<=40000
 ok:yC (1000000-16*d) env
 okg:okGs (1000000-16*d) (st.map WFr.gf)
 wf:wfB b/\xI env/\∀ f∈st.map WFr.gf,wfG f
 rb:zX F w (kE b) [str s0,.int .i64 v0,.slice a1 n1 c1,.slice a2 n2 c2]
 re:Rep F w (.sl 130 9 env.length (ke env)) ev
 rs:Rep F w (.sl 146 6 st.length (uy st)) sv
def xt (d:Nat):Prop:=∀ (F:Nat->Prop) (ww k l n:Nat) (H:List Ty) (b:Bd) (env:List Mn) (st:List WFr) (s0:Bs) (v0:Int) (a1 a2:Option Addr) (n1 c1 n2 c2:Nat) (ev sv:Value) (w:World),
 eT F ww d k l n H b env st s0 v0 a1 a2 n1 c1 n2 c2 ev sv w ->
 Calls Tryz.prog 67 #[.pointer (some ⟨ww,0,none⟩),.agg #[str s0,.int .i64 v0,.slice a1 n1 c1,.slice a2 n2 c2],ev,sv,.int .i64 (n:Nat)] w
  (vF F ww (20001+20*d) (evN d k l b env n (st.map WFr.gf)) w)
theorem open_live (d:Nat) (ih:xt d) (F:Nat->Prop) (ww k l n:Nat) (H:List Ty) (t:Ty) (b:Bd) (env:List Mn) (s0:Bs) (v0:Int) (a1 a2:Option Addr) (n1 c1 n2 c2:Nat) (tv ev:Value) (w:World)
 (hw:Wri w ww (k:Nat) (20000-(l:Nat))) (hF:∀ i,F i->i≠ww) (oW:l<=d) (hd:d<=20000) (hk:k<=200) (nF:jT (H++t.args) b (env++opens H.length t.args) []) (hn:H.length=n) (al:env.length+16*(d+1)<=1000000) (iY:n+16*(d+1)<=1000000) (az:zV t<=15)
 (fw:yC (1000000-16*(d+1)) env) (ht:Rep F w (kz t) tv) (hb:zX F w (kE b) [str s0,.int .i64 v0,.slice a1 n1 c1,.slice a2 n2 c2]) (he:Rep F w (.sl 130 9 env.length (ke env)) ev) (iy:wfB b/\xI env) :
 Calls Tryz.prog 102 #[.pointer (some ⟨ww,0,none⟩),.agg #[str s0,.int .i64 v0,.slice a1 n1 c1,.slice a2 n2 c2],.agg #[tv],ev,.int .i64 (n:Nat)] w (vF F ww (20001+20*d) (evN d k l b (env++opens n t.args) (n+t.args.length) []) w):=by
 have lB:=zo az
 have hww:=hw.cell.2.2.2
 refine open_any F ww _ _ t env n s0 v0 a1 a2 n1 c1 n2 c2 tv ev w ht he (by omega) lB.2 (by omega) hww ?_
 intro a c g wX tI hzX IS
 have hlen:(env++opens n t.args).length=env.length+t.args.length:=by rw [List.length_append,kL]
 rw [<- Int.natCast_add]
 refine ih (Fx F w 3) ww k l (n+t.args.length) (H++t.args) b (env++opens n t.args) [] s0 v0 a1 a2 n1 c1 n2 c2 _ _ wX
  { wri:=hw.below tI,hF:=?_,ld:=oW,d20:=hd,k200:=hk,fit:=by rw [<- hn];exact nF,hn:=by rw [List.length_append,hn],el:=by rw [hlen];omega,nl:=by omega,stl:=by simp;omega,
    ok:=jD _ _ (k9 (by omega) _ fw) (jU _ _ lB.1 (by omega)),okg:=trivial,wf:=⟨iy.1,jC _ _ iy.2 (jV _ _),by simp⟩,rb:=?_,re:=by rw [hlen];exact IS,rs:=zp.2 ⟨by simp [uy],_,_,rfl,ei _,fun h=>by simp at h,.inl rfl⟩ }
 ·intro i hi e
  rcases hi with h | h
  ·exact hF i h.1 e
  ·omega
 ·exact (Rep.keep fun b o hf hh=>⟨.inl ⟨hf,zZ hh⟩,by rw [tI.block b (zZ hh)];exact hh⟩).2 _ _ hb
theorem open_dead (F:Nat->Prop) (ww n:Nat) (s:Int) (t:Ty) (env:List Mn) (s0:Bs) (v0:Int) (a1 a2:Option Addr) (n1 c1 n2 c2:Nat) (tv ev:Value) (w:World)
 (hw:Wri w ww (-1) s) (h0:0<=s) (h1:s<=1000000000) (al:env.length<=1000000) (iY:n<=1000000) (az:zV t<=15) (ht:Rep F w (kz t) tv) (he:Rep F w (.sl 130 9 env.length (ke env)) ev) :
 Calls Tryz.prog 102 #[.pointer (some ⟨ww,0,none⟩),.agg #[str s0,.int .i64 v0,.slice a1 n1 c1,.slice a2 n2 c2],.agg #[tv],ev,.int .i64 (n:Nat)] w (vF F ww (s+1) none w):=by
 refine open_any F ww _ _ t env n s0 v0 a1 a2 n1 c1 n2 c2 tv ev w ht he (by omega) (zo az).2 (by omega) hw.cell.2.2.2 ?_
 intro a c g wX tI hzX IS
 rw [<- Int.natCast_add]
 refine (dE ww s _ s0 v0 a1 a2 n1 c1 n2 c2 rfl _ _ _ wX (hw.below tI) h0 h1).mono ?_
 rintro en w' ⟨rfl,hb,rJ⟩
 exact ⟨_,_,_,_,_,_,_,_,rfl,hb,fun _=>⟨_,rJ,by omega,Int.le_refl _⟩,fun x h=>by simp at h⟩
theorem evN_left (d k l:Nat) (b:Bd) (env:List Mn) (n:Nat) (st:List Gf) (r:Bd) (k' l':Nat) (h:evN d k l b env n st=some (r,k',l')):k'<=k/\l'<=l:=by
 rw [evN_eq] at h
 cases hq:Go.Proofs.YtjggkhmojjaomaaGreatDoor.ev d l b env n st with
 | none=>rw [hq] at h;simp [wU] at h
 | some x =>
   obtain ⟨o,l1⟩:=x
   rw [hq] at h
   simp only [wU] at h
   split at h
   ·simp at h
    obtain ⟨_,rfl,rfl⟩:=h
    exact ⟨Nat.sub_le _ _,ev_left _ _ _ _ _ _ _ _ hq⟩
   ·simp at h
theorem bH (f:Nat->Nat->Bd->List Mn->Nat->List Gf->Option (Bd×Nat×Nat)) (env:List Mn) (n:Nat) (t:Ty) (s:Bd):∀ (ts:List Ty) (ss:List Bd) (k l:Nat),ts.length=ss.length ->
 kD f env n k l (ts++[t]) (ss++[s])=(kD f env n k l ts ss).bind fun x=>(f x.2.1 x.2.2 s (env++opens n t.args) (n+t.args.length) []).bind fun y=>some (x.1++[y.1],y.2.1,y.2.2)
 | [],[],k,l,_=>by
   simp only [List.nil_append,kD,Option.bind_eq_bind,Option.bind_some]
 | [],s'::ss,k,l,h=>by simp at h
 | t'::ts,[],k,l,h=>by simp at h
 | t'::ts,s'::ss,k,l,h=>by
   simp only [List.cons_append,kD,Option.bind_eq_bind]
   cases h1:f k l s' (env++opens n t'.args) (n+t'.args.length) [] with
   | none=>rfl
   | some x =>
     simp only [Option.bind_some]
     rw [bH f env n t s ts ss x.2.1 x.2.2 (by simpa using h)]
     cases h2:kD f env n x.2.1 x.2.2 ts ss with
     | none=>rfl
     | some y =>
       simp only [Option.bind_some]
       cases h3:f y.2.1 y.2.2 s (env++opens n t.args) (n+t.args.length) [] with
       | none=>rfl
       | some z=>rfl
theorem bG {f:Nat->Nat->Bd->List Mn->Nat->List Gf->Option (Bd×Nat×Nat)} {env:List Mn} {n k l j:Nat} {ts:List Ty} {ss:List Bd} {t:Ty} {s:Bd} (ht:ts[j]? = some t) (hs:ss[j]? = some s) :
 kD f env n k l (ts.take (j+1)) (ss.take (j+1))=(kD f env n k l (ts.take j) (ss.take j)).bind fun x=>(f x.2.1 x.2.2 s (env++opens n t.args) (n+t.args.length) []).bind fun y=>some (x.1++[y.1],y.2.1,y.2.2):=by
 have h1:=(List.getElem?_eq_some_iff.1 ht).1
 have h2:=(List.getElem?_eq_some_iff.1 hs).1
 rw [List.take_add_one,List.take_add_one,ht,hs]
 exact bH f env n t s _ _ k l (by rw [List.length_take,List.length_take];omega)
theorem x_ {f:Nat->Nat->Bd->List Mn->Nat->List Gf->Option (Bd×Nat×Nat)} {env:List Mn} {n:Nat}:∀ (j:Nat) (ts:List Ty) (ss:List Bd) (k l:Nat),kD f env n k l (ts.take j) (ss.take j)=none->kD f env n k l ts ss=none
 | 0,ts,ss,k,l,h=>by simp [kD] at h
 | j+1,[],ss,k,l,h=>by simp [kD] at h
 | j+1,t::ts,[],k,l,h=>by simp [kD] at h
 | j+1,t::ts,s::ss,k,l,h=>by
   simp only [List.take_succ_cons,kD,Option.bind_eq_bind] at h ⊢
   cases h1:f k l s (env++opens n t.args) (n+t.args.length) [] with
   | none=>rfl
   | some x =>
     rw [h1] at h
     simp only [Option.bind_some] at h ⊢
     cases h2:kD f env n x.2.1 x.2.2 (ts.take j) (ss.take j) with
     | none=>rw [x_ j ts ss x.2.1 x.2.2 h2];rfl
     | some y=>rw [h2] at h;simp at h
def xC (d k l n o:Nat) (t:Ty) (ss:List Bd) (y no:Bd) (env:List Mn) (st:List Gf):Option (Bd×Nat×Nat) :=
 (kD (evN d) env n k l t.args ss).bind fun x=>(evN d x.2.1 x.2.2 y env n st).bind fun z=>(evN d z.2.1 z.2.2 no env n st).bind fun u=>some (.ask o x.1 z.1 u.1,u.2.1,u.2.2)
theorem evN_op {d k l v n o:Nat} {ss:List Bd} {y no:Bd} {t:Ty} {env:List Mn} {st:List Gf} (h:env[v]? = some (.op o t)) :
 evN (d+1) (k+1) (l+1) (.ask v ss y no) env n st=xC d k l n o t ss y no env st:=by rw [evN.eq_def];simp only [h];rfl
theorem evN_bd {d k l v n:Nat} {ss:List Bd} {y no b':Bd} {t:Ty} {env e:List Mn} {st:List Gf} (h:env[v]? = some (.bd t b' e)) :
 evN (d+1) (k+1) (l+1) (.ask v ss y no) env n st=evN d (k+1) l b' (e++owns env t.args ss) n (⟨y,no,env⟩::st):=by rw [evN.eq_def];simp only [h]
theorem evN_u {d k l n:Nat} {env:List Mn} {st:List Gf}:evN (d+1) (k+1) (l+1) (.leaf 117) env n st=some (.leaf 117,k,l):=by rw [evN.eq_def];simp
theorem evN_end {d k l n:Nat} {c:UInt8} {env:List Mn}:evN (d+1) (k+1) (l+1) (.leaf c) env n []=some (.leaf c,k,l):=by rw [evN.eq_def];simp
theorem evN_back {d k l n:Nat} {c:UInt8} (h:c≠117) {env:List Mn} {f:Gf} {st:List Gf}:evN (d+1) (k+1) (l+1) (.leaf c) env n (f::st)=evN d (k+1) l (if c=116 then f.yes else f.no) f.env n st:=by rw [evN.eq_def];simp only [if_neg h]
theorem evN_zl {d k n:Nat} {b:Bd} {env:List Mn} {st:List Gf}:evN d k 0 b env n st=none:=by cases d <;> rw [evN.eq_def]
theorem evN_zk {d l n:Nat} {b:Bd} {env:List Mn} {st:List Gf}:evN d 0 l b env n st=none:=by
 cases d with
 | zero=>rw [evN.eq_def]
 | succ d=>cases l <;> rw [evN.eq_def]
theorem bound_at {F:Nat->Prop} {w:World} {env:List Mn} {ev:Value} (h:Rep F w (.sl 130 9 env.length (ke env)) ev) {v:Nat} {m:Mn} (hc:env[v]? = some m) :
 ∃ b o cap us,ev=.slice (some ⟨b,o,none⟩) env.length cap/\F b/\b<w.heap.size/\(∀ (j:Nat) (u:Value),us[j]? = some u->w.cell? ⟨b,o+v*9+j,none⟩=some u)/\zX F w (bE m) us:=by
 have hv:=(List.getElem?_eq_some_iff.1 hc).1
 rw [zp] at h
 obtain ⟨hl,a,cap,rfl,hn,hz,h⟩:=h
 rcases h with h0 | ⟨b,o,cs,fr,rfl,hb,hcs,hr⟩
 ·omega
 have ll:ke env=ke (env.take v)++(bE m++ke (env.drop (v+1))):=by
  have e:env=env.take v++m::env.drop (v+1):=by
   have:env[v]=m:=(List.getElem?_eq_some_iff.1 hc).2
   rw [<- this,List.getElem_cons_drop,List.take_append_drop]
  conv=>lhs;rw [e]
  rw [vQ,ke]
 rw [ll] at hr
 have h2:=hr.split.2
 rw [bD,List.length_take,Nat.min_eq_left (by omega)] at h2
 have h3:=h2.split.1
 rw [pK] at h3
 refine ⟨b,o,cap,_,rfl,hb,zZ hcs,fun j u h=>?_,h3⟩
 rw [List.getElem?_take] at h
 split at h
 ·rename_i hj
  rw [List.getElem?_drop,List.getElem?_take,if_pos (by omega),List.getElem?_drop] at h
  simp only [World.cell?,hcs]
  simpa [Nat.add_assoc] using h
 ·simp at h
theorem bound_op {F:Nat->Prop} {w:World} {env:List Mn} {ev:Value} (h:Rep F w (.sl 130 9 env.length (ke env)) ev) {v o:Nat} {t:Ty} (hc:env[v]? = some (.op o t)) :
 ∃ b p cap ta tc i,ev=.slice (some ⟨b,p,none⟩) env.length cap/\F b/\b<w.heap.size/\w.cell? ⟨b,p+v*9,none⟩=some (.int .i64 (o:Nat))/\w.cell? ⟨b,p+v*9+1,none⟩=some (str [])/\w.cell? ⟨b,p+v*9+2,none⟩=some (.int .i64 0) /\
   w.cell? ⟨b,p+v*9+3,none⟩=some (.slice none 0 0)/\w.cell? ⟨b,p+v*9+4,none⟩=some (.slice none 0 0)/\w.cell? ⟨b,p+v*9+5,none⟩=some (.slice ta t.args.length tc)/\w.cell? ⟨b,p+v*9+6,none⟩=some (.slice none 0 0) /\
   w.cell? ⟨b,p+v*9+7,none⟩=some (.int .i64 0)/\w.cell? ⟨b,p+v*9+8,none⟩=some (.int .i64 i)/\Rep F w (kz t) (.slice ta t.args.length tc):=by
 obtain ⟨b,p,cap,us,rfl,hb,hw,get,hr⟩:=bound_at h hc
 simp only [bE,zQ,zC,zH,yQ] at hr
 obtain ⟨_,_,rfl,rfl,_,_,rfl,rfl,_,_,rfl,rfl,_,_,rfl,rfl,_,_,rfl,rfl,x1,_,rfl,q1,_,_,rfl,rfl,_,_,rfl,rfl,x3,_,rfl,⟨i3,rfl⟩,rfl⟩:=hr
 obtain ⟨sa,sc,rfl⟩:=kK q1
 exact ⟨b,p,cap,sa,sc,i3,rfl,hb,hw,get 0 _ rfl,get 1 _ rfl,get 2 _ rfl,get 3 _ rfl,get 4 _ rfl,get 5 _ rfl,get 6 _ rfl,get 7 _ rfl,get 8 _ rfl,q1⟩
theorem bound_bd {F:Nat->Prop} {w:World} {env:List Mn} {ev:Value} (h:Rep F w (.sl 130 9 env.length (ke env)) ev) {v:Nat} {t:Ty} {b':Bd} {e':List Mn} (hc:env[v]? = some (.bd t b' e')) :
 ∃ b p cap ta tc s v1 a1 m1 c1 a2 m2 c2 ha hcap i,ev=.slice (some ⟨b,p,none⟩) env.length cap/\F b/\b<w.heap.size/\w.cell? ⟨b,p+v*9,none⟩=some (.int .i64 (-1))/\w.cell? ⟨b,p+v*9+1,none⟩=some (str s)/\w.cell? ⟨b,p+v*9+2,none⟩=some (.int .i64 v1) /\
   w.cell? ⟨b,p+v*9+3,none⟩=some (.slice a1 m1 c1)/\w.cell? ⟨b,p+v*9+4,none⟩=some (.slice a2 m2 c2)/\w.cell? ⟨b,p+v*9+5,none⟩=some (.slice ta t.args.length tc)/\w.cell? ⟨b,p+v*9+6,none⟩=some (.slice ha e'.length hcap) /\
   w.cell? ⟨b,p+v*9+7,none⟩=some (.int .i64 0)/\w.cell? ⟨b,p+v*9+8,none⟩=some (.int .i64 i)/\Rep F w (kz t) (.slice ta t.args.length tc)/\zX F w (kE b') [str s,.int .i64 v1,.slice a1 m1 c1,.slice a2 m2 c2]/\Rep F w (.sl 130 9 e'.length (ke e')) (.slice ha e'.length hcap):=by
 obtain ⟨b,p,cap,us,rfl,hb,hw,get,hr⟩:=bound_at h hc
 rw [bE] at hr
 obtain ⟨x0,us1,rfl,h0,h1⟩:=zQ.1 (show zX F w (.val (.int .i64 (-1))::(kE b'++[kz t,.sl 130 9 e'.length (ke e'),.val (.int .i64 (0:Nat)),.any])) us from hr)
 rw [zH] at h0
 subst h0
 obtain ⟨h2,h3⟩:=h1.split
 rw [ji] at h2 h3
 obtain ⟨v1,m2,c2,m3,c3,e4,_,_⟩:=vB h2
 simp only [zQ,zC,zH,yQ] at h3
 obtain ⟨y1,_,e5,q1,y2,_,rfl,q2,_,_,rfl,rfl,y4,_,rfl,⟨i4,rfl⟩,rfl⟩:=h3
 obtain ⟨sa,sc,rfl⟩:=kK q1
 obtain ⟨_,ha,hcap,rfl,_⟩:=zp.1 q2
 rw [e4] at h2
 have eu:us1=[str (jb b'),.int .i64 v1,.slice m2 (qA b').length c2,.slice m3 (jX b').length c3]++[.slice sa t.args.length sc,.slice ha e'.length hcap,.int .i64 (0:Nat),.int .i64 i4]:=by
  rw [<- List.take_append_drop 4 us1,e4,e5]
 subst eu
 exact ⟨b,p,cap,sa,sc,_,_,_,_,_,_,_,_,_,_,i4,rfl,hb,hw,get 0 _ rfl,get 1 _ rfl,get 2 _ rfl,get 3 _ rfl,get 4 _ rfl,get 5 _ rfl,get 6 _ rfl,get 7 _ rfl,get 8 _ rfl,q1,h2,q2⟩
theorem xA {F:Nat->Prop} {ww:Nat} {D:Int} {o:Option (Bd×Nat×Nat)} {w W:World} {s:Bs} {v:Int} {a1 a2:Option Addr} {n1 c1 n2 c2:Nat}
 (hb:But (· = ww) w W) (hww:ww<w.heap.size) (hr:z9 (w.heap.size+1) 0 (.slice none 0 0) (.slice none 0 0) W)
 (hn:o=none->∃ st,Wri W ww (-1) st/\0<=st/\st<=D)
 (hy:∀ x,o=some x->Wri W ww (x.2.1:Nat) (20000-(x.2.2:Nat))/\zX (fun i=>(F i/\i<w.heap.size)\/w.heap.size+2<=i) W (kE x.1) [str s,.int .i64 v,.slice a1 n1 c1,.slice a2 n2 c2]) :
 ∃ W4,W4=((((W.setCell ⟨w.heap.size+1,0,none⟩ (str s)).setCell ⟨w.heap.size+1,1,none⟩ (.int .i64 v)).setCell ⟨w.heap.size+1,2,none⟩ (.slice a1 n1 c1)).setCell ⟨w.heap.size+1,3,none⟩ (.slice a2 n2 c2)) /\
   W4.cell? ⟨w.heap.size+1,0,none⟩=some (str s)/\W4.cell? ⟨w.heap.size+1,1,none⟩=some (.int .i64 v)/\W4.cell? ⟨w.heap.size+1,2,none⟩=some (.slice a1 n1 c1)/\W4.cell? ⟨w.heap.size+1,3,none⟩=some (.slice a2 n2 c2) /\
   vF F ww D o w (.returned (.agg #[str s,.int .i64 v,.slice a1 n1 c1,.slice a2 n2 c2])) W4:=by
 obtain ⟨W4,rF,f_,fe,f7,mQ,_,hk⟩:=hr.store (str s) (.int .i64 v) (.slice a1 n1 c1) (.slice a2 n2 c2)
 have mH:w.heap.size<=w.heap.size+1:=by omega
 refine ⟨W4,rF,f_,fe,f7,mQ,s,v,a1,n1,c1,a2,n2,c2,rfl,?_,fun ho=>?_,fun x hx=>?_⟩
 ·rw [rF]
  exact (((hb.setCell (p:=⟨w.heap.size+1,0,none⟩) (.inr mH) _).setCell (p:=⟨w.heap.size+1,1,none⟩) (.inr mH) _).setCell (p:=⟨w.heap.size+1,2,none⟩) (.inr mH) _).setCell (p:=⟨w.heap.size+1,3,none⟩) (.inr mH) _
 ·obtain ⟨st,h1,h2⟩:=hn ho
  exact ⟨st,hk ww _ (by omega) h1,h2⟩
 ·obtain ⟨h1,h2⟩:=hy x hx
  refine ⟨hk ww _ (by omega) h1,(Rep.keep fun b ob hf hh=>?_).2 _ _ h2⟩
  rcases hf with h | h
  ·exact ⟨.inl h.1,hk b _ (by have:=h.2;omega) hh⟩
  ·exact ⟨.inr (by omega),hk b _ (by omega) hh⟩
theorem top_rep {F:Nat->Prop} {w:World} {f:WFr} {st:List WFr} {sv:Value} (h:Rep F w (.sl 146 6 (st.length+1) (uy (f::st))) sv) :
 ∃ b o cap nS nB rY nH ea ec,sv=.slice (some ⟨b,o,none⟩) (st.length+1) cap/\F b/\b<w.heap.size/\st.length+1<=cap/\w.cell? ⟨b,o+st.length*6,none⟩=some (str [])/\w.cell? ⟨b,o+st.length*6+1,none⟩=some (.int .i64 (f.v:Nat)) /\
   w.cell? ⟨b,o+st.length*6+2,none⟩=some (.slice nS f.ss.length nB)/\w.cell? ⟨b,o+st.length*6+3,none⟩=some (.slice rY 2 nH)/\w.cell? ⟨b,o+st.length*6+4,none⟩=some (.slice ea f.env.length ec)/\w.cell? ⟨b,o+st.length*6+5,none⟩=some (.int .i64 0) /\
   Rep F w (.sl 48 4 2 (zg [f.yes,f.no])) (.slice rY 2 nH)/\Rep F w (.sl 130 9 f.env.length (ke f.env)) (.slice ea f.env.length ec) /\
   Rep F w (.sl 146 6 st.length (uy st)) (.slice (some ⟨b,o,none⟩) st.length cap):=by
 rw [zp] at h
 obtain ⟨hl,a,cap,rfl,hn,hz,h⟩:=h
 rcases h with h0 | ⟨b,o,cs,fr,rfl,hb,hcs,hr⟩
 ·omega
 rw [uy] at hr
 obtain ⟨h1,h2⟩:=hr.split
 rw [wZ] at h1 h2
 rw [List.take_take,Nat.min_eq_left (by omega)] at h1
 have get:∀ (j:Nat) (u:Value),(List.drop (st.length*6) (List.take ((st.length+1)*6) (List.drop o cs.toList)))[j]? = some u->w.cell? ⟨b,o+st.length*6+j,none⟩=some u:=by
  intro j u hu
  rw [List.getElem?_drop,List.getElem?_take] at hu
  split at hu
  ·rw [List.getElem?_drop] at hu
   simp only [World.cell?,hcs]
   simpa [Nat.add_assoc] using hu
  ·simp at hu
 generalize List.drop (st.length*6) (List.take ((st.length+1)*6) (List.drop o cs.toList))=us at h2 get
 rw [encF,yN] at h2
 simp only [List.cons_append,List.nil_append,zQ,zC,zH] at h2
 obtain ⟨_,_,rfl,rfl,_,_,rfl,rfl,x2,_,rfl,q2,x3,_,rfl,q3,x4,_,rfl,q4,_,_,rfl,rfl,rfl⟩:=h2
 obtain ⟨_,nS,nB,e1,_⟩:=zp.1 q2
 obtain ⟨_,rY,nH,e2,_⟩:=zp.1 q3
 obtain ⟨_,ea,ec,e3,_⟩:=zp.1 q4
 subst e1;subst e2;subst e3
 exact ⟨b,o,cap,nS,nB,rY,nH,ea,ec,rfl,hb,zZ hcs,hn,get 0 _ rfl,get 1 _ rfl,get 2 _ rfl,get 3 _ rfl,get 4 _ rfl,get 5 _ rfl,q3,q4,zp.2 ⟨wZ st,_,cap,rfl,by omega,fun h=>by simp at h,.inr ⟨b,o,cs,fr,rfl,hb,hcs,h1⟩⟩⟩
end Go.Proofs.YtjggkhmojjaomaaGreatDoor

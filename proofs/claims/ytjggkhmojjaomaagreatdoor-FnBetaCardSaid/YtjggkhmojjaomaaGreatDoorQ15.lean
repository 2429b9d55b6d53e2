/- Walks of functions that the statement reaches, and plain words. No conditions. -/
import Derived.Laws.IdiomStrings
import Derived.Test.YtjggkhmojjaomaaGreatDoorQ13
set_option linter.unusedVariables false
set_option linter.unusedSimpArgs false
set_option maxHeartbeats 4000000
namespace Go.Proofs.YtjggkhmojjaomaaGreatDoor
open Go.RowKit
theorem eh {W:World} {g r:Nat} (hr:r<10) (h:W.cell? ⟨g,0,none⟩=some (.int .u8 (48+(r:Int)))) :
 (convert 22 9 (.slice (some ⟨g,0,none⟩) 1 1)).run Tryz.prog W=.ok (str [yF r]) W:=by
 refine run_convert_bytes_back (P:=Tryz.prog) W 22 9 5 ⟨g,0,none⟩ 1 [yF r] Tryz.underlying22 Tryz.underlying5 Tryz.underlying9 (fun j hj=>?_)
 have hj0:j=0:=by simpa using hj
 subst hj0
 have e:(yF r).toNat=48+r:=by rw [yF,UInt8.toNat_ofNat'];exact Nat.mod_eq_of_lt (by omega)
 show W.cell? ((⟨g,0,none⟩:Addr).add 0)=some (.int .u8 ((yF r).toNat:Int))
 rw [e]
 have e2:((48+r:Nat):Int)=48+(r:Int):=by omega
 rw [e2];exact h
theorem conv_new {r:Nat} (hr:r<10) (w:World):(convert 22 9 (.slice (some ⟨w.heap.size,0,none⟩) 1 1)).run Tryz.prog (w.alloc (.cells #[.int .u8 (48+(r:Int))] 5))=.ok (str [yF r]) (w.alloc (.cells #[.int .u8 (48+(r:Int))] 5)) :=
 eh hr (by simp)
theorem conv_newd {r:Nat} (hr:r<10) (w:World):(convert 22 9 (.slice (some ⟨w.heap.size,0,none⟩) 1 1)).run Tryz.prog (w.alloc (.cells #[.int .u8 (48+(r:Int))] 5)).drew=.ok (str [yF r]) (w.alloc (.cells #[.int .u8 (48+(r:Int))] 5)).drew :=
 eh hr (show (w.alloc (.cells #[.int .u8 (48+(r:Int))] 5)).cell? _=_ by simp)
theorem conv_kept {r:Nat} (hr:r<10) {w W:World} (hb:Below (w.alloc (.cells #[.int .u8 (48+(r:Int))] 5)).drew.heap.size (w.alloc (.cells #[.int .u8 (48+(r:Int))] 5)).drew W) :
 (convert 22 9 (.slice (some ⟨w.heap.size,0,none⟩) 1 1)).run Tryz.prog W=.ok (str [yF r]) W :=
 eh hr ((hb.cell (show w.heap.size<(w.alloc (.cells #[.int .u8 (48+(r:Int))] 5)).heap.size by simp)).trans (show (w.alloc (.cells #[.int .u8 (48+(r:Int))] 5)).cell? _=_ by simp))
set_option maxRecDepth 100000 in
theorem l6Dec_small (n:Nat) (hn:n<10) (w:World):Calls Tryz.prog 68 #[.int .i64 (n:Nat)] w fun en w'=>en=.returned (str (dec n))/\Below w.heap.size w w':=by
 have hn':(n:Int)<10:=by omega
 have e:=fX (vN hn)
 have hcv:=conv_new hn w
 go_enter Tryz.func68,Tryz.ntmps68
 go_wp2_with fail
 go_ret
 exact ⟨by rw [e.out];rfl,(fH _ _).alloc (fP _) _⟩
theorem size_alloc_le (w:World) (o:Obj):w.heap.size<=(w.alloc o).drew.heap.size:=by
 show w.heap.size<=(w.alloc o).heap.size
 rw [zK];omega
set_option maxRecDepth 100000 in
theorem l6Dec_step (n:Nat) (hn:¬ n<10) (hl:n<=16777216) (ih:∀ w,Calls Tryz.prog 68 #[.int .i64 ((n / 10:Nat):Int)] w fun en w'=>en=.returned (str (dec (n / 10)))/\Below w.heap.size w w') (w:World) :
 Calls Tryz.prog 68 #[.int .i64 (n:Nat)] w fun en w'=>en=.returned (str (dec n))/\Below w.heap.size w w':=by
 have IH:=fX ih;clear ih
 have hn':¬ (n:Int)<10:=by omega
 have e:=fX (uR hn)
 have q1:(n:Int).tdiv 10=((n / 10:Nat):Int):=da n 10
 have q2:(n:Int).tmod 10=((n % 10:Nat):Int):=wj n 10
 have hR:n % 10<10:=Nat.mod_lt _ (by omega)
 have hQ:n / 10<=16777216:=fD (Nat.div_le_self _ _) hl
 have hD:(dec (n / 10)).length<=8:=u5 7 (n / 10) (by omega)
 generalize n % 10=R at *
 generalize n / 10=Q at *
 have q3:IntKind.i64.wrap (Q:Int)=(Q:Int):=wk Q (by omega)
 have q4:IntKind.i64.wrap (48+(R:Int))=48+(R:Int):=by rw [show (48:Int)+R=((48+R:Nat):Int) from by omega];exact wk _ (by omega)
 have q5:IntKind.u8.wrap (48+(R:Int))=48+(R:Int):=by simp [IntKind.wrap,IntKind.bits,IntKind.signed];omega
 have HR:=fX hR
 have Gt:=fun w0=>qN (P:=Tryz.prog) (dec Q) [yF R] (by simp;omega) w0
 have hcv:=conv_newd hR w
 have hcv0:=fun w0=>conv_new hR w0
 go_enter Tryz.func68,Tryz.ntmps68
 go_wp2_with fail
 go_region_with (first
  | (go_at_call 68;refine (IH.out (w.alloc (.cells #[.int .u8 (48+(R:Int))] 5)).drew).mono ?_;rintro en w2 ⟨rfl,fN⟩;have hcv2:=conv_kept HR.out fN;have hbb:=Below.trans (((fH w.heap.size w).alloc (fP _) (.cells #[.int .u8 (48+(R:Int))] 5)).drew) (fN.mono (size_alloc_le w _)))
  | (go_at_call 68;refine (IH.out w.drew).mono ?_;rintro en w2 ⟨rfl,fN⟩;have hbb:=Below.trans ((fH w.heap.size w).drew) fN))
 all_goals
  go_wp2_with fail
  go_ret
  refine ⟨by rw [e.out];rfl,?_⟩
  first
   | exact hbb
   | exact hbb.alloc hbb.size _
theorem l6Dec_any (n:Nat):n<=16777216->∀ w,Calls Tryz.prog 68 #[.int .i64 (n:Nat)] w fun en w'=>en=.returned (str (dec n))/\Below w.heap.size w w':=by
 induction n using Nat.strongRecOn with
 | _ n ih =>
   intro hl w
   by_cases h:n<10
   ·exact l6Dec_small n h w
   ·exact l6Dec_step n h hl (ih (n / 10) (Nat.div_lt_self (by omega) (by omega)) (fD (Nat.div_le_self _ _) hl)) w
def ce (b:Bd):Prop:=∀ (F:Nat->Prop) (w:World) (s v k y:Value),zX F w (kR b) [s,v,k,y] ->
 Calls Tryz.prog 44 #[.agg #[s,v,k,y]] w fun en w'=>en=.returned (str (kM b))/\Below w.heap.size w w'
abbrev KeepY (g:Nat) (ky:Value) (sL yo:Nat) (s0 v0 p0 q0 s1 v1 p1 q1:Value) (w':World):Prop :=
 w'.cell? ⟨g,3,none⟩=some ky/\w'.cell? ⟨sL,yo,none⟩=some s0/\w'.cell? ⟨sL,yo+1,none⟩=some v0/\w'.cell? ⟨sL,yo+2,none⟩=some p0/\w'.cell? ⟨sL,yo+3,none⟩=some q0 /\
  w'.cell? ⟨sL,yo+4,none⟩=some s1/\w'.cell? ⟨sL,yo+5,none⟩=some v1/\w'.cell? ⟨sL,yo+6,none⟩=some p1/\w'.cell? ⟨sL,yo+7,none⟩=some q1
theorem KeepY.below {g:Nat} {ky:Value} {sL yo:Nat} {s0 v0 p0 q0 s1 v1 p1 q1:Value} {w w':World} (h:KeepY g ky sL yo s0 v0 p0 q0 s1 v1 p1 q1 w) (hb:Below w.heap.size w w'):KeepY g ky sL yo s0 v0 p0 q0 s1 v1 p1 q1 w':=by
 have key:∀ (a:Addr) (v:Value),w.cell? a=some v->w'.cell? a=some v:=fun a v ha=>by
  rw [hb.cell (fG w _ ha)];exact ha
 obtain ⟨h1,h2,h3,h4,h5,h6,h7,h8,h9⟩:=h
 exact ⟨key _ _ h1,key _ _ h2,key _ _ h3,key _ _ h4,key _ _ h5,key _ _ h6,key _ _ h7,key _ _ h8,key _ _ h9⟩
set_option maxRecDepth 100000 in
theorem l3Text_step (b:Bd) (hl:zW b<=1000000) (ru:lvB b) (ih:∀ b',zW b'<zW b->lvB b'->ce b'):ce b:=by
 intro F w s v k y hv
 have e1:=encN_lv hv
 subst e1
 obtain ⟨_,a2,c2,a3,c3,e,hk,hy⟩:=vM hv
 simp only [List.cons.injEq,and_true] at e
 obtain ⟨rfl,_,rfl,rfl⟩:=e
 cases b with
 | leaf c =>
   clear hv hk hy ih
   show Calls Tryz.prog 44 #[.agg #[str [c],.int .i64 (0:Nat),.slice a2 0 c2,.slice a3 0 c3]] w _
   go_enter Tryz.func44,Tryz.ntmps44
   go_wp2_with fail
   go_ret
   exact ⟨rfl,(fH _ _).alloc (fP _) _⟩
 | ask lv ss yb nb =>
   have IH:=fX ih;clear ih
   have f7:=uD (.ask lv ss yb nb)
   rw [eV,jf] at f7
   change zW (.ask lv ss yb nb)=1+(zR ss+zR [yb,nb]) at f7
   have DK:zR [yb,nb]=zW yb+zW nb:=by simp [zR]
   rw [lvB] at ru
   obtain ⟨lv1,lv2,lv3,lv4⟩:=ru
   have t1:=u9 ss lv2
   have t2:=vJ yb lv3
   have t3:=vJ nb lv4
   have t4:(dec lv).length<=5:=u5 4 lv (by omega)
   obtain ⟨_,_,ek,atk⟩:=gQ.of hk
   simp only [Value.slice.injEq,true_and] at ek
   rw [<- ek.1] at atk;clear ek
   obtain ⟨_,_,ek,aty⟩:=gQ.of hy
   simp only [Value.slice.injEq,true_and] at ek
   rw [<- ek.1] at aty;clear ek
   change gQ F w ss a2 at atk
   change gQ F w [yb,nb] a3 at aty
   obtain ⟨sL,yo,s0,v0,p2,m2,d2,p3,m3,d3,yt,ey,hyb0,It,u0,u1,u2,u3,EL⟩:=aty 0 (by simp)
   obtain ⟨yb1,yo1,s1,v1,p4,m4,d4,p5,m5,d5,nt,GH,hyb1,aj,z0,z1,z2,z3,Ah⟩:=aty 1 (by simp)
   rw [ey] at GH
   simp only [Option.some.injEq,Addr.mk.injEq,and_true] at GH
   obtain ⟨rfl,rfl⟩:=GH
   simp only [List.getElem?_cons_zero,Option.some.injEq] at It
   simp only [List.getElem?_cons_succ,List.getElem?_cons_zero,Option.some.injEq] at aj
   subst It;subst aj
   simp only [Nat.zero_mul,Nat.add_zero] at u0 u1 u2 u3
   simp only [Nat.one_mul,Nat.add_assoc,Nat.reduceAdd] at z0 z1 z2 z3
   have nss:ss.length<=16777216:=by have:=qB ss;omega
   have GM:=fX f7;have HYN:=fX DK
   have ATK:=fX atk
   have LV:=fX lv2;have LV3:=fX lv3;have LV4:=fX lv4
   have lvl:lv<=16777216:=by omega
   have Ju:KeepY w.heap.size (.slice a3 2 c3) sL yo (str s0) (.int .i64 v0) (.slice p2 m2 d2) (.slice p3 m3 d3) (str s1) (.int .i64 v1) (.slice p4 m4 d4) (.slice p5 m5 d5) (w.alloc (.cells #[str [],.int .i64 lv,.slice a2 ss.length c2,.slice a3 2 c3] 48)) :=
    ⟨by simp,zJ u0,zJ u1,zJ u2,zJ u3,zJ z0,zJ z1,zJ z2,zJ z3⟩
   have Ia:=fX Ju
   have GO:=fX EL;have HRN:=fX Ah
   subst ey
   clear hv hk hy atk aty f7 DK lv2 lv3 lv4 u0 u1 u2 u3 z0 z1 z2 z3 EL Ah Ju
   show Calls Tryz.prog 44 #[.agg #[str [],.int .i64 lv,.slice a2 ss.length c2,.slice (some ⟨sL,yo,none⟩) 2 c3]] w _
   have Ke:=fun w0=>qN (P:=Tryz.prog) [40] (dec lv) (by simp;omega) w0
   go_enter Tryz.func44,Tryz.ntmps44
   go_wp2_with fail
   refine (l6Dec_any lv lvl _).mono ?_
   rintro en w1 ⟨rfl,fA⟩
   have rU:Below w.heap.size w w1:=Below.trans ((fH w.heap.size w).alloc (fP _) (.cells #[str [],.int .i64 lv,.slice a2 ss.length c2,.slice (some ⟨sL,yo,none⟩) 2 c3] 48)) (fA.mono (by simp))
   have Bc:w1.cell? ⟨w.heap.size,2,none⟩=some (.slice a2 ss.length c2):=(fA.cell (by simp)).trans (by simp)
   have K4:=fX (Ia.out.below fA)
   go_wp2_with fail
   clear Ke
   go_loopw [3,4] (fun o i wr=>∃ k:Nat,k<=ss.length/\i=.int .i64 k/\o=str ([40]++dec lv++kO (ss.take k))/\Below w.heap.size w wr/\wr.cell? ⟨w.heap.size,2,none⟩=some (.slice a2 ss.length c2)/\KeepY w.heap.size (.slice (some ⟨sL,yo,none⟩) 2 c3) sL yo (str s0) (.int .i64 v0) (.slice p2 m2 d2) (.slice p3 m3 d3) (str s1) (.int .i64 v1) (.slice p4 m4 d4) (.slice p5 m5 d5) wr) (fun _ i _=>ss.length-(intOf i).toNat)
   case atStart=>exact ⟨0,Nat.zero_le _,rfl,by simp [kO],rU,Bc,K4.out⟩
   case round =>
    clear Bc K4 Ia rU
    obtain ⟨k,hk,rfl,rfl,hb,Bc,Ju⟩:=hrel
    have Ia:=fX Ju;clear Ju
    have hlen:([40]++dec lv++kO (ss.take k)).length<=16777216:=by
     have h1:=dR ss k
     have h2:=GM.out
     simp only [List.length_append,List.length_cons,List.length_nil];omega
    by_cases fT:k<ss.length
    ·obtain ⟨bb,o,s',v',b2,n2,e2,b3,n3,e3,t,eb,hbb,ht,u0,u1,u2,u3,hr⟩:=ATK.out k fT
     subst eb
     have q0:=(hb.cell hbb).trans u0
     have q1:=(hb.cell hbb).trans u1
     have q2:=(hb.cell hbb).trans u2
     have q3:=(hb.cell hbb).trans u3
     have sZ:=zX.below (F':=fun _=>True) hb (fun _ _=>trivial) hr
     have rq:=yX ht
     have iD:=jb ss (k+1)
     have oY:=GM.out
     have rA:=vJ t (dI _ LV.out k t ht)
     have C:=fX (IH.out t (by omega) (dI _ LV.out k t ht) _ wr _ _ _ _ sZ)
     have HT:=fX (textBs_take ht)
     have ht16:(kM t).length<=16777216:=by omega
     have mT:(k:Int)<(ss.length:Int):=by omega
     generalize hO:[40]++dec lv++kO (ss.take k)=O at *
     have HO:=fX hO
     have iN:=fun w0=>qN (P:=Tryz.prog) O [32] (by simp;omega) w0
     have iM:=fun w0=>qN (P:=Tryz.prog) (O++[32]) (kM t) (by simp;omega) w0
     clear hO rq iD oY rA ht u0 u1 u2 u3 hr sZ
     go_wp2_with fail
     refine C.out.mono ?_
     rintro en w2 ⟨rfl,fN⟩
     have fv:=zzT hb fN
     have hx2':w2.cell? ⟨w.heap.size,2,none⟩=some (.slice (some ⟨bb,o,none⟩) ss.length c2):=(fN.cell (fG _ ⟨w.heap.size,2,none⟩ Bc)).trans Bc
     have HKY2:=fX (Ia.out.below fN)
     go_wp2_with fail
     go_roundw
     case rel=>exact ⟨k+1,by omega,by go_num,by rw [HT.out,<- HO.out];simp [str],fv,hx2',HKY2.out⟩
     case measure=>simp [intOf];omega
    ·obtain rfl:k=ss.length:=by omega
     rw [List.take_length] at hlen ⊢
     have iE:¬ ((ss.length:Int)<(ss.length:Int)):=by omega
     have HE:Hid (kM (.ask lv ss yb nb)=((((([40]++dec lv++kO ss)++[32])++kM yb)++[32])++kM nb)++[41]):=by show kM _=_;rw [kM]
     generalize hO:[40]++dec lv++kO ss=O at *
     clear hO
     obtain ⟨lY,q0,q1,q2,q3,q4,q5,q6,q7⟩:=Ia.out
     have IO:=(zX.below (F':=fun _=>True) hb (fun _ _=>trivial) GO.out).drew
     have IW:=zX.below (F':=fun _=>True) hb (fun _ _=>trivial) HRN.out
     have oY:=GM.out
     have rA:=HYN.out
     have y16:(kM yb).length<=16777216:=by omega
     have n16:(kM nb).length<=16777216:=by omega
     have pp:=kW yb;have pq:=kW nb
     have CY:=fX (IH.out yb (by omega) LV3.out _ wr.drew _ _ _ _ IO)
     have CN:=fun W F' h=>IH.out nb (by omega) LV4.out F' W (str s1) (.int .i64 v1) (.slice p4 m4 d4) (.slice p5 m5 d5) h
     have CN':=fX CN;clear CN
     have RN:=fX IW
     have e16:(O++[32]).length=O.length+1:=by simp
     obtain ⟨O1,h1⟩:=zzM (O++[32])
     obtain ⟨O2,h2⟩:=zzM (O1++kM yb)
     obtain ⟨O3,h3⟩:=zzM (O2++[32])
     obtain ⟨O4,h4⟩:=zzM (O3++kM nb)
     obtain ⟨O5,h5⟩:=zzM (O4++[41])
     have l1:O1.length<=16777217:=by rw [h1];simp;omega
     have l2:O2.length<=33554433:=by rw [h2];simp;omega
     have l3:O3.length<=33554434:=by rw [h3];simp;omega
     have l4:O4.length<=50331650:=by rw [h4];simp;omega
     have iN:=fun w0=>qN (P:=Tryz.prog) O [32] (by simp;omega) w0
     have iM:=fun w0=>qN (P:=Tryz.prog) O1 (kM yb) (by omega) w0
     have lI:=fun w0=>qN (P:=Tryz.prog) O2 [32] (by simp;omega) w0
     have lL:=fun w0=>qN (P:=Tryz.prog) O3 (kM nb) (by omega) w0
     have Kd:=fun w0=>qN (P:=Tryz.prog) O4 [41] (by simp;omega) w0
     have HE5:Hid (O5=kM (.ask lv ss yb nb)):=by show O5=_;rw [HE.out,h5,h4,h3,h2,h1]
     rw [<- h1] at iN;rw [<- h2] at iM;rw [<- h3] at lI;rw [<- h4] at lL;rw [<- h5] at Kd
     clear h1 h2 h3 h4 h5 HE e16 l1 l2 l3 l4
     have hKd:KeepY w.heap.size (.slice (some ⟨sL,yo,none⟩) 2 c3) sL yo (str s0) (.int .i64 v0) (.slice p2 m2 d2) (.slice p3 m3 d3) (str s1) (.int .i64 v1) (.slice p4 m4 d4) (.slice p5 m5 d5) wr.drew:=Ia.out
     clear oY rA pp pq IO IW t1 t2 t3 t4
     go_wp2_with fail
     go_region_held3 (fun w'=>w'.cell? ⟨w.heap.size,3,none⟩=some (.slice (some ⟨sL,yo,none⟩) 2 c3)/\w'.cell? ⟨sL,yo,none⟩=some (str s0)/\w'.cell? ⟨sL,yo+1,none⟩=some (.int .i64 v0)/\w'.cell? ⟨sL,yo+2,none⟩=some (.slice p2 m2 d2)/\w'.cell? ⟨sL,yo+3,none⟩=some (.slice p3 m3 d3)/\w'.cell? ⟨sL,yo+4,none⟩=some (str s1)/\w'.cell? ⟨sL,yo+5,none⟩=some (.int .i64 v1)/\w'.cell? ⟨sL,yo+6,none⟩=some (.slice p4 m4 d4)/\w'.cell? ⟨sL,yo+7,none⟩=some (.slice p5 m5 d5))
      (first
       | with_reducible exact hKd
       | with_reducible exact DF
       | with_reducible exact hK4)
      (first
       | (go_at_call 44;refine (CN'.out _ _ rn3).mono ?_;rintro en w4 ⟨rfl,fl⟩;have hK4:=DF.below fl)
       | (go_at_call 44;refine CY.out.mono ?_;rintro en w3 ⟨rfl,fv⟩;have DF:=hKd.below fv;have rn3:=zX.below (F':=fun _=>True) fv (fun _ _=>trivial) RN.out.drew))
     go_wp2_with fail
     go_ret
     exact ⟨by rw [<- HE5.out];rfl,hb.trans ((((fH _ wr).drew).trans (zzT fv fl)).mono hb.size)⟩
theorem l3Text_any (n:Nat):∀ b,zW b<=n->n<=1000000->lvB b->ce b:=by
 induction n with
 | zero=>intro b h _;have:=kW b;omega
 | succ n ih=>exact fun b h hn ru=>l3Text_step b (by omega) ru (fun b' h' tR=>ih b' (by omega) (by omega) tR)
mutual
def bf:Mn->List DV
 | .op o t=>[.val (.int .i64 (o:Nat)),.val (str []),.val (.int .i64 0),.val (.slice none 0 0),.val (.slice none 0 0),kg t,.val (.slice none 0 0),.val (.int .i64 0),.any]
 | .bd t b env=>[.val (.int .i64 (-1))]++(kR b++[kg t,.sl 130 9 env.length (kr env),.val (.int .i64 (0:Nat)),.any])
def kr:List Mn->List DV
 | []=>[]
 | x::xs=>bf x++kr xs
end
theorem pH (x:Mn):(bf x).length=9:=by cases x <;> simp [bf,vK]
theorem bh:∀ xs:List Mn,(kr xs).length=xs.length*9
 | []=>by simp [kr]
 | x::xs=>by rw [kr,List.length_append,pH,bh xs];simp;omega
theorem vX:∀ (xs ys:List Mn),kr (xs++ys)=kr xs++kr ys
 | [],ys=>by simp [kr]
 | x::xs,ys=>by simp [kr,vX xs ys]
theorem vD {F:Nat->Prop} {w:World}:∀ (xs:List Mn) (us:List Value),zX F w (kr xs) us->∀ u∈us,u.oneCell'=true
 | [],us,h,u,hu=>by rw [kr,zC] at h;subst h;simp at hu
 | x::xs,us,h,u,hu=>by
   rw [kr] at h
   obtain ⟨h1,h2⟩:=h.split
   rw [pH] at h1 h2
   rw [<- List.take_append_drop 9 us] at hu
   rcases List.mem_append.1 hu with hu | hu
   ·cases x with
    | op o t =>
      simp only [bf,zQ,zC,zH,yQ] at h1
      obtain ⟨_,_,e,rfl,_,_,rfl,rfl,_,_,rfl,rfl,_,_,rfl,rfl,_,_,rfl,rfl,x1,_,rfl,q1,_,_,rfl,rfl,_,_,rfl,rfl,x3,_,rfl,⟨i3,rfl⟩,rfl⟩:=h1
      obtain ⟨sa,sc,rfl⟩:=kJ q1
      rw [e] at hu
      simp only [List.mem_cons,List.not_mem_nil,or_false] at hu
      rcases hu with rfl | rfl | rfl | rfl | rfl | rfl | rfl | rfl | rfl
      all_goals first | rfl | assumption
    | bd t b env =>
      rw [bf] at h1
      obtain ⟨k1,k2⟩:=h1.split
      obtain ⟨k3,k4⟩:=k2.split
      rw [<- List.take_append_drop 1 (us.take 9)] at hu
      rcases List.mem_append.1 hu with hu | hu
      ·simp only [List.length_singleton,zQ,zC,zH] at k1
       obtain ⟨_,_,e,rfl,rfl⟩:=k1
       rw [e] at hu;simp at hu;subst hu;rfl
      ·rw [vK] at k3 k4
       simp only [List.length_singleton] at k3 k4
       rw [<- List.take_append_drop 4 (List.drop 1 (us.take 9))] at hu
       rcases List.mem_append.1 hu with hu | hu
       ·exact oneCell_encN k3 u hu
       ·simp only [zQ,zC,yQ,zH] at k4
        obtain ⟨x0,_,e,q1,x1,_,rfl,q2,_,_,rfl,rfl,x3,_,rfl,⟨i3,rfl⟩,rfl⟩:=k4
        rw [e] at hu
        obtain ⟨sa,sc,rfl⟩:=kJ q1
        rw [zp] at q2
        obtain ⟨_,a,c,rfl,_⟩:=q2
        simp only [List.mem_cons,List.not_mem_nil,or_false] at hu
        rcases hu with rfl | rfl | rfl | rfl
        all_goals first | rfl | assumption
   ·exact vD xs _ h2 u hu
def HandWPost (F:Nat->Prop) (hand:List Mn) (own:List Mn) (w:World) (en:Ending) (w':World):Prop :=
 ∃ a c,en=.returned (.slice a (hand.length+own.length) c)/\Below w.heap.size w w'/\Rep (fun i=>F i\/w.heap.size<=i) w' (.sl 130 9 (hand.length+own.length) (kr (hand++own))) (.slice a (hand.length+own.length) c)
set_option maxRecDepth 100000 in
theorem gh (F:Nat->Prop) (hand env:List Mn) (ss:List Bd) (t:Ty) (hv kv tv ev:Value) (w:World) (hh:Rep F w (.sl 130 9 hand.length (kr hand)) hv) (hk:Rep F w (.sl 48 4 ss.length (zh ss)) kv)
 (ht:Rep F w (kg t) tv) (he:Rep F w (.sl 130 9 env.length (kr env)) ev) (hl:hand.length<=10000000) (hs:ss.length=t.args.length) (hs16:ss.length<=16) :
 Calls Tryz.prog 88 #[hv,kv,.agg #[tv],ev,.int .i64 (0:Nat)] w (HandWPost F hand (owns env t.args ss) w):=by
 obtain ⟨lK,Do,g1⟩:=zq.ofRep hh (vD _)
 obtain ⟨a1,c1,e1⟩:=g1.slice
 subst e1
 obtain ⟨ka,kc,e,Hf⟩:=gQ.of hk
 subst e
 have rV:=ht
 rw [qy] at rV
 obtain ⟨ta,tc,e,_,_,tY⟩:=zP rV
 subst e
 obtain ⟨ea,ec,e⟩:∃ a c,ev=.slice a env.length c:=by have h:=he;rw [zp] at h;obtain ⟨_,a,c,e,_⟩:=h;exact ⟨a,c,e⟩
 subst e
 have H:=fX (fW Do (fW g1 (fW Hf (fW tY (fW he hs)))))
 clear Do g1 Hf tY he hs hh hk ht rV
 have az:(owns env t.args ss).length=ss.length:=(xe _ _ H.out.2.2.2.2.2).trans H.out.2.2.2.2.2.symm
 have HOL:=fX az;clear az
 go_enter Tryz.func88,Tryz.ntmps88
 go_wp2_with (at_builtin;refine zE rfl _ _ 127 rfl 130 (.agg #[.int .i64 0,str [],.int .i64 0,.slice none 0 0,.slice none 0 0,.slice none 0 0,.slice none 0 0,.int .i64 0,.int .i64 0]) 9 144 Tryz.underlying127 Tryz.infoBo rfl (by decide) (.slice (some ⟨w.heap.size+1,0,none⟩) 0 0) 0 [] rfl ?c1 _ hand.length lK rfl ?c2 ?c3 ?c4 ?_)
 case c1=>exact Own.litAt #[] 0 _ (by simp) (by decide) rfl
 case c2=>exact (H.out.2.1.alloc _).alloc _
 case c3=>unfold maxLen;omega
 case c4=>omega
 intro ax cx wx hox tS hgx
 obtain ⟨tm,hfx⟩:=vY (w:=w.alloc (.cells #[.slice ta t.args.length tc] 43)) ((fH _ _).alloc (fP _) _) (w_ (by simp)) tS (fun g h=>by have:=hgx g h;simpa only [zK] using this)
 have rU:Below w.heap.size w (w.alloc (.cells #[.slice ta t.args.length tc] 43)):=(fH _ _).alloc (fP _) _
 have JZ:Below w.heap.size w wx:=rU.trans (tm.mono (by rw [zK];omega))
 have hcx:wx.cell? ⟨w.heap.size,0,none⟩=some (.slice ta t.args.length tc):=by rw [tm.cell (p:=⟨w.heap.size,0,none⟩) (by rw [zK];simp)];simp
 have JM:∀ g,(Value.slice ax hand.length cx).ownBlock=some g->w.heap.size+1<=g:=fun g hg=>by have:=hfx g hg;rwa [zK] at this
 have HX:=fX (fW hox (fW JZ (fW hcx JM)));clear hox tS hgx tm hfx rU JZ hcx JM
 go_wp2_with fail
 go_loopw [12,11] (fun i o wr=>∃ (k:Nat) (a':Option Addr) (c':Nat) (cells:List Value),k<=ss.length/\i=.int .i64 k/\o=.slice a' (hand.length+k) c'/\Own wr 130 9 (.slice a' (hand.length+k) c') (hand.length+k) cells /\
  zX (fun i=>F i/\(Value.slice a' (hand.length+k) c').ownBlock≠some i) wr (kr (hand++(owns env t.args ss).take k)) cells/\Below w.heap.size w wr/\wr.cell? ⟨w.heap.size,0,none⟩=some (.slice ta t.args.length tc)/\(∀ g,(Value.slice a' (hand.length+k) c').ownBlock=some g->w.heap.size+1<=g)) (fun i _ _=>ss.length-(intOf i).toNat)
 case atStart =>
  refine ⟨0,ax,cx,lK,Nat.zero_le _,rfl,rfl,HX.out.1,?_,HX.out.2.1,HX.out.2.2.1,HX.out.2.2.2⟩
  rw [List.take_zero,List.append_nil]
  exact (Rep.keep fun b o hf ho=>⟨⟨hf,fun e=>by have h1:w.heap.size+1<=b:=HX.out.2.2.2 b e;have:=zZ ho;omega⟩,by rw [HX.out.2.1.block b (zZ ho)];exact ho⟩).2 _ _ H.out.1
 case round =>
  obtain ⟨k,a',c',cells,hk,rfl,rfl,ho,hr,hb,hc,hf⟩:=hrel
  have HR:=fX (fW ho (fW hr (fW hb hf)));clear ho hr hb hf
  by_cases fT:k<ss.length
  ·obtain ⟨kb,ko,s',v',a2,n2,c2,a3,n3,c3,d,e,sG,hd,k0,k1,k2,k3,iv⟩:=H.out.2.2.1 k fT
   subst e
   have ES:k<t.args.length:=by have:=H.out.2.2.2.2.2;omega
   obtain ⟨bt,ot,ut,dt,e,_,rh,hdt,hct,mG⟩:=H.out.2.2.2.1 k ES
   subst e
   rw [vx,Option.map_eq_some_iff] at hdt
   obtain ⟨tk,Ae,rfl⟩:=hdt
   obtain ⟨ua,uc,rfl⟩:=kJ mG
   have q0:=(HR.out.2.2.1.cell (p:=⟨kb,ko+k*4,none⟩) sG).trans k0
   have q1:=(HR.out.2.2.1.cell (p:=⟨kb,ko+k*4+1,none⟩) sG).trans k1
   have q2:=(HR.out.2.2.1.cell (p:=⟨kb,ko+k*4+2,none⟩) sG).trans k2
   have q3:=(HR.out.2.2.1.cell (p:=⟨kb,ko+k*4+3,none⟩) sG).trans k3
   have q4:=(HR.out.2.2.1.cell (p:=⟨bt,ot+k,none⟩) rh).trans hct
   have HK:=fX (fW hd (fW iv (fW Ae mG)));clear hd iv Ae mG k0 k1 k2 k3 hct
   have mT:(k:Int)<(ss.length:Int):=by omega
   have hkt':(k:Int)<(t.args.length:Int):=by omega
   have h09:0<9:=by omega
   have tP:hand.length+k+1<=maxLen:=by unfold maxLen;omega
   have nA:(hand.length+k+1)*144<=140737488355328:=by omega
   have DZ:=(zq.lit1 (w:=wr) (e:=130) #[.int .i64 (-1),str s',.int .i64 v',.slice a2 n2 c2,.slice a3 n3 c3,.slice ua tk.args.length uc,.slice ea env.length ec,.int .i64 (0:Nat),.int .i64 (k:Nat)] rfl (by simp [str,Value.oneCell']) _ rfl).drew
   have HL:=fX DZ;clear DZ
   have hrw:∀ g,(Value.slice a' (hand.length+k) c').ownBlock=some g->g<wr.heap.size:=fun g hg=>HR.out.1.lt hg
   have SIX:Hid (∀ w7:World,But (fun b=>(Value.slice a' (hand.length+k) c').ownBlock=some b) (wr.alloc (.cells #[.int .i64 (-1),str s',.int .i64 v',.slice a2 n2 c2,.slice a3 n3 c3,.slice ua tk.args.length uc,.slice ea env.length ec,.int .i64 (0:Nat),.int .i64 (k:Nat)] 130)).drew w7 ->
    w7.cell? ⟨kb,ko+k*4,none⟩=some (str s')/\w7.cell? ⟨kb,ko+k*4+1,none⟩=some (.int .i64 v')/\w7.cell? ⟨kb,ko+k*4+2,none⟩=some (.slice a2 n2 c2)/\w7.cell? ⟨kb,ko+k*4+3,none⟩=some (.slice a3 n3 c3)/\w7.cell? ⟨bt,ot+k,none⟩=some (.slice ua tk.args.length uc)/\w7.cell? ⟨w.heap.size,0,none⟩=some (.slice (some ⟨bt,ot,none⟩) t.args.length tc)):=by
    show ∀ w7:World,_->_
    intro w7 fS
    have hz:=HR.out.2.2.1.size
    have key:∀ (p:Addr) (u:Value),p.block<w.heap.size+1->wr.cell? p=some u->w7.cell? p=some u:=by
     intro p u hp hu
     have h1:(wr.alloc (.cells #[.int .i64 (-1),str s',.int .i64 v',.slice a2 n2 c2,.slice a3 n3 c3,.slice ua tk.args.length uc,.slice ea env.length ec,.int .i64 (0:Nat),.int .i64 (k:Nat)] 130)).drew.cell? p=some u:=zJ hu
     exact (fS.cell (fG _ _ h1) (fun e=>by have:=HR.out.2.2.2 _ e;omega)).trans h1
    exact ⟨key _ _ (by simp only;omega) q0,key _ _ (by simp only;omega) q1,key _ _ (by simp only;omega) q2,key _ _ (by simp only;omega) q3,key _ _ (by simp only;omega) q4,key _ _ (by simp only;omega) hc⟩
   go_wp2_with fail
   go_region_held3 (fun w'=>w'.cell? ⟨kb,ko+k*4,none⟩=some (str s')/\w'.cell? ⟨kb,ko+k*4+1,none⟩=some (.int .i64 v')/\w'.cell? ⟨kb,ko+k*4+2,none⟩=some (.slice a2 n2 c2)/\w'.cell? ⟨kb,ko+k*4+3,none⟩=some (.slice a3 n3 c3)/\w'.cell? ⟨bt,ot+k,none⟩=some (.slice ua tk.args.length uc)/\w'.cell? ⟨w.heap.size,0,none⟩=some (.slice (some ⟨bt,ot,none⟩) t.args.length tc))
    (first
     | exact ⟨q0,q1,q2,q3,q4,hc⟩
     | exact Bj
     | go_keep)
    (first
     | (refine zF (by rfl) _ _ _ (by rfl) 130 (.agg #[.int .i64 0,str [],.int .i64 0,.slice none 0 0,.slice none 0 0,.slice none 0 0,.slice none 0 0,.int .i64 0,.int .i64 0]) 9 144 Tryz.underlying127 Tryz.infoBo rfl h09 (.slice a' (hand.length+k) c') (hand.length+k) cells (by rfl) (HR.out.1.alloc _).drew _ 1 [.int .i64 (-1),str s',.int .i64 v',.slice a2 n2 c2,.slice a3 n3 c3,.slice ua tk.args.length uc,.slice ea env.length ec,.int .i64 (0:Nat),.int .i64 (k:Nat)] (by rfl) HL.out tP nA ?_;intro a7 c7 w7 fm fS fw;have Bj:=SIX.out w7 fS))
   have hz:=HR.out.2.2.1.size
   have nM:∀ g,(Value.slice a7 (hand.length+k+1) c7).ownBlock=some g->(Value.slice a' (hand.length+k) c').ownBlock=some g\/g=wr.heap.size+1:=by
    intro g hg
    rcases fw g hg with h | h
    ·exact .inl h
    ·exact .inr (by rw [h];exact zK _ _)
   have n8:Below w.heap.size w w7:=by
    refine ((HR.out.2.2.1.alloc hz _).drew).trans (fS.toBelow (by show _<=(wr.alloc _).heap.size;rw [zK];omega) fun i hi e=>?_)
    have:=HR.out.2.2.2 i e;omega
   have Ez:∀ (b:Nat) (o:Obj),(Value.slice a' (hand.length+k) c').ownBlock≠some b->wr.heap[b]? = some o->w7.heap[b]? = some o:=by
    intro b o hf ho
    have h2:=zZ ho
    have h3:(wr.alloc (.cells #[.int .i64 (-1),str s',.int .i64 v',.slice a2 n2 c2,.slice a3 n3 c3,.slice ua tk.args.length uc,.slice ea env.length ec,.int .i64 (0:Nat),.int .i64 (k:Nat)] 130)).drew.heap[b]? = some o:=zY ho
    rw [fS.block b (zZ h3) hf];exact h3
   have sg:zX (fun i=>F i/\(Value.slice a7 (hand.length+k+1) c7).ownBlock≠some i) w7 (kr (hand++(owns env t.args ss).take (k+1))) (cells++[.int .i64 (-1),str s',.int .i64 v',.slice a2 n2 c2,.slice a3 n3 c3,.slice ua tk.args.length uc,.slice ea env.length ec,.int .i64 (0:Nat),.int .i64 (k:Nat)]):=by
    have how:=pw (env:=env) t.args ss k tk d HK.out.2.2.1 HK.out.1
    rw [List.take_add_one,how]
    simp only [Option.toList_some]
    rw [<- List.append_assoc,vX]
    have hnf:∀ (b:Nat) (o:Obj),F b->w.heap[b]? = some o->(F b/\(Value.slice a7 (hand.length+k+1) c7).ownBlock≠some b)/\w7.heap[b]? = some o:=by
     intro b o hf ho
     have h1:=zZ ho
     refine ⟨⟨hf,fun e=>?_⟩,by rw [n8.block b h1];exact ho⟩
     rcases nM b e with h | h
     ·have:=HR.out.2.2.2 b h;omega
     ·omega
    refine zX.append ?_ ?_
    ·exact (Rep.keep fun b o hf ho=>⟨⟨hf.1,fun e=>by
      have:=zZ ho
      rcases nM b e with h | h
      ·exact hf.2 h
      ·omega⟩,Ez b o hf.2 ho⟩).2 _ _ HR.out.2.1
    ·simp only [kr,bf,List.append_nil,List.cons_append,List.nil_append]
     refine zQ.2 ⟨_,_,rfl,zH.2 rfl,?_⟩
     have h4:=(Rep.keep hnf).2 _ _ HK.out.2.1
     have h5:=(Rep.keep hnf).1 _ _ HK.out.2.2.2
     have h6:=(Rep.keep hnf).1 _ _ H.out.2.2.2.2.1
     exact zX.append h4 (zQ.2 ⟨_,_,rfl,h5,zQ.2 ⟨_,_,rfl,h6,zQ.2 ⟨_,_,rfl,zH.2 rfl,zQ.2 ⟨_,_,rfl,yQ.2 ⟨_,rfl⟩,zC.2 rfl⟩⟩⟩⟩)
   have iU:∀ g,(Value.slice a7 (hand.length+k+1) c7).ownBlock=some g->w.heap.size+1<=g:=by
    intro g hg
    rcases nM g hg with h | h
    ·exact HR.out.2.2.2 g h
    ·omega
   have H7:=fX (fW fm (fW sg (fW n8 (fW Bj.2.2.2.2.2 iU))));clear fm sg n8 Bj iU fS fw nM Ez q0 q1 q2 q3 q4 hc
   go_wp2_with fail
   go_roundw
   case rel=>exact ⟨k+1,a7,c7,_,by omega,by go_num,rfl,H7.out.1,H7.out.2.1,H7.out.2.2.1,H7.out.2.2.2.1,H7.out.2.2.2.2⟩
   case measure=>simp [intOf];omega
  ·obtain rfl:k=ss.length:=by omega
   have F4:¬ (ss.length:Int)<(ss.length:Int):=by omega
   clear hc
   go_wp2_with fail
   go_ret
   have hr:=HR.out.2.1
   rw [List.take_of_length_le (by rw [HOL.out];exact fP _)] at hr
   unfold HandWPost
   rw [HOL.out]
   refine ⟨a',c',rfl,HR.out.2.2.1,HR.out.1.rep (fun g hg=>.inr (by have:=HR.out.2.2.2 g hg;omega)) ((Rep.keep fun b o hf ho=>⟨.inl hf.1,ho⟩).2 _ _ hr)⟩
set_option maxRecDepth 100000 in
theorem pW (F:Nat->Prop) (n:Nat) (ts:List Ty) (kv:Value) (w:World) (h:Rep F w (.sl 43 1 ts.length (qH ts)) kv) (hl:ts.length<=1000) (hn:n<=1000000) :
 Calls Tryz.prog 66 #[kv,.int .i64 (n:Nat)] w (FreshV w 130 9 ts.length fun w' xs=>zX F w' (kr (opens n ts)) xs):=by
 obtain ⟨ka,kc,e,_,_,fM⟩:=zP h
 subst e
 have H:=fX fM;clear fM h
 go_enter Tryz.func66,Tryz.ntmps66
 go_wp2_with fail
 go_loopw [5,6] (fun o i wr=>∃ k:Nat,k<=ts.length/\i=.int .i64 k/\∃ a c xs,o=.slice a k c/\Own wr 130 9 (.slice a k c) k xs/\zX (fun i=>F i/\i<w.heap.size) wr (kr (opens n (ts.take k))) xs/\Below w.heap.size w wr/\(∀ g,(Value.slice a k c).ownBlock=some g->w.heap.size<=g)) (fun _ i _=>ts.length-(intOf i).toNat)
 case atStart=>exact ⟨0,Nat.zero_le _,rfl,_,_,[],rfl,Own.litAt #[] 0 _ (by simp) (by decide) rfl,by simp [opens,kr,zC],(fH _ _).alloc (fP _) _,w_ (fP _)⟩
 case round =>
  obtain ⟨k,hk,rfl,a,c,xs,rfl,ho,hr,hb,hf⟩:=hrel
  have HO:=fX ho;have HF:=fX hf;have HB:=fX hb;have HR:=fX hr
  clear ho hf hb hr
  by_cases fT:k<ts.length
  ·have mT:(k:Int)<(ts.length:Int):=by omega
   obtain ⟨b,o,u,d,e,_,f_,hd,hc,rQ⟩:=H.out k fT
   subst e
   rw [vx,Option.map_eq_some_iff] at hd
   obtain ⟨t,ht,rfl⟩:=hd
   obtain ⟨ua,uc,rfl⟩:=kJ rQ
   have q0:=(HB.out.cell (p:=⟨b,o+k,none⟩) f_).trans hc
   have HT:=fX (fW ht rQ);clear ht rQ hc
   go_wp2_with (at_builtin;refine zE rfl _ _ 127 rfl 130 (.agg #[.int .i64 0,str [],.int .i64 0,.slice none 0 0,.slice none 0 0,.slice none 0 0,.slice none 0 0,.int .i64 0,.int .i64 0]) 9 144 Tryz.underlying127 Tryz.infoBo rfl (by decide) (.slice a k c) k xs rfl ?c1 _ 1 [.int .i64 ((n:Int)+(k:Int)),str [],.int .i64 0,.slice none 0 0,.slice none 0 0,.slice ua t.args.length uc,.slice none 0 0,.int .i64 0,.int .i64 0] rfl ?c2 ?c3 ?c4 ?_)
   case c1=>exact HO.out.alloc _
   case c2=>exact zq.lit1 #[.int .i64 ((n:Int)+(k:Int)),str [],.int .i64 0,.slice none 0 0,.slice none 0 0,.slice ua t.args.length uc,.slice none 0 0,.int .i64 0,.int .i64 0] rfl (by simp [str,Value.oneCell']) _ (by simp)
   case c3=>unfold maxLen;omega
   case c4=>omega
   intro a' c' w7 fm fS fw
   have n8:Below w.heap.size w w7:=by
    have h1:=HB.out
    refine (h1.alloc h1.size _).trans (fS.toBelow (by rw [zK];have:=h1.size;omega) fun i hi e=>?_)
    have:=HF.out i e;omega
   have iU:∀ g,(Value.slice a' (k+1) c').ownBlock=some g->w.heap.size<=g:=by
    intro g h
    rcases fw g h with h | h
    ·exact HF.out g h
    ·have h2:=HB.out.size
     omega
   have sg:zX (fun i=>F i/\i<w.heap.size) w7 (kr (opens n (ts.take (k+1)))) (xs++[.int .i64 ((n:Int)+(k:Int)),str [],.int .i64 0,.slice none 0 0,.slice none 0 0,.slice ua t.args.length uc,.slice none 0 0,.int .i64 0,.int .i64 0]):=by
    rw [gI HT.out.1,vX,kr,kr,List.append_nil]
    refine zX.append ?_ ?_
    ·exact (Rep.keep fun b o hf ho=>⟨hf,by rw [n8.block b hf.2,<- HB.out.block b hf.2];exact ho⟩).2 _ _ HR.out
    ·rw [bf]
     refine zQ.2 ⟨_,_,rfl,zH.2 (by rw [Int.natCast_add]),zQ.2 ⟨_,_,rfl,zH.2 rfl,zQ.2 ⟨_,_,rfl,zH.2 rfl,zQ.2 ⟨_,_,rfl,zH.2 rfl,zQ.2 ⟨_,_,rfl,zH.2 rfl,zQ.2 ⟨_,_,rfl,(Rep.keep fun b o hf ho=>⟨⟨hf,zZ ho⟩,by rw [n8.block b (zZ ho)];exact ho⟩).1 _ _ HT.out.2,zQ.2 ⟨_,_,rfl,zH.2 rfl,zQ.2 ⟨_,_,rfl,zH.2 rfl,zQ.2 ⟨_,_,rfl,yQ.2 ⟨_,rfl⟩,zC.2 rfl⟩⟩⟩⟩⟩⟩⟩⟩⟩
   have HA:=fX (fW fm (fW sg (fW n8 iU)));clear fm sg n8 iU fS fw
   go_wp2_with fail
   go_roundw
   case rel=>exact ⟨k+1,by omega,by go_num,a',c',_,rfl,HA.out.1,HA.out.2.1,HA.out.2.2.1,HA.out.2.2.2⟩
   case measure=>simp [intOf];omega
  ·obtain rfl:k=ts.length:=by omega
   go_wp2_with fail
   go_ret
   have h0:=HR.out
   rw [List.take_length] at h0
   exact ⟨a,c,xs,rfl,HO.out,(Rep.keep fun b o hf ho=>⟨hf.1,ho⟩).2 _ _ h0,HB.out,HF.out⟩
def Wri (w:World) (ww:Nat) (k s:Int):Prop:=w.heap[ww]? = some (.cells #[.int .i64 k,.int .i64 s] 126 (0,0))
theorem Wri.cell {w:World} {ww:Nat} {k s:Int} (h:Wri w ww k s):w.cell? ⟨ww,0,none⟩=some (.int .i64 k)/\w.cell? ⟨ww,1,none⟩=some (.int .i64 s)/\(∀ o,w.frozen? ⟨ww,o,none⟩=false)/\ww<w.heap.size:=by
 unfold Wri at h
 exact ⟨by simp [World.cell?,h],by simp [World.cell?,h],fun o=>by simp [World.frozen?,h],zZ h⟩
theorem Wri.below {w w':World} {ww:Nat} {k s:Int} (h:Wri w ww k s) (hb:Below w.heap.size w w'):Wri w' ww k s:=by unfold Wri;rw [hb.block ww (zZ h)];exact h
structure WFr where
 v:Nat
 ss:List Bd
 yes:Bd
 no:Bd
 env:List Mn
def WFr.gf (f:WFr):Gf:=⟨f.yes,f.no,f.env⟩
def encF (f:WFr):List DV:=kR (.ask f.v f.ss f.yes f.no)++[.sl 130 9 f.env.length (kr f.env),.val (.int .i64 (0:Nat))]
def uu:List WFr->List DV
 | []=>[]
 | f::st=>uu st++encF f
theorem encF_length (f:WFr):(encF f).length=6:=by simp [encF,vK]
theorem wP:∀ st:List WFr,(uu st).length=st.length*6
 | []=>rfl
 | f::st=>by rw [uu,List.length_append,wP st,encF_length,List.length_cons];omega
set_option maxRecDepth 100000 in
theorem dx (ww:Nat) (s:Int) (nvs:Array Value) (s0:Bs) (v0:Int) (a1 a2:Option Addr) (n1 c1 n2 c2:Nat) (hn:nvs=#[str s0,.int .i64 v0,.slice a1 n1 c1,.slice a2 n2 c2]) (ev sv:Value) (n:Nat) (w:World) (h:Wri w ww (-1) s) (h0:0<=s) (h1:s<=1000000000) :
 Calls Tryz.prog 67 #[.pointer (some ⟨ww,0,none⟩),.agg nvs,ev,sv,.int .i64 (n:Nat)] w fun en w' =>
  en=.returned (.agg #[str [117],.int .i64 0,.slice none 0 0,.slice none 0 0])/\But (· = ww) w w'/\Wri w' ww (-1) (s+1):=by
 subst hn
 obtain ⟨W,hW⟩:=zzN ((w.alloc (.cells #[str s0,.int .i64 v0,.slice a1 n1 c1,.slice a2 n2 c2] 48)).alloc (.cells #[str [],.int .i64 0,.slice none 0 0,.slice none 0 0] 48))
 have fq:Below w.heap.size w W:=by rw [<- hW];exact ((fH _ _).alloc (fP _) _).alloc (by rw [zK];omega) _
 have Cx:=h.below fq
 obtain ⟨k0,k1,kf,klt⟩:=Cx.cell
 have Ip:=kf 1
 obtain ⟨W2,mV⟩:=zzN (W.setCell ⟨ww,1,none⟩ (.int .i64 (s+1)))
 have tI:Wri W2 ww (-1) (s+1):=by unfold Wri at *;rw [<- mV,zy Cx];rfl
 obtain ⟨m0,m1,mf,mlt⟩:=tI.cell
 have mf0:=mf 0
 have rY:z9 (w.heap.size+1) 0 (.slice none 0 0) (.slice none 0 0) W:=by
  have:=zG (w.alloc (.cells #[str s0,.int .i64 v0,.slice a1 n1 c1,.slice a2 n2 c2] 48)) (.cells #[str [],.int .i64 0,.slice none 0 0,.slice none 0 0] 48)
  rw [zK,hW] at this;exact this
 have hww:=h.cell.2.2.2
 obtain ⟨W3,mI⟩:=zzN (W2.setCell ⟨ww,0,none⟩ (.int .i64 (-1)))
 have sn:Wri W3 ww (-1) (s+1):=by unfold Wri at *;rw [<- mI,zy tI];rfl
 have lS:But (· = ww) W W3:=by rw [<- mI,<- mV];exact ((But.refl (· = ww) W).setCell (p:=⟨ww,1,none⟩) (.inl rfl) _).setCell (p:=⟨ww,0,none⟩) (.inl rfl) _
 have mD:z9 (w.heap.size+1) 0 (.slice none 0 0) (.slice none 0 0) W3:=rY.but lS (by show ¬ (w.heap.size+1=ww);omega)
 obtain ⟨r0,r1,r2,r3,rlt,rf⟩:=mD.cells
 have nJ:=rf 0;have nf:=rf 1;have rO:=rf 2;have tJ:=rf 3
 have HW:=fX (fW hW (fW mV (fW fq (fW mI (fW sn (fW lS mD))))));clear rY mD lS sn mI rf tI hW mV fq Cx h kf mf
 go_enter Tryz.func67,Tryz.ntmps67
 go_upto_region 1 with (fail)
 rw [HW.out.1]
 refine wp_loop_rounds 1 ?_
 rw [rounds_succ]
 go_upto_region 2 with (fail)
 rw [HW.out.2.1]
 go_upto_region 4 with (fail)
 rw [HW.out.2.2.2.1]
 go_wp2_with fail
 obtain ⟨hW,mV,fq,mI,sn,lS,mD⟩:=HW.out
 obtain ⟨W4,ri,mC,mY,mB,mE,_,oM⟩:=mD.store (.string ⟨#[117]⟩) (.int .i64 0) (.slice none 0 0) (.slice none 0 0)
 rw [<- ri]
 refine bodyPost_ret (v:=.agg #[str [117],.int .i64 0,.slice none 0 0,.slice none 0 0]) (by simp [results,Tryz.results67,go_sem,mC,mY,mB,mE,str]) rfl ?_
 refine ⟨rfl,?_,oM ww _ (by omega) sn⟩
 have fv:But (· = ww) w W3:=(But.ofBelow fq).trans lS
 have mO:w.heap.size<=w.heap.size+1:=by omega
 rw [ri]
 exact (((fv.setCell (p:=⟨w.heap.size+1,0,none⟩) (.inr mO) _).setCell (p:=⟨w.heap.size+1,1,none⟩) (.inr mO) _).setCell (p:=⟨w.heap.size+1,2,none⟩) (.inr mO) _).setCell (p:=⟨w.heap.size+1,3,none⟩) (.inr mO) _
def vS (F:Nat->Prop) (ww:Nat) (D:Int) (o:Option (Bd×Nat×Nat)) (w:World) (en:Ending) (w':World):Prop :=
 ∃ s v a1 n1 c1 a2 n2 c2,en=.returned (.agg #[str s,.int .i64 v,.slice a1 n1 c1,.slice a2 n2 c2])/\But (· = ww) w w'/\(o=none->∃ st,Wri w' ww (-1) st/\0<=st/\st<=D) /\
   ∀ x,o=some x->Wri w' ww (x.2.1:Nat) (20000-(x.2.2:Nat))/\zX (fun i=>F i\/w.heap.size<=i) w' (kR x.1) [str s,.int .i64 v,.slice a1 n1 c1,.slice a2 n2 c2]
def Fx (F:Nat->Prop) (w:World) (k:Nat):Nat->Prop:=fun i=>(F i/\i<w.heap.size)\/w.heap.size+k<=i
structure OBox (w:World) (s0:Bs) (v0:Int) (a1 a2 ta:Option Addr) (n1 c1 n2 c2 nt tc:Nat) (wr:World):Prop where
 x0:wr.cell? ⟨w.heap.size,0,none⟩=some (str s0)
 x1:wr.cell? ⟨w.heap.size,1,none⟩=some (.int .i64 v0)
 x2:wr.cell? ⟨w.heap.size,2,none⟩=some (.slice a1 n1 c1)
 x3:wr.cell? ⟨w.heap.size,3,none⟩=some (.slice a2 n2 c2)
 y0:wr.cell? ⟨w.heap.size+1,0,none⟩=some (.slice ta nt tc)
 res:z9 (w.heap.size+2) 0 (.slice none 0 0) (.slice none 0 0) wr
 bel:Below w.heap.size w wr
theorem OBox.below {w wr w':World} {s0:Bs} {v0:Int} {a1 a2 ta:Option Addr} {n1 c1 n2 c2 nt tc:Nat} (h:OBox w s0 v0 a1 a2 ta n1 c1 n2 c2 nt tc wr) (hb:Below (w.heap.size+3) wr w'):OBox w s0 v0 a1 a2 ta n1 c1 n2 c2 nt tc w':=by
 have hr:=h.res.cells.2.2.2.2.1
 have k:∀ (p:Addr),p.block<w.heap.size+3->w'.cell? p=wr.cell? p:=fun p hp=>World.cell?_of_block (w:=wr) (hb.block p.block hp)
 exact ⟨(k ⟨_,_,_⟩ (by show w.heap.size<_;omega)).trans h.x0,(k ⟨_,_,_⟩ (by show w.heap.size<_;omega)).trans h.x1,(k ⟨_,_,_⟩ (by show w.heap.size<_;omega)).trans h.x2,(k ⟨_,_,_⟩ (by show w.heap.size<_;omega)).trans h.x3,
  (k ⟨_,_,_⟩ (by show w.heap.size+1<_;omega)).trans h.y0,h.res.below hb (by omega),h.bel.trans (hb.mono (by omega))⟩
set_option maxRecDepth 100000 in
theorem open_any (F:Nat->Prop) (ww:Nat) (D:Int) (o:Option (Bd×Nat×Nat)) (t:Ty) (env:List Mn) (n:Nat) (s0:Bs) (v0:Int) (a1 a2:Option Addr) (n1 c1 n2 c2:Nat) (tv ev:Value) (w:World)
 (ht:Rep F w (kg t) tv) (he:Rep F w (.sl 130 9 env.length (kr env)) ev) (hl:env.length<=1000000) (ED:t.args.length<=15) (hn:n<=1000000) (hww:ww<w.heap.size)
 (C:∀ (a:Option Addr) (c g:Nat) (wX:World),Below w.heap.size w wX->w.heap.size+3<=wX.heap.size->Rep (Fx F w 3) wX (.sl 130 9 (env.length+t.args.length) (kr (env++opens n t.args))) (.slice a (env.length+t.args.length) c) ->
  Calls Tryz.prog 67 #[.pointer (some ⟨ww,0,none⟩),.agg #[str s0,.int .i64 v0,.slice a1 n1 c1,.slice a2 n2 c2],.slice a (env.length+t.args.length) c,.slice (some ⟨g,0,none⟩) 0 0,.int .i64 ((n:Int)+(t.args.length:Int))] wX (vS (Fx F w 3) ww D o wX)) :
 Calls Tryz.prog 102 #[.pointer (some ⟨ww,0,none⟩),.agg #[str s0,.int .i64 v0,.slice a1 n1 c1,.slice a2 n2 c2],.agg #[tv],ev,.int .i64 (n:Nat)] w (vS F ww D o w):=by
 obtain ⟨exs,Ci,aD⟩:=zq.ofRep he (vD env)
 obtain ⟨ea,ec,e⟩:=aD.slice
 subst e
 have rV:=ht
 rw [qy] at rV
 obtain ⟨ta,tc,e,_,_,tY⟩:=zP rV
 subst e
 obtain ⟨W,hW⟩:=zzN (((w.alloc (.cells #[str s0,.int .i64 v0,.slice a1 n1 c1,.slice a2 n2 c2] 48)).alloc (.cells #[.slice ta t.args.length tc] 43)).alloc (.cells #[str [],.int .i64 0,.slice none 0 0,.slice none 0 0] 48))
 have fq:Below w.heap.size w W:=by rw [<- hW];exact (((fH _ _).alloc (fP _) _).alloc (by rw [zK];omega) _).alloc (by rw [zK,zK];omega) _
 have r_:w.heap.size+3=W.heap.size:=by rw [<- hW];simp only [zK]
 have tS:OBox w s0 v0 a1 a2 ta n1 c1 n2 c2 t.args.length tc W:=by
  have b0:W.heap[w.heap.size]? = some (.cells #[str s0,.int .i64 v0,.slice a1 n1 c1,.slice a2 n2 c2] 48 (0,0)):=by rw [<- hW];exact zY (zY (zG _ _))
  have b1:W.heap[w.heap.size+1]? = some (.cells #[.slice ta t.args.length tc] 43 (0,0)):=by
   have:=zG (w.alloc (.cells #[str s0,.int .i64 v0,.slice a1 n1 c1,.slice a2 n2 c2] 48)) (.cells #[.slice ta t.args.length tc] 43)
   rw [zK] at this
   rw [<- hW];exact zY this
  have b2:W.heap[w.heap.size+2]? = some (.cells #[str [],.int .i64 0,.slice none 0 0,.slice none 0 0] 48 (0,0)):=by
   have:=zG ((w.alloc (.cells #[str s0,.int .i64 v0,.slice a1 n1 c1,.slice a2 n2 c2] 48)).alloc (.cells #[.slice ta t.args.length tc] 43)) (.cells #[str [],.int .i64 0,.slice none 0 0,.slice none 0 0] 48)
   simp only [zK] at this
   rw [<- hW];exact this
  obtain ⟨x0,x1,x2,x3⟩:=kH b0
  exact ⟨x0,x1,x2,x3,by simp [World.cell?,b1],b2,fq⟩
 have hsW:zq 9 (.slice ea env.length ec) env.length exs W:=aD.below fq
 have HP:=fX (fW Ci (fW tY (fW hW (fW tS (fW hsW (fW C r_))))));clear Ci aD tY hW tS hsW C fq r_ ht rV he
 go_enter Tryz.func102,Tryz.ntmps102
 go_upto_region 1 with (fail)
 rw [HP.out.2.2.1]
 have BX:=HP.out.2.2.2.1
 have y0:=BX.y0
 have r_:=HP.out.2.2.2.2.2.2
 clear BX
 go_wp2_with (at_builtin;refine zE rfl _ _ 127 rfl 130 (.agg #[.int .i64 0,str [],.int .i64 0,.slice none 0 0,.slice none 0 0,.slice none 0 0,.slice none 0 0,.int .i64 0,.int .i64 0]) 9 144 Tryz.underlying127 Tryz.infoBo rfl (by decide) (.slice (some ⟨W.heap.size,0,none⟩) 0 0) 0 [] rfl ?d1 _ env.length exs rfl ?d2 ?d3 ?d4 ?_)
 case d1=>exact Own.litAt #[] 0 _ rfl (by decide) rfl
 case d2=>exact HP.out.2.2.2.2.1.alloc _
 case d3=>unfold maxLen;omega
 case d4=>omega
 intro a6 c6 w6 Du fO DA
 have si:Below W.heap.size W w6:=((fH _ _).alloc (fP _) _).trans (fO.toBelow (by rw [zK];omega) fun i hi e=>by simp [Value.ownBlock] at e;omega)
 have EX:∀ g,(Value.slice a6 env.length c6).ownBlock=some g->W.heap.size<=g:=fun g hg=>by
  rcases DA g hg with h | h
  ·simp [Value.ownBlock] at h;omega
  ·omega
 have m_:zX (fun i=>F i/\i<w.heap.size) w6 (kr (env++opens n (t.args.take 0))) exs:=by
  rw [List.take_zero,opens,List.append_nil]
  exact (Rep.keep fun b o hf hh=>⟨hf,by rw [(HP.out.2.2.2.1.bel.trans (si.mono (by omega))).block b hf.2];exact hh⟩).2 _ _ (zX.low HP.out.1)
 have H6:=fX (fW Du (fW si (fW EX m_)));clear Du si EX m_ fO DA
 have y0:=(H6.out.2.1.cell (fG W _ y0)).trans y0
 go_wp2_with fail
 go_loopw [11,12] (fun o i wr=>∃ k:Nat,k<=t.args.length/\i=.int .i64 k/\∃ a c xs,o=.slice a (env.length+k:Nat) c/\Own wr 130 9 (.slice a (env.length+k) c) (env.length+k) xs/\zX (fun i=>F i/\i<w.heap.size) wr (kr (env++opens n (t.args.take k))) xs/\Below W.heap.size W wr/\(∀ g,(Value.slice a (env.length+k) c).ownBlock=some g->W.heap.size<=g)) (fun _ i _=>t.args.length-(intOf i).toNat)
 case atStart=>exact ⟨0,Nat.zero_le _,rfl,a6,c6,exs,rfl,H6.out.1,H6.out.2.2.2,H6.out.2.1,H6.out.2.2.1⟩
 case round =>
  rename_i wr
  obtain ⟨k,hk,rfl,a,c,xs,rfl,ho,hr,hb,hf⟩:=hrel
  have BX:=HP.out.2.2.2.1.below (hb.mono (by omega))
  have z0:=BX.y0
  have HO:=fX ho;have HF:=fX hf;have HB:=fX hb;have HR:=fX hr;have HX:=fX BX
  clear ho hf hb hr y0 BX
  by_cases fT:k<t.args.length
  ·have mT:(k:Int)<(t.args.length:Int):=by omega
   obtain ⟨b,o1,u,d,e,_,f_,hd,hc,rQ⟩:=HP.out.2.1 k fT
   subst e
   rw [vx,Option.map_eq_some_iff] at hd
   obtain ⟨t1,ht1,rfl⟩:=hd
   obtain ⟨ua,uc,rfl⟩:=kJ rQ
   have q0:=(HX.out.bel.cell (p:=⟨b,o1+k,none⟩) f_).trans hc
   have HT:=fX (fW ht1 rQ);clear ht1 rQ hc
   go_wp2_with (at_builtin;refine zE rfl _ _ 127 rfl 130 (.agg #[.int .i64 0,str [],.int .i64 0,.slice none 0 0,.slice none 0 0,.slice none 0 0,.slice none 0 0,.int .i64 0,.int .i64 0]) 9 144 Tryz.underlying127 Tryz.infoBo rfl (by decide) (.slice a (env.length+k) c) (env.length+k) xs rfl ?e1 _ 1 [.int .i64 ((n:Int)+(k:Int)),str [],.int .i64 0,.slice none 0 0,.slice none 0 0,.slice ua t1.args.length uc,.slice none 0 0,.int .i64 0,.int .i64 0] rfl ?e2 ?e3 ?e4 ?_)
   case e1=>exact HO.out.alloc _
   case e2=>exact zq.lit1 #[.int .i64 ((n:Int)+(k:Int)),str [],.int .i64 0,.slice none 0 0,.slice none 0 0,.slice ua t1.args.length uc,.slice none 0 0,.int .i64 0,.int .i64 0] rfl (by simp [str,Value.oneCell']) _ (by simp)
   case e3=>unfold maxLen;omega
   case e4=>omega
   intro a' c' w7 fm fS fw
   have hzb:=HB.out.size
   have n8:Below W.heap.size W w7:=by
    refine (HB.out.alloc hzb _).trans (fS.toBelow (by rw [zK];omega) fun i hi e=>?_)
    have:=HF.out i e;omega
   have iU:∀ g,(Value.slice a' (env.length+(k+1)) c').ownBlock=some g->W.heap.size<=g:=by
    intro g h
    rcases fw g h with h | h
    ·exact HF.out g h
    ·omega
   have oL:Below w.heap.size w w7:=HP.out.2.2.2.1.bel.trans (n8.mono (by omega))
   have sg:zX (fun i=>F i/\i<w.heap.size) w7 (kr (env++opens n (t.args.take (k+1)))) (xs++[.int .i64 ((n:Int)+(k:Int)),str [],.int .i64 0,.slice none 0 0,.slice none 0 0,.slice ua t1.args.length uc,.slice none 0 0,.int .i64 0,.int .i64 0]):=by
    rw [gI HT.out.1,<- List.append_assoc,vX,kr,kr,List.append_nil]
    refine zX.append ?_ ?_
    ·exact (Rep.keep fun b o hf ho=>⟨hf,by rw [oL.block b hf.2,<- HX.out.bel.block b hf.2];exact ho⟩).2 _ _ HR.out
    ·rw [bf]
     refine zQ.2 ⟨_,_,rfl,zH.2 (by rw [Int.natCast_add]),zQ.2 ⟨_,_,rfl,zH.2 rfl,zQ.2 ⟨_,_,rfl,zH.2 rfl,zQ.2 ⟨_,_,rfl,zH.2 rfl,zQ.2 ⟨_,_,rfl,zH.2 rfl,zQ.2 ⟨_,_,rfl,(Rep.keep fun b o hf ho=>⟨⟨hf,zZ ho⟩,by rw [oL.block b (zZ ho)];exact ho⟩).1 _ _ HT.out.2,zQ.2 ⟨_,_,rfl,zH.2 rfl,zQ.2 ⟨_,_,rfl,zH.2 rfl,zQ.2 ⟨_,_,rfl,yQ.2 ⟨_,rfl⟩,zC.2 rfl⟩⟩⟩⟩⟩⟩⟩⟩⟩
   have HA:=fX (fW fm (fW sg (fW n8 iU)));clear fm sg n8 iU fS fw oL
   go_wp2_with fail
   go_roundw
   case rel=>exact ⟨k+1,by omega,by go_num,a',c',_,rfl,HA.out.1,HA.out.2.1,HA.out.2.2.1,HA.out.2.2.2⟩
   case measure=>simp [intOf];omega
  ·obtain rfl:k=t.args.length:=by omega
   have z1:=HX.out.x0;have z2:=HX.out.x1;have z3:=HX.out.x2;have z4:=HX.out.x3
   have z5:(wr.alloc (.cells #[] 146)).cell? ⟨w.heap.size+1,0,none⟩=some (.slice ta t.args.length tc):=zJ z0
   have hzb:=HB.out.size
   have tm:Below w.heap.size w (wr.alloc (.cells #[] 146)):=HX.out.bel.alloc HX.out.bel.size _
   have I3:Rep (Fx F w 3) (wr.alloc (.cells #[] 146)) (.sl 130 9 (env.length+t.args.length) (kr (env++opens n t.args))) (.slice a (env.length+t.args.length) c):=by
    have h0:=HR.out
    rw [List.take_length] at h0
    exact (HO.out.alloc _).rep (fun g hg=>.inr (by have:=HF.out g hg;omega)) ((Rep.keep fun b o hf ho=>⟨.inl hf,zY ho⟩).2 _ _ h0)
   have C2:=fX (HP.out.2.2.2.2.2.1 a c wr.heap.size _ tm (by rw [zK];omega) I3)
   have resX:z9 (w.heap.size+2) 0 (.slice none 0 0) (.slice none 0 0) (wr.alloc (.cells #[] 146)):=zY HX.out.res
   have HY:=fX (fW tm resX);clear tm I3 resX
   go_wp2_with fail
   (with_reducible refine C2.out.mono ?_)
   rintro en w9 ⟨s9,v9,b1,m1,d1,b2,m2,d2,rfl,mj,oD,oQ⟩
   have aQ:z9 (w.heap.size+2) 0 (.slice none 0 0) (.slice none 0 0) w9:=HY.out.2.but mj (by show ¬ (w.heap.size+2=ww);omega)
   obtain ⟨r0,r1,r2,r3,rlt,rf⟩:=aQ.cells
   have nJ:=rf 0;have nf:=rf 1;have rO:=rf 2;have tJ:=rf 3
   have H9:=fX (fW mj (fW oD (fW oQ aQ)));clear mj oD oQ aQ rf
   go_wp2_with fail
   obtain ⟨W4,ri,mC,mY,mB,mE,_,oM⟩:=H9.out.2.2.2.store (str s9) (.int .i64 v9) (.slice b1 m1 d1) (.slice b2 m2 d2)
   rw [<- ri]
   refine bodyPost_ret (v:=.agg #[str s9,.int .i64 v9,.slice b1 m1 d1,.slice b2 m2 d2]) (by simp [results,Tryz.results102,go_sem,mC,mY,mB,mE]) rfl ?_
   have fv:But (· = ww) w w9:=(But.ofBelow HY.out.1).trans H9.out.1
   have mO:w.heap.size<=w.heap.size+2:=by omega
   refine ⟨s9,v9,b1,m1,d1,b2,m2,d2,rfl,?_,fun ho=>?_,fun x hx=>?_⟩
   ·rw [ri]
    exact (((fv.setCell (p:=⟨w.heap.size+2,0,none⟩) (.inr mO) _).setCell (p:=⟨w.heap.size+2,1,none⟩) (.inr mO) _).setCell (p:=⟨w.heap.size+2,2,none⟩) (.inr mO) _).setCell (p:=⟨w.heap.size+2,3,none⟩) (.inr mO) _
   ·obtain ⟨st,h1,h2⟩:=H9.out.2.1 ho
    exact ⟨st,oM ww _ (by omega) h1,h2⟩
   ·obtain ⟨h1,h2⟩:=H9.out.2.2.1 x hx
    refine ⟨oM ww _ (by omega) h1,(Rep.keep fun b ob hf hh=>?_).2 _ _ h2⟩
    rcases hf with (h | h) | h
    ·exact ⟨.inl h.1,oM b _ (by have:=h.2;omega) hh⟩
    ·exact ⟨.inr (by omega),oM b _ (by omega) hh⟩
    ·rw [zK] at h
     exact ⟨.inr (by omega),oM b _ (by omega) hh⟩
structure fZ (F:Nat->Prop) (ww d k l n:Nat) (H:List Ty) (b:Bd) (env:List Mn) (st:List WFr) (s0:Bs) (v0:Int) (a1 a2:Option Addr) (n1 c1 n2 c2:Nat) (ev sv:Value) (w:World):Prop where
 wri:Wri w ww (k:Nat) (20000-(l:Nat))
 hF:∀ i,F i->i≠ww
 ld:l<=d
 d20:d<=20000
 k200:k<=200
 fit:jz H b env (st.map WFr.gf)
 hn:H.length=n
 el:env.length+16*d<=1000000
 nl:n+16*d<=1000000
 stl:st.length+d<=40000
 ok:yH (1000000-16*d) env
 okg:okGs (1000000-16*d) (st.map WFr.gf)
 wf:wfB b/\xj env/\∀ f∈st.map WFr.gf,wfG f
 rb:zX F w (kR b) [str s0,.int .i64 v0,.slice a1 n1 c1,.slice a2 n2 c2]
 re:Rep F w (.sl 130 9 env.length (kr env)) ev
 rs:Rep F w (.sl 146 6 st.length (uu st)) sv
def x9 (d:Nat):Prop:=∀ (F:Nat->Prop) (ww k l n:Nat) (H:List Ty) (b:Bd) (env:List Mn) (st:List WFr) (s0:Bs) (v0:Int) (a1 a2:Option Addr) (n1 c1 n2 c2:Nat) (ev sv:Value) (w:World),
 fZ F ww d k l n H b env st s0 v0 a1 a2 n1 c1 n2 c2 ev sv w ->
 Calls Tryz.prog 67 #[.pointer (some ⟨ww,0,none⟩),.agg #[str s0,.int .i64 v0,.slice a1 n1 c1,.slice a2 n2 c2],ev,sv,.int .i64 (n:Nat)] w
  (vS F ww (20001+20*d) (evN d k l b env n (st.map WFr.gf)) w)
theorem open_live (d:Nat) (ih:x9 d) (F:Nat->Prop) (ww k l n:Nat) (H:List Ty) (t:Ty) (b:Bd) (env:List Mn) (s0:Bs) (v0:Int) (a1 a2:Option Addr) (n1 c1 n2 c2:Nat) (tv ev:Value) (w:World)
 (hw:Wri w ww (k:Nat) (20000-(l:Nat))) (hF:∀ i,F i->i≠ww) (oE:l<=d) (hd:d<=20000) (hk:k<=200) (n7:jz (H++t.args) b (env++opens H.length t.args) []) (hn:H.length=n) (iY:env.length+16*(d+1)<=1000000) (iE:n+16*(d+1)<=1000000) (iK:zV t<=15)
 (fa:yH (1000000-16*(d+1)) env) (ht:Rep F w (kg t) tv) (hb:zX F w (kR b) [str s0,.int .i64 v0,.slice a1 n1 c1,.slice a2 n2 c2]) (he:Rep F w (.sl 130 9 env.length (kr env)) ev) (io:wfB b/\xj env) :
 Calls Tryz.prog 102 #[.pointer (some ⟨ww,0,none⟩),.agg #[str s0,.int .i64 v0,.slice a1 n1 c1,.slice a2 n2 c2],.agg #[tv],ev,.int .i64 (n:Nat)] w (vS F ww (20001+20*d) (evN d k l b (env++opens n t.args) (n+t.args.length) []) w):=by
 have lA:=zi iK
 have hww:=hw.cell.2.2.2
 refine open_any F ww _ _ t env n s0 v0 a1 a2 n1 c1 n2 c2 tv ev w ht he (by omega) lA.2 (by omega) hww ?_
 intro a c g wX tm hzX I3
 have hlen:(env++opens n t.args).length=env.length+t.args.length:=by rw [List.length_append,kT]
 rw [<- Int.natCast_add]
 refine ih (Fx F w 3) ww k l (n+t.args.length) (H++t.args) b (env++opens n t.args) [] s0 v0 a1 a2 n1 c1 n2 c2 _ _ wX
  { wri:=hw.below tm,hF:=?_,ld:=oE,d20:=hd,k200:=hk,fit:=by rw [<- hn];exact n7,hn:=by rw [List.length_append,hn],el:=by rw [hlen];omega,nl:=by omega,stl:=by simp;omega,
    ok:=jM _ _ (k_ (by omega) _ fa) (jP _ _ lA.1 (by omega)),okg:=trivial,wf:=⟨io.1,jF _ _ io.2 (jW _ _),by simp⟩,rb:=?_,re:=by rw [hlen];exact I3,rs:=zp.2 ⟨by simp [uu],_,_,rfl,fP _,fun h=>by simp at h,.inl rfl⟩ }
 ·intro i hi e
  rcases hi with h | h
  ·exact hF i h.1 e
  ·omega
 ·exact (Rep.keep fun b o hf hh=>⟨.inl ⟨hf,zZ hh⟩,by rw [tm.block b (zZ hh)];exact hh⟩).2 _ _ hb
theorem open_dead (F:Nat->Prop) (ww n:Nat) (s:Int) (t:Ty) (env:List Mn) (s0:Bs) (v0:Int) (a1 a2:Option Addr) (n1 c1 n2 c2:Nat) (tv ev:Value) (w:World)
 (hw:Wri w ww (-1) s) (h0:0<=s) (h1:s<=1000000000) (iY:env.length<=1000000) (iE:n<=1000000) (iK:zV t<=15) (ht:Rep F w (kg t) tv) (he:Rep F w (.sl 130 9 env.length (kr env)) ev) :
 Calls Tryz.prog 102 #[.pointer (some ⟨ww,0,none⟩),.agg #[str s0,.int .i64 v0,.slice a1 n1 c1,.slice a2 n2 c2],.agg #[tv],ev,.int .i64 (n:Nat)] w (vS F ww (s+1) none w):=by
 refine open_any F ww _ _ t env n s0 v0 a1 a2 n1 c1 n2 c2 tv ev w ht he (by omega) (zi iK).2 (by omega) hw.cell.2.2.2 ?_
 intro a c g wX tm hzX I3
 rw [<- Int.natCast_add]
 refine (dx ww s _ s0 v0 a1 a2 n1 c1 n2 c2 rfl _ _ _ wX (hw.below tm) h0 h1).mono ?_
 rintro en w' ⟨rfl,hb,rM⟩
 exact ⟨_,_,_,_,_,_,_,_,rfl,hb,fun _=>⟨_,rM,by omega,Int.le_refl _⟩,fun x h=>by simp at h⟩
theorem evN_left (d k l:Nat) (b:Bd) (env:List Mn) (n:Nat) (st:List Gf) (r:Bd) (k' l':Nat) (h:evN d k l b env n st=some (r,k',l')):k'<=k/\l'<=l:=by
 rw [evN_eq] at h
 cases hq:Go.Proofs.YtjggkhmojjaomaaGreatDoor.ev d l b env n st with
 | none=>rw [hq] at h;simp [wD] at h
 | some x =>
   obtain ⟨o,l1⟩:=x
   rw [hq] at h
   simp only [wD] at h
   split at h
   ·simp at h
    obtain ⟨_,rfl,rfl⟩:=h
    exact ⟨Nat.sub_le _ _,ev_left _ _ _ _ _ _ _ _ hq⟩
   ·simp at h
theorem bw (f:Nat->Nat->Bd->List Mn->Nat->List Gf->Option (Bd×Nat×Nat)) (env:List Mn) (n:Nat) (t:Ty) (s:Bd):∀ (ts:List Ty) (ss:List Bd) (k l:Nat),ts.length=ss.length ->
 kE f env n k l (ts++[t]) (ss++[s])=(kE f env n k l ts ss).bind fun x=>(f x.2.1 x.2.2 s (env++opens n t.args) (n+t.args.length) []).bind fun y=>some (x.1++[y.1],y.2.1,y.2.2)
 | [],[],k,l,_=>by
   simp only [List.nil_append,kE,Option.bind_eq_bind,Option.bind_some]
 | [],s'::ss,k,l,h=>by simp at h
 | t'::ts,[],k,l,h=>by simp at h
 | t'::ts,s'::ss,k,l,h=>by
   simp only [List.cons_append,kE,Option.bind_eq_bind]
   cases h1:f k l s' (env++opens n t'.args) (n+t'.args.length) [] with
   | none=>rfl
   | some x =>
     simp only [Option.bind_some]
     rw [bw f env n t s ts ss x.2.1 x.2.2 (by simpa using h)]
     cases h2:kE f env n x.2.1 x.2.2 ts ss with
     | none=>rfl
     | some y =>
       simp only [Option.bind_some]
       cases h3:f y.2.1 y.2.2 s (env++opens n t.args) (n+t.args.length) [] with
       | none=>rfl
       | some z=>rfl
theorem bx {f:Nat->Nat->Bd->List Mn->Nat->List Gf->Option (Bd×Nat×Nat)} {env:List Mn} {n k l j:Nat} {ts:List Ty} {ss:List Bd} {t:Ty} {s:Bd} (ht:ts[j]? = some t) (hs:ss[j]? = some s) :
 kE f env n k l (ts.take (j+1)) (ss.take (j+1))=(kE f env n k l (ts.take j) (ss.take j)).bind fun x=>(f x.2.1 x.2.2 s (env++opens n t.args) (n+t.args.length) []).bind fun y=>some (x.1++[y.1],y.2.1,y.2.2):=by
 have h1:=(List.getElem?_eq_some_iff.1 ht).1
 have h2:=(List.getElem?_eq_some_iff.1 hs).1
 rw [List.take_add_one,List.take_add_one,ht,hs]
 exact bw f env n t s _ _ k l (by rw [List.length_take,List.length_take];omega)
theorem wW {f:Nat->Nat->Bd->List Mn->Nat->List Gf->Option (Bd×Nat×Nat)} {env:List Mn} {n:Nat}:∀ (j:Nat) (ts:List Ty) (ss:List Bd) (k l:Nat),kE f env n k l (ts.take j) (ss.take j)=none->kE f env n k l ts ss=none
 | 0,ts,ss,k,l,h=>by simp [kE] at h
 | j+1,[],ss,k,l,h=>by simp [kE] at h
 | j+1,t::ts,[],k,l,h=>by simp [kE] at h
 | j+1,t::ts,s::ss,k,l,h=>by
   simp only [List.take_succ_cons,kE,Option.bind_eq_bind] at h ⊢
   cases h1:f k l s (env++opens n t.args) (n+t.args.length) [] with
   | none=>rfl
   | some x =>
     rw [h1] at h
     simp only [Option.bind_some] at h ⊢
     cases h2:kE f env n x.2.1 x.2.2 (ts.take j) (ss.take j) with
     | none=>rw [wW j ts ss x.2.1 x.2.2 h2];rfl
     | some y=>rw [h2] at h;simp at h
def xF (d k l n o:Nat) (t:Ty) (ss:List Bd) (y no:Bd) (env:List Mn) (st:List Gf):Option (Bd×Nat×Nat) :=
 (kE (evN d) env n k l t.args ss).bind fun x=>(evN d x.2.1 x.2.2 y env n st).bind fun z=>(evN d z.2.1 z.2.2 no env n st).bind fun u=>some (.ask o x.1 z.1 u.1,u.2.1,u.2.2)
theorem evN_op {d k l v n o:Nat} {ss:List Bd} {y no:Bd} {t:Ty} {env:List Mn} {st:List Gf} (h:env[v]? = some (.op o t)) :
 evN (d+1) (k+1) (l+1) (.ask v ss y no) env n st=xF d k l n o t ss y no env st:=by rw [evN.eq_def];simp only [h];rfl
theorem evN_bd {d k l v n:Nat} {ss:List Bd} {y no b':Bd} {t:Ty} {env e:List Mn} {st:List Gf} (h:env[v]? = some (.bd t b' e)) :
 evN (d+1) (k+1) (l+1) (.ask v ss y no) env n st=evN d (k+1) l b' (e++owns env t.args ss) n (⟨y,no,env⟩::st):=by rw [evN.eq_def];simp only [h]
theorem evN_u {d k l n:Nat} {env:List Mn} {st:List Gf}:evN (d+1) (k+1) (l+1) (.leaf 117) env n st=some (.leaf 117,k,l):=by rw [evN.eq_def];simp
theorem evN_end {d k l n:Nat} {c:UInt8} {env:List Mn}:evN (d+1) (k+1) (l+1) (.leaf c) env n []=some (.leaf c,k,l):=by rw [evN.eq_def];simp
theorem evN_back {d k l n:Nat} {c:UInt8} (h:c≠117) {env:List Mn} {f:Gf} {st:List Gf}:evN (d+1) (k+1) (l+1) (.leaf c) env n (f::st)=evN d (k+1) l (if c=116 then f.yes else f.no) f.env n st:=by rw [evN.eq_def];simp only [if_neg h]
theorem evN_zl {d k n:Nat} {b:Bd} {env:List Mn} {st:List Gf}:evN d k 0 b env n st=none:=by cases d <;> rw [evN.eq_def]
theorem evN_zk {d l n:Nat} {b:Bd} {env:List Mn} {st:List Gf}:evN d 0 l b env n st=none:=by
 cases d with
 | zero=>rw [evN.eq_def]
 | succ d=>cases l <;> rw [evN.eq_def]
theorem bound_at {F:Nat->Prop} {w:World} {env:List Mn} {ev:Value} (h:Rep F w (.sl 130 9 env.length (kr env)) ev) {v:Nat} {m:Mn} (hc:env[v]? = some m) :
 ∃ b o cap us,ev=.slice (some ⟨b,o,none⟩) env.length cap/\F b/\b<w.heap.size/\(∀ (j:Nat) (u:Value),us[j]? = some u->w.cell? ⟨b,o+v*9+j,none⟩=some u)/\zX F w (bf m) us:=by
 have hv:=(List.getElem?_eq_some_iff.1 hc).1
 rw [zp] at h
 obtain ⟨hl,a,cap,rfl,hn,hz,h⟩:=h
 rcases h with h0 | ⟨b,o,cs,fr,rfl,hb,hcs,hr⟩
 ·omega
 have oU:kr env=kr (env.take v)++(bf m++kr (env.drop (v+1))):=by
  have e:env=env.take v++m::env.drop (v+1):=by
   have:env[v]=m:=(List.getElem?_eq_some_iff.1 hc).2
   rw [<- this,List.getElem_cons_drop,List.take_append_drop]
  conv=>lhs;rw [e]
  rw [vX,kr]
 rw [oU] at hr
 have h2:=hr.split.2
 rw [bh,List.length_take,Nat.min_eq_left (by omega)] at h2
 have h3:=h2.split.1
 rw [pH] at h3
 refine ⟨b,o,cap,_,rfl,hb,zZ hcs,fun j u h=>?_,h3⟩
 rw [List.getElem?_take] at h
 split at h
 ·rename_i hj
  rw [List.getElem?_drop,List.getElem?_take,if_pos (by omega),List.getElem?_drop] at h
  simp only [World.cell?,hcs]
  simpa [Nat.add_assoc] using h
 ·simp at h
theorem bound_op {F:Nat->Prop} {w:World} {env:List Mn} {ev:Value} (h:Rep F w (.sl 130 9 env.length (kr env)) ev) {v o:Nat} {t:Ty} (hc:env[v]? = some (.op o t)) :
 ∃ b p cap ta tc i,ev=.slice (some ⟨b,p,none⟩) env.length cap/\F b/\b<w.heap.size/\w.cell? ⟨b,p+v*9,none⟩=some (.int .i64 (o:Nat))/\w.cell? ⟨b,p+v*9+1,none⟩=some (str [])/\w.cell? ⟨b,p+v*9+2,none⟩=some (.int .i64 0) /\
   w.cell? ⟨b,p+v*9+3,none⟩=some (.slice none 0 0)/\w.cell? ⟨b,p+v*9+4,none⟩=some (.slice none 0 0)/\w.cell? ⟨b,p+v*9+5,none⟩=some (.slice ta t.args.length tc)/\w.cell? ⟨b,p+v*9+6,none⟩=some (.slice none 0 0) /\
   w.cell? ⟨b,p+v*9+7,none⟩=some (.int .i64 0)/\w.cell? ⟨b,p+v*9+8,none⟩=some (.int .i64 i)/\Rep F w (kg t) (.slice ta t.args.length tc):=by
 obtain ⟨b,p,cap,us,rfl,hb,hw,get,hr⟩:=bound_at h hc
 simp only [bf,zQ,zC,zH,yQ] at hr
 obtain ⟨_,_,rfl,rfl,_,_,rfl,rfl,_,_,rfl,rfl,_,_,rfl,rfl,_,_,rfl,rfl,x1,_,rfl,q1,_,_,rfl,rfl,_,_,rfl,rfl,x3,_,rfl,⟨i3,rfl⟩,rfl⟩:=hr
 obtain ⟨sa,sc,rfl⟩:=kJ q1
 exact ⟨b,p,cap,sa,sc,i3,rfl,hb,hw,get 0 _ rfl,get 1 _ rfl,get 2 _ rfl,get 3 _ rfl,get 4 _ rfl,get 5 _ rfl,get 6 _ rfl,get 7 _ rfl,get 8 _ rfl,q1⟩
theorem bound_bd {F:Nat->Prop} {w:World} {env:List Mn} {ev:Value} (h:Rep F w (.sl 130 9 env.length (kr env)) ev) {v:Nat} {t:Ty} {b':Bd} {e':List Mn} (hc:env[v]? = some (.bd t b' e')) :
 ∃ b p cap ta tc s v1 a1 m1 c1 a2 m2 c2 ha hcap i,ev=.slice (some ⟨b,p,none⟩) env.length cap/\F b/\b<w.heap.size/\w.cell? ⟨b,p+v*9,none⟩=some (.int .i64 (-1))/\w.cell? ⟨b,p+v*9+1,none⟩=some (str s)/\w.cell? ⟨b,p+v*9+2,none⟩=some (.int .i64 v1) /\
   w.cell? ⟨b,p+v*9+3,none⟩=some (.slice a1 m1 c1)/\w.cell? ⟨b,p+v*9+4,none⟩=some (.slice a2 m2 c2)/\w.cell? ⟨b,p+v*9+5,none⟩=some (.slice ta t.args.length tc)/\w.cell? ⟨b,p+v*9+6,none⟩=some (.slice ha e'.length hcap) /\
   w.cell? ⟨b,p+v*9+7,none⟩=some (.int .i64 0)/\w.cell? ⟨b,p+v*9+8,none⟩=some (.int .i64 i)/\Rep F w (kg t) (.slice ta t.args.length tc)/\zX F w (kR b') [str s,.int .i64 v1,.slice a1 m1 c1,.slice a2 m2 c2]/\Rep F w (.sl 130 9 e'.length (kr e')) (.slice ha e'.length hcap):=by
 obtain ⟨b,p,cap,us,rfl,hb,hw,get,hr⟩:=bound_at h hc
 rw [bf] at hr
 obtain ⟨x0,us1,rfl,h0,h1⟩:=zQ.1 (show zX F w (.val (.int .i64 (-1))::(kR b'++[kg t,.sl 130 9 e'.length (kr e'),.val (.int .i64 (0:Nat)),.any])) us from hr)
 rw [zH] at h0
 subst h0
 obtain ⟨h2,h3⟩:=h1.split
 rw [vK] at h2 h3
 obtain ⟨v1,m2,c2,m3,c3,e4,_,_⟩:=vM h2
 simp only [zQ,zC,zH,yQ] at h3
 obtain ⟨y1,_,e5,q1,y2,_,rfl,q2,_,_,rfl,rfl,y4,_,rfl,⟨i4,rfl⟩,rfl⟩:=h3
 obtain ⟨sa,sc,rfl⟩:=kJ q1
 obtain ⟨_,ha,hcap,rfl,_⟩:=zp.1 q2
 rw [e4] at h2
 have eu:us1=[str (j_ b'),.int .i64 v1,.slice m2 (qA b').length c2,.slice m3 (jC b').length c3]++[.slice sa t.args.length sc,.slice ha e'.length hcap,.int .i64 (0:Nat),.int .i64 i4]:=by
  rw [<- List.take_append_drop 4 us1,e4,e5]
 subst eu
 exact ⟨b,p,cap,sa,sc,_,_,_,_,_,_,_,_,_,_,i4,rfl,hb,hw,get 0 _ rfl,get 1 _ rfl,get 2 _ rfl,get 3 _ rfl,get 4 _ rfl,get 5 _ rfl,get 6 _ rfl,get 7 _ rfl,get 8 _ rfl,q1,h2,q2⟩
theorem xO {F:Nat->Prop} {ww:Nat} {D:Int} {o:Option (Bd×Nat×Nat)} {w W:World} {s:Bs} {v:Int} {a1 a2:Option Addr} {n1 c1 n2 c2:Nat}
 (hb:But (· = ww) w W) (hww:ww<w.heap.size) (hr:z9 (w.heap.size+1) 0 (.slice none 0 0) (.slice none 0 0) W)
 (hn:o=none->∃ st,Wri W ww (-1) st/\0<=st/\st<=D)
 (hy:∀ x,o=some x->Wri W ww (x.2.1:Nat) (20000-(x.2.2:Nat))/\zX (fun i=>(F i/\i<w.heap.size)\/w.heap.size+2<=i) W (kR x.1) [str s,.int .i64 v,.slice a1 n1 c1,.slice a2 n2 c2]) :
 ∃ W4,W4=((((W.setCell ⟨w.heap.size+1,0,none⟩ (str s)).setCell ⟨w.heap.size+1,1,none⟩ (.int .i64 v)).setCell ⟨w.heap.size+1,2,none⟩ (.slice a1 n1 c1)).setCell ⟨w.heap.size+1,3,none⟩ (.slice a2 n2 c2)) /\
   W4.cell? ⟨w.heap.size+1,0,none⟩=some (str s)/\W4.cell? ⟨w.heap.size+1,1,none⟩=some (.int .i64 v)/\W4.cell? ⟨w.heap.size+1,2,none⟩=some (.slice a1 n1 c1)/\W4.cell? ⟨w.heap.size+1,3,none⟩=some (.slice a2 n2 c2) /\
   vS F ww D o w (.returned (.agg #[str s,.int .i64 v,.slice a1 n1 c1,.slice a2 n2 c2])) W4:=by
 obtain ⟨W4,ri,mC,mY,mB,mE,_,hk⟩:=hr.store (str s) (.int .i64 v) (.slice a1 n1 c1) (.slice a2 n2 c2)
 have mO:w.heap.size<=w.heap.size+1:=by omega
 refine ⟨W4,ri,mC,mY,mB,mE,s,v,a1,n1,c1,a2,n2,c2,rfl,?_,fun ho=>?_,fun x hx=>?_⟩
 ·rw [ri]
  exact (((hb.setCell (p:=⟨w.heap.size+1,0,none⟩) (.inr mO) _).setCell (p:=⟨w.heap.size+1,1,none⟩) (.inr mO) _).setCell (p:=⟨w.heap.size+1,2,none⟩) (.inr mO) _).setCell (p:=⟨w.heap.size+1,3,none⟩) (.inr mO) _
 ·obtain ⟨st,h1,h2⟩:=hn ho
  exact ⟨st,hk ww _ (by omega) h1,h2⟩
 ·obtain ⟨h1,h2⟩:=hy x hx
  refine ⟨hk ww _ (by omega) h1,(Rep.keep fun b ob hf hh=>?_).2 _ _ h2⟩
  rcases hf with h | h
  ·exact ⟨.inl h.1,hk b _ (by have:=h.2;omega) hh⟩
  ·exact ⟨.inr (by omega),hk b _ (by omega) hh⟩
theorem top_rep {F:Nat->Prop} {w:World} {f:WFr} {st:List WFr} {sv:Value} (h:Rep F w (.sl 146 6 (st.length+1) (uu (f::st))) sv) :
 ∃ b o cap n_ nz rS nO ea ec,sv=.slice (some ⟨b,o,none⟩) (st.length+1) cap/\F b/\b<w.heap.size/\st.length+1<=cap/\w.cell? ⟨b,o+st.length*6,none⟩=some (str [])/\w.cell? ⟨b,o+st.length*6+1,none⟩=some (.int .i64 (f.v:Nat)) /\
   w.cell? ⟨b,o+st.length*6+2,none⟩=some (.slice n_ f.ss.length nz)/\w.cell? ⟨b,o+st.length*6+3,none⟩=some (.slice rS 2 nO)/\w.cell? ⟨b,o+st.length*6+4,none⟩=some (.slice ea f.env.length ec)/\w.cell? ⟨b,o+st.length*6+5,none⟩=some (.int .i64 0) /\
   Rep F w (.sl 48 4 2 (zh [f.yes,f.no])) (.slice rS 2 nO)/\Rep F w (.sl 130 9 f.env.length (kr f.env)) (.slice ea f.env.length ec) /\
   Rep F w (.sl 146 6 st.length (uu st)) (.slice (some ⟨b,o,none⟩) st.length cap):=by
 rw [zp] at h
 obtain ⟨hl,a,cap,rfl,hn,hz,h⟩:=h
 rcases h with h0 | ⟨b,o,cs,fr,rfl,hb,hcs,hr⟩
 ·omega
 rw [uu] at hr
 obtain ⟨h1,h2⟩:=hr.split
 rw [wP] at h1 h2
 rw [List.take_take,Nat.min_eq_left (by omega)] at h1
 have get:∀ (j:Nat) (u:Value),(List.drop (st.length*6) (List.take ((st.length+1)*6) (List.drop o cs.toList)))[j]? = some u->w.cell? ⟨b,o+st.length*6+j,none⟩=some u:=by
  intro j u hu
  rw [List.getElem?_drop,List.getElem?_take] at hu
  split at hu
  ·rw [List.getElem?_drop] at hu
   simp only [World.cell?,hcs]
   simpa [Nat.add_assoc] using hu
  ·simp at hu
 generalize List.drop (st.length*6) (List.take ((st.length+1)*6) (List.drop o cs.toList))=us at h2 get
 rw [encF,yE] at h2
 simp only [List.cons_append,List.nil_append,zQ,zC,zH] at h2
 obtain ⟨_,_,rfl,rfl,_,_,rfl,rfl,x2,_,rfl,q2,x3,_,rfl,q3,x4,_,rfl,q4,_,_,rfl,rfl,rfl⟩:=h2
 obtain ⟨_,n_,nz,e1,_⟩:=zp.1 q2
 obtain ⟨_,rS,nO,e2,_⟩:=zp.1 q3
 obtain ⟨_,ea,ec,e3,_⟩:=zp.1 q4
 subst e1;subst e2;subst e3
 exact ⟨b,o,cap,n_,nz,rS,nO,ea,ec,rfl,hb,zZ hcs,hn,get 0 _ rfl,get 1 _ rfl,get 2 _ rfl,get 3 _ rfl,get 4 _ rfl,get 5 _ rfl,q3,q4,zp.2 ⟨wP st,_,cap,rfl,by omega,fun h=>by simp at h,.inr ⟨b,o,cs,fr,rfl,hb,hcs,h1⟩⟩⟩
end Go.Proofs.YtjggkhmojjaomaaGreatDoor

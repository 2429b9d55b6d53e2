/- Walks. -/
import Derived.Laws.IdiomStrings
import Derived.Test.YtdhaafoiokkbnabGreatDoorQ10
set_option linter.unusedVariables false
set_option linter.unusedSimpArgs false
set_option maxHeartbeats 4000000
set_option maxRecDepth 100000
open Go.Proofs.Tryz renaming func42->Ul,func71->Uk,ntmps42->TO,ntmps71->TN,prog->No,underlying131->Pm
open Go.Value renaming oneCell'->OR,ownBlock->OG,slice->Ox
open Go.World renaming cell?->Li
open Int renaming natCast_add->PQ
open List renaming append_assoc->Pi,append_nil->OY,cons_append->ON,drop->Q_,getElem?_cons_zero->OH,getElem?_drop->PJ,getElem?_eq_some_iff->OB,getElem?_take->PI,length_append->Ov,length_cons->OD,length_singleton->St,length_take->Pw,mem_append->O_,mem_cons->OX,nil_append->OW,not_mem_nil->PR,take->Uz,take_add_one->Pc,take_append_drop->Pj,take_length->OT,take_zero->QS
open Nat renaming add_assoc->Q6,div_le_self->Ta,min_eq_left->Sd,zero_le->OS
open Option renaming bind_eq_bind->Ow,bind_some->Lx,map_eq_some_iff->OA
open Option.some renaming injEq->Oz
namespace Go.Proofs.YtdhaafoiokkbnabGreatDoor
open Go.RowKit
theorem nN {W:World} {g r:Nat} (hr:r<10) (h:W.cell? ⟨g,0,none⟩=some (.int .u8 (48+(r:Int)))) :
 (convert 22 9 (.slice (some ⟨g,0,none⟩) 1 1)).run No W=.ok (str [xF r]) W:=by
 refine run_convert_bytes_back (P:=No) W 22 9 5 ⟨g,0,none⟩ 1 [xF r] Tryz.underlying22 Tryz.underlying5 Tryz.underlying9 (fun j hj=>?_);have hj0:j=0:=by simpa using hj
 subst hj0;have e:(xF r).toNat=48+r:=by rw [xF,UInt8.toNat_ofNat'];exact Nat.mod_eq_of_lt (by omega)
 show W.cell? ((⟨g,0,none⟩:Addr).add 0)=some (.int .u8 ((xF r).toNat:Int));rw [e];have e2:((48+r:Nat):Int)=48+(r:Int):=by omega
 rw [e2];exact h
theorem conv_new {r:Nat} (hr:r<10) (w:World):(convert 22 9 (.slice (some ⟨w.heap.size,0,none⟩) 1 1)).run No (w.alloc (.cells #[.int .u8 (48+(r:Int))] 5))=.ok (str [xF r]) (w.alloc (.cells #[.int .u8 (48+(r:Int))] 5)) :=
 nN hr (by simp)
theorem conv_newd {r:Nat} (hr:r<10) (w:World):(convert 22 9 (.slice (some ⟨w.heap.size,0,none⟩) 1 1)).run No (w.alloc (.cells #[.int .u8 (48+(r:Int))] 5)).drew=.ok (str [xF r]) (w.alloc (.cells #[.int .u8 (48+(r:Int))] 5)).drew :=
 nN hr (show (w.alloc (.cells #[.int .u8 (48+(r:Int))] 5)).cell? _=_ by simp)
theorem conv_kept {r:Nat} (hr:r<10) {w W:World} (hb:Below (w.alloc (.cells #[.int .u8 (48+(r:Int))] 5)).drew.heap.size (w.alloc (.cells #[.int .u8 (48+(r:Int))] 5)).drew W) :
 (convert 22 9 (.slice (some ⟨w.heap.size,0,none⟩) 1 1)).run No W=.ok (str [xF r]) W :=
 nN hr ((hb.cell (show w.heap.size<(w.alloc (.cells #[.int .u8 (48+(r:Int))] 5)).heap.size by simp)).trans (show (w.alloc (.cells #[.int .u8 (48+(r:Int))] 5)).cell? _=_ by simp))
theorem l6Dec_small (n:Nat) (hn:n<10) (w:World):Calls No 71 #[.int .i64 (n:Nat)] w fun en w'=>en=.returned (str (dec n))/\Below w.heap.size w w':=by
 have hn':(n:Int)<10:=by omega
 have e:=n7 (vQ hn);have hcv:=conv_new hn w;go_enter Uk,TN;go_wp2_with fail
 go_ret;exact ⟨by rw [e.out];rfl,(rZ _ _).alloc (n9 _) _⟩
theorem size_alloc_le (w:World) (o:Obj):w.heap.size<=(w.alloc o).drew.heap.size:=by
 show w.heap.size<=(w.alloc o).heap.size;rw [zK];omega
theorem l6Dec_step (n:Nat) (hn:¬ n<10) (hl:n<=16777216) (ih:∀ w,Calls No 71 #[.int .i64 ((n / 10:Nat):Int)] w fun en w'=>en=.returned (str (dec (n / 10)))/\Below w.heap.size w w') (w:World) :
 Calls No 71 #[.int .i64 (n:Nat)] w fun en w'=>en=.returned (str (dec n))/\Below w.heap.size w w':=by
 have IH:=n7 ih;clear ih;have hn':¬ (n:Int)<10:=by omega
 have e:=n7 (vc hn);have q1:(n:Int).tdiv 10=((n / 10:Nat):Int):=mH n 10;have q2:(n:Int).tmod 10=((n % 10:Nat):Int):=gK n 10;have hR:n % 10<10:=Nat.mod_lt _ (by omega);have hQ:n / 10<=16777216:=rJ (Ta _ _) hl;have hD:(dec (n / 10)).length<=8:=uY 7 (n / 10) (by omega);generalize n % 10=R at *;generalize n / 10=Q at *;have q3:IntKind.i64.wrap (Q:Int)=(Q:Int):=p_ Q (by omega);have q4:IntKind.i64.wrap (48+(R:Int))=48+(R:Int):=by rw [show (48:Int)+R=((48+R:Nat):Int) from by omega];exact p_ _ (by omega)
 have q5:IntKind.u8.wrap (48+(R:Int))=48+(R:Int):=by simp [IntKind.wrap,IntKind.bits,IntKind.signed];omega
 have HR:=n7 hR;have JP:=fun w0=>kI (P:=No) (dec Q) [xF R] (by simp;omega) w0;have hcv:=conv_newd hR w;have hcv0:=fun w0=>conv_new hR w0;go_enter Uk,TN;go_wp2_with fail
 go_region_with (first
  | (go_at_call 71;refine (IH.out (w.alloc (.cells #[.int .u8 (48+(R:Int))] 5)).drew).mono ?_;rintro en w2 ⟨rfl,rY⟩;have hcv2:=conv_kept HR.out rY;have hbb:=Below.trans (((rZ w.heap.size w).alloc (n9 _) (.cells #[.int .u8 (48+(R:Int))] 5)).drew) (rY.mono (size_alloc_le w _)))
  | (go_at_call 71;refine (IH.out w.drew).mono ?_;rintro en w2 ⟨rfl,rY⟩;have hbb:=Below.trans ((rZ w.heap.size w).drew) rY))
 all_goals
  go_wp2_with fail
  go_ret;refine ⟨by rw [e.out];rfl,?_⟩
  first
   | exact hbb
   | exact hbb.alloc hbb.size _
theorem l6Dec_any (n:Nat):n<=16777216->∀ w,Calls No 71 #[.int .i64 (n:Nat)] w fun en w'=>en=.returned (str (dec n))/\Below w.heap.size w w':=by
 induction n using Nat.strongRecOn with
 | _ n ih =>
   intro hl w;by_cases h:n<10
   ·exact l6Dec_small n h w
   ·exact l6Dec_step n h hl (ih (n / 10) (Nat.div_lt_self (by omega) (by omega)) (rJ (Ta _ _) hl)) w
def fX (b:Bd):Prop:=∀ (F:Nat->Prop) (w:World) (s v k y:Value),zW F w (kx b) [s,v,k,y] ->
 Calls No 42 #[.agg #[s,v,k,y]] w fun en w'=>en=.returned (str (kC b))/\Below w.heap.size w w'
abbrev KeepY (g:Nat) (ky:Value) (ii yo:Nat) (s0 v0 p0 q0 s1 v1 p1 q1:Value) (w':World):Prop :=
 w'.cell? ⟨g,3,none⟩=some ky/\w'.cell? ⟨ii,yo,none⟩=some s0/\w'.cell? ⟨ii,yo+1,none⟩=some v0/\w'.cell? ⟨ii,yo+2,none⟩=some p0/\w'.cell? ⟨ii,yo+3,none⟩=some q0 /\
  w'.cell? ⟨ii,yo+4,none⟩=some s1/\w'.cell? ⟨ii,yo+5,none⟩=some v1/\w'.cell? ⟨ii,yo+6,none⟩=some p1/\w'.cell? ⟨ii,yo+7,none⟩=some q1
theorem KeepY.below {g:Nat} {ky:Value} {ii yo:Nat} {s0 v0 p0 q0 s1 v1 p1 q1:Value} {w w':World} (h:KeepY g ky ii yo s0 v0 p0 q0 s1 v1 p1 q1 w) (hb:Below w.heap.size w w'):KeepY g ky ii yo s0 v0 p0 q0 s1 v1 p1 q1 w':=by
 have key:∀ (a:Addr) (v:Value),w.cell? a=some v->w'.cell? a=some v:=fun a v ha=>by
  rw [hb.cell (n_ w _ ha)];exact ha
 obtain ⟨h1,h2,h3,h4,h5,h6,h7,h8,h9⟩:=h;exact ⟨key _ _ h1,key _ _ h2,key _ _ h3,key _ _ h4,key _ _ h5,key _ _ h6,key _ _ h7,key _ _ h8,key _ _ h9⟩
theorem l3Text_step (b:Bd) (hl:zU b<=1000000) (th:lvB b) (ih:∀ b',zU b'<zU b->lvB b'->fX b'):fX b:=by
 intro F w s v k y hv;have e1:=encN_lv hv;subst e1;obtain ⟨_,a2,c2,a3,c3,e,hk,hy⟩:=vh hv;simp only [List.cons.injEq,and_true] at e;obtain ⟨rfl,_,rfl,rfl⟩:=e;cases b with
 | leaf c =>
   clear hv hk hy ih;show Calls No 42 #[.agg #[str [c],.int .i64 (0:Nat),.slice a2 0 c2,.slice a3 0 c3]] w _;go_enter Ul,TO;go_wp2_with fail
   go_ret;exact ⟨rfl,(rZ _ _).alloc (n9 _) _⟩
 | ask lv ss yb nb =>
   have IH:=n7 ih;clear ih;have hsz:=uo (.ask lv ss yb nb);rw [mp,qh] at hsz;change zU (.ask lv ss yb nb)=1+(zE ss+zE [yb,nb]) at hsz;have Gh:zE [yb,nb]=zU yb+zU nb:=by simp [zE]
   rw [lvB] at th;obtain ⟨lv1,lv2,lv3,lv4⟩:=th;have t1:=y8 ss lv2;have t2:=vL yb lv3;have t3:=vL nb lv4;have t4:(dec lv).length<=5:=uY 4 lv (by omega);obtain ⟨_,_,ek,atk⟩:=cQ.of hk;simp only [Value.slice.injEq,true_and] at ek;rw [<- ek.1] at atk;clear ek;obtain ⟨_,_,ek,aty⟩:=cQ.of hy;simp only [Value.slice.injEq,true_and] at ek;rw [<- ek.1] at aty;clear ek;change cQ F w ss a2 at atk;change cQ F w [yb,nb] a3 at aty;obtain ⟨ii,yo,s0,v0,p2,m2,d2,p3,m3,d3,yt,ey,hyb0,Lp,u0,u1,u2,u3,Hp⟩:=aty 0 (by simp);obtain ⟨yb1,yo1,s1,v1,p4,m4,d4,p5,m5,d5,nt,J1,hyb1,Ae,z0,z1,z2,z3,Dx⟩:=aty 1 (by simp);rw [ey] at J1;simp only [Oz,Addr.mk.injEq,and_true] at J1;obtain ⟨rfl,rfl⟩:=J1;simp only [OH,Oz] at Lp;simp only [List.getElem?_cons_succ,OH,Oz] at Ae;subst Lp;subst Ae;simp only [Nat.zero_mul,Nat.add_zero] at u0 u1 u2 u3;simp only [Nat.one_mul,Q6,Nat.reduceAdd] at z0 z1 z2 z3;have nss:ss.length<=16777216:=by have:=qO ss;omega
   have J6:=n7 hsz;have Oa:=n7 Gh;have ATK:=n7 atk;have LV:=n7 lv2;have LV3:=n7 lv3;have LV4:=n7 lv4;have lvl:lv<=16777216:=by omega
   have Mz:KeepY w.heap.size (.slice a3 2 c3) ii yo (str s0) (.int .i64 v0) (.slice p2 m2 d2) (.slice p3 m3 d3) (str s1) (.int .i64 v1) (.slice p4 m4 d4) (.slice p5 m5 d5) (w.alloc (.cells #[str [],.int .i64 lv,.slice a2 ss.length c2,.slice a3 2 c3] 47)) :=
    ⟨by simp,zV u0,zV u1,zV u2,zV u3,zV z0,zV z1,zV z2,zV z3⟩
   have K5:=n7 Mz;have J8:=n7 Hp;have HRN:=n7 Dx;subst ey;clear hv hk hy atk aty hsz Gh lv2 lv3 lv4 u0 u1 u2 u3 z0 z1 z2 z3 Hp Dx Mz;show Calls No 42 #[.agg #[str [],.int .i64 lv,.slice a2 ss.length c2,.slice (some ⟨ii,yo,none⟩) 2 c3]] w _;have Nu:=fun w0=>kI (P:=No) [40] (dec lv) (by simp;omega) w0;go_enter Ul,TO;go_wp2_with fail
   refine (l6Dec_any lv lvl _).mono ?_;rintro en w1 ⟨rfl,rW⟩;have aB:Below w.heap.size w w1:=Below.trans ((rZ w.heap.size w).alloc (n9 _) (.cells #[str [],.int .i64 lv,.slice a2 ss.length c2,.slice (some ⟨ii,yo,none⟩) 2 c3] 47)) (rW.mono (by simp));have Aa:w1.cell? ⟨w.heap.size,2,none⟩=some (.slice a2 ss.length c2):=(rW.cell (by simp)).trans (by simp);have Oj:=n7 (K5.out.below rW);go_wp2_with fail
   clear Nu
   go_loopw [3,4] (fun o i wr=>∃ k:Nat,k<=ss.length/\i=.int .i64 k/\o=str ([40]++dec lv++kz (ss.take k))/\Below w.heap.size w wr/\wr.cell? ⟨w.heap.size,2,none⟩=some (.slice a2 ss.length c2)/\KeepY w.heap.size (.slice (some ⟨ii,yo,none⟩) 2 c3) ii yo (str s0) (.int .i64 v0) (.slice p2 m2 d2) (.slice p3 m3 d3) (str s1) (.int .i64 v1) (.slice p4 m4 d4) (.slice p5 m5 d5) wr) (fun _ i _=>ss.length-(intOf i).toNat)
   case atStart=>exact ⟨0,OS _,rfl,by simp [kz],aB,Aa,Oj.out⟩
   case round =>
    clear Aa Oj K5 aB;obtain ⟨k,hk,rfl,rfl,hb,Aa,Mz⟩:=hrel;have K5:=n7 Mz;clear Mz;have hlen:([40]++dec lv++kz (ss.take k)).length<=16777216:=by
     have h1:=fc ss k;have h2:=J6.out;simp only [Ov,OD,List.length_nil];omega
    by_cases rH:k<ss.length
    ·obtain ⟨bb,o,s',v',b2,n2,e2,b3,n3,e3,t,eb,hbb,ht,u0,u1,u2,u3,hr⟩:=ATK.out k rH;subst eb;have q0:=(hb.cell hbb).trans u0;have q1:=(hb.cell hbb).trans u1;have q2:=(hb.cell hbb).trans u2;have q3:=(hb.cell hbb).trans u3;have iF:=zW.below (F':=fun _=>True) hb (fun _ _=>trivial) hr;have tJ:=xU ht;have iQ:=jR ss (k+1);have oC:=J6.out;have aW:=vL t (fo _ LV.out k t ht);have C:=n7 (IH.out t (by omega) (fo _ LV.out k t ht) _ wr _ _ _ _ iF);have HT:=n7 (textBs_take ht);have ht16:(kC t).length<=16777216:=by omega
     have sS:(k:Int)<(ss.length:Int):=by omega
     generalize hO:[40]++dec lv++kz (ss.take k)=O at *;have HO:=n7 hO;have AJ:=fun w0=>kI (P:=No) O [32] (by simp;omega) w0;have AI:=fun w0=>kI (P:=No) (O++[32]) (kC t) (by simp;omega) w0;clear hO tJ iQ oC aW ht u0 u1 u2 u3 hr iF;go_wp2_with fail
     refine C.out.mono ?_;rintro en w2 ⟨rfl,rY⟩;have rE:=zzT hb rY;have hx2':w2.cell? ⟨w.heap.size,2,none⟩=some (.slice (some ⟨bb,o,none⟩) ss.length c2):=(rY.cell (n_ _ ⟨w.heap.size,2,none⟩ Aa)).trans Aa;have HKY2:=n7 (K5.out.below rY);go_wp2_with fail
     go_roundw
     case rel=>exact ⟨k+1,by omega,by go_num,by rw [HT.out,<- HO.out];simp [str],rE,hx2',HKY2.out⟩
     case measure=>simp [intOf];omega
    ·obtain rfl:k=ss.length:=by omega
     rw [OT] at hlen ⊢;have AG:¬ ((ss.length:Int)<(ss.length:Int)):=by omega
     have HE:Hid (kC (.ask lv ss yb nb)=((((([40]++dec lv++kz ss)++[32])++kC yb)++[32])++kC nb)++[41]):=by show kC _=_;rw [kC]
     generalize hO:[40]++dec lv++kz ss=O at *;clear hO;obtain ⟨An,q0,q1,q2,q3,q4,q5,q6,q7⟩:=K5.out;have LL:=(zW.below (F':=fun _=>True) hb (fun _ _=>trivial) J8.out).drew;have LT:=zW.below (F':=fun _=>True) hb (fun _ _=>trivial) HRN.out;have oC:=J6.out;have aW:=Oa.out;have y16:(kC yb).length<=16777216:=by omega
     have n16:(kC nb).length<=16777216:=by omega
     have pp:=ze yb;have pq:=ze nb;have CY:=n7 (IH.out yb (by omega) LV3.out _ wr.drew _ _ _ _ LL);have CN:=fun W F' h=>IH.out nb (by omega) LV4.out F' W (str s1) (.int .i64 v1) (.slice p4 m4 d4) (.slice p5 m5 d5) h;have CN':=n7 CN;clear CN;have RN:=n7 LT;have e16:(O++[32]).length=O.length+1:=by simp
     obtain ⟨O1,h1⟩:=zzM (O++[32]);obtain ⟨O2,h2⟩:=zzM (O1++kC yb);obtain ⟨O3,h3⟩:=zzM (O2++[32]);obtain ⟨O4,h4⟩:=zzM (O3++kC nb);obtain ⟨O5,h5⟩:=zzM (O4++[41]);have l1:O1.length<=16777217:=by rw [h1];simp;omega
     have l2:O2.length<=33554433:=by rw [h2];simp;omega
     have l3:O3.length<=33554434:=by rw [h3];simp;omega
     have l4:O4.length<=50331650:=by rw [h4];simp;omega
     have AJ:=fun w0=>kI (P:=No) O [32] (by simp;omega) w0;have AI:=fun w0=>kI (P:=No) O1 (kC yb) (by omega) w0;have BP:=fun w0=>kI (P:=No) O2 [32] (by simp;omega) w0;have BO:=fun w0=>kI (P:=No) O3 (kC nb) (by omega) w0;have Nt:=fun w0=>kI (P:=No) O4 [41] (by simp;omega) w0;have HE5:Hid (O5=kC (.ask lv ss yb nb)):=by show O5=_;rw [HE.out,h5,h4,h3,h2,h1]
     rw [<- h1] at AJ;rw [<- h2] at AI;rw [<- h3] at BP;rw [<- h4] at BO;rw [<- h5] at Nt;clear h1 h2 h3 h4 h5 HE e16 l1 l2 l3 l4;have hKd:KeepY w.heap.size (.slice (some ⟨ii,yo,none⟩) 2 c3) ii yo (str s0) (.int .i64 v0) (.slice p2 m2 d2) (.slice p3 m3 d3) (str s1) (.int .i64 v1) (.slice p4 m4 d4) (.slice p5 m5 d5) wr.drew:=K5.out;clear oC aW pp pq LL LT t1 t2 t3 t4;go_wp2_with fail
     go_region_held3 (fun w'=>w'.cell? ⟨w.heap.size,3,none⟩=some (.slice (some ⟨ii,yo,none⟩) 2 c3)/\w'.cell? ⟨ii,yo,none⟩=some (str s0)/\w'.cell? ⟨ii,yo+1,none⟩=some (.int .i64 v0)/\w'.cell? ⟨ii,yo+2,none⟩=some (.slice p2 m2 d2)/\w'.cell? ⟨ii,yo+3,none⟩=some (.slice p3 m3 d3)/\w'.cell? ⟨ii,yo+4,none⟩=some (str s1)/\w'.cell? ⟨ii,yo+5,none⟩=some (.int .i64 v1)/\w'.cell? ⟨ii,yo+6,none⟩=some (.slice p4 m4 d4)/\w'.cell? ⟨ii,yo+7,none⟩=some (.slice p5 m5 d5))
      (first
       | with_reducible exact hKd
       | with_reducible exact Ga
       | with_reducible exact hK4)
      (first
       | (go_at_call 42;refine (CN'.out _ _ rn3).mono ?_;rintro en w4 ⟨rfl,rq⟩;have hK4:=Ga.below rq)
       | (go_at_call 42;refine CY.out.mono ?_;rintro en w3 ⟨rfl,rE⟩;have Ga:=hKd.below rE;have rn3:=zW.below (F':=fun _=>True) rE (fun _ _=>trivial) RN.out.drew))
     go_wp2_with fail
     go_ret;exact ⟨by rw [<- HE5.out];rfl,hb.trans ((((rZ _ wr).drew).trans (zzT rE rq)).mono hb.size)⟩
theorem l3Text_any (n:Nat):∀ b,zU b<=n->n<=1000000->lvB b->fX b:=by
 induction n with
 | zero=>intro b h _;have:=ze b;omega
 | succ n ih=>exact fun b h hn th=>l3Text_step b (by omega) th (fun b' h' i5=>ih b' (by omega) (by omega) i5)
mutual
def dx:Mn->List DV
 | .op o t=>[.val (.int .i64 (o:Nat)),.val (str []),.val (.int .i64 0),.val (.slice none 0 0),.val (.slice none 0 0),k9 t,.val (.slice none 0 0),.val (.int .i64 0),.any]
 | .bd t b env=>[.val (.int .i64 (-1))]++(kx b++[k9 t,.sl 134 9 env.length (qJ env),.val (.int .i64 (0:Nat)),.any])
def qJ:List Mn->List DV
 | []=>[]
 | x::xs=>dx x++qJ xs
end
theorem gx (x:Mn):(dx x).length=9:=by cases x <;> simp [dx,vS]
theorem dy:∀ xs:List Mn,(qJ xs).length=xs.length*9
 | []=>by simp [qJ]
 | x::xs=>by rw [qJ,Ov,gx,dy xs];simp;omega
theorem vu:∀ (xs ys:List Mn),qJ (xs++ys)=qJ xs++qJ ys
 | [],ys=>by simp [qJ]
 | x::xs,ys=>by simp [qJ,vu xs ys]
theorem vw {F:Nat->Prop} {w:World}:∀ (xs:List Mn) (us:List Value),zW F w (qJ xs) us->∀ u∈us,u.oneCell'=true
 | [],us,h,u,hu=>by rw [qJ,zC] at h;subst h;simp at hu
 | x::xs,us,h,u,hu=>by
   rw [qJ] at h;obtain ⟨h1,h2⟩:=h.split;rw [gx] at h1 h2;rw [<- Pj 9 us] at hu;rcases O_.1 hu with hu | hu
   ·cases x with
    | op o t =>
      simp only [dx,zQ,zC,zH,xK] at h1;obtain ⟨_,_,e,rfl,_,_,rfl,rfl,_,_,rfl,rfl,_,_,rfl,rfl,_,_,rfl,rfl,x1,_,rfl,q1,_,_,rfl,rfl,_,_,rfl,rfl,x3,_,rfl,⟨i3,rfl⟩,rfl⟩:=h1;obtain ⟨sa,sc,rfl⟩:=kP q1;rw [e] at hu;simp only [OX,PR,or_false] at hu;rcases hu with rfl | rfl | rfl | rfl | rfl | rfl | rfl | rfl | rfl
      all_goals first | rfl | assumption
    | bd t b env =>
      rw [dx] at h1;obtain ⟨k1,k2⟩:=h1.split;obtain ⟨k3,k4⟩:=k2.split;rw [<- Pj 1 (us.take 9)] at hu;rcases O_.1 hu with hu | hu
      ·simp only [St,zQ,zC,zH] at k1;obtain ⟨_,_,e,rfl,rfl⟩:=k1;rw [e] at hu;simp at hu;subst hu;rfl
      ·rw [vS] at k3 k4;simp only [St] at k3 k4;rw [<- Pj 4 (Q_ 1 (us.take 9))] at hu;rcases O_.1 hu with hu | hu
       ·exact oneCell_encN k3 u hu
       ·simp only [zQ,zC,xK,zH] at k4;obtain ⟨x0,_,e,q1,x1,_,rfl,q2,_,_,rfl,rfl,x3,_,rfl,⟨i3,rfl⟩,rfl⟩:=k4;rw [e] at hu;obtain ⟨sa,sc,rfl⟩:=kP q1;rw [zh] at q2;obtain ⟨_,a,c,rfl,_⟩:=q2;simp only [OX,PR,or_false] at hu;rcases hu with rfl | rfl | rfl | rfl
        all_goals first | rfl | assumption
   ·exact vw xs _ h2 u hu
def HandWPost (F:Nat->Prop) (hand:List Mn) (own:List Mn) (w:World) (en:Ending) (w':World):Prop :=
 ∃ a c,en=.returned (.slice a (hand.length+own.length) c)/\Below w.heap.size w w'/\Rep (fun i=>F i\/w.heap.size<=i) w' (.sl 134 9 (hand.length+own.length) (qJ (hand++own))) (.slice a (hand.length+own.length) c)
theorem cv (F:Nat->Prop) (hand env:List Mn) (ss:List Bd) (t:Ty) (hv kv tv ev:Value) (w:World) (hh:Rep F w (.sl 134 9 hand.length (qJ hand)) hv) (hk:Rep F w (.sl 47 4 ss.length (zi ss)) kv)
 (ht:Rep F w (k9 t) tv) (he:Rep F w (.sl 134 9 env.length (qJ env)) ev) (hl:hand.length<=10000000) (hs:ss.length=t.args.length) (hs16:ss.length<=16) :
 Calls No 92 #[hv,kv,.agg #[tv],ev,.int .i64 (0:Nat)] w (HandWPost F hand (owns env t.args ss) w):=by
 obtain ⟨xs1,Ap,g1⟩:=zu.ofRep hh (vw _);obtain ⟨a1,c1,e1⟩:=g1.slice;subst e1;obtain ⟨ka,kc,e,Kz⟩:=cQ.of hk;subst e;have aN:=ht;rw [jQ] at aN;obtain ⟨ta,tc,e,_,_,lK⟩:=zP aN;subst e;obtain ⟨ea,ec,e⟩:∃ a c,ev=.slice a env.length c:=by have h:=he;rw [zh] at h;obtain ⟨_,a,c,e,_⟩:=h;exact ⟨a,c,e⟩
 subst e;have H:=n7 (n8 Ap (n8 g1 (n8 Kz (n8 lK (n8 he hs)))));clear Ap g1 Kz lK he hs hh hk ht aN;have Ad:(owns env t.args ss).length=ss.length:=(wh _ _ H.out.2.2.2.2.2).trans H.out.2.2.2.2.2.symm;have HOL:=n7 Ad;clear Ad;go_enter Tryz.func92,Tryz.ntmps92;go_wp2_with (at_builtin;refine zM rfl _ _ 131 rfl 134 (.agg #[.int .i64 0,str [],.int .i64 0,.slice none 0 0,.slice none 0 0,.slice none 0 0,.slice none 0 0,.int .i64 0,.int .i64 0]) 9 144 Pm Tryz.infoBo rfl (by decide) (.slice (some ⟨w.heap.size+1,0,none⟩) 0 0) 0 [] rfl ?c1 _ hand.length xs1 rfl ?c2 ?c3 ?c4 ?_)
 case c1=>exact Own.litAt #[] 0 _ (by simp) (by decide) rfl
 case c2=>exact (H.out.2.1.alloc _).alloc _
 case c3=>unfold maxLen;omega
 case c4=>omega
 intro ax cx wx hox iT hgx;obtain ⟨oV,hfx⟩:=vj (w:=w.alloc (.cells #[.slice ta t.args.length tc] 42)) ((rZ _ _).alloc (n9 _) _) (gF (by simp)) iT (fun g h=>by have:=hgx g h;simpa only [zK] using this);have aB:Below w.heap.size w (w.alloc (.cells #[.slice ta t.args.length tc] 42)):=(rZ _ _).alloc (n9 _) _;have Nb:Below w.heap.size w wx:=aB.trans (oV.mono (by rw [zK];omega));have hcx:wx.cell? ⟨w.heap.size,0,none⟩=some (.slice ta t.args.length tc):=by rw [oV.cell (p:=⟨w.heap.size,0,none⟩) (by rw [zK];simp)];simp
 have MQ:∀ g,(Ox ax hand.length cx).ownBlock=some g->w.heap.size+1<=g:=fun g hg=>by have:=hfx g hg;rwa [zK] at this
 have HX:=n7 (n8 hox (n8 Nb (n8 hcx MQ)));clear hox iT hgx oV hfx aB Nb hcx MQ;go_wp2_with fail
 go_loopw [12,11] (fun i o wr=>∃ (k:Nat) (a':Option Addr) (c':Nat) (cells:List Value),k<=ss.length/\i=.int .i64 k/\o=.slice a' (hand.length+k) c'/\Own wr 134 9 (.slice a' (hand.length+k) c') (hand.length+k) cells /\
  zW (fun i=>F i/\(Ox a' (hand.length+k) c').ownBlock≠some i) wr (qJ (hand++(owns env t.args ss).take k)) cells/\Below w.heap.size w wr/\wr.cell? ⟨w.heap.size,0,none⟩=some (.slice ta t.args.length tc)/\(∀ g,(Ox a' (hand.length+k) c').ownBlock=some g->w.heap.size+1<=g)) (fun i _ _=>ss.length-(intOf i).toNat)
 case atStart =>
  refine ⟨0,ax,cx,xs1,OS _,rfl,rfl,HX.out.1,?_,HX.out.2.1,HX.out.2.2.1,HX.out.2.2.2⟩;rw [QS,OY];exact (Rep.keep fun b o hf ho=>⟨⟨hf,fun e=>by have h1:w.heap.size+1<=b:=HX.out.2.2.2 b e;have:=zZ ho;omega⟩,by rw [HX.out.2.1.block b (zZ ho)];exact ho⟩).2 _ _ H.out.1
 case round =>
  obtain ⟨k,a',c',cells,hk,rfl,rfl,ho,hr,hb,hc,hf⟩:=hrel;have HR:=n7 (n8 ho (n8 hr (n8 hb hf)));clear ho hr hb hf;by_cases rH:k<ss.length
  ·obtain ⟨kb,ko,s',v',a2,n2,c2,a3,n3,c3,d,e,ij,hd,k0,k1,k2,k3,lx⟩:=H.out.2.2.1 k rH;subst e;have Hv:k<t.args.length:=by have:=H.out.2.2.2.2.2;omega
   obtain ⟨bt,ot,ut,dt,e,_,iH,hdt,M6,sM⟩:=H.out.2.2.2.1 k Hv;subst e;rw [uJ,OA] at hdt;obtain ⟨tk,Aq,rfl⟩:=hdt;obtain ⟨ua,uc,rfl⟩:=kP sM;have q0:=(HR.out.2.2.1.cell (p:=⟨kb,ko+k*4,none⟩) ij).trans k0;have q1:=(HR.out.2.2.1.cell (p:=⟨kb,ko+k*4+1,none⟩) ij).trans k1;have q2:=(HR.out.2.2.1.cell (p:=⟨kb,ko+k*4+2,none⟩) ij).trans k2;have q3:=(HR.out.2.2.1.cell (p:=⟨kb,ko+k*4+3,none⟩) ij).trans k3;have q4:=(HR.out.2.2.1.cell (p:=⟨bt,ot+k,none⟩) iH).trans M6;have HK:=n7 (n8 hd (n8 lx (n8 Aq sM)));clear hd lx Aq sM k0 k1 k2 k3 M6;have sS:(k:Int)<(ss.length:Int):=by omega
   have hkt':(k:Int)<(t.args.length:Int):=by omega
   have h09:0<9:=by omega
   have i2:hand.length+k+1<=maxLen:=by unfold maxLen;omega
   have tC:(hand.length+k+1)*144<=140737488355328:=by omega
   have GB:=(zu.lit1 (w:=wr) (e:=134) #[.int .i64 (-1),str s',.int .i64 v',.slice a2 n2 c2,.slice a3 n3 c3,.slice ua tk.args.length uc,.slice ea env.length ec,.int .i64 (0:Nat),.int .i64 (k:Nat)] rfl (by simp [str,OR]) _ rfl).drew;have HL:=n7 GB;clear GB;have hrw:∀ g,(Ox a' (hand.length+k) c').ownBlock=some g->g<wr.heap.size:=fun g hg=>HR.out.1.lt hg
   have SIX:Hid (∀ w7:World,But (fun b=>(Ox a' (hand.length+k) c').ownBlock=some b) (wr.alloc (.cells #[.int .i64 (-1),str s',.int .i64 v',.slice a2 n2 c2,.slice a3 n3 c3,.slice ua tk.args.length uc,.slice ea env.length ec,.int .i64 (0:Nat),.int .i64 (k:Nat)] 134)).drew w7 ->
    w7.cell? ⟨kb,ko+k*4,none⟩=some (str s')/\w7.cell? ⟨kb,ko+k*4+1,none⟩=some (.int .i64 v')/\w7.cell? ⟨kb,ko+k*4+2,none⟩=some (.slice a2 n2 c2)/\w7.cell? ⟨kb,ko+k*4+3,none⟩=some (.slice a3 n3 c3)/\w7.cell? ⟨bt,ot+k,none⟩=some (.slice ua tk.args.length uc)/\w7.cell? ⟨w.heap.size,0,none⟩=some (.slice (some ⟨bt,ot,none⟩) t.args.length tc)):=by
    show ∀ w7:World,_->_;intro w7 rP;have hz:=HR.out.2.2.1.size;have key:∀ (p:Addr) (u:Value),p.block<w.heap.size+1->wr.cell? p=some u->w7.cell? p=some u:=by
     intro p u hp hu;have h1:(wr.alloc (.cells #[.int .i64 (-1),str s',.int .i64 v',.slice a2 n2 c2,.slice a3 n3 c3,.slice ua tk.args.length uc,.slice ea env.length ec,.int .i64 (0:Nat),.int .i64 (k:Nat)] 134)).drew.cell? p=some u:=zV hu;exact (rP.cell (n_ _ _ h1) (fun e=>by have:=HR.out.2.2.2 _ e;omega)).trans h1
    exact ⟨key _ _ (by simp only;omega) q0,key _ _ (by simp only;omega) q1,key _ _ (by simp only;omega) q2,key _ _ (by simp only;omega) q3,key _ _ (by simp only;omega) q4,key _ _ (by simp only;omega) hc⟩
   go_wp2_with fail
   go_region_held3 (fun w'=>w'.cell? ⟨kb,ko+k*4,none⟩=some (str s')/\w'.cell? ⟨kb,ko+k*4+1,none⟩=some (.int .i64 v')/\w'.cell? ⟨kb,ko+k*4+2,none⟩=some (.slice a2 n2 c2)/\w'.cell? ⟨kb,ko+k*4+3,none⟩=some (.slice a3 n3 c3)/\w'.cell? ⟨bt,ot+k,none⟩=some (.slice ua tk.args.length uc)/\w'.cell? ⟨w.heap.size,0,none⟩=some (.slice (some ⟨bt,ot,none⟩) t.args.length tc))
    (first
     | exact ⟨q0,q1,q2,q3,q4,hc⟩
     | exact Ev
     | go_keep)
    (first
     | (refine zI (by rfl) _ _ _ (by rfl) 134 (.agg #[.int .i64 0,str [],.int .i64 0,.slice none 0 0,.slice none 0 0,.slice none 0 0,.slice none 0 0,.int .i64 0,.int .i64 0]) 9 144 Pm Tryz.infoBo rfl h09 (.slice a' (hand.length+k) c') (hand.length+k) cells (by rfl) (HR.out.1.alloc _).drew _ 1 [.int .i64 (-1),str s',.int .i64 v',.slice a2 n2 c2,.slice a3 n3 c3,.slice ua tk.args.length uc,.slice ea env.length ec,.int .i64 (0:Nat),.int .i64 (k:Nat)] (by rfl) HL.out i2 tC ?_;intro a7 c7 w7 r_ rP rL;have Ev:=SIX.out w7 rP))
   have hz:=HR.out.2.2.1.size;have tf:∀ g,(Ox a7 (hand.length+k+1) c7).ownBlock=some g->(Ox a' (hand.length+k) c').ownBlock=some g\/g=wr.heap.size+1:=by
    intro g hg;rcases rL g hg with h | h
    ·exact .inl h
    ·exact .inr (by rw [h];exact zK _ _)
   have aC:Below w.heap.size w w7:=by
    refine ((HR.out.2.2.1.alloc hz _).drew).trans (rP.toBelow (by show _<=(wr.alloc _).heap.size;rw [zK];omega) fun i hi e=>?_);have:=HR.out.2.2.2 i e;omega
   have Bx:∀ (b:Nat) (o:Obj),(Ox a' (hand.length+k) c').ownBlock≠some b->wr.heap[b]? = some o->w7.heap[b]? = some o:=by
    intro b o hf ho;have h2:=zZ ho;have h3:(wr.alloc (.cells #[.int .i64 (-1),str s',.int .i64 v',.slice a2 n2 c2,.slice a3 n3 c3,.slice ua tk.args.length uc,.slice ea env.length ec,.int .i64 (0:Nat),.int .i64 (k:Nat)] 134)).drew.heap[b]? = some o:=zY ho;rw [rP.block b (zZ h3) hf];exact h3
   have iq:zW (fun i=>F i/\(Ox a7 (hand.length+k+1) c7).ownBlock≠some i) w7 (qJ (hand++(owns env t.args ss).take (k+1))) (cells++[.int .i64 (-1),str s',.int .i64 v',.slice a2 n2 c2,.slice a3 n3 c3,.slice ua tk.args.length uc,.slice ea env.length ec,.int .i64 (0:Nat),.int .i64 (k:Nat)]):=by
    have how:=bD (env:=env) t.args ss k tk d HK.out.2.2.1 HK.out.1;rw [Pc,how];simp only [Option.toList_some];rw [<- Pi,vu];have Mh:∀ (b:Nat) (o:Obj),F b->w.heap[b]? = some o->(F b/\(Ox a7 (hand.length+k+1) c7).ownBlock≠some b)/\w7.heap[b]? = some o:=by
     intro b o hf ho;have h1:=zZ ho;refine ⟨⟨hf,fun e=>?_⟩,by rw [aC.block b h1];exact ho⟩;rcases tf b e with h | h
     ·have:=HR.out.2.2.2 b h;omega
     ·omega
    refine zW.append ?_ ?_
    ·exact (Rep.keep fun b o hf ho=>⟨⟨hf.1,fun e=>by
      have:=zZ ho;rcases tf b e with h | h
      ·exact hf.2 h
      ·omega⟩,Bx b o hf.2 ho⟩).2 _ _ HR.out.2.1
    ·simp only [qJ,dx,OY,ON,OW];refine zQ.2 ⟨_,_,rfl,zH.2 rfl,?_⟩;have h4:=(Rep.keep Mh).2 _ _ HK.out.2.1;have h5:=(Rep.keep Mh).1 _ _ HK.out.2.2.2;have h6:=(Rep.keep Mh).1 _ _ H.out.2.2.2.2.1;exact zW.append h4 (zQ.2 ⟨_,_,rfl,h5,zQ.2 ⟨_,_,rfl,h6,zQ.2 ⟨_,_,rfl,zH.2 rfl,zQ.2 ⟨_,_,rfl,xK.2 ⟨_,rfl⟩,zC.2 rfl⟩⟩⟩⟩)
   have Au:∀ g,(Ox a7 (hand.length+k+1) c7).ownBlock=some g->w.heap.size+1<=g:=by
    intro g hg;rcases tf g hg with h | h
    ·exact HR.out.2.2.2 g h
    ·omega
   have H7:=n7 (n8 r_ (n8 iq (n8 aC (n8 Ev.2.2.2.2.2 Au))));clear r_ iq aC Ev Au rP rL tf Bx q0 q1 q2 q3 q4 hc;go_wp2_with fail
   go_roundw
   case rel=>exact ⟨k+1,a7,c7,_,by omega,by go_num,rfl,H7.out.1,H7.out.2.1,H7.out.2.2.1,H7.out.2.2.2.1,H7.out.2.2.2.2⟩
   case measure=>simp [intOf];omega
  ·obtain rfl:k=ss.length:=by omega
   have Jn:¬ (ss.length:Int)<(ss.length:Int):=by omega
   clear hc;go_wp2_with fail
   go_ret;have hr:=HR.out.2.1;rw [List.take_of_length_le (by rw [HOL.out];exact n9 _)] at hr;unfold HandWPost;rw [HOL.out];refine ⟨a',c',rfl,HR.out.2.2.1,HR.out.1.rep (fun g hg=>.inr (by have:=HR.out.2.2.2 g hg;omega)) ((Rep.keep fun b o hf ho=>⟨.inl hf.1,ho⟩).2 _ _ hr)⟩
theorem gj (F:Nat->Prop) (n:Nat) (ts:List Ty) (kv:Value) (w:World) (h:Rep F w (.sl 42 1 ts.length (qI ts)) kv) (hl:ts.length<=1000) (hn:n<=1000000) :
 Calls No 69 #[kv,.int .i64 (n:Nat)] w (FreshV w 134 9 ts.length fun w' xs=>zW F w' (qJ (opens n ts)) xs):=by
 obtain ⟨ka,kc,e,_,_,rX⟩:=zP h;subst e;have H:=n7 rX;clear rX h;go_enter Tryz.func69,Tryz.ntmps69;go_wp2_with fail
 go_loopw [5,6] (fun o i wr=>∃ k:Nat,k<=ts.length/\i=.int .i64 k/\∃ a c xs,o=.slice a k c/\Own wr 134 9 (.slice a k c) k xs/\zW (fun i=>F i/\i<w.heap.size) wr (qJ (opens n (ts.take k))) xs/\Below w.heap.size w wr/\(∀ g,(Ox a k c).ownBlock=some g->w.heap.size<=g)) (fun _ i _=>ts.length-(intOf i).toNat)
 case atStart=>exact ⟨0,OS _,rfl,_,_,[],rfl,Own.litAt #[] 0 _ (by simp) (by decide) rfl,by simp [opens,qJ,zC],(rZ _ _).alloc (n9 _) _,gF (n9 _)⟩
 case round =>
  obtain ⟨k,hk,rfl,a,c,xs,rfl,ho,hr,hb,hf⟩:=hrel;have HO:=n7 ho;have HF:=n7 hf;have HB:=n7 hb;have HR:=n7 hr;clear ho hf hb hr;by_cases rH:k<ts.length
  ·have sS:(k:Int)<(ts.length:Int):=by omega
   obtain ⟨b,o,u,d,e,_,sJ,hd,hc,tq⟩:=H.out k rH;subst e;rw [uJ,OA] at hd;obtain ⟨t,ht,rfl⟩:=hd;obtain ⟨ua,uc,rfl⟩:=kP tq;have q0:=(HB.out.cell (p:=⟨b,o+k,none⟩) sJ).trans hc;have HT:=n7 (n8 ht tq);clear ht tq hc;go_wp2_with (at_builtin;refine zM rfl _ _ 131 rfl 134 (.agg #[.int .i64 0,str [],.int .i64 0,.slice none 0 0,.slice none 0 0,.slice none 0 0,.slice none 0 0,.int .i64 0,.int .i64 0]) 9 144 Pm Tryz.infoBo rfl (by decide) (.slice a k c) k xs rfl ?c1 _ 1 [.int .i64 ((n:Int)+(k:Int)),str [],.int .i64 0,.slice none 0 0,.slice none 0 0,.slice ua t.args.length uc,.slice none 0 0,.int .i64 0,.int .i64 0] rfl ?c2 ?c3 ?c4 ?_)
   case c1=>exact HO.out.alloc _
   case c2=>exact zu.lit1 #[.int .i64 ((n:Int)+(k:Int)),str [],.int .i64 0,.slice none 0 0,.slice none 0 0,.slice ua t.args.length uc,.slice none 0 0,.int .i64 0,.int .i64 0] rfl (by simp [str,OR]) _ (by simp)
   case c3=>unfold maxLen;omega
   case c4=>omega
   intro a' c' w7 r_ rP rL;have aC:Below w.heap.size w w7:=by
    have h1:=HB.out;refine (h1.alloc h1.size _).trans (rP.toBelow (by rw [zK];have:=h1.size;omega) fun i hi e=>?_);have:=HF.out i e;omega
   have Au:∀ g,(Ox a' (k+1) c').ownBlock=some g->w.heap.size<=g:=by
    intro g h;rcases rL g h with h | h
    ·exact HF.out g h
    ·have h2:=HB.out.size;omega
   have iq:zW (fun i=>F i/\i<w.heap.size) w7 (qJ (opens n (ts.take (k+1)))) (xs++[.int .i64 ((n:Int)+(k:Int)),str [],.int .i64 0,.slice none 0 0,.slice none 0 0,.slice ua t.args.length uc,.slice none 0 0,.int .i64 0,.int .i64 0]):=by
    rw [cR HT.out.1,vu,qJ,qJ,OY];refine zW.append ?_ ?_
    ·exact (Rep.keep fun b o hf ho=>⟨hf,by rw [aC.block b hf.2,<- HB.out.block b hf.2];exact ho⟩).2 _ _ HR.out
    ·rw [dx];refine zQ.2 ⟨_,_,rfl,zH.2 (by rw [PQ]),zQ.2 ⟨_,_,rfl,zH.2 rfl,zQ.2 ⟨_,_,rfl,zH.2 rfl,zQ.2 ⟨_,_,rfl,zH.2 rfl,zQ.2 ⟨_,_,rfl,zH.2 rfl,zQ.2 ⟨_,_,rfl,(Rep.keep fun b o hf ho=>⟨⟨hf,zZ ho⟩,by rw [aC.block b (zZ ho)];exact ho⟩).1 _ _ HT.out.2,zQ.2 ⟨_,_,rfl,zH.2 rfl,zQ.2 ⟨_,_,rfl,zH.2 rfl,zQ.2 ⟨_,_,rfl,xK.2 ⟨_,rfl⟩,zC.2 rfl⟩⟩⟩⟩⟩⟩⟩⟩⟩
   have HA:=n7 (n8 r_ (n8 iq (n8 aC Au)));clear r_ iq aC Au rP rL;go_wp2_with fail
   go_roundw
   case rel=>exact ⟨k+1,by omega,by go_num,a',c',_,rfl,HA.out.1,HA.out.2.1,HA.out.2.2.1,HA.out.2.2.2⟩
   case measure=>simp [intOf];omega
  ·obtain rfl:k=ts.length:=by omega
   go_wp2_with fail
   go_ret;have h0:=HR.out;rw [OT] at h0;exact ⟨a,c,xs,rfl,HO.out,(Rep.keep fun b o hf ho=>⟨hf.1,ho⟩).2 _ _ h0,HB.out,HF.out⟩
def Wri (w:World) (ww:Nat) (k s:Int):Prop:=w.heap[ww]? = some (.cells #[.int .i64 k,.int .i64 s] 130 (0,0))
theorem Wri.cell {w:World} {ww:Nat} {k s:Int} (h:Wri w ww k s):w.cell? ⟨ww,0,none⟩=some (.int .i64 k)/\w.cell? ⟨ww,1,none⟩=some (.int .i64 s)/\(∀ o,w.frozen? ⟨ww,o,none⟩=false)/\ww<w.heap.size:=by
 unfold Wri at h;exact ⟨by simp [Li,h],by simp [Li,h],fun o=>by simp [World.frozen?,h],zZ h⟩
theorem Wri.below {w w':World} {ww:Nat} {k s:Int} (h:Wri w ww k s) (hb:Below w.heap.size w w'):Wri w' ww k s:=by unfold Wri;rw [hb.block ww (zZ h)];exact h
structure WFr where
 v:Nat
 ss:List Bd
 yes:Bd
 no:Bd
 env:List Mn
def WFr.gf (f:WFr):Gf:=⟨f.yes,f.no,f.env⟩
def encF (f:WFr):List DV:=kx (.ask f.v f.ss f.yes f.no)++[.sl 134 9 f.env.length (qJ f.env),.val (.int .i64 (0:Nat))]
def yC:List WFr->List DV
 | []=>[]
 | f::st=>yC st++encF f
theorem encF_length (f:WFr):(encF f).length=6:=by simp [encF,vS]
theorem pA:∀ st:List WFr,(yC st).length=st.length*6
 | []=>rfl
 | f::st=>by rw [yC,Ov,pA st,encF_length,OD];omega
theorem mV (ww:Nat) (s:Int) (nvs:Array Value) (s0:Bs) (v0:Int) (a1 a2:Option Addr) (n1 c1 n2 c2:Nat) (hn:nvs=#[str s0,.int .i64 v0,.slice a1 n1 c1,.slice a2 n2 c2]) (ev sv:Value) (n:Nat) (w:World) (h:Wri w ww (-1) s) (h0:0<=s) (h1:s<=1000000000) :
 Calls No 70 #[.pointer (some ⟨ww,0,none⟩),.agg nvs,ev,sv,.int .i64 (n:Nat)] w fun en w' =>
  en=.returned (.agg #[str [117],.int .i64 0,.slice none 0 0,.slice none 0 0])/\But (· = ww) w w'/\Wri w' ww (-1) (s+1):=by
 subst hn;obtain ⟨W,hW⟩:=zzN ((w.alloc (.cells #[str s0,.int .i64 v0,.slice a1 n1 c1,.slice a2 n2 c2] 47)).alloc (.cells #[str [],.int .i64 0,.slice none 0 0,.slice none 0 0] 47));have rF:Below w.heap.size w W:=by rw [<- hW];exact ((rZ _ _).alloc (n9 _) _).alloc (by rw [zK];omega) _
 have FA:=h.below rF;obtain ⟨k0,k1,kf,klt⟩:=FA.cell;have Lk:=kf 1;obtain ⟨W2,sC⟩:=zzN (W.setCell ⟨ww,1,none⟩ (.int .i64 (s+1)));have lr:Wri W2 ww (-1) (s+1):=by unfold Wri at *;rw [<- sC,zg FA];rfl
 obtain ⟨m0,m1,mf,mlt⟩:=lr.cell;have mf0:=mf 0;have aL:kU (w.heap.size+1) 0 (.slice none 0 0) (.slice none 0 0) W:=by
  have:=zG (w.alloc (.cells #[str s0,.int .i64 v0,.slice a1 n1 c1,.slice a2 n2 c2] 47)) (.cells #[str [],.int .i64 0,.slice none 0 0,.slice none 0 0] 47);rw [zK,hW] at this;exact this
 have hww:=h.cell.2.2.2;obtain ⟨W3,sx⟩:=zzN (W2.setCell ⟨ww,0,none⟩ (.int .i64 (-1)));have lY:Wri W3 ww (-1) (s+1):=by unfold Wri at *;rw [<- sx,zg lr];rfl
 have BM:But (· = ww) W W3:=by rw [<- sx,<- sC];exact ((But.refl (· = ww) W).setCell (p:=⟨ww,1,none⟩) (.inl rfl) _).setCell (p:=⟨ww,0,none⟩) (.inl rfl) _
 have sA:kU (w.heap.size+1) 0 (.slice none 0 0) (.slice none 0 0) W3:=aL.but BM (by show ¬ (w.heap.size+1=ww);omega);obtain ⟨r0,r1,r2,r3,rlt,rf⟩:=sA.cells;have tF:=rf 0;have aX:=rf 1;have iX:=rf 2;have lH:=rf 3;have HW:=n7 (n8 hW (n8 sC (n8 rF (n8 sx (n8 lY (n8 BM sA))))));clear aL sA BM lY sx rf lr hW sC rF FA h kf mf;go_enter Tryz.func70,Tryz.ntmps70;go_upto_region 1 with (fail)
 rw [HW.out.1];refine wp_loop_rounds 1 ?_;rw [rounds_succ];go_upto_region 2 with (fail)
 rw [HW.out.2.1];go_upto_region 4 with (fail)
 rw [HW.out.2.2.2.1];go_wp2_with fail
 obtain ⟨hW,sC,rF,sx,lY,BM,sA⟩:=HW.out;obtain ⟨W4,iB,sR,sD,sN,sL,_,Cx⟩:=sA.store (.string ⟨#[117]⟩) (.int .i64 0) (.slice none 0 0) (.slice none 0 0);rw [<- iB];refine bodyPost_ret (v:=.agg #[str [117],.int .i64 0,.slice none 0 0,.slice none 0 0]) (by simp [results,Tryz.results70,go_sem,sR,sD,sN,sL,str]) rfl ?_;refine ⟨rfl,?_,Cx ww _ (by omega) lY⟩;have rE:But (· = ww) w W3:=(But.ofBelow rF).trans BM;have sw:w.heap.size<=w.heap.size+1:=by omega
 rw [iB];exact (((rE.setCell (p:=⟨w.heap.size+1,0,none⟩) (.inr sw) _).setCell (p:=⟨w.heap.size+1,1,none⟩) (.inr sw) _).setCell (p:=⟨w.heap.size+1,2,none⟩) (.inr sw) _).setCell (p:=⟨w.heap.size+1,3,none⟩) (.inr sw) _
def vf (F:Nat->Prop) (ww:Nat) (D:Int) (o:Option (Bd×Nat×Nat)) (w:World) (en:Ending) (w':World):Prop :=
 ∃ s v a1 n1 c1 a2 n2 c2,en=.returned (.agg #[str s,.int .i64 v,.slice a1 n1 c1,.slice a2 n2 c2])/\But (· = ww) w w'/\(o=none->∃ st,Wri w' ww (-1) st/\0<=st/\st<=D) /\
   ∀ x,o=some x->Wri w' ww (x.2.1:Nat) (20000-(x.2.2:Nat))/\zW (fun i=>F i\/w.heap.size<=i) w' (kx x.1) [str s,.int .i64 v,.slice a1 n1 c1,.slice a2 n2 c2]
def Fx (F:Nat->Prop) (w:World) (k:Nat):Nat->Prop:=fun i=>(F i/\i<w.heap.size)\/w.heap.size+k<=i
structure OBox (w:World) (s0:Bs) (v0:Int) (a1 a2 ta:Option Addr) (n1 c1 n2 c2 nt tc:Nat) (wr:World):Prop where
 x0:wr.cell? ⟨w.heap.size,0,none⟩=some (str s0)
 x1:wr.cell? ⟨w.heap.size,1,none⟩=some (.int .i64 v0)
 x2:wr.cell? ⟨w.heap.size,2,none⟩=some (.slice a1 n1 c1)
 x3:wr.cell? ⟨w.heap.size,3,none⟩=some (.slice a2 n2 c2)
 y0:wr.cell? ⟨w.heap.size+1,0,none⟩=some (.slice ta nt tc)
 res:kU (w.heap.size+2) 0 (.slice none 0 0) (.slice none 0 0) wr
 bel:Below w.heap.size w wr
theorem OBox.below {w wr w':World} {s0:Bs} {v0:Int} {a1 a2 ta:Option Addr} {n1 c1 n2 c2 nt tc:Nat} (h:OBox w s0 v0 a1 a2 ta n1 c1 n2 c2 nt tc wr) (hb:Below (w.heap.size+3) wr w'):OBox w s0 v0 a1 a2 ta n1 c1 n2 c2 nt tc w':=by
 have hr:=h.res.cells.2.2.2.2.1;have k:∀ (p:Addr),p.block<w.heap.size+3->w'.cell? p=wr.cell? p:=fun p hp=>World.cell?_of_block (w:=wr) (hb.block p.block hp)
 exact ⟨(k ⟨_,_,_⟩ (by show w.heap.size<_;omega)).trans h.x0,(k ⟨_,_,_⟩ (by show w.heap.size<_;omega)).trans h.x1,(k ⟨_,_,_⟩ (by show w.heap.size<_;omega)).trans h.x2,(k ⟨_,_,_⟩ (by show w.heap.size<_;omega)).trans h.x3,
  (k ⟨_,_,_⟩ (by show w.heap.size+1<_;omega)).trans h.y0,h.res.below hb (by omega),h.bel.trans (hb.mono (by omega))⟩
theorem open_any (F:Nat->Prop) (ww:Nat) (D:Int) (o:Option (Bd×Nat×Nat)) (t:Ty) (env:List Mn) (n:Nat) (s0:Bs) (v0:Int) (a1 a2:Option Addr) (n1 c1 n2 c2:Nat) (tv ev:Value) (w:World)
 (ht:Rep F w (k9 t) tv) (he:Rep F w (.sl 134 9 env.length (qJ env)) ev) (hl:env.length<=1000000) (Hh:t.args.length<=15) (hn:n<=1000000) (hww:ww<w.heap.size)
 (C:∀ (a:Option Addr) (c g:Nat) (wX:World),Below w.heap.size w wX->w.heap.size+3<=wX.heap.size->Rep (Fx F w 3) wX (.sl 134 9 (env.length+t.args.length) (qJ (env++opens n t.args))) (.slice a (env.length+t.args.length) c) ->
  Calls No 70 #[.pointer (some ⟨ww,0,none⟩),.agg #[str s0,.int .i64 v0,.slice a1 n1 c1,.slice a2 n2 c2],.slice a (env.length+t.args.length) c,.slice (some ⟨g,0,none⟩) 0 0,.int .i64 ((n:Int)+(t.args.length:Int))] wX (vf (Fx F w 3) ww D o wX)) :
 Calls No 109 #[.pointer (some ⟨ww,0,none⟩),.agg #[str s0,.int .i64 v0,.slice a1 n1 c1,.slice a2 n2 c2],.agg #[tv],ev,.int .i64 (n:Nat)] w (vf F ww D o w):=by
 obtain ⟨exs,Fh,oz⟩:=zu.ofRep he (vw env);obtain ⟨ea,ec,e⟩:=oz.slice;subst e;have aN:=ht;rw [jQ] at aN;obtain ⟨ta,tc,e,_,_,lK⟩:=zP aN;subst e;obtain ⟨W,hW⟩:=zzN (((w.alloc (.cells #[str s0,.int .i64 v0,.slice a1 n1 c1,.slice a2 n2 c2] 47)).alloc (.cells #[.slice ta t.args.length tc] 42)).alloc (.cells #[str [],.int .i64 0,.slice none 0 0,.slice none 0 0] 47));have rF:Below w.heap.size w W:=by rw [<- hW];exact (((rZ _ _).alloc (n9 _) _).alloc (by rw [zK];omega) _).alloc (by rw [zK,zK];omega) _
 have iE:w.heap.size+3=W.heap.size:=by rw [<- hW];simp only [zK]
 have iT:OBox w s0 v0 a1 a2 ta n1 c1 n2 c2 t.args.length tc W:=by
  have b0:W.heap[w.heap.size]? = some (.cells #[str s0,.int .i64 v0,.slice a1 n1 c1,.slice a2 n2 c2] 47 (0,0)):=by rw [<- hW];exact zY (zY (zG _ _))
  have b1:W.heap[w.heap.size+1]? = some (.cells #[.slice ta t.args.length tc] 42 (0,0)):=by
   have:=zG (w.alloc (.cells #[str s0,.int .i64 v0,.slice a1 n1 c1,.slice a2 n2 c2] 47)) (.cells #[.slice ta t.args.length tc] 42);rw [zK] at this;rw [<- hW];exact zY this
  have b2:W.heap[w.heap.size+2]? = some (.cells #[str [],.int .i64 0,.slice none 0 0,.slice none 0 0] 47 (0,0)):=by
   have:=zG ((w.alloc (.cells #[str s0,.int .i64 v0,.slice a1 n1 c1,.slice a2 n2 c2] 47)).alloc (.cells #[.slice ta t.args.length tc] 42)) (.cells #[str [],.int .i64 0,.slice none 0 0,.slice none 0 0] 47);simp only [zK] at this;rw [<- hW];exact this
  obtain ⟨x0,x1,x2,x3⟩:=kR b0;exact ⟨x0,x1,x2,x3,by simp [Li,b1],b2,rF⟩
 have hsW:zu 9 (.slice ea env.length ec) env.length exs W:=oz.below rF;have HP:=n7 (n8 Fh (n8 lK (n8 hW (n8 iT (n8 hsW (n8 C iE))))));clear Fh oz lK hW iT hsW C rF iE ht aN he;go_enter Tryz.func109,Tryz.ntmps109;go_upto_region 1 with (fail)
 rw [HP.out.2.2.1];have BX:=HP.out.2.2.2.1;have y0:=BX.y0;have iE:=HP.out.2.2.2.2.2.2;clear BX;go_wp2_with (at_builtin;refine zM rfl _ _ 131 rfl 134 (.agg #[.int .i64 0,str [],.int .i64 0,.slice none 0 0,.slice none 0 0,.slice none 0 0,.slice none 0 0,.int .i64 0,.int .i64 0]) 9 144 Pm Tryz.infoBo rfl (by decide) (.slice (some ⟨W.heap.size,0,none⟩) 0 0) 0 [] rfl ?d1 _ env.length exs rfl ?d2 ?d3 ?d4 ?_)
 case d1=>exact Own.litAt #[] 0 _ rfl (by decide) rfl
 case d2=>exact HP.out.2.2.2.2.1.alloc _
 case d3=>unfold maxLen;omega
 case d4=>omega
 intro a6 c6 w6 F2 rC F7;have lU:Below W.heap.size W w6:=((rZ _ _).alloc (n9 _) _).trans (rC.toBelow (by rw [zK];omega) fun i hi e=>by simp [OG] at e;omega);have H_:∀ g,(Ox a6 env.length c6).ownBlock=some g->W.heap.size<=g:=fun g hg=>by
  rcases F7 g hg with h | h
  ·simp [OG] at h;omega
  ·omega
 have tB:zW (fun i=>F i/\i<w.heap.size) w6 (qJ (env++opens n (t.args.take 0))) exs:=by
  rw [QS,opens,OY];exact (Rep.keep fun b o hf hh=>⟨hf,by rw [(HP.out.2.2.2.1.bel.trans (lU.mono (by omega))).block b hf.2];exact hh⟩).2 _ _ (zW.low HP.out.1)
 have H6:=n7 (n8 F2 (n8 lU (n8 H_ tB)));clear F2 lU H_ tB rC F7;have y0:=(H6.out.2.1.cell (n_ W _ y0)).trans y0;go_wp2_with fail
 go_loopw [11,12] (fun o i wr=>∃ k:Nat,k<=t.args.length/\i=.int .i64 k/\∃ a c xs,o=.slice a (env.length+k:Nat) c/\Own wr 134 9 (.slice a (env.length+k) c) (env.length+k) xs/\zW (fun i=>F i/\i<w.heap.size) wr (qJ (env++opens n (t.args.take k))) xs/\Below W.heap.size W wr/\(∀ g,(Ox a (env.length+k) c).ownBlock=some g->W.heap.size<=g)) (fun _ i _=>t.args.length-(intOf i).toNat)
 case atStart=>exact ⟨0,OS _,rfl,a6,c6,exs,rfl,H6.out.1,H6.out.2.2.2,H6.out.2.1,H6.out.2.2.1⟩
 case round =>
  rename_i wr;obtain ⟨k,hk,rfl,a,c,xs,rfl,ho,hr,hb,hf⟩:=hrel;have BX:=HP.out.2.2.2.1.below (hb.mono (by omega));have z0:=BX.y0;have HO:=n7 ho;have HF:=n7 hf;have HB:=n7 hb;have HR:=n7 hr;have HX:=n7 BX;clear ho hf hb hr y0 BX;by_cases rH:k<t.args.length
  ·have sS:(k:Int)<(t.args.length:Int):=by omega
   obtain ⟨b,o1,u,d,e,_,sJ,hd,hc,tq⟩:=HP.out.2.1 k rH;subst e;rw [uJ,OA] at hd;obtain ⟨t1,ht1,rfl⟩:=hd;obtain ⟨ua,uc,rfl⟩:=kP tq;have q0:=(HX.out.bel.cell (p:=⟨b,o1+k,none⟩) sJ).trans hc;have HT:=n7 (n8 ht1 tq);clear ht1 tq hc;go_wp2_with (at_builtin;refine zM rfl _ _ 131 rfl 134 (.agg #[.int .i64 0,str [],.int .i64 0,.slice none 0 0,.slice none 0 0,.slice none 0 0,.slice none 0 0,.int .i64 0,.int .i64 0]) 9 144 Pm Tryz.infoBo rfl (by decide) (.slice a (env.length+k) c) (env.length+k) xs rfl ?e1 _ 1 [.int .i64 ((n:Int)+(k:Int)),str [],.int .i64 0,.slice none 0 0,.slice none 0 0,.slice ua t1.args.length uc,.slice none 0 0,.int .i64 0,.int .i64 0] rfl ?e2 ?e3 ?e4 ?_)
   case e1=>exact HO.out.alloc _
   case e2=>exact zu.lit1 #[.int .i64 ((n:Int)+(k:Int)),str [],.int .i64 0,.slice none 0 0,.slice none 0 0,.slice ua t1.args.length uc,.slice none 0 0,.int .i64 0,.int .i64 0] rfl (by simp [str,OR]) _ (by simp)
   case e3=>unfold maxLen;omega
   case e4=>omega
   intro a' c' w7 r_ rP rL;have hzb:=HB.out.size;have aC:Below W.heap.size W w7:=by
    refine (HB.out.alloc hzb _).trans (rP.toBelow (by rw [zK];omega) fun i hi e=>?_);have:=HF.out i e;omega
   have Au:∀ g,(Ox a' (env.length+(k+1)) c').ownBlock=some g->W.heap.size<=g:=by
    intro g h;rcases rL g h with h | h
    ·exact HF.out g h
    ·omega
   have Da:Below w.heap.size w w7:=HP.out.2.2.2.1.bel.trans (aC.mono (by omega));have iq:zW (fun i=>F i/\i<w.heap.size) w7 (qJ (env++opens n (t.args.take (k+1)))) (xs++[.int .i64 ((n:Int)+(k:Int)),str [],.int .i64 0,.slice none 0 0,.slice none 0 0,.slice ua t1.args.length uc,.slice none 0 0,.int .i64 0,.int .i64 0]):=by
    rw [cR HT.out.1,<- Pi,vu,qJ,qJ,OY];refine zW.append ?_ ?_
    ·exact (Rep.keep fun b o hf ho=>⟨hf,by rw [Da.block b hf.2,<- HX.out.bel.block b hf.2];exact ho⟩).2 _ _ HR.out
    ·rw [dx];refine zQ.2 ⟨_,_,rfl,zH.2 (by rw [PQ]),zQ.2 ⟨_,_,rfl,zH.2 rfl,zQ.2 ⟨_,_,rfl,zH.2 rfl,zQ.2 ⟨_,_,rfl,zH.2 rfl,zQ.2 ⟨_,_,rfl,zH.2 rfl,zQ.2 ⟨_,_,rfl,(Rep.keep fun b o hf ho=>⟨⟨hf,zZ ho⟩,by rw [Da.block b (zZ ho)];exact ho⟩).1 _ _ HT.out.2,zQ.2 ⟨_,_,rfl,zH.2 rfl,zQ.2 ⟨_,_,rfl,zH.2 rfl,zQ.2 ⟨_,_,rfl,xK.2 ⟨_,rfl⟩,zC.2 rfl⟩⟩⟩⟩⟩⟩⟩⟩⟩
   have HA:=n7 (n8 r_ (n8 iq (n8 aC Au)));clear r_ iq aC Au rP rL Da;go_wp2_with fail
   go_roundw
   case rel=>exact ⟨k+1,by omega,by go_num,a',c',_,rfl,HA.out.1,HA.out.2.1,HA.out.2.2.1,HA.out.2.2.2⟩
   case measure=>simp [intOf];omega
  ·obtain rfl:k=t.args.length:=by omega
   have z1:=HX.out.x0;have z2:=HX.out.x1;have z3:=HX.out.x2;have z4:=HX.out.x3;have z5:(wr.alloc (.cells #[] 154)).cell? ⟨w.heap.size+1,0,none⟩=some (.slice ta t.args.length tc):=zV z0;have hzb:=HB.out.size;have oV:Below w.heap.size w (wr.alloc (.cells #[] 154)):=HX.out.bel.alloc HX.out.bel.size _;have L1:Rep (Fx F w 3) (wr.alloc (.cells #[] 154)) (.sl 134 9 (env.length+t.args.length) (qJ (env++opens n t.args))) (.slice a (env.length+t.args.length) c):=by
    have h0:=HR.out;rw [OT] at h0;exact (HO.out.alloc _).rep (fun g hg=>.inr (by have:=HF.out g hg;omega)) ((Rep.keep fun b o hf ho=>⟨.inl hf,zY ho⟩).2 _ _ h0)
   have C2:=n7 (HP.out.2.2.2.2.2.1 a c wr.heap.size _ oV (by rw [zK];omega) L1);have resX:kU (w.heap.size+2) 0 (.slice none 0 0) (.slice none 0 0) (wr.alloc (.cells #[] 154)):=zY HX.out.res;have HY:=n7 (n8 oV resX);clear oV L1 resX;go_wp2_with fail
   (with_reducible refine C2.out.mono ?_);rintro en w9 ⟨s9,v9,b1,m1,d1,b2,m2,d2,rfl,sh,Cu,Cf⟩
   have oD:kU (w.heap.size+2) 0 (.slice none 0 0) (.slice none 0 0) w9:=HY.out.2.but sh (by show ¬ (w.heap.size+2=ww);omega);obtain ⟨r0,r1,r2,r3,rlt,rf⟩:=oD.cells;have tF:=rf 0;have aX:=rf 1;have iX:=rf 2;have lH:=rf 3;have H9:=n7 (n8 sh (n8 Cu (n8 Cf oD)));clear sh Cu Cf oD rf;go_wp2_with fail
   obtain ⟨W4,iB,sR,sD,sN,sL,_,Cx⟩:=H9.out.2.2.2.store (str s9) (.int .i64 v9) (.slice b1 m1 d1) (.slice b2 m2 d2);rw [<- iB];refine bodyPost_ret (v:=.agg #[str s9,.int .i64 v9,.slice b1 m1 d1,.slice b2 m2 d2]) (by simp [results,Tryz.results109,go_sem,sR,sD,sN,sL]) rfl ?_;have rE:But (· = ww) w w9:=(But.ofBelow HY.out.1).trans H9.out.1;have sw:w.heap.size<=w.heap.size+2:=by omega
   refine ⟨s9,v9,b1,m1,d1,b2,m2,d2,rfl,?_,fun ho=>?_,fun x hx=>?_⟩
   ·rw [iB];exact (((rE.setCell (p:=⟨w.heap.size+2,0,none⟩) (.inr sw) _).setCell (p:=⟨w.heap.size+2,1,none⟩) (.inr sw) _).setCell (p:=⟨w.heap.size+2,2,none⟩) (.inr sw) _).setCell (p:=⟨w.heap.size+2,3,none⟩) (.inr sw) _
   ·obtain ⟨st,h1,h2⟩:=H9.out.2.1 ho;exact ⟨st,Cx ww _ (by omega) h1,h2⟩
   ·obtain ⟨h1,h2⟩:=H9.out.2.2.1 x hx;refine ⟨Cx ww _ (by omega) h1,(Rep.keep fun b ob hf hh=>?_).2 _ _ h2⟩;rcases hf with (h | h) | h
    ·exact ⟨.inl h.1,Cx b _ (by have:=h.2;omega) hh⟩
    rotate_left
    focus
     rw [zK] at h
    all_goals
     exact ⟨.inr (by omega),Cx b _ (by omega) hh⟩
structure nz (F:Nat->Prop) (ww d k l n:Nat) (H:List Ty) (b:Bd) (env:List Mn) (st:List WFr) (s0:Bs) (v0:Int) (a1 a2:Option Addr) (n1 c1 n2 c2:Nat) (ev sv:Value) (w:World):Prop where
 wri:Wri w ww (k:Nat) (20000-(l:Nat))
 hF:∀ i,F i->i≠ww
 ld:l<=d
 d20:d<=20000
 k200:k<=200
 fit:ji H b env (st.map WFr.gf)
 hn:H.length=n
 el:env.length+16*d<=1000000
 nl:n+16*d<=1000000
 stl:st.length+d<=40000
 ok:xH (1000000-16*d) env
 okg:okGs (1000000-16*d) (st.map WFr.gf)
 wf:wfB b/\wS env/\∀ f∈st.map WFr.gf,wfG f
 rb:zW F w (kx b) [str s0,.int .i64 v0,.slice a1 n1 c1,.slice a2 n2 c2]
 re:Rep F w (.sl 134 9 env.length (qJ env)) ev
 rs:Rep F w (.sl 154 6 st.length (yC st)) sv
def pU (d:Nat):Prop:=∀ (F:Nat->Prop) (ww k l n:Nat) (H:List Ty) (b:Bd) (env:List Mn) (st:List WFr) (s0:Bs) (v0:Int) (a1 a2:Option Addr) (n1 c1 n2 c2:Nat) (ev sv:Value) (w:World),
 nz F ww d k l n H b env st s0 v0 a1 a2 n1 c1 n2 c2 ev sv w ->
 Calls No 70 #[.pointer (some ⟨ww,0,none⟩),.agg #[str s0,.int .i64 v0,.slice a1 n1 c1,.slice a2 n2 c2],ev,sv,.int .i64 (n:Nat)] w
  (vf F ww (20001+20*d) (evN d k l b env n (st.map WFr.gf)) w)
theorem open_live (d:Nat) (ih:pU d) (F:Nat->Prop) (ww k l n:Nat) (H:List Ty) (t:Ty) (b:Bd) (env:List Mn) (s0:Bs) (v0:Int) (a1 a2:Option Addr) (n1 c1 n2 c2:Nat) (tv ev:Value) (w:World)
 (hw:Wri w ww (k:Nat) (20000-(l:Nat))) (hF:∀ i,F i->i≠ww) (Cv:l<=d) (hd:d<=20000) (hk:k<=200) (tR:ji (H++t.args) b (env++opens H.length t.args) []) (hn:H.length=n) (Av:env.length+16*(d+1)<=1000000) (AG:n+16*(d+1)<=1000000) (ic:zJ t<=15)
 (rj:xH (1000000-16*(d+1)) env) (ht:Rep F w (k9 t) tv) (hb:zW F w (kx b) [str s0,.int .i64 v0,.slice a1 n1 c1,.slice a2 n2 c2]) (he:Rep F w (.sl 134 9 env.length (qJ env)) ev) (Ac:wfB b/\wS env) :
 Calls No 109 #[.pointer (some ⟨ww,0,none⟩),.agg #[str s0,.int .i64 v0,.slice a1 n1 c1,.slice a2 n2 c2],.agg #[tv],ev,.int .i64 (n:Nat)] w (vf F ww (20001+20*d) (evN d k l b (env++opens n t.args) (n+t.args.length) []) w):=by
 have AA:=kQ ic;have hww:=hw.cell.2.2.2;refine open_any F ww _ _ t env n s0 v0 a1 a2 n1 c1 n2 c2 tv ev w ht he (by omega) AA.2 (by omega) hww ?_;intro a c g wX oV hzX L1;have hlen:(env++opens n t.args).length=env.length+t.args.length:=by rw [Ov,z_]
 rw [<- PQ]
 refine ih (Fx F w 3) ww k l (n+t.args.length) (H++t.args) b (env++opens n t.args) [] s0 v0 a1 a2 n1 c1 n2 c2 _ _ wX
  { wri:=hw.below oV,hF:=?_,ld:=Cv,d20:=hd,k200:=hk,fit:=by rw [<- hn];exact tR,hn:=by rw [Ov,hn],el:=by rw [hlen];omega,nl:=by omega,stl:=by simp;omega,
    ok:=jg _ _ (qP (by omega) _ rj) (jk _ _ AA.1 (by omega)),okg:=trivial,wf:=⟨Ac.1,jp _ _ Ac.2 (jz _ _),by simp⟩,rb:=?_,re:=by rw [hlen];exact L1,rs:=zh.2 ⟨by simp [yC],_,_,rfl,n9 _,fun h=>by simp at h,.inl rfl⟩ }
 ·intro i hi e;rcases hi with h | h
  ·exact hF i h.1 e
  ·omega
 ·exact (Rep.keep fun b o hf hh=>⟨.inl ⟨hf,zZ hh⟩,by rw [oV.block b (zZ hh)];exact hh⟩).2 _ _ hb
theorem open_dead (F:Nat->Prop) (ww n:Nat) (s:Int) (t:Ty) (env:List Mn) (s0:Bs) (v0:Int) (a1 a2:Option Addr) (n1 c1 n2 c2:Nat) (tv ev:Value) (w:World)
 (hw:Wri w ww (-1) s) (h0:0<=s) (h1:s<=1000000000) (Av:env.length<=1000000) (AG:n<=1000000) (ic:zJ t<=15) (ht:Rep F w (k9 t) tv) (he:Rep F w (.sl 134 9 env.length (qJ env)) ev) :
 Calls No 109 #[.pointer (some ⟨ww,0,none⟩),.agg #[str s0,.int .i64 v0,.slice a1 n1 c1,.slice a2 n2 c2],.agg #[tv],ev,.int .i64 (n:Nat)] w (vf F ww (s+1) none w):=by
 refine open_any F ww _ _ t env n s0 v0 a1 a2 n1 c1 n2 c2 tv ev w ht he (by omega) (kQ ic).2 (by omega) hw.cell.2.2.2 ?_;intro a c g wX oV hzX L1;rw [<- PQ];refine (mV ww s _ s0 v0 a1 a2 n1 c1 n2 c2 rfl _ _ _ wX (hw.below oV) h0 h1).mono ?_;rintro en w' ⟨rfl,hb,aA⟩;exact ⟨_,_,_,_,_,_,_,_,rfl,hb,fun _=>⟨_,aA,by omega,Int.le_refl _⟩,fun x h=>by simp at h⟩
theorem evN_left (d k l:Nat) (b:Bd) (env:List Mn) (n:Nat) (st:List Gf) (r:Bd) (k' l':Nat) (h:evN d k l b env n st=some (r,k',l')):k'<=k/\l'<=l:=by
 rw [evN_eq] at h;cases hq:Go.Proofs.YtdhaafoiokkbnabGreatDoor.ev d l b env n st with
 | none=>rw [hq] at h;simp [pu] at h
 | some x =>
   obtain ⟨o,l1⟩:=x;rw [hq] at h;simp only [pu] at h;split at h
   ·simp at h;obtain ⟨_,rfl,rfl⟩:=h;exact ⟨Nat.sub_le _ _,ev_left _ _ _ _ _ _ _ _ hq⟩
   ·simp at h
theorem dj (f:Nat->Nat->Bd->List Mn->Nat->List Gf->Option (Bd×Nat×Nat)) (env:List Mn) (n:Nat) (t:Ty) (s:Bd):∀ (ts:List Ty) (ss:List Bd) (k l:Nat),ts.length=ss.length ->
 kq f env n k l (ts++[t]) (ss++[s])=(kq f env n k l ts ss).bind fun x=>(f x.2.1 x.2.2 s (env++opens n t.args) (n+t.args.length) []).bind fun y=>some (x.1++[y.1],y.2.1,y.2.2)
 | [],[],k,l,_=>by
   simp only [OW,kq,Ow,Lx]
 | [],s'::ss,k,l,h=>by simp at h
 | t'::ts,[],k,l,h=>by simp at h
 | t'::ts,s'::ss,k,l,h=>by
   simp only [ON,kq,Ow];cases h1:f k l s' (env++opens n t'.args) (n+t'.args.length) [] with
   | none=>rfl
   | some x =>
     simp only [Lx];rw [dj f env n t s ts ss x.2.1 x.2.2 (by simpa using h)];cases h2:kq f env n x.2.1 x.2.2 ts ss with
     | none=>rfl
     | some y =>
       simp only [Lx];cases h3:f y.2.1 y.2.2 s (env++opens n t.args) (n+t.args.length) [] with
       | none=>rfl
       | some z=>rfl
theorem dz {f:Nat->Nat->Bd->List Mn->Nat->List Gf->Option (Bd×Nat×Nat)} {env:List Mn} {n k l j:Nat} {ts:List Ty} {ss:List Bd} {t:Ty} {s:Bd} (ht:ts[j]? = some t) (hs:ss[j]? = some s) :
 kq f env n k l (ts.take (j+1)) (ss.take (j+1))=(kq f env n k l (ts.take j) (ss.take j)).bind fun x=>(f x.2.1 x.2.2 s (env++opens n t.args) (n+t.args.length) []).bind fun y=>some (x.1++[y.1],y.2.1,y.2.2):=by
 have h1:=(OB.1 ht).1;have h2:=(OB.1 hs).1;rw [Pc,Pc,ht,hs];exact dj f env n t s _ _ k l (by rw [Pw,Pw];omega)
theorem pR {f:Nat->Nat->Bd->List Mn->Nat->List Gf->Option (Bd×Nat×Nat)} {env:List Mn} {n:Nat}:∀ (j:Nat) (ts:List Ty) (ss:List Bd) (k l:Nat),kq f env n k l (ts.take j) (ss.take j)=none->kq f env n k l ts ss=none
 | 0,ts,ss,k,l,h=>by simp [kq] at h
 | j+1,[],ss,k,l,h=>by simp [kq] at h
 | j+1,t::ts,[],k,l,h=>by simp [kq] at h
 | j+1,t::ts,s::ss,k,l,h=>by
   simp only [List.take_succ_cons,kq,Ow] at h ⊢;cases h1:f k l s (env++opens n t.args) (n+t.args.length) [] with
   | none=>rfl
   | some x =>
     rw [h1] at h;simp only [Lx] at h ⊢;cases h2:kq f env n x.2.1 x.2.2 (ts.take j) (ss.take j) with
     | none=>rw [pR j ts ss x.2.1 x.2.2 h2];rfl
     | some y=>rw [h2] at h;simp at h
def wU (d k l n o:Nat) (t:Ty) (ss:List Bd) (y no:Bd) (env:List Mn) (st:List Gf):Option (Bd×Nat×Nat) :=
 (kq (evN d) env n k l t.args ss).bind fun x=>(evN d x.2.1 x.2.2 y env n st).bind fun z=>(evN d z.2.1 z.2.2 no env n st).bind fun u=>some (.ask o x.1 z.1 u.1,u.2.1,u.2.2)
theorem evN_op {d k l v n o:Nat} {ss:List Bd} {y no:Bd} {t:Ty} {env:List Mn} {st:List Gf} (h:env[v]? = some (.op o t)) :
 evN (d+1) (k+1) (l+1) (.ask v ss y no) env n st=wU d k l n o t ss y no env st:=by rw [evN.eq_def];simp only [h];rfl
theorem evN_bd {d k l v n:Nat} {ss:List Bd} {y no b':Bd} {t:Ty} {env e:List Mn} {st:List Gf} (h:env[v]? = some (.bd t b' e)) :
 evN (d+1) (k+1) (l+1) (.ask v ss y no) env n st=evN d (k+1) l b' (e++owns env t.args ss) n (⟨y,no,env⟩::st):=by rw [evN.eq_def];simp only [h]
theorem evN_u {d k l n:Nat} {env:List Mn} {st:List Gf}:evN (d+1) (k+1) (l+1) (.leaf 117) env n st=some (.leaf 117,k,l):=by rw [evN.eq_def];simp
theorem evN_end {d k l n:Nat} {c:UInt8} {env:List Mn}:evN (d+1) (k+1) (l+1) (.leaf c) env n []=some (.leaf c,k,l):=by rw [evN.eq_def];simp
theorem evN_back {d k l n:Nat} {c:UInt8} (h:c≠117) {env:List Mn} {f:Gf} {st:List Gf}:evN (d+1) (k+1) (l+1) (.leaf c) env n (f::st)=evN d (k+1) l (if c=116 then f.yes else f.no) f.env n st:=by rw [evN.eq_def];simp only [if_neg h]
theorem evN_zl {d k n:Nat} {b:Bd} {env:List Mn} {st:List Gf}:evN d k 0 b env n st=none:=by cases d <;> rw [evN.eq_def]
theorem evN_zk {d l n:Nat} {b:Bd} {env:List Mn} {st:List Gf}:evN d 0 l b env n st=none:=by
 cases d with
 | zero=>rw [evN.eq_def]
 | succ d=>cases l <;> rw [evN.eq_def]
theorem bound_at {F:Nat->Prop} {w:World} {env:List Mn} {ev:Value} (h:Rep F w (.sl 134 9 env.length (qJ env)) ev) {v:Nat} {m:Mn} (hc:env[v]? = some m) :
 ∃ b o cap us,ev=.slice (some ⟨b,o,none⟩) env.length cap/\F b/\b<w.heap.size/\(∀ (j:Nat) (u:Value),us[j]? = some u->w.cell? ⟨b,o+v*9+j,none⟩=some u)/\zW F w (dx m) us:=by
 have hv:=(OB.1 hc).1;rw [zh] at h;obtain ⟨hl,a,cap,rfl,hn,hz,h⟩:=h;rcases h with h0 | ⟨b,o,cs,fr,rfl,hb,hcs,hr⟩
 ·omega
 have Cj:qJ env=qJ (env.take v)++(dx m++qJ (env.drop (v+1))):=by
  have e:env=env.take v++m::env.drop (v+1):=by
   have:env[v]=m:=(OB.1 hc).2;rw [<- this,List.getElem_cons_drop,Pj]
  conv=>lhs;rw [e]
  rw [vu,qJ]
 rw [Cj] at hr;have h2:=hr.split.2;rw [dy,Pw,Sd (by omega)] at h2;have h3:=h2.split.1;rw [gx] at h3;refine ⟨b,o,cap,_,rfl,hb,zZ hcs,fun j u h=>?_,h3⟩;rw [PI] at h;split at h
 ·rename_i hj;rw [PJ,PI,if_pos (by omega),PJ] at h;simp only [Li,hcs];simpa [Q6] using h
 ·simp at h
theorem bound_op {F:Nat->Prop} {w:World} {env:List Mn} {ev:Value} (h:Rep F w (.sl 134 9 env.length (qJ env)) ev) {v o:Nat} {t:Ty} (hc:env[v]? = some (.op o t)) :
 ∃ b p cap ta tc i,ev=.slice (some ⟨b,p,none⟩) env.length cap/\F b/\b<w.heap.size/\w.cell? ⟨b,p+v*9,none⟩=some (.int .i64 (o:Nat))/\w.cell? ⟨b,p+v*9+1,none⟩=some (str [])/\w.cell? ⟨b,p+v*9+2,none⟩=some (.int .i64 0) /\
   w.cell? ⟨b,p+v*9+3,none⟩=some (.slice none 0 0)/\w.cell? ⟨b,p+v*9+4,none⟩=some (.slice none 0 0)/\w.cell? ⟨b,p+v*9+5,none⟩=some (.slice ta t.args.length tc)/\w.cell? ⟨b,p+v*9+6,none⟩=some (.slice none 0 0) /\
   w.cell? ⟨b,p+v*9+7,none⟩=some (.int .i64 0)/\w.cell? ⟨b,p+v*9+8,none⟩=some (.int .i64 i)/\Rep F w (k9 t) (.slice ta t.args.length tc):=by
 obtain ⟨b,p,cap,us,rfl,hb,hw,get,hr⟩:=bound_at h hc;simp only [dx,zQ,zC,zH,xK] at hr;obtain ⟨_,_,rfl,rfl,_,_,rfl,rfl,_,_,rfl,rfl,_,_,rfl,rfl,_,_,rfl,rfl,x1,_,rfl,q1,_,_,rfl,rfl,_,_,rfl,rfl,x3,_,rfl,⟨i3,rfl⟩,rfl⟩:=hr;obtain ⟨sa,sc,rfl⟩:=kP q1;exact ⟨b,p,cap,sa,sc,i3,rfl,hb,hw,get 0 _ rfl,get 1 _ rfl,get 2 _ rfl,get 3 _ rfl,get 4 _ rfl,get 5 _ rfl,get 6 _ rfl,get 7 _ rfl,get 8 _ rfl,q1⟩
theorem bound_bd {F:Nat->Prop} {w:World} {env:List Mn} {ev:Value} (h:Rep F w (.sl 134 9 env.length (qJ env)) ev) {v:Nat} {t:Ty} {b':Bd} {e':List Mn} (hc:env[v]? = some (.bd t b' e')) :
 ∃ b p cap ta tc s v1 a1 m1 c1 a2 m2 c2 ha hcap i,ev=.slice (some ⟨b,p,none⟩) env.length cap/\F b/\b<w.heap.size/\w.cell? ⟨b,p+v*9,none⟩=some (.int .i64 (-1))/\w.cell? ⟨b,p+v*9+1,none⟩=some (str s)/\w.cell? ⟨b,p+v*9+2,none⟩=some (.int .i64 v1) /\
   w.cell? ⟨b,p+v*9+3,none⟩=some (.slice a1 m1 c1)/\w.cell? ⟨b,p+v*9+4,none⟩=some (.slice a2 m2 c2)/\w.cell? ⟨b,p+v*9+5,none⟩=some (.slice ta t.args.length tc)/\w.cell? ⟨b,p+v*9+6,none⟩=some (.slice ha e'.length hcap) /\
   w.cell? ⟨b,p+v*9+7,none⟩=some (.int .i64 0)/\w.cell? ⟨b,p+v*9+8,none⟩=some (.int .i64 i)/\Rep F w (k9 t) (.slice ta t.args.length tc)/\zW F w (kx b') [str s,.int .i64 v1,.slice a1 m1 c1,.slice a2 m2 c2]/\Rep F w (.sl 134 9 e'.length (qJ e')) (.slice ha e'.length hcap):=by
 obtain ⟨b,p,cap,us,rfl,hb,hw,get,hr⟩:=bound_at h hc;rw [dx] at hr;obtain ⟨x0,us1,rfl,h0,h1⟩:=zQ.1 (show zW F w (.val (.int .i64 (-1))::(kx b'++[k9 t,.sl 134 9 e'.length (qJ e'),.val (.int .i64 (0:Nat)),.any])) us from hr);rw [zH] at h0;subst h0;obtain ⟨h2,h3⟩:=h1.split;rw [vS] at h2 h3;obtain ⟨v1,m2,c2,m3,c3,e4,_,_⟩:=vh h2;simp only [zQ,zC,zH,xK] at h3;obtain ⟨y1,_,e5,q1,y2,_,rfl,q2,_,_,rfl,rfl,y4,_,rfl,⟨i4,rfl⟩,rfl⟩:=h3;obtain ⟨sa,sc,rfl⟩:=kP q1;obtain ⟨_,ha,hcap,rfl,_⟩:=zh.1 q2;rw [e4] at h2;have eu:us1=[str (vM b'),.int .i64 v1,.slice m2 (qd b').length c2,.slice m3 (jj b').length c3]++[.slice sa t.args.length sc,.slice ha e'.length hcap,.int .i64 (0:Nat),.int .i64 i4]:=by
  rw [<- Pj 4 us1,e4,e5]
 subst eu;exact ⟨b,p,cap,sa,sc,_,_,_,_,_,_,_,_,_,_,i4,rfl,hb,hw,get 0 _ rfl,get 1 _ rfl,get 2 _ rfl,get 3 _ rfl,get 4 _ rfl,get 5 _ rfl,get 6 _ rfl,get 7 _ rfl,get 8 _ rfl,q1,h2,q2⟩
theorem wM {F:Nat->Prop} {ww:Nat} {D:Int} {o:Option (Bd×Nat×Nat)} {w W:World} {s:Bs} {v:Int} {a1 a2:Option Addr} {n1 c1 n2 c2:Nat}
 (hb:But (· = ww) w W) (hww:ww<w.heap.size) (hr:kU (w.heap.size+1) 0 (.slice none 0 0) (.slice none 0 0) W)
 (hn:o=none->∃ st,Wri W ww (-1) st/\0<=st/\st<=D)
 (hy:∀ x,o=some x->Wri W ww (x.2.1:Nat) (20000-(x.2.2:Nat))/\zW (fun i=>(F i/\i<w.heap.size)\/w.heap.size+2<=i) W (kx x.1) [str s,.int .i64 v,.slice a1 n1 c1,.slice a2 n2 c2]) :
 ∃ W4,W4=((((W.setCell ⟨w.heap.size+1,0,none⟩ (str s)).setCell ⟨w.heap.size+1,1,none⟩ (.int .i64 v)).setCell ⟨w.heap.size+1,2,none⟩ (.slice a1 n1 c1)).setCell ⟨w.heap.size+1,3,none⟩ (.slice a2 n2 c2)) /\
   W4.cell? ⟨w.heap.size+1,0,none⟩=some (str s)/\W4.cell? ⟨w.heap.size+1,1,none⟩=some (.int .i64 v)/\W4.cell? ⟨w.heap.size+1,2,none⟩=some (.slice a1 n1 c1)/\W4.cell? ⟨w.heap.size+1,3,none⟩=some (.slice a2 n2 c2) /\
   vf F ww D o w (.returned (.agg #[str s,.int .i64 v,.slice a1 n1 c1,.slice a2 n2 c2])) W4:=by
 obtain ⟨W4,iB,sR,sD,sN,sL,_,hk⟩:=hr.store (str s) (.int .i64 v) (.slice a1 n1 c1) (.slice a2 n2 c2);have sw:w.heap.size<=w.heap.size+1:=by omega
 refine ⟨W4,iB,sR,sD,sN,sL,s,v,a1,n1,c1,a2,n2,c2,rfl,?_,fun ho=>?_,fun x hx=>?_⟩
 ·rw [iB];exact (((hb.setCell (p:=⟨w.heap.size+1,0,none⟩) (.inr sw) _).setCell (p:=⟨w.heap.size+1,1,none⟩) (.inr sw) _).setCell (p:=⟨w.heap.size+1,2,none⟩) (.inr sw) _).setCell (p:=⟨w.heap.size+1,3,none⟩) (.inr sw) _
 ·obtain ⟨st,h1,h2⟩:=hn ho;exact ⟨st,hk ww _ (by omega) h1,h2⟩
 ·obtain ⟨h1,h2⟩:=hy x hx;refine ⟨hk ww _ (by omega) h1,(Rep.keep fun b ob hf hh=>?_).2 _ _ h2⟩;rcases hf with h | h
  ·exact ⟨.inl h.1,hk b _ (by have:=h.2;omega) hh⟩
  ·exact ⟨.inr (by omega),hk b _ (by omega) hh⟩
theorem top_rep {F:Nat->Prop} {w:World} {f:WFr} {st:List WFr} {sv:Value} (h:Rep F w (.sl 154 6 (st.length+1) (yC (f::st))) sv) :
 ∃ b o cap aE aU iK aV ea ec,sv=.slice (some ⟨b,o,none⟩) (st.length+1) cap/\F b/\b<w.heap.size/\st.length+1<=cap/\w.cell? ⟨b,o+st.length*6,none⟩=some (str [])/\w.cell? ⟨b,o+st.length*6+1,none⟩=some (.int .i64 (f.v:Nat)) /\
   w.cell? ⟨b,o+st.length*6+2,none⟩=some (.slice aE f.ss.length aU)/\w.cell? ⟨b,o+st.length*6+3,none⟩=some (.slice iK 2 aV)/\w.cell? ⟨b,o+st.length*6+4,none⟩=some (.slice ea f.env.length ec)/\w.cell? ⟨b,o+st.length*6+5,none⟩=some (.int .i64 0) /\
   Rep F w (.sl 47 4 2 (zi [f.yes,f.no])) (.slice iK 2 aV)/\Rep F w (.sl 134 9 f.env.length (qJ f.env)) (.slice ea f.env.length ec) /\
   Rep F w (.sl 154 6 st.length (yC st)) (.slice (some ⟨b,o,none⟩) st.length cap):=by
 rw [zh] at h;obtain ⟨hl,a,cap,rfl,hn,hz,h⟩:=h;rcases h with h0 | ⟨b,o,cs,fr,rfl,hb,hcs,hr⟩
 ·omega
 rw [yC] at hr;obtain ⟨h1,h2⟩:=hr.split;rw [pA] at h1 h2;rw [List.take_take,Sd (by omega)] at h1;have get:∀ (j:Nat) (u:Value),(Q_ (st.length*6) (Uz ((st.length+1)*6) (Q_ o cs.toList)))[j]? = some u->w.cell? ⟨b,o+st.length*6+j,none⟩=some u:=by
  intro j u hu;rw [PJ,PI] at hu;split at hu
  ·rw [PJ] at hu;simp only [Li,hcs];simpa [Q6] using hu
  ·simp at hu
 generalize Q_ (st.length*6) (Uz ((st.length+1)*6) (Q_ o cs.toList))=us at h2 get;rw [encF,xD] at h2;simp only [ON,OW,zQ,zC,zH] at h2;obtain ⟨_,_,rfl,rfl,_,_,rfl,rfl,x2,_,rfl,q2,x3,_,rfl,q3,x4,_,rfl,q4,_,_,rfl,rfl,rfl⟩:=h2;obtain ⟨_,aE,aU,e1,_⟩:=zh.1 q2;obtain ⟨_,iK,aV,e2,_⟩:=zh.1 q3;obtain ⟨_,ea,ec,e3,_⟩:=zh.1 q4;subst e1;subst e2;subst e3;exact ⟨b,o,cap,aE,aU,iK,aV,ea,ec,rfl,hb,zZ hcs,hn,get 0 _ rfl,get 1 _ rfl,get 2 _ rfl,get 3 _ rfl,get 4 _ rfl,get 5 _ rfl,q3,q4,zh.2 ⟨pA st,_,cap,rfl,by omega,fun h=>by simp at h,.inr ⟨b,o,cs,fr,rfl,hb,hcs,h1⟩⟩⟩
end Go.Proofs.YtdhaafoiokkbnabGreatDoor

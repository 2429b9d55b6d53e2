/- Walks. -/
import Derived.Laws.IdiomStrings
import Derived.Lib.SliceRun
import Derived.RangeFuncNested
import Derived.RangeFuncBound
import Derived.RangeFuncCalls
import Derived.RangeFuncLeaves
import Derived.RangeFuncFrom
import Derived.RangeFuncBox
import Derived.Shelf.Abstract
import Derived.Shelf.RegionOpen
import Derived.OwnWalkIn
import Derived.TacticsInMore
import Derived.LoopNIn
import Derived.LoopIn
import Derived.Lib.Split
import Derived.Lib.IndexMore
import Derived.Lib.CountLaws
import Derived.Test.YtpgiohmcggllgaaGreatDoorQ4
set_option linter.unusedVariables false
set_option linter.unusedSimpArgs false
set_option maxHeartbeats 4000000
set_option maxRecDepth 100000
open Array renaming replicate_succ->QC,replicate_zero->QD
open Go.IntKind renaming bits->QH,i64->Oi,signed->Qm,u8->SB,wrap->Rt
open Go.Lib renaming count->Ug,countB->Ub,countFrom->SU,cut->RP,decDigits->OC,index->Rp,run_eql_slice_nil->R6,splitK->Ua
open Go.Proofs.Tryz renaming func26->TE,func33->Tz,func46->Tw,func66->Tx,func75->Tv,func81->TC,ntmps26->SS,ntmps33->SR,ntmps46->SP,ntmps66->SQ,ntmps75->SO,prog->KD,underlying77->Pq
open Go.Value renaming ownBlock->N7,slice->Nq
open Go.World renaming cell?->GD
open Int renaming toNat_natCast->Rc
open List renaming append_assoc->OF,append_nil->Ov,append_toArray->QQ,cons_append->Oe,drop_left->Ss,foldl_cons->Ry,getElem?_cons_zero->N9,getElem?_eq_some_iff->N6,isPrefixOf->Pr,length_append->NZ,length_cons->N5,length_nil->OD,map_cons->Ol,mem_cons->Om,mem_cons_of_mem->QR,mem_of_getElem?->Oc,nil_append->OB,push_toArray->Q5,size_toArray->Qk,take_add_one->OG,take_left'->Rz,take_length->Oh
open List.cons renaming injEq->Od
open Nat renaming add_zero->Se,div_le_self->Qz,div_lt_self->PK,lt_or_ge->Qr,mod_lt->PS,reduceAdd->Pa,reduceSub->RO,strongRecOn->Ps,zero_le->Og
open Option renaming bind_eq_bind->NX,bind_eq_some_iff->No,bind_none->Pf,bind_some->Mm,map_eq_some_iff->N3
open Option.some renaming injEq->N1
namespace Go.Proofs.YtpgiohmcggllgaaGreatDoor
open Go.RowKit
theorem mH {W:World} {g r:Nat} (hr:r<10) (h:W.cell? ⟨g,0,none⟩=some (.int .u8 (48+(r:Int)))) :
 (convert 22 9 (.slice (some ⟨g,0,none⟩) 1 1)).run KD W=.ok (str [yH r]) W:=by
 refine run_convert_bytes_back (P:=KD) W 22 9 5 ⟨g,0,none⟩ 1 [yH r] Tryz.underlying22 Tryz.underlying5 Tryz.underlying9 (fun j hj=>?_);have hj0:j=0:=by simpa using hj
 subst hj0;have e:(yH r).toNat=48+r:=by rw [yH,UInt8.toNat_ofNat'];exact Nat.mod_eq_of_lt (by omega)
 show W.cell? ((⟨g,0,none⟩:Addr).add 0)=some (.int .u8 ((yH r).toNat:Int));rw [e];have e2:((48+r:Nat):Int)=48+(r:Int):=by omega
 rw [e2];exact h
theorem dB {r:Nat} (hr:r<10) (w:World):(convert 22 9 (.slice (some ⟨w.heap.size,0,none⟩) 1 1)).run KD (w.alloc (.cells #[.int .u8 (48+(r:Int))] 5))=.ok (str [yH r]) (w.alloc (.cells #[.int .u8 (48+(r:Int))] 5)) :=
 mH hr (by simp)
theorem conv_newd {r:Nat} (hr:r<10) (w:World):(convert 22 9 (.slice (some ⟨w.heap.size,0,none⟩) 1 1)).run KD (w.alloc (.cells #[.int .u8 (48+(r:Int))] 5)).drew=.ok (str [yH r]) (w.alloc (.cells #[.int .u8 (48+(r:Int))] 5)).drew :=
 mH hr (show (w.alloc (.cells #[.int .u8 (48+(r:Int))] 5)).cell? _=_ by simp)
theorem conv_kept {r:Nat} (hr:r<10) {w W:World} (hb:Below (w.alloc (.cells #[.int .u8 (48+(r:Int))] 5)).drew.heap.size (w.alloc (.cells #[.int .u8 (48+(r:Int))] 5)).drew W) :
 (convert 22 9 (.slice (some ⟨w.heap.size,0,none⟩) 1 1)).run KD W=.ok (str [yH r]) W :=
 mH hr ((hb.cell (show w.heap.size<(w.alloc (.cells #[.int .u8 (48+(r:Int))] 5)).heap.size by simp)).trans (show (w.alloc (.cells #[.int .u8 (48+(r:Int))] 5)).cell? _=_ by simp))
theorem l6Dec_small (n:Nat) (hn:n<10) (w:World):Calls KD 75 #[.int .i64 (n:Nat)] w fun en w'=>en=.returned (str (dec n))/\Below w.heap.size w w':=by
 have GY:(n:Int)<10:=by omega
 have e:=mj (jl hn);have hcv:=dB hn w;go_enter Tv,SO;go_wp2_with fail
 go_ret;exact ⟨by rw [e.out];rfl,(mw _ _).alloc (my _) _⟩
theorem bL (w:World) (o:Obj):w.heap.size<=(w.alloc o).drew.heap.size:=by
 show w.heap.size<=(w.alloc o).heap.size;rw [zK];omega
theorem l6Dec_step (n:Nat) (hn:¬ n<10) (hl:n<=16777216) (ih:∀ w,Calls KD 75 #[.int .i64 ((n / 10:Nat):Int)] w fun en w'=>en=.returned (str (dec (n / 10)))/\Below w.heap.size w w') (w:World) :
 Calls KD 75 #[.int .i64 (n:Nat)] w fun en w'=>en=.returned (str (dec n))/\Below w.heap.size w w':=by
 have IH:=mj ih;clear ih;have GY:¬ (n:Int)<10:=by omega
 have e:=mj (vd hn);have q1:(n:Int).tdiv 10=((n / 10:Nat):Int):=cM n 10;have q2:(n:Int).tmod 10=((n % 10:Nat):Int):=wB n 10;have hR:n % 10<10:=PS _ (by omega);have hQ:n / 10<=16777216:=mh (Qz _ _) hl;have hD:(dec (n / 10)).length<=8:=vU 7 (n / 10) (by omega);generalize n % 10=R at *;generalize n / 10=Q at *;have q3:Oi.wrap (Q:Int)=(Q:Int):=xR Q (by omega);have q4:Oi.wrap (48+(R:Int))=48+(R:Int):=by rw [show (48:Int)+R=((48+R:Nat):Int) from by omega];exact xR _ (by omega)
 have q5:SB.wrap (48+(R:Int))=48+(R:Int):=by simp [Rt,QH,Qm];omega
 have HR:=mj hR;have Gh:=fun w0=>k9 (P:=KD) (dec Q) [yH R] (by simp;omega) w0;have hcv:=conv_newd hR w;have hcv0:=fun w0=>dB hR w0;go_enter Tv,SO;go_wp2_with fail
 go_region_with (first
  | (go_at_call 75;refine (IH.out (w.alloc (.cells #[.int .u8 (48+(R:Int))] 5)).drew).mono ?_;rintro en w2 ⟨rfl,me⟩;have hcv2:=conv_kept HR.out me;have hbb:=Below.trans (((mw w.heap.size w).alloc (my _) (.cells #[.int .u8 (48+(R:Int))] 5)).drew) (me.mono (bL w _)))
  | (go_at_call 75;refine (IH.out w.drew).mono ?_;rintro en w2 ⟨rfl,me⟩;have hbb:=Below.trans ((mw w.heap.size w).drew) me))
 all_goals
  go_wp2_with fail
  go_ret;refine ⟨by rw [e.out];rfl,?_⟩
  first
   | exact hbb
   | exact hbb.alloc hbb.size _
theorem l6Dec_any (n:Nat):n<=16777216->∀ w,Calls KD 75 #[.int .i64 (n:Nat)] w fun en w'=>en=.returned (str (dec n))/\Below w.heap.size w w':=by
 induction n using Ps with
 | _ n ih =>
   intro hl w;by_cases h:n<10
   ·exact l6Dec_small n h w
   ·exact l6Dec_step n h hl (ih (n / 10) (PK (by omega) (by omega)) (mh (Qz _ _) hl)) w
def eV (b:Bd):Prop:=∀ (F:Nat->Prop) (w:World) (s v k y:Value),zW F w (kL b) [s,v,k,y] ->
 Calls KD 46 #[.agg #[s,v,k,y]] w fun en w'=>en=.returned (str (kI b))/\Below w.heap.size w w'
abbrev KeepY (g:Nat) (ky:Value) (iK yo:Nat) (s0 v0 p0 q0 s1 v1 p1 q1:Value) (w':World):Prop :=
 w'.cell? ⟨g,3,none⟩=some ky/\w'.cell? ⟨iK,yo,none⟩=some s0/\w'.cell? ⟨iK,yo+1,none⟩=some v0/\w'.cell? ⟨iK,yo+2,none⟩=some p0/\w'.cell? ⟨iK,yo+3,none⟩=some q0 /\
  w'.cell? ⟨iK,yo+4,none⟩=some s1/\w'.cell? ⟨iK,yo+5,none⟩=some v1/\w'.cell? ⟨iK,yo+6,none⟩=some p1/\w'.cell? ⟨iK,yo+7,none⟩=some q1
theorem KeepY.below {g:Nat} {ky:Value} {iK yo:Nat} {s0 v0 p0 q0 s1 v1 p1 q1:Value} {w w':World} (h:KeepY g ky iK yo s0 v0 p0 q0 s1 v1 p1 q1 w) (hb:Below w.heap.size w w'):KeepY g ky iK yo s0 v0 p0 q0 s1 v1 p1 q1 w':=by
 have key:∀ (a:Addr) (v:Value),w.cell? a=some v->w'.cell? a=some v:=fun a v ha=>by
  rw [hb.cell (mx w _ ha)];exact ha
 obtain ⟨h1,h2,h3,h4,h5,h6,h7,h8,h9⟩:=h;exact ⟨key _ _ h1,key _ _ h2,key _ _ h3,key _ _ h4,key _ _ h5,key _ _ h6,key _ _ h7,key _ _ h8,key _ _ h9⟩
theorem l3Text_step (b:Bd) (hl:zX b<=1000000) (sO:lvB b) (ih:∀ b',zX b'<zX b->lvB b'->eV b'):eV b:=by
 intro F w s v k y hv;have e1:=encN_lv hv;subst e1;obtain ⟨_,a2,c2,a3,c3,e,hk,hy⟩:=vc hv;simp only [Od,and_true] at e;obtain ⟨rfl,_,rfl,rfl⟩:=e;cases b with
 | leaf c =>
   clear hv hk hy ih;show Calls KD 46 #[.agg #[str [c],.int .i64 (0:Nat),.slice a2 0 c2,.slice a3 0 c3]] w _;go_enter Tw,SP;go_wp2_with fail
   go_ret;exact ⟨rfl,(mw _ _).alloc (my _) _⟩
 | ask lv ss yb nb =>
   have IH:=mj ih;clear ih;have hsz:=ug (.ask lv ss yb nb);rw [fw,jy] at hsz;change zX (.ask lv ss yb nb)=1+(zR ss+zR [yb,nb]) at hsz;have FH:zR [yb,nb]=zX yb+zX nb:=by simp [zR]
   rw [lvB] at sO;obtain ⟨lv1,lv2,lv3,lv4⟩:=sO;have t1:=yu ss lv2;have t2:=jk yb lv3;have t3:=jk nb lv4;have t4:(dec lv).length<=5:=vU 4 lv (by omega);obtain ⟨_,_,ek,atk⟩:=bH.of hk;simp only [Value.slice.injEq,true_and] at ek;rw [<- ek.1] at atk;clear ek;obtain ⟨_,_,ek,aty⟩:=bH.of hy;simp only [Value.slice.injEq,true_and] at ek;rw [<- ek.1] at aty;clear ek;change bH F w ss a2 at atk;change bH F w [yb,nb] a3 at aty;obtain ⟨iK,yo,s0,v0,p2,m2,d2,p3,m3,d3,yt,ey,hyb0,KK,u0,u1,u2,u3,GM⟩:=aty 0 (by simp);obtain ⟨yb1,yo1,s1,v1,p4,m4,d4,p5,m5,d5,nt,Jq,hyb1,lg,z0,z1,z2,z3,Ch⟩:=aty 1 (by simp);rw [ey] at Jq;simp only [N1,Addr.mk.injEq,and_true] at Jq;obtain ⟨rfl,rfl⟩:=Jq;simp only [N9,N1] at KK;simp only [List.getElem?_cons_succ,N9,N1] at lg;subst KK;subst lg;simp only [Nat.zero_mul,Se] at u0 u1 u2 u3;simp only [Nat.one_mul,Nat.add_assoc,Pa] at z0 z1 z2 z3;have nss:ss.length<=16777216:=by have:=qL ss;omega
   have Jv:=mj hsz;have HYN:=mj FH;have ATK:=mj atk;have LV:=mj lv2;have LV3:=mj lv3;have LV4:=mj lv4;have lvl:lv<=16777216:=by omega
   have L5:KeepY w.heap.size (.slice a3 2 c3) iK yo (str s0) (.int .i64 v0) (.slice p2 m2 d2) (.slice p3 m3 d3) (str s1) (.int .i64 v1) (.slice p4 m4 d4) (.slice p5 m5 d5) (w.alloc (.cells #[str [],.int .i64 lv,.slice a2 ss.length c2,.slice a3 2 c3] 47)) :=
    ⟨by simp,zV u0,zV u1,zV u2,zV u3,zV z0,zV z1,zV z2,zV z3⟩
   have Kp:=mj L5;have Jy:=mj GM;have HRN:=mj Ch;subst ey;clear hv hk hy atk aty hsz FH lv2 lv3 lv4 u0 u1 u2 u3 z0 z1 z2 z3 GM Ch L5;show Calls KD 46 #[.agg #[str [],.int .i64 lv,.slice a2 ss.length c2,.slice (some ⟨iK,yo,none⟩) 2 c3]] w _;have MX:=fun w0=>k9 (P:=KD) [40] (dec lv) (by simp;omega) w0;go_enter Tw,SP;go_wp2_with fail
   refine (l6Dec_any lv lvl _).mono ?_;rintro en w1 ⟨rfl,mi⟩;have tY:Below w.heap.size w w1:=Below.trans ((mw w.heap.size w).alloc (my _) (.cells #[str [],.int .i64 lv,.slice a2 ss.length c2,.slice (some ⟨iK,yo,none⟩) 2 c3] 47)) (mi.mono (by simp));have lw:w1.cell? ⟨w.heap.size,2,none⟩=some (.slice a2 ss.length c2):=(mi.cell (by simp)).trans (by simp);have NM:=mj (Kp.out.below mi);go_wp2_with fail
   clear MX
   go_loopw [3,4] (fun o i wr=>∃ k:Nat,k<=ss.length/\i=.int .i64 k/\o=str ([40]++dec lv++kq (ss.take k))/\Below w.heap.size w wr/\wr.cell? ⟨w.heap.size,2,none⟩=some (.slice a2 ss.length c2)/\KeepY w.heap.size (.slice (some ⟨iK,yo,none⟩) 2 c3) iK yo (str s0) (.int .i64 v0) (.slice p2 m2 d2) (.slice p3 m3 d3) (str s1) (.int .i64 v1) (.slice p4 m4 d4) (.slice p5 m5 d5) wr) (fun _ i _=>ss.length-(intOf i).toNat)
   case atStart=>exact ⟨0,Og _,rfl,by simp [kq],tY,lw,NM.out⟩
   case round =>
    clear lw NM Kp tY;obtain ⟨k,hk,rfl,rfl,hb,lw,L5⟩:=hrel;have Kp:=mj L5;clear L5;have hlen:([40]++dec lv++kq (ss.take k)).length<=16777216:=by
     have h1:=ed ss k;have h2:=Jv.out;simp only [NZ,N5,OD];omega
    by_cases m_:k<ss.length
    ·obtain ⟨bb,o,s',v',b2,n2,e2,b3,n3,e3,t,eb,hbb,ht,u0,u1,u2,u3,hr⟩:=ATK.out k m_;subst eb;have q0:=(hb.cell hbb).trans u0;have q1:=(hb.cell hbb).trans u1;have q2:=(hb.cell hbb).trans u2;have q3:=(hb.cell hbb).trans u3;have aH:=zW.below (F':=fun _=>True) hb (fun _ _=>trivial) hr;have rz:=ye ht;have t6:=vX ss (k+1);have lY:=Jv.out;have tK:=jk t (e_ _ LV.out k t ht);have C:=mj (IH.out t (by omega) (e_ _ LV.out k t ht) _ wr _ _ _ _ aH);have HT:=mj (textBs_take ht);have ht16:(kI t).length<=16777216:=by omega
     have rF:(k:Int)<(ss.length:Int):=by omega
     generalize hO:[40]++dec lv++kq (ss.take k)=O at *;have HO:=mj hO;have oI:=fun w0=>k9 (P:=KD) O [32] (by simp;omega) w0;have oL:=fun w0=>k9 (P:=KD) (O++[32]) (kI t) (by simp;omega) w0;clear hO rz t6 lY tK ht u0 u1 u2 u3 hr aH;go_wp2_with fail
     refine C.out.mono ?_;rintro en w2 ⟨rfl,me⟩;have nZ:=zzT hb me;have hx2':w2.cell? ⟨w.heap.size,2,none⟩=some (.slice (some ⟨bb,o,none⟩) ss.length c2):=(me.cell (mx _ ⟨w.heap.size,2,none⟩ lw)).trans lw;have HKY2:=mj (Kp.out.below me);go_wp2_with fail
     go_roundw
     case rel=>exact ⟨k+1,by omega,by go_num,by rw [HT.out,<- HO.out];simp [str],nZ,hx2',HKY2.out⟩
     case measure=>simp [intOf];omega
    ·obtain rfl:k=ss.length:=by omega
     rw [Oh] at hlen ⊢;have ia:¬ ((ss.length:Int)<(ss.length:Int)):=by omega
     have HE:Hid (kI (.ask lv ss yb nb)=((((([40]++dec lv++kq ss)++[32])++kI yb)++[32])++kI nb)++[41]):=by show kI _=_;rw [kI]
     generalize hO:[40]++dec lv++kq ss=O at *;clear hO;obtain ⟨AD,q0,q1,q2,q3,q4,q5,q6,q7⟩:=Kp.out;have Li:=(zW.below (F':=fun _=>True) hb (fun _ _=>trivial) Jy.out).drew;have Lq:=zW.below (F':=fun _=>True) hb (fun _ _=>trivial) HRN.out;have lY:=Jv.out;have tK:=HYN.out;have y16:(kI yb).length<=16777216:=by omega
     have n16:(kI nb).length<=16777216:=by omega
     have pp:=kW yb;have pq:=kW nb;have CY:=mj (IH.out yb (by omega) LV3.out _ wr.drew _ _ _ _ Li);have CN:=fun W F' h=>IH.out nb (by omega) LV4.out F' W (str s1) (.int .i64 v1) (.slice p4 m4 d4) (.slice p5 m5 d5) h;have CN':=mj CN;clear CN;have RN:=mj Lq;have e16:(O++[32]).length=O.length+1:=by simp
     obtain ⟨O1,h1⟩:=zzM (O++[32]);obtain ⟨O2,h2⟩:=zzM (O1++kI yb);obtain ⟨O3,h3⟩:=zzM (O2++[32]);obtain ⟨O4,h4⟩:=zzM (O3++kI nb);obtain ⟨O5,h5⟩:=zzM (O4++[41]);have l1:O1.length<=16777217:=by rw [h1];simp;omega
     have l2:O2.length<=33554433:=by rw [h2];simp;omega
     have l3:O3.length<=33554434:=by rw [h3];simp;omega
     have l4:O4.length<=50331650:=by rw [h4];simp;omega
     have oI:=fun w0=>k9 (P:=KD) O [32] (by simp;omega) w0;have oL:=fun w0=>k9 (P:=KD) O1 (kI yb) (by omega) w0;have AZ:=fun w0=>k9 (P:=KD) O2 [32] (by simp;omega) w0;have AX:=fun w0=>k9 (P:=KD) O3 (kI nb) (by omega) w0;have MW:=fun w0=>k9 (P:=KD) O4 [41] (by simp;omega) w0;have HE5:Hid (O5=kI (.ask lv ss yb nb)):=by show O5=_;rw [HE.out,h5,h4,h3,h2,h1]
     rw [<- h1] at oI;rw [<- h2] at oL;rw [<- h3] at AZ;rw [<- h4] at AX;rw [<- h5] at MW;clear h1 h2 h3 h4 h5 HE e16 l1 l2 l3 l4;have hKd:KeepY w.heap.size (.slice (some ⟨iK,yo,none⟩) 2 c3) iK yo (str s0) (.int .i64 v0) (.slice p2 m2 d2) (.slice p3 m3 d3) (str s1) (.int .i64 v1) (.slice p4 m4 d4) (.slice p5 m5 d5) wr.drew:=Kp.out;clear lY tK pp pq Li Lq t1 t2 t3 t4;go_wp2_with fail
     go_region_held3 (fun w'=>w'.cell? ⟨w.heap.size,3,none⟩=some (.slice (some ⟨iK,yo,none⟩) 2 c3)/\w'.cell? ⟨iK,yo,none⟩=some (str s0)/\w'.cell? ⟨iK,yo+1,none⟩=some (.int .i64 v0)/\w'.cell? ⟨iK,yo+2,none⟩=some (.slice p2 m2 d2)/\w'.cell? ⟨iK,yo+3,none⟩=some (.slice p3 m3 d3)/\w'.cell? ⟨iK,yo+4,none⟩=some (str s1)/\w'.cell? ⟨iK,yo+5,none⟩=some (.int .i64 v1)/\w'.cell? ⟨iK,yo+6,none⟩=some (.slice p4 m4 d4)/\w'.cell? ⟨iK,yo+7,none⟩=some (.slice p5 m5 d5))
      (first
       | with_reducible exact hKd
       | with_reducible exact FA
       | with_reducible exact hK4)
      (first
       | (go_at_call 46;refine (CN'.out _ _ rn3).mono ?_;rintro en w4 ⟨rfl,nS⟩;have hK4:=FA.below nS)
       | (go_at_call 46;refine CY.out.mono ?_;rintro en w3 ⟨rfl,nZ⟩;have FA:=hKd.below nZ;have rn3:=zW.below (F':=fun _=>True) nZ (fun _ _=>trivial) RN.out.drew))
     go_wp2_with fail
     go_ret;exact ⟨by rw [<- HE5.out];rfl,hb.trans ((((mw _ wr).drew).trans (zzT nZ nS)).mono hb.size)⟩
theorem l3Text_any (n:Nat):∀ b,zX b<=n->n<=1000000->lvB b->eV b:=by
 induction n with
 | zero=>intro b h _;have:=kW b;omega
 | succ n ih=>exact fun b h hn sO=>l3Text_step b (by omega) sO (fun b' h' iU=>ih b' (by omega) (by omega) iU)
theorem mB (n:Nat) (s:Value) (xs:List Value) (w:World) (h:zq 1 s n xs w) (hn:Lim n) :
 Calls KD 66 #[s] w fun en w' =>
  ∃ a c,en=.returned (.slice a n c)/\Own w' 33 1 (.slice a n c) n xs/\Below w.heap.size w w'/\(∀ g,(Nq a n c).ownBlock=some g->w.heap.size<=g):=by
 have hl:=hn.le;obtain ⟨a,c,e⟩:=h.slice;subst e;cases a with
 | none =>
   have h0:n=0/\c=0:=by
    obtain ⟨_,_,⟨a',c',e,_⟩ | ⟨e,h0⟩⟩:=h
    ·simp at e
    ·simp at e;exact e
   obtain ⟨rfl,rfl⟩:=h0;have hx:xs=[]:=List.eq_nil_of_length_eq_zero (by simpa using h.1);subst hx;have q:=fun w=>R6 (P:=KD) w 77 33 none 0 0 0 0 Pq;go_enter Tx,SQ;go_wp2_with fail
   go_ret;exact ⟨none,0,rfl,World.ownsRow_nil _ _ _ _,mw _ _,fun g h=>by simp [N7] at h⟩
 | some a =>
   have q:=fun w=>R6 (P:=KD) w 77 33 (some a) n c 0 0 Pq;go_enter Tx,SQ;go_wp2_with (at_builtin;refine zE rfl _ _ 77 rfl 33 (.pointer none) 1 8 Pq Tryz.infoB rfl (by decide) _ 0 [] rfl ?c1 _ n xs rfl ?c2 ?c3 ?c4 ?_)
   case c1=>exact Own.lit #[] 0 (by decide) rfl
   case c2=>exact h.keep fun _ _ h=>zV h
   case c3=>unfold maxLen;omega
   case c4=>omega
   intro a' c' w' ho hb hg;go_wp2_with fail
   go_ret;refine ⟨a',c',rfl,ho,((mw w.heap.size w).alloc (my _) _).trans (hb.toBelow (by simp) (fun i hi e=>by simp [N7] at e;omega)),fun g h=>?_⟩;rcases hg g h with h | h
   ·simp [N7] at h;omega
   ·omega
def bU (F:Nat->Prop) (w:World) (b:Bd) (en:Ending) (w':World):Prop :=
 ∃ v,en=.returned v/\Below w.heap.size w w'/\Rep (fun k=>F k\/w.heap.size<=k) w' (.sl 33 1 (kh b).length (jV (kh b))) v
theorem parts_leaf (F:Nat->Prop) (w:World) (c:UInt8) (v:Value) (h:Rep F w (k_ (.leaf c)) v) :
 Calls KD 33 #[v] w (bU F w (.leaf c)):=by
 obtain ⟨a,e⟩:=za h;subst e;go_enter Tz,SR;go_wp2_with fail
 refine (y_ F w c _ h).mono ?_;rintro en w' ⟨rfl,e⟩;subst e;go_wp2_with fail
 go_ret;exact ⟨_,rfl,mw _ _,zg.2 ⟨rfl,none,0,rfl,my _,fun _=>rfl,.inl rfl⟩⟩
theorem but_below {w wc w6:World} {o:Obj} {v:Value} (hbb:Below w.heap.size w wc) (nJ:But (fun b=>v.ownBlock=some b) (wc.alloc o) w6)
 (AO:∀ g,v.ownBlock=some g->w.heap.size<=g):Below w.heap.size w w6:=by
 refine (hbb.alloc hbb.size _).trans (nJ.toBelow ?_ ?_)
 ·have:=hbb.size;show w.heap.size<=(wc.heap.push o).size;rw [Array.size_push];omega
 ·intro i hi e;have h:w.heap.size<=i:=AO i e;omega
theorem but_below2 {w wc w6:World} {v:Value} (hbb:Below w.heap.size w wc) (nJ:But (fun b=>v.ownBlock=some b) wc w6)
 (AO:∀ g,v.ownBlock=some g->w.heap.size<=g):Below w.heap.size w w6:=by
 refine hbb.trans (nJ.toBelow hbb.size ?_);intro i hi e;have h:w.heap.size<=i:=AO i e;omega
theorem own_1 {w wc:World} {o:Obj} {v v':Value} (hbb:Below w.heap.size w wc) (AO:∀ g,v.ownBlock=some g->w.heap.size<=g)
 (hg:∀ g,v'.ownBlock=some g->v.ownBlock=some g\/g=(wc.alloc o).heap.size):∀ g,v'.ownBlock=some g->w.heap.size<=g:=by
 intro g h;rcases hg g h with h | h
 ·exact AO g h
 ·have:=hbb.size;rw [h,zK];omega
theorem own_2 {w wc:World} {v v':Value} (hbb:Below w.heap.size w wc) (AO:∀ g,v.ownBlock=some g->w.heap.size<=g)
 (hg:∀ g,v'.ownBlock=some g->v.ownBlock=some g\/g=wc.heap.size):∀ g,v'.ownBlock=some g->w.heap.size<=g:=by
 intro g h;rcases hg g h with h | h
 ·exact AO g h
 ·have:=hbb.size;rw [h];omega
theorem own_ad {w:World} {o:Obj} {v:Value} (h:∀ g,v.ownBlock=some g->(w.alloc o).drew.heap.size<=g):∀ g,v.ownBlock=some g->w.heap.size<=g:=by
 intro g hg;have:=h g hg;have h2:(w.alloc o).drew.heap.size=w.heap.size+1:=zK w o;omega
theorem parts_ask (F:Nat->Prop) (w:World) (v:Nat) (ss:List Bd) (y n:Bd) (p:Value) (h:Rep F w (k_ (.ask v ss y n)) p) (hn:Lim (ss.length+2)) :
 Calls KD 33 #[p] w (bU F w (.ask v ss y n)):=by
 obtain ⟨b,sl,yv,nv,e,M9,hc,sB,hy,hnn⟩:=yX h;subst e;obtain ⟨xs,Al,rO⟩:=zq.ofRep sB (oneCell_encBs _);obtain ⟨sa,sc,esl⟩:=rO.slice;subst esl;obtain ⟨ya,ey⟩:=za hy;obtain ⟨na,ena⟩:=za hnn;subst ey;subst ena;have c2:w.cell? ⟨b,2,none⟩=some (.slice sa ss.length sc):=by simp [GD,hc]
 have c3:w.cell? ⟨b,3,none⟩=some (.pointer (some ⟨ya,0,none⟩)):=by simp [GD,hc]
 have c4:w.cell? ⟨b,4,none⟩=some (.pointer (some ⟨na,0,none⟩)):=by simp [GD,hc]
 have lb:=zZ hc;have hl:=hn.le;clear hc;go_enter Tz,SR;go_wp2_with fail
 refine (xq F w v ss y n _ h).mono ?_;rintro en w' ⟨rfl,e⟩;obtain rfl:w=w':=e.symm;go_wp2_with fail
 have hn0:Lim ss.length:=hn.mono (by omega);have hm:ss.length+2<=maxLen:=by unfold maxLen;omega
 have sT:(ss.length+2)*8<=140737488355328:=by omega
 have h01:0<1:=by omega
 have Dl:∀ u∈(#[.pointer (some ⟨ya,0,none⟩),.pointer (some ⟨na,0,none⟩)]:Array Value).toList,u.oneCell'=true:=by simp [Value.oneCell']
 have HO:=mj Dl;clear Dl
 go_region_held3 (fun w'=>w'.cell? ⟨b,2,none⟩=some (.slice sa ss.length sc)/\w'.cell? ⟨b,3,none⟩=some (.pointer (some ⟨ya,0,none⟩))/\w'.cell? ⟨b,4,none⟩=some (.pointer (some ⟨na,0,none⟩)))
  (first
   | exact ⟨(At.cell lb).trans c2,(At.cell lb).trans c3,(At.cell lb).trans c4⟩
   | exact ⟨(hbb.cell lb).trans c2,(hbb.cell lb).trans c3,(hbb.cell lb).trans c4⟩
   | go_keep)
  (first
   | (go_at_call 66;refine (mB ss.length _ xs _ rO.drew hn0).mono ?_;rintro en wc ⟨ac,kc,rfl,IL,G7,I4⟩;have hbb:Below w.heap.size w wc:=(mw w.heap.size w).drew.trans G7;have AO:∀ g,(Nq ac ss.length kc).ownBlock=some g->w.heap.size<=g:=I4)
   | (go_at_call 66;refine (mB ss.length _ xs _ (rO.alloc _).drew hn0).mono ?_;rintro en wc ⟨ac,kc,rfl,IL,G7,I4⟩;have F2:=(zq.lits #[.pointer (some ⟨ya,0,none⟩),.pointer (some ⟨na,0,none⟩)] 2 rfl HO.out _ rfl).drew.below G7;have hbb:Below w.heap.size w wc:=below_ad G7;have AO:=own_ad I4)
   | (refine zS (by rfl) _ _ _ (by rfl) 33 (.pointer none) 1 8 Pq Tryz.infoB rfl h01 (.slice ac ss.length kc) ss.length xs (by rfl) IL _ 2 [.pointer (some ⟨ya,0,none⟩),.pointer (some ⟨na,0,none⟩)] (by rfl) F2 hm sT ?_;intro a' c' w6 sh nJ sZ;have At:Below w.heap.size w w6:=but_below2 hbb nJ AO;have hFg:=own_2 hbb AO sZ)
   | (refine zS (by rfl) _ _ _ (by rfl) 33 (.pointer none) 1 8 Pq Tryz.infoB rfl h01 (.slice ac ss.length kc) ss.length xs (by rfl) (IL.alloc _) _ 2 [.pointer (some ⟨ya,0,none⟩),.pointer (some ⟨na,0,none⟩)] (by rfl) (zq.lits #[.pointer (some ⟨ya,0,none⟩),.pointer (some ⟨na,0,none⟩)] 2 rfl HO.out _ rfl) hm sT ?_;intro a' c' w6 sh nJ sZ;have At:Below w.heap.size w w6:=but_below hbb nJ AO;have hFg:=own_1 hbb AO sZ))
 all_goals
  go_wp2_with fail
  go_ret;refine ⟨_,rfl,At,?_⟩;have:(kh (.ask v ss y n)).length=ss.length+2:=by simp [kh]
  rw [this];refine sh.rep (fun g h=>.inr (hFg g h)) ?_;show zW _ _ (jV (ss++[y,n])) _;rw [dP];refine zW.append (zW.below At (fun _ h=>.inl h) Al) ?_;exact zQ.2 ⟨_,_,rfl,Rep.below At (fun _ h=>.inl h) hy,zW.one (Rep.below At (fun _ h=>.inl h) hnn)⟩
theorem dw (F:Nat->Prop) (w:World) (b:Bd) (v:Value) (h:Rep F w (k_ b) v) (hn:Lim (zX b)) :
 Calls KD 33 #[v] w (bU F w b):=by
 cases b with
 | leaf c=>exact parts_leaf F w c v h
 | ask u ss y n=>exact parts_ask F w u ss y n v h (hn.mono (by
  have:=qL ss;have:=kW y;have:=kW n;simp [zX];omega))
def d9 (b:Bd):Prop:=∀ (F:Nat->Prop) (w:World) (v:Value),Rep F w (k_ b) v ->
 Calls KD 107 #[v] w fun en w'=>en=.returned (.int .i64 (kz b:Nat))/\Below w.heap.size w w'
theorem depth_step (b:Bd) (hl:Lim (zX b)) (ih:∀ t,zX t<zX b->d9 t):d9 b:=by
 intro F w v hv;have IH:=mj ih;clear ih;have iU:=hl.le;obtain ⟨a0,e⟩:=za hv;subst e;have hsz:=ug b;have J3:=bZ _ b (my _);go_enter Tryz.func107,Tryz.ntmps107;go_wp2_with fail
 refine (dw F w b _ hv hl).mono ?_;rintro en w1 ⟨pv,rfl,mi,hp⟩;obtain ⟨pa,pc,e,_,_,ml⟩:=zP hp;subst e;have AT:=mj ml;clear ml hp;have hlen:=qL (kh b);have HS:=mj hsz;clear hsz;have L0:(kh b).length<=16777216:=by have:=HS.out;omega
 go_wp2_with fail
 go_loopw [3,9] (fun n i wr=>∃ k:Nat,k<=(kh b).length/\i=.int .i64 k/\n=.int .i64 (( k8 ((kh b).take k):Nat):Int)/\Below w1.heap.size w1 wr) (fun _ i _=>(kh b).length-(intOf i).toNat)
 case atStart=>exact ⟨0,Og _,rfl,by simp [k8],mw _ _⟩
 case round =>
  rename_i wr;obtain ⟨k,hk,rfl,rfl,hb⟩:=hrel;by_cases m_:k<(kh b).length
  ·obtain ⟨ba,oa,u,d,ea,_,Jb,hd,hu,hr⟩:=AT.out k m_;subst ea;rw [xv,N3] at hd;obtain ⟨t,ht,rfl⟩:=hd;obtain ⟨ta,eu⟩:=za hr;subst eu;have hc:wr.cell? ⟨ba,oa+k,none⟩=some (.pointer (some ⟨ta,0,none⟩)):=by rw [hb.cell Jb];exact hu
   have aG:=depthBs_take ht;have Ao:=ye ht;have rL:=vX (kh b) (k+1);have aH:Rep _ wr (k_ t) (.pointer (some ⟨ta,0,none⟩)):=Rep.below hb (fun _ h=>h) hr;have hsz:=HS.out;have od:zX t<zX b:=by omega
   have hdt:=bZ _ t (my _);have IH':=mj (IH.out t od);have Aq:k8 ((kh b).take k)<=16777216:=by have h:=mX (ts:=(kh b).take k) (fun t _=>bZ _ t (my _));have:=vX (kh b) k;omega
   have htd:kz t<=16777216:=by omega
   have HT:=mj aG;clear aG Ao hsz ht hu hr;go_wp2_with fail
   refine (IH'.out _ _ _ aH).mono ?_;rintro en w2 ⟨rfl,me⟩;have nZ:=zzT hb me;go_wp2_with fail
   all_goals
    go_roundw
    case rel=>exact ⟨k+1,by omega,by go_num,by rw [HT.out];congr 1;omega,nZ⟩
    case measure=>simp [intOf];omega
  ·obtain rfl:k=(kh b).length:=by omega
   go_wp2_with fail
   go_ret;refine ⟨un ?_,zzT mi hb⟩;rw [Oh,xD b]
theorem depth_any (n:Nat):∀ b,zX b<=n->Lim n->d9 b:=by
 induction n with
 | zero=>intro b h _;have:=kW b;omega
 | succ n ih=>exact fun b h hn=>depth_step b (hn.mono h) (fun t h'=>ih t (by omega) (hn.mono (by omega)))
def fR (b:Bd):Prop:=∀ (F:Nat->Prop) (w:World) (v:Value),Rep F w (k_ b) v ->
 Calls KD 62 #[v] w fun en w'=>en=.returned (.int .i64 (zX b:Nat))/\Below w.heap.size w w'
theorem size_step (b:Bd) (hl:Lim (zX b)) (ih:∀ t,zX t<zX b->fR t):fR b:=by
 intro F w v hv;have IH:=mj ih;clear ih;have iU:=hl.le;obtain ⟨a0,e⟩:=za hv;subst e;have hsz:=ug b;go_enter Tryz.func62,Tryz.ntmps62;go_wp2_with fail
 refine (dw F w b _ hv hl).mono ?_;rintro en w1 ⟨pv,rfl,mi,hp⟩;obtain ⟨pa,pc,e,_,_,ml⟩:=zP hp;subst e;have AT:=mj ml;clear ml hp;have hlen:=qL (kh b);have HS:=mj hsz;clear hsz;have L0:(kh b).length<=16777216:=by have:=HS.out;omega
 go_wp2_with fail
 go_loopw [3,9] (fun n i wr=>∃ k:Nat,k<=(kh b).length/\i=.int .i64 k/\n=.int .i64 ((1+zR ((kh b).take k):Nat):Int)/\Below w1.heap.size w1 wr) (fun _ i _=>(kh b).length-(intOf i).toNat)
 case atStart=>exact ⟨0,Og _,rfl,by simp [zR],mw _ _⟩
 case round =>
  rename_i wr;obtain ⟨k,hk,rfl,rfl,hb⟩:=hrel;by_cases m_:k<(kh b).length
  ·obtain ⟨ba,oa,u,d,ea,_,Jb,hd,hu,hr⟩:=AT.out k m_;subst ea;rw [xv,N3] at hd;obtain ⟨t,ht,rfl⟩:=hd;obtain ⟨ta,eu⟩:=za hr;subst eu;have hc:wr.cell? ⟨ba,oa+k,none⟩=some (.pointer (some ⟨ta,0,none⟩)):=by rw [hb.cell Jb];exact hu
   have Ao:=ye ht;have rL:=vX (kh b) (k+1);have aH:Rep _ wr (k_ t) (.pointer (some ⟨ta,0,none⟩)):=Rep.below hb (fun _ h=>h) hr;have hsz:=HS.out;have od:zX t<zX b:=by omega
   have IH':=mj (IH.out t od);have Aq:1+zR ((kh b).take k)<=16777216:=by omega
   have htd:zX t<=16777216:=by omega
   have D9:1+zR ((kh b).take k)+zX t<=16777216:=by omega
   have HT:=mj Ao;clear Ao hsz ht hu hr;go_wp2_with fail
   refine (IH'.out _ _ _ aH).mono ?_;rintro en w2 ⟨rfl,me⟩;have nZ:=zzT hb me;go_wp2_with fail
   all_goals
    go_roundw
    case rel=>exact ⟨k+1,by omega,by go_num,by rw [HT.out];congr 1;omega,nZ⟩
    case measure=>simp [intOf];omega
  ·obtain rfl:k=(kh b).length:=by omega
   have Aq:1+zR (kh b)<=16777216:=by have:=HS.out;omega
   rw [Oh];go_wp2_with fail
   go_ret;exact ⟨un (by rw [HS.out]),zzT mi hb⟩
theorem fM (n:Nat):∀ b,zX b<=n->Lim n->fR b:=by
 induction n with
 | zero=>intro b h _;have:=kW b;omega
 | succ n ih=>exact fun b h hn=>size_step b (hn.mono h) (fun t h'=>ih t (by omega) (hn.mono (by omega)))
end Go.Proofs.YtpgiohmcggllgaaGreatDoor
namespace Go.Proofs.YtpgiohmcggllgaaGreatDoor
open Go.RowKit Go.Shelf
attribute [local go_sem] Oper.semAt_some
def KpB (n₀:Nat) (p:Addr) (sv:Value) (W W':World):Prop:=Below n₀ W W'/\(W.cell? p=some sv->W'.cell? p=some sv)
theorem kpB_t {n₀:Nat} {p:Addr} {sv:Value} {A B C:World} (h:KpB n₀ p sv A B) (k:KpB n₀ p sv B C):KpB n₀ p sv A C:=⟨h.1.trans k.1,fun e=>k.2 (h.2 e)⟩
theorem kpB_b {n₀:Nat} {p:Addr} {sv:Value} {w:World} (hn:n₀<=w.heap.size) (W:World) (l:Nat) (o o':Obj) (hl:w.heap.size<=l) (h:W.heap[l]? = some o) (hc:o.isCells=false) (hw:o.isWalk=false):KpB n₀ p sv W (W.putObj l o') :=
 ⟨belowK_b hn W l o o' hl h hc hw,fun e=>cell_kept e (grownBy_putObj' _ l o') (fun r e=>by cases e;exact ⟨_,h,hc⟩)⟩
def BackAt {α:Type} (ix bl:α->Nat) (n₀:Nat) (w:World) (a:Option Addr) (xs:List α):Prop :=
 ∀ k x,xs[k]? = some x->ix x+k+1=xs.length/\∃ b o,a=some ⟨b,o,none⟩/\b<n₀/\w.cell? ⟨b,o+ix x,none⟩=some (.pointer (some ⟨bl x,0,none⟩))
theorem back1_in {α:Type} (ix bl:α->Nat) (F:Fence) (n:Nat) (hf:F.fn 81) (Lp:F.round=none) (hn:1<=n) (l Bs n₀ cap:Nat) (a:Option Addr) (xs:List α) (hlen:xs.length<=16777216) (J Jx:List α->World->Prop)
 (hY:∀ pre x W,J pre W->pre.length<xs.length->YieldAt F (n-1) KD l #[.int .i64 (ix x:Nat),.pointer (some ⟨bl x,0,none⟩)] W fun e W' =>
  (e=.returned (.bool true)/\J (pre++[x]) W'/\KpB n₀ ⟨Bs,0,none⟩ (.slice a xs.length cap) W W')\/(e=.returned (.bool false)/\Jx (pre++[x]) W'))
 (W:World) (hBs:W.cell? ⟨Bs,0,none⟩=some (.slice a xs.length cap)) (hc:BackAt ix bl n₀ W a xs) (h0:J [] W) :
 CallsIn F n KD 81 #[.func (.yield l) #[] #[],.pointer (some ⟨Bs,0,none⟩)] W fun e W'=>(∃ v,e=.returned v) /\
  ((∃ ys,ys=xs/\J ys W')\/(∃ pre,pre <+: xs/\Jx pre W')):=by
 refine callsIn_of_wp TC rfl hf ?_ Lp;simp only [Tryz.ntmps81,Qk,N5,OD,Pa,RO,QC,QD,Q5,QQ,OB,Oe];have Fi:Oi.wrap ((xs.length:Int)-1)=(xs.length:Int)-1:=IntWalk.i64_in _ (by omega)
 gi_wp2
 clear Fi
 gi_loopw [3] (fun i wr=>Below n₀ W wr/\wr.cell? ⟨Bs,0,none⟩=some (.slice a xs.length cap)/\((i=.int .i64 (-1)/\J xs wr)\/(∃ j:Nat,j<xs.length/\i=.int .i64 (j:Nat)/\J (xs.take (xs.length-1-j)) wr)))
  (fun i _=>(intOf i+1).toNat)
 case atStart =>
  refine ⟨mw _ _,hBs,?_⟩;cases hx:xs with
  | nil=>subst hx;exact .inl ⟨by simp,h0⟩
  | cons x ys=>subst hx;exact .inr ⟨ys.length,by simp,by simp,by simpa using h0⟩
 case round =>
  obtain ⟨nw,hbs,⟨rfl,hJs⟩ | ⟨j,hj,rfl,hJs⟩⟩:=hrel
  ·gi_wp2
   go_end0
   exact ⟨⟨_,rfl⟩,.inl ⟨_,rfl,hJs⟩⟩
  ·have hj0:(0:Int)<=(j:Int):=by omega
   obtain ⟨x,hx⟩:∃ x,xs[xs.length-1-j]? = some x:=⟨xs[xs.length-1-j],by simp [show xs.length-1-j<xs.length from by omega]⟩;obtain ⟨e1,b,o,rfl,hb,rI⟩:=hc _ x hx;have e2:ix x=j:=by omega
   have hcx:=(nw.cell (p:=⟨b,o+ix x,none⟩) hb).trans rI;obtain ⟨fn,tmps,assign,body,hy,hR⟩:=hY _ x wr hJs (by rw [List.length_take];omega);rw [e2] at hcx hy;have sQ:xs.take (xs.length-1-j)++[x]=xs.take (xs.length-1-j+1):=by rw [OG,hx];rfl
   have HX:=mj (mu e1 (mu e2 (mu hx sQ)));clear hx e1 e2 sQ rI;have Cq:(j:Int)<(xs.length:Int):=by omega
   have GC:Oi.wrap ((j:Int)-1)=(j:Int)-1:=IntWalk.i64_in _ (by omega)
   gi_wp2
   refine hR.mono ?_;rintro e W3 (⟨rfl,M7,L6⟩ | ⟨rfl,hJx3⟩)
   ·have hbs3:=L6.2 hbs;have hbw3:=nw.trans L6.1
    gi_wp2
    go_roundw
    case rel =>
     refine ⟨hbw3,hbs3,?_⟩;rw [HX.out.2.2.2] at M7;cases j with
     | zero =>
       left;refine ⟨by simp,?_⟩;rw [show xs.length-1-0+1=xs.length from by omega,Oh] at M7;exact M7
     | succ j =>
       right;refine ⟨j,by omega,by simp,?_⟩;rw [show xs.length-1-(j+1)+1=xs.length-1-j from by omega] at M7;exact M7
    case measure=>simp [intOf]
   ·gi_wp2
    refine bodyPost_ret (results_none rfl _ _ _) rfl ?_;exact ⟨⟨_,rfl⟩,.inr ⟨_,by rw [HX.out.2.2.2];exact List.take_prefix _ _,hJx3⟩⟩
theorem back_in (F:Fence) (n:Nat) (hf:F.fn 55) (Lp:F.round=none) (a:Option Addr) (len cap:Nat) (w:World) :
 CallsIn F n KD 55 #[.slice a len cap] w fun e w'=>e=.returned (.func (.func 81) #[] #[.pointer (some ⟨w.heap.size,0,none⟩)])/\w'=w.alloc (.cells #[.slice a len cap] 110):=by
 refine callsIn_of_wp Tryz.func55 rfl hf ?_ Lp;simp only [Tryz.ntmps55,Qk,N5,OD,Pa,RO,QC,QD,Q5,QQ,OB,Oe]
 gi_wp2
 go_ret;exact ⟨rfl,rfl⟩
theorem back_stops {α:Type} (ix bl:α->Nat) (F:Fence) (n:Nat) (hf:F.fn 81) (Lp:F.round=none) (hn:1<=n) (Bs n₀ cap:Nat) (a:Option Addr) (xs:List α) (hlen:xs.length<=16777216) (w:World) (hBs:Bs<w.heap.size) (hn₀:n₀<=w.heap.size)
 (hc:w.cell? ⟨Bs,0,none⟩=some (.slice a xs.length cap)) (hI:BackAt ix bl n₀ w a xs) :
 SeqStopsK F n KD 81 #[.pointer (some ⟨Bs,0,none⟩)] (fun x:α=>#[Value.int .i64 (ix x:Nat),.pointer (some ⟨bl x,0,none⟩)]) (KpB n₀ ⟨Bs,0,none⟩ (.slice a xs.length cap)) (fun ys=>ys=xs) (fun pre=>pre <+: xs) xs.length w:=fun l J Jx W hW _ _ hY h0 =>
 back1_in ix bl F n hf Lp hn l Bs n₀ cap a xs hlen J Jx hY W ((hW.cell (p:=⟨Bs,0,none⟩) hBs).trans hc) (fun k x hx=>by
  obtain ⟨h1,b,o,h2,h3,h4⟩:=hI k x hx
  exact ⟨h1,b,o,h2,h3,((hW.mono hn₀).cell (p:=⟨b,o+ix x,none⟩) h3).trans h4⟩) h0
def vY:List Ty->Bs:=List.foldl (fun s t=>[40,62,32]++zN t++[32]++s++[41]) [98]
theorem bD (pre:List Ty) (t:Ty):vY (pre++[t])=[40,62,32]++zN t++[32]++vY pre++[41]:=by simp [vY]
theorem cE:∀ ts:List Ty,vY ts.reverse=zN (.mk ts)
 | []=>by rw [yR];rfl
 | t::ts=>by rw [List.reverse_cons,bD,cE ts,yS];simp
structure pM (F:Nat->Prop) (w:World) (t0:Ty) where
 ix:Nat
 bl:Nat
 ty:Ty
 rep:Rep F w (jT ty) (.pointer (some ⟨bl,0,none⟩))
 low:zJ ty<zJ t0
def dA (t:Ty):Prop:=∀ (F:Nat->Prop) (w:World) (v:Value),Rep F w (jT t) v ->
 Calls KD 19 #[v] w fun en w'=>en=.returned (str (zN t))/\Below w.heap.size w w'
theorem textFrom_len (pre:List Ty) (C:Nat) (h:∀ t∈pre,(zN t).length<=C):(vY pre).length<=1+pre.length*(C+5):=by
 have key:∀ (pre:List Ty) (s:Bs),(∀ t∈pre,(zN t).length<=C)->(pre.foldl (fun s t=>[40,62,32]++zN t++[32]++s++[41]) s).length<=s.length+pre.length*(C+5):=by
  intro pre
  induction pre with
  | nil=>intro s _;simp
  | cons t pre ih =>
    intro s h;have h1:=ih ([40,62,32]++zN t++[32]++s++[41]) fun x hx=>h x (by simp [hx]);have h2:=h t (by simp);simp only [Ry,NZ,N5,OD] at h1 ⊢;rw [Nat.add_mul];omega
 have:=key pre [98] h;simpa [vY] using this
theorem items_of {F:Nat->Prop} {w:World} {t:Ty} {a:Option Addr} {n₀:Nat} (hF:∀ i,F i->i<n₀) (ml:Ats F w t.args.length (qg t.args) a) :
 ∃ xs:List (pM F w t),xs.length=t.args.length/\xs.map pM.ty=t.args.reverse/\BackAt pM.ix pM.bl n₀ w a xs:=by
 have key:∀ m,m<=t.args.length->∃ xs:List (pM F w t),xs.length=m/\xs.map pM.ty=(t.args.take m).reverse/\∀ k x,xs[k]? = some x->x.ix+k+1=m/\∃ b o,a=some ⟨b,o,none⟩/\b<n₀/\w.cell? ⟨b,o+x.ix,none⟩=some (.pointer (some ⟨x.bl,0,none⟩)):=by
  intro m
  induction m with
  | zero=>intro _;exact ⟨[],rfl,by simp,by simp⟩
  | succ m ih =>
    intro hm;obtain ⟨xs,h1,h2,h3⟩:=ih (by omega);obtain ⟨b,o,u,d,ea,M9,nw,hd,hc,tQ⟩:=ml m (by omega);rw [xj,N3] at hd;obtain ⟨ty,ht,rfl⟩:=hd;obtain ⟨ub,_,rfl,_⟩:=zi tQ;have aB:zJ ty<zJ t:=by
     have:=xE ht;have:=uO t.args (m+1);have:=qi t;omega
    refine ⟨⟨m,ub,ty,tQ,aB⟩::xs,by simp [h1],?_,fun k x hk=>?_⟩
    ·rw [Ol,h2,OG,ht];simp
    ·cases k with
     | zero =>
       simp at hk;subst hk;exact ⟨rfl,b,o,ea,hF b M9,hc⟩
     | succ k =>
       obtain ⟨q1,q2⟩:=h3 k x (by simpa using hk);exact ⟨by omega,q2⟩
 obtain ⟨xs,h1,h2,h3⟩:=key t.args.length (my _);rw [Oh] at h2;exact ⟨xs,h1,h2,fun k x hk=>by obtain ⟨q1,q2⟩:=h3 k x hk;exact ⟨by omega,q2⟩⟩
theorem fl {A B:World} (h:Below A.heap.size A B):KeepsOthers A B :=
 ⟨h.size,fun k o hk _=>(h.block k (zZ hk)).trans hk⟩
theorem keeps_round {w W w':World} {sv:Value} {R O T:Bs} {n₀:Nat} (hn:n₀<=w.heap.size) (hB:Below w.heap.size w W) (hb:Below W.heap.size W.drew w') (hc:w'.cell? ⟨w.heap.size,0,none⟩=some (str R)) (hf:w'.frozen? ⟨w.heap.size,0,none⟩=false) (hT:T=O) :
 KeepsOthers W (w'.setCell ⟨w.heap.size,0,none⟩ (str O))/\KpB w.heap.size ⟨w.heap.size+1,0,none⟩ sv W (w'.setCell ⟨w.heap.size,0,none⟩ (str O)) /\
  ((w'.setCell ⟨w.heap.size,0,none⟩ (str O)).cell? ⟨w.heap.size,0,none⟩=some (str T)/\(w'.setCell ⟨w.heap.size,0,none⟩ (str O)).frozen? ⟨w.heap.size,0,none⟩=false)/\Below w.heap.size w (w'.setCell ⟨w.heap.size,0,none⟩ (str O)):=by
 have h1:Below W.heap.size W w':=⟨hb.os,hb.tape,hb.output,hb.size,hb.block⟩;have h2:=(h1.mono hB.size).setCell (p:=⟨w.heap.size,0,none⟩) (my _) (str O);subst hT;refine ⟨(fl h1).trans (KeepsOthers.setCell _ _ _),⟨h2,fun e=>?_⟩,⟨World.cell?_setCell_same' _ _ _ (by rw [hc];rfl),by rw [World.frozen?_setCell];exact hf⟩,hB.trans h2⟩;have h3:=(h1.cell (p:=⟨w.heap.size+1,0,none⟩) (mx W _ e)).trans e;rw [World.cell?_of_block (w:=w') (mp _ _ _ _ (by simp))];exact h3
theorem textK_step (t:Ty) (hl:zJ t<=1000) (ih:∀ t',zJ t'<zJ t->dA t'):dA t:=by
 intro F0 w v h0;have h1:Rep (fun i=>F0 i/\i<w.heap.size) w (jT t) v:=(Rep.keep fun b o hf ho=>⟨⟨hf,zZ ho⟩,ho⟩).1 _ _ h0;obtain ⟨b,s,rfl,hb,hc,hs⟩:=zi h1;have c1:w.cell? ⟨b,0,none⟩=some s:=by simp [GD,hc]
 obtain ⟨a,cap,rfl,hn,hlen,ml⟩:=zP hs;have Af:t.args.length<=1000:=by have:=qB t.args;have:=qi t;omega
 clear hc hs h0 h1 hn hlen;obtain ⟨W0,nO⟩:=zzN ((w.alloc (.cells #[str [98]] 9)).alloc (.cells #[.slice a t.args.length cap] 110));obtain ⟨xs,x1,x2,x3⟩:=items_of (n₀:=w.heap.size) (fun i hi=>hi.2) ml;refine (callsIn_wide (n:=4)).1 ?_;refine callsIn_of_wp_marks Tryz.func19 rfl trivial ?_ rfl;simp only [Tryz.ntmps19,Qk,N5,OD,Pa,RO,QC,QD,Q5,QQ,OB,Oe]
 gi_wp2_with (refine ⟨trivial,?_⟩;gi_at_call 55;refine (back_in Fence.wide _ trivial rfl _ _ _ _).mono ?_;rintro e w' ⟨rfl,rfl⟩)
 have hB1:W0.heap[w.heap.size]? = some (.cells #[str [98]] 9 (0,0)):=by rw [<- nO];exact zU (zG w _)
 have aE:W0.cell? ⟨w.heap.size,0,none⟩=some (str [98]):=by simp [GD,hB1]
 have hf0:W0.frozen? ⟨w.heap.size,0,none⟩=false:=by simp [World.frozen?,hB1]
 have Bw:W0.heap.size=w.heap.size+2:=by rw [<- nO];simp
 have aT:W0.cell? ⟨w.heap.size+1,0,none⟩=some (.slice a xs.length cap):=by
  have h:W0.heap[w.heap.size+1]? = some (.cells #[.slice a t.args.length cap] 110 (0,0)):=by
   rw [<- nO];have:=zG (w.alloc (.cells #[str [98]] 9)) (.cells #[.slice a t.args.length cap] 110);rwa [zK] at this
  simp [GD,h,x1]
 have Kj:Below w.heap.size w W0:=by rw [<- nO];exact ((mw _ w).alloc (my _) _).alloc (by simp) _
 have Kf:BackAt pM.ix pM.bl w.heap.size W0 a xs:=fun k x hx=>by
  obtain ⟨q1,b,o,q2,q3,q4⟩:=x3 k x hx;exact ⟨q1,b,o,q2,q3,(Kj.cell (p:=⟨b,o+x.ix,none⟩) q3).trans q4⟩
 have hx1000:xs.length<=1000:=by omega
 have BP:vY (xs.map pM.ty)=zN t:=by rw [x2,cE];cases t;rfl
 have IH:=mj ih;clear ih
 refine wpIn_rangeFunc_ownF rfl (by omega) (gf:=81) (lb:=#[.pointer (some ⟨w.heap.size+1,0,none⟩)]) rfl trivial (enters_of TC (by kernel_rfl) rfl)
  (back_stops (α:=pM (fun i=>F0 i/\i<w.heap.size) w t) pM.ix pM.bl Fence.wide _ trivial rfl (by omega) (w.heap.size+1) w.heap.size cap a xs (by omega) W0 (by omega) (by omega) aT Kf) kpB_t (kpB_b (by omega)) (mw _ _) (fun _=>rfl)
  (fun pre W=>(W.cell? ⟨w.heap.size,0,none⟩=some (str (vY (pre.map pM.ty)))/\W.frozen? ⟨w.heap.size,0,none⟩=false)/\Below w.heap.size w W)
  (fun _ _ _=>False)
  (OwnFrom.and (Own.from (fun s A B row hs hg hr=>⟨cell_kept hs.1 hg hr,(frozen_kept hs.1 hg hr).trans hs.2⟩) _) (ownFrom_below (my _) (by omega)))
  (fun _ _ _ _ _ hs _ _=>hs)
  ⟨⟨aE,hf0⟩,Kj⟩
  (fun x=>{ tmps:=#[.pointer (some ⟨b,0,none⟩),undef,str [],.pointer (some ⟨w.heap.size,0,none⟩),undef,.pointer (some ⟨x.bl,0,none⟩),.pointer (some ⟨b,0,none⟩),.pointer (some ⟨b,0,none⟩),.pointer (some ⟨b,0,none⟩),.slice a t.args.length cap,.func (.func 81) #[] #[.pointer (some ⟨w.heap.size+1,0,none⟩)],.int .i64 (x.ix:Nat),.pointer (some ⟨x.bl,0,none⟩),undef,undef,undef,undef,undef,undef,undef,undef],defers:=[] }) ?assign ?body ?done ?stop
 case assign =>
  intro l x W K hK
  gi_wp2
  exact hK
 case body =>
  rintro l pre x W ⟨⟨hc,hf⟩,hB⟩ nU;have iv:KD.follows .mixedOrders=true:=by kernel_rfl
  have JV:(zN x.ty).length<=3000:=by have:=jG 1000 x.ty (by have:=x.low;omega);have:=x.low;omega
  have rL:(vY (pre.map pM.ty)).length<=1+pre.length*(3000+5):=by
   have:=textFrom_len (pre.map pM.ty) 3000 fun t' tE=>by
    obtain ⟨y,_,rfl⟩:=List.mem_map.1 tE;have:=jG 1000 y.ty (by have:=y.low;omega);have:=y.low;omega
   rwa [List.length_map] at this
  have hne:vY ((pre++[x]).map pM.ty)=[40,62,32]++zN x.ty++[32]++vY (pre.map pM.ty)++[41]:=by rw [List.map_append,Ol,List.map_nil,bD]
  have Lj:Rep (fun i=>F0 i/\i<w.heap.size) W (jT x.ty) (.pointer (some ⟨x.bl,0,none⟩)):=(Rep.keep fun b o hf ho=>⟨hf,by rw [hB.block b hf.2];exact ho⟩).1 _ _ x.rep;have C1:Hid (∀ X,X=zN x.ty->Calls KD 19 #[.pointer (some ⟨x.bl,0,none⟩)] W.drew fun en w'=>en=.returned (str X)/\Below W.heap.size W.drew w'):=by
   show ∀ X,_->_;rintro X rfl;exact IH.out x.ty x.low _ W.drew _ ((Rep.keep (w:=W) (w':=W.drew) fun _ _ hf ho=>⟨hf,ho⟩).1 _ _ Lj)
  obtain ⟨X,hX⟩:=zzM (zN x.ty);obtain ⟨R,hR⟩:=zzM (vY (pre.map pM.ty));rw [<- hX] at JV hne;rw [<- hR] at rL hne hc;have C2:=mj (C1.out X hX);obtain ⟨O1,h1⟩:=zzM ([40,62,32]++X);obtain ⟨O2,h2⟩:=zzM (O1++[32]);obtain ⟨O3,h3⟩:=zzM (O2++R);obtain ⟨O4,h4⟩:=zzM (O3++[41]);have m1:O1.length=X.length+3:=by rw [h1];simp
  have m2:O2.length=O1.length+1:=by rw [h2];simp
  have m3:O3.length=O2.length+R.length:=by rw [h3];simp
  have oI:=fun w0=>k9 (P:=KD) [40,62,32] X (by simp;omega) w0;have oL:=fun w0=>k9 (P:=KD) O1 [32] (by simp;omega) w0;have AZ:=fun w0=>k9 (P:=KD) O2 R (by omega) w0;have AX:=fun w0=>k9 (P:=KD) O3 [41] (by simp;omega) w0;have H4:Hid (vY ((pre++[x]).map pM.ty)=O4):=by show _=_;rw [hne,h4,h3,h2,h1]
  rw [<- h1] at oI;rw [<- h2] at oL;rw [<- h3] at AZ;rw [<- h4] at AX;have HB:=mj hB;have HXX:=mj (mu x3 (mu Kf (mu aT Kj)));clear h1 h2 h3 h4 m1 m2 m3 hX hR C1 Lj hne JV rL hB x3 Kf aT Kj BP x2 nO aE hf0 ml c1
  gi_wp2
  have hcd:W.drew.cell? ⟨w.heap.size,0,none⟩=some (str R):=hc;have hz:=mx W _ hc
  gi_region_with_o (refine ⟨trivial,?_⟩;gi_at_call 19;refine (CallsIn.inRound l (callsIn_wide.2 C2.out)).mono ?_;rintro e w' ⟨rfl,nW⟩;have EM:w'.cell? ⟨w.heap.size,0,none⟩=some (str R):=(nW.cell (p:=⟨w.heap.size,0,none⟩) hz).trans hcd;have hf':w'.frozen? ⟨w.heap.size,0,none⟩=false:=(nW.frozen (p:=⟨w.heap.size,0,none⟩) hz).trans hf)
  all_goals gi_wp2
  all_goals exact keeps_round (my _) HB.out nW EM hf' (by rw [H4.out])
 case done =>
  rintro D ys W hD rfl ⟨⟨hc,hf⟩,hB⟩ hK;rw [BP] at hc
  gi_wp2
  refine ⟨by simp,.inl ⟨_,_,rfl,run_takeDeferred hK,?_⟩⟩;exact ⟨_,results_tmp rfl _ _ _,rfl,hB.trans (belowK_b (w:=w) (my _) W D _ _ (by omega) hK rfl rfl)⟩
 case stop =>
  rintro D c pre W _ _ h _;exact h.elim
theorem gj (n:Nat):∀ t,zJ t<=n->n<=1000->dA t:=by
 induction n with
 | zero=>intro t h _;have:=kg t;omega
 | succ n ih=>exact fun t h hn=>textK_step t (by omega) (fun t' h'=>ih t' (by omega) (by omega))
end Go.Proofs.YtpgiohmcggllgaaGreatDoor
namespace Go.Proofs.YtpgiohmcggllgaaGreatDoor
open Go.RowKit


def sizeOf' (o:Option Bd):Int:=match o with
 | some b=>(zX b:Int)
 | none=>-1
theorem cm (s text:Bs) (hs:Lim s.length) (hl:Lim text.length) (w:World) (hg:yP w) :
 Calls KD 24 #[str s,str text] w fun en w'=>en=.returned (.int .i64 (sizeOf' (qX s text)))/\Below w.heap.size w w':=by
 have he:(fO s text).map Prod.snd=qX s text:=by
  rw [rdTS_eq];cases qX s text <;> rfl
 rw [<- he];clear he;go_enter Tryz.func24,Tryz.ntmps24;go_wp2_with fail
 refine (strategy_any s text w hg hs hl).mono ?_;rintro en w1 ⟨kv,bv,rfl,mi,hn,hy⟩;cases hq:fO s text with
 | none =>
   obtain rfl:=hn hq;have HQ:=mj hq;clear hq hn hy;go_wp2_with fail
   go_ret;exact ⟨un (by rw [HQ.out];rfl),mi⟩
 | some x =>
   obtain ⟨t,b⟩:=x;obtain ⟨hk,hr⟩:=hy t b hq;have hsz:Lim (zX b):=(show _<=_ by have:=rdTS_size hq;omega);have HQ:=mj hq;clear hq hn hy;obtain ⟨ab,eb⟩:=za hr;subst eb;go_wp2_with fail
   refine (fM (zX b) b (my _) hsz _ _ _ hr).mono ?_;rintro en w2 ⟨rfl,me⟩;go_wp2_with fail
   go_ret;exact ⟨un (by rw [HQ.out];rfl),zzT mi me⟩
theorem digits_small (n:Nat) (hn:n<10) (w:World):Calls KD 26 #[.int .i64 (n:Nat)] w fun en w'=>en=.returned (str (dec n))/\Below w.heap.size w w':=by
 have GY:(n:Int)<10:=by omega
 have e:=mj (jl hn);have hcv:=dB hn w;go_enter TE,SS;go_wp2_with fail
 go_ret;exact ⟨by rw [e.out];rfl,(mw _ _).alloc (my _) _⟩
theorem digits_step (n:Nat) (hn:¬ n<10) (hl:n<=16777216) (ih:∀ w,Calls KD 26 #[.int .i64 ((n / 10:Nat):Int)] w fun en w'=>en=.returned (str (dec (n / 10)))/\Below w.heap.size w w') (w:World) :
 Calls KD 26 #[.int .i64 (n:Nat)] w fun en w'=>en=.returned (str (dec n))/\Below w.heap.size w w':=by
 have IH:=mj ih;clear ih;have GY:¬ (n:Int)<10:=by omega
 have e:=mj (vd hn);have q1:(n:Int).tdiv 10=((n / 10:Nat):Int):=cM n 10;have q2:(n:Int).tmod 10=((n % 10:Nat):Int):=wB n 10;have hR:n % 10<10:=PS _ (by omega);have hQ:n / 10<=16777216:=mh (Qz _ _) hl;have hD:(dec (n / 10)).length<=8:=vU 7 (n / 10) (by omega);generalize n % 10=R at *;generalize n / 10=Q at *;have q3:Oi.wrap (Q:Int)=(Q:Int):=xR Q (by omega);have q4:Oi.wrap (48+(R:Int))=48+(R:Int):=by rw [show (48:Int)+R=((48+R:Nat):Int) from by omega];exact xR _ (by omega)
 have q5:SB.wrap (48+(R:Int))=48+(R:Int):=by simp [Rt,QH,Qm];omega
 have HR:=mj hR;have Gh:=fun w0=>k9 (P:=KD) (dec Q) [yH R] (by simp;omega) w0;have hcv:=conv_newd hR w;have hcv0:=fun w0=>dB hR w0;go_enter TE,SS;go_wp2_with fail
 go_region_with (first
  | (go_at_call 26;refine (IH.out (w.alloc (.cells #[.int .u8 (48+(R:Int))] 5)).drew).mono ?_;rintro en w2 ⟨rfl,me⟩;have hcv2:=conv_kept HR.out me;have hbb:=Below.trans (((mw w.heap.size w).alloc (my _) (.cells #[.int .u8 (48+(R:Int))] 5)).drew) (me.mono (bL w _)))
  | (go_at_call 26;refine (IH.out w.drew).mono ?_;rintro en w2 ⟨rfl,me⟩;have hbb:=Below.trans ((mw w.heap.size w).drew) me))
 all_goals
  go_wp2_with fail
  go_ret;refine ⟨by rw [e.out];rfl,?_⟩
  first
   | exact hbb
   | exact hbb.alloc hbb.size _
theorem digits_any (n:Nat):n<=16777216->∀ w,Calls KD 26 #[.int .i64 (n:Nat)] w fun en w'=>en=.returned (str (dec n))/\Below w.heap.size w w':=by
 induction n using Ps with
 | _ n ih =>
   intro hl w;by_cases h:n<10
   ·exact digits_small n h w
   ·exact digits_step n h hl (ih (n / 10) (PK (by omega) (by omega)) (mh (Qz _ _) hl)) w
theorem endLine_any (s text:Bs) (sz:Nat) (hsz:sz<=1000) (w:World) (C:∀ y,Below w.heap.size w y->Calls KD 24 #[str s,str text] y fun en w'=>en=.returned (.int .i64 (sz:Nat))/\Below y.heap.size y w') :
 Calls KD 9 #[str s,str text] w fun en w'=>en=.returned (str ([110,111,100,101,115,32]++dec sz++[10]))/\Below w.heap.size w w':=by
 have CC:=mj C;have CD:=mj (digits_any sz (by omega));have J3:(dec sz).length<=4:=vU 3 sz (by omega);obtain ⟨O1,Gl⟩:∃ O:Bs,[110,111,100,101,115,32]++dec sz=O:=⟨_,rfl⟩;obtain ⟨O2,G9⟩:∃ O:Bs,O1++[10]=O:=⟨_,rfl⟩;have s1:=fun w0=>k9 (P:=KD) [110,111,100,101,115,32] (dec sz) (by simp;omega) w0;rw [Gl] at s1;have JX:O1.length<=10:=by rw [<- Gl];simp;omega
 have s2:=fun w0=>k9 (P:=KD) O1 [10] (by simp;omega) w0;rw [G9] at s2;have HO:=mj (show [110,111,100,101,115,32]++dec sz++[10]=O2 by rw [Gl,G9]);obtain ⟨D,hD⟩:=zzN (dec sz);rw [hD] at s1 CD HO;rw [hD];clear C Gl G9 JX J3 hD;go_enter Tryz.func9,Tryz.ntmps9;go_wp2_with fail
 (with_reducible refine (CC.out _ (mw _ _)).mono ?_)
 rintro en w1 ⟨rfl,mi⟩;have nE:=mj mi;clear mi;go_wp2_with fail
 (with_reducible refine (CD.out _).mono ?_)
 rintro en w2 ⟨rfl,me⟩;have nF:=mj (zzT nE.out me);clear me;go_wp2_with fail
 go_ret;exact ⟨by show Ending.returned (str O2)=_;rw [<- HO.out];rfl,nF.out⟩
inductive Mn where
 | op (o:Nat) (t:Ty)
 | bd (t:Ty) (b:Bd) (env:List Mn)
structure Gf where
 yes:Bd
 no:Bd
 env:List Mn
def z8:Nat->List Ty->List Mn
 | _,[]=>[]
 | n,t::ts=>.op n t::z8 (n+1) ts
def jZ (env:List Mn):List Ty->List Bd->List Mn
 | t::ts,s::ss=>.bd t s env::jZ env ts ss
 | _,_=>[]
def qZ (ev:Nat->Bd->List Mn->Nat->List Gf->Option (Bd×Nat)) (env:List Mn) (n:Nat):Nat->List Ty->List Bd->Option (List Bd×Nat)
 | l,t::ts,s::ss=>do
   let (x,l1)<-ev l s (env++z8 n t.args) (n+t.args.length) []
   let (xs,l2)<-qZ ev env n l1 ts ss
   some (x::xs,l2)
 | l,_,_=>some ([],l)
def ev:Nat->Nat->Bd->List Mn->Nat->List Gf->Option (Bd×Nat)
 | 0,_,_,_,_,_=>none
 | d+1,l,b,env,n,st=>match l with
   | 0=>none
   | l+1=>match b with
     | .leaf c=>if c=117 then some (.leaf c,l) else match st with
       | []=>some (.leaf c,l)
       | f::st'=>ev d l (if c=116 then f.yes else f.no) f.env n st'
     | .ask v ss y no=>match env[v]? with
       | none=>none
       | some (.bd t b' e)=>ev d l b' (e++jZ env t.args ss) n (⟨y,no,env⟩::st)
       | some (.op o t)=>do
         let (xs,l1)<-qZ (ev d) env n l t.args ss
         let (x,l2)<-ev d l1 y env n st
         let (z,l3)<-ev d l2 no env n st
         some (.ask o xs x z,l3)
def kT (ev:Nat->Nat->Bd->List Mn->Nat->List Gf->Option (Bd×Nat×Nat)) (env:List Mn) (n:Nat):Nat->Nat->List Ty->List Bd->Option (List Bd×Nat×Nat)
 | k,l,t::ts,s::ss=>do
   let (x,k1,l1)<-ev k l s (env++z8 n t.args) (n+t.args.length) []
   let (xs,k2,l2)<-kT ev env n k1 l1 ts ss
   some (x::xs,k2,l2)
 | k,l,_,_=>some ([],k,l)
def evN:Nat->Nat->Nat->Bd->List Mn->Nat->List Gf->Option (Bd×Nat×Nat)
 | 0,_,_,_,_,_,_=>none
 | d+1,k,l,b,env,n,st=>match l with
   | 0=>none
   | l+1=>match k with
     | 0=>none
     | k+1=>match b with
       | .leaf c=>if c=117 then some (.leaf c,k,l) else match st with
         | []=>some (.leaf c,k,l)
         | f::st'=>evN d (k+1) l (if c=116 then f.yes else f.no) f.env n st'
       | .ask v ss y no=>match env[v]? with
         | none=>none
         | some (.bd t b' e)=>evN d (k+1) l b' (e++jZ env t.args ss) n (⟨y,no,env⟩::st)
         | some (.op o t)=>do
           let (xs,k1,l1)<-kT (evN d) env n k l t.args ss
           let (x,k2,l2)<-evN d k1 l1 y env n st
           let (z,k3,l3)<-evN d k2 l2 no env n st
           some (.ask o xs x z,k3,l3)
def pB (k:Nat):Option (Bd×Nat)->Option (Bd×Nat×Nat)
 | none=>none
 | some (b,l)=>if zX b<=k then some (b,k-zX b,l) else none
def wO (k:Nat):Option (List Bd×Nat)->Option (List Bd×Nat×Nat)
 | none=>none
 | some (bs,l)=>if zR bs<=k then some (bs,k-zR bs,l) else none
theorem d_ (k:Nat):pB k none=none:=rfl
theorem mC {k l:Nat} {b:Bd} (h:zX b<=k):pB k (some (b,l))=some (b,k-zX b,l):=by simp only [pB];rw [if_pos h]
theorem gM {k l:Nat} {b:Bd} (h:¬ zX b<=k):pB k (some (b,l))=none:=by simp only [pB];rw [if_neg h]
theorem capNs_none (k:Nat):wO k none=none:=rfl
theorem capNs_pos {k l:Nat} {b:List Bd} (h:zR b<=k):wO k (some (b,l))=some (b,k-zR b,l):=by simp only [wO];rw [if_pos h]
theorem capNs_neg {k l:Nat} {b:List Bd} (h:¬ zR b<=k):wO k (some (b,l))=none:=by simp only [wO];rw [if_neg h]
theorem mV (d:Nat) (ih:∀ k l b env n st,evN d k l b env n st=pB k (ev d l b env n st)) (env:List Mn) (n:Nat) :
 ∀ (ts:List Ty) (ss:List Bd) (k l:Nat),kT (evN d) env n k l ts ss=wO k (qZ (ev d) env n l ts ss)
 | [],ss,k,l=>by cases ss <;> simp [kT,qZ,wO,zR]
 | t::ts,[],k,l=>by simp [kT,qZ,wO,zR]
 | t::ts,s::ss,k,l=>by
   simp only [kT,qZ,NX,ih];cases h1:ev d l s (env++z8 n t.args) (n+t.args.length) [] with
   | none=>simp [pB,wO]
   | some x =>
     obtain ⟨x,l1⟩:=x;simp only [pB,Mm];by_cases hx:zX x<=k
     ·rw [if_pos hx];simp only [Mm,mV d ih env n ts ss];cases h2:qZ (ev d) env n l1 ts ss with
      | none=>simp [wO]
      | some y =>
        obtain ⟨xs,l2⟩:=y;have hsz:zR (x::xs)=zX x+zR xs:=by simp only [zR]
        simp only [wO,Mm];by_cases hy:zR xs<=k-zX x
        ·rw [if_pos hy,if_pos (by omega),hsz];simp;omega
        ·rw [if_neg hy,if_neg (by omega)];rfl
     ·rw [if_neg hx];cases h2:qZ (ev d) env n l1 ts ss with
      | none=>simp [wO]
      | some y =>
        obtain ⟨xs,l2⟩:=y;have hsz:zR (x::xs)=zX x+zR xs:=by simp only [zR]
        simp only [wO,Mm];rw [if_neg (by omega)];rfl
theorem evN_eq (d:Nat):∀ (k l:Nat) (b:Bd) (env:List Mn) (n:Nat) (st:List Gf),evN d k l b env n st=pB k (ev d l b env n st):=by
 induction d with
 | zero=>intro k l b env n st;simp [evN,ev,pB]
 | succ d ih =>
   intro k l b env n st;rw [evN.eq_def,ev.eq_def];cases l with
   | zero=>simp [pB]
   | succ l =>
     cases k with
     | zero =>
       simp only
       cases h:(match b with
     | .leaf c=>if c=117 then some (.leaf c,l) else match st with
       | []=>some (.leaf c,l)
       | f::st'=>ev d l (if c=116 then f.yes else f.no) f.env n st'
     | .ask v ss y no=>match env[v]? with
       | none=>none
       | some (.bd t b' e)=>ev d l b' (e++jZ env t.args ss) n (⟨y,no,env⟩::st)
       | some (.op o t)=>do
         let (xs,l1)<-qZ (ev d) env n l t.args ss
         let (x,l2)<-ev d l1 y env n st
         let (z,l3)<-ev d l2 no env n st
         some (.ask o xs x z,l3):Option (Bd×Nat)) with
       | none=>simp [pB]
       | some x=>obtain ⟨x,l'⟩:=x;have:=kW x;simp only [pB];rw [if_neg (by omega)]
     | succ k =>
       simp only;cases b with
       | leaf c =>
         simp only;by_cases hc:c=117
         ·rw [if_pos hc,if_pos hc];simp [pB,zX]
         ·rw [if_neg hc,if_neg hc];cases st with
          | nil=>simp [pB,zX]
          | cons f st'=>simp only;exact ih _ _ _ _ _ _
       | ask v ss y no =>
         simp only;cases hv:env[v]? with
         | none=>simp [pB]
         | some m =>
           cases m with
           | bd t b' e=>simp only;exact ih _ _ _ _ _ _
           | op o t =>
             simp only [NX,mV d ih,ih];cases h1:qZ (ev d) env n l t.args ss with
             | none=>simp only [capNs_none,d_,Pf]
             | some x =>
               obtain ⟨xs,l1⟩:=x;by_cases Al:zR xs<=k
               ·simp only [capNs_pos Al,Mm];cases h2:ev d l1 y env n st with
                | none=>simp only [d_,Pf]
                | some x =>
                  obtain ⟨x,l2⟩:=x;by_cases hx:zX x<=k-zR xs
                  ·simp only [mC hx,Mm];cases h3:ev d l2 no env n st with
                   | none=>simp only [d_,Pf]
                   | some z =>
                     obtain ⟨z,l3⟩:=z;have hsz:zX (.ask o xs x z)=1+(zR xs+(zX x+zX z)):=by simp only [zX]
                     by_cases hz:zX z<=k-zR xs-zX x
                     ·simp only [mC hz,Mm];rw [mC (by omega),hsz];simp;omega
                     ·simp only [gM hz,Mm,Pf];rw [gM (by omega)]
                  ·simp only [gM hx,Mm,Pf];cases h3:ev d l2 no env n st with
                   | none=>rfl
                   | some z =>
                     obtain ⟨z,l3⟩:=z;have hsz:zX (.ask o xs x z)=1+(zR xs+(zX x+zX z)):=by simp only [zX]
                     simp only [Mm];rw [gM (by omega)]
               ·simp only [capNs_neg Al,Mm,Pf];cases h2:ev d l1 y env n st with
                | none=>rfl
                | some x =>
                  obtain ⟨x,l2⟩:=x;simp only [Mm];cases h3:ev d l2 no env n st with
                  | none=>rfl
                  | some z =>
                    obtain ⟨z,l3⟩:=z;have hsz:zX (.ask o xs x z)=1+(zR xs+(zX x+zX z)):=by simp only [zX]
                    simp only [Mm];rw [gM (by omega)]
mutual
def xe (H:List Ty):Mn->Ty->Prop
 | .op o t,t'=>t=t'/\H[o]? = some t
 | .bd t b e,t'=>t=t'/\∃ h,jY H e h/\jq (h++t.args) b
def jY (H:List Ty):List Mn->List Ty->Prop
 | [],h=>h=[]
 | m::ms,h=>∃ t ts,h=t::ts/\xe H m t/\jY H ms ts
end
theorem mnFits_at {H:List Ty}:∀ (cs:List Mn) (h:List Ty),jY H cs h->∀ (i:Nat) (t:Ty),h[i]? = some t->∃ c,cs[i]? = some c/\xe H c t
 | [],h,k,i,c,hc=>by rw [jY] at k;subst k;simp at hc
 | c::cs,h,k,i,t',hc=>by
   rw [jY] at k;obtain ⟨t,ts,rfl,k1,k2⟩:=k;cases i with
   | zero=>simp at hc;subst hc;exact ⟨c,rfl,k1⟩
   | succ i=>simp at hc;simpa using mnFits_at cs ts k2 i t' hc
theorem yx {H:List Ty}:∀ (xs bs:List Mn) (h k:List Ty),jY H xs h->jY H bs k->jY H (xs++bs) (h++k)
 | [],bs,h,k,h1,h2=>by rw [jY] at h1;subst h1;simpa using h2
 | a::xs,bs,h,k,h1,h2=>by
   rw [jY] at h1;obtain ⟨t,ts,rfl,k1,k2⟩:=h1;simp only [Oe];rw [jY];exact ⟨t,ts++k,rfl,k1,yx xs bs ts k k2 h2⟩
mutual
theorem mnFit_more {H X:List Ty}:∀ (m:Mn) (t:Ty),xe H m t->xe (H++X) m t
 | .op o t,t',h=>by
   rw [xe] at *;exact ⟨h.1,by rw [List.getElem?_append_left (N6.1 h.2).1];exact h.2⟩
 | .bd t b e,t',h=>by
   rw [xe] at *;obtain ⟨h1,k,h2,h3⟩:=h;exact ⟨h1,k,gK e k h2,h3⟩
theorem gK {H X:List Ty}:∀ (ms:List Mn) (h:List Ty),jY H ms h->jY (H++X) ms h
 | [],h,k=>by rw [jY] at *;exact k
 | m::ms,h,k=>by
   rw [jY] at *;obtain ⟨t,ts,rfl,k1,k2⟩:=k;exact ⟨t,ts,rfl,mnFit_more m t k1,gK ms ts k2⟩
end
theorem dp {H:List Ty}:∀ (ts:List Ty) (n:Nat),(∀ i t,ts[i]? = some t->H[n+i]? = some t)->jY H (z8 n ts) ts
 | [],n,h=>by rw [z8,jY]
 | t::ts,n,h=>by
   rw [z8,jY];refine ⟨t,ts,rfl,?_,dp ts (n+1) fun i t' hi=>?_⟩
   ·rw [xe];exact ⟨rfl,by have:=h 0 t rfl;simpa using this⟩
   ·have:=h (i+1) t' (by simpa using hi);rw [show n+1+i=n+(i+1) from by omega];exact this
theorem bj (H:List Ty) (ts:List Ty):jY (H++ts) (z8 H.length ts) ts :=
 dp ts H.length fun i t h=>by rw [List.getElem?_append_right (by omega),Nat.add_sub_cancel_left];exact h
theorem owns_fit {H h:List Ty} {env:List Mn} (he:jY H env h):∀ (ts:List Ty) (ss:List Bd),jz (qC h ts) ss->jY H (jZ env ts ss) ts
 | [],ss,hf=>by
   rw [jZ]
   ·rw [jY]
   ·intros;contradiction
 | t::ts,[],hf=>by
   rw [jz] at hf;simp [qC] at hf
 | t::ts,s::ss,hf=>by
   rw [jz] at hf;obtain ⟨h',oJ,e,h1,h2⟩:=hf;simp only [qC,Ol,Od] at e;obtain ⟨rfl,rfl⟩:=e;rw [jZ,jY];refine ⟨t,ts,rfl,?_,owns_fit he ts ss h2⟩;rw [xe];exact ⟨rfl,h,he,h1⟩
def gfFit (H:List Ty) (f:Gf):Prop:=∃ h,jY H f.env h/\jq h f.yes/\jq h f.no
structure jb (H:List Ty) (b:Bd) (env:List Mn) (st:List Gf):Prop where
 fit:∃ h,jY H env h/\jq h b
 frames:∀ f∈st,gfFit H f
theorem jb.back {H:List Ty} {b:Bd} {env:List Mn} {f:Gf} {st:List Gf} (h:jb H b env (f::st)) (c:UInt8):jb H (if c=116 then f.yes else f.no) f.env st:=by
 obtain ⟨k,k1,k2,k3⟩:=h.frames f (by simp);refine ⟨⟨k,k1,?_⟩,fun g hg=>h.frames g (by simp [hg])⟩;split
 ·exact k2
 ·exact k3
theorem jb.ask {H:List Ty} {v:Nat} {ss:List Bd} {y no:Bd} {env:List Mn} {st:List Gf} (h:jb H (.ask v ss y no) env st) :
 ∃ m t hh,env[v]? = some m/\xe H m t/\jY H env hh/\jz (qC hh t.args) ss/\jq hh y/\jq hh no:=by
 obtain ⟨⟨hh,h1,h2⟩,_⟩:=h;rw [jq] at h2;obtain ⟨t,k1,k2,k3,k4⟩:=h2;obtain ⟨m,m1,m2⟩:=mnFits_at _ _ h1 v t k1;exact ⟨m,t,hh,m1,m2,h1,k2,k3,k4⟩
theorem jb.call {H:List Ty} {v:Nat} {ss:List Bd} {y no:Bd} {env:List Mn} {st:List Gf} (h:jb H (.ask v ss y no) env st) {t:Ty} {b':Bd} {e:List Mn} (he:env[v]? = some (.bd t b' e)) :
 ss.length=t.args.length/\jb H b' (e++jZ env t.args ss) (⟨y,no,env⟩::st):=by
 obtain ⟨m,t',hh,m1,m2,m3,m4,m5,m6⟩:=h.ask;rw [he] at m1;simp at m1;subst m1;rw [xe] at m2;obtain ⟨rfl,k,k1,k2⟩:=m2;refine ⟨?_,⟨k++t.args,yx _ _ _ _ k1 (owns_fit m3 _ _ m4),k2⟩,fun f hf=>?_⟩
 ·have:=vL _ _ m4;rw [yJ] at this;exact this.symm
 ·rcases Om.1 hf with rfl | hf
  ·exact ⟨hh,m3,m5,m6⟩
  ·exact h.frames f hf
theorem jb.keep {H:List Ty} {v:Nat} {ss:List Bd} {y no:Bd} {env:List Mn} {st:List Gf} (h:jb H (.ask v ss y no) env st) {t:Ty} {o:Nat} (he:env[v]? = some (.op o t)) :
 ss.length=t.args.length/\H[o]? = some t/\(∀ (k:Nat) (a:Ty) (s:Bd),t.args[k]? = some a->ss[k]? = some s->jb (H++a.args) s (env++z8 H.length a.args) [])/\jb H y env st/\jb H no env st:=by
 obtain ⟨m,t',hh,m1,m2,m3,m4,m5,m6⟩:=h.ask;rw [he] at m1;simp at m1;subst m1;rw [xe] at m2;obtain ⟨rfl,k1⟩:=m2;have hl:=vL _ _ m4;rw [yJ] at hl;refine ⟨hl.symm,k1,fun k a s ha hs=>?_,⟨⟨hh,m3,m5⟩,h.frames⟩,⟨⟨hh,m3,m6⟩,h.frames⟩⟩;obtain ⟨x,hx,hf⟩:=gP _ _ m4 k s hs;have lp:x=hh++a.args:=by simp [qC,ha] at hx;exact hx.symm
 subst lp;exact ⟨⟨hh++a.args,yx _ _ _ _ (gK _ _ m3) (bj H a.args),hf⟩,by simp⟩
theorem mJ {H:List Ty} {env:List Mn} {d:Nat} (ih:∀ (H:List Ty) (l:Nat) (b:Bd) (env:List Mn) (st:List Gf) (out:Bd) (l':Nat),jb H b env st->ev d l b env H.length st=some (out,l')->jq H out) :
 ∀ (ts:List Ty) (ss:List Bd) (l:Nat) (qN:List Bd) (l':Nat),ss.length=ts.length->(∀ (k:Nat) (a:Ty) (s:Bd),ts[k]? = some a->ss[k]? = some s->jb (H++a.args) s (env++z8 H.length a.args) []) ->
   qZ (ev d) env H.length l ts ss=some (qN,l')->jz (qC H ts) qN
 | [],[],l,qN,l',hl,hk,h=>by simp [qZ] at h;obtain ⟨rfl,rfl⟩:=h;simp [qC,jz]
 | [],s::ss,l,qN,l',hl,hk,h=>by simp at hl
 | t::ts,[],l,qN,l',hl,hk,h=>by simp at hl
 | t::ts,s::ss,l,qN,l',hl,hk,h=>by
   simp only [qZ,NX,No,Prod.exists] at h;obtain ⟨x,l1,h1,xs,l2,h2,h3⟩:=h;simp at h3;obtain ⟨rfl,rfl⟩:=h3;have k0:=hk 0 t s rfl rfl;have h1':ev d l s (env++z8 H.length t.args) (H++t.args).length []=some (x,l1):=by rw [NZ];exact h1
   refine ⟨H++t.args,qC H ts,rfl,ih _ _ _ _ _ _ _ k0 h1',mJ ih ts ss l1 xs l2 (by simpa using hl) (fun k a s' ha hs=>hk (k+1) a s' (by simpa using ha) (by simpa using hs)) h2⟩
theorem ev_fit (d:Nat):∀ (H:List Ty) (l:Nat) (b:Bd) (env:List Mn) (st:List Gf) (out:Bd) (l':Nat),jb H b env st->ev d l b env H.length st=some (out,l')->jq H out:=by
 induction d with
 | zero=>intro H l b env st out l' _ h;simp [ev] at h
 | succ d ih =>
   intro H l b env st out l' hf h;rw [ev.eq_def] at h;cases l with
   | zero=>simp at h
   | succ l =>
     simp only at h;cases b with
     | leaf c =>
       simp only at h;split at h
       ·simp at h;obtain ⟨rfl,_⟩:=h;simp [jq]
       ·cases st with
        | nil=>simp at h;obtain ⟨rfl,_⟩:=h;simp [jq]
        | cons f st'=>exact ih _ _ _ _ _ _ _ (hf.back c) h
     | ask v ss y no =>
       simp only at h;cases hv:env[v]? with
       | none=>rw [hv] at h;simp at h
       | some m =>
         rw [hv] at h;cases m with
         | bd t b' e=>exact ih _ _ _ _ _ _ _ (hf.call hv).2 h
         | op o t =>
           simp only [NX,No,Prod.exists] at h;obtain ⟨xs,l1,h1,x,l2,h2,z,l3,h3,h4⟩:=h;simp at h4;obtain ⟨rfl,_⟩:=h4;obtain ⟨k1,k2,k3,k4,k5⟩:=hf.keep hv;rw [jq];exact ⟨t,k2,mJ ih _ _ _ _ _ k1 k3 h1,ih _ _ _ _ _ _ _ k4 h2,ih _ _ _ _ _ _ _ k5 h3⟩
mutual
def wfB:Bd->Prop
 | .leaf c=>c=116\/c=102\/c=117
 | .ask _ ss y n=>xV ss/\wfB y/\wfB n
def xV:List Bd->Prop
 | []=>True
 | b::bs=>wfB b/\xV bs
end
theorem eB:∀ (xs ys:List Bd),xV xs->xV ys->xV (xs++ys)
 | [],ys,_,h=>h
 | x::xs,ys,h,k=>by rw [xV] at h;exact ⟨h.1,eB xs ys h.2 k⟩
theorem wfBs_at:∀ (xs:List Bd),xV xs->∀ (k:Nat) (b:Bd),xs[k]? = some b->wfB b
 | [],_,k,b,h=>by simp at h
 | x::xs,hw,k,b,h=>by
   rw [xV] at hw;cases k with
   | zero=>simp at h;subst h;exact hw.1
   | succ k=>exact wfBs_at xs hw.2 k b (by simpa using h)
theorem dec_ne (n:Nat):dec n≠[]:=by
 by_cases h:n<10
 ·rw [jl h];simp
 ·rw [vd h];simp
theorem dig_digit {r:Nat} (h:r<10):dig (yH r)=true:=by
 rcases (by omega:r=0\/r=1\/r=2\/r=3\/r=4\/r=5\/r=6\/r=7\/r=8\/r=9) with rfl | rfl | rfl | rfl | rfl | rfl | rfl | rfl | rfl | rfl <;> rfl
theorem d8 {r:Nat} (h:r<10):(yH r).toNat-48=r:=by
 rcases (by omega:r=0\/r=1\/r=2\/r=3\/r=4\/r=5\/r=6\/r=7\/r=8\/r=9) with rfl | rfl | rfl | rfl | rfl | rfl | rfl | rfl | rfl | rfl <;> rfl
theorem dec_all (n:Nat):∀ c∈dec n,dig c=true:=by
 induction n using Ps with
 | _ n ih =>
   by_cases h:n<10
   ·rw [jl h];intro c hc;simp at hc;subst hc;exact dig_digit h
   ·rw [vd h];intro c hc;rcases List.mem_append.1 hc with hc | hc
    ·exact ih (n / 10) (PK (by omega) (by omega)) c hc
    ·simp at hc;subst hc;exact dig_digit (PS _ (by omega))
theorem dec_val (n:Nat):jL (dec n)=n:=by
 induction n using Ps with
 | _ n ih =>
   by_cases h:n<10
   ·rw [jl h];unfold jL;simp only [Ry,List.foldl_nil];rw [d8 h];omega
   ·rw [vd h,wt,ih (n / 10) (PK (by omega) (by omega)),d8 (PS _ (by omega))];omega
theorem dec_head (n:Nat):1<(dec n).length->(dec n).head?≠some 48:=by
 induction n using Ps with
 | _ n ih =>
   by_cases h:n<10
   ·rw [jl h];simp
   ·rw [vd h];intro _;have hne:=dec_ne (n / 10);obtain ⟨c,cs,hc⟩:∃ c cs,dec (n / 10)=c::cs:=by
     cases hd:dec (n / 10) with
     | nil=>exact absurd hd hne
     | cons c cs=>exact ⟨c,cs,rfl⟩
    rw [hc];simp only [Oe,List.head?_cons,ne_eq,N1];by_cases h1:1<(dec (n / 10)).length
    ·have:=ih (n / 10) (PK (by omega) (by omega)) h1;rw [hc] at this;simpa using this
    ·have FC:n / 10<10:=by
      rcases Qr (n / 10) 10 with h' | h'
      ·exact h'
      ·exfalso;apply h1;rw [vd (by omega)];have:=List.length_pos_iff.2 (dec_ne (n / 10 / 10));simp;omega
     rw [jl FC] at hc;simp at hc;obtain ⟨rfl,_⟩:=hc;intro e;have hv:=d8 FC;rw [e] at hv;have:(48:UInt8).toNat-48=0:=rfl;omega
theorem digsOf_dec {v:Nat} (h:v<10000) (r:Bs):qI (dec v++32::r)=dec v:=by
 have h4:(dec v).length<=4:=vU 3 v (by omega);unfold qI;have key:∀ (ds:Bs) (m:Nat),ds.length<=m->(∀ c∈ds,dig c=true)->((ds++32::r).take m).takeWhile dig=ds:=by
  intro ds
  induction ds with
  | nil =>
    intro m _ _;cases m with
    | zero=>simp
    | succ m=>simp [dig]
  | cons d ds ih =>
    intro m hm hd;cases m with
    | zero=>simp at hm
    | succ m =>
      simp only [Oe,List.take_succ_cons,List.takeWhile_cons];rw [if_pos (hd d (by simp)),ih m (by simpa using hm) (fun c hc=>hd c (by simp [hc]))]
 exact key _ 4 h4 (dec_all v)
theorem specNum_dec {v:Nat} (h:v<10000) (r:Bs):jF (dec v++32::r)=some (v,(dec v).length):=by
 unfold jF;rw [digsOf_dec h,dec_val,if_neg];rintro (h1 | ⟨h1,h2⟩)
 ·exact dec_ne v h1
 ·have:=dec_head v h1;apply this;cases hd:dec v with
  | nil=>exact absurd hd (dec_ne v)
  | cons c cs=>rw [hd] at h2;simpa using h2
theorem textB_ask (v:Nat) (ss:List Bd) (y n:Bd):kI (.ask v ss y n)=40::(dec v++(kq (ss++[y,n])++[41])):=by
 rw [kI,vx];simp [kq]
theorem askOf_parts (v:Nat) (ss:List Bd) (y n:Bd):wj v ss.length (ss++[y,n])=some (.ask v ss y n):=by
 unfold wj;rw [Ss,List.take_left]
theorem ph {rd:RdS}:∀ (ps:List Bd) (hs:List (List Ty)) (r:Bs),hs.length=ps.length->(∀ (k:Nat) (h:List Ty) (p:Bd) (r:Bs),hs[k]? = some h->ps[k]? = some p->rd h (kI p++r)=some (p,r))->zM rd hs (kq ps++r)=some (ps,r)
 | [],[],r,_,_=>by simp [zM,kq]
 | [],h::hs,r,hl,_=>by simp at hl
 | p::ps,[],r,hl,_=>by simp at hl
 | p::ps,h::hs,r,hl,hp=>by
   rw [kq,zM];have h0:=hp 0 h p (kq ps++r) rfl rfl;have hc:cut [32] ([32]++kI p++kq ps++r)=some (kI p++(kq ps++r)):=by
    rw [OF,OF];exact fK [32] _
   simp only [qR,hc,NX,Mm,h0,ph ps hs r (by simpa using hl) (fun k h' p' r' hh hk=>hp (k+1) h' p' r' (by simpa using hh) (by simpa using hk))]
theorem depthBs_mem {ts:List Bd} {t:Bd} (h:t∈ts):1+kz t<=k8 ts:=by
 induction ts with
 | nil=>simp at h
 | cons x xs ih =>
   rcases Om.1 h with rfl | h
   ·simp only [k8];omega
   ·have:=ih h;simp only [k8];omega
theorem rdN_text (e:Nat):∀ (hand:List Ty) (b:Bd) (r:Bs),jq hand b->wfB b->kz b<e->jP e hand->rdN e hand (kI b++r)=some (b,r):=by
 induction e with
 | zero=>intro hand b r _ _ h;omega
 | succ e ih =>
   intro hand b r hf hw hd hh;cases b with
   | leaf c =>
     rw [wfB] at hw;rw [kI];simp only [Oe,OB,rdN];rw [if_pos hw]
   | ask v ss y n =>
     obtain ⟨t,ht,hfp,sB⟩:=fit_parts hf;rw [wfB] at hw;have hwp:xV (ss++[y,n]):=eB _ _ hw.1 ⟨hw.2.1,hw.2.2,trivial⟩;have hv:v<10000:=by
      have h1:=(N6.1 ht).1;have:=hh.2;omega
     rw [xD] at hd;have FV:jF (dec v++(kq (ss++[y,n])++[41])++r)=some (v,(dec v).length):=by
      obtain ⟨q,hq⟩:∃ q,dec v++(kq (ss++[y,n])++[41])++r=dec v++32::q:=by
       cases ss with
       | nil=>exact ⟨kI y++kq [n]++[41]++r,by simp [kq]⟩
       | cons s ss=>exact ⟨kI s++kq (ss++[y,n])++[41]++r,by simp [kq]⟩
      rw [hq];exact specNum_dec hv q
     rw [textB_ask,Oe,rdN.eq_def];simp only;rw [if_neg (by decide),if_neg (by decide),FV];simp only [ht];have Mw:(dec v++(kq (ss++[y,n])++[41])++r).drop (dec v).length=kq (ss++[y,n])++([41]++r):=by
      rw [OF,Ss,OF]
     have i8:zM (rdN e) (jJ hand t) (kq (ss++[y,n])++([41]++r))=some (ss++[y,n],[41]++r):=by
      refine ph _ _ _ (vL _ _ hfp) fun k h p r' hk hp=>?_;obtain ⟨h',Dt,hf'⟩:=gP _ _ hfp k p hp;rw [hk] at Dt;simp at Dt;subst Dt;have rj:p∈ss++[y,n]:=Oc hp;have hdp:=depthBs_mem rj;refine ih h p r' hf' (wfBs_at _ hwp k p hp) (by have:k8 (ss++[y,n])<e+1:=hd;omega) ?_;rcases Qr k t.args.length with JZ | JZ
      ·obtain ⟨a,ha⟩:∃ a,t.args[k]? = some a:=⟨t.args[k],by simp [JZ]⟩;rw [dE ha] at hk;simp at hk;subst hk;exact hh.next ht (Oc ha)
      ·have iu:k<t.args.length+2:=by
        have:=(N6.1 hk).1;rwa [uz] at this
       rw [dD JZ iu] at hk;simp at hk;subst hk;have:=hh.same;rwa [Ov] at this
     rw [Mw,i8];simp only [NX,Mm,fK];rw [<- sB,askOf_parts];rfl
theorem pd {rd rd':RdS} (h:∀ hand l x,rd hand l=some x->rd' hand l=some x):∀ (hs:List (List Ty)) (l:Bs) (x:List Bd×Bs),zM rd hs l=some x->zM rd' hs l=some x
 | [],l,x,hx=>by simpa [zM] using hx
 | a::hs,l,x,hx=>by
   simp only [zM,qR,NX,No,Prod.exists] at hx ⊢;obtain ⟨b,l1,⟨l0,h0,h1⟩,bs,l2,h2,h3⟩:=hx;exact ⟨b,l1,⟨l0,h0,h _ _ _ h1⟩,bs,l2,pd h hs l1 _ h2,h3⟩
theorem rdN_mono (e:Nat):∀ (e':Nat) (hand:List Ty) (l:Bs) (x:Bd×Bs),e<=e'->rdN e hand l=some x->rdN e' hand l=some x:=by
 induction e with
 | zero=>intro e' hand l x _ h;simp [rdN] at h
 | succ e ih =>
   intro e' hand l x he h;cases e' with
   | zero=>omega
   | succ e' =>
     cases l with
     | nil=>simp [rdN] at h
     | cons c m =>
       simp only [rdN] at h ⊢;split at h
       ·rename_i hc;rw [if_pos hc];exact h
       ·rename_i hc;rw [if_neg hc];split at h
        ·simp at h
        ·rename_i se;rw [if_neg se];cases hn:jF m with
         | none=>rw [hn] at h;simp at h
         | some vk =>
           obtain ⟨v,k⟩:=vk;rw [hn] at h;simp only at h ⊢;cases ht:hand[v]? with
           | none=>rw [ht] at h;simp at h
           | some t =>
             rw [ht] at h;simp only [NX,No,Prod.exists] at h ⊢;obtain ⟨ps,l1,h1,h2⟩:=h;exact ⟨ps,l1,pd (fun a b c d=>ih e' a b c (by omega) d) _ _ _ h1,h2⟩
theorem pm {rd:RdS} {P:Bd->Prop} (h:∀ hand l b r,rd hand l=some (b,r)->P b):∀ (hs:List (List Ty)) (l:Bs) (ps:List Bd) (r:Bs),zM rd hs l=some (ps,r)->∀ p∈ps,P p
 | [],l,ps,r,hx=>by simp [zM] at hx;obtain ⟨rfl,_⟩:=hx;simp
 | a::hs,l,ps,r,hx=>by
   simp only [zM,qR,NX,No,Prod.exists] at hx;obtain ⟨b,l1,⟨l0,h0,h1⟩,bs,l2,h2,h3⟩:=hx;simp at h3;obtain ⟨rfl,rfl⟩:=h3;intro p hp;rcases Om.1 hp with rfl | hp
   ·exact h _ _ _ _ h1
   ·exact pm h hs l1 bs l2 h2 p hp
theorem askOf_some {v n:Nat} {ps:List Bd} {b:Bd} (h:wj v n ps=some b):∃ ss y no,b=.ask v ss y no/\ps=ss++[y,no]:=by
 unfold wj at h;split at h
 ·rename_i y no hd;simp at h;subst h;exact ⟨_,_,_,rfl,by rw [<- hd,List.take_append_drop]⟩
 ·simp at h
theorem wfBs_of:∀ (ps:List Bd),(∀ p∈ps,wfB p)->xV ps
 | [],_=>trivial
 | p::ps,h=>⟨h p (by simp),wfBs_of ps fun q hq=>h q (by simp [hq])⟩
theorem fY:∀ (xs ys:List Bd),xV (xs++ys)->xV xs/\xV ys
 | [],ys,h=>⟨trivial,h⟩
 | x::xs,ys,h=>by
   simp only [Oe] at h;rw [xV] at h;have:=fY xs ys h.2;exact ⟨⟨h.1,this.1⟩,this.2⟩
theorem rdN_wf (e:Nat):∀ (hand:List Ty) (l:Bs) (b:Bd) (r:Bs),rdN e hand l=some (b,r)->wfB b/\kz b<e:=by
 induction e with
 | zero=>intro hand l b r h;simp [rdN] at h
 | succ e ih =>
   intro hand l b r h;cases l with
   | nil=>simp [rdN] at h
   | cons c m =>
     simp only [rdN] at h;split at h
     ·rename_i hc;simp at h;obtain ⟨rfl,_⟩:=h;exact ⟨hc,by simp [kz]⟩
     ·split at h
      ·simp at h
      ·split at h
       ·simp at h
       ·split at h
        ·simp at h
        ·simp only [NX,No,Prod.exists] at h;obtain ⟨ps,l1,h1,l2,h2,b',h3,h4⟩:=h;simp at h4;obtain ⟨rfl,_⟩:=h4;obtain ⟨ss,y,no,rfl,rfl⟩:=askOf_some h3;have k1:=pm (P:=fun b=>wfB b/\kz b<e) (fun hand l b r h=>ih hand l b r h) _ _ _ _ h1;have k2:=fY _ _ (wfBs_of _ fun p hp=>(k1 p hp).1);refine ⟨⟨k2.1,k2.2.1,k2.2.2.1⟩,?_⟩;rw [xD];have key:∀ (qs:List Bd),(∀ q∈qs,kz q<e)->k8 qs<=e:=by
          intro qs
          induction qs with
          | nil=>intro _;simp [k8]
          | cons q qs ihq =>
            intro hq;have h1:=hq q (by simp);have h2:=ihq fun x hx=>hq x (by simp [hx]);simp only [k8];omega
         exact Nat.lt_succ_of_le (key _ fun q hq=>(k1 q hq).2)
mutual
theorem xf:∀ (b:Bd) (hand:List Ty) (e:Nat),jq hand b->kz b<e->jP e hand->2*(kI b).length+7<=9*zX b
 | .leaf c,hand,e,_,_,_=>by simp [kI,zX]
 | .ask v ss y n,hand,0,_,h,_=>by omega
 | .ask v ss y n,hand,e+1,hf,hd,hh=>by
   have hf':=hf;rw [jq] at hf;obtain ⟨t,ht,h1,h2,h3⟩:=hf;have hv:v<10000:=by
    have h1:=(N6.1 ht).1;have:=hh.2;omega
   have h4:(dec v).length<=4:=vU 3 v (by omega);have hs:jP e hand:=by have:=hh.same;rwa [Ov] at this
   simp only [kz] at hd;have k1:=cF ss t.args hand e h1 (by omega) (fun a ha=>hh.next ht ha);have k2:=xf y hand e h2 (by omega) hs;have k3:=xf n hand e h3 (by omega) hs;rw [textB_ask,vx];simp only [kq,zX,NZ,N5,OD];omega
theorem cF:∀ (bs:List Bd) (ts:List Ty) (hand:List Ty) (e:Nat),jz (qC hand ts) bs->k8 bs<=e->(∀ a∈ts,jP e (hand++a.args))->2*(kq bs).length<=9*zR bs
 | [],ts,hand,e,_,_,_=>by simp [kq]
 | b::bs,ts,hand,e,hf,hd,hh=>by
   rw [jz] at hf;obtain ⟨h',oJ,e',h1,h2⟩:=hf;cases ts with
   | nil=>simp [qC] at e'
   | cons t ts =>
     simp only [qC,Ol,Od] at e';obtain ⟨rfl,rfl⟩:=e';simp only [k8] at hd;have k1:=xf b (hand++t.args) e h1 (by omega) (hh t (by simp));have k2:=cF bs ts hand e h2 (by omega) (fun a ha=>hh a (by simp [ha]));simp only [kq,zR,NZ,N5,OD];omega
end
theorem jP.less {d e:Nat} {levels:List Ty} (h:jP e levels) (hd:d<=e):jP d levels:=⟨h.1,by have:=h.2;omega⟩
theorem fC {t:Ty} (ht:zJ t<=15) {b:Bd} (hf:jq t.args b) (hw:wfB b) (hs:zX b<=200):qX (zN t) (kI b)=if kz b<=100 then some b else none:=by
 have hd:=bZ _ b (my _);have hh:jP 201 t.args:=by
  have h1:=dl ht;have h2:=qi t;have h3:=qB t.args;exact ⟨h1.1,by omega⟩
 have hl:=xf b t.args 201 hf (by omega) hh;unfold qX;rw [uN ht];simp only;rw [if_neg (by simp;omega)];by_cases i1:kz b<=100
 ·have:=rdN_text 101 t.args b [] hf hw (by omega) (hh.less (by omega));rw [Ov] at this;rw [this,if_pos i1];simp [hs]
 ·rw [if_neg i1];cases hq:rdN 101 t.args (kI b) with
  | none=>rfl
  | some x =>
    obtain ⟨b',r⟩:=x;have h1:=rdN_mono 101 201 _ _ _ (by omega) hq;have h2:=rdN_text 201 t.args b [] hf hw (by omega) hh;rw [Ov] at h2;rw [h2] at h1;simp at h1;obtain ⟨rfl,rfl⟩:=h1;have:=(rdN_wf _ _ _ _ _ hq).2;omega
theorem vz {p l r:Bs} (h:cut p l=some r):l=p++r:=by
 unfold cut at h;split at h
 ·rename_i hp;simp at h;obtain ⟨q,hq⟩:=List.isPrefixOf_iff_prefix.1 hp;subst hq;simp at h;rw [h]
 ·simp at h
theorem dec_dd (n:Nat):dec n=OC n:=by
 induction n using Ps with
 | _ n ih =>
   by_cases h:n<10
   ·rw [jl h,OC,dif_pos h];rfl
   ·rw [vd h,OC,dif_neg h,ih (n / 10) (PK (by omega) (by omega))];rfl
structure Good (t:Ty) (b:Bd):Prop where
 atoms:zJ t<=15
 fit:jq t.args b
 wf:wfB b
 size:zX b<=200
 depth:kz b<=100
theorem ur {t:Ty} {b:Bd} (h:Good t b):qX (zN t) (kI b)=some b:=by
 rw [fC h.atoms h.fit h.wf h.size,if_pos h.depth]
theorem rdK_canon (d:Nat):∀ (l:Bs) (t:Ty) (r:Bs),rdK d l=some (t,r)->l=zN t++r:=by
 induction d with
 | zero =>
   intro l t r h;rcases kD [98] l with hc | ⟨r',hc⟩
   ·rw [y7 hc] at h;simp at h
   ·rw [xG hc] at h;simp at h;obtain ⟨rfl,rfl⟩:=h;rw [yR];exact vz hc.out
 | succ d ih =>
   intro l t r h;rcases kD [98] l with hc | ⟨r',hc⟩
   ·rw [jI hc] at h;simp only [NX,No,Prod.exists] at h;obtain ⟨r1,h1,a,r2,h2,r3,h3,b,r4,h4,r5,h5,h6⟩:=h;simp at h6;obtain ⟨rfl,rfl⟩:=h6;cases b with
    | mk bs =>
    rw [z_,yS,vz h1,ih _ _ _ h2,vz h3,ih _ _ _ h4,vz h5];simp [Ty.args]
   ·rw [xG hc] at h;simp at h;obtain ⟨rfl,rfl⟩:=h;rw [yR];exact vz hc.out
theorem pw {l:Bs} (h:(zI l).2=true):l=zN (zI l).1/\zJ (zI l).1<=15:=by
 refine ⟨?_,vM h⟩;unfold zI at h ⊢;split at h
 ·simp at h
 ·rename_i hl;rw [if_neg hl];cases hq:rdS 21 l with
  | none=>rw [hq] at h;simp at h
  | some x =>
    obtain ⟨t,rest⟩:=x;rw [hq] at h;simp at h;obtain ⟨h1,h2⟩:=h;have hq':rdK 20 l=some (t,rest):=hq;have hr:=rdK_canon _ _ _ _ hq';simp only;have h3:rest=[]:=by simpa using h1
    rw [h3,Ov] at hr;exact hr
mutual
def wfM:Mn->Prop
 | .op _ _=>True
 | .bd _ b e=>wfB b/\wG e
def wG:List Mn->Prop
 | []=>True
 | m::ms=>wfM m/\wG ms
end
theorem ju:∀ (xs ys:List Mn),wG xs->wG ys->wG (xs++ys)
 | [],ys,_,h=>h
 | x::xs,ys,h,k=>by rw [wG] at h;exact ⟨h.1,ju xs ys h.2 k⟩
theorem wfMs_at:∀ (xs:List Mn),wG xs->∀ (k:Nat) (m:Mn),xs[k]? = some m->wfM m
 | [],_,k,b,h=>by simp at h
 | x::xs,hw,k,b,h=>by
   rw [wG] at hw;cases k with
   | zero=>simp at h;subst h;exact hw.1
   | succ k=>exact wfMs_at xs hw.2 k b (by simpa using h)
theorem jN:∀ (ts:List Ty) (n:Nat),wG (z8 n ts)
 | [],n=>trivial
 | t::ts,n=>⟨trivial,jN ts (n+1)⟩
theorem wP {env:List Mn} (he:wG env):∀ (ts:List Ty) (ss:List Bd),xV ss->wG (jZ env ts ss)
 | [],ss,_=>by rw [jZ];· trivial
               ·intros;contradiction
 | t::ts,[],_=>by rw [jZ];· trivial
                  ·intros;contradiction
 | t::ts,s::ss,h=>by
   rw [xV] at h;rw [jZ];exact ⟨⟨h.1,he⟩,wP he ts ss h.2⟩
def wfG (f:Gf):Prop:=wfB f.yes/\wfB f.no/\wG f.env
theorem evSubs_wf {d n:Nat} {env:List Mn} (he:wG env) (ih:∀ (l:Nat) (b:Bd) (env:List Mn) (n:Nat) (st:List Gf) (out:Bd) (l':Nat),wfB b->wG env->(∀ f∈st,wfG f)->ev d l b env n st=some (out,l')->wfB out) :
 ∀ (ts:List Ty) (ss:List Bd) (l:Nat) (qN:List Bd) (l':Nat),xV ss->qZ (ev d) env n l ts ss=some (qN,l')->xV qN
 | [],ss,l,qN,l',_,h=>by simp [qZ] at h;obtain ⟨rfl,_⟩:=h;trivial
 | t::ts,[],l,qN,l',_,h=>by simp [qZ] at h;obtain ⟨rfl,_⟩:=h;trivial
 | t::ts,s::ss,l,qN,l',hs,h=>by
   rw [xV] at hs;simp only [qZ,NX,No,Prod.exists] at h;obtain ⟨x,l1,h1,xs,l2,h2,h3⟩:=h;simp at h3;obtain ⟨rfl,rfl⟩:=h3;exact ⟨ih _ _ _ _ _ _ _ hs.1 (ju _ _ he (jN _ _)) (by simp) h1,evSubs_wf he ih ts ss l1 xs l2 hs.2 h2⟩
theorem ev_wf (d:Nat):∀ (l:Nat) (b:Bd) (env:List Mn) (n:Nat) (st:List Gf) (out:Bd) (l':Nat),wfB b->wG env->(∀ f∈st,wfG f)->ev d l b env n st=some (out,l')->wfB out:=by
 induction d with
 | zero=>intro l b env n st out l' _ _ _ h;simp [ev] at h
 | succ d ih =>
   intro l b env n st out l' hb he hs h;rw [ev.eq_def] at h;cases l with
   | zero=>simp at h
   | succ l =>
     simp only at h;cases b with
     | leaf c =>
       simp only at h;split at h
       ·simp at h;obtain ⟨rfl,_⟩:=h;exact hb
       ·cases st with
        | nil=>simp at h;obtain ⟨rfl,_⟩:=h;exact hb
        | cons f st' =>
          obtain ⟨k1,k2,k3⟩:=hs f (by simp);refine ih _ _ _ _ _ _ _ ?_ k3 (fun g hg=>hs g (by simp [hg])) h;split
          ·exact k1
          ·exact k2
     | ask v ss y no =>
       rw [wfB] at hb;simp only at h;cases hv:env[v]? with
       | none=>rw [hv] at h;simp at h
       | some m =>
         rw [hv] at h;have hm:=wfMs_at _ he _ _ hv;cases m with
         | bd t b' e =>
           rw [wfM] at hm;refine ih _ _ _ _ _ _ _ hm.1 (ju _ _ hm.2 (wP he _ _ hb.1)) (fun f hf=>?_) h;rcases Om.1 hf with rfl | hf
           ·exact ⟨hb.2.1,hb.2.2,he⟩
           ·exact hs f hf
         | op o t =>
           simp only [NX,No,Prod.exists] at h;obtain ⟨xs,l1,h1,x,l2,h2,z,l3,h3,h4⟩:=h;simp at h4;obtain ⟨rfl,_⟩:=h4;exact ⟨evSubs_wf he ih _ _ _ _ _ hb.1 h1,ih _ _ _ _ _ _ _ hb.2.1 he hs h2,ih _ _ _ _ _ _ _ hb.2.2 he hs h3⟩
def vj (b:Bd) (env:List Mn) (n:Nat):Option Bd:=match ev 20000 20000 b env n [] with
 | some (out,_)=>if zX out<=200/\kz out<=100 then some out else none
 | none=>none
def yC (b:Bd) (env:List Mn) (n:Nat):Option Bd:=(evN 20000 200 20000 b env n []).map (·.1)
theorem writes_eq (b:Bd) (env:List Mn) (n:Nat):yC b env n=match ev 20000 20000 b env n [] with
 | some (out,_)=>if zX out<=200 then some out else none
 | none=>none:=by
 unfold yC;rw [evN_eq];cases ev 20000 20000 b env n [] with
 | none=>rfl
 | some x =>
   obtain ⟨out,l⟩:=x;simp only [pB];split <;> rfl
theorem bi {a:Ty} {rest:List Ty} {t:Ty} (h:t.args=a::rest):zJ t=1+zJ a+zJ (.mk rest):=by
 cases t with
 | mk ts=>simp only [Ty.args] at h;subst h;exact vQ a rest
theorem cf {c:UInt8}:∀ {l:Bs} (r:Bs),c ∉ l->Rp (l++c::r) [c]=(l.length:Int)
 | [],r,_=>by
   rw [OB,Rp,if_pos (by simp [Pr])];rfl
 | b::l,r,h=>by
   have hb:c≠b:=fun e=>h (by simp [e]);have ih:=cf (l:=l) r (fun e=>h (QR _ e));rw [Oe,Rp,if_neg (by simp [Pr,hb]),ih,if_neg (by simp),N5];rfl
theorem index_no {c:UInt8}:∀ {l:Bs},c ∉ l->Rp l [c] = -1
 | [],_=>rfl
 | b::l,h=>by
   have hb:c≠b:=fun e=>h (by simp [e]);have ih:=index_no (l:=l) (fun e=>h (QR _ e));rw [Rp,if_neg (by simp [Pr,hb]),ih];rfl
theorem cut_at {c:UInt8} {l r:Bs} (h:c ∉ l):RP (l++c::r) [c]=(l,r,true):=by
 unfold RP;rw [cf r h,if_pos (by omega),Rc,Rz rfl];simp
theorem cut_none {c:UInt8} {l:Bs} (h:c ∉ l):RP l [c]=(l,[],false):=by
 unfold RP;rw [index_no h,if_neg (by omega)]
def vZ:List Bs->Bs
 | []=>[]
 | l::ls=>l++10::vZ ls
theorem da:∀ ls:List Bs,ls.length<=(vZ ls).length
 | []=>my _
 | l::ls=>by rw [vZ,NZ,N5,N5];have:=da ls;omega
theorem pL:∀ (ls:List Bs) (f:Nat),(∀ l∈ls,(10:UInt8) ∉ l)->ls.length<=f->SU [10] f (vZ ls)=ls.length
 | [],f,_,_=>by cases f <;> rfl
 | l::ls,0,_,h=>by simp at h
 | l::ls,f+1,hl,h=>by
   rw [vZ,SU,cf (vZ ls) (hl l (by simp)),if_neg (by simp),Rc];have e:(l++10::vZ ls).drop (l.length+([10]:Bs).length)=vZ ls:=by simp
   rw [e,pL ls f (fun x hx=>hl x (by simp [hx])) (by rw [N5] at h;omega),N5,Nat.add_comm]
theorem cN:∀ ls:List Bs,(∀ l∈ls,(10:UInt8) ∉ l)->Ua [10] 0 ls.length (vZ ls)=ls++[[]]
 | [],_=>rfl
 | l::ls,hl=>by
   rw [vZ,N5,Ua,cf (vZ ls) (hl l (by simp)),if_neg (by simp),Rc,Se,Rz rfl];have e:(l++10::vZ ls).drop (l.length+([10]:Bs).length)=vZ ls:=by simp
   rw [e,cN ls (fun x hx=>hl x (by simp [hx])),Oe]
theorem ex {ls:List Bs} (h:∀ l∈ls,(10:UInt8) ∉ l):Ub ⟨(vZ ls).toArray⟩ ⟨#[10]⟩=ls.length:=by
 show Ug (vZ ls) [10]=_;unfold Ug;exact pL ls _ h (Nat.le_succ_of_le (da ls))
theorem mD:∀ (xs:List ByteArray) (ys:List Bs),xs.map (·.data.toList)=ys->xs=ys.map fun l:Bs=>(⟨l.toArray⟩:ByteArray)
 | [],ys,h=>by subst h;rfl
 | x::xs,ys,h=>by
   subst h;rw [Ol,Ol,<- mD xs _ rfl]
theorem split_lines {ls:List Bs} (h:∀ l∈ls,(10:UInt8) ∉ l):Lib.splitB ⟨#[10]⟩ 0 (Ub ⟨(vZ ls).toArray⟩ ⟨#[10]⟩) ⟨(vZ ls).toArray⟩=(ls++[[]]).map fun l:Bs=>(⟨l.toArray⟩:ByteArray):=by
 apply mD;rw [Lib.splitB_data,ex h];exact cN ls h
def qN (ans:Nat->Bs):Nat->Bs
 | 0=>[]
 | i+1=>qN ans i++(ans i++[10])
mutual
theorem textT_ne:∀ t:Ty,(10:UInt8) ∉ zN t
 | .mk ts=>by rw [zN];exact textTs_ne ts
theorem textTs_ne:∀ ts:List Ty,(10:UInt8) ∉ b6 ts
 | []=>by rw [b6];decide
 | t::ts=>by
   rw [b6];have h1:=textT_ne t;have h2:=textTs_ne ts;simp [h1,h2]
end
end Go.Proofs.YtpgiohmcggllgaaGreatDoor

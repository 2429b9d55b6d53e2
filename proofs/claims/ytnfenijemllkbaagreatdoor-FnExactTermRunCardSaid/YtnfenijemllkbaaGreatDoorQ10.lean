/- Walks. -/
import Derived.Laws.IdiomStrings
import Derived.Test.YtnfenijemllkbaaGreatDoorQ8
set_option linter.unusedVariables false
set_option linter.unusedSimpArgs false
set_option maxHeartbeats 4000000
set_option maxRecDepth 100000
open Option renaming none->U
open Option renaming some->OK
open Go.IntKind renaming i64->RD
open Go.Proofs.Tryz renaming func43->Xm,func72->Xl,ntmps43->WQ,ntmps72->WP,prog->RG,underlying105->Sp
open Go.Value renaming oneCell'->R4,ownBlock->RM,slice->RI
open Go.World renaming cell?->RE
open Int renaming natCast_add->S_
open List renaming append_assoc->Sn,append_nil->R9,cons_append->R5,drop->Uq,getElem?_cons_zero->RV,getElem?_drop->SA,getElem?_eq_some_iff->RR,getElem?_take->Su,length_append->RL,length_cons->RU,length_singleton->TN,length_take->Sy,mem_append->Si,mem_cons->Sc,nil_append->Ss,not_mem_nil->Vc,take->XF,take_add_one->Sd,take_append_drop->R7,take_length->R8,take_zero->UK
open Nat renaming add_assoc->Vx,div_le_self->Wh,min_eq_left->UQ,zero_le->R6
open Option renaming bind_eq_bind->RJ,bind_some->RF,map_eq_some_iff->RP
open Option.some renaming injEq->RK
namespace Go.Proofs.YtnfenijemllkbaaGreatDoor
open Go.RowKit
theorem rM {W:World}{g r:Nat}(hr:r<10)(h:W g=OK (.int .u8 (48+(r:Int)))) :
 (convert 122 9 (.slice g 1 1)).run RG W=.ok (str [x8 r]) W:=by
 refine run_convert_bytes_back (P:=RG) W 122 9 5 ⟨g,0,U⟩ 1 [x8 r] Tryz.underlying122 Tryz.underlying5 Tryz.underlying9 (fun j hj=>?_);have hj0:j=0:=by simpa using hj
 subst hj0;have e:(x8 r).toNat=48+r:=by rw[x8,UInt8.toNat_ofNat'];exact Nat.mod_eq_of_lt (by omega)
 show W.cell? ((⟨g,0,U⟩:Addr).add 0)=OK (.int .u8 ((x8 r).toNat:Int));rw[e];have e2:((48+r:Nat):Int)=48+(r:Int):=by omega
 rw[e2];exact h
theorem conv_new {r:Nat}(hr:r<10)(w:World):(convert 122 9 (.slice w 1 1)).run RG (w.alloc (.cells #[.int .u8 (48+(r:Int))] 5))=.ok (str [x8 r]) (w.alloc (.cells #[.int .u8 (48+(r:Int))] 5)):=
 rM hr (by simp)
theorem conv_newd {r:Nat}(hr:r<10)(w:World):(convert 122 9 (.slice w 1 1)).run RG (w.alloc (.cells #[.int .u8 (48+(r:Int))] 5)).drew=.ok (str [x8 r]) (w.alloc (.cells #[.int .u8 (48+(r:Int))] 5)).drew:=
 rM hr (show (w.alloc (.cells #[.int .u8 (48+(r:Int))] 5)).cell? _=_ by simp)
theorem conv_kept {r:Nat}(hr:r<10){w W:World}(hb:Below (w.alloc (.cells #[.int .u8 (48+(r:Int))] 5)).drew.heap.size (w.alloc (.cells #[.int .u8 (48+(r:Int))] 5)).drew W) :
 (convert 122 9 (.slice w 1 1)).run RG W=.ok (str [x8 r]) W:=
 rM hr ((hb.cell (show w<(w.alloc (.cells #[.int .u8 (48+(r:Int))] 5)).heap.size by simp)).trans (show (w.alloc (.cells #[.int .u8 (48+(r:Int))] 5)).cell? _=_ by simp))
theorem l6Dec_small (n:Nat)(hn:n<10)(w:World):Calls RG 72 #[(n:Int)] w fun en w'=>en=.returned (str (dec n))/\No w w':=by
 have hn':(n:Int)<10:=by omega
 have e:=r9 (vM hn);have hcv:=conv_new hn w;go_enter Xl,WP;go_wp2_with fail
 go_ret;exact⟨by rw[e.out];rfl,(sQ _ _).alloc (sZ _) _⟩
theorem size_alloc_le (w:World)(o:Obj):w<=(w.alloc o).drew.heap.size:=by
 show w<=(w.alloc o).heap.size;rw[zK];omega
theorem l6Dec_step (n:Nat)(hn:¬n<10)(hl:n<=16777216)(ih:∀w,Calls RG 72 #[.int RD ((n / 10:Nat):Int)] w fun en w'=>en=.returned (str (dec (n / 10)))/\No w w')(w:World) :
 Calls RG 72 #[(n:Int)] w fun en w'=>en=.returned (str (dec n))/\No w w':=by
 have IH:=r9 ih;clear ih;have hn':¬(n:Int)<10:=by omega
 have e:=r9 (ve hn);have q1:(n:Int).tdiv 10=((n / 10:Nat):Int):=tdiv_nat n 10;have q2:(n:Int).tmod 10=((n % 10:Nat):Int):=tmod_nat n 10;have hR:n % 10<10:=Nat.mod_lt _ (by omega);have hQ:n / 10<=16777216:=sU (Wh _ _) hl;have hD:(dec (n / 10)).length<=8:=vP 7 (n / 10) (by omega);generalize n % 10=R at *;generalize n / 10=Q at *;have q3:IntKind.i64.wrap (Q:Int)=(Q:Int):=dK Q (by omega);have q4:IntKind.i64.wrap (48+(R:Int))=48+(R:Int):=by rw[show (48:Int)+R=((48+R:Nat):Int) from by omega];exact dK _ (by omega)
 have q5:IntKind.u8.wrap (48+(R:Int))=48+(R:Int):=by simp[IntKind.wrap,IntKind.bits,IntKind.signed];omega
 have HR:=r9 hR;have AO:=fun w0=>qz (P:=RG) (dec Q) [x8 R] (by simp;omega) w0;have hcv:=conv_newd hR w;have hcv0:=fun w0=>conv_new hR w0;go_enter Xl,WP;go_wp2_with fail
 go_region_with (first
  |(go_at_call 72;refine(IH.out (w.alloc (.cells #[.int .u8 (48+(R:Int))] 5)).drew).mono ?_;rintro en w2 ⟨rfl,sY⟩;have hcv2:=conv_kept HR.out sY;have hbb:=Below.trans (((sQ w w).alloc (sZ _) (.cells #[.int .u8 (48+(R:Int))] 5)).drew) (sY.mono (size_alloc_le w _)))
  | (go_at_call 72;refine (IH.out w.drew).mono ?_;rintro en w2 ⟨rfl,sY⟩;have hbb:=Below.trans ((sQ w w).drew) sY))
 all_goals
  go_wp2_with fail
  go_ret;refine⟨by rw[e.out];rfl,?_⟩
  first
   |exact hbb
   |exact hbb.alloc hbb.size _
theorem l6Dec_any (n:Nat):n<=16777216->∀w,Calls RG 72 #[(n:Int)] w fun en w'=>en=.returned (str (dec n))/\No w w':=by
 induction n using Nat.strongRecOn with
 | _ n ih =>
   intro hl w;by_cases h:n<10
   ·exact l6Dec_small n h w
   ·exact l6Dec_step n h hl (ih (n / 10) (Nat.div_lt_self (by omega) (by omega)) (sU (Wh _ _) hl)) w
def fR (b:Bd):Prop:=∀(F:Nat->Prop) (w:World) (s v k y:Value),zY F w (kU b) [s,v,k,y]->
 Calls RG 43 #[.agg #[s,v,k,y]] w fun en w'=>en=.returned (str (kZ b))/\No w w'
abbrev KeepY (g:Nat)(ky:Value)(ox yo:Nat)(s0 v0 p0 q0 s1 v1 p1 q1:Value)(w':World):Prop:=
 w' (g,3)=ky/\w' (ox,yo)=s0/\w' (ox,yo+1)=v0/\w' (ox,yo+2)=p0/\w' (ox,yo+3)=q0 /\
  w' (ox,yo+4)=s1/\w' (ox,yo+5)=v1/\w' (ox,yo+6)=p1/\w' (ox,yo+7)=q1
theorem KeepY.below {g:Nat}{ky:Value}{ox yo:Nat}{s0 v0 p0 q0 s1 v1 p1 q1:Value}{w w':World}(h:KeepY g ky ox yo s0 v0 p0 q0 s1 v1 p1 q1 w)(hb:No w w'):KeepY g ky ox yo s0 v0 p0 q0 s1 v1 p1 q1 w':=by
 have key:∀(a:Addr) (v:Value),w.cell? a=OK v->w'.cell? a=OK v:=fun a v ha=>by
  rw[hb.cell (sK w _ ha)];exact ha
 obtain⟨h1,h2,h3,h4,h5,h6,h7,h8,h9⟩:=h;exact⟨key _ _ h1,key _ _ h2,key _ _ h3,key _ _ h4,key _ _ h5,key _ _ h6,key _ _ h7,key _ _ h8,key _ _ h9⟩
theorem l3Text_step (b:Bd)(hl:zG b<=1000000)(iT:lvB b)(ih:∀b',zG b'<zG b->lvB b'->fR b'):fR b:=by
 intro F w s v k y hv;have e1:=encN_lv hv;subst e1;obtain⟨_,a2,c2,a3,c3,e,hk,hy⟩:=jA hv;simp only[List.cons.injEq,and_true]at e;obtain⟨rfl,_,rfl,rfl⟩:=e;cases b with
 | leaf c =>
   clear hv hk hy ih;show Calls RG 43 #[.agg #[str [c],.int RD (0:Nat),.slice a2 0 c2,.slice a3 0 c3]] w _;go_enter Xm,WQ;go_wp2_with fail
   go_ret;exact⟨rfl,(sQ _ _).alloc (sZ _) _⟩
 | ask lv ss yb nb =>
   have IH:=r9 ih;clear ih;have tV:=ud (.ask lv ss yb nb);rw[nS,jp]at tV;change zG (.ask lv ss yb nb)=1+(zI ss+zI [yb,nb]) at tV;have G0:zI [yb,nb]=zG yb+zG nb:=by simp[zI]
   rw[lvB]at iT;obtain⟨lv1,lv2,lv3,lv4⟩:=iT;have t1:=ye ss lv2;have t2:=vK yb lv3;have t3:=vK nb lv4;have t4:(dec lv).length<=5:=vP 4 lv (by omega);obtain⟨_,_,ek,atk⟩:=bZ.of hk;simp only[Value.slice.injEq,true_and]at ek;rw[<- ek.1]at atk;clear ek;obtain⟨_,_,ek,aty⟩:=bZ.of hy;simp only[Value.slice.injEq,true_and]at ek;rw[<- ek.1]at aty;clear ek;change bZ F w ss a2 at atk;change bZ F w [yb,nb] a3 at aty;obtain⟨ox,yo,s0,v0,p2,m2,d2,p3,m3,d3,yt,ey,hyb0,OC,u0,u1,u2,u3,KC⟩:=aty 0 (by simp);obtain⟨yb1,yo1,s1,v1,p4,m4,d4,p5,m5,d5,nt,Ng,hyb1,BT,z0,z1,z2,z3,FL⟩:=aty 1 (by simp);rw[ey]at Ng;simp only[RK,Addr.mk.injEq,and_true]at Ng;obtain⟨rfl,rfl⟩:=Ng;simp only[RV,RK]at OC;simp only[List.getElem?_cons_succ,RV,RK]at BT;subst OC;subst BT;simp only[Nat.zero_mul,Nat.add_zero]at u0 u1 u2 u3;simp only[Nat.one_mul,Vx,Nat.reduceAdd]at z0 z1 z2 z3;have nss:ss.length<=16777216:=by have:=qI ss;omega
   have Nk:=r9 tV;have HYN:=r9 G0;have ATK:=r9 atk;have LV:=r9 lv2;have LV3:=r9 lv3;have LV4:=r9 lv4;have lvl:lv<=16777216:=by omega
   have PV:KeepY w (.slice a3 2 c3) ox yo (str s0) (.int RD v0) (.slice p2 m2 d2) (.slice p3 m3 d3) (str s1) (.int RD v1) (.slice p4 m4 d4) (.slice p5 m5 d5) (w.alloc (.cells #[str [],.int RD lv,.slice a2 ss.length c2,.slice a3 2 c3] 53)):=
    ⟨by simp,zV u0,zV u1,zV u2,zV u3,zV z0,zV z1,zV z2,zV z3⟩
   have Od:=r9 PV;have Nn:=r9 KC;have HRN:=r9 FL;subst ey;clear hv hk hy atk aty tV G0 lv2 lv3 lv4 u0 u1 u2 u3 z0 z1 z2 z3 KC FL PV;show Calls RG 43 #[.agg #[str [],.int RD lv,.slice a2 ss.length c2,.slice (ox,yo) 2 c3]] w _;have QJ:=fun w0=>qz (P:=RG) [40] (dec lv) (by simp;omega) w0;go_enter Xm,WQ;go_wp2_with fail
   refine(l6Dec_any lv lvl _).mono ?_;rintro en w1 ⟨rfl,sX⟩;have iJ:No w w1:=Below.trans ((sQ w w).alloc (sZ _) (.cells #[str [],.int RD lv,.slice a2 ss.length c2,.slice (ox,yo) 2 c3] 53)) (sX.mono (by simp));have Cc:w1 (w,2)=OK (.slice a2 ss.length c2):=(sX.cell (by simp)).trans (by simp);have Rt:=r9 (Od.out.below sX);go_wp2_with fail
   clear QJ
   go_loopw [3,4] (fun o i wr=>∃k:Nat,k<=ss.length/\i=.int RD k/\o=str ([40]++dec lv++kT (ss.take k))/\No w wr/\wr (w,2)=OK (.slice a2 ss.length c2)/\KeepY w (.slice (ox,yo) 2 c3) ox yo (str s0) (.int RD v0) (.slice p2 m2 d2) (.slice p3 m3 d3) (str s1) (.int RD v1) (.slice p4 m4 d4) (.slice p5 m5 d5) wr) (fun _ i _=>ss.length-(intOf i).toNat)
   case atStart=>exact⟨0,R6 _,rfl,by simp[kT],iJ,Cc,Rt.out⟩
   case round=>
    clear Cc Rt Od iJ;obtain⟨k,hk,rfl,rfl,hb,Cc,PV⟩:=hrel;have Od:=r9 PV;clear PV;have hlen:([40]++dec lv++kT (ss.take k)).length<=16777216:=by
     have h1:=mG ss k;have h2:=Nk.out;simp only[RL,RU,List.length_nil];omega
    by_cases sC:k<ss.length
    ·obtain⟨bb,o,s',v',b2,n2,e2,b3,n3,e3,t,eb,hbb,ht,u0,u1,u2,u3,hr⟩:=ATK.out k sC;subst eb;have q0:=(hb.cell hbb).trans u0;have q1:=(hb.cell hbb).trans u1;have q2:=(hb.cell hbb).trans u2;have q3:=(hb.cell hbb).trans u3;have o_:=zY.below (F':=fun _=>True) hb (fun _ _=>trivial) hr;have iH:=xV ht;have lR:=vD ss (k+1);have Bf:=Nk.out;have iy:=vK t (mA _ LV.out k t ht);have C:=r9 (IH.out t (by omega) (mA _ LV.out k t ht) _ wr _ _ _ _ o_);have HT:=r9 (textBs_take ht);have ht16:(kZ t).length<=16777216:=by omega
     have tB:(k:Int)<(ss.length:Int):=by omega
     generalize hO:[40]++dec lv++kT (ss.take k)=O at *;have HO:=r9 hO;have ou:=fun w0=>qz (P:=RG) O [32] (by simp;omega) w0;have At:=fun w0=>qz (P:=RG) (O++[32]) (kZ t) (by simp;omega) w0;clear hO iH lR Bf iy ht u0 u1 u2 u3 hr o_;go_wp2_with fail
     refine C.out.mono ?_;rintro en w2 ⟨rfl,sY⟩;have sE:=zzT hb sY;have hx2':w2 (w,2)=OK (.slice (bb,o) ss.length c2):=(sY.cell (sK _ ⟨w,2,U⟩ Cc)).trans Cc;have HKY2:=r9 (Od.out.below sY);go_wp2_with fail
     go_roundw
     case rel=>exact⟨k+1,by omega,by go_num,by rw[HT.out,<- HO.out];simp[str],sE,hx2',HKY2.out⟩
     case measure=>simp[intOf];omega
    ·obtain rfl:k=ss.length:=by omega
     rw[R8]at hlen ⊢;have Ce:¬((ss.length:Int)<(ss.length:Int)):=by omega
     have HE:Hid (kZ (.ask lv ss yb nb)=((((([40]++dec lv++kT ss)++[32])++kZ yb)++[32])++kZ nb)++[41]):=by show kZ _=_;rw[kZ]
     generalize hO:[40]++dec lv++kT ss=O at *;clear hO;obtain⟨BY,q0,q1,q2,q3,q4,q5,q6,q7⟩:=Od.out;have O8:=(zY.below (F':=fun _=>True) hb (fun _ _=>trivial) Nn.out).drew;have Pd:=zY.below (F':=fun _=>True) hb (fun _ _=>trivial) HRN.out;have Bf:=Nk.out;have iy:=HYN.out;have y16:(kZ yb).length<=16777216:=by omega
     have n16:(kZ nb).length<=16777216:=by omega
     have pp:=kQ yb;have pq:=kQ nb;have CY:=r9 (IH.out yb (by omega) LV3.out _ wr.drew _ _ _ _ O8);have CN:=fun W F' h=>IH.out nb (by omega) LV4.out F' W (str s1) (.int RD v1) (.slice p4 m4 d4) (.slice p5 m5 d5) h;have CN':=r9 CN;clear CN;have RN:=r9 Pd;have e16:(O++[32]).length=O.length+1:=by simp
     obtain⟨O1,h1⟩:=zzM (O++[32]);obtain⟨O2,h2⟩:=zzM (O1++kZ yb);obtain⟨O3,h3⟩:=zzM (O2++[32]);obtain⟨O4,h4⟩:=zzM (O3++kZ nb);obtain⟨O5,h5⟩:=zzM (O4++[41]);have l1:O1.length<=16777217:=by rw[h1];simp;omega
     have l2:O2.length<=33554433:=by rw[h2];simp;omega
     have l3:O3.length<=33554434:=by rw[h3];simp;omega
     have l4:O4.length<=50331650:=by rw[h4];simp;omega
     have ou:=fun w0=>qz (P:=RG) O [32] (by simp;omega) w0;have At:=fun w0=>qz (P:=RG) O1 (kZ yb) (by omega) w0;have DO:=fun w0=>qz (P:=RG) O2 [32] (by simp;omega) w0;have DN:=fun w0=>qz (P:=RG) O3 (kZ nb) (by omega) w0;have QI:=fun w0=>qz (P:=RG) O4 [41] (by simp;omega) w0;have HE5:Hid (O5=kZ (.ask lv ss yb nb)):=by show O5=_;rw[HE.out,h5,h4,h3,h2,h1]
     rw[<- h1]at ou;rw[<- h2]at At;rw[<- h3]at DO;rw[<- h4]at DN;rw[<- h5]at QI;clear h1 h2 h3 h4 h5 HE e16 l1 l2 l3 l4;have hKd:KeepY w (.slice (ox,yo) 2 c3) ox yo (str s0) (.int RD v0) (.slice p2 m2 d2) (.slice p3 m3 d3) (str s1) (.int RD v1) (.slice p4 m4 d4) (.slice p5 m5 d5) wr.drew:=Od.out;clear Bf iy pp pq O8 Pd t1 t2 t3 t4;go_wp2_with fail
     go_region_held3 (fun w'=>w' (w,3)=OK (.slice (ox,yo) 2 c3)/\w' (ox,yo)=str s0/\w' (ox,yo+1)=OK (.int RD v0)/\w' (ox,yo+2)=OK (.slice p2 m2 d2)/\w' (ox,yo+3)=OK (.slice p3 m3 d3)/\w' (ox,yo+4)=str s1/\w' (ox,yo+5)=OK (.int RD v1)/\w' (ox,yo+6)=OK (.slice p4 m4 d4)/\w' (ox,yo+7)=OK (.slice p5 m5 d5))
      (first
       |with_reducible exact hKd
       |with_reducible exact Jm
       | with_reducible exact hK4)
      (first
       |(go_at_call 43;refine(CN'.out _ _ rn3).mono ?_;rintro en w4 ⟨rfl,sO⟩;have hK4:=Jm.below sO)
       | (go_at_call 43;refine CY.out.mono ?_;rintro en w3 ⟨rfl,sE⟩;have Jm:=hKd.below sE;have rn3:=zY.below (F':=fun _=>True) sE (fun _ _=>trivial) RN.out.drew))
     go_wp2_with fail
     go_ret;exact⟨by rw[<- HE5.out];rfl,hb.trans ((((sQ _ wr).drew).trans (zzT sE sO)).mono hb.size)⟩
theorem l3Text_any (n:Nat):∀b,zG b<=n->n<=1000000->lvB b->fR b:=by
 induction n with
 |zero=>intro b h _;have:=kQ b;omega
 |succ n ih=>exact fun b h hn iT=>l3Text_step b (by omega) iT (fun b' h' Ar=>ih b' (by omega) (by omega) Ar)
mutual
def de:Mn->List DV
 |.op o t=>[.val (.int RD (o:Nat)),.val (str []),.val (.int RD 0),.val (.slice U 0 0),.val (.slice U 0 0),ki t,.val (.slice U 0 0),.val (.int RD 0),.any]
 |.bd t b env=>[.val (.int RD (-1))]++(kU b++[ki t,.sl 147 9 env.length (qJ env),.val (.int RD (0:Nat)),.any])
def qJ:List Mn->List DV
 |[]=>[]
 |x::xs=>de x++qJ xs
end
theorem ge (x:Mn):(de x).length=9:=by cases x <;> simp[de,qy]
theorem da:∀xs:List Mn,(qJ xs).length=xs.length*9
 |[]=>by simp[qJ]
 |x::xs=>by rw[qJ,RL,ge,da xs];simp;omega
theorem vu:∀(xs ys:List Mn),qJ (xs++ys)=qJ xs++qJ ys
 |[],ys=>by simp[qJ]
 |x::xs,ys=>by simp[qJ,vu xs ys]
theorem vc {F:Nat->Prop}{w:World}:∀(xs:List Mn) (us:List Value),zY F w (qJ xs) us->∀u∈us,u.oneCell'=true
 |[],us,h,u,hu=>by rw[qJ,zE]at h;subst h;simp at hu
 | x::xs,us,h,u,hu=>by
   rw[qJ]at h;obtain⟨h1,h2⟩:=h.split;rw[ge]at h1 h2;rw[<- R7 9 us]at hu;rcases Si.1 hu with hu|hu
   ·cases x with
    | op o t =>
      simp only[de,zQ,zE,zC,y9]at h1;obtain⟨_,_,e,rfl,_,_,rfl,rfl,_,_,rfl,rfl,_,_,rfl,rfl,_,_,rfl,rfl,x1,_,rfl,q1,_,_,rfl,rfl,_,_,rfl,rfl,x3,_,rfl,⟨i3,rfl⟩,rfl⟩:=h1;obtain⟨sa,sc,rfl⟩:=za q1;rw[e]at hu;simp only[Sc,Vc,or_false]at hu;rcases hu with rfl|rfl|rfl|rfl|rfl|rfl|rfl|rfl|rfl
      all_goals first | rfl | assumption
    | bd t b env =>
      rw[de]at h1;obtain⟨k1,k2⟩:=h1.split;obtain⟨k3,k4⟩:=k2.split;rw[<- R7 1 (us.take 9)]at hu;rcases Si.1 hu with hu|hu
      ·simp only[TN,zQ,zE,zC]at k1;obtain⟨_,_,e,rfl,rfl⟩:=k1;rw[e]at hu;simp at hu;subst hu;rfl
      ·rw[qy]at k3 k4;simp only[TN]at k3 k4;rw[<- R7 4 (Uq 1 (us.take 9))]at hu;rcases Si.1 hu with hu|hu
       ·exact dT k3 u hu
       ·simp only[zQ,zE,y9,zC]at k4;obtain⟨x0,_,e,q1,x1,_,rfl,q2,_,_,rfl,rfl,x3,_,rfl,⟨i3,rfl⟩,rfl⟩:=k4;rw[e]at hu;obtain⟨sa,sc,rfl⟩:=za q1;rw[zv]at q2;obtain⟨_,a,c,rfl,_⟩:=q2;simp only[Sc,Vc,or_false]at hu;rcases hu with rfl|rfl|rfl|rfl
        all_goals first | rfl | assumption
   ·exact vc xs _ h2 u hu
def HandWPost (F:Nat->Prop)(hand:List Mn)(own:List Mn)(w:World)(en:Ending)(w':World):Prop:=
 ∃a c,en=.returned (.slice a (hand.length+own.length) c)/\No w w'/\Rep (fun i=>F i\/w<=i) w' (.sl 147 9 (hand.length+own.length) (qJ (hand++own))) (.slice a (hand.length+own.length) c)
theorem ct (F:Nat->Prop)(hand env:List Mn)(ss:List Bd)(t:Ty)(hv kv tv ev:Value)(w:World)(hh:Rep F w (.sl 147 9 hand.length (qJ hand)) hv)(hk:Rep F w (.sl 53 4 ss.length (zp ss)) kv)(ht:Rep F w (ki t) tv)(he:Rep F w (.sl 147 9 env.length (qJ env)) ev)(hl:hand.length<=10000000)(hs:ss.length=t.args.length)(Jz:ss.length<=16) :
 Calls RG 50 #[hv,kv,.agg #[tv],ev,.int RD (0:Nat)] w (HandWPost F hand (jV env t.args ss) w):=by
 obtain⟨xs1,Ba,g1⟩:=zz.ofRep hh (vc _);obtain⟨a1,c1,e1⟩:=g1.slice;subst e1;obtain⟨ka,kc,e,Ez⟩:=bZ.of hk;subst e;have al:=ht;rw[jJ]at al;obtain⟨ta,tc,e,_,_,AD⟩:=zH al;subst e;obtain⟨ea,ec,e⟩:∃a c,ev=.slice a env.length c:=by have h:=he;rw[zv]at h;obtain⟨_,a,c,e,_⟩:=h;exact⟨a,c,e⟩
 subst e;have H:=r9 (r_ Ba (r_ g1 (r_ Ez (r_ AD (r_ he hs)))));clear Ba g1 Ez AD he hs hh hk ht al;have lg:(jV env t.args ss).length=ss.length:=(pU _ _ H.out.2.2.2.2.2).trans H.out.2.2.2.2.2.symm;have Ob:=r9 lg;clear lg;go_enter Tryz.func50,Tryz.ntmps50;go_wp2_with (at_builtin;refine zF rfl _ _ 105 rfl 147 (.agg #[.int RD 0,str [],.int RD 0,(),(),(),(),.int RD 0,.int RD 0]) 9 144 Sp Tryz.infoBo rfl (by decide) (.slice (w+1:Nat) 0 0) 0 [] rfl ?c1 _ hand.length xs1 rfl ?c2 ?c3 ?c4 ?_)
 case c1=>exact Own.litAt #[] 0 _ (by simp) (by decide) rfl
 case c2=>exact(H.out.2.1.alloc _).alloc _
 case c3=>unfold maxLen;omega
 case c4=>omega
 intro ax cx wx Mo iw MG;obtain⟨oh,MJ⟩:=xI (w:=w.alloc (.cells #[.slice ta t.args.length tc] 47)) ((sQ _ _).alloc (sZ _) _) (dS (by simp)) iw (fun g h=>by have:=MG g h;simpa only[zK] using this);have iJ:No w (w.alloc (.cells #[.slice ta t.args.length tc] 47)):=(sQ _ _).alloc (sZ _) _;have IA:No w wx:=iJ.trans (oh.mono (by rw[zK];omega));have Dj:wx w=OK (.slice ta t.args.length tc):=by rw[oh.cell (p:=w) (by rw[zK];simp)];simp
 have Im:∀g,(RI ax hand.length cx).ownBlock=OK g->(w:Nat)+1<=g:=fun g hg=>by have:=MJ g hg;rwa [zK]at this
 have HX:=r9 (r_ Mo (r_ IA (r_ Dj Im)));clear Mo iw MG oh MJ iJ IA Dj Im;go_wp2_with fail
 go_loopw [12,11] (fun i o wr=>∃ (k:Nat) (a':Option Addr) (c':Nat) (cells:List Value),k<=ss.length/\i=.int .i64 k/\o=.slice a' (hand.length+k) c'/\Own wr 147 9 (.slice a' (hand.length+k) c') (hand.length+k) cells /\
  zY (fun i=>F i/\(RI a' (hand.length+k) c').ownBlock≠some i) wr (qJ (hand++(jV env t.args ss).take k)) cells/\Below w w wr/\wr w=some (.slice ta t.args.length tc)/\(∀ g,(RI a' (hand.length+k) c').ownBlock=some g->(w:Nat)+1<=g)) (fun i _ _=>ss.length-(intOf i).toNat)
 case atStart=>
  refine⟨0,ax,cx,xs1,R6 _,rfl,rfl,HX.out.1,?_,HX.out.2.1,HX.out.2.2.1,HX.out.2.2.2⟩;rw[UK,R9];exact(Rep.keep fun b o hf ho=>⟨⟨hf,fun e=>by have h1:w+1<=b:=HX.out.2.2.2 b e;have:=zZ ho;omega⟩,by rw[HX.out.2.1.block b (zZ ho)];exact ho⟩).2 _ _ H.out.1
 case round=>
  obtain⟨k,a',c',cells,hk,rfl,rfl,ho,hr,hb,hc,hf⟩:=hrel;have HR:=r9 (r_ ho (r_ hr (r_ hb hf)));clear ho hr hb hf;by_cases sC:k<ss.length
  ·obtain⟨kb,ko,s',v',a2,n2,c2,a3,n3,c3,d,e,ic,hd,k0,k1,k2,k3,i8⟩:=H.out.2.2.1 k sC;subst e;have Fa:k<t.args.length:=by have:=H.out.2.2.2.2.2;omega
   obtain⟨bt,ot,ut,dt,e,_,ib,NP,K5,tQ⟩:=H.out.2.2.2.1 k Fa;subst e;rw[vU,RP]at NP;obtain⟨tk,lM,rfl⟩:=NP;obtain⟨ua,uc,rfl⟩:=za tQ;have q0:=(HR.out.2.2.1.cell (p:=(kb,ko+k*4)) ic).trans k0;have q1:=(HR.out.2.2.1.cell (p:=(kb,ko+k*4+1)) ic).trans k1;have q2:=(HR.out.2.2.1.cell (p:=(kb,ko+k*4+2)) ic).trans k2;have q3:=(HR.out.2.2.1.cell (p:=(kb,ko+k*4+3)) ic).trans k3;have q4:=(HR.out.2.2.1.cell (p:=(bt,ot+k)) ib).trans K5;have HK:=r9 (r_ hd (r_ i8 (r_ lM tQ)));clear hd i8 lM tQ k0 k1 k2 k3 K5;have tB:(k:Int)<(ss.length:Int):=by omega
   have MC:(k:Int)<(t.args.length:Int):=by omega
   have h09:0<9:=by omega
   have oP:hand.length+k+1<=maxLen:=by unfold maxLen;omega
   have aI:(hand.length+k+1)*144<=140737488355328:=by omega
   have B5:=(zz.lit1 (w:=wr) (e:=147) #[.int RD (-1),str s',.int RD v',.slice a2 n2 c2,.slice a3 n3 c3,.slice ua tk.args.length uc,.slice ea env.length ec,.int RD (0:Nat),.int RD (k:Nat)] rfl (by simp[str,R4]) _ rfl).drew;have HL:=r9 B5;clear B5;have hrw:∀g,(RI a' (hand.length+k) c').ownBlock=OK g->g<(wr:Nat):=fun g hg=>HR.out.1.lt hg
   have SIX:Hid (∀ w7:World,But (fun b=>(RI a' (hand.length+k) c').ownBlock=some b) (wr.alloc (.cells #[.int .i64 (-1),s',.int .i64 v',.slice a2 n2 c2,.slice a3 n3 c3,.slice ua tk.args.length uc,.slice ea env.length ec,.int .i64 (0:Nat),(k:Int)] 147)).drew w7 ->
    w7 (kb,ko+k*4)=str s'/\w7 (kb,ko+k*4+1)=some (.int .i64 v')/\w7 (kb,ko+k*4+2)=some (.slice a2 n2 c2)/\w7 (kb,ko+k*4+3)=some (.slice a3 n3 c3)/\w7 (bt,ot+k)=some (.slice ua tk.args.length uc)/\w7 w=some (.slice (bt,ot) t.args.length tc)):=by
    show ∀w7:World,_->_;intro w7 sH;have hz:=HR.out.2.2.1.size;have key:∀(p:Addr) (u:Value),p.block<w+1->wr.cell? p=u->w7.cell? p=u:=by
     intro p u hp hu;have h1:(wr.alloc (.cells #[.int RD (-1),s',.int RD v',.slice a2 n2 c2,.slice a3 n3 c3,.slice ua tk.args.length uc,.slice ea env.length ec,.int RD (0:Nat),(k:Int)] 147)).drew.cell? p=u:=zV hu;exact(sH.cell (sK _ _ h1) (fun e=>by have:=HR.out.2.2.2 _ e;omega)).trans h1
    exact⟨key _ _ (by simp only;omega) q0,key _ _ (by simp only;omega) q1,key _ _ (by simp only;omega) q2,key _ _ (by simp only;omega) q3,key _ _ (by simp only;omega) q4,key _ _ (by simp only;omega) hc⟩
   go_wp2_with fail
   go_region_held3 (fun w'=>w' (kb,ko+k*4)=str s'/\w' (kb,ko+k*4+1)=OK (.int RD v')/\w' (kb,ko+k*4+2)=OK (.slice a2 n2 c2)/\w' (kb,ko+k*4+3)=OK (.slice a3 n3 c3)/\w' (bt,ot+k)=OK (.slice ua tk.args.length uc)/\w' w=OK (.slice (bt,ot) t.args.length tc))
    (first
     |exact⟨q0,q1,q2,q3,q4,hc⟩
     |exact D_
     | go_keep)
    (first
     | (refine zL (by rfl) _ _ _ (by rfl) 147 (.agg #[.int .i64 0,str [],.int .i64 0,.slice none 0 0,.slice none 0 0,.slice none 0 0,.slice none 0 0,.int .i64 0,.int .i64 0]) 9 144 Sp Tryz.infoBo rfl h09 (.slice a' (hand.length+k) c') (hand.length+k) cells (by rfl) (HR.out.1.alloc _).drew _ 1 [.int .i64 (-1),str s',.int .i64 v',.slice a2 n2 c2,.slice a3 n3 c3,.slice ua tk.args.length uc,.slice ea env.length ec,.int .i64 (0:Nat),.int .i64 (k:Nat)] (by rfl) HL.out oP aI ?_;intro a7 c7 w7 sj sH sS;have D_:=SIX.out w7 sH))
   have hz:=HR.out.2.2.1.size;have tD:∀g,(RI a7 (hand.length+k+1) c7).ownBlock=OK g->(RI a' (hand.length+k) c').ownBlock=OK g\/g=(wr:Nat)+1:=by
    intro g hg;rcases sS g hg with h|h
    ·exact .inl h
    ·exact .inr (by rw[h];exact zK _ _)
   have tJ:No w w7:=by
    refine((HR.out.2.2.1.alloc hz _).drew).trans (sH.toBelow (by show _<=(wr.alloc _).heap.size;rw[zK];omega) fun i hi e=>?_);have:=HR.out.2.2.2 i e;omega
   have i_:∀(b:Nat) (o:Obj),(RI a' (hand.length+k) c').ownBlock≠OK b->wr.heap[b]?=OK o->w7.heap[b]?=OK o:=by
    intro b o hf ho;have h2:=zZ ho;have h3:(wr.alloc (.cells #[.int RD (-1),s',.int RD v',.slice a2 n2 c2,.slice a3 n3 c3,.slice ua tk.args.length uc,.slice ea env.length ec,.int RD (0:Nat),(k:Int)] 147)).drew.heap[b]?=OK o:=zJ ho;rw[sH.block b (zZ h3) hf];exact h3
   have lS:zY (fun i=>F i/\(RI a7 (hand.length+k+1) c7).ownBlock≠OK i) w7 (qJ (hand++(jV env t.args ss).take (k+1))) (cells++[.int RD (-1),str s',.int RD v',.slice a2 n2 c2,.slice a3 n3 c3,.slice ua tk.args.length uc,.slice ea env.length ec,.int RD (0:Nat),.int RD (k:Nat)]):=by
    have how:=owns_at (env:=env) t.args ss k tk d HK.out.2.2.1 HK.out.1;rw[Sd,how];simp only[Option.toList_some];rw[<- Sn,vu];have JG:∀(b:Nat) (o:Obj),F b->w.heap[b]?=OK o->(F b/\(RI a7 (hand.length+k+1) c7).ownBlock≠OK b)/\w7.heap[b]?=OK o:=by
     intro b o hf ho;have h1:=zZ ho;refine⟨⟨hf,fun e=>?_⟩,by rw[tJ.block b h1];exact ho⟩;rcases tD b e with h|h
     ·have:=HR.out.2.2.2 b h;omega
     ·omega
    refine zY.append ?_ ?_
    ·exact (Rep.keep fun b o hf ho=>⟨⟨hf.1,fun e=>by
      have:=zZ ho;rcases tD b e with h|h
      ·exact hf.2 h
      ·omega⟩,i_ b o hf.2 ho⟩).2 _ _ HR.out.2.1
    ·simp only[qJ,de,R9,R5,Ss];refine zQ.2 ⟨_,_,rfl,zC.2 rfl,?_⟩;have h4:=(Rep.keep JG).2 _ _ HK.out.2.1;have h5:=(Rep.keep JG).1 _ _ HK.out.2.2.2;have h6:=(Rep.keep JG).1 _ _ H.out.2.2.2.2.1;exact zY.append h4 (zQ.2 ⟨_,_,rfl,h5,zQ.2 ⟨_,_,rfl,h6,zQ.2 ⟨_,_,rfl,zC.2 rfl,zQ.2 ⟨_,_,rfl,y9.2 ⟨_,rfl⟩,zE.2 rfl⟩⟩⟩⟩)
   have iA:∀g,(RI a7 (hand.length+k+1) c7).ownBlock=OK g->(w:Nat)+1<=g:=by
    intro g hg;rcases tD g hg with h|h
    ·exact HR.out.2.2.2 g h
    ·omega
   have H7:=r9 (r_ sj (r_ lS (r_ tJ (r_ D_.2.2.2.2.2 iA))));clear sj lS tJ D_ iA sH sS tD i_ q0 q1 q2 q3 q4 hc;go_wp2_with fail
   go_roundw
   case rel=>exact⟨k+1,a7,c7,_,by omega,by go_num,rfl,H7.out.1,H7.out.2.1,H7.out.2.2.1,H7.out.2.2.2.1,H7.out.2.2.2.2⟩
   case measure=>simp[intOf];omega
  ·obtain rfl:k=ss.length:=by omega
   have PC:¬(ss.length:Int)<(ss.length:Int):=by omega
   clear hc;go_wp2_with fail
   go_ret;have hr:=HR.out.2.1;rw[List.take_of_length_le (by rw[Ob.out];exact sZ _)]at hr;unfold HandWPost;rw[Ob.out];refine⟨a',c',rfl,HR.out.2.2.1,HR.out.1.rep (fun g hg=>.inr (by have:=HR.out.2.2.2 g hg;omega)) ((Rep.keep fun b o hf ho=>⟨.inl hf.1,ho⟩).2 _ _ hr)⟩
theorem gh (F:Nat->Prop)(n:Nat)(ts:List Ty)(kv:Value)(w:World)(h:Rep F w (.sl 47 1 ts.length (qu ts)) kv)(hl:ts.length<=1000)(hn:n<=1000000) :
 Calls RG 70 #[kv,(n:Int)] w (FreshV w 147 9 ts.length fun w' xs=>zY F w' (qJ (opens n ts)) xs):=by
 obtain⟨ka,kc,e,_,_,sG⟩:=zH h;subst e;have H:=r9 sG;clear sG h;go_enter Tryz.func70,Tryz.ntmps70;go_wp2_with fail
 go_loopw [5,6] (fun o i wr=>∃k:Nat,k<=ts.length/\i=.int RD k/\∃a c xs,o=.slice a k c/\Own wr 147 9 (.slice a k c) k xs/\zY (fun i=>F i/\i<w) wr (qJ (opens n (ts.take k))) xs/\No w wr/\(∀g,(RI a k c).ownBlock=OK g->(w:Nat)<=g)) (fun _ i _=>ts.length-(intOf i).toNat)
 case atStart=>exact⟨0,R6 _,rfl,_,_,[],rfl,Own.litAt #[] 0 _ (by simp) (by decide) rfl,by simp[opens,qJ,zE],(sQ _ _).alloc (sZ _) _,dS (sZ _)⟩
 case round=>
  obtain⟨k,hk,rfl,a,c,xs,rfl,ho,hr,hb,hf⟩:=hrel;have HO:=r9 ho;have HF:=r9 hf;have HB:=r9 hb;have HR:=r9 hr;clear ho hf hb hr;by_cases sC:k<ts.length
  ·have tB:(k:Int)<(ts.length:Int):=by omega
   obtain⟨b,o,u,d,e,_,tY,hd,hc,iK⟩:=H.out k sC;subst e;rw[vU,RP]at hd;obtain⟨t,ht,rfl⟩:=hd;obtain⟨ua,uc,rfl⟩:=za iK;have q0:=(HB.out.cell (p:=(b,o+k)) tY).trans hc;have HT:=r9 (r_ ht iK);clear ht iK hc;go_wp2_with (at_builtin;refine zF rfl _ _ 105 rfl 147 (.agg #[.int RD 0,str [],.int RD 0,(),(),(),(),.int RD 0,.int RD 0]) 9 144 Sp Tryz.infoBo rfl (by decide) (.slice a k c) k xs rfl ?c1 _ 1 [.int RD ((n:Int)+(k:Int)),str [],.int RD 0,(),(),.slice ua t.args.length uc,(),.int RD 0,.int RD 0] rfl ?c2 ?c3 ?c4 ?_)
   case c1=>exact HO.out.alloc _
   case c2=>exact zz.lit1 #[.int RD ((n:Int)+(k:Int)),str [],.int RD 0,.slice U 0 0,.slice U 0 0,.slice ua t.args.length uc,.slice U 0 0,.int RD 0,.int RD 0] rfl (by simp[str,R4]) _ (by simp)
   case c3=>unfold maxLen;omega
   case c4=>omega
   intro a' c' w7 sj sH sS;have tJ:No w w7:=by
    have h1:=HB.out;refine(h1.alloc h1.size _).trans (sH.toBelow (by rw[zK];have:=h1.size;omega) fun i hi e=>?_);have:=HF.out i e;omega
   have iA:∀g,(RI a' (k+1) c').ownBlock=OK g->(w:Nat)<=g:=by
    intro g h;rcases sS g h with h|h
    ·exact HF.out g h
    ·have h2:=HB.out.size;omega
   have lS:zY (fun i=>F i/\i<w) w7 (qJ (opens n (ts.take (k+1)))) (xs++[.int RD ((n:Int)+(k:Int)),str [],.int RD 0,.slice U 0 0,.slice U 0 0,.slice ua t.args.length uc,.slice U 0 0,.int RD 0,.int RD 0]):=by
    rw[cO HT.out.1,vu,qJ,qJ,R9];refine zY.append ?_ ?_
    ·exact(Rep.keep fun b o hf ho=>⟨hf,by rw[tJ.block b hf.2,<- HB.out.block b hf.2];exact ho⟩).2 _ _ HR.out
    ·rw[de];refine zQ.2 ⟨_,_,rfl,zC.2 (by rw[S_]),zQ.2 ⟨_,_,rfl,zC.2 rfl,zQ.2 ⟨_,_,rfl,zC.2 rfl,zQ.2 ⟨_,_,rfl,zC.2 rfl,zQ.2 ⟨_,_,rfl,zC.2 rfl,zQ.2 ⟨_,_,rfl,(Rep.keep fun b o hf ho=>⟨⟨hf,zZ ho⟩,by rw[tJ.block b (zZ ho)];exact ho⟩).1 _ _ HT.out.2,zQ.2 ⟨_,_,rfl,zC.2 rfl,zQ.2 ⟨_,_,rfl,zC.2 rfl,zQ.2 ⟨_,_,rfl,y9.2 ⟨_,rfl⟩,zE.2 rfl⟩⟩⟩⟩⟩⟩⟩⟩⟩
   have HA:=r9 (r_ sj (r_ lS (r_ tJ iA)));clear sj lS tJ iA sH sS;go_wp2_with fail
   go_roundw
   case rel=>exact⟨k+1,by omega,by go_num,a',c',_,rfl,HA.out.1,HA.out.2.1,HA.out.2.2.1,HA.out.2.2.2⟩
   case measure=>simp[intOf];omega
  ·obtain rfl:k=ts.length:=by omega
   go_wp2_with fail
   go_ret;have h0:=HR.out;rw[R8]at h0;exact⟨a,c,xs,rfl,HO.out,(Rep.keep fun b o hf ho=>⟨hf.1,ho⟩).2 _ _ h0,HB.out,HF.out⟩
def Wri (w:World)(ww:Nat)(k s:Int):Prop:=w.heap[ww]?=OK (.cells #[.int RD k,.int RD s] 144 (0,0))
theorem Wri.cell {w:World}{ww:Nat}{k s:Int}(h:Wri w ww k s):w ww=OK (.int RD k)/\w (ww,1)=OK (.int RD s)/\(∀o,w.frozen? ⟨ww,o,U⟩=false)/\ww<w:=by
 unfold Wri at h;exact⟨by simp[RE,h],by simp[RE,h],fun o=>by simp[World.frozen?,h],zZ h⟩
theorem Wri.below {w w':World}{ww:Nat}{k s:Int}(h:Wri w ww k s)(hb:No w w'):Wri w' ww k s:=by unfold Wri;rw[hb.block ww (zZ h)];exact h
structure WFr where
 v:Nat
 ss:List Bd
 yes:Bd
 no:Bd
 env:List Mn
def WFr.gf (f:WFr):Gf:=⟨f.yes,f.no,f.env⟩
def encF (f:WFr):List DV:=kU (.ask f.v f.ss f.yes f.no)++[.sl 147 9 f.env.length (qJ f.env),.val (.int RD (0:Nat))]
def yB:List WFr->List DV
 |[]=>[]
 |f::st=>yB st++encF f
theorem encF_length (f:WFr):(encF f).length=6:=by simp[encF,qy]
theorem pm:∀st:List WFr,(yB st).length=st.length*6
 |[]=>rfl
 |f::st=>by rw[yB,RL,pm st,encF_length,RU];omega
theorem mu (ww:Nat)(s:Int)(nvs:Array Value)(s0:Bs)(v0:Int)(a1 a2:Option Addr)(n1 c1 n2 c2:Nat)(hn:nvs=#[str s0,.int RD v0,.slice a1 n1 c1,.slice a2 n2 c2])(ev sv:Value)(n:Nat)(w:World)(h:Wri w ww (-1) s)(h0:0<=s)(h1:s<=1000000000) :
 Calls RG 71 #[ww,.agg nvs,ev,sv,(n:Int)] w fun en w'=>
  en=.returned (.agg #[str [117],.int RD 0,(),()])/\But (· = ww) w w'/\Wri w' ww (-1) (s+1):=by
 subst hn;obtain⟨W,hW⟩:=zzN ((w.alloc (.cells #[s0,.int RD v0,.slice a1 n1 c1,.slice a2 n2 c2] 53)).alloc (.cells #[str [],.int RD 0,(),()] 53));have sF:No w W:=by rw[<- hW];exact((sQ _ _).alloc (sZ _) _).alloc (by rw[zK];omega) _
 have IM:=h.below sF;obtain⟨k0,k1,kf,klt⟩:=IM.cell;have Ow:=kf 1;obtain⟨W2,se⟩:=zzN (W.setCell (ww,1) (.int RD (s+1)));have AP:Wri W2 ww (-1) (s+1):=by unfold Wri at *;rw[<- se,zT IM];rfl
 obtain⟨m0,m1,mf,mlt⟩:=AP.cell;have mf0:=mf 0;have lQ:z9 ((w:Nat)+1) 0 () () W:=by
  have:=zW (w.alloc (.cells #[s0,.int RD v0,.slice a1 n1 c1,.slice a2 n2 c2] 53)) (.cells #[str [],.int RD 0,(),()] 53);rw[zK,hW]at this;exact this
 have hww:=h.cell.2.2.2;obtain⟨W3,aH⟩:=zzN (W2.setCell ww (.int RD (-1)));have Ag:Wri W3 ww (-1) (s+1):=by unfold Wri at *;rw[<- aH,zT AP];rfl
 have oq:But (· = ww) W W3:=by rw[<- aH,<- se];exact((But.refl (· = ww) W).setCell (p:=⟨ww,1,U⟩) (.inl rfl) _).setCell (p:=ww) (.inl rfl) _
 have t_:z9 ((w:Nat)+1) 0 () () W3:=lQ.but oq (by show ¬(w+1=ww);omega);obtain⟨r0,r1,r2,r3,rlt,rf⟩:=t_.cells;have iX:=rf 0;have iu:=rf 1;have lA:=rf 2;have Aj:=rf 3;have HW:=r9 (r_ hW (r_ se (r_ sF (r_ aH (r_ Ag (r_ oq t_))))));clear lQ t_ oq Ag aH rf AP hW se sF IM h kf mf;go_enter Tryz.func71,Tryz.ntmps71;go_upto_region 1 with (fail)
 rw[HW.out.1];refine wp_loop_rounds 1 ?_;rw[rounds_succ];go_upto_region 2 with (fail)
 rw[HW.out.2.1];go_upto_region 4 with (fail)
 rw[HW.out.2.2.2.1];go_wp2_with fail
 obtain⟨hW,se,sF,aH,Ag,oq,t_⟩:=HW.out;obtain⟨W4,lX,tm,tp,tf,aQ,_,EA⟩:=t_.store (.string ⟨#[117]⟩) (.int RD 0) () ();rw[<- lX];refine bodyPost_ret (v:=.agg #[str [117],.int RD 0,(),()]) (by simp[results,Tryz.results71,go_sem,tm,tp,tf,aQ,str]) rfl ?_;refine⟨rfl,?_,EA ww _ (by omega) Ag⟩;have sE:But (· = ww) w W3:=(But.ofBelow sF).trans oq;have tw:(w:Nat)<=w+1:=by omega
 rw[lX];exact(((sE.setCell (p:=(w+1:Nat)) (.inr tw) _).setCell (p:=⟨w+1,1,U⟩) (.inr tw) _).setCell (p:=⟨w+1,2,U⟩) (.inr tw) _).setCell (p:=⟨w+1,3,U⟩) (.inr tw) _
def vl (F:Nat->Prop)(ww:Nat)(D:Int)(o:Option (Bd×Nat×Nat))(w:World)(en:Ending)(w':World):Prop:=
 ∃ s v a1 n1 c1 a2 n2 c2,en=.returned (.agg #[str s,.int .i64 v,.slice a1 n1 c1,.slice a2 n2 c2])/\But (· = ww) w w'/\(o=none->∃ st,Wri w' ww (-1) st/\0<=st/\st<=D) /\
   ∀x,o=OK x->Wri w' ww (x.2.1:Nat) (20000-(x.2.2:Nat))/\zY (fun i=>F i\/w<=i) w' (kU x.1) [s,.int RD v,.slice a1 n1 c1,.slice a2 n2 c2]
def Fx (F:Nat->Prop)(w:World)(k:Nat):Nat->Prop:=fun i=>(F i/\i<w)\/(w:Nat)+k<=i
structure OBox (w:World)(s0:Bs)(v0:Int)(a1 a2 ta:Option Addr)(n1 c1 n2 c2 nt tc:Nat)(wr:World):Prop where
 x0:wr w=str s0
 x1:wr (w,1)=OK (.int RD v0)
 x2:wr (w,2)=OK (.slice a1 n1 c1)
 x3:wr (w,3)=OK (.slice a2 n2 c2)
 y0:wr (w+1:Nat)=OK (.slice ta nt tc)
 res:z9 ((w:Nat)+2) 0 () () wr
 bel:No w wr
theorem OBox.below {w wr w':World}{s0:Bs}{v0:Int}{a1 a2 ta:Option Addr}{n1 c1 n2 c2 nt tc:Nat}(h:OBox w s0 v0 a1 a2 ta n1 c1 n2 c2 nt tc wr)(hb:Below ((w:Nat)+3) wr w'):OBox w s0 v0 a1 a2 ta n1 c1 n2 c2 nt tc w':=by
 have hr:=h.res.cells.2.2.2.2.1;have k:∀(p:Addr),p.block<w+3->w'.cell? p=wr.cell? p:=fun p hp=>World.cell?_of_block (w:=wr) (hb.block p.block hp)
 exact ⟨(k ⟨_,_,_⟩ (by show (w:Nat)<_;omega)).trans h.x0,(k ⟨_,_,_⟩ (by show (w:Nat)<_;omega)).trans h.x1,(k ⟨_,_,_⟩ (by show (w:Nat)<_;omega)).trans h.x2,(k ⟨_,_,_⟩ (by show (w:Nat)<_;omega)).trans h.x3,
  (k ⟨_,_,_⟩ (by show (w:Nat)+1<_;omega)).trans h.y0,h.res.below hb (by omega),h.bel.trans (hb.mono (by omega))⟩
theorem open_any (F:Nat->Prop)(ww:Nat)(D:Int)(o:Option (Bd×Nat×Nat))(t:Ty)(env:List Mn)(n:Nat)(s0:Bs)(v0:Int)(a1 a2:Option Addr)(n1 c1 n2 c2:Nat)(tv ev:Value)(w:World)(ht:Rep F w (ki t) tv)(he:Rep F w (.sl 147 9 env.length (qJ env)) ev)(hl:env.length<=1000000)(Df:t.args.length<=15)(hn:n<=1000000)(hww:ww<w)(C:∀ (a:Option Addr) (c g:Nat) (wX:World),Below w w wX->(w:Nat)+3<=(wX:Nat)->Rep (Fx F w 3) wX (.sl 147 9 (env.length+t.args.length) (qJ (env++opens n t.args))) (.slice a (env.length+t.args.length) c) ->
  Calls RG 71 #[ww,.agg #[s0,.int .i64 v0,.slice a1 n1 c1,.slice a2 n2 c2],.slice a (env.length+t.args.length) c,.slice g 0 0,.int .i64 ((n:Int)+(t.args.length:Int))] wX (vl (Fx F w 3) ww D o wX)) :
 Calls RG 114 #[ww,.agg #[s0,.int RD v0,.slice a1 n1 c1,.slice a2 n2 c2],.agg #[tv],ev,(n:Int)] w (vl F ww D o w):=by
 obtain⟨exs,Io,BA⟩:=zz.ofRep he (vc env);obtain⟨ea,ec,e⟩:=BA.slice;subst e;have al:=ht;rw[jJ]at al;obtain⟨ta,tc,e,_,_,AD⟩:=zH al;subst e;obtain⟨W,hW⟩:=zzN (((w.alloc (.cells #[s0,.int RD v0,.slice a1 n1 c1,.slice a2 n2 c2] 53)).alloc (.cells #[.slice ta t.args.length tc] 47)).alloc (.cells #[str [],.int RD 0,(),()] 53));have sF:No w W:=by rw[<- hW];exact(((sQ _ _).alloc (sZ _) _).alloc (by rw[zK];omega) _).alloc (by rw[zK,zK];omega) _
 have iV:(w:Nat)+3=(W:Nat):=by rw[<- hW];simp only[zK]
 have iw:OBox w s0 v0 a1 a2 ta n1 c1 n2 c2 t.args.length tc W:=by
  have b0:W.heap[(w:Nat)]?=OK (.cells #[s0,.int RD v0,.slice a1 n1 c1,.slice a2 n2 c2] 53 (0,0)):=by rw[<- hW];exact zJ (zJ (zW _ _))
  have b1:W.heap[(w:Nat)+1]?=OK (.cells #[.slice ta t.args.length tc] 47 (0,0)):=by
   have:=zW (w.alloc (.cells #[s0,.int RD v0,.slice a1 n1 c1,.slice a2 n2 c2] 53)) (.cells #[.slice ta t.args.length tc] 47);rw[zK]at this;rw[<- hW];exact zJ this
  have b2:W.heap[(w:Nat)+2]?=OK (.cells #[str [],.int RD 0,(),()] 53 (0,0)):=by
   have:=zW ((w.alloc (.cells #[s0,.int RD v0,.slice a1 n1 c1,.slice a2 n2 c2] 53)).alloc (.cells #[.slice ta t.args.length tc] 47)) (.cells #[str [],.int RD 0,(),()] 53);simp only[zK]at this;rw[<- hW];exact this
  obtain⟨x0,x1,x2,x3⟩:=kD b0;exact⟨x0,x1,x2,x3,by simp[RE,b1],b2,sF⟩
 have hsW:zz 9 (.slice ea env.length ec) env.length exs W:=BA.below sF;have HP:=r9 (r_ Io (r_ AD (r_ hW (r_ iw (r_ hsW (r_ C iV))))));clear Io BA AD hW iw hsW C sF iV ht al he;go_enter Tryz.func114,Tryz.ntmps114;go_upto_region 1 with (fail)
 rw[HP.out.2.2.1];have BX:=HP.out.2.2.2.1;have y0:=BX.y0;have iV:=HP.out.2.2.2.2.2.2;clear BX;go_wp2_with (at_builtin;refine zF rfl _ _ 105 rfl 147 (.agg #[.int RD 0,str [],.int RD 0,(),(),(),(),.int RD 0,.int RD 0]) 9 144 Sp Tryz.infoBo rfl (by decide) (.slice W 0 0) 0 [] rfl ?d1 _ env.length exs rfl ?d2 ?d3 ?d4 ?_)
 case d1=>exact Own.litAt #[] 0 _ rfl (by decide) rfl
 case d2=>exact HP.out.2.2.2.2.1.alloc _
 case d3=>unfold maxLen;omega
 case d4=>omega
 intro a6 c6 w6 FS sM F1;have Ae:No W w6:=((sQ _ _).alloc (sZ _) _).trans (sM.toBelow (by rw[zK];omega) fun i hi e=>by simp[RM]at e;omega);have K3:∀g,(RI a6 env.length c6).ownBlock=OK g->(W:Nat)<=g:=fun g hg=>by
  rcases F1 g hg with h|h
  ·simp[RM]at h;omega
  ·omega
 have iU:zY (fun i=>F i/\i<w) w6 (qJ (env++opens n (t.args.take 0))) exs:=by
  rw[UK,opens,R9];exact(Rep.keep fun b o hf hh=>⟨hf,by rw[(HP.out.2.2.2.1.bel.trans (Ae.mono (by omega))).block b hf.2];exact hh⟩).2 _ _ (zY.low HP.out.1)
 have H6:=r9 (r_ FS (r_ Ae (r_ K3 iU)));clear FS Ae K3 iU sM F1;have y0:=(H6.out.2.1.cell (sK W _ y0)).trans y0;go_wp2_with fail
 go_loopw [11,12] (fun o i wr=>∃k:Nat,k<=t.args.length/\i=.int RD k/\∃a c xs,o=.slice a (env.length+k:Nat) c/\Own wr 147 9 (.slice a (env.length+k) c) (env.length+k) xs/\zY (fun i=>F i/\i<w) wr (qJ (env++opens n (t.args.take k))) xs/\No W wr/\(∀g,(RI a (env.length+k) c).ownBlock=OK g->(W:Nat)<=g)) (fun _ i _=>t.args.length-(intOf i).toNat)
 case atStart=>exact⟨0,R6 _,rfl,a6,c6,exs,rfl,H6.out.1,H6.out.2.2.2,H6.out.2.1,H6.out.2.2.1⟩
 case round=>
  rename_i wr;obtain⟨k,hk,rfl,a,c,xs,rfl,ho,hr,hb,hf⟩:=hrel;have BX:=HP.out.2.2.2.1.below (hb.mono (by omega));have z0:=BX.y0;have HO:=r9 ho;have HF:=r9 hf;have HB:=r9 hb;have HR:=r9 hr;have HX:=r9 BX;clear ho hf hb hr y0 BX;by_cases sC:k<t.args.length
  ·have tB:(k:Int)<(t.args.length:Int):=by omega
   obtain⟨b,o1,u,d,e,_,tY,hd,hc,iK⟩:=HP.out.2.1 k sC;subst e;rw[vU,RP]at hd;obtain⟨t1,ht1,rfl⟩:=hd;obtain⟨ua,uc,rfl⟩:=za iK;have q0:=(HX.out.bel.cell (p:=(b,o1+k)) tY).trans hc;have HT:=r9 (r_ ht1 iK);clear ht1 iK hc;go_wp2_with (at_builtin;refine zF rfl _ _ 105 rfl 147 (.agg #[.int RD 0,str [],.int RD 0,(),(),(),(),.int RD 0,.int RD 0]) 9 144 Sp Tryz.infoBo rfl (by decide) (.slice a (env.length+k) c) (env.length+k) xs rfl ?e1 _ 1 [.int RD ((n:Int)+(k:Int)),str [],.int RD 0,(),(),.slice ua t1.args.length uc,(),.int RD 0,.int RD 0] rfl ?e2 ?e3 ?e4 ?_)
   case e1=>exact HO.out.alloc _
   case e2=>exact zz.lit1 #[.int RD ((n:Int)+(k:Int)),str [],.int RD 0,.slice U 0 0,.slice U 0 0,.slice ua t1.args.length uc,.slice U 0 0,.int RD 0,.int RD 0] rfl (by simp[str,R4]) _ (by simp)
   case e3=>unfold maxLen;omega
   case e4=>omega
   intro a' c' w7 sj sH sS;have OA:=HB.out.size;have tJ:No W w7:=by
    refine(HB.out.alloc OA _).trans (sH.toBelow (by rw[zK];omega) fun i hi e=>?_);have:=HF.out i e;omega
   have iA:∀g,(RI a' (env.length+(k+1)) c').ownBlock=OK g->(W:Nat)<=g:=by
    intro g h;rcases sS g h with h|h
    ·exact HF.out g h
    ·omega
   have EF:No w w7:=HP.out.2.2.2.1.bel.trans (tJ.mono (by omega));have lS:zY (fun i=>F i/\i<w) w7 (qJ (env++opens n (t.args.take (k+1)))) (xs++[.int RD ((n:Int)+(k:Int)),str [],.int RD 0,.slice U 0 0,.slice U 0 0,.slice ua t1.args.length uc,.slice U 0 0,.int RD 0,.int RD 0]):=by
    rw[cO HT.out.1,<- Sn,vu,qJ,qJ,R9];refine zY.append ?_ ?_
    ·exact(Rep.keep fun b o hf ho=>⟨hf,by rw[EF.block b hf.2,<- HX.out.bel.block b hf.2];exact ho⟩).2 _ _ HR.out
    ·rw[de];refine zQ.2 ⟨_,_,rfl,zC.2 (by rw[S_]),zQ.2 ⟨_,_,rfl,zC.2 rfl,zQ.2 ⟨_,_,rfl,zC.2 rfl,zQ.2 ⟨_,_,rfl,zC.2 rfl,zQ.2 ⟨_,_,rfl,zC.2 rfl,zQ.2 ⟨_,_,rfl,(Rep.keep fun b o hf ho=>⟨⟨hf,zZ ho⟩,by rw[EF.block b (zZ ho)];exact ho⟩).1 _ _ HT.out.2,zQ.2 ⟨_,_,rfl,zC.2 rfl,zQ.2 ⟨_,_,rfl,zC.2 rfl,zQ.2 ⟨_,_,rfl,y9.2 ⟨_,rfl⟩,zE.2 rfl⟩⟩⟩⟩⟩⟩⟩⟩⟩
   have HA:=r9 (r_ sj (r_ lS (r_ tJ iA)));clear sj lS tJ iA sH sS EF;go_wp2_with fail
   go_roundw
   case rel=>exact⟨k+1,by omega,by go_num,a',c',_,rfl,HA.out.1,HA.out.2.1,HA.out.2.2.1,HA.out.2.2.2⟩
   case measure=>simp[intOf];omega
  ·obtain rfl:k=t.args.length:=by omega
   have z1:=HX.out.x0;have z2:=HX.out.x1;have z3:=HX.out.x2;have z4:=HX.out.x3;have z5:(wr.alloc (.cells #[] 155)) (w+1:Nat)=OK (.slice ta t.args.length tc):=zV z0;have OA:=HB.out.size;have oh:No w (wr.alloc (.cells #[] 155)):=HX.out.bel.alloc HX.out.bel.size _;have Pl:Rep (Fx F w 3) (wr.alloc (.cells #[] 155)) (.sl 147 9 (env.length+t.args.length) (qJ (env++opens n t.args))) (.slice a (env.length+t.args.length) c):=by
    have h0:=HR.out;rw[R8]at h0;exact(HO.out.alloc _).rep (fun g hg=>.inr (by have:=HF.out g hg;omega)) ((Rep.keep fun b o hf ho=>⟨.inl hf,zJ ho⟩).2 _ _ h0)
   have C2:=r9 (HP.out.2.2.2.2.2.1 a c wr _ oh (by rw[zK];omega) Pl);have resX:z9 ((w:Nat)+2) 0 () () (wr.alloc (.cells #[] 155)):=zJ HX.out.res;have HY:=r9 (r_ oh resX);clear oh Pl resX;go_wp2_with fail
   (with_reducible refine C2.out.mono ?_);rintro en w9 ⟨s9,v9,b1,m1,d1,b2,m2,d2,rfl,aO,Es,Eh⟩
   have Bg:z9 ((w:Nat)+2) 0 () () w9:=HY.out.2.but aO (by show ¬(w+2=ww);omega);obtain⟨r0,r1,r2,r3,rlt,rf⟩:=Bg.cells;have iX:=rf 0;have iu:=rf 1;have lA:=rf 2;have Aj:=rf 3;have H9:=r9 (r_ aO (r_ Es (r_ Eh Bg)));clear aO Es Eh Bg rf;go_wp2_with fail
   obtain⟨W4,lX,tm,tp,tf,aQ,_,EA⟩:=H9.out.2.2.2.store (str s9) (.int RD v9) (.slice b1 m1 d1) (.slice b2 m2 d2);rw[<- lX];refine bodyPost_ret (v:=.agg #[s9,.int RD v9,.slice b1 m1 d1,.slice b2 m2 d2]) (by simp[results,Tryz.results114,go_sem,tm,tp,tf,aQ]) rfl ?_;have sE:But (· = ww) w w9:=(But.ofBelow HY.out.1).trans H9.out.1;have tw:(w:Nat)<=w+2:=by omega
   refine⟨s9,v9,b1,m1,d1,b2,m2,d2,rfl,?_,fun ho=>?_,fun x hx=>?_⟩
   ·rw[lX];exact(((sE.setCell (p:=(w+2:Nat)) (.inr tw) _).setCell (p:=⟨w+2,1,U⟩) (.inr tw) _).setCell (p:=⟨w+2,2,U⟩) (.inr tw) _).setCell (p:=⟨w+2,3,U⟩) (.inr tw) _
   ·obtain⟨st,h1,h2⟩:=H9.out.2.1 ho;exact⟨st,EA ww _ (by omega) h1,h2⟩
   ·obtain⟨h1,h2⟩:=H9.out.2.2.1 x hx;refine⟨EA ww _ (by omega) h1,(Rep.keep fun b ob hf hh=>?_).2 _ _ h2⟩;rcases hf with (h|h)|h
    ·exact⟨.inl h.1,EA b _ (by have:=h.2;omega) hh⟩
    rotate_left
    focus
     rw[zK]at h
    all_goals
     exact⟨.inr (by omega),EA b _ (by omega) hh⟩
structure rO (F:Nat->Prop)(ww d k l n:Nat)(H:List Ty)(b:Bd)(env:List Mn)(st:List WFr)(s0:Bs)(v0:Int)(a1 a2:Option Addr)(n1 c1 n2 c2:Nat)(ev sv:Value)(w:World):Prop where
 wri:Wri w ww (k:Nat) (20000-(l:Nat))
 hF:∀i,F i->i≠ww
 ld:l<=d
 d20:d<=20000
 k200:k<=200
 fit:jo H b env (st.map WFr.gf)
 hn:H.length=n
 el:env.length+16*d<=1000000
 nl:n+16*d<=1000000
 stl:st.length+d<=40000
 ok:xP (1000000-16*d) env
 okg:okGs (1000000-16*d) (st.map WFr.gf)
 wf:wfB b/\wh env/\∀f∈st.map WFr.gf,wfG f
 rb:zY F w (kU b) [s0,.int RD v0,.slice a1 n1 c1,.slice a2 n2 c2]
 re:Rep F w (.sl 147 9 env.length (qJ env)) ev
 rs:Rep F w (.sl 155 6 st.length (yB st)) sv
def pC (d:Nat):Prop:=∀(F:Nat->Prop) (ww k l n:Nat) (H:List Ty) (b:Bd) (env:List Mn) (st:List WFr) (s0:Bs) (v0:Int) (a1 a2:Option Addr) (n1 c1 n2 c2:Nat) (ev sv:Value) (w:World),
 rO F ww d k l n H b env st s0 v0 a1 a2 n1 c1 n2 c2 ev sv w->
 Calls RG 71 #[ww,.agg #[s0,.int RD v0,.slice a1 n1 c1,.slice a2 n2 c2],ev,sv,(n:Int)] w
  (vl F ww (20001+20*d) (evN d k l b env n (st.map WFr.gf)) w)
theorem open_live (d:Nat)(ih:pC d)(F:Nat->Prop)(ww k l n:Nat)(H:List Ty)(t:Ty)(b:Bd)(env:List Mn)(s0:Bs)(v0:Int)(a1 a2:Option Addr)(n1 c1 n2 c2:Nat)(tv ev:Value)(w:World)(hw:Wri w ww (k:Nat) (20000-(l:Nat)))(hF:∀i,F i->i≠ww)(Ev:l<=d)(hd:d<=20000)(hk:k<=200)(tA:jo (H++t.args) b (env++opens H.length t.args) [])(hn:H.length=n)(BU:env.length+16*(d+1)<=1000000)(Ce:n+16*(d+1)<=1000000)(Bc:zU t<=15)(sI:xP (1000000-16*(d+1)) env)(ht:Rep F w (ki t) tv)(hb:zY F w (kU b) [s0,.int RD v0,.slice a1 n1 c1,.slice a2 n2 c2])(he:Rep F w (.sl 147 9 env.length (qJ env)) ev)(An:wfB b/\wh env) :
 Calls RG 114 #[ww,.agg #[s0,.int RD v0,.slice a1 n1 c1,.slice a2 n2 c2],.agg #[tv],ev,(n:Int)] w (vl F ww (20001+20*d) (evN d k l b (env++opens n t.args) (n+t.args.length) []) w):=by
 have As:=zo Bc;have hww:=hw.cell.2.2.2;refine open_any F ww _ _ t env n s0 v0 a1 a2 n1 c1 n2 c2 tv ev w ht he (by omega) As.2 (by omega) hww ?_;intro a c g wX oh hzX Pl;have hlen:(env++opens n t.args).length=env.length+t.args.length:=by rw[RL,qF]
 rw[<- S_]
 refine ih (Fx F w 3) ww k l (n+t.args.length) (H++t.args) b (env++opens n t.args) [] s0 v0 a1 a2 n1 c1 n2 c2 _ _ wX
  { wri:=hw.below oh,hF:=?_,ld:=Ev,d20:=hd,k200:=hk,fit:=by rw [<- hn];exact tA,hn:=by rw [RL,hn],el:=by rw [hlen];omega,nl:=by omega,stl:=by simp;omega,
    ok:=jg _ _ (qY (by omega) _ sI) (jO _ _ As.1 (by omega)),okg:=trivial,wf:=⟨An.1,jw _ _ An.2 (jI _ _),by simp⟩,rb:=?_,re:=by rw [hlen];exact Pl,rs:=zv.2 ⟨by simp [yB],_,_,rfl,sZ _,fun h=>by simp at h,.inl rfl⟩ }
 ·intro i hi e;rcases hi with h|h
  ·exact hF i h.1 e
  ·omega
 ·exact(Rep.keep fun b o hf hh=>⟨.inl ⟨hf,zZ hh⟩,by rw[oh.block b (zZ hh)];exact hh⟩).2 _ _ hb
theorem open_dead (F:Nat->Prop)(ww n:Nat)(s:Int)(t:Ty)(env:List Mn)(s0:Bs)(v0:Int)(a1 a2:Option Addr)(n1 c1 n2 c2:Nat)(tv ev:Value)(w:World)(hw:Wri w ww (-1) s)(h0:0<=s)(h1:s<=1000000000)(BU:env.length<=1000000)(Ce:n<=1000000)(Bc:zU t<=15)(ht:Rep F w (ki t) tv)(he:Rep F w (.sl 147 9 env.length (qJ env)) ev) :
 Calls RG 114 #[ww,.agg #[s0,.int RD v0,.slice a1 n1 c1,.slice a2 n2 c2],.agg #[tv],ev,(n:Int)] w (vl F ww (s+1) U w):=by
 refine open_any F ww _ _ t env n s0 v0 a1 a2 n1 c1 n2 c2 tv ev w ht he (by omega) (zo Bc).2 (by omega) hw.cell.2.2.2 ?_;intro a c g wX oh hzX Pl;rw[<- S_];refine(mu ww s _ s0 v0 a1 a2 n1 c1 n2 c2 rfl _ _ _ wX (hw.below oh) h0 h1).mono ?_;rintro en w' ⟨rfl,hb,lG⟩;exact⟨_,_,_,_,_,_,_,_,rfl,hb,fun _=>⟨_,lG,by omega,Int.le_refl _⟩,fun x h=>by simp at h⟩
theorem evN_left (d k l:Nat)(b:Bd)(env:List Mn)(n:Nat)(st:List Gf)(r:Bd)(k' l':Nat)(h:evN d k l b env n st=OK (r,k',l')):k'<=k/\l'<=l:=by
 rw[evN_eq]at h;cases hq:Go.Proofs.YtnfenijemllkbaaGreatDoor.ev d l b env n st with
 |none=>rw[hq]at h;simp[gZ]at h
 | some x =>
   obtain⟨o,l1⟩:=x;rw[hq]at h;simp only[gZ]at h;split at h
   ·simp at h;obtain⟨_,rfl,rfl⟩:=h;exact⟨Nat.sub_le _ _,ev_left _ _ _ _ _ _ _ _ hq⟩
   ·simp at h
theorem dm (f:Nat->Nat->Bd->List Mn->Nat->List Gf->Option (Bd×Nat×Nat))(env:List Mn)(n:Nat)(t:Ty)(s:Bd):∀(ts:List Ty) (ss:List Bd) (k l:Nat),ts.length=ss.length->
 kL f env n k l (ts++[t]) (ss++[s])=(kL f env n k l ts ss).bind fun x=>(f x.2.1 x.2.2 s (env++opens n t.args) (n+t.args.length) []).bind fun y=>OK (x.1++[y.1],y.2.1,y.2.2)
 | [],[],k,l,_=>by
   simp only[Ss,kL,RJ,RF]
 |[],s'::ss,k,l,h=>by simp at h
 |t'::ts,[],k,l,h=>by simp at h
 | t'::ts,s'::ss,k,l,h=>by
   simp only[R5,kL,RJ];cases h1:f k l s' (env++opens n t'.args) (n+t'.args.length) [] with
   |none=>rfl
   | some x =>
     simp only[RF];rw[dm f env n t s ts ss x.2.1 x.2.2 (by simpa using h)];cases h2:kL f env n x.2.1 x.2.2 ts ss with
     |none=>rfl
     | some y =>
       simp only[RF];cases h3:f y.2.1 y.2.2 s (env++opens n t.args) (n+t.args.length) [] with
       |none=>rfl
       |some z=>rfl
theorem dd {f:Nat->Nat->Bd->List Mn->Nat->List Gf->Option (Bd×Nat×Nat)}{env:List Mn}{n k l j:Nat}{ts:List Ty}{ss:List Bd}{t:Ty}{s:Bd}(ht:ts[j]?=OK t)(hs:ss[j]?=OK s) :
 kL f env n k l (ts.take (j+1)) (ss.take (j+1))=(kL f env n k l (ts.take j) (ss.take j)).bind fun x=>(f x.2.1 x.2.2 s (env++opens n t.args) (n+t.args.length) []).bind fun y=>OK (x.1++[y.1],y.2.1,y.2.2):=by
 have h1:=(RR.1 ht).1;have h2:=(RR.1 hs).1;rw[Sd,Sd,ht,hs];exact dm f env n t s _ _ k l (by rw[Sy,Sy];omega)
theorem ph {f:Nat->Nat->Bd->List Mn->Nat->List Gf->Option (Bd×Nat×Nat)}{env:List Mn}{n:Nat}:∀(j:Nat) (ts:List Ty) (ss:List Bd) (k l:Nat),kL f env n k l (ts.take j) (ss.take j)=U->kL f env n k l ts ss=U
 |0,ts,ss,k,l,h=>by simp[kL]at h
 |j+1,[],ss,k,l,h=>by simp[kL]at h
 |j+1,t::ts,[],k,l,h=>by simp[kL]at h
 | j+1,t::ts,s::ss,k,l,h=>by
   simp only[List.take_succ_cons,kL,RJ]at h ⊢;cases h1:f k l s (env++opens n t.args) (n+t.args.length) [] with
   |none=>rfl
   | some x =>
     rw[h1]at h;simp only[RF]at h ⊢;cases h2:kL f env n x.2.1 x.2.2 (ts.take j) (ss.take j) with
     |none=>rw[ph j ts ss x.2.1 x.2.2 h2];rfl
     |some y=>rw[h2]at h;simp at h
def wB (d k l n o:Nat)(t:Ty)(ss:List Bd)(y no:Bd)(env:List Mn)(st:List Gf):Option (Bd×Nat×Nat):=
 (kL (evN d) env n k l t.args ss).bind fun x=>(evN d x.2.1 x.2.2 y env n st).bind fun z=>(evN d z.2.1 z.2.2 no env n st).bind fun u=>OK (.ask o x.1 z.1 u.1,u.2.1,u.2.2)
theorem evN_op {d k l v n o:Nat}{ss:List Bd}{y no:Bd}{t:Ty}{env:List Mn}{st:List Gf}(h:env[v]?=OK (.op o t)) :
 evN (d+1) (k+1) (l+1) (.ask v ss y no) env n st=wB d k l n o t ss y no env st:=by rw[evN.eq_def];simp only[h];rfl
theorem evN_bd {d k l v n:Nat}{ss:List Bd}{y no b':Bd}{t:Ty}{env e:List Mn}{st:List Gf}(h:env[v]?=OK (.bd t b' e)) :
 evN (d+1) (k+1) (l+1) (.ask v ss y no) env n st=evN d (k+1) l b' (e++jV env t.args ss) n (⟨y,no,env⟩::st):=by rw[evN.eq_def];simp only[h]
theorem evN_u {d k l n:Nat}{env:List Mn}{st:List Gf}:evN (d+1) (k+1) (l+1) (.leaf 117) env n st=OK (.leaf 117,k,l):=by rw[evN.eq_def];simp
theorem evN_end {d k l n:Nat}{c:UInt8}{env:List Mn}:evN (d+1) (k+1) (l+1) (.leaf c) env n []=OK (.leaf c,k,l):=by rw[evN.eq_def];simp
theorem evN_back {d k l n:Nat}{c:UInt8}(h:c≠117){env:List Mn}{f:Gf}{st:List Gf}:evN (d+1) (k+1) (l+1) (.leaf c) env n (f::st)=evN d (k+1) l (if c=116 then f.yes else f.no) f.env n st:=by rw[evN.eq_def];simp only[if_neg h]
theorem evN_zl {d k n:Nat}{b:Bd}{env:List Mn}{st:List Gf}:evN d k 0 b env n st=U:=by cases d <;> rw[evN.eq_def]
theorem evN_zk {d l n:Nat}{b:Bd}{env:List Mn}{st:List Gf}:evN d 0 l b env n st=U:=by
 cases d with
 |zero=>rw[evN.eq_def]
 |succ d=>cases l <;> rw[evN.eq_def]
theorem bound_at {F:Nat->Prop}{w:World}{env:List Mn}{ev:Value}(h:Rep F w (.sl 147 9 env.length (qJ env)) ev){v:Nat}{m:Mn}(hc:env[v]?=OK m) :
 ∃b o cap us,ev=.slice (OK ⟨b,o,U⟩) env.length cap/\F b/\b<(w:Nat)/\(∀(j:Nat) (u:Value),us[j]?=OK u->w.cell? (b,o+v*9+j)=u)/\zY F w (de m) us:=by
 have hv:=(RR.1 hc).1;rw[zv]at h;obtain⟨hl,a,cap,rfl,hn,hz,h⟩:=h;rcases h with h0|⟨b,o,cs,fr,rfl,hb,aP,hr⟩
 ·omega
 have Be:qJ env=qJ (env.take v)++(de m++qJ (env.drop (v+1))):=by
  have e:env=env.take v++m::env.drop (v+1):=by
   have:env[v]=m:=(RR.1 hc).2;rw[<- this,List.getElem_cons_drop,R7]
  conv=>lhs;rw[e]
  rw[vu,qJ]
 rw[Be]at hr;have h2:=hr.split.2;rw[da,Sy,UQ (by omega)]at h2;have h3:=h2.split.1;rw[ge]at h3;refine⟨b,o,cap,_,rfl,hb,zZ aP,fun j u h=>?_,h3⟩;rw[Su]at h;split at h
 ·rename_i hj;rw[SA,Su,if_pos (by omega),SA]at h;simp only[RE,aP];simpa[Vx] using h
 ·simp at h
theorem bound_op {F:Nat->Prop}{w:World}{env:List Mn}{ev:Value}(h:Rep F w (.sl 147 9 env.length (qJ env)) ev){v o:Nat}{t:Ty}(hc:env[v]?=OK (.op o t)) :
 ∃ b p cap ta tc i,ev=.slice (some ⟨b,p,none⟩) env.length cap/\F b/\b<(w:Nat)/\w.cell? (b,p+v*9)=some (.int .i64 (o:Nat))/\w (b,p+v*9+1)=some (str [])/\w (b,p+v*9+2)=some (.int .i64 0) /\
   w (b,p+v*9+3)=OK (.slice U 0 0)/\w (b,p+v*9+4)=OK (.slice U 0 0)/\w (b,p+v*9+5)=OK (.slice ta t.args.length tc)/\w (b,p+v*9+6)=OK (.slice U 0 0) /\
   w (b,p+v*9+7)=OK (.int RD 0)/\w (b,p+v*9+8)=OK (.int RD i)/\Rep F w (ki t) (.slice ta t.args.length tc):=by
 obtain⟨b,p,cap,us,rfl,hb,hw,get,hr⟩:=bound_at h hc;simp only[de,zQ,zE,zC,y9]at hr;obtain⟨_,_,rfl,rfl,_,_,rfl,rfl,_,_,rfl,rfl,_,_,rfl,rfl,_,_,rfl,rfl,x1,_,rfl,q1,_,_,rfl,rfl,_,_,rfl,rfl,x3,_,rfl,⟨i3,rfl⟩,rfl⟩:=hr;obtain⟨sa,sc,rfl⟩:=za q1;exact⟨b,p,cap,sa,sc,i3,rfl,hb,hw,get 0 _ rfl,get 1 _ rfl,get 2 _ rfl,get 3 _ rfl,get 4 _ rfl,get 5 _ rfl,get 6 _ rfl,get 7 _ rfl,get 8 _ rfl,q1⟩
theorem bound_bd {F:Nat->Prop}{w:World}{env:List Mn}{ev:Value}(h:Rep F w (.sl 147 9 env.length (qJ env)) ev){v:Nat}{t:Ty}{b':Bd}{e':List Mn}(hc:env[v]?=OK (.bd t b' e')) :
 ∃ b p cap ta tc s v1 a1 m1 c1 a2 m2 c2 ha aj i,ev=.slice (some ⟨b,p,none⟩) env.length cap/\F b/\b<(w:Nat)/\w.cell? (b,p+v*9)=some (.int .i64 (-1))/\w (b,p+v*9+1)=str s/\w (b,p+v*9+2)=some (.int .i64 v1) /\
   w (b,p+v*9+3)=OK (.slice a1 m1 c1)/\w (b,p+v*9+4)=OK (.slice a2 m2 c2)/\w (b,p+v*9+5)=OK (.slice ta t.args.length tc)/\w (b,p+v*9+6)=OK (.slice ha e'.length aj) /\
   w (b,p+v*9+7)=OK (.int RD 0)/\w (b,p+v*9+8)=OK (.int RD i)/\Rep F w (ki t) (.slice ta t.args.length tc)/\zY F w (kU b') [s,.int RD v1,.slice a1 m1 c1,.slice a2 m2 c2]/\Rep F w (.sl 147 9 e'.length (qJ e')) (.slice ha e'.length aj):=by
 obtain⟨b,p,cap,us,rfl,hb,hw,get,hr⟩:=bound_at h hc;rw[de]at hr;obtain⟨x0,us1,rfl,h0,h1⟩:=zQ.1 (show zY F w (.val (.int RD (-1))::(kU b'++[ki t,.sl 147 9 e'.length (qJ e'),.val (.int RD (0:Nat)),.any])) us from hr);rw[zC]at h0;subst h0;obtain⟨h2,h3⟩:=h1.split;rw[qy]at h2 h3;obtain⟨v1,m2,c2,m3,c3,e4,_,_⟩:=jA h2;simp only[zQ,zE,zC,y9]at h3;obtain⟨y1,_,e5,q1,y2,_,rfl,q2,_,_,rfl,rfl,y4,_,rfl,⟨i4,rfl⟩,rfl⟩:=h3;obtain⟨sa,sc,rfl⟩:=za q1;obtain⟨_,ha,aj,rfl,_⟩:=zv.1 q2;rw[e4]at h2;have eu:us1=[str (z_ b'),.int RD v1,.slice m2 (kh b').length c2,.slice m3 (qS b').length c3]++[.slice sa t.args.length sc,.slice ha e'.length aj,.int RD (0:Nat),.int RD i4]:=by
  rw[<- R7 4 us1,e4,e5]
 subst eu;exact⟨b,p,cap,sa,sc,_,_,_,_,_,_,_,_,_,_,i4,rfl,hb,hw,get 0 _ rfl,get 1 _ rfl,get 2 _ rfl,get 3 _ rfl,get 4 _ rfl,get 5 _ rfl,get 6 _ rfl,get 7 _ rfl,get 8 _ rfl,q1,h2,q2⟩
theorem wj {F:Nat->Prop}{ww:Nat}{D:Int}{o:Option (Bd×Nat×Nat)}{w W:World}{s:Bs}{v:Int}{a1 a2:Option Addr}{n1 c1 n2 c2:Nat}(hb:But (· = ww) w W)(hww:ww<w)(hr:z9 ((w:Nat)+1) 0 () () W)(hn:o=U->∃st,Wri W ww (-1) st/\0<=st/\st<=D)(hy:∀x,o=OK x->Wri W ww (x.2.1:Nat) (20000-(x.2.2:Nat))/\zY (fun i=>(F i/\i<w)\/w+2<=i) W (kU x.1) [s,.int RD v,.slice a1 n1 c1,.slice a2 n2 c2]) :
 ∃ W4,W4=((((W.setCell (w+1:Nat) (str s)).setCell ((w:Nat)+1,1) (.int .i64 v)).setCell ((w:Nat)+1,2) (.slice a1 n1 c1)).setCell ((w:Nat)+1,3) (.slice a2 n2 c2)) /\
   W4 (w+1:Nat)=str s/\W4 ((w:Nat)+1,1)=OK (.int RD v)/\W4 ((w:Nat)+1,2)=OK (.slice a1 n1 c1)/\W4 ((w:Nat)+1,3)=OK (.slice a2 n2 c2) /\
   vl F ww D o w (.returned (.agg #[s,.int RD v,.slice a1 n1 c1,.slice a2 n2 c2])) W4:=by
 obtain⟨W4,lX,tm,tp,tf,aQ,_,hk⟩:=hr.store (str s) (.int RD v) (.slice a1 n1 c1) (.slice a2 n2 c2);have tw:(w:Nat)<=w+1:=by omega
 refine⟨W4,lX,tm,tp,tf,aQ,s,v,a1,n1,c1,a2,n2,c2,rfl,?_,fun ho=>?_,fun x hx=>?_⟩
 ·rw[lX];exact(((hb.setCell (p:=(w+1:Nat)) (.inr tw) _).setCell (p:=⟨w+1,1,U⟩) (.inr tw) _).setCell (p:=⟨w+1,2,U⟩) (.inr tw) _).setCell (p:=⟨w+1,3,U⟩) (.inr tw) _
 ·obtain⟨st,h1,h2⟩:=hn ho;exact⟨st,hk ww _ (by omega) h1,h2⟩
 ·obtain⟨h1,h2⟩:=hy x hx;refine⟨hk ww _ (by omega) h1,(Rep.keep fun b ob hf hh=>?_).2 _ _ h2⟩;rcases hf with h|h
  ·exact⟨.inl h.1,hk b _ (by have:=h.2;omega) hh⟩
  ·exact⟨.inr (by omega),hk b _ (by omega) hh⟩
theorem top_rep {F:Nat->Prop}{w:World}{f:WFr}{st:List WFr}{sv:Value}(h:Rep F w (.sl 155 6 (st.length+1) (yB (f::st))) sv) :
 ∃ b o cap ie iq i6 iZ ea ec,sv=.slice (some ⟨b,o,none⟩) (st.length+1) cap/\F b/\b<(w:Nat)/\st.length+1<=cap/\w.cell? (b,o+st.length*6)=some (str [])/\w (b,o+st.length*6+1)=some (.int .i64 (f.v:Nat)) /\
   w (b,o+st.length*6+2)=OK (.slice ie f.ss.length iq)/\w (b,o+st.length*6+3)=OK (.slice i6 2 iZ)/\w (b,o+st.length*6+4)=OK (.slice ea f.env.length ec)/\w (b,o+st.length*6+5)=OK (.int RD 0) /\
   Rep F w (.sl 53 4 2 (zp [f.yes,f.no])) (.slice i6 2 iZ)/\Rep F w (.sl 147 9 f.env.length (qJ f.env)) (.slice ea f.env.length ec) /\
   Rep F w (.sl 155 6 st.length (yB st)) (.slice (b,o) st.length cap):=by
 rw[zv]at h;obtain⟨hl,a,cap,rfl,hn,hz,h⟩:=h;rcases h with h0|⟨b,o,cs,fr,rfl,hb,aP,hr⟩
 ·omega
 rw[yB]at hr;obtain⟨h1,h2⟩:=hr.split;rw[pm]at h1 h2;rw[List.take_take,UQ (by omega)]at h1;have get:∀(j:Nat) (u:Value),(Uq (st.length*6) (XF ((st.length+1)*6) (Uq o cs.toList)))[j]?=OK u->w (b,o+st.length*6+j)=u:=by
  intro j u hu;rw[SA,Su]at hu;split at hu
  ·rw[SA]at hu;simp only[RE,aP];simpa[Vx] using hu
  ·simp at hu
 generalize Uq (st.length*6) (XF ((st.length+1)*6) (Uq o cs.toList))=us at h2 get;rw[encF,yG]at h2;simp only[R5,Ss,zQ,zE,zC]at h2;obtain⟨_,_,rfl,rfl,_,_,rfl,rfl,x2,_,rfl,q2,x3,_,rfl,q3,x4,_,rfl,q4,_,_,rfl,rfl,rfl⟩:=h2;obtain⟨_,ie,iq,e1,_⟩:=zv.1 q2;obtain⟨_,i6,iZ,e2,_⟩:=zv.1 q3;obtain⟨_,ea,ec,e3,_⟩:=zv.1 q4;subst e1;subst e2;subst e3;exact⟨b,o,cap,ie,iq,i6,iZ,ea,ec,rfl,hb,zZ aP,hn,get 0 _ rfl,get 1 _ rfl,get 2 _ rfl,get 3 _ rfl,get 4 _ rfl,get 5 _ rfl,q3,q4,zv.2 ⟨pm st,_,cap,rfl,by omega,fun h=>by simp at h,.inr ⟨b,o,cs,fr,rfl,hb,aP,h1⟩⟩⟩
end Go.Proofs.YtnfenijemllkbaaGreatDoor

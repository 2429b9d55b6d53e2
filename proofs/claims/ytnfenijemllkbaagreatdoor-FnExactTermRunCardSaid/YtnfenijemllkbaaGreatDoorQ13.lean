/- Walks. -/
import Derived.Test.YtnfenijemllkbaaGreatDoorQ11
import Derived.Test.YtnfenijemllkbaaGreatDoorQ12
set_option linter.unusedVariables false
set_option linter.unusedSimpArgs false
set_option maxHeartbeats 8000000
set_option maxRecDepth 100000
open Option renaming none->U
open Option renaming some->OK
open Go.IntKind renaming i64->RD
open Go.NoPanic renaming normal->RQ
open Go.Proofs.Tryz renaming func21->Xo,func41->U_,func42->VM,ntmps21->WR,ntmps41->UY,ntmps42->VD,prog->RG,results41->UE,results42->Vk,underlying51->SN
open Go.Value renaming oneCell'->R4,ownBlock->RM,slice->RI
open Go.Value.slice renaming injEq->RT
open Go.World renaming cell?->RE,frozen?->RO
open Int renaming natCast_add->S_
open List renaming append_nil->R9,getElem?_cons_zero->RV,mem_of_getElem?->RX,take_length->R8
open List.cons renaming injEq->RY
open Nat renaming zero_le->R6
open Option renaming isSome_none->Sx,isSome_some->Sj
open Option.some renaming injEq->RK
namespace Go.Proofs.YtnfenijemllkbaaGreatDoor
open Go.RowKit
def wrOf (t:Ty)(o:Option Bd):Option Bs:=o.bind fun out=>(kP (zS t) (kZ out)).map fun _=>kZ out
def TxtPost (o:Option Bs)(w:World)(en:Ending)(w':World):Prop:=en=.returned (.tuple #[str (o.getD []),.bool o.isSome])/\No w w'
theorem l4Written_any (F:Nat->Prop)(t:Ty)(o:Option Bd)(tv:Value)(s:Bs)(v:Int)(a1:Option Addr)(n1 c1:Nat)(a2:Option Addr)(n2 c2:Nat)(w:World)(sT:zU t<=15)(ht:Rep F w (ki t) tv)(hn:∀x,o=OK x->zY F w (kU x) [s,.int RD v,.slice a1 n1 c1,.slice a2 n2 c2]/\zG x<=1000/\lvB x) :
 Calls RG 21 #[.agg #[tv],.agg #[s,.int RD v,.slice a1 n1 c1,.slice a2 n2 c2],.bool o.isSome] w (TxtPost (wrOf t o) w):=by
 obtain⟨ta,tc,rfl⟩:=za ht;obtain⟨W,hW⟩:=zzN ((w.alloc (.cells #[.slice ta t.args.length tc] 47)).alloc (.cells #[s,.int RD v,.slice a1 n1 c1,.slice a2 n2 c2] 53));have sF:No w W:=by rw[<- hW];exact((sQ _ _).alloc (sZ _) _).alloc (by rw[zK];omega) _
 have bT:W.heap[(w:Nat)]?=OK (.cells #[.slice ta t.args.length tc] 47 (0,0)):=by rw[<- hW];exact zJ (zW _ _)
 have bN:W.heap[(w:Nat)+1]?=OK (.cells #[s,.int RD v,.slice a1 n1 c1,.slice a2 n2 c2] 53 (0,0)):=by
  have:=zW (w.alloc (.cells #[.slice ta t.args.length tc] 47)) (.cells #[s,.int RD v,.slice a1 n1 c1,.slice a2 n2 c2] 53);rw[zK,hW]at this;exact this
 obtain⟨y0,y1,y2,y3⟩:=kD bN;have HW:=r9 (r_ hW (r_ sF (r_ bT (r_ bN (r_ ht hn)))));clear hW sF bT bN ht hn;cases o with
 | none =>
   simp only[Sx];go_enter Xo,WR;go_wp2_with fail
   go_ret2
   have h:=HW.out.2.1;rw[<- HW.out.1]at h;exact⟨rfl,h⟩
 | some x =>
   simp only[Sj];obtain⟨KD,tV,iT⟩:=HW.out.2.2.2.2.2 x rfl;have NC:=zY.below (F':=F) HW.out.2.1 (fun _ h=>h) KD;have C0:=r9 (l3Text_any (zG x) x (sZ _) (by omega) iT F W _ _ _ _ NC);have hlen:(kZ x).length<=12000:=by have:=vK x iT;omega
   have lG:wrOf t (OK x)=(kP (zS t) (kZ x)).map fun _=>kZ x:=rfl;obtain⟨Y,hY⟩:=zzM (kZ x);rw[<- hY]at C0 hlen lG;obtain⟨X,hX⟩:=zzM (zS t);have QO:Lim X.length:=by rw[hX];have:=jY 15 t sT;show _<=_;omega
   have hYl:Lim Y.length:=by show _<=_;omega
   rw[<- hX]at lG;have Lh:=r9 lG;have HX:=r9 (r_ hX hY);clear KD tV iT NC hlen lG hX hY;go_enter Xo,WR;go_upto_region 1 with (fail)
   rw[HW.out.1];go_wp2_with fail
   (with_reducible refine C0.out.mono ?_);rintro en w2 ⟨rfl,sY⟩
   have B7:No w w2:=zzT HW.out.2.1 sY;have GC:w2.heap[(w:Nat)]?=OK (.cells #[.slice ta t.args.length tc] 47 (0,0)):=(sY.block _ (zZ HW.out.2.2.1)).trans HW.out.2.2.1;have SX:Hid (∀w',No w2 w'->w' w=OK (.slice ta t.args.length tc)/\True):=by
    show ∀w',_->_;intro w' sA;have h:=(sA.block _ (zZ GC)).trans GC;exact⟨by simp[RE,h],trivial⟩
   have C1:Hid (∀wz,No w2 wz->Calls RG 19 #[.agg #[.slice ta t.args.length tc]] wz fun en w'=>en=.returned (str X)/\No wz w'):=by
    show ∀wz,_->_;intro wz hz;rw[HX.out.1];exact uK 15 t sT (by omega) F wz _ (Rep.below (zzT B7 hz) (fun _ h=>h) HW.out.2.2.2.2.1)
   have C2:=r9 (fun wz=>xo X Y QO hYl wz);have H2:=r9 B7;clear sY B7 GC y0 y1 y2 y3 QO hYl;have t2:=(SX.out w2 (sQ _ _)).1;go_wp2_with fail
   (with_reducible refine(C1.out w2 (sQ _ _)).mono ?_);rintro en w3 ⟨rfl,sE⟩
   have af:=r9 sE;clear sE;go_wp2_with fail
   (with_reducible refine(C2.out w3).mono ?_);rintro en w4 ⟨sa,sc,s',v',DU,BP,DT,Gm,De,Gk,rfl,sO,-,-⟩
   have HB:=r9 (H2.out.trans ((zzT af.out sO).mono H2.out.size));clear sO C0 C1 C2 SX t2;have FIN:∀(o o':Obj),No w ((w4.alloc o).alloc o'):=fun o o'=>(HB.out.alloc HB.out.size _).alloc (by rw[zK];exact Nat.le_succ_of_le HB.out.size) _;have Ru:=r9 FIN;clear FIN;cases hq:kP X Y with
   | none =>
     have h:=Lh.out;rw[hq]at h;simp only[Sx];have HR:=r9 h;clear h hq;go_wp2_with fail
     go_ret2
     rw[HR.out];exact⟨rfl,Ru.out _ _⟩
   | some b =>
     have h:=Lh.out;rw[hq]at h;simp only[Sj];have HR:=r9 h;clear h hq;go_wp2_with fail
     go_ret2
     rw[HR.out];exact⟨rfl,Ru.out _ _⟩
def etaObj (v:Nat)(sv:Value):Obj:=.cells #[str [],(v:Int),sv,()] 53 (0,0)
def EtaPost (b:Bd)(w:World)(en:Ending)(w':World):Prop:=
 ∃(s:Bs) (v:Int) (a2:Option Addr) (n2 c2:Nat) (a3:Option Addr) (n3 c3:Nat),en=.returned (.agg #[s,.int RD v,.slice a2 n2 c2,.slice a3 n3 c3])/\No w w'/\zY (fun i=>w<=i) w' (kU b) [s,.int RD v,.slice a2 n2 c2,.slice a3 n3 c3]
theorem l4Eta_any (m:Nat):∀(t:Ty),zU t<=m->zU t<=15->∀(F:Nat->Prop) (tv:Value) (v n:Nat) (w:World),Rep F w (ki t) tv->v<=1000000->n+16*zU t<=1000000->
 Calls RG 35 #[.agg #[tv],(v:Int),(n:Int)] w (EtaPost (eta t v n) w):=by
 induction m with
 |zero=>intro t h;cases t;rw[zU]at h;omega
 |succ m ih=>
 intro t hm sT F tv v n w hk hv hn;have IH:=r9 ih;have EB:=hk;rw[jJ]at EB;obtain⟨ta,tc,e,_,_,AD⟩:=zH EB;subst e;have MB:=(zo sT).2;have sG:=r9 (zo sT).1;have HA:=r9 AD;obtain⟨W,hW⟩:=zzN (((w.alloc (.cells #[.slice ta t.args.length tc] 47)).alloc (.cells #[str [],.int RD 0,(),()] 53)).alloc (.cells #[str [],(v:Int),(),()] 53));have iV:(W:Nat)=w+3:=by rw[<- hW];simp only[zK]
 have sF:No w W:=by rw[<- hW];exact(((sQ _ _).alloc (sZ _) _).alloc (by simp only[zK];omega) _).alloc (by simp only[zK];omega) _
 have bT:W.heap[(w:Nat)]?=OK (.cells #[.slice ta t.args.length tc] 47 (0,0)):=by rw[<- hW];exact zJ (zJ (zW _ _))
 have bR:z9 ((w:Nat)+1) 0 () () W:=by
  unfold z9;rw[<- hW];refine zJ ?_;have:=zW (w.alloc (.cells #[.slice ta t.args.length tc] 47)) (.cells #[str [],.int RD 0,(),()] 53);rwa [zK]at this
 have bO:W.heap[(w:Nat)+2]?=OK (etaObj v ()):=by
  rw[<- hW];have:=zW ((w.alloc (.cells #[.slice ta t.args.length tc] 47)).alloc (.cells #[str [],.int RD 0,(),()] 53)) (.cells #[str [],(v:Int),(),()] 53);simp only[zK]at this;exact this
 have HW:=r9 (r_ hW (r_ iV (r_ sF (r_ bT (r_ bR bO)))));clear hW iV sF bT bR bO AD hk EB ih;go_enter Tryz.func35,Tryz.ntmps35;go_upto_region 2 with (fail)
 rw[HW.out.1];go_wp2_with fail
 go_loopw [8] (fun i wr=>∃(k:Nat) (sv:Value) (us:List Value),k<=t.args.length/\i=.int RD k/\gY W ((w:Nat)+2) (etaObj v) 53 4 k (zp (uw (t.args.take k) n (n+t.args.length))) sv us wr) (fun i _=>t.args.length-(intOf i).toNat)
 case atStart=>exact⟨0,_,_,R6 _,rfl,by simpa[uw,zp] using gY.start HW.out.2.2.2.2.2⟩
 case round=>
  rename_i wr;obtain⟨k,sv,us,hk,rfl,sN⟩:=hrel;obtain⟨sa,sc,e⟩:=sN.slice;subst e;have sW:z9 ((w:Nat)+2) v (.slice sa k sc) () wr:=sN.blk;have iV:=HW.out.2.1;have tY:No w wr:=HW.out.2.2.1.trans (sN.below.mono (by omega));obtain⟨y0,y1,y2,y3,ylt,yf⟩:=sW.cells;have Cf:wr w=OK (.slice ta t.args.length tc):=by
   have:=(sN.below.block w (by omega)).trans HW.out.2.2.2.1;simp[RE,this]
  have HI:=r9 (r_ sN (r_ sW tY));clear sN sW tY;by_cases sC:k<t.args.length
  ·have tB:(k:Int)<(t.args.length:Int):=by omega
   obtain⟨D0,FD,u2,d2,e,Lb,Kr,K4,oI,tq⟩:=HA.out k sC;subst e;rw[vU,Option.map_eq_some_iff]at K4;obtain⟨a,ha,rfl⟩:=K4;obtain⟨ua,uc,rfl⟩:=za tq;have D9:zU a<=15:=sG.out a (RX ha);have As:1+zU a<=zU t:=arg_atoms ha;have q2:wr (D0,FD+k)=OK (.slice ua a.args.length uc):=(HI.out.2.2.cell Kr).trans oI;have CC:=IH.out a (by omega) D9 F (.slice ua a.args.length uc) (n+k) (n+t.args.length) wr.drew ((Rep.below HI.out.2.2 (fun _ h=>h) tq).drew) (by omega) (by omega);rw[S_,S_]at CC;have CC:=r9 CC;have lM:=etas_take ha n (n+t.args.length);have HK:=r9 (r_ ha lM);clear ha tq lM oI;have Lh:=r9 (r_ (show IntKind.i64.wrap ((n:Int)+(k:Int))=(n:Int)+(k:Int) from IntWalk.i64_in _ (by omega)) (show IntKind.i64.wrap ((n:Int)+(t.args.length:Int))=(n:Int)+(t.args.length:Int) from IntWalk.i64_in _ (by omega)));have SX:Hid (∀w',But (fun i=>(RI sa k sc).ownBlock=OK i) wr w'->w' ((w:Nat)+2,2)=OK (.slice sa k sc)/\w' w=OK (.slice (D0,FD) t.args.length tc)/\w' (D0,FD+k)=OK (.slice ua a.args.length uc)):=by
    show ∀w',_->_;intro w' sA;have key:∀ {p:Addr} {u:Value},p.block<w+2->wr.cell? p=u->w'.cell? p=u:=fun hp hu=>(sA.cell (sK wr _ hu) (fun e=>by have h1:=HI.out.1.fr _ e;omega)).trans hu;exact⟨(sA.cell (sK wr _ y2) HI.out.1.not).trans y2,key (by show (w:Nat)<_;omega) Cf,key (by show D0<_;omega) q2⟩
   have oP:k+1<=maxLen:=by unfold maxLen;omega
   have aI:(k+1)*72<=140737488355328:=by omega
   clear y0 y1 y3 yf;go_wp2_with fail
   refine rS (fun w'=>But (fun i=>(RI sa k sc).ownBlock=OK i) wr w') (fun i=>i == 19) ((But.refl _ wr).drew) fun sP=>?_;refine tk [0,1,2,3,4,5,6,7,8,9,10,11,12,13] sP ?_;(intro d hd;simp[tkD]at hd;subst hd;simp only[tks,pQ,pZ,pS]);iterate 14 (refine⟨?_,?_,?_⟩;rotate_left;· (intro oi ho;simp at ho;subst ho;refine Or.inl ⟨by rfl,fun w' sL=>?_⟩;obtain⟨e0,e1,e2⟩:=SX.out w' sL;have lF:=Lh.out.1;go_simp;try with_reducible rfl))
   refine tC [14] sP ?_;refine tl (fun w' sL=>Lh.out.2) ?_;refine tz ?_;(refine on 15 ?_;intro o ho K' hK;simp at ho;subst ho;go_simp);go_at_call 35;(with_reducible refine CC.out.mono ?_);rintro Fu w6 ⟨s6,v6,b1,m1,d1,b2,m2,d2,rfl,sM,iU⟩;have aL:No wr w6:=(Below.drew (sQ _ _)).trans sM;have aK:Hid (But (fun i=>(RI sa k sc).ownBlock=OK i) wr w6):=But.ofBelow aL;have tM:=HI.out.1.own6 aL (.cells #[s6,.int RD v6,.slice b1 m1 d1,.slice b2 m2 d2] 53);have H6:=r9 (r_ aL iU);clear sM iU aL;(refine hK.out _ _ (fun _=>aK.out) ?_;clear hK K';try simp only[pQ,pN,pZ,pS]);refine oC 16 (aK.out.alloc _) ?_;(refine on 17 ?_;intro o ho K' hK;simp at ho;subst ho);refine zL (by rfl) _ _ _ (by rfl) 53 (.agg #[str [],.int RD 0,(),()]) 4 72 SN Tryz.infoN rfl (by decide) (.slice sa k sc) k us (by rfl) tM _ 1 [s6,.int RD v6,.slice b1 m1 d1,.slice b2 m2 d2] (by rfl) (zz.lit4 #[str s6,.int RD v6,.slice b1 m1 d1,.slice b2 m2 d2] rfl (by simp[str,R4]) _ rfl) oP aI ?_;intro a' c' w7 sj sH sS;(refine hK.out _ _ (fun _=>(aK.out.alloc _).trans sH) ?_;clear hK K';try simp only[pQ,pN,pZ,pS]);have aB:=HI.out.1.cell7 H6.out.1 sH;have i9:w7 ((w:Nat)+2,2)=OK (.slice sa k sc)/\w7.frozen? ((w:Nat)+2,2)=false:=by rw[etaObj]at aB;exact⟨by simp[RE,aB],by simp[RO,aB]⟩
   obtain⟨CU,ll⟩:=i9;have Dd:=r9 aB;clear aB;refine oC 18 ((aK.out.alloc _).trans sH) ?_;refine oB 19 (fun h=>by simp at h) ?_;refine zX (by kernel_rfl) (RQ ?_) _;have hX:=HI.out.1.next (w8:=w7.setCell ((w:Nat)+2,2) (.slice a' (k+1) c')) H6.out.1 H6.out.2 sj sH sS (by rw[zT Dd.out];rfl) (uH _ _ _ _);have ia:zp (uw (t.args.take k) n (n+t.args.length))++kU (eta a (n+k) (n+t.args.length))=zp (uw (t.args.take (k+1)) n (n+t.args.length)):=by rw[HK.out.2,qG];simp[zp]
   rw[ia]at hX;have HN:=r9 hX;clear hX ia sj sH sS sP tM CU ll;go_wp2_with fail
   go_roundw
   case rel=>exact⟨k+1,_,_,by omega,by go_num,HN.out⟩
   case measure=>simp[intOf];omega
  ·obtain rfl:k=t.args.length:=by omega
   have yf3:=yf 3;clear y0 y1 y2 yf;go_upto_region 7 with (fail)
   obtain⟨Y,hY⟩:=zzN ((wr.setCell ((w:Nat)+1+1,3) (.slice wr 2 2)).alloc (.cells #[str [116],.int RD 0,(),(),str [102],.int RD 0,(),()] 53));have Dt:(wr.setCell ((w:Nat)+1+1,3) (.slice wr 2 2)).heap.size=wr:=by simp[World.setCell]
   have bN:z9 ((w:Nat)+2) v (.slice sa t.args.length sc) (.slice wr 2 2) Y:=by rw[<- hY];exact zJ HI.out.2.1.put3
   have kY:∀(i:Nat) (x:Obj),i≠w+2->wr.heap[i]?=OK x->Y.heap[i]?=OK x:=fun i x hi hx=>by
    rw[<- hY];refine zJ ?_;rw[sJ _ _ _ _ (by show i≠w+1+1;omega)];exact hx
   have bR:z9 ((w:Nat)+1) 0 () () Y:=kY _ _ (by omega) ((HI.out.1.below.block _ (by omega)).trans HW.out.2.2.2.2.1);have bY:Y.heap[(wr:Nat)]?=OK (.cells #[str [116],.int RD 0,(),(),str [102],.int RD 0,(),()] 53 (0,0)):=by
    rw[<- hY];have:=zW (wr.setCell ((w:Nat)+1+1,3) (.slice wr 2 2)) (.cells #[str [116],.int RD 0,(),(),str [102],.int RD 0,(),()] 53);rwa [Dt]at this
   have Gc:No w Y:=by
    rw[<- hY];exact(HI.out.2.2.setCell (p:=⟨w+1+1,3,U⟩) (by show (w:Nat)<=w+1+1;omega) _).alloc (by rw[Dt];exact HI.out.2.2.size) _
   obtain⟨n0,n1,n2,n3,nlt,_⟩:=bN.cells;obtain⟨r0,r1,r2,r3,rlt,rf⟩:=bR.cells;have iX:=rf 0;have iu:=rf 1;have lA:=rf 2;have Aj:=rf 3;have tt:=HI.out.1.sl;have hwrz:=zZ HI.out.2.1;rw[R8]at tt;have HY:=r9 (r_ hY (r_ bR (r_ bY (r_ Gc (r_ kY tt)))));clear hY Dt bN kY bR bY Gc tt rf yf3 ylt;rw[HY.out.1];go_wp2_with fail
   obtain⟨Z,hZ,s0,s1,s2,s3,Gb,Fb⟩:=HY.out.2.1.store (str []) (.int RD (v:Nat)) (.slice sa t.args.length sc) (.slice wr 2 2);rw[<- hZ];refine bodyPost_ret (v:=.agg #[str [],(v:Int),.slice sa t.args.length sc,.slice wr 2 2]) (by simp[results,Tryz.results35,go_sem,s0,s1,s2,s3]) rfl ?_;refine⟨[],v,_,_,_,_,_,_,rfl,Gb _ _ HY.out.2.2.2.1 (by omega),?_⟩;rw[eta_eq,yG,wD];refine zQ.2 ⟨_,_,rfl,zC.2 rfl,zQ.2 ⟨_,_,rfl,zC.2 rfl,zQ.2 ⟨_,_,rfl,?_,zQ.2 ⟨_,_,rfl,?_,zE.2 rfl⟩⟩⟩⟩
   ·exact(Rep.keep fun i x (hi:w+2<i) hx=>⟨by show w<=i;omega,Fb i x (by omega) (HY.out.2.2.2.2.1 i x (by omega) hx)⟩).1 _ _ HY.out.2.2.2.2.2
   ·refine zv.2 ⟨rfl,_,_,rfl,sZ _,fun h=>by simp at h,.inr ⟨wr,0,_,_,rfl,?_,Fb _ _ (by omega) HY.out.2.2.1,?_⟩⟩
    ·show (w:Nat)<=wr;omega
    ·have iS:Rep (fun i=>w<=i) Z (.sl 53 4 0 []) ():=zv.2 ⟨rfl,U,0,rfl,sZ _,fun _=>rfl,.inl rfl⟩;simp only[zp,kU,R9,List.cons_append,List.nil_append];exact zQ.2 ⟨_,_,rfl,zC.2 rfl,zQ.2 ⟨_,_,rfl,zC.2 rfl,zQ.2 ⟨_,_,rfl,iS,zQ.2 ⟨_,_,rfl,iS,zQ.2 ⟨_,_,rfl,zC.2 rfl,zQ.2 ⟨_,_,rfl,zC.2 rfl,zQ.2 ⟨_,_,rfl,iS,zQ.2 ⟨_,_,rfl,iS,zE.2 rfl⟩⟩⟩⟩⟩⟩⟩⟩
def NdPost (F:Nat->Prop)(w:World)(b:Bd)(en:Ending)(w':World):Prop:=
 ∃(s:Bs) (v:Int) (a1:Option Addr) (n1 c1:Nat) (a2:Option Addr) (n2 c2:Nat),en=.returned (.agg #[s,.int RD v,.slice a1 n1 c1,.slice a2 n2 c2])/\No w w'/\zY (fun i=>F i\/w<=i) w' (kU b) [s,.int RD v,.slice a1 n1 c1,.slice a2 n2 c2]
theorem bj {F:Nat->Prop}{w:World}{b:Bd}{s v k y:Value}(h:zY F w (kU b) [s,v,k,y]):∃(i:Int) (a1:Option Addr) (c1:Nat) (a2:Option Addr) (c2:Nat),s=str (z_ b)/\v=.int RD i/\k=.slice a1 (kh b).length c1/\y=.slice a2 (qS b).length c2:=by
 obtain⟨i,a1,c1,a2,c2,e,_,_⟩:=jA h;simp only[RY,and_true]at e;exact⟨i,a1,c1,a2,c2,e.1,e.2.1,e.2.2.1,e.2.2.2⟩
theorem boxes4 (w:World)(A B C D:Obj):No w ((((w.alloc A).alloc B).alloc C).alloc D)/\((((w.alloc A).alloc B).alloc C).alloc D).heap.size=w+1+1+1+1/\((((w.alloc A).alloc B).alloc C).alloc D).heap[(w:Nat)]?=OK A/\((((w.alloc A).alloc B).alloc C).alloc D).heap[(w:Nat)+1]?=OK B/\((((w.alloc A).alloc B).alloc C).alloc D).heap[(w:Nat)+1+1]?=OK C/\((((w.alloc A).alloc B).alloc C).alloc D).heap[(w:Nat)+1+1+1]?=OK D:=by
 obtain⟨h1,h2,h3,h4,h5⟩:=xN w A B C;refine⟨h1.alloc h1.size _,by rw[zK,h2],zJ h3,zJ h4,zJ h5,?_⟩;have h:=zW (((w.alloc A).alloc B).alloc C) D;rwa [h2]at h
theorem node_enc {F:Nat->Prop}{w:World}{v:Nat}{ss:List Bd}{y n:Bd}{k ys:Value}(hk:Rep F w (.sl 53 4 ss.length (zp ss)) k)(hy:Rep F w (.sl 53 4 2 (kU y++(kU n++[]))) ys):zY F w (kU (.ask v ss y n)) [str [],(v:Int),k,ys]:=by
 rw[kU];exact zQ.2 ⟨_,_,rfl,zC.2 rfl,zQ.2 ⟨_,_,rfl,zC.2 rfl,zQ.2 ⟨_,_,rfl,hk,zQ.2 ⟨_,_,rfl,hy,zE.2 rfl⟩⟩⟩⟩
def GrSaid (M:Nat):Prop:=∀(F:Nat->Prop) (b y n:Bd) (b0 b1 b2 b3 y0 y1 y2 y3 n0 n1 n2 n3:Value) (w:World),zG b<=M->(∀i,F i->i<(w:Nat))->wfB b->zY F w (kU b) [b0,b1,b2,b3]->zY F w (kU y) [y0,y1,y2,y3]->zY F w (kU n) [n0,n1,n2,n3]->
 Calls RG 41 #[.agg #[b0,b1,b2,b3],.agg #[y0,y1,y2,y3],.agg #[n0,n1,n2,n3]] w (NdPost F w (qP b y n))
theorem gr_step (M:Nat)(ih:GrSaid M):GrSaid (M+1):=by
 intro F b y n b0 b1 b2 b3 y0 y1 y2 y3 n0 n1 n2 n3 w tV hF An hb hy hn;obtain⟨yi,Kk,Ki,Kj,Kh,rfl,rfl,rfl,rfl⟩:=bj hy;obtain⟨ni,aR,aN,tI,tL,rfl,rfl,rfl,rfl⟩:=bj hn;have el:=encN_lv hb;subst el;obtain⟨_,ie,iq,i6,iZ,rfl,eb,rfl,rfl⟩:=bj hb;clear eb;have HY:=r9 hy;have HN:=r9 hn;cases b with
 | leaf c =>
   rw[wfB]at An;have HB:Hid (zY F w (kU (.leaf c)) [str [c],.int RD (0:Nat),.slice ie 0 iq,.slice i6 0 iZ]):=hb;clear hy hn hb ih;obtain⟨YK,NV⟩:=zzM ((kh y).length);obtain⟨YY,NU⟩:=zzM ((qS y).length);obtain⟨NK,N0⟩:=zzM ((kh n).length);obtain⟨NY,NZ⟩:=zzM ((qS n).length);obtain⟨AY,N5⟩:=zzM (z_ y);obtain⟨AN,N6⟩:=zzM (z_ n);rw[<- NV,<- NU,<- N5]at HY ⊢;rw[<- N0,<- NZ,<- N6]at HN ⊢;clear NV NU N0 NZ N5 N6;rcases An with rfl|rfl|rfl
   ·show Calls RG 41 #[.agg #[str [116],.int RD (0:Nat),.slice ie 0 iq,.slice i6 0 iZ],.agg #[AY,.int RD yi,.slice Kk YK Ki,.slice Kj YY Kh],.agg #[AN,.int RD ni,.slice aR NK aN,.slice tI NY tL]] w _;go_enter U_,UY;go_wp2_with fail
    refine bodyPost_ret (v:=.agg #[AY,.int RD yi,.slice Kk YK Ki,.slice Kj YY Kh]) (by simp[results,UE,go_sem]) rfl ?_;have hb:∀(A B C D:Obj),No w ((((w.alloc A).alloc B).alloc C).alloc D):=fun A B C D=>(boxes4 w A B C D).1;refine⟨_,_,_,_,_,_,_,_,rfl,hb _ _ _ _,?_⟩;rw[qP];simp only[reduceIte,show (102:UInt8)≠116 from by decide,show (117:UInt8)≠116 from by decide,show (117:UInt8)≠102 from by decide];exact zY.below (hb _ _ _ _) (fun _ h=>.inl h) HY.out
   ·show Calls RG 41 #[.agg #[str [102],.int RD (0:Nat),.slice ie 0 iq,.slice i6 0 iZ],.agg #[AY,.int RD yi,.slice Kk YK Ki,.slice Kj YY Kh],.agg #[AN,.int RD ni,.slice aR NK aN,.slice tI NY tL]] w _;go_enter U_,UY;go_wp2_with fail
    refine bodyPost_ret (v:=.agg #[AN,.int RD ni,.slice aR NK aN,.slice tI NY tL]) (by simp[results,UE,go_sem]) rfl ?_;have hb:∀(A B C D:Obj),No w ((((w.alloc A).alloc B).alloc C).alloc D):=fun A B C D=>(boxes4 w A B C D).1;refine⟨_,_,_,_,_,_,_,_,rfl,hb _ _ _ _,?_⟩;rw[qP];simp only[reduceIte,show (102:UInt8)≠116 from by decide,show (117:UInt8)≠116 from by decide,show (117:UInt8)≠102 from by decide];exact zY.below (hb _ _ _ _) (fun _ h=>.inl h) HN.out
   ·show Calls RG 41 #[.agg #[str [117],.int RD (0:Nat),.slice ie 0 iq,.slice i6 0 iZ],.agg #[AY,.int RD yi,.slice Kk YK Ki,.slice Kj YY Kh],.agg #[AN,.int RD ni,.slice aR NK aN,.slice tI NY tL]] w _;go_enter U_,UY;go_wp2_with fail
    refine bodyPost_ret (v:=.agg #[str [117],.int RD (0:Nat),.slice ie 0 iq,.slice i6 0 iZ]) (by simp[results,UE,go_sem]) rfl ?_;have hb:∀(A B C D:Obj),No w ((((w.alloc A).alloc B).alloc C).alloc D):=fun A B C D=>(boxes4 w A B C D).1;refine⟨_,_,_,_,_,_,_,_,rfl,hb _ _ _ _,?_⟩;rw[qP];simp only[reduceIte,show (102:UInt8)≠116 from by decide,show (117:UInt8)≠116 from by decide,show (117:UInt8)≠102 from by decide];exact zY.below (hb _ _ _ _) (fun _ h=>.inl h) HB.out
 | ask v ss ya na =>
   obtain⟨_,_,_,_,_,e,hk,GZ⟩:=jA hb;simp only[RY,and_true]at e;obtain⟨_,_,e1,e2⟩:=e;rw[<- e1]at hk;rw[<- e2]at GZ;clear e1 e2;obtain⟨_,_,ek,aty⟩:=bZ.of GZ;simp only[RT,true_and]at ek;rw[<- ek.1]at aty;clear ek;change bZ F w [ya,na] i6 at aty;obtain⟨pb,po,s0,v0,p2,m2,d2,p3,m3,d3,yt,ey,hpb,OC,u0,u1,u2,u3,KC⟩:=aty 0 (by simp);obtain⟨pb',po',s1,v1,p4,m4,d4,p5,m5,d5,nt,Ng,_,BT,z0,z1,z2,z3,FL⟩:=aty 1 (by simp);rw[ey]at Ng;simp only[RK,Addr.mk.injEq,and_true]at Ng;obtain⟨rfl,rfl⟩:=Ng;simp only[RV,RK]at OC;simp only[List.getElem?_cons_succ,RV,RK]at BT;subst OC;subst BT;subst ey;simp only[Nat.zero_mul,Nat.add_zero]at u0 u1 u2 u3;simp only[Nat.one_mul,Nat.add_assoc,Nat.reduceAdd]at z0 z1 z2 z3;rw[zG]at tV;rw[wfB]at An;have CY:=r9 (fun wz (h:No w wz)=>ih F ya y n _ _ _ _ _ _ _ _ _ _ _ _ wz (by omega) (fun i hi=>sV (hF i hi) h.size) An.2.1 (zY.below h (fun _ h=>h) KC) (zY.below h (fun _ h=>h) hy) (zY.below h (fun _ h=>h) hn));have CN:=r9 (fun wz (h:No w wz)=>ih F na y n _ _ _ _ _ _ _ _ _ _ _ _ wz (by omega) (fun i hi=>sV (hF i hi) h.size) An.2.2 (zY.below h (fun _ h=>h) FL) (zY.below h (fun _ h=>h) hy) (zY.below h (fun _ h=>h) hn));have HK:Hid (Rep F w (.sl 53 4 ss.length (zp ss)) (.slice ie ss.length iq)):=hk;obtain⟨YK,NV⟩:=zzM ((kh y).length);obtain⟨YY,NU⟩:=zzM ((qS y).length);obtain⟨NK,N0⟩:=zzM ((kh n).length);obtain⟨NY,NZ⟩:=zzM ((qS n).length);obtain⟨AY,N5⟩:=zzM (z_ y);obtain⟨AN,N6⟩:=zzM (z_ n);rw[<- NV,<- NU,<- N5,<- N0,<- NZ,<- N6]at CY CN ⊢;obtain⟨W0,tW⟩:=zzM ((((w.alloc (.cells #[str [],(v:Int),.slice ie ss.length iq,.slice (pb,po) 2 iZ] 53)).alloc (.cells #[AY,.int RD yi,.slice Kk YK Ki,.slice Kj YY Kh] 53)).alloc (.cells #[AN,.int RD ni,.slice aR NK aN,.slice tI NY tL] 53)).alloc (.cells #[str [],.int RD 0,(),()] 53));obtain⟨s8,I1,bB,bY,bN,bR⟩:=boxes4 w (.cells #[str [],(v:Int),.slice ie ss.length iq,.slice (pb,po) 2 iZ] 53) (.cells #[AY,.int RD yi,.slice Kk YK Ki,.slice Kj YY Kh] 53) (.cells #[AN,.int RD ni,.slice aR NK aN,.slice tI NY tL] 53) (.cells #[str [],.int RD 0,(),()] 53);rw[<- tW]at s8 I1 bB bY bN bR
   have SX:Hid (∀ w',Below W0 W0 w'->(w' (w,1)=some (.int .i64 (v:Nat))/\w' (w,2)=some (.slice ie ss.length iq)/\w' (w,3)=some (.slice (pb,po) 2 iZ)) /\
    (w' (w+1:Nat)=str AY/\w' ((w:Nat)+1,1)=OK (.int RD yi)/\w' ((w:Nat)+1,2)=OK (.slice Kk YK Ki)/\w' ((w:Nat)+1,3)=OK (.slice Kj YY Kh)) /\
    (w' (w+1+1:Nat)=str AN/\w' ((w:Nat)+1+1,1)=OK (.int RD ni)/\w' ((w:Nat)+1+1,2)=OK (.slice aR NK aN)/\w' ((w:Nat)+1+1,3)=OK (.slice tI NY tL)) /\
    (w' (pb,po)=str s0/\w' (pb,po+1)=OK (.int RD v0)/\w' (pb,po+2)=OK (.slice p2 m2 d2)/\w' (pb,po+3)=OK (.slice p3 m3 d3)) /\
    (w' (pb,po+4)=str s1/\w' (pb,po+5)=some (.int .i64 v1)/\w' (pb,po+6)=some (.slice p4 m4 d4)/\w' (pb,po+7)=some (.slice p5 m5 d5))):=by
    show ∀w',_->_;intro w' h;have h0:=zzT s8 h;have kB:=(h.block _ (zZ bB)).trans bB;have kY:=(h.block _ (zZ bY)).trans bY;have kN:=(h.block _ (zZ bN)).trans bN;have q:∀ {j:Nat} {u:Value},w (pb,j)=OK u->w' (pb,j)=OK u:=fun {j} {u} hu=>(h0.cell (p:=(pb,j)) hpb).trans hu;exact⟨⟨by simp[RE,kB],by simp[RE,kB],by simp[RE,kB]⟩,⟨by simp[RE,kY],by simp[RE,kY],by simp[RE,kY],by simp[RE,kY]⟩,⟨by simp[RE,kN],by simp[RE,kN],by simp[RE,kN],by simp[RE,kN]⟩,⟨q u0,q u1,q u2,q u3⟩,q z0,q z1,q z2,q z3⟩
   have H0:=r9 (r_ s8 (r_ I1 bR));have HYN:=r9 (r_ NV (r_ NU (r_ N0 (r_ NZ (r_ N5 N6)))));clear hk GZ aty KC FL hy hn hb An ih u0 u1 u2 u3 z0 z1 z2 z3 s8 I1 bB bY bN bR HY HN hpb NV NU N0 NZ N5 N6;show Calls RG 41 #[.agg #[str [],(v:Int),.slice ie ss.length iq,.slice (pb,po) 2 iZ],.agg #[AY,.int RD yi,.slice Kk YK Ki,.slice Kj YY Kh],.agg #[AN,.int RD ni,.slice aR NK aN,.slice tI NY tL]] w _;go_enter U_,UY;go_wp2_with fail
   rw[<- tW];clear tW;refine rS (fun w'=>No W0 w') (fun i=>i == 20) (Below.drew (sQ _ _)) fun sP=>?_;refine tk [0,1,2,3,4,5,6,7,8,9,11,12,13,14,15,16] sP ?_;(intro d hd;simp[tkD]at hd;subst hd;simp only[tks,pQ,pZ,pS]);iterate 16 (refine⟨?_,?_,?_⟩;rotate_left;· (intro oi ho;simp at ho;subst ho;refine Or.inl ⟨by rfl,fun w' sL=>?_⟩;obtain⟨⟨e1,e2,e3⟩,⟨f0,f1,f2,f3⟩,⟨g0,g1,g2,g3⟩,⟨u0,u1,u2,u3⟩,z0,z1,z2,z3⟩:=SX.out w' sL;go_simp;try with_reducible rfl))
   (refine on 10 ?_;intro o ho K' hK;simp at ho;subst ho;go_simp);go_at_call 41
   (with_reducible refine(CY.out _ (zzT H0.out.1 sP)).mono ?_);rintro en x1 ⟨LM,LL,LS,LN,LQ,LR,LO,LP,rfl,sX,aV⟩
   have sn:Hid (No W0 x1):=sP.trans sX;have Lj:Hid (zY (fun i=>F i\/W0<=i) x1 (kU (qP ya y n)) [LM,.int RD LL,.slice LS LN LQ,.slice LR LO LP]):=(Rep.keep fun i x h hx=>⟨h.elim .inl (fun h=>.inr (h)),hx⟩).2 _ _ aV;have HBB1:=r9 sX;clear sX aV;(refine hK.out _ _ (fun _=>sn.out) ?_;clear hK K';try simp only[pQ,pN,pZ,pS]);have M8:=sn.out;(refine on 17 ?_;intro o ho K' hK;simp at ho;subst ho;go_simp);go_at_call 41;(with_reducible refine(CN.out _ (zzT H0.out.1 sn.out)).mono ?_);rintro en x2 ⟨LE,LD,LK,LF,LI,LJ,LG,LH,rfl,sY,lq⟩;have sw:Hid (No W0 x2):=zzT sn.out sY;have BK:Hid (zY (fun i=>F i\/W0<=i) x2 (kU (qP na y n)) [LE,.int RD LD,.slice LK LF LI,.slice LJ LG LH]):=(Rep.keep fun i x h hx=>⟨h.elim .inl (fun h=>.inr (sU sn.out.size h)),hx⟩).2 _ _ lq;have HBB2:=r9 sY;clear sY lq;(refine hK.out _ _ (fun _=>sw.out) ?_;clear hK K';try simp only[pQ,pN,pZ,pS]);have J6:=sw.out;refine oC 18 (sw.out.alloc sw.out.size (.cells #[LM,.int RD LL,.slice LS LN LQ,.slice LR LO LP,LE,.int RD LD,.slice LK LF LI,.slice LJ LG LH] 53)) ?_;have Ge:=sw.out.alloc sw.out.size (.cells #[LM,.int RD LL,.slice LS LN LQ,.slice LR LO LP,LE,.int RD LD,.slice LK LF LI,.slice LJ LG LH] 53);have bR2:(x2.alloc (.cells #[LM,.int RD LL,.slice LS LN LQ,.slice LR LO LP,LE,.int RD LD,.slice LK LF LI,.slice LJ LG LH] 53)).heap[(w:Nat)+1+1+1]?=OK (.cells #[str [],.int RD 0,(),()] 53 (0,0)):=zJ ((sw.out.block _ (zZ H0.out.2.2)).trans H0.out.2.2);obtain⟨X,hX⟩:=zzN (x2.alloc (.cells #[LM,.int RD LL,.slice LS LN LQ,.slice LR LO LP,LE,.int RD LD,.slice LK LF LI,.slice LJ LG LH] 53));rw[hX]at bR2 Ge ⊢;have NR:z9 ((w:Nat)+1+1+1) 0 () () X:=bR2;obtain⟨k0,k1,k2,k3,_,kf⟩:=NR.cells;have kf0:=kf 0;have Ow:=kf 1;have kf2:=kf 2;have kf3:=kf 3;clear kf;refine tC [19] Ge ?_;refine tx ?_;refine tz ?_;refine oB 20 (fun h=>by simp at h) ?_;refine zX (by kernel_rfl) (RQ ?_) _;go_wp2_with fail
   obtain⟨Z,hZ,tm,tp,tf,aQ,Gb,Fb⟩:=NR.store (str []) (.int RD (v:Nat)) (.slice ie ss.length iq) (.slice x2 2 2);rw[<- hZ];refine bodyPost_ret (v:=.agg #[str [],(v:Int),.slice ie ss.length iq,.slice x2 2 2]) (by simp[results,UE,go_sem,tm,tp,tf,aQ]) rfl ?_;have oh:No W0 X:=by rw[<- hX];exact sw.out.alloc sw.out.size _
   have tY:No w X:=zzT H0.out.1 oh;have iP:=sw.out.size;have I5:=H0.out.2.1;refine⟨_,_,_,_,_,_,_,_,rfl,Gb _ _ tY (by omega),?_⟩;have kk:∀i x,x2.heap[i]?=OK x->i≠(w:Nat)+1+1+1->Z.heap[i]?=OK x:=fun i x hx hi=>Fb i x hi (by rw[<- hX];exact zJ hx);rw[qP];have nb:Z.heap[(x2:Nat)]?=OK (.cells #[LM,.int RD LL,.slice LS LN LQ,.slice LR LO LP,LE,.int RD LD,.slice LK LF LI,.slice LJ LG LH] 53 (0,0)):=Fb _ _ (by omega) (by rw[<- hX];exact zW _ _);have kF:∀i,(F i\/(W0:Nat)<=i)->i≠(w:Nat)+1+1+1:=fun i h=>by rcases h with h|h;have:=hF i h;omega;omega
   refine node_enc ?_ ?_
   ·exact(Rep.keep fun i x (h:F i) hx=>⟨.inl h,kk i x ((sw.out.block i (by have:=hF i h;omega)).trans ((H0.out.1.block i (zZ hx)).trans hx)) (kF i (.inl h))⟩).1 _ _ HK.out
   ·refine zv.2 ⟨by rw[R9,List.length_append,qy,qy],_,_,rfl,sZ _,(fun h=>by simp at h),.inr ⟨_,0,_,_,rfl,.inr (by omega),nb,?_⟩⟩;rw[R9];have g1:=zY.below (F':=fun i=>F i\/W0<=i) HBB2.out (fun _ h=>h) Lj.out;exact zY.append (vs:=[LM,.int RD LL,.slice LS LN LQ,.slice LR LO LP]) (us:=[LE,.int RD LD,.slice LK LF LI,.slice LJ LG LH]) ((Rep.keep fun i x h hx=>⟨h.elim .inl (fun h=>.inr (by omega)),kk i x hx (kF i h)⟩).2 _ _ g1) ((Rep.keep fun i x h hx=>⟨h.elim .inl (fun h=>.inr (by omega)),kk i x hx (kF i h)⟩).2 _ _ BK.out)
theorem graft_any (M:Nat):GrSaid M:=by
 induction M with
 |zero=>exact fun F b y n b0 b1 b2 b3 y0 y1 y2 y3 n0 n1 n2 n3 w h=>by have:=kQ b;omega
 |succ M ih=>exact gr_step M ih
theorem sh_enc (b:Bd)(n k:Nat):kU (kV b n k)=[.val (str (z_ b)),.val (.int RD ((if z_ b=[]/\n<=lvOf b then lvOf b+k else lvOf b:Nat):Int)),.sl 53 4 (kh b).length (zp (zt (kh b) n k)),.sl 53 4 (qS b).length (zp (zt (qS b) n k))]:=by
 cases b with
 |leaf c=>rw[kV,kU];simp[z_,lvOf,kh,qS,zt,zp]
 | ask v ss y no =>
   have hl:(zt ss n k).length=ss.length:=by rw[um];simp
   rw[kV,kU,hl];simp[z_,lvOf,kh,qS,zt,zp]
theorem kids_part {b s:Bd}{M:Nat}(h:s∈kh b\/s∈qS b)(hs:zG b<=M+1)(hl:lvB b)(hM:zG b<=1000000):zG s<=M/\lvB s/\zG s<=1000000:=by
 cases b with
 |leaf c=>simp[kh,qS]at h
 | ask v ss y no =>
   rw[zG]at hs hM;rw[lvB]at hl;rcases h with h|h
   ·have h1:zG s<=zI ss:=uZ h;obtain⟨j,hj⟩:=List.mem_iff_getElem?.1 h;exact⟨by omega,dz ss hl.2.1 j s hj,by omega⟩
   ·simp only[qS,List.mem_cons,List.not_mem_nil,or_false]at h;rcases h with rfl|rfl
    ·exact⟨by omega,hl.2.2.1,by omega⟩
    ·exact⟨by omega,hl.2.2.2,by omega⟩
structure Keeps (W:World)(P:Nat)(sv:Value)(wr:World):Prop where
 keep:(W:Nat)<=wr/\∀i x,i≠P->W.heap[i]?=OK x->wr.heap[i]?=OK x
 own:∀g,sv.ownBlock=OK g->(W:Nat)<=g
theorem Keeps.next {W:World}{P:Nat}{sv sv':Value}{wr w6 w7 w8:World}{ob:Obj}(h:Keeps W P sv wr)(sM:No wr w6)(sH:But (fun b=>sv.ownBlock=OK b) (w6.alloc ob) w7)(sS:∀g,sv'.ownBlock=OK g->sv.ownBlock=OK g\/g=(w6.alloc ob).heap.size)(aw:But (fun b=>b=P) w7 w8):Keeps W P sv' w8:=by
 have z1:=h.keep.1;have z6:=sM.size;have z7:=sH.size;rw[zK]at z7;refine⟨⟨by have:=aw.size;omega,fun i x hi hx=>?_⟩,fun g hg=>?_⟩
 ·have hl:=zZ hx;have h1:=h.keep.2 i x hi hx;have h6:w6.heap[i]?=OK x:=by rw[sM.block i (zZ h1)];exact h1
  rw[aw.block i (by omega) hi,sH.block i (by rw[zK];omega) (fun e=>by have:=h.own i e;omega)];exact zJ h6
 ·rcases sS g hg with e|e
  ·exact h.own g e
  ·rw[zK]at e;omega
def ShSaid (M:Nat):Prop:=∀(F:Nat->Prop) (b:Bd) (n k:Nat) (b0 b1 b2 b3:Value) (w:World),zG b<=M->(∀i,F i->i<(w:Nat))->zG b<=1000000->lvB b->n<=10000->k<=10000->zY F w (kU b) [b0,b1,b2,b3]->
 Calls RG 42 #[.agg #[b0,b1,b2,b3],(n:Int),(k:Int)] w (NdPost F w (kV b n k))
theorem sh_step (M:Nat)(ih:ShSaid M):ShSaid (M+1):=by
 intro F b n k b0 b1 b2 b3 w hN hF hM iT hn hk hb;have el:=encN_lv hb;subst el;obtain⟨_,ie,iq,i6,iZ,rfl,eb,rfl,rfl⟩:=bj hb;clear eb;obtain⟨_,_,_,_,_,e,D4,GZ⟩:=jA hb;simp only[RY,and_true]at e;obtain⟨_,_,e1,e2⟩:=e;rw[<- e1]at D4;rw[<- e2]at GZ;clear e1 e2;obtain⟨_,_,ek,atk⟩:=bZ.of D4;simp only[RT,true_and]at ek;rw[<- ek.1]at atk;clear ek;obtain⟨_,_,ek,aty⟩:=bZ.of GZ;simp only[RT,true_and]at ek;rw[<- ek.1]at aty;clear ek;have PO:lvOf b<=10000:=by
  cases b with
  |leaf c=>simp[lvOf]
  |ask v ss y no=>rw[lvB]at iT;exact iT.1
 have AG:(kh b).length<=1000000/\(qS b).length<=2:=by
  cases b with
  |leaf c=>simp[kh,qS]
  |ask v ss y no=>rw[zG]at hM;have:=qI ss;simp[kh,qS];omega
 have HE:=r9 (sh_enc b n k);have Nq:=r9 (fun (s:Bd) (h:s∈kh b\/s∈qS b)=>kids_part h hN iT hM);obtain⟨R,hR⟩:=zzM (kV b n k);obtain⟨KS,QU⟩:=zzM (kh b);obtain⟨YS,QN⟩:=zzM (qS b);obtain⟨A,hA⟩:=zzM (z_ b);obtain⟨L,hL⟩:=zzM (lvOf b);rw[<- hR,<- QU,<- QN,<- hA,<- hL]at HE;rw[<- QU,<- QN]at Nq AG;rw[<- QU]at atk;rw[<- QN]at aty;rw[<- hL]at PO;rw[<- hR,<- QU,<- QN,<- hA,<- hL];clear hb D4 GZ hR QU QN hA hL hN hM iT;obtain⟨Jd,EB⟩:=AG;have IH:=r9 ih;have AK:=r9 atk;have AY:=r9 aty;clear atk aty ih;obtain⟨W0,tW⟩:=zzM (((w.alloc (.cells #[A,(L:Int),.slice ie KS.length iq,.slice i6 YS.length iZ] 53)).alloc (.cells #[str [],.int RD 0,(),()] 53)).alloc (.cells #[A,(L:Int),(),()] 53));obtain⟨s8,I1,bB,bR,bO⟩:=xN w (.cells #[A,(L:Int),.slice ie KS.length iq,.slice i6 YS.length iZ] 53) (.cells #[str [],.int RD 0,(),()] 53) (.cells #[A,(L:Int),(),()] 53);rw[<- tW]at s8 I1 bB bR bO;have H0:=r9 (r_ s8 (r_ I1 (r_ bB (r_ bR bO))));clear s8 I1;by_cases Lc:A=[]
 ·subst Lc;by_cases hv:n<=L
  ·go_enter VM,VD;go_upto_region 2 with (fail)
   rw[<- tW];clear tW;obtain⟨o0,o1,o2,o3⟩:=kD bO;obtain⟨r0,r1,r2,r3⟩:=kD bB;have of1:W0.frozen? ((w:Nat)+1+1,1)=false:=by simp only[RO,bO];rfl
   have hvI:(n:Int)<=(L:Int):=by omega
   have lG:IntKind.i64.wrap ((L:Int)+(k:Int))=(L:Int)+(k:Int):=IntWalk.i64_in _ (by omega);go_upto_region 4 with (fail)
   obtain⟨W,hW⟩:=zzN (W0.setCell ((w:Nat)+1+1,1) (.int RD ((L:Int)+(k:Int))));rw[hW];have hO:W.heap[(w:Nat)+1+1]?=OK (.cells #[str [],.int RD ((L+k:Nat):Int),(),()] 53 (0,0)):=by
    rw[<- hW];rw[zT H0.out.2.2.2.2,S_];rfl
   have DP:Below ((w:Nat)+1+1) W0 W:=by rw[<- hW];exact(sQ _ _).setCell (p:=⟨w+1+1,1,U⟩) (sZ _) _
   have I1:=H0.out.2.1;have iV:(w:Nat)+1+1<(W:Nat):=by have:=DP.size;omega
   have tX:=r9 (r_ (H0.out.1.trans (DP.mono (by omega))) (r_ ((DP.block _ (by omega)).trans H0.out.2.2.1) (r_ ((DP.block _ (by omega)).trans H0.out.2.2.2.1) hO)));clear hW hO DP bB bR bO;obtain⟨_,_,Ou,Ot⟩:=kD tX.out.2.1;go_wp2_with fail
   go_loopw [8] (fun i wr=>∃(j:Nat) (sv:Value) (us:List Value),j<=KS.length/\i=.int RD j/\jl F W ((w:Nat)+1+1) (fun sv=>.cells #[str [],.int RD ((L+k:Nat):Int),sv,()] 53 (0,0)) 53 4 j (zp (zt (KS.take j) n k)) sv us wr) (fun i _=>KS.length-(intOf i).toNat)
   case atStart=>exact⟨0,_,_,R6 _,rfl,by simpa[zt,zp] using jl.start (F0:=F) (o:=fun sv=>.cells #[str [],.int RD ((L+k:Nat):Int),sv,()] 53 (0,0)) tX.out.2.2.2⟩
   case round=>
    rename_i wr;obtain⟨j,sv,us,hj,rfl,sN⟩:=hrel;obtain⟨ga,gc,e⟩:=sN.slice;subst e;have sW:wr.heap[(w:Nat)+1+1]?=OK (.cells #[str [],.int RD ((L+k:Nat):Int),.slice ga j gc,()] 53 (0,0)):=sN.blk;have tY:No w wr:=tX.out.1.trans (sN.below.mono (by omega));obtain⟨y0,y1,y2,y3⟩:=kD sW;have az:wr.heap[(w:Nat)]?=OK (.cells #[str [],(L:Int),.slice ie KS.length iq,.slice i6 YS.length iZ] 53 (0,0)):=(sN.below.block _ (by omega)).trans tX.out.2.1;obtain⟨_,_,m2,m3⟩:=kD az;have HI:=r9 (r_ sN (r_ sW (r_ tY az)));clear sN sW tY az;by_cases sC:j<KS.length
    ·have tB:(j:Int)<(KS.length:Int):=by omega
     obtain⟨kb,ko,s1,v1,p4,m4,d4,p5,m5,d5,s,ek,il,hs,z0,z1,z2,z3,tG⟩:=AK.out j sC;subst ek;have aF:s∈KS:=RX hs;obtain⟨p1,p2,p3⟩:=Nq.out s (.inl aF);have q0:=(HI.out.2.2.1.cell (p:=(kb,ko+j*4)) il).trans z0;have q1:=(HI.out.2.2.1.cell (p:=(kb,ko+j*4+1)) il).trans z1;have q2:=(HI.out.2.2.1.cell (p:=(kb,ko+j*4+2)) il).trans z2;have q3:=(HI.out.2.2.1.cell (p:=(kb,ko+j*4+3)) il).trans z3;have CC:=r9 (IH.out F s n k _ _ _ _ wr.drew p1 (fun i hi=>sV (hF i hi) HI.out.2.2.1.size) p3 p2 hn hk (zY.below HI.out.2.2.1 (fun _ h=>h) tG).drew);have HK:=r9 (vQ hs n k);have SX:Hid (∀w',But (fun i=>(RI ga j gc).ownBlock=OK i) wr w'->w' ((w:Nat)+1+1,2)=OK (.slice ga j gc)/\w' (w,2)=OK (.slice (kb,ko) KS.length iq)/\w' (kb,ko+j*4)=str s1/\w' (kb,ko+j*4+1)=OK (.int RD v1)/\w' (kb,ko+j*4+2)=OK (.slice p4 m4 d4)/\w' (kb,ko+j*4+3)=OK (.slice p5 m5 d5)):=by
      show ∀w',_->_;intro w' sA;have key:∀ {p:Addr} {u:Value},p.block<w+1+1->wr.cell? p=u->w'.cell? p=u:=fun hp hu=>(sA.cell (sK wr _ hu) (fun e=>by have h1:=HI.out.1.fr _ e;omega)).trans hu;exact⟨(sA.cell (sK wr _ y2) HI.out.1.not).trans y2,key (show (w:Nat)<_ by omega) m2,key (show kb<_ by omega) q0,key (show kb<_ by omega) q1,key (show kb<_ by omega) q2,key (show kb<_ by omega) q3⟩
     have oP:j+1<=maxLen:=by unfold maxLen;omega
     have aI:(j+1)*72<=140737488355328:=by omega
     clear tG hs aF z0 z1 z2 z3 p1 p2 p3;go_wp2_with fail
     refine rS (fun w'=>But (fun i=>(RI ga j gc).ownBlock=OK i) wr w') (fun i=>i == 13) ((But.refl _ wr).drew) fun sP=>?_;refine tC [0,1,2,3,4,5,6,7,8] sP ?_;iterate 9 (refine tl (fun w' sL=>SX.out w' sL) ?_)
     refine tz ?_;(refine on 9 ?_;intro o ho K' hK;simp at ho;subst ho;go_simp);go_at_call 42;(with_reducible refine CC.out.mono ?_);rintro Fu w6 ⟨s6,v6,f1,u1,d1,f2,u2,d2,rfl,sM,iU⟩;have aL:No wr w6:=(Below.drew (sQ _ _)).trans sM;have aK:Hid (But (fun i=>(RI ga j gc).ownBlock=OK i) wr w6):=But.ofBelow aL;have tM:=HI.out.1.own6 aL (.cells #[s6,.int RD v6,.slice f1 u1 d1,.slice f2 u2 d2] 53);have H6:=r9 (r_ aL iU);clear sM iU aL;(refine hK.out _ _ (fun _=>aK.out) ?_;clear hK K';try simp only[pQ,pN,pZ,pS]);refine oC 10 (aK.out.alloc _) ?_;(refine on 11 ?_;intro o ho K' hK;simp at ho;subst ho);refine zL (by rfl) _ _ _ (by rfl) 53 (.agg #[str [],.int RD 0,(),()]) 4 72 SN Tryz.infoN rfl (by decide) (.slice ga j gc) j us (by rfl) tM _ 1 [s6,.int RD v6,.slice f1 u1 d1,.slice f2 u2 d2] (by rfl) (zz.lit4 #[str s6,.int RD v6,.slice f1 u1 d1,.slice f2 u2 d2] rfl (by simp[str,R4]) _ rfl) oP aI ?_;intro a' c' w7 sj sH sS;(refine hK.out _ _ (fun _=>(aK.out.alloc _).trans sH) ?_;clear hK K';try simp only[pQ,pN,pZ,pS]);have aB:=HI.out.1.cell7 H6.out.1 sH;have i9:w7 ((w:Nat)+1+1,2)=OK (.slice ga j gc)/\w7.frozen? ((w:Nat)+1+1,2)=false:=⟨by simp[RE,aB],by simp[RO,aB]⟩;obtain⟨CU,ll⟩:=i9;have Dd:=r9 aB;clear aB;refine oC 12 ((aK.out.alloc _).trans sH) ?_;refine oB 13 (fun h=>by simp at h) ?_;refine zX (by kernel_rfl) (RQ ?_) _;have hX:=HI.out.1.next (fun i h=>by have:=hF i h;omega) (w8:=w7.setCell ((w:Nat)+1+1,2) (.slice a' (j+1) c')) H6.out.1 H6.out.2 sj sH sS (by rw[zT Dd.out];rfl) (uH _ _ _ _);have ia:zp (zt (KS.take j) n k)++kU (kV s n k)=zp (zt (KS.take (j+1)) n k):=by rw[HK.out,qG];simp[zp]
     rw[ia]at hX;have HN:=r9 hX;clear hX ia sj sH sS sP tM CU ll;go_wp2_with fail
     go_roundw
     case rel=>exact⟨j+1,_,_,by omega,by go_num,HN.out⟩
     case measure=>simp[intOf];omega
    ·obtain rfl:j=KS.length:=by omega
     have tt:=HI.out.1.sl;rw[R8]at tt;have Ln:=r9 tt;have aU:=r9 (r_ HI.out.2.2.1 (r_ HI.out.2.2.2 (r_ ((HI.out.1.below.block _ (by omega)).trans tX.out.2.2.1) HI.out.2.1)));have Al:(w:Nat)+1+1<(wr:Nat):=zZ HI.out.2.1;obtain⟨V,hV⟩:=zzM (wr);rw[<- hV]at Ln aU m2 m3 y2 y3 Al ⊢;clear tt y0 y1 HI hV Ou Ot;go_wp2_with fail
     go_loopw [9] (fun i wr=>∃(j:Nat) (sv:Value) (us:List Value),j<=YS.length/\i=.int RD j/\jl F V ((w:Nat)+1+1) (fun sv=>.cells #[str [],.int RD ((L+k:Nat):Int),.slice ga KS.length gc,sv] 53 (0,0)) 53 4 j (zp (zt (YS.take j) n k)) sv us wr/\Keeps V ((w:Nat)+1+1) sv wr) (fun i _=>YS.length-(intOf i).toNat)
     case atStart=>exact⟨0,_,_,R6 _,rfl,by simpa[zt,zp] using jl.start (F0:=F) (o:=fun sv=>.cells #[str [],.int RD ((L+k:Nat):Int),.slice ga KS.length gc,sv] 53 (0,0)) aU.out.2.2.2,⟨⟨sZ _,fun i x _ hx=>hx⟩,fun g hg=>by simp[RM]at hg⟩⟩
     case round=>
      rename_i wr;clear m2 m3 y2 y3;obtain⟨j,sv,us,hj,rfl,sN,aX⟩:=hrel;obtain⟨ja,jc,e⟩:=sN.slice;subst e;have sW:wr.heap[(w:Nat)+1+1]?=OK (.cells #[str [],.int RD ((L+k:Nat):Int),.slice ga KS.length gc,.slice ja j jc] 53 (0,0)):=sN.blk;have tY:No w wr:=aU.out.1.trans (sN.below.mono (by omega));obtain⟨y0,y1,y2,y3⟩:=kD sW;have az:wr.heap[(w:Nat)]?=OK (.cells #[str [],(L:Int),.slice ie KS.length iq,.slice i6 YS.length iZ] 53 (0,0)):=(sN.below.block _ (by omega)).trans aU.out.2.1;obtain⟨_,_,m2,m3⟩:=kD az;have HI:=r9 (r_ sN (r_ sW (r_ tY az)));clear sN sW tY az;have Ll:=r9 aX;clear aX;by_cases sC:j<YS.length
      ·have tB:(j:Int)<(YS.length:Int):=by omega
       obtain⟨kb,ko,s1,v1,p4,m4,d4,p5,m5,d5,s,ek,il,hs,z0,z1,z2,z3,tG⟩:=AY.out j sC;subst ek;have aF:s∈YS:=RX hs;obtain⟨p1,p2,p3⟩:=Nq.out s (.inr aF);have q0:=(HI.out.2.2.1.cell (p:=(kb,ko+j*4)) il).trans z0;have q1:=(HI.out.2.2.1.cell (p:=(kb,ko+j*4+1)) il).trans z1;have q2:=(HI.out.2.2.1.cell (p:=(kb,ko+j*4+2)) il).trans z2;have q3:=(HI.out.2.2.1.cell (p:=(kb,ko+j*4+3)) il).trans z3;have CC:=r9 (IH.out F s n k _ _ _ _ wr.drew p1 (fun i hi=>sV (hF i hi) HI.out.2.2.1.size) p3 p2 hn hk (zY.below HI.out.2.2.1 (fun _ h=>h) tG).drew);have HK:=r9 (vQ hs n k);have SX:Hid (∀w',But (fun i=>(RI ja j jc).ownBlock=OK i) wr w'->w' ((w:Nat)+1+1,3)=OK (.slice ja j jc)/\w' (w,3)=OK (.slice (kb,ko) YS.length iZ)/\w' (kb,ko+j*4)=str s1/\w' (kb,ko+j*4+1)=OK (.int RD v1)/\w' (kb,ko+j*4+2)=OK (.slice p4 m4 d4)/\w' (kb,ko+j*4+3)=OK (.slice p5 m5 d5)):=by
        show ∀w',_->_;intro w' sA;have key:∀ {p:Addr} {u:Value},p.block<w+1+1->wr.cell? p=u->w'.cell? p=u:=fun hp hu=>(sA.cell (sK wr _ hu) (fun e=>by have h1:=HI.out.1.fr _ e;omega)).trans hu;exact⟨(sA.cell (sK wr _ y3) HI.out.1.not).trans y3,key (show (w:Nat)<_ by omega) m3,key (show kb<_ by omega) q0,key (show kb<_ by omega) q1,key (show kb<_ by omega) q2,key (show kb<_ by omega) q3⟩
       have oP:j+1<=maxLen:=by unfold maxLen;omega
       have aI:(j+1)*72<=140737488355328:=by omega
       clear tG hs aF z0 z1 z2 z3 p1 p2 p3;go_wp2_with fail
       refine rS (fun w'=>But (fun i=>(RI ja j jc).ownBlock=OK i) wr w') (fun i=>i == 13) ((But.refl _ wr).drew) fun sP=>?_;refine tC [0,1,2,3,4,5,6,7,8] sP ?_;iterate 9 (refine tl (fun w' sL=>SX.out w' sL) ?_)
       refine tz ?_;(refine on 9 ?_;intro o ho K' hK;simp at ho;subst ho;go_simp);go_at_call 42;(with_reducible refine CC.out.mono ?_);rintro Fu w6 ⟨s6,v6,f1,u1,d1,f2,u2,d2,rfl,sM,iU⟩;have aL:No wr w6:=(Below.drew (sQ _ _)).trans sM;have aK:Hid (But (fun i=>(RI ja j jc).ownBlock=OK i) wr w6):=But.ofBelow aL;have tM:=HI.out.1.own6 aL (.cells #[s6,.int RD v6,.slice f1 u1 d1,.slice f2 u2 d2] 53);have H6:=r9 (r_ aL iU);clear sM iU aL;(refine hK.out _ _ (fun _=>aK.out) ?_;clear hK K';try simp only[pQ,pN,pZ,pS]);refine oC 10 (aK.out.alloc _) ?_;(refine on 11 ?_;intro o ho K' hK;simp at ho;subst ho);refine zL (by rfl) _ _ _ (by rfl) 53 (.agg #[str [],.int RD 0,(),()]) 4 72 SN Tryz.infoN rfl (by decide) (.slice ja j jc) j us (by rfl) tM _ 1 [s6,.int RD v6,.slice f1 u1 d1,.slice f2 u2 d2] (by rfl) (zz.lit4 #[str s6,.int RD v6,.slice f1 u1 d1,.slice f2 u2 d2] rfl (by simp[str,R4]) _ rfl) oP aI ?_;intro a' c' w7 sj sH sS;(refine hK.out _ _ (fun _=>(aK.out.alloc _).trans sH) ?_;clear hK K';try simp only[pQ,pN,pZ,pS]);have aB:=HI.out.1.cell7 H6.out.1 sH;have i9:w7 ((w:Nat)+1+1,3)=OK (.slice ja j jc)/\w7.frozen? ((w:Nat)+1+1,3)=false:=⟨by simp[RE,aB],by simp[RO,aB]⟩;obtain⟨CU,ll⟩:=i9;have Dd:=r9 aB;clear aB;refine oC 12 ((aK.out.alloc _).trans sH) ?_;refine oB 13 (fun h=>by simp at h) ?_;refine zX (by kernel_rfl) (RQ ?_) _;have hX:=HI.out.1.next (fun i h=>by have:=hF i h;omega) (w8:=w7.setCell ((w:Nat)+1+1,3) (.slice a' (j+1) c')) H6.out.1 H6.out.2 sj sH sS (by rw[zT Dd.out];rfl) (uH _ _ _ _);have ia:zp (zt (YS.take j) n k)++kU (kV s n k)=zp (zt (YS.take (j+1)) n k):=by rw[HK.out,qG];simp[zp]
       rw[ia]at hX;have HN:=r9 hX;have IZ:=r9 (Ll.out.next (w8:=w7.setCell ((w:Nat)+1+1,3) (.slice a' (j+1) c')) H6.out.1 sH sS (uH _ _ _ _));clear hX ia sj sH sS sP tM CU ll;go_wp2_with fail
       go_roundw
       case rel=>exact⟨j+1,_,_,by omega,by go_num,HN.out,IZ.out⟩
       case measure=>simp[intOf];omega
      ·obtain rfl:j=YS.length:=by omega
       have NR:z9 ((w:Nat)+1) 0 () () wr:=(HI.out.1.below.block _ (by omega)).trans aU.out.2.2.1;obtain⟨k0,k1,k2,k3,_,kf⟩:=NR.cells;have kf0:=kf 0;have Ow:=kf 1;have kf2:=kf 2;have kf3:=kf 3;clear kf;go_wp2_with fail
       obtain⟨Z,hZ,tm,tp,tf,aQ,Gb,Fb⟩:=NR.store (str []) (.int RD ((L:Int)+(k:Int))) (.slice ga KS.length gc) (.slice ja YS.length jc);rw[<- hZ];refine bodyPost_ret (v:=.agg #[str [],.int RD ((L:Int)+(k:Int)),.slice ga KS.length gc,.slice ja YS.length jc]) (by simp[results,Vk,go_sem,tm,tp,tf,aQ]) rfl ?_;refine⟨_,_,_,_,_,_,_,_,rfl,Gb _ _ HI.out.2.2.1 (by omega),?_⟩;have tt:=HI.out.1.sl;rw[R8]at tt;rw[HE.out,if_pos (by first | exact⟨rfl,hv⟩ | exact⟨trivial,hv⟩)];have hne:∀i,(F i\/(w:Nat)+1+1<i)->i≠(w:Nat)+1:=fun i h=>by rcases h with h|h;have:=hF i h;omega;omega
       have hP:∀i,(F i\/(w:Nat)+1+1<i)->i≠(w:Nat)+1+1:=fun i h=>by rcases h with h|h;have:=hF i h;omega;omega
       refine zQ.2 ⟨_,_,rfl,zC.2 rfl,zQ.2 ⟨_,_,rfl,zC.2 (by first | rfl | simp),zQ.2 ⟨_,_,rfl,?_,zQ.2 ⟨_,_,rfl,?_,zE.2 rfl⟩⟩⟩⟩
       ·exact(Rep.keep fun i x h hx=>⟨h.elim .inl (fun h=>.inr (by omega)),Fb i x (hne i h) (Ll.out.keep.2 i x (hP i h) hx)⟩).1 _ _ Ln.out
       ·exact(Rep.keep fun i x h hx=>⟨h.elim .inl (fun h=>.inr (by omega)),Fb i x (hne i h) hx⟩).1 _ _ tt
  ·go_enter VM,VD;go_upto_region 2 with (fail)
   rw[<- tW];clear tW;obtain⟨o0,o1,o2,o3⟩:=kD bO;obtain⟨r0,r1,r2,r3⟩:=kD bB;have of1:W0.frozen? ((w:Nat)+1+1,1)=false:=by simp only[RO,bO];rfl
   have hvI:¬(n:Int)<=(L:Int):=by omega
   go_upto_region 4 with (fail)
   obtain⟨W,hW⟩:=zzN (W0);rw[hW];have hO:W.heap[(w:Nat)+1+1]?=OK (.cells #[str [],.int RD ((L:Nat):Int),(),()] 53 (0,0)):=by
    rw[<- hW];exact H0.out.2.2.2.2
   have DP:Below ((w:Nat)+1+1) W0 W:=by rw[<- hW];exact sQ _ _
   have I1:=H0.out.2.1;have iV:(w:Nat)+1+1<(W:Nat):=by have:=DP.size;omega
   have tX:=r9 (r_ (H0.out.1.trans (DP.mono (by omega))) (r_ ((DP.block _ (by omega)).trans H0.out.2.2.1) (r_ ((DP.block _ (by omega)).trans H0.out.2.2.2.1) hO)));clear hW hO DP bB bR bO;obtain⟨_,_,Ou,Ot⟩:=kD tX.out.2.1;go_wp2_with fail
   go_loopw [8] (fun i wr=>∃(j:Nat) (sv:Value) (us:List Value),j<=KS.length/\i=.int RD j/\jl F W ((w:Nat)+1+1) (fun sv=>.cells #[str [],.int RD ((L:Nat):Int),sv,()] 53 (0,0)) 53 4 j (zp (zt (KS.take j) n k)) sv us wr) (fun i _=>KS.length-(intOf i).toNat)
   case atStart=>exact⟨0,_,_,R6 _,rfl,by simpa[zt,zp] using jl.start (F0:=F) (o:=fun sv=>.cells #[str [],.int RD ((L:Nat):Int),sv,()] 53 (0,0)) tX.out.2.2.2⟩
   case round=>
    rename_i wr;obtain⟨j,sv,us,hj,rfl,sN⟩:=hrel;obtain⟨ga,gc,e⟩:=sN.slice;subst e;have sW:wr.heap[(w:Nat)+1+1]?=OK (.cells #[str [],.int RD ((L:Nat):Int),.slice ga j gc,()] 53 (0,0)):=sN.blk;have tY:No w wr:=tX.out.1.trans (sN.below.mono (by omega));obtain⟨y0,y1,y2,y3⟩:=kD sW;have az:wr.heap[(w:Nat)]?=OK (.cells #[str [],(L:Int),.slice ie KS.length iq,.slice i6 YS.length iZ] 53 (0,0)):=(sN.below.block _ (by omega)).trans tX.out.2.1;obtain⟨_,_,m2,m3⟩:=kD az;have HI:=r9 (r_ sN (r_ sW (r_ tY az)));clear sN sW tY az;by_cases sC:j<KS.length
    ·have tB:(j:Int)<(KS.length:Int):=by omega
     obtain⟨kb,ko,s1,v1,p4,m4,d4,p5,m5,d5,s,ek,il,hs,z0,z1,z2,z3,tG⟩:=AK.out j sC;subst ek;have aF:s∈KS:=RX hs;obtain⟨p1,p2,p3⟩:=Nq.out s (.inl aF);have q0:=(HI.out.2.2.1.cell (p:=(kb,ko+j*4)) il).trans z0;have q1:=(HI.out.2.2.1.cell (p:=(kb,ko+j*4+1)) il).trans z1;have q2:=(HI.out.2.2.1.cell (p:=(kb,ko+j*4+2)) il).trans z2;have q3:=(HI.out.2.2.1.cell (p:=(kb,ko+j*4+3)) il).trans z3;have CC:=r9 (IH.out F s n k _ _ _ _ wr.drew p1 (fun i hi=>sV (hF i hi) HI.out.2.2.1.size) p3 p2 hn hk (zY.below HI.out.2.2.1 (fun _ h=>h) tG).drew);have HK:=r9 (vQ hs n k);have SX:Hid (∀w',But (fun i=>(RI ga j gc).ownBlock=OK i) wr w'->w' ((w:Nat)+1+1,2)=OK (.slice ga j gc)/\w' (w,2)=OK (.slice (kb,ko) KS.length iq)/\w' (kb,ko+j*4)=str s1/\w' (kb,ko+j*4+1)=OK (.int RD v1)/\w' (kb,ko+j*4+2)=OK (.slice p4 m4 d4)/\w' (kb,ko+j*4+3)=OK (.slice p5 m5 d5)):=by
      show ∀w',_->_;intro w' sA;have key:∀ {p:Addr} {u:Value},p.block<w+1+1->wr.cell? p=u->w'.cell? p=u:=fun hp hu=>(sA.cell (sK wr _ hu) (fun e=>by have h1:=HI.out.1.fr _ e;omega)).trans hu;exact⟨(sA.cell (sK wr _ y2) HI.out.1.not).trans y2,key (show (w:Nat)<_ by omega) m2,key (show kb<_ by omega) q0,key (show kb<_ by omega) q1,key (show kb<_ by omega) q2,key (show kb<_ by omega) q3⟩
     have oP:j+1<=maxLen:=by unfold maxLen;omega
     have aI:(j+1)*72<=140737488355328:=by omega
     clear tG hs aF z0 z1 z2 z3 p1 p2 p3;go_wp2_with fail
     refine rS (fun w'=>But (fun i=>(RI ga j gc).ownBlock=OK i) wr w') (fun i=>i == 13) ((But.refl _ wr).drew) fun sP=>?_;refine tC [0,1,2,3,4,5,6,7,8] sP ?_;iterate 9 (refine tl (fun w' sL=>SX.out w' sL) ?_)
     refine tz ?_;(refine on 9 ?_;intro o ho K' hK;simp at ho;subst ho;go_simp);go_at_call 42;(with_reducible refine CC.out.mono ?_);rintro Fu w6 ⟨s6,v6,f1,u1,d1,f2,u2,d2,rfl,sM,iU⟩;have aL:No wr w6:=(Below.drew (sQ _ _)).trans sM;have aK:Hid (But (fun i=>(RI ga j gc).ownBlock=OK i) wr w6):=But.ofBelow aL;have tM:=HI.out.1.own6 aL (.cells #[s6,.int RD v6,.slice f1 u1 d1,.slice f2 u2 d2] 53);have H6:=r9 (r_ aL iU);clear sM iU aL;(refine hK.out _ _ (fun _=>aK.out) ?_;clear hK K';try simp only[pQ,pN,pZ,pS]);refine oC 10 (aK.out.alloc _) ?_;(refine on 11 ?_;intro o ho K' hK;simp at ho;subst ho);refine zL (by rfl) _ _ _ (by rfl) 53 (.agg #[str [],.int RD 0,(),()]) 4 72 SN Tryz.infoN rfl (by decide) (.slice ga j gc) j us (by rfl) tM _ 1 [s6,.int RD v6,.slice f1 u1 d1,.slice f2 u2 d2] (by rfl) (zz.lit4 #[str s6,.int RD v6,.slice f1 u1 d1,.slice f2 u2 d2] rfl (by simp[str,R4]) _ rfl) oP aI ?_;intro a' c' w7 sj sH sS;(refine hK.out _ _ (fun _=>(aK.out.alloc _).trans sH) ?_;clear hK K';try simp only[pQ,pN,pZ,pS]);have aB:=HI.out.1.cell7 H6.out.1 sH;have i9:w7 ((w:Nat)+1+1,2)=OK (.slice ga j gc)/\w7.frozen? ((w:Nat)+1+1,2)=false:=⟨by simp[RE,aB],by simp[RO,aB]⟩;obtain⟨CU,ll⟩:=i9;have Dd:=r9 aB;clear aB;refine oC 12 ((aK.out.alloc _).trans sH) ?_;refine oB 13 (fun h=>by simp at h) ?_;refine zX (by kernel_rfl) (RQ ?_) _;have hX:=HI.out.1.next (fun i h=>by have:=hF i h;omega) (w8:=w7.setCell ((w:Nat)+1+1,2) (.slice a' (j+1) c')) H6.out.1 H6.out.2 sj sH sS (by rw[zT Dd.out];rfl) (uH _ _ _ _);have ia:zp (zt (KS.take j) n k)++kU (kV s n k)=zp (zt (KS.take (j+1)) n k):=by rw[HK.out,qG];simp[zp]
     rw[ia]at hX;have HN:=r9 hX;clear hX ia sj sH sS sP tM CU ll;go_wp2_with fail
     go_roundw
     case rel=>exact⟨j+1,_,_,by omega,by go_num,HN.out⟩
     case measure=>simp[intOf];omega
    ·obtain rfl:j=KS.length:=by omega
     have tt:=HI.out.1.sl;rw[R8]at tt;have Ln:=r9 tt;have aU:=r9 (r_ HI.out.2.2.1 (r_ HI.out.2.2.2 (r_ ((HI.out.1.below.block _ (by omega)).trans tX.out.2.2.1) HI.out.2.1)));have Al:(w:Nat)+1+1<(wr:Nat):=zZ HI.out.2.1;obtain⟨V,hV⟩:=zzM (wr);rw[<- hV]at Ln aU m2 m3 y2 y3 Al ⊢;clear tt y0 y1 HI hV Ou Ot;go_wp2_with fail
     go_loopw [9] (fun i wr=>∃(j:Nat) (sv:Value) (us:List Value),j<=YS.length/\i=.int RD j/\jl F V ((w:Nat)+1+1) (fun sv=>.cells #[str [],.int RD ((L:Nat):Int),.slice ga KS.length gc,sv] 53 (0,0)) 53 4 j (zp (zt (YS.take j) n k)) sv us wr/\Keeps V ((w:Nat)+1+1) sv wr) (fun i _=>YS.length-(intOf i).toNat)
     case atStart=>exact⟨0,_,_,R6 _,rfl,by simpa[zt,zp] using jl.start (F0:=F) (o:=fun sv=>.cells #[str [],.int RD ((L:Nat):Int),.slice ga KS.length gc,sv] 53 (0,0)) aU.out.2.2.2,⟨⟨sZ _,fun i x _ hx=>hx⟩,fun g hg=>by simp[RM]at hg⟩⟩
     case round=>
      rename_i wr;clear m2 m3 y2 y3;obtain⟨j,sv,us,hj,rfl,sN,aX⟩:=hrel;obtain⟨ja,jc,e⟩:=sN.slice;subst e;have sW:wr.heap[(w:Nat)+1+1]?=OK (.cells #[str [],.int RD ((L:Nat):Int),.slice ga KS.length gc,.slice ja j jc] 53 (0,0)):=sN.blk;have tY:No w wr:=aU.out.1.trans (sN.below.mono (by omega));obtain⟨y0,y1,y2,y3⟩:=kD sW;have az:wr.heap[(w:Nat)]?=OK (.cells #[str [],(L:Int),.slice ie KS.length iq,.slice i6 YS.length iZ] 53 (0,0)):=(sN.below.block _ (by omega)).trans aU.out.2.1;obtain⟨_,_,m2,m3⟩:=kD az;have HI:=r9 (r_ sN (r_ sW (r_ tY az)));clear sN sW tY az;have Ll:=r9 aX;clear aX;by_cases sC:j<YS.length
      ·have tB:(j:Int)<(YS.length:Int):=by omega
       obtain⟨kb,ko,s1,v1,p4,m4,d4,p5,m5,d5,s,ek,il,hs,z0,z1,z2,z3,tG⟩:=AY.out j sC;subst ek;have aF:s∈YS:=RX hs;obtain⟨p1,p2,p3⟩:=Nq.out s (.inr aF);have q0:=(HI.out.2.2.1.cell (p:=(kb,ko+j*4)) il).trans z0;have q1:=(HI.out.2.2.1.cell (p:=(kb,ko+j*4+1)) il).trans z1;have q2:=(HI.out.2.2.1.cell (p:=(kb,ko+j*4+2)) il).trans z2;have q3:=(HI.out.2.2.1.cell (p:=(kb,ko+j*4+3)) il).trans z3;have CC:=r9 (IH.out F s n k _ _ _ _ wr.drew p1 (fun i hi=>sV (hF i hi) HI.out.2.2.1.size) p3 p2 hn hk (zY.below HI.out.2.2.1 (fun _ h=>h) tG).drew);have HK:=r9 (vQ hs n k);have SX:Hid (∀w',But (fun i=>(RI ja j jc).ownBlock=OK i) wr w'->w' ((w:Nat)+1+1,3)=OK (.slice ja j jc)/\w' (w,3)=OK (.slice (kb,ko) YS.length iZ)/\w' (kb,ko+j*4)=str s1/\w' (kb,ko+j*4+1)=OK (.int RD v1)/\w' (kb,ko+j*4+2)=OK (.slice p4 m4 d4)/\w' (kb,ko+j*4+3)=OK (.slice p5 m5 d5)):=by
        show ∀w',_->_;intro w' sA;have key:∀ {p:Addr} {u:Value},p.block<w+1+1->wr.cell? p=u->w'.cell? p=u:=fun hp hu=>(sA.cell (sK wr _ hu) (fun e=>by have h1:=HI.out.1.fr _ e;omega)).trans hu;exact⟨(sA.cell (sK wr _ y3) HI.out.1.not).trans y3,key (show (w:Nat)<_ by omega) m3,key (show kb<_ by omega) q0,key (show kb<_ by omega) q1,key (show kb<_ by omega) q2,key (show kb<_ by omega) q3⟩
       have oP:j+1<=maxLen:=by unfold maxLen;omega
       have aI:(j+1)*72<=140737488355328:=by omega
       clear tG hs aF z0 z1 z2 z3 p1 p2 p3;go_wp2_with fail
       refine rS (fun w'=>But (fun i=>(RI ja j jc).ownBlock=OK i) wr w') (fun i=>i == 13) ((But.refl _ wr).drew) fun sP=>?_;refine tC [0,1,2,3,4,5,6,7,8] sP ?_;iterate 9 (refine tl (fun w' sL=>SX.out w' sL) ?_)
       refine tz ?_;(refine on 9 ?_;intro o ho K' hK;simp at ho;subst ho;go_simp);go_at_call 42;(with_reducible refine CC.out.mono ?_);rintro Fu w6 ⟨s6,v6,f1,u1,d1,f2,u2,d2,rfl,sM,iU⟩;have aL:No wr w6:=(Below.drew (sQ _ _)).trans sM;have aK:Hid (But (fun i=>(RI ja j jc).ownBlock=OK i) wr w6):=But.ofBelow aL;have tM:=HI.out.1.own6 aL (.cells #[s6,.int RD v6,.slice f1 u1 d1,.slice f2 u2 d2] 53);have H6:=r9 (r_ aL iU);clear sM iU aL;(refine hK.out _ _ (fun _=>aK.out) ?_;clear hK K';try simp only[pQ,pN,pZ,pS]);refine oC 10 (aK.out.alloc _) ?_;(refine on 11 ?_;intro o ho K' hK;simp at ho;subst ho);refine zL (by rfl) _ _ _ (by rfl) 53 (.agg #[str [],.int RD 0,(),()]) 4 72 SN Tryz.infoN rfl (by decide) (.slice ja j jc) j us (by rfl) tM _ 1 [s6,.int RD v6,.slice f1 u1 d1,.slice f2 u2 d2] (by rfl) (zz.lit4 #[str s6,.int RD v6,.slice f1 u1 d1,.slice f2 u2 d2] rfl (by simp[str,R4]) _ rfl) oP aI ?_;intro a' c' w7 sj sH sS;(refine hK.out _ _ (fun _=>(aK.out.alloc _).trans sH) ?_;clear hK K';try simp only[pQ,pN,pZ,pS]);have aB:=HI.out.1.cell7 H6.out.1 sH;have i9:w7 ((w:Nat)+1+1,3)=OK (.slice ja j jc)/\w7.frozen? ((w:Nat)+1+1,3)=false:=⟨by simp[RE,aB],by simp[RO,aB]⟩;obtain⟨CU,ll⟩:=i9;have Dd:=r9 aB;clear aB;refine oC 12 ((aK.out.alloc _).trans sH) ?_;refine oB 13 (fun h=>by simp at h) ?_;refine zX (by kernel_rfl) (RQ ?_) _;have hX:=HI.out.1.next (fun i h=>by have:=hF i h;omega) (w8:=w7.setCell ((w:Nat)+1+1,3) (.slice a' (j+1) c')) H6.out.1 H6.out.2 sj sH sS (by rw[zT Dd.out];rfl) (uH _ _ _ _);have ia:zp (zt (YS.take j) n k)++kU (kV s n k)=zp (zt (YS.take (j+1)) n k):=by rw[HK.out,qG];simp[zp]
       rw[ia]at hX;have HN:=r9 hX;have IZ:=r9 (Ll.out.next (w8:=w7.setCell ((w:Nat)+1+1,3) (.slice a' (j+1) c')) H6.out.1 sH sS (uH _ _ _ _));clear hX ia sj sH sS sP tM CU ll;go_wp2_with fail
       go_roundw
       case rel=>exact⟨j+1,_,_,by omega,by go_num,HN.out,IZ.out⟩
       case measure=>simp[intOf];omega
      ·obtain rfl:j=YS.length:=by omega
       have NR:z9 ((w:Nat)+1) 0 () () wr:=(HI.out.1.below.block _ (by omega)).trans aU.out.2.2.1;obtain⟨k0,k1,k2,k3,_,kf⟩:=NR.cells;have kf0:=kf 0;have Ow:=kf 1;have kf2:=kf 2;have kf3:=kf 3;clear kf;go_wp2_with fail
       obtain⟨Z,hZ,tm,tp,tf,aQ,Gb,Fb⟩:=NR.store (str []) (.int RD (((L:Nat):Int))) (.slice ga KS.length gc) (.slice ja YS.length jc);rw[<- hZ];refine bodyPost_ret (v:=.agg #[str [],.int RD (((L:Nat):Int)),.slice ga KS.length gc,.slice ja YS.length jc]) (by simp[results,Vk,go_sem,tm,tp,tf,aQ]) rfl ?_;refine⟨_,_,_,_,_,_,_,_,rfl,Gb _ _ HI.out.2.2.1 (by omega),?_⟩;have tt:=HI.out.1.sl;rw[R8]at tt;rw[HE.out,if_neg (fun h=>hv h.2)];have hne:∀i,(F i\/(w:Nat)+1+1<i)->i≠(w:Nat)+1:=fun i h=>by rcases h with h|h;have:=hF i h;omega;omega
       have hP:∀i,(F i\/(w:Nat)+1+1<i)->i≠(w:Nat)+1+1:=fun i h=>by rcases h with h|h;have:=hF i h;omega;omega
       refine zQ.2 ⟨_,_,rfl,zC.2 rfl,zQ.2 ⟨_,_,rfl,zC.2 (by first | rfl | simp),zQ.2 ⟨_,_,rfl,?_,zQ.2 ⟨_,_,rfl,?_,zE.2 rfl⟩⟩⟩⟩
       ·exact(Rep.keep fun i x h hx=>⟨h.elim .inl (fun h=>.inr (by omega)),Fb i x (hne i h) (Ll.out.keep.2 i x (hP i h) hx)⟩).1 _ _ Ln.out
       ·exact(Rep.keep fun i x h hx=>⟨h.elim .inl (fun h=>.inr (by omega)),Fb i x (hne i h) hx⟩).1 _ _ tt
 ·go_enter VM,VD;go_upto_region 2 with (fail)
  rw[<- tW];clear tW;obtain⟨o0,o1,o2,o3⟩:=kD bO;obtain⟨r0,r1,r2,r3⟩:=kD bB;have of1:W0.frozen? ((w:Nat)+1+1,1)=false:=by simp only[RO,bO];rfl
  have FT:(A == [])=false:=by rw[beq_eq_false_iff_ne];exact Lc
  have Cx:A.isEmpty=false:=by cases A with | nil=>exact absurd rfl Lc | cons a b=>rfl
  go_upto_region 4 with (fail)
  obtain⟨W,hW⟩:=zzN (W0);rw[hW];have hO:W.heap[(w:Nat)+1+1]?=OK (.cells #[A,.int RD ((L:Nat):Int),(),()] 53 (0,0)):=by
   rw[<- hW];exact H0.out.2.2.2.2
  have DP:Below ((w:Nat)+1+1) W0 W:=by rw[<- hW];exact sQ _ _
  have I1:=H0.out.2.1;have iV:(w:Nat)+1+1<(W:Nat):=by have:=DP.size;omega
  have tX:=r9 (r_ (H0.out.1.trans (DP.mono (by omega))) (r_ ((DP.block _ (by omega)).trans H0.out.2.2.1) (r_ ((DP.block _ (by omega)).trans H0.out.2.2.2.1) hO)));clear hW hO DP bB bR bO;obtain⟨_,_,Ou,Ot⟩:=kD tX.out.2.1;go_wp2_with fail
  go_loopw [8] (fun i wr=>∃(j:Nat) (sv:Value) (us:List Value),j<=KS.length/\i=.int RD j/\jl F W ((w:Nat)+1+1) (fun sv=>.cells #[A,.int RD ((L:Nat):Int),sv,()] 53 (0,0)) 53 4 j (zp (zt (KS.take j) n k)) sv us wr) (fun i _=>KS.length-(intOf i).toNat)
  case atStart=>exact⟨0,_,_,R6 _,rfl,by simpa[zt,zp] using jl.start (F0:=F) (o:=fun sv=>.cells #[A,.int RD ((L:Nat):Int),sv,()] 53 (0,0)) tX.out.2.2.2⟩
  case round=>
   rename_i wr;obtain⟨j,sv,us,hj,rfl,sN⟩:=hrel;obtain⟨ga,gc,e⟩:=sN.slice;subst e;have sW:wr.heap[(w:Nat)+1+1]?=OK (.cells #[A,.int RD ((L:Nat):Int),.slice ga j gc,()] 53 (0,0)):=sN.blk;have tY:No w wr:=tX.out.1.trans (sN.below.mono (by omega));obtain⟨y0,y1,y2,y3⟩:=kD sW;have az:wr.heap[(w:Nat)]?=OK (.cells #[A,(L:Int),.slice ie KS.length iq,.slice i6 YS.length iZ] 53 (0,0)):=(sN.below.block _ (by omega)).trans tX.out.2.1;obtain⟨_,_,m2,m3⟩:=kD az;have HI:=r9 (r_ sN (r_ sW (r_ tY az)));clear sN sW tY az;by_cases sC:j<KS.length
   ·have tB:(j:Int)<(KS.length:Int):=by omega
    obtain⟨kb,ko,s1,v1,p4,m4,d4,p5,m5,d5,s,ek,il,hs,z0,z1,z2,z3,tG⟩:=AK.out j sC;subst ek;have aF:s∈KS:=RX hs;obtain⟨p1,p2,p3⟩:=Nq.out s (.inl aF);have q0:=(HI.out.2.2.1.cell (p:=(kb,ko+j*4)) il).trans z0;have q1:=(HI.out.2.2.1.cell (p:=(kb,ko+j*4+1)) il).trans z1;have q2:=(HI.out.2.2.1.cell (p:=(kb,ko+j*4+2)) il).trans z2;have q3:=(HI.out.2.2.1.cell (p:=(kb,ko+j*4+3)) il).trans z3;have CC:=r9 (IH.out F s n k _ _ _ _ wr.drew p1 (fun i hi=>sV (hF i hi) HI.out.2.2.1.size) p3 p2 hn hk (zY.below HI.out.2.2.1 (fun _ h=>h) tG).drew);have HK:=r9 (vQ hs n k);have SX:Hid (∀w',But (fun i=>(RI ga j gc).ownBlock=OK i) wr w'->w' ((w:Nat)+1+1,2)=OK (.slice ga j gc)/\w' (w,2)=OK (.slice (kb,ko) KS.length iq)/\w' (kb,ko+j*4)=str s1/\w' (kb,ko+j*4+1)=OK (.int RD v1)/\w' (kb,ko+j*4+2)=OK (.slice p4 m4 d4)/\w' (kb,ko+j*4+3)=OK (.slice p5 m5 d5)):=by
     show ∀w',_->_;intro w' sA;have key:∀ {p:Addr} {u:Value},p.block<w+1+1->wr.cell? p=u->w'.cell? p=u:=fun hp hu=>(sA.cell (sK wr _ hu) (fun e=>by have h1:=HI.out.1.fr _ e;omega)).trans hu;exact⟨(sA.cell (sK wr _ y2) HI.out.1.not).trans y2,key (show (w:Nat)<_ by omega) m2,key (show kb<_ by omega) q0,key (show kb<_ by omega) q1,key (show kb<_ by omega) q2,key (show kb<_ by omega) q3⟩
    have oP:j+1<=maxLen:=by unfold maxLen;omega
    have aI:(j+1)*72<=140737488355328:=by omega
    clear tG hs aF z0 z1 z2 z3 p1 p2 p3;go_wp2_with fail
    refine rS (fun w'=>But (fun i=>(RI ga j gc).ownBlock=OK i) wr w') (fun i=>i == 13) ((But.refl _ wr).drew) fun sP=>?_;refine tC [0,1,2,3,4,5,6,7,8] sP ?_;iterate 9 (refine tl (fun w' sL=>SX.out w' sL) ?_)
    refine tz ?_;(refine on 9 ?_;intro o ho K' hK;simp at ho;subst ho;go_simp);go_at_call 42;(with_reducible refine CC.out.mono ?_);rintro Fu w6 ⟨s6,v6,f1,u1,d1,f2,u2,d2,rfl,sM,iU⟩;have aL:No wr w6:=(Below.drew (sQ _ _)).trans sM;have aK:Hid (But (fun i=>(RI ga j gc).ownBlock=OK i) wr w6):=But.ofBelow aL;have tM:=HI.out.1.own6 aL (.cells #[s6,.int RD v6,.slice f1 u1 d1,.slice f2 u2 d2] 53);have H6:=r9 (r_ aL iU);clear sM iU aL;(refine hK.out _ _ (fun _=>aK.out) ?_;clear hK K';try simp only[pQ,pN,pZ,pS]);refine oC 10 (aK.out.alloc _) ?_;(refine on 11 ?_;intro o ho K' hK;simp at ho;subst ho);refine zL (by rfl) _ _ _ (by rfl) 53 (.agg #[str [],.int RD 0,(),()]) 4 72 SN Tryz.infoN rfl (by decide) (.slice ga j gc) j us (by rfl) tM _ 1 [s6,.int RD v6,.slice f1 u1 d1,.slice f2 u2 d2] (by rfl) (zz.lit4 #[str s6,.int RD v6,.slice f1 u1 d1,.slice f2 u2 d2] rfl (by simp[str,R4]) _ rfl) oP aI ?_;intro a' c' w7 sj sH sS;(refine hK.out _ _ (fun _=>(aK.out.alloc _).trans sH) ?_;clear hK K';try simp only[pQ,pN,pZ,pS]);have aB:=HI.out.1.cell7 H6.out.1 sH;have i9:w7 ((w:Nat)+1+1,2)=OK (.slice ga j gc)/\w7.frozen? ((w:Nat)+1+1,2)=false:=⟨by simp[RE,aB],by simp[RO,aB]⟩;obtain⟨CU,ll⟩:=i9;have Dd:=r9 aB;clear aB;refine oC 12 ((aK.out.alloc _).trans sH) ?_;refine oB 13 (fun h=>by simp at h) ?_;refine zX (by kernel_rfl) (RQ ?_) _;have hX:=HI.out.1.next (fun i h=>by have:=hF i h;omega) (w8:=w7.setCell ((w:Nat)+1+1,2) (.slice a' (j+1) c')) H6.out.1 H6.out.2 sj sH sS (by rw[zT Dd.out];rfl) (uH _ _ _ _);have ia:zp (zt (KS.take j) n k)++kU (kV s n k)=zp (zt (KS.take (j+1)) n k):=by rw[HK.out,qG];simp[zp]
    rw[ia]at hX;have HN:=r9 hX;clear hX ia sj sH sS sP tM CU ll;go_wp2_with fail
    go_roundw
    case rel=>exact⟨j+1,_,_,by omega,by go_num,HN.out⟩
    case measure=>simp[intOf];omega
   ·obtain rfl:j=KS.length:=by omega
    have tt:=HI.out.1.sl;rw[R8]at tt;have Ln:=r9 tt;have aU:=r9 (r_ HI.out.2.2.1 (r_ HI.out.2.2.2 (r_ ((HI.out.1.below.block _ (by omega)).trans tX.out.2.2.1) HI.out.2.1)));have Al:(w:Nat)+1+1<(wr:Nat):=zZ HI.out.2.1;obtain⟨V,hV⟩:=zzM (wr);rw[<- hV]at Ln aU m2 m3 y2 y3 Al ⊢;clear tt y0 y1 HI hV Ou Ot;go_wp2_with fail
    go_loopw [9] (fun i wr=>∃(j:Nat) (sv:Value) (us:List Value),j<=YS.length/\i=.int RD j/\jl F V ((w:Nat)+1+1) (fun sv=>.cells #[A,.int RD ((L:Nat):Int),.slice ga KS.length gc,sv] 53 (0,0)) 53 4 j (zp (zt (YS.take j) n k)) sv us wr/\Keeps V ((w:Nat)+1+1) sv wr) (fun i _=>YS.length-(intOf i).toNat)
    case atStart=>exact⟨0,_,_,R6 _,rfl,by simpa[zt,zp] using jl.start (F0:=F) (o:=fun sv=>.cells #[A,.int RD ((L:Nat):Int),.slice ga KS.length gc,sv] 53 (0,0)) aU.out.2.2.2,⟨⟨sZ _,fun i x _ hx=>hx⟩,fun g hg=>by simp[RM]at hg⟩⟩
    case round=>
     rename_i wr;clear m2 m3 y2 y3;obtain⟨j,sv,us,hj,rfl,sN,aX⟩:=hrel;obtain⟨ja,jc,e⟩:=sN.slice;subst e;have sW:wr.heap[(w:Nat)+1+1]?=OK (.cells #[A,.int RD ((L:Nat):Int),.slice ga KS.length gc,.slice ja j jc] 53 (0,0)):=sN.blk;have tY:No w wr:=aU.out.1.trans (sN.below.mono (by omega));obtain⟨y0,y1,y2,y3⟩:=kD sW;have az:wr.heap[(w:Nat)]?=OK (.cells #[A,(L:Int),.slice ie KS.length iq,.slice i6 YS.length iZ] 53 (0,0)):=(sN.below.block _ (by omega)).trans aU.out.2.1;obtain⟨_,_,m2,m3⟩:=kD az;have HI:=r9 (r_ sN (r_ sW (r_ tY az)));clear sN sW tY az;have Ll:=r9 aX;clear aX;by_cases sC:j<YS.length
     ·have tB:(j:Int)<(YS.length:Int):=by omega
      obtain⟨kb,ko,s1,v1,p4,m4,d4,p5,m5,d5,s,ek,il,hs,z0,z1,z2,z3,tG⟩:=AY.out j sC;subst ek;have aF:s∈YS:=RX hs;obtain⟨p1,p2,p3⟩:=Nq.out s (.inr aF);have q0:=(HI.out.2.2.1.cell (p:=(kb,ko+j*4)) il).trans z0;have q1:=(HI.out.2.2.1.cell (p:=(kb,ko+j*4+1)) il).trans z1;have q2:=(HI.out.2.2.1.cell (p:=(kb,ko+j*4+2)) il).trans z2;have q3:=(HI.out.2.2.1.cell (p:=(kb,ko+j*4+3)) il).trans z3;have CC:=r9 (IH.out F s n k _ _ _ _ wr.drew p1 (fun i hi=>sV (hF i hi) HI.out.2.2.1.size) p3 p2 hn hk (zY.below HI.out.2.2.1 (fun _ h=>h) tG).drew);have HK:=r9 (vQ hs n k);have SX:Hid (∀w',But (fun i=>(RI ja j jc).ownBlock=OK i) wr w'->w' ((w:Nat)+1+1,3)=OK (.slice ja j jc)/\w' (w,3)=OK (.slice (kb,ko) YS.length iZ)/\w' (kb,ko+j*4)=str s1/\w' (kb,ko+j*4+1)=OK (.int RD v1)/\w' (kb,ko+j*4+2)=OK (.slice p4 m4 d4)/\w' (kb,ko+j*4+3)=OK (.slice p5 m5 d5)):=by
       show ∀w',_->_;intro w' sA;have key:∀ {p:Addr} {u:Value},p.block<w+1+1->wr.cell? p=u->w'.cell? p=u:=fun hp hu=>(sA.cell (sK wr _ hu) (fun e=>by have h1:=HI.out.1.fr _ e;omega)).trans hu;exact⟨(sA.cell (sK wr _ y3) HI.out.1.not).trans y3,key (show (w:Nat)<_ by omega) m3,key (show kb<_ by omega) q0,key (show kb<_ by omega) q1,key (show kb<_ by omega) q2,key (show kb<_ by omega) q3⟩
      have oP:j+1<=maxLen:=by unfold maxLen;omega
      have aI:(j+1)*72<=140737488355328:=by omega
      clear tG hs aF z0 z1 z2 z3 p1 p2 p3;go_wp2_with fail
      refine rS (fun w'=>But (fun i=>(RI ja j jc).ownBlock=OK i) wr w') (fun i=>i == 13) ((But.refl _ wr).drew) fun sP=>?_;refine tC [0,1,2,3,4,5,6,7,8] sP ?_;iterate 9 (refine tl (fun w' sL=>SX.out w' sL) ?_)
      refine tz ?_;(refine on 9 ?_;intro o ho K' hK;simp at ho;subst ho;go_simp);go_at_call 42;(with_reducible refine CC.out.mono ?_);rintro Fu w6 ⟨s6,v6,f1,u1,d1,f2,u2,d2,rfl,sM,iU⟩;have aL:No wr w6:=(Below.drew (sQ _ _)).trans sM;have aK:Hid (But (fun i=>(RI ja j jc).ownBlock=OK i) wr w6):=But.ofBelow aL;have tM:=HI.out.1.own6 aL (.cells #[s6,.int RD v6,.slice f1 u1 d1,.slice f2 u2 d2] 53);have H6:=r9 (r_ aL iU);clear sM iU aL;(refine hK.out _ _ (fun _=>aK.out) ?_;clear hK K';try simp only[pQ,pN,pZ,pS]);refine oC 10 (aK.out.alloc _) ?_;(refine on 11 ?_;intro o ho K' hK;simp at ho;subst ho);refine zL (by rfl) _ _ _ (by rfl) 53 (.agg #[str [],.int RD 0,(),()]) 4 72 SN Tryz.infoN rfl (by decide) (.slice ja j jc) j us (by rfl) tM _ 1 [s6,.int RD v6,.slice f1 u1 d1,.slice f2 u2 d2] (by rfl) (zz.lit4 #[str s6,.int RD v6,.slice f1 u1 d1,.slice f2 u2 d2] rfl (by simp[str,R4]) _ rfl) oP aI ?_;intro a' c' w7 sj sH sS;(refine hK.out _ _ (fun _=>(aK.out.alloc _).trans sH) ?_;clear hK K';try simp only[pQ,pN,pZ,pS]);have aB:=HI.out.1.cell7 H6.out.1 sH;have i9:w7 ((w:Nat)+1+1,3)=OK (.slice ja j jc)/\w7.frozen? ((w:Nat)+1+1,3)=false:=⟨by simp[RE,aB],by simp[RO,aB]⟩;obtain⟨CU,ll⟩:=i9;have Dd:=r9 aB;clear aB;refine oC 12 ((aK.out.alloc _).trans sH) ?_;refine oB 13 (fun h=>by simp at h) ?_;refine zX (by kernel_rfl) (RQ ?_) _;have hX:=HI.out.1.next (fun i h=>by have:=hF i h;omega) (w8:=w7.setCell ((w:Nat)+1+1,3) (.slice a' (j+1) c')) H6.out.1 H6.out.2 sj sH sS (by rw[zT Dd.out];rfl) (uH _ _ _ _);have ia:zp (zt (YS.take j) n k)++kU (kV s n k)=zp (zt (YS.take (j+1)) n k):=by rw[HK.out,qG];simp[zp]
      rw[ia]at hX;have HN:=r9 hX;have IZ:=r9 (Ll.out.next (w8:=w7.setCell ((w:Nat)+1+1,3) (.slice a' (j+1) c')) H6.out.1 sH sS (uH _ _ _ _));clear hX ia sj sH sS sP tM CU ll;go_wp2_with fail
      go_roundw
      case rel=>exact⟨j+1,_,_,by omega,by go_num,HN.out,IZ.out⟩
      case measure=>simp[intOf];omega
     ·obtain rfl:j=YS.length:=by omega
      have NR:z9 ((w:Nat)+1) 0 () () wr:=(HI.out.1.below.block _ (by omega)).trans aU.out.2.2.1;obtain⟨k0,k1,k2,k3,_,kf⟩:=NR.cells;have kf0:=kf 0;have Ow:=kf 1;have kf2:=kf 2;have kf3:=kf 3;clear kf;go_wp2_with fail
      obtain⟨Z,hZ,tm,tp,tf,aQ,Gb,Fb⟩:=NR.store (str A) (.int RD (((L:Nat):Int))) (.slice ga KS.length gc) (.slice ja YS.length jc);rw[<- hZ];refine bodyPost_ret (v:=.agg #[A,.int RD (((L:Nat):Int)),.slice ga KS.length gc,.slice ja YS.length jc]) (by simp[results,Vk,go_sem,tm,tp,tf,aQ]) rfl ?_;refine⟨_,_,_,_,_,_,_,_,rfl,Gb _ _ HI.out.2.2.1 (by omega),?_⟩;have tt:=HI.out.1.sl;rw[R8]at tt;rw[HE.out,if_neg (fun h=>Lc h.1)];have hne:∀i,(F i\/(w:Nat)+1+1<i)->i≠(w:Nat)+1:=fun i h=>by rcases h with h|h;have:=hF i h;omega;omega
      have hP:∀i,(F i\/(w:Nat)+1+1<i)->i≠(w:Nat)+1+1:=fun i h=>by rcases h with h|h;have:=hF i h;omega;omega
      refine zQ.2 ⟨_,_,rfl,zC.2 rfl,zQ.2 ⟨_,_,rfl,zC.2 (by first | rfl | simp),zQ.2 ⟨_,_,rfl,?_,zQ.2 ⟨_,_,rfl,?_,zE.2 rfl⟩⟩⟩⟩
      ·exact(Rep.keep fun i x h hx=>⟨h.elim .inl (fun h=>.inr (by omega)),Fb i x (hne i h) (Ll.out.keep.2 i x (hP i h) hx)⟩).1 _ _ Ln.out
      ·exact(Rep.keep fun i x h hx=>⟨h.elim .inl (fun h=>.inr (by omega)),Fb i x (hne i h) hx⟩).1 _ _ tt
theorem shift_any (M:Nat):ShSaid M:=by
 induction M with
 |zero=>exact fun F b n k b0 b1 b2 b3 w h=>by have:=kQ b;omega
 |succ M ih=>exact sh_step M ih
end Go.Proofs.YtnfenijemllkbaaGreatDoor

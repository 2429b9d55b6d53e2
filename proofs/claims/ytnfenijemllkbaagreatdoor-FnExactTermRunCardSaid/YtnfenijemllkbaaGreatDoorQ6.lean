/- Walks. -/
import Derived.Maps.Own
import Derived.LaidEql
import Derived.Stop.Asserts
import Derived.RowKitTokens
import Derived.Test.YtnfenijemllkbaaGreatDoorQ5
set_option linter.unusedVariables false
set_option linter.unusedSimpArgs false
set_option maxHeartbeats 8000000
set_option maxRecDepth 100000
open Go.Proofs.YtnfenijemllkbaaGreatDoor renaming ev->Zq
open Option renaming none->U
open Option renaming some->OK
open Go.IntKind renaming i64->RD
open Go.Extern.ReflectliteType renaming method->T_,typeOf->T9
open Go.Maps renaming Keyed->Xz,atKey_put_other->Uy,atKey_put_same->UJ
open Go.Proofs.Tryz renaming func121->WG,func135->WH,func51->Xb,func52->Xc,func78->Ux,ntmps121->Wo,ntmps135->Wp,ntmps51->WE,ntmps52->WF,ntmps78->Uj,prog->RG,underlying113->VV,underlying127->VW,underlying157->TV,underlying189->S9,underlying3->Uf,underlying9->V9
open Go.Value renaming oneCell'->R4,ownBlock->RM,pointer->Wf,slice->RI
open Go.WideAt renaming IsKeyLit->U5
open Go.World renaming cell?->RE,frozen?->RO,ownsRow_nil->Sf,setCell->Ts
open List renaming cons_append->R5,getElem?_append_left->Sv,getElem?_append_right->Sr,getElem?_cons_succ->RW,getElem?_drop->SA,getElem?_eq_some_iff->RR,getElem?_map->S5,getElem?_take->Su,length->Td,length_append->RL,length_cons->RU,length_pos_iff->Tg,length_take->Sy,map_append->Vj,mem_cons->Sc,mem_of_getElem?->RX,not_mem_nil->Vc,take_add_one->Sd,take_append_drop->R7,take_length->R8
open Nat renaming add_sub_cancel_left->VB,min_eq_left->UQ,sub_self->Uz,zero_le->R6
open Option renaming bind_eq_bind->RJ,bind_eq_some_iff->RH,bind_some->RF,map_eq_some_iff->RP
namespace Go.Proofs.YtnfenijemllkbaaGreatDoor
open Go.RowKit
theorem rQ (s:Bs)(w:World)(hl:Lim s.length) :
 Calls RG 78 #[s] w fun en w'=>en=.returned (.bool (qi s))/\w'=w:=by
 have Ar:=hl.le;by_cases h0:s.length=0
 ·obtain rfl:s=[]:=List.eq_nil_of_length_eq_zero h0;clear h0;go_enter Ux,Uj;go_wp2_with fail
  go_ret;exact⟨rfl,rfl⟩
 have hne:(s == [])=false:=by rw[beq_eq_false_iff_ne];rintro rfl;exact h0 rfl
 have Cx:s.isEmpty=false:=by rw[List.isEmpty_eq_false_iff];rintro rfl;exact h0 rfl
 have iQ:0<s.length:=by omega
 clear h0;by_cases h3:3<s.length
 ·have HN:=r9 (name_no1 h3);go_enter Ux,Uj;go_wp2_with fail
  go_ret;exact⟨by rw[HN.out];rfl,rfl⟩
 have B:=xD iQ;by_cases hA:s[0].toNat<120
 ·have HN:=r9 (dI iQ (.inl hA));have b1:((((⟨s.toArray⟩:ByteArray)[0]'(ke iQ)).toNat:Int))<120:=by rw[B];omega
  clear B hA;go_enter Ux,Uj;go_wp2_with fail
  go_ret;exact⟨by rw[HN.out];rfl,rfl⟩
 by_cases hB:122<s[0].toNat
 ·have HN:=r9 (dI iQ (.inr hB));have b1:(122:Int)<((((⟨s.toArray⟩:ByteArray)[0]'(ke iQ)).toNat:Int)):=by rw[B];omega
  have b2:¬((((⟨s.toArray⟩:ByteArray)[0]'(ke iQ)).toNat:Int))<120:=by omega
  clear B hA hB;go_enter Ux,Uj;go_wp2_with fail
  go_ret;exact⟨by rw[HN.out];rfl,rfl⟩
 have b1:¬(122:Int)<((((⟨s.toArray⟩:ByteArray)[0]'(ke iQ)).toNat:Int)):=by rw[B];omega
 have b2:¬((((⟨s.toArray⟩:ByteArray)[0]'(ke iQ)).toNat:Int))<120:=by rw[B];omega
 have HA:=r9 (r_ hA hB);clear B hA hB;go_enter Ux,Uj;go_wp2_with fail
 clear b1 b2
 go_loop [3] (fun i=>∃k:Nat,1<=k/\k<=s.length/\i=.int RD k/\∀j,1<=j->j<k->∀(hj:j<s.length),48<=s[j].toNat/\s[j].toNat<=57) (fun i=>s.length-(intOf i).toNat)
 case atStart=>exact⟨1,sZ _,iQ,rfl,fun j h1 h2=>by omega⟩
 case round=>
  obtain⟨k,Jd,hk,rfl,ah⟩:=hrel;have HR:=r9 ah;clear ah;by_cases sC:k<s.length
  ·have B:=xD sC;by_cases hA:s[k].toNat<48
   ·have HN:=r9 (dL Jd sC (.inl hA));have b1:((((⟨s.toArray⟩:ByteArray)[k]'(ke sC)).toNat:Int))<48:=by rw[B];omega
    clear B hA;go_wp2_with fail
    go_ret;exact⟨by rw[HN.out];rfl,rfl⟩
   by_cases hB:57<s[k].toNat
   ·have HN:=r9 (dL Jd sC (.inr hB));have b1:(57:Int)<((((⟨s.toArray⟩:ByteArray)[k]'(ke sC)).toNat:Int)):=by rw[B];omega
    have b2:¬((((⟨s.toArray⟩:ByteArray)[k]'(ke sC)).toNat:Int))<48:=by omega
    clear B hA hB;go_wp2_with fail
    go_ret;exact⟨by rw[HN.out];rfl,rfl⟩
   have b1:¬(57:Int)<((((⟨s.toArray⟩:ByteArray)[k]'(ke sC)).toNat:Int)):=by rw[B];omega
   have b2:¬((((⟨s.toArray⟩:ByteArray)[k]'(ke sC)).toNat:Int))<48:=by rw[B];omega
   have HB:=r9 (r_ hA hB);clear B hA hB;go_wp2_with fail
   go_round
   case rel=>exact ⟨k+1,by omega,by omega,by go_num,fun j h1 h2 hj=>by
    by_cases e:j=k
    ·subst e;have:=HB.out;omega
    ·exact HR.out j h1 (by omega) hj⟩
   case measure=>simp[intOf];omega
  ·go_wp2_with fail
   go_ret;have HA':=HA.out;exact⟨by rw[name_yes iQ (by omega) (by omega) (fun j h1 hj=>HR.out j h1 (by omega) hj)];rfl,rfl⟩
def jT:Tm->DV
 |.nm x=>.ptr 115 [.val (str []),.val (str x),.val (.pointer U),.sl 64 1 0 []]
 |.wd w=>.ptr 115 [.val (str w),.val (str []),.val (.pointer U),.sl 64 1 0 []]
 |.lam x k t=>.ptr 115 [.val (str vX),.val (str x),jk k,.sl 64 1 1 [jT t]]
 |.app m n=>.ptr 115 [.val (str uV),.val (str []),.val (.pointer U),.sl 64 1 2 [jT m,jT n]]
 |.ite l m n=>.ptr 115 [.val (str ifW),.val (str []),.val (.pointer U),.sl 64 1 3 [jT l,jT m,jT n]]
theorem qO {F:Nat->Prop}{w:World}{t:Tm}{v:Value}(h:Rep F w (jT t) v):∃a,v=.pointer (OK ⟨a,0,U⟩):=by
 cases t <;> (rw[jT,jx]at h;obtain⟨a,c,h,_⟩:=h;exact⟨a,h⟩)
def vp (sc:Nat)(c:List Value)(e:TypeId)(w:World)(o:Option (Tm×Bs))(en:Ending)(w':World):Prop:=
 ∃v r',en=.returned v/\But (· = sc) w w'/\qL sc c e r' w'/\(o=U->v=.pointer U)/\(∀t rest,o=OK (t,rest)->r'=rest/\Rep (w<=·) w' (jT t) v)
theorem vp.no {sc:Nat}{c:List Value}{e:TypeId}{w:World}{r:Bs}{w':World}{o:Option (Tm×Bs)}(ho:o=U)(hb:But (· = sc) w w')(hs:qL sc c e r w'):vp sc c e w o (.returned (.pointer U)) w':=
 ⟨_,r,rfl,hb,hs,fun _=>rfl,fun _ _ h=>by rw[ho]at h;simp at h⟩
theorem vp.yes {sc:Nat}{c:List Value}{e:TypeId}{w:World}{r:Bs}{w':World}{o:Option (Tm×Bs)}{t:Tm}{v:Value}(ho:o=OK (t,r))(hb:But (· = sc) w w')(hs:qL sc c e r w')(hv:Rep (w<=·) w' (jT t) v):vp sc c e w o (.returned v) w':=
 ⟨_,r,rfl,hb,hs,fun h=>by rw[ho]at h;simp at h,fun _ _ h=>by rw[ho]at h;simp at h;obtain⟨rfl,rfl⟩:=h;exact⟨rfl,hv⟩⟩
def eW (sc:Nat)(c:List Value)(e:TypeId)(d:Nat):Prop:=∀ (r:Bs) (w:World),qL sc c e r w->Lim r.length ->
    Calls RG 51 #[sc,.int RD d] w (vp sc c e w (jG d r))
theorem u_ {H:Type}{P:Program}(w:World){ops:Array Oper}{rest:List Oper}{o:Oper}{a:Act}{Q:Exit->Act->World->Prop}(hg:o.guard=U)(m x v:Operand)(t:TypeId)(Mp:o.op=Op.insert t m x v)(k e:TypeId)(K:Xz P k)(ht:P.underlying t=OK (.map k e))(R:Value->Option (DataW H×List MemPlace))(b n:Nat)(D:DataW H)(hm:a.eval m=.map (OK b))(si:w.ownsMap P k R b n D)(hn:n<maxLen)(key val:Value)(kl:Lit)(hx:a.eval x=key)(hv:a.eval v=val)(hkey:keyOf P k key=kl)(d:DataW H)(ps:List MemPlace)(G4:R val=OK (d,ps))(hK:∀w',w'.ownsMap P k R b (n+1) (D.put kl d)->w.grownBy w' (OK b)->wpList P ops Q rest (a.put o.dst undef) w') :
 wpList P ops Q (o::rest) a w:=by
 refine wpList_plain hg fun K' hK'=>?_;obtain⟨w',Hh,r1,r2⟩:=si.update K ht hn hkey G4;unfold Oper.wp;simp[execOp,Mp,hm,hx,hv,Hh,Result.andThen];exact hK' _ _ (hK w' r1 r2)
theorem many_at (s:Bs){H:Type}:((((DataW.map []:DataW H).put (.string vX) (.lit (.int RD 1))).put (.string uV) (.lit (.int RD 2))).put (.string ifW) (.lit (.int RD 3))).atKey (.string s) (.lit (.int RD 0))=.lit (.int RD (nh s:Nat)):=by
 have i0:Maps.IsMap (DataW.map []:DataW H):=Maps.isMap_empty;unfold nh;by_cases h3:s=ifW
 ·subst h3;rw[UJ ((i0.put _ _).put _ _) (by simp[U5]),if_neg (by decide),if_neg (by decide),if_pos rfl];rfl
 rw[Uy (by simpa using h3)];by_cases h2:s=uV
 ·subst h2;rw[UJ (i0.put _ _) (by simp[U5]),if_neg (by decide),if_pos rfl];rfl
 rw[Uy (by simpa using h2)];by_cases h1:s=vX
 ·subst h1;rw[UJ i0 (by simp[U5]),if_pos rfl];rfl
 rw[Uy (by simpa using h1),if_neg h1,if_neg h2,if_neg h3];rfl
theorem Tryz.lawS:Xz RG 9:=Maps.string_keyed V9
theorem Tryz.zeroI (w:World):(zeroValue 3).run RG w=.ok (.int RD 0) w:=by kernel_rfl
theorem keyS {s:Bs}(h:Lim s.length):keyOf RG 9 (str s)=OK (.string s):=by
 have:=WideMaps.keyOf_string_mk (P:=RG) V9 (s:=⟨s.toArray⟩) (by rw[gS];have:=h.le;unfold maxLen;omega);simpa using this
def uR (ob:Nat)(wd nm:Bs)(kv slv:Value)(w:World):Prop:=w.heap[ob]?=OK (.cells #[wd,nm,kv,slv] 115 (0,0))
theorem uR.cells {ob:Nat}{wd nm:Bs}{kv slv:Value}{w:World}(h:uR ob wd nm kv slv w):w ob=str wd/\w (ob,1)=str nm/\w (ob,2)=OK kv/\w (ob,3)=OK slv/\ob<(w:Nat)/\(∀o,w.frozen? ⟨ob,o,U⟩=false):=by
 have hl:=zZ h;unfold uR at h;exact⟨by simp[RE,h],by simp[RE,h],by simp[RE,h],by simp[RE,h],hl,fun o=>by simp[RO,h]⟩
theorem uR.put1 {ob:Nat}{wd nm u:Bs}{kv slv:Value}{w:World}(h:uR ob wd nm kv slv w):uR ob wd u kv slv (w.setCell (ob,1) (str u)):=by
 unfold uR;rw[zT h];rfl
theorem uR.put2 {ob:Nat}{wd nm:Bs}{kv slv u:Value}{w:World}(h:uR ob wd nm kv slv w):uR ob wd nm u slv (w.setCell (ob,2) u):=by
 unfold uR;rw[zT h];rfl
theorem uR.put3 {ob:Nat}{wd nm:Bs}{kv slv u:Value}{w:World}(h:uR ob wd nm kv slv w):uR ob wd nm kv u (w.setCell (ob,3) u):=by
 unfold uR;rw[zT h];rfl
theorem term_word (sc:Nat)(c:List Value)(e:TypeId)(d:Nat)(hd:d<=1000)(r:Bs)(w:World)(hs:qL sc c e r w)(hr:Lim r.length)(h1:hH [40] r) :
 Calls RG 51 #[sc,.int RD d] w (vp sc c e w (jG d r)):=by
 have hm:jG d r=if qi (zR r) then OK (.nm (zR r),zM r) else if js (zR r) then OK (.wd (zR r),zM r) else U:=by rw[jG.eq_def];simp only[h1.out]
 have HM:=r9 hm;clear hm;have Bb:Lim (zR r).length:=hr.mono (by have:=yr r;omega);go_enter Xb,WE;go_wp2_with fail
 refine(vo hs h1).mono ?_;rintro en w1 ⟨rfl,sX,iH⟩;go_wp2_with fail
 refine(wv _ _ _ _ _ iH hr).mono ?_;rintro en w2 ⟨rfl,sY,lR⟩;have hb:=sX.trans sY;clear sX sY iH hs h1;obtain⟨wd,Ju⟩:=zzM (zR r);rw[<- Ju]at HM Bb ⊢;clear Ju;go_wp2_with fail
 (with_reducible refine(rQ wd w2 Bb).mono ?_)
 rintro en w3 ⟨rfl,e3⟩;subst w3;cases hn:qi wd with
 | true =>
   have HN:=r9 hn;clear hn;go_wp2_with fail
   go_ret;refine vp.yes (t:=.nm wd) (r:=zM r) (by rw[HM.out,if_pos HN.out]) (hb.alloc _) (lR.alloc _) ?_;rw[jT,jx];exact⟨_,_,rfl,hb.size,zW _ _,zQ.2 ⟨_,_,rfl,zC.2 rfl,zQ.2 ⟨_,_,rfl,zC.2 rfl,zQ.2 ⟨_,_,rfl,zC.2 rfl,zQ.2 ⟨_,_,rfl,zv.2 ⟨rfl,U,0,rfl,sZ _,fun _=>rfl,.inl rfl⟩,zE.2 rfl⟩⟩⟩⟩⟩
 | false =>
   have HN:=r9 hn;clear hn;have leaf:∀x:UInt8,wd=[x]->js [x]=true->∀W,W=w2.alloc (.cells #[str [x],str [],.pointer U,()] 115)->vp sc c e w (jG d r) (.returned (.pointer (OK ⟨w2,0,U⟩))) W:=by
    intro x hx Jb W hW;subst hW;refine vp.yes (t:=.wd wd) (r:=zM r) (by rw[HM.out,if_neg (by rw[HN.out];decide),if_pos (by rw[hx];exact Jb)]) (hb.alloc _) (lR.alloc _) ?_;rw[jT,jx,hx];exact⟨_,_,rfl,hb.size,zW _ _,zQ.2 ⟨_,_,rfl,zC.2 rfl,zQ.2 ⟨_,_,rfl,zC.2 rfl,zQ.2 ⟨_,_,rfl,zC.2 rfl,zQ.2 ⟨_,_,rfl,zv.2 ⟨rfl,U,0,rfl,sZ _,fun _=>rfl,.inl rfl⟩,zE.2 rfl⟩⟩⟩⟩⟩
   have LEAF:=r9 leaf;clear leaf;by_cases c1:wd=[116]
   ·have HC:=r9 c1;rw[c1];clear c1 Bb;go_wp2_with fail
    go_ret;exact LEAF.out _ HC.out (by decide) _ rfl
   by_cases c2:wd=[102]
   ·have HC:=r9 c2;rw[c2];clear c1 c2 Bb;go_wp2_with fail
    go_ret;exact LEAF.out _ HC.out (by decide) _ rfl
   by_cases c3:wd=[117]
   ·have HC:=r9 c3;rw[c3];clear c1 c2 c3 Bb;go_wp2_with fail
    go_ret;exact LEAF.out _ HC.out (by decide) _ rfl
   have n1:(wd == [116])=false:=by rw[beq_eq_false_iff_ne];exact c1
   have n2:(wd == [102])=false:=by rw[beq_eq_false_iff_ne];exact c2
   have n3:(wd == [117])=false:=by rw[beq_eq_false_iff_ne];exact c3
   have HL:=r9 (show js wd=false by simp[js,n1,n2,n3]);clear c1 c2 c3 Bb LEAF;go_wp2_with fail
   go_ret;exact vp.no (by rw[HM.out,if_neg (by rw[HN.out];decide),if_neg (by rw[HL.out];decide)]) hb lR
def wN (sc:Nat)(c:List Value)(e:TypeId)(ob d m:Nat)(wd nm:Bs)(kv:Value)(r0:Bs)(wz:World)(k:Nat)(wr:World):Prop:=
 ∃ ts lk slv vs,ts.length=k/\(qj d m r0=(qj d (m-k) lk).map fun y=>(ts++y.1,y.2))/\lk.length<=r0.length/\But (fun i=>i=sc\/i=ob) wz wr/\qL sc c e lk wr/\uR ob wd nm kv slv wr /\
   Own wr 64 1 slv k vs/\(∀g,slv.ownBlock=OK g->(wz:Nat)<=g)/\zY (fun b=>wz<=b/\slv.ownBlock≠OK b) wr (ts.map jT) vs
theorem Tryz.infoTm:(RG.info? 64).map (fun i=>(i.zero,i.size,i.bytes))=OK (OK (.pointer U),1,8):=by kernel_rfl
theorem wN.next {sc:Nat}{c:List Value}{e:TypeId}{ob d m:Nat}{wd nm:Bs}{kv:Value}{r0:Bs}{wz:World}{k:Nat}{wr w2 w3:World}{ts:List Tm}{lk:Bs}{slv:Value}{vs:List Value}{t:Tm}{l1 rest:Bs}{vt:Value}{o:Obj}{a':Option Addr}{c':Nat}(sC:k<m)(t6:ts.length=k)(hp:qj d m r0=(qj d (m-k) lk).map fun y=>(ts++y.1,y.2))(tw:lk.length<=r0.length)(hb:But (fun i=>i=sc\/i=ob) wz wr)(BT:uR ob wd nm kv slv wr)(si:Own wr 64 1 slv k vs)(hZ:∀g,slv.ownBlock=OK g->(wz:Nat)<=g)(hr:zY (fun b=>wz<=b/\slv.ownBlock≠OK b) wr (ts.map jT) vs)(hc:cut [32] lk=l1)(ht:jG d l1=OK (t,rest))(sY:But (· = sc) wr w2)(lR:qL sc c e rest w2)(hv:Rep (wr<=·) w2 (jT t) vt)(iz:Own w3 64 1 (.slice a' (k+1) c') (k+1) (vs++[vt]))(sE:But (fun b=>slv.ownBlock=OK b) (w2.alloc o) w3)(hg:∀g,(RI a' (k+1) c').ownBlock=OK g->slv.ownBlock=OK g\/g=(w2.alloc o).heap.size)(Cu:sc<ob)(Hw:ob<wz):wN sc c e ob d m wd nm kv r0 wz (k+1) (w3.setCell (ob,3) (.slice a' (k+1) c')):=by
 have z0:=hb.size;have z2:=sY.size;have z3:=sE.size;rw[zK]at hg z3;have keep:∀i x,w2.heap[i]?=OK x->slv.ownBlock≠OK i->i≠ob->(w3.setCell (ob,3) (.slice a' (k+1) c')).heap[i]?=OK x:=by
  intro i x hi hne ho;rw[sJ _ _ _ _ (by simpa using ho),sE.block i (by rw[zK];have:=zZ hi;omega) hne];exact zJ hi
 have tB:∀g,slv.ownBlock=OK g->g<(wr:Nat):=fun g h=>si.lt h;have Pz:uR ob wd nm kv slv w2:=(sY.block ob (zZ BT) (by omega)).trans BT;have Hz:uR ob wd nm kv slv w3:=by
  unfold uR;rw[sE.block ob (by rw[zK];have:=zZ Pz;omega) (fun e=>by have:=hZ ob e;omega)];exact zJ Pz
 refine⟨ts++[t],rest,_,vs++[vt],by simp[t6],?_,?_,?_,?_,Hz.put3,?_,?_,?_⟩
 ·rw[show m-k=(m-(k+1))+1 from by omega]at hp;exact rdParTm_step hp hc ht
 ·have k1:=congrArg Td (vG hc);have k2:=rdTm_le ht;simp only[RL,RU,List.length_nil]at k1;omega
 ·refine((hb.trans (sY.weak fun i _ e=>.inl e)).trans' ((But.refl (fun b=>slv.ownBlock=OK b) w2).alloc o |>.trans sE) fun i hi e=>?_).setCell (p:=(ob,3)) (.inl (.inr rfl)) _;have:=hZ i e;omega
 ·exact keep sc _ lR (fun e=>by have:=hZ sc e;omega) (by omega)
 ·refine iz.keep fun g x tS BS=>?_
  rw [sJ _ _ _ _ (by
   rcases hg g tS with h|h
   ·have:=hZ g h;simp;omega
   ·simp;omega)]
  exact BS
 ·intro g h;rcases hg g h with h|h
  ·exact hZ g h
  ·omega
 ·rw[Vj];refine zY.append ?_ (zY.one ?_)
  ·refine(Rep.keep fun i x hi BS=>⟨⟨hi.1,fun e=>?_⟩,?_⟩).2 _ _ hr
   ·have hi1:=hi.1;exact keep i x (by rw[sY.block i (zZ BS) (by omega)];exact BS) hi.2 (by omega)
   ·rcases hg i e with h|h
    ·exact hi.2 h
    ·have:=zZ BS;omega
  ·refine(Rep.keep fun i x hi BS=>⟨⟨by have:=hi;omega,fun e=>?_⟩,?_⟩).1 _ _ hv
   ·exact keep i x BS (fun e=>by have:=tB i e;have:=hi;omega) (by have:=hi;omega)
   ·rcases hg i e with h|h
    ·have:=tB i h;have:=hi;omega
    ·have:=zZ BS;omega
theorem enc_mk {F:Nat->Prop}{w:World}{ob n:Nat}{wd nm:Bs}{kv slv:Value}{kd:DV}{ds:List DV}(hF:F ob)(h:uR ob wd nm kv slv w)(hk:Rep F w kd kv)(hs:Rep F w (.sl 64 1 n ds) slv) :
 Rep F w (.ptr 115 [.val (str wd),.val (str nm),kd,.sl 64 1 n ds]) (.pointer (OK ⟨ob,0,U⟩)):=by
 rw[jx];exact⟨_,_,rfl,hF,h,zQ.2 ⟨_,_,rfl,zC.2 rfl,zQ.2 ⟨_,_,rfl,zC.2 rfl,zQ.2 ⟨_,_,rfl,hk,zQ.2 ⟨_,_,rfl,hs,zE.2 rfl⟩⟩⟩⟩⟩
theorem enc_lam (x:Bs)(k:Ty)(ts:List Tm)(h:ts.length=1):jT (cj vX x k ts)=.ptr 115 [.val (str vX),.val (str x),jk k,.sl 64 1 ts.length (ts.map jT)]:=by
 match ts,h with
 |[t],_=>rw[cj,jT];rfl
theorem enc_app (k:Ty)(ts:List Tm)(h:ts.length=2):jT (cj uV [] k ts)=.ptr 115 [.val (str uV),.val (str []),.val (.pointer U),.sl 64 1 ts.length (ts.map jT)]:=by
 match ts,h with
 |[t,u],_=>rw[cj,jT];rfl
theorem enc_ite (k:Ty)(ts:List Tm)(h:ts.length=3):jT (cj ifW [] k ts)=.ptr 115 [.val (str ifW),.val (str []),.val (.pointer U),.sl 64 1 ts.length (ts.map jT)]:=by
 match ts,h with
 |[t,u,v],_=>rw[cj,jT];rfl
theorem term_open (sc:Nat)(c:List Value)(e:TypeId)(d0:Nat)(hd:d0<=1000)(ih:∀d',d0=d'+1->eW sc c e d')(r r1:Bs)(w:World)(hs:qL sc c e r w)(hr:Lim r.length)(h1:Cut [40] r r1) :
 Calls RG 51 #[sc,.int RD d0] w (vp sc c e w (jG d0 r)):=by
 have er:r=40::r1:=by have:=vG h1.out;simpa using this
 have HR:=r9 er;clear er;have IH:=r9 ih;clear ih;have aV:=hr.mono h1.le;have Bb:Lim (zR r1).length:=aV.mono (by have:=yr r1;omega);have lG:Lim (zM r1).length:=aV.mono (by have:=yr r1;omega);have Gx:=@run_makeMap RG;go_enter Xb,WE;go_wp2_with fail
 refine(jf hs h1).mono ?_;rintro en w1 ⟨rfl,sX,iH⟩;go_wp2_with fail
 refine(wv _ _ _ _ _ iH aV).mono ?_;rintro en w2 ⟨rfl,sY,lR⟩;have hb:=sX.trans sY;clear sX sY iH h1;obtain⟨wd,Ju⟩:=zzM (zR r1);rw[<- Ju]at Bb ⊢;have HW:=r9 Ju.symm;clear Ju;have kS:=r9 (keyS Bb);have k1:keyOf RG 9 (str vX)=OK (.string vX):=keyS (s:=vX) (by unfold Lim;decide);have k2:keyOf RG 9 (str uV)=OK (.string uV):=keyS (s:=uV) (by unfold Lim;decide);have k3:keyOf RG 9 (str ifW)=OK (.string ifW):=keyS (s:=ifW) (by unfold Lim;decide);have K1:=r9 (r_ k1 (r_ k2 k3));clear k1 k2 k3 Bb;have tV:=hb.size;have made:((w2.alloc (.cells #[wd,str [],.pointer U,()] 115)).alloc (.map #[] 0)).ownsMap RG 9 (plainElem (H:=Unit) RG 3) ((w2:Nat)+1) 0 (.map []):=by
  have:=World.ownsMap_made (H:=Unit) (w2.alloc (.cells #[wd,str [],.pointer U,()] 115)) RG 9 (plainElem (H:=Unit) RG 3);rwa [zK]at this
 have MADE:=r9 made;clear made;go_wp2_with (refine u_ (H:=Unit) _ rfl _ _ _ 157 rfl 9 3 Tryz.lawS TV (plainElem RG 3) ((w2:Nat)+1) 0 _ rfl MADE.out (by unfold maxLen;omega) _ _ _ rfl rfl K1.out.1 _ [] (plainElem_int Uf (by decide)) ?_)
 intro wa hA gA;go_wp2_with (refine u_ (H:=Unit) _ rfl _ _ _ 157 rfl 9 3 Tryz.lawS TV (plainElem RG 3) ((w2:Nat)+1) 1 _ rfl hA (by unfold maxLen;omega) _ _ _ rfl rfl K1.out.2.1 _ [] (plainElem_int Uf (by decide)) ?_)
 intro wb hB gB;go_wp2_with (refine u_ (H:=Unit) _ rfl _ _ _ 157 rfl 9 3 Tryz.lawS TV (plainElem RG 3) ((w2:Nat)+1) 2 _ rfl hB (by unfold maxLen;omega) _ _ _ rfl rfl K1.out.2.2 _ [] (plainElem_int Uf (by decide)) ?_)
 intro w3 hC gC
 have sE:But (fun i=>i=w2+1) ((w2.alloc (.cells #[wd,str [],.pointer U,()] 115)).alloc (.map #[] 0)) w3:=
  ((But.ofGrown gA).weak (m':=fun i=>i=w2+1) (fun i _ h=>by simpa using h)).trans (((But.ofGrown gB).weak (m':=fun i=>i=w2+1) (fun i _ h=>by simpa using h)).trans ((But.ofGrown gC).weak (m':=fun i=>i=w2+1) (fun i _ h=>by simpa using h)))
 obtain⟨M,Hh,sG,_⟩:=hC.lookup_int Tryz.lawS TV Uf (Tryz.zeroI _) kS.out;rw[many_at]at sG;obtain rfl:(nh wd:Int)=M:=by simpa using sG
 have z3:=sE.size;simp only[zK]at z3;have QC:But (· = sc) w w3:=hb.trans' (m':=fun i=>i=w2+1) (((But.refl (fun i=>i=w2+1) w2).alloc _ |>.alloc _).trans sE) (fun i hi e=>by omega);have PW:∀i x,w2.heap[i]?=OK x->w3.heap[i]?=OK x:=fun i x h=>by
  have hl:=zZ h;rw[sE.block i (by simp;omega) (by omega)];exact zJ (zJ h)
 have Bf:qL sc c e (zM r1) w3:=PW _ _ lR;have Hz:uR w2.heap.size wd [] (.pointer U) (.slice U 0 0) w3:=by
  unfold uR;rw[sE.block w2.heap.size (by simp;omega) (by omega)];exact zJ (zW _ _)
 have Jt:w.heap.size<=w2.heap.size:=tV;have hscw:=yK hs;clear hA hB hC gA gB gC sE sG MADE K1 kS lR PW;obtain⟨q0,_,_,_,q4,_⟩:=Hz.cells;obtain⟨M,hM⟩:=zzM (nh wd);rw[<- hM]at Hh;have HMW:=r9 hM;clear hM;generalize hO:w2=ob at *;clear hO z3;have Dc:=r9 (r_ Bf (r_ Hz QC));clear Bf Hz QC hb;by_cases hm0:M=0
 ·have HX:=r9 (show jG d0 r=U by rw[HR.out];exact rdTm_none (by rw[HW.out,<- HMW.out,hm0]));subst hm0;go_wp2_with fail
  go_ret;exact vp.no HX.out Dc.out.2.2 Dc.out.1
 have m0:((M:Int) == 0)=false:=by rw[beq_eq_false_iff_ne];omega
 by_cases DH:d0=0
 ·have HX:=r9 (show jG d0 r=U by rw[HR.out,DH];exact rdTm_zero);subst DH;go_wp2_with fail
  go_ret;exact vp.no HX.out Dc.out.2.2 Dc.out.1
 obtain⟨d,rfl⟩:∃d',d0=d'+1:=⟨d0-1,by omega⟩;have ecast:((d+1:Nat):Int)=(d:Int)+1:=by omega
 rw[ecast];clear ecast;have d00:((d:Int)+1 == 0)=false:=by rw[beq_eq_false_iff_ne];omega
 have IH':=r9 (IH.out d rfl);clear IH DH;by_cases lr:wd=vX
 ·have hq:(wd == [108,97,109])=true:=by rw[beq_iff_eq];exact lr
  have HL:=r9 lr;clear lr;go_wp2_with fail
  rcases kC [32] (zM r1) with h4|⟨l3,h4⟩
  ·refine(vo Dc.out.1 h4).mono ?_;rintro en w4 ⟨rfl,sO,iy⟩;go_wp2_with fail
   go_ret;exact vp.no (by rw[HR.out];exact rdTm_lamNo1 (by rw[HW.out,HL.out]) h4.out) (Dc.out.2.2.trans sO) iy
  refine(jf Dc.out.1 h4).mono ?_;rintro en w4 ⟨rfl,sO,iy⟩;have Jc:=lG.mono h4.le;clear q0 q4 Hh;go_wp2_with fail
  refine(wv _ _ _ _ _ iy Jc).mono ?_;rintro en w5 ⟨rfl,sx,B1⟩;have hbb:=sO.trans sx;have Bq:uR ob wd [] (.pointer U) () w5:=(hbb.block ob (zZ Dc.out.2.1) (by omega)).trans Dc.out.2.1;have DM:=Dc.out.2.2.trans hbb;obtain⟨nm,KL⟩:=zzM (zR l3);have PL:Lim (zR l3).length:=Jc.mono (by have:=yr l3;omega);have hl3r:Lim (zM l3).length:=Jc.mono (by have:=yr l3;omega);rw[<- KL]at PL ⊢;have HNM:=r9 KL.symm;clear KL;obtain⟨_,q1,_,_,q4,q5⟩:=Bq.cells;have q6:=q5 1;have DB:=Bq.put1 (u:=nm);have QE:=DM.setCell (p:=(ob,1)) (.inr (by simpa using Jt)) (str nm);have Jy:qL sc c e (zM l3) (w5.setCell (ob,1) (str nm)):=by unfold qL;rw[sJ _ _ _ _ (by simp;omega)];exact B1
  have GF:=r9 (r_ Jy (r_ DB QE));clear q5 iy B1 sO sx hbb DM Bq Jy DB QE;go_wp2_with fail
  obtain⟨w6,hw6⟩:=zzM (w5.setCell ⟨ob,1,U⟩ (str nm));rw[<- hw6]at GF ⊢;clear hw6 q1 q4 q6;(with_reducible refine(rQ nm w6 PL).mono ?_);rintro en w7 ⟨rfl,e7⟩;subst w7;cases hn:qi nm with
  | false =>
    have HN:=r9 hn;clear hn;go_wp2_with fail
    go_ret;exact vp.no (by rw[HR.out];exact rdTm_lamNo2 (by rw[HW.out,HL.out]) h4.out (by rw[HNM.out,HN.out])) GF.out.2.2 GF.out.1
  | true =>
    have HN:=r9 hn;clear hn;go_wp2_with fail
    rcases kC [32] (zM l3) with h5|⟨l4,h5⟩
    ·refine(vo GF.out.1 h5).mono ?_;rintro en w7 ⟨rfl,sH,Gs⟩;go_wp2_with fail
     go_ret;exact vp.no (by rw[HR.out];exact rdTm_lamNo3 (by rw[HW.out,HL.out]) h4.out h5.out) (GF.out.2.2.trans sH) Gs
    refine(jf GF.out.1 h5).mono ?_;rintro en w7 ⟨rfl,sH,Gs⟩;have Bu:=hl3r.mono h5.le;go_wp2_with fail
    refine(kind_any _ _ _ 60 (by omega) l4 w7 Gs Bu).mono ?_;rintro en w8 ⟨kv,r8,rfl,aw,Mi,hn8,hy8⟩;have J1:=sH.trans aw;have JF:uR ob wd nm (.pointer U) (.slice U 0 0) w8:=(J1.block ob (zZ GF.out.2.1) (by omega)).trans GF.out.2.1;have C8:=GF.out.2.2.trans J1;have z7:=GF.out.2.2.size;have z78:=sH.size;have hl7:ob<w7.heap.size:=by have:=zZ GF.out.2.1;omega
    obtain⟨_,_,q2,_,q4,q5⟩:=JF.cells;have q6:=q5 2;have JE:=JF.put2 (u:=kv);have J3:=C8.setCell (p:=⟨ob,2,U⟩) (.inr (by simpa using Jt)) kv;have O7:qL sc c e r8 (w8.setCell ⟨ob,2,U⟩ kv):=by unfold qL;rw[sJ _ _ _ _ (by simp;omega)];exact Mi
    rcases hk:rdK 60 l4 with _|⟨kk,l6⟩
    ·obtain rfl:=hn8 hk;have HK:=r9 hk;clear hk hn8 hy8;have Kc:=r9 (r_ O7 (r_ JE J3));clear O7 JE J3 C8 JF J1 aw Mi sH Gs q5;go_wp2_with fail
     go_ret;exact vp.no (by rw[HR.out];exact rdTm_lamNo4 (by rw[HW.out,HL.out]) h4.out (by exact h5.out) HK.out) Kc.out.2.2 Kc.out.1
    obtain⟨rfl,Cf⟩:=hy8 _ _ hk;have Kd:Rep (fun b=>w.heap.size<=b/\b≠ob/\b≠sc) (w8.setCell ⟨ob,2,U⟩ kv) (jk kk) kv:=(Rep.keep fun b o h ho=>⟨by have:=h;omega,by rw[sJ _ _ _ _ (by have:=h;simp;omega)];exact ho⟩).1 _ _ Cf;obtain⟨kb,rfl⟩:∃ba,kv=.pointer (OK ⟨ba,0,U⟩):=by obtain⟨ba,_,h,_⟩:=zh Cf;exact⟨ba,h⟩
    have hM1:M=1:=by rw[HMW.out,HL.out];decide
    have Hs:=Bu.mono (rdK_le _ hk).1;have HM:jG (d+1) r=(qj d M r8).bind fun y=>(cut [41] y.2).map fun r'=>(cj wd nm kk y.1,r'):=by rw[HR.out,rdTm_lam (by rw[HW.out,HL.out]) h4.out (by rw[HNM.out];exact HN.out) h5.out hk,hM1,HL.out,HNM.out]
    have HE:∀ts:List Tm,ts.length=M->jT (cj wd nm kk ts)=.ptr 115 [.val (str wd),.val (str nm),jk kk,.sl 64 1 ts.length (ts.map jT)]:=fun ts h=>by rw[HL.out];exact enc_lam nm kk ts (by rw[h,hM1])
    have Kc:=r9 (r_ O7 (r_ JE (r_ J3 (r_ Kd (r_ HE HM)))));clear O7 JE J3 C8 JF J1 aw Mi sH Gs q5 Cf hk hn8 hy8 HE HM Kd;have HM1:=r9 hM1;clear hM1;have M20:M<=3:=by have:=HM1.out;omega
    go_wp2_with fail
    obtain⟨wz,G3⟩:=zzM (w8.setCell ⟨ob,2,U⟩ (.pointer (OK ⟨kb,0,U⟩)));rw[<- G3]at Kc ⊢;clear G3 q2 q4 q6;obtain⟨tV,oA,Fh,Kd,HE,HM⟩:=Kc.out;obtain⟨r0,Hr⟩:=zzM (r8);rw[<- Hr]at Hs tV HM;clear Hr Kc GF Dc;obtain⟨kv,NI⟩:=zzM (Wf (OK ⟨kb,0,U⟩));rw[<- NI]at oA Kd;clear NI;clear Gx;have Hf:sc<ob:=by omega
    have Ms:ob<wz.heap.size:=zZ oA;have lZ:wN sc c e ob d M wd nm kv r0 wz 0 wz:=⟨[],r0,.slice U 0 0,[],rfl,by simp,sZ _,But.refl _ _,tV,oA,Sf _ _ _ _,fun g h=>by simp[RM]at h,zE.2 rfl⟩;have HZ:=r9 (r_ Fh (r_ Kd (r_ HE HM)));clear Fh tV oA Kd HE HM
    go_loopw [84] (fun i wr=>∃k:Nat,k<=M/\i=.int RD k/\wN sc c e ob d M wd nm kv r0 wz k wr) (fun i _=>M-(intOf i).toNat)
    case atStart=>exact⟨0,R6 _,rfl,lZ⟩
    case round=>
     clear lZ;rename_i wr;obtain⟨k,hk,rfl,ts,lk,slv,vs,t6,hp,tw,hb,Dh,BT,si,hZ,tG⟩:=hrel;have JK:=Hs.mono tw;have tY:But (· = sc) w wr:=HZ.out.1.trans' hb (fun i hi e=>by rcases e with e|e;exact e;omega);have HP:=r9 (r_ hp (r_ hb (r_ si (r_ hZ (r_ tG (r_ t6 tw))))));clear hp hb si hZ tG t6 tw;have ET:=r9 tY;clear tY;by_cases sC:k<M
     ·have hltI:(k:Int)<(M:Int):=by omega
      have Ew:M-k=(M-k-1)+1:=by omega
      have Lm:=r9 Ew;clear Ew;go_wp2_with fail
      rcases kC [32] lk with h4|⟨l4,h4⟩
      ·refine(vo Dh h4).mono ?_;rintro en w4 ⟨rfl,sO,iy⟩;go_wp2_with fail
       go_ret;refine vp.no ?_ (ET.out.trans sO) iy;have hp:=HP.out.1;rw[Lm.out]at hp;rw[HZ.out.2.2.2,fg hp h4.out];rfl
      refine(jf Dh h4).mono ?_;rintro en w4 ⟨rfl,sO,iy⟩;have h4l:=h4.le;go_wp2_with fail
      refine(IH'.out l4 w4 iy (JK.mono h4l)).mono ?_;rintro en w5 ⟨vt,r5,rfl,sx,B1,Cy,Cr⟩;have iL:=sO.trans sx;have z4:=sO.size;rcases ht:jG d l4 with _|⟨t,r5'⟩
      ·obtain rfl:=Cy ht;have HT:=r9 ht;clear ht Cy Cr;go_wp2_with fail
       go_ret;refine vp.no ?_ (ET.out.trans iL) B1;have hp:=HP.out.1;rw[Lm.out]at hp;rw[HZ.out.2.2.2,fp hp h4.out HT.out];rfl
      obtain⟨rfl,E5⟩:=Cr _ _ ht;have HT:=r9 ht;clear ht Cy Cr;obtain⟨N_,rfl⟩:=qO E5;have Bq:uR ob wd nm kv slv w5:=(iL.block ob (zZ BT) (by omega)).trans BT;obtain⟨_,_,_,q3,q4,q5⟩:=Bq.cells;have q6:=q5 3;have Bi:Own w5 64 1 slv k vs:=HP.out.2.2.1.keep fun g o tS ho=>by rw[iL.block g (zZ ho) (by have:=HP.out.2.2.2.1 g tS;omega)];exact ho
      have Ka:=r9 (r_ Bi (r_ E5 (r_ iL B1)));clear q5 Bi E5 iL sO sx iy B1 Dh;go_wp2_with (at_builtin;refine zF rfl _ _ 113 rfl 64 (.pointer U) 1 8 VV Tryz.infoTm rfl (by decide) slv k vs rfl ?c1 _ 1 [.pointer (OK ⟨N_,0,U⟩)] rfl ?c2 ?c3 ?c4 ?_)
      case c1=>exact Ka.out.1.keep fun g o tS ho=>zJ ho
      case c2=>exact zz.lit rfl
      case c3=>unfold maxLen;omega
      case c4=>omega
      intro a' c' w6 iz sM tS;have DB:uR ob wd nm kv slv w6:=by
       unfold uR;rw[sM.block ob (by simp;omega) (fun e=>by have:=HP.out.2.2.2.1 ob e;omega)];exact zJ Bq
      have tF:=wN.next sC HP.out.2.2.2.2.2.1 HP.out.1 HP.out.2.2.2.2.2.2 HP.out.2.1 BT HP.out.2.2.1 HP.out.2.2.2.1 HP.out.2.2.2.2.1 h4.out HT.out Ka.out.2.2.1 Ka.out.2.2.2 ((Rep.keep fun b o h ho=>⟨by have:=h;omega,ho⟩).1 _ _ Ka.out.2.1) iz sM (fun g h=>(tS g h).imp_right fun e=>e.trans (by simp)) Hf Ms;obtain⟨_,_,_,p3,p4,p5⟩:=DB.cells;have p6:=p5 3;clear tS p5 sM iz Bq DB BT q3 q4 q6;go_wp2_with fail
      go_roundw
      case rel=>exact⟨k+1,by omega,by go_num,tF⟩
      case measure=>simp[intOf];omega
     ·obtain rfl:k=M:=by omega
      go_wp2_with fail
      rcases kC [41] lk with h4|⟨l4,h4⟩
      ·refine(vo Dh h4).mono ?_;rintro en w4 ⟨rfl,sO,iy⟩;go_wp2_with fail
       go_ret;refine vp.no ?_ (ET.out.trans sO) iy;have hp:=HP.out.1;rw[Uz,xT]at hp;rw[HZ.out.2.2.2,hp];simp[h4.out]
      refine(jf Dh h4).mono ?_;rintro en w4 ⟨rfl,sO,iy⟩;go_wp2_with fail
      go_ret;have hp:=HP.out.1;rw[Uz,xT]at hp;have MT:But (fun i=>i=sc\/i=ob) wz w4:=HP.out.2.1.trans (sO.weak fun i _ e=>.inl e);have I5:=HZ.out.1.size;have OQ:=yK hs;refine vp.yes (t:=cj wd nm kk ts) (r:=l4) ?_ (ET.out.trans sO) iy ?_
      ·rw[HZ.out.2.2.2,hp];simp[h4.out]
      ·rw[HZ.out.2.2.1 ts HP.out.2.2.2.2.2.1];have Mt:uR ob wd nm kv slv w4:=(sO.block ob (zZ BT) (by omega)).trans BT;refine enc_mk Jt Mt (Rep.but MT (fun b hb=>⟨by rintro(e | e) <;> omega,hb.1⟩) HZ.out.2.1) ?_;rw[HP.out.2.2.2.2.2.1];have hz:=HP.out.2.2.2.1;refine(HP.out.2.2.1.keep (w':=w4) fun g o tS ho=>?_).rep (fun g hg=>?_) ?_
       ·rw[sO.block g (zZ ho) (by have:=hz g tS;omega)];exact ho
       ·have:=hz g hg;show w<=g;omega
       ·exact zY.but sO (fun b hb=>⟨by have:=hb.1;omega,by have:=hb.1;show (w:Nat)<=b;omega⟩) HP.out.2.2.2.2.1
 ·have hq:(wd == [108,97,109])=false:=by rw[beq_eq_false_iff_ne];exact lr
  have Fh:=Dc.out.2.2;have tV:=Dc.out.1;have oA:=Dc.out.2.1;obtain⟨nm,KL⟩:∃x:Bs,x=[]:=⟨_,rfl⟩;rw[<- KL]at oA
  have hHM:∀kk:Ty,(M=2\/M=3)/\(jG (d+1) r=(qj d M (zM r1)).bind fun y=>(cut [41] y.2).map fun r'=>(cj wd nm kk y.1,r')) /\
   (∀ts:List Tm,ts.length=M->jT (cj wd nm kk ts)=.ptr 115 [.val (str wd),.val (str nm),.val (.pointer U),.sl 64 1 ts.length (ts.map jT)]):=by
   intro kk;have hM:=HMW.out;unfold nh at hM;rw[if_neg lr]at hM;by_cases h2:wd=uV
   ·rw[if_pos h2]at hM;refine⟨.inl hM,?_,fun ts h=>?_⟩
    ·rw[HR.out,rdTm_app nm kk (by rw[HW.out,h2]),hM,h2]
    ·rw[h2,KL];exact enc_app kk ts (by rw[h,hM])
   rw[if_neg h2]at hM;by_cases h3:wd=ifW
   ·rw[if_pos h3]at hM;refine⟨.inr hM,?_,fun ts h=>?_⟩
    ·rw[HR.out,rdTm_ite nm kk (by rw[HW.out,h3]),hM,h3]
    ·rw[h3,KL];exact enc_ite kk ts (by rw[h,hM])
   rw[if_neg h3]at hM;exact absurd hM hm0
  obtain⟨kk,D4⟩:∃k:Ty,k=.mk []:=⟨_,rfl⟩;obtain⟨hM23,HM,HE⟩:=hHM kk;have Kc:=r9 (r_ tV (r_ oA (r_ Fh (r_ HE HM))));have M20:M<=3:=by omega
  clear hHM tV oA Fh HE HM hM23 D4 lr KL;go_wp2_with fail
  clear Hh q0 q4;obtain⟨tV,oA,Fh,HE,HM⟩:=Kc.out;obtain⟨wz,G3⟩:=zzM (w3);rw[<- G3]at tV oA Fh ⊢;clear G3 Kc Dc;obtain⟨r0,Hr⟩:=zzM (zM r1);rw[<- Hr]at lG tV HM;have Hs:=lG;clear Hr lG;obtain⟨kv,NI⟩:=zzM (Wf U);have Kd:Rep (fun b=>w.heap.size<=b/\b≠ob/\b≠sc) wz (.val (.pointer U)) kv:=zC.2 NI;rw[<- NI]at oA;clear NI;clear Gx;have Hf:sc<ob:=by omega
  have Ms:ob<wz.heap.size:=zZ oA;have lZ:wN sc c e ob d M wd nm kv r0 wz 0 wz:=⟨[],r0,.slice U 0 0,[],rfl,by simp,sZ _,But.refl _ _,tV,oA,Sf _ _ _ _,fun g h=>by simp[RM]at h,zE.2 rfl⟩;have HZ:=r9 (r_ Fh (r_ Kd (r_ HE HM)));clear Fh tV oA Kd HE HM
  go_loopw [84] (fun i wr=>∃k:Nat,k<=M/\i=.int RD k/\wN sc c e ob d M wd nm kv r0 wz k wr) (fun i _=>M-(intOf i).toNat)
  case atStart=>exact⟨0,R6 _,rfl,lZ⟩
  case round=>
   clear lZ;rename_i wr;obtain⟨k,hk,rfl,ts,lk,slv,vs,t6,hp,tw,hb,Dh,BT,si,hZ,tG⟩:=hrel;have JK:=Hs.mono tw;have tY:But (· = sc) w wr:=HZ.out.1.trans' hb (fun i hi e=>by rcases e with e|e;exact e;omega);have HP:=r9 (r_ hp (r_ hb (r_ si (r_ hZ (r_ tG (r_ t6 tw))))));clear hp hb si hZ tG t6 tw;have ET:=r9 tY;clear tY;by_cases sC:k<M
   ·have hltI:(k:Int)<(M:Int):=by omega
    have Ew:M-k=(M-k-1)+1:=by omega
    have Lm:=r9 Ew;clear Ew;go_wp2_with fail
    rcases kC [32] lk with h4|⟨l4,h4⟩
    ·refine(vo Dh h4).mono ?_;rintro en w4 ⟨rfl,sO,iy⟩;go_wp2_with fail
     go_ret;refine vp.no ?_ (ET.out.trans sO) iy;have hp:=HP.out.1;rw[Lm.out]at hp;rw[HZ.out.2.2.2,fg hp h4.out];rfl
    refine(jf Dh h4).mono ?_;rintro en w4 ⟨rfl,sO,iy⟩;have h4l:=h4.le;go_wp2_with fail
    refine(IH'.out l4 w4 iy (JK.mono h4l)).mono ?_;rintro en w5 ⟨vt,r5,rfl,sx,B1,Cy,Cr⟩;have iL:=sO.trans sx;have z4:=sO.size;rcases ht:jG d l4 with _|⟨t,r5'⟩
    ·obtain rfl:=Cy ht;have HT:=r9 ht;clear ht Cy Cr;go_wp2_with fail
     go_ret;refine vp.no ?_ (ET.out.trans iL) B1;have hp:=HP.out.1;rw[Lm.out]at hp;rw[HZ.out.2.2.2,fp hp h4.out HT.out];rfl
    obtain⟨rfl,E5⟩:=Cr _ _ ht;have HT:=r9 ht;clear ht Cy Cr;obtain⟨N_,rfl⟩:=qO E5;have Bq:uR ob wd nm kv slv w5:=(iL.block ob (zZ BT) (by omega)).trans BT;obtain⟨_,_,_,q3,q4,q5⟩:=Bq.cells;have q6:=q5 3;have Bi:Own w5 64 1 slv k vs:=HP.out.2.2.1.keep fun g o tS ho=>by rw[iL.block g (zZ ho) (by have:=HP.out.2.2.2.1 g tS;omega)];exact ho
    have Ka:=r9 (r_ Bi (r_ E5 (r_ iL B1)));clear q5 Bi E5 iL sO sx iy B1 Dh;go_wp2_with (at_builtin;refine zF rfl _ _ 113 rfl 64 (.pointer U) 1 8 VV Tryz.infoTm rfl (by decide) slv k vs rfl ?c1 _ 1 [.pointer (OK ⟨N_,0,U⟩)] rfl ?c2 ?c3 ?c4 ?_)
    case c1=>exact Ka.out.1.keep fun g o tS ho=>zJ ho
    case c2=>exact zz.lit rfl
    case c3=>unfold maxLen;omega
    case c4=>omega
    intro a' c' w6 iz sM tS;have DB:uR ob wd nm kv slv w6:=by
     unfold uR;rw[sM.block ob (by simp;omega) (fun e=>by have:=HP.out.2.2.2.1 ob e;omega)];exact zJ Bq
    have tF:=wN.next sC HP.out.2.2.2.2.2.1 HP.out.1 HP.out.2.2.2.2.2.2 HP.out.2.1 BT HP.out.2.2.1 HP.out.2.2.2.1 HP.out.2.2.2.2.1 h4.out HT.out Ka.out.2.2.1 Ka.out.2.2.2 ((Rep.keep fun b o h ho=>⟨by have:=h;omega,ho⟩).1 _ _ Ka.out.2.1) iz sM (fun g h=>(tS g h).imp_right fun e=>e.trans (by simp)) Hf Ms;obtain⟨_,_,_,p3,p4,p5⟩:=DB.cells;have p6:=p5 3;clear tS p5 sM iz Bq DB BT q3 q4 q6;go_wp2_with fail
    go_roundw
    case rel=>exact⟨k+1,by omega,by go_num,tF⟩
    case measure=>simp[intOf];omega
   ·obtain rfl:k=M:=by omega
    go_wp2_with fail
    rcases kC [41] lk with h4|⟨l4,h4⟩
    ·refine(vo Dh h4).mono ?_;rintro en w4 ⟨rfl,sO,iy⟩;go_wp2_with fail
     go_ret;refine vp.no ?_ (ET.out.trans sO) iy;have hp:=HP.out.1;rw[Uz,xT]at hp;rw[HZ.out.2.2.2,hp];simp[h4.out]
    refine(jf Dh h4).mono ?_;rintro en w4 ⟨rfl,sO,iy⟩;go_wp2_with fail
    go_ret;have hp:=HP.out.1;rw[Uz,xT]at hp;have MT:But (fun i=>i=sc\/i=ob) wz w4:=HP.out.2.1.trans (sO.weak fun i _ e=>.inl e);have I5:=HZ.out.1.size;have OQ:=yK hs;refine vp.yes (t:=cj wd nm kk ts) (r:=l4) ?_ (ET.out.trans sO) iy ?_
    ·rw[HZ.out.2.2.2,hp];simp[h4.out]
    ·rw[HZ.out.2.2.1 ts HP.out.2.2.2.2.2.1];have Mt:uR ob wd nm kv slv w4:=(sO.block ob (zZ BT) (by omega)).trans BT;refine enc_mk Jt Mt (Rep.but MT (fun b hb=>⟨by rintro(e | e) <;> omega,hb.1⟩) HZ.out.2.1) ?_;rw[HP.out.2.2.2.2.2.1];have hz:=HP.out.2.2.2.1;refine(HP.out.2.2.1.keep (w':=w4) fun g o tS ho=>?_).rep (fun g hg=>?_) ?_
     ·rw[sO.block g (zZ ho) (by have:=hz g tS;omega)];exact ho
     ·have:=hz g hg;show w<=g;omega
     ·exact zY.but sO (fun b hb=>⟨by have:=hb.1;omega,by have:=hb.1;show w<=b;omega⟩) HP.out.2.2.2.2.1
theorem term_step (sc:Nat)(c:List Value)(e:TypeId)(d:Nat)(hd:d<=1000)(ih:∀d',d=d'+1->eW sc c e d'):eW sc c e d:=by
 intro r w hs hr;rcases kC [40] r with h1|⟨r1,h1⟩
 ·exact term_word sc c e d hd r w hs hr h1
 ·exact term_open sc c e d hd ih r r1 w hs hr h1
theorem term_any (sc:Nat)(c:List Value)(e:TypeId):∀(d:Nat),d<=1000->eW sc c e d
 |0,h=>term_step sc c e 0 h (fun d' e=>by omega)
 | d+1,h=>term_step sc c e (d+1) h (fun d' e=>by obtain rfl:d=d':=by omega
                                                 exact term_any _ _ _ d (by omega))
def xp:Tm->Bs
 |.nm _=>[]
 |.wd w=>w
 |.lam _ _ _=>vX
 |.app _ _=>uV
 |.ite _ _ _=>ifW
def xg:Tm->Bs
 |.nm x=>x
 |.lam x _ _=>x
 |_=>[]
def yT:Tm->Option Ty
 |.lam _ k _=>OK k
 |_=>U
def ze:Tm->List Tm
 |.nm _=>[]
 |.wd _=>[]
 |.lam _ _ t=>[t]
 |.app m n=>[m,n]
 |.ite l m n=>[l,m,n]
def yN (ts:List Tm):Nat:=(ts.map zO).sum
def kindN:Option Ty->Nat
 |some k=>1+zU k
 |none=>0
theorem sizeTm_mk (t:Tm):zO t=1+kindN (yT t)+yN (ze t):=by
 cases t <;> simp[zO,yT,ze,kindN,yN] <;> omega
theorem mn {ts:List Tm}{k:Nat}{t:Tm}(h:ts[k]?=t):yN (ts.take (k+1))=yN (ts.take k)+zO t:=by
 unfold yN;rw[Sd,h];simp
theorem cK (ts:List Tm)(k:Nat):yN (ts.take k)<=yN ts:=by
 unfold yN
 conv=>rhs;rw[<- R7 k ts,Vj,List.sum_append]
 omega
theorem sumTm_mem {ts:List Tm}{t:Tm}(h:t∈ts):zO t<=yN ts:=by
 induction ts with
 |nil=>simp at h
 | cons x xs ih =>
   unfold yN at *;simp only[List.map_cons,List.sum_cons];rcases Sc.1 h with rfl|h
   ·omega
   ·have:=ih h;omega
theorem tmParts_len (t:Tm):(ze t).length<=3:=by cases t <;> simp[ze]
theorem jt {F:Nat->Prop}{w:World}{t:Tm}{v:Value}(h:Rep F w (jT t) v) :
 ∃ b kv slv,v=.pointer (some ⟨b,0,none⟩)/\F b/\w.heap[b]? = some (.cells #[str (xp t),str (xg t),kv,slv] 115 (0,0))/\(yT t=none->kv=.pointer none)/\(∀ k,yT t=some k->Rep F w (jk k) kv) /\
   Rep F w (.sl 64 1 (ze t).length ((ze t).map jT)) slv:=by
 have key:∀(wd nm:Bs) (kd:DV) (n:Nat) (ds:List DV),Rep F w (.ptr 115 [.val (str wd),.val (str nm),kd,.sl 64 1 n ds]) v->
  ∃b kv slv,v=.pointer (OK ⟨b,0,U⟩)/\F b/\w.heap[b]?=OK (.cells #[wd,nm,kv,slv] 115 (0,0))/\Rep F w kd kv/\Rep F w (.sl 64 1 n ds) slv:=by
  intro wd nm kd n ds h;rw[jx]at h;obtain⟨b,c,rfl,hb,hc,hr⟩:=h;simp only[zQ,zE,zC]at hr;obtain⟨_,_,e1,rfl,_,_,rfl,rfl,kv,_,rfl,h1,slv,_,rfl,h2,rfl⟩:=hr;have:c=#[str wd,str nm,kv,slv]:=by apply Array.ext';simpa using e1
  subst this;exact⟨b,kv,slv,rfl,hb,hc,h1,h2⟩
 cases t with
 | nm x =>
   obtain⟨b,kv,slv,h1,h2,h3,h4,h5⟩:=key _ _ _ _ _ h;exact⟨b,kv,slv,h1,h2,h3,fun _=>zC.1 h4,fun k e=>by simp[yT]at e,h5⟩
 | wd x =>
   obtain⟨b,kv,slv,h1,h2,h3,h4,h5⟩:=key _ _ _ _ _ h;exact⟨b,kv,slv,h1,h2,h3,fun _=>zC.1 h4,fun k e=>by simp[yT]at e,h5⟩
 | lam x k t =>
   obtain⟨b,kv,slv,h1,h2,h3,h4,h5⟩:=key _ _ _ _ _ h;exact⟨b,kv,slv,h1,h2,h3,fun e=>by simp[yT]at e,fun k e=>by simp[yT]at e;subst e;exact h4,h5⟩
 | app m n =>
   obtain⟨b,kv,slv,h1,h2,h3,h4,h5⟩:=key _ _ _ _ _ h;exact⟨b,kv,slv,h1,h2,h3,fun _=>zC.1 h4,fun k e=>by simp[yT]at e,h5⟩
 | ite l m n =>
   obtain⟨b,kv,slv,h1,h2,h3,h4,h5⟩:=key _ _ _ _ _ h;exact⟨b,kv,slv,h1,h2,h3,fun _=>zC.1 h4,fun k e=>by simp[yT]at e,h5⟩
def TmAtoms (F:Nat->Prop)(w:World)(t:Tm):Prop:=∀v,Rep F w (jT t) v->
 Calls RG 52 #[v] w fun en w'=>en=.returned (.int RD (zO t))/\w'=w
theorem tmAtoms_step (F:Nat->Prop)(w:World)(t:Tm)(hl:Lim (zO t))(ih:∀t',zO t'<zO t->TmAtoms F w t'):TmAtoms F w t:=by
 intro v hv;obtain⟨b,kv,slv,rfl,hb,hc,B6,Bv,hs⟩:=jt hv;have c1:w (b,2)=kv:=by simp[RE,hc]
 have c2:w (b,3)=slv:=by simp[RE,hc]
 obtain⟨a,cap,rfl,hn,hlen,sG⟩:=zH hs;have e1:=sizeTm_mk t;have IH:=r9 ih;clear ih hc hv hs;have E1:=r9 e1;clear e1;have Ar:=hl.le;have hp3:=tmParts_len t;have HL:=r9 hlen;clear hlen;have AT:=r9 sG;clear sG;have base:Calls RG 52 #[b] w fun en w'=>en=.returned (.int RD (1+kindN (yT t)+yN (ze t):Nat))/\w'=w:=by
  have Cg:1+kindN (yT t)+yN (ze t)<=16777216:=by have:=E1.out;omega
  cases hk:yT t with
  | none =>
    obtain rfl:=B6 hk;rw[hk]at Cg;clear hk B6 Bv;simp only[kindN]at Cg ⊢;go_enter Xc,WF;go_wp2_with fail
    go_loop [3,24] (fun n i=>∃k:Nat,k<=(ze t).length/\i=.int RD k/\n=.int RD ((1+yN ((ze t).take k):Nat):Int)) (fun _ i=>(ze t).length-(intOf i).toNat)
    case atStart=>exact⟨0,R6 _,rfl,by simp[yN]⟩
    case round=>
     obtain⟨k,hk,rfl,rfl⟩:=hrel;by_cases sC:k<(ze t).length
     ·obtain⟨b',o,u,d,rfl,_,sA,hd,hu,hr⟩:=AT.out k sC;rw[S5,RP]at hd;obtain⟨t',al,rfl⟩:=hd;have hs:=mn al;have tw:=cK (ze t) (k+1);have oQ:=E1.out;have aF:=sumTm_mem (RX al);have IH':=r9 (IH.out t' (by omega));have HS:=r9 hs;have b1:1+yN ((ze t).take k)+zO t'<=16777216:=by omega
      clear hs al oQ tw aF;obtain⟨bu,eu⟩:=qO hr;subst eu;go_wp2_with fail
      refine(IH'.out _ hr).mono ?_;rintro en w' ⟨rfl,ew⟩;subst ew;go_wp2_with fail
      go_round
      case rel=>exact⟨k+1,by omega,by go_num,by rw[HS.out];go_num⟩
      case measure=>simp[intOf];omega
     ·go_wp2_with fail
      go_ret;have:k=(ze t).length:=by omega
      subst this;exact⟨yQ (by rw[R8]),rfl⟩
  | some kk =>
    have Cf:=Bv kk hk;rw[hk]at Cg;clear hk B6 Bv;simp only[kindN]at Cg ⊢;obtain⟨kb,ek⟩:∃ba,kv=.pointer (OK ⟨ba,0,U⟩):=by obtain⟨ba,_,h,_⟩:=zh Cf;exact⟨ba,h⟩
    subst ek;have CK:=r9 (uB F w (zU kk) kk (sZ _) (show _<=_ by omega) _ Cf);clear Cf;go_enter Xc,WF;go_wp2_with fail
    refine CK.out.mono ?_;rintro en w' ⟨rfl,ew⟩;subst w';go_wp2_with fail
    go_loop [3,24] (fun n i=>∃k:Nat,k<=(ze t).length/\i=.int RD k/\n=.int RD ((1+(1+zU kk)+yN ((ze t).take k):Nat):Int)) (fun _ i=>(ze t).length-(intOf i).toNat)
    case atStart=>exact⟨0,R6 _,rfl,by simp[yN]⟩
    case round=>
     obtain⟨k,hk,rfl,rfl⟩:=hrel;by_cases sC:k<(ze t).length
     ·obtain⟨b',o,u,d,rfl,_,sA,hd,hu,hr⟩:=AT.out k sC;rw[S5,RP]at hd;obtain⟨t',al,rfl⟩:=hd;have hs:=mn al;have tw:=cK (ze t) (k+1);have oQ:=E1.out;have aF:=sumTm_mem (RX al);have IH':=r9 (IH.out t' (by omega));have HS:=r9 hs;have b1:1+(1+zU kk)+yN ((ze t).take k)+zO t'<=16777216:=by omega
      clear hs al oQ tw aF;obtain⟨bu,eu⟩:=qO hr;subst eu;go_wp2_with fail
      refine(IH'.out _ hr).mono ?_;rintro en w' ⟨rfl,ew⟩;subst ew;go_wp2_with fail
      go_round
      case rel=>exact⟨k+1,by omega,by go_num,by rw[HS.out];go_num⟩
      case measure=>simp[intOf];omega
     ·go_wp2_with fail
      go_ret;have:k=(ze t).length:=by omega
      subst this;exact⟨yQ (by rw[R8]),rfl⟩
 rw[E1.out];exact base
theorem tmAtoms_any (F:Nat->Prop)(w:World)(n:Nat):∀t,zO t<=n->Lim n->TmAtoms F w t:=by
 induction n with
 |zero=>intro t h _;have:=sizeTm_mk t;omega
 |succ n ih=>exact fun t h hn=>tmAtoms_step F w t (hn.mono h) (fun t' h'=>ih t' (by omega) (hn.mono (by omega)))
theorem textT_atoms (k:Ty):zU k<=(zS k).length:=by
 have h1:=pV (zU k) k [] (by omega);have h2:=eh _ h1;simpa using h2
theorem uv:∀t:Tm,xA t->zO t<=(kK t).length
 | .nm x,h=>by
   rw[show kK (.nm x)=x from by unfold kK;rw[kg,zy],zO];exact Tg.2 (xG h).1
 | .wd x,h=>by
   rw[show kK (.wd x)=x from by unfold kK;rw[kg,zy],zO];exact Tg.2 (pG h).1
 | .lam x k t,h=>by
   have h1:=uv t h.2;have h2:=textT_atoms k;rw[xh,zO];simp;omega
 | .app m n,h=>by
   have h1:=uv m h.1;have h2:=uv n h.2;rw[xf,zO];simp;omega
 | .ite l m n,h=>by
   have h0:=uv l h.1;have h1:=uv m h.2.1;have h2:=uv n h.2.2;rw[xd,zO];simp;omega
def RTPost (w:World)(o:Option Tm)(en:Ending)(w':World):Prop:=
 ∃v,en=.returned v/\No w w'/\(o=U->v=.pointer U)/\(∀t,o=OK t->Rep (w<=·) w' (jT t) v)
theorem readTerm_any (l:Bs)(w:World)(hl:Lim l.length) :
 Calls RG 24 #[l] w (RTPost w (jW l)):=by
 have Ar:=hl.le;go_enter Tryz.func24,Tryz.ntmps24;go_wp2_with fail
 have oX:qL w [] 109 l (w.alloc (.cells #[l] 109)):=zW _ _;refine(term_any _ _ _ 60 (by omega) l _ oX hl).mono ?_;rintro en w1 ⟨v,r1,rfl,sX,iH,tK,tH⟩;have hb:No w w1:=((sQ w w).alloc (sZ _) _).trans (sX.toBelow (by simp) (fun i hi e=>by omega));rcases ha:jG 60 l with _|⟨t,r1'⟩
 ·obtain rfl:=tK ha;have Ha:=r9 ha;clear ha tK tH;go_wp2_with fail
  go_ret;exact⟨_,rfl,hb,fun _=>rfl,fun t h=>by simp[jW,Ha.out]at h⟩
 obtain⟨rfl,lp⟩:=tH _ _ ha;obtain⟨ba,rfl⟩:=qO lp;obtain⟨etx,sI,_⟩:=cL _ _ _ _ ha;have tV:=uv t sI;have hlen:=congrArg Td etx;rw[RL]at hlen;have lC:zO t<=l.length:=by omega
 have Ha:=r9 ha;clear ha tK tH etx sI tV hlen;have lJ:=iH.cell;have hz:(w:Nat)<w1:=yK iH;cases r1 with
 | cons x xs =>
   have hne:(!(x::xs).isEmpty)=true:=rfl;go_wp2_with fail
   go_ret;exact⟨_,rfl,hb,fun _=>rfl,fun t h=>by simp[jW,Ha.out]at h⟩
 | nil =>
   go_wp2_with fail
   refine(tmAtoms_any _ w1 (zO t) t (sZ _) (hl.mono lC) _ lp).mono ?_;rintro en w2 ⟨rfl,e2⟩;subst e2;by_cases Ea:zO t<=60
   ·go_wp2_with fail
    go_ret;have HM:jW l=t:=by simp[jW,Ha.out,Ea]
    exact⟨_,rfl,hb,fun h=>by simp[HM]at h,fun t' h=>by rw[HM]at h;simp at h;subst h;exact(Rep.keep fun b o h ho=>⟨by have:=h;simp at this;omega,ho⟩).1 _ _ lp⟩
   ·go_wp2_with fail
    go_ret;have HM:jW l=U:=by simp[jW,Ha.out,Ea]
    exact⟨_,rfl,hb,fun _=>rfl,fun t' h=>by rw[HM]at h;simp at h⟩
mutual
def eta:Ty->Nat->Nat->Bd
 |.mk ts,v,n=>.ask v (uw ts n (n+ts.length)) (.leaf 116) (.leaf 102)
def uw:List Ty->Nat->Nat->List Bd
 |[],_,_=>[]
 |t::ts,v,n=>eta t v n::uw ts (v+1) n
end
theorem eta_eq (t:Ty)(v n:Nat):eta t v n=.ask v (uw t.args n (n+t.args.length)) (.leaf 116) (.leaf 102):=by cases t;rw[eta];rfl
theorem wD:∀(ts:List Ty) (v n:Nat),(uw ts v n).length=ts.length
 |[],_,_=>by simp[uw]
 |t::ts,v,n=>by rw[uw,RU,wD ts,RU]
theorem etas_at:∀(ts:List Ty) (v n k:Nat) (t:Ty),ts[k]?=t->(uw ts v n)[k]?=OK (eta t (v+k) n)
 |[],v,n,k,t,h=>by simp at h
 | a::ts,v,n,k,t,h=>by
   rw[uw];cases k with
   |zero=>simp at h;subst h;simp
   |succ k=>simp only[RW] at *;rw[etas_at ts (v+1) n k t h,show v+1+k=v+(k+1) from by omega]
mutual
theorem eta_fit:∀(t:Ty) (v n:Nat) (hand:List Ty),hand.length=n->hand[v]?=t->qB (hand++t.args) (eta t v n)
 | .mk ts,v,n,hand,hn,hv=>by
   rw[eta,qB];have sC:=(RR.1 hv).1;refine⟨.mk ts,by rw[Sv sC];exact hv,?_,by simp[qB],by simp[qB]⟩;refine etas_fit ts n (n+ts.length) (hand++ts) (by simp[hn]) fun j t hj=>?_;subst hn;rw[Sr (by omega),VB];exact hj
theorem etas_fit:∀(ts:List Ty) (v n:Nat) (hand:List Ty),hand.length=n->(∀j t,ts[j]?=OK t->hand[v+j]?=OK t)->qZ (kx hand ts) (uw ts v n)
 |[],v,n,hand,_,_=>by rw[uw,qZ];rfl
 | t::ts,v,n,hand,hn,hv=>by
   rw[uw,qZ];refine⟨hand++t.args,kx hand ts,rfl,eta_fit t v n hand hn (by simpa using hv 0 t rfl),etas_fit ts (v+1) n hand hn fun j t' hj=>?_⟩;rw[show v+1+j=v+(j+1) from by omega];exact hv (j+1) t' (by simpa using hj)
end
mutual
theorem eta_wf:∀(t:Ty) (v n:Nat),wfB (eta t v n)
 |.mk ts,v,n=>by rw[eta,wfB];exact⟨etas_wf ts n _,.inl rfl,.inr (.inl rfl)⟩
theorem etas_wf:∀(ts:List Ty) (v n:Nat),uo (uw ts v n)
 |[],v,n=>by rw[uw];trivial
 |t::ts,v,n=>by rw[uw,uo];exact⟨eta_wf t v n,etas_wf ts (v+1) n⟩
end
mutual
theorem rG:∀(t:Ty) (v n:Nat),zG (eta t v n)<=3*zU t/\kq (eta t v n)<=zU t
 | .mk ts,v,n=>by
   have:=etas_size ts n (n+ts.length);rw[eta,zG,kq,zU];simp only[zG,kq] at *;omega
theorem etas_size:∀(ts:List Ty) (v n:Nat),zI (uw ts v n)<=3*zc ts/\k_ (uw ts v n)<=zc ts
 |[],v,n=>by simp[uw,zI,k_]
 | t::ts,v,n=>by
   have h1:=rG t v n;have h2:=etas_size ts (v+1) n;rw[uw,zI,k_,zc];omega
end
def cost:Bd->Nat
 |.leaf c=>if c=117 then 1 else 2
 |.ask _ ss y n=>4+costs ss+cost y+cost n
where costs:List Bd->Nat
 |[]=>0
 |s::ss=>1+cost s+costs ss
theorem ev_bd {d l v n:Nat}{ss:List Bd}{y no b':Bd}{t:Ty}{env e:List Mn}{st:List Gf}(h:env[v]?=OK (.bd t b' e)) :
 ev (d+1) (l+1) (.ask v ss y no) env n st=ev d l b' (e++jV env t.args ss) n (⟨y,no,env⟩::st):=by rw[ev.eq_def];simp only[h]
theorem ev_op {d l v n o:Nat}{ss:List Bd}{y no:Bd}{t:Ty}{env:List Mn}{st:List Gf}(h:env[v]?=OK (.op o t)) :
 ev (d+1) (l+1) (.ask v ss y no) env n st=(qQ (ev d) env n l t.args ss).bind fun x=>(ev d x.2 y env n st).bind fun z=>(ev d z.2 no env n st).bind fun u=>OK (.ask o x.1 z.1 u.1,u.2):=by rw[ev.eq_def];simp only[h];rfl
theorem ev_u {d l n:Nat}{env:List Mn}{st:List Gf}:ev (d+1) (l+1) (.leaf 117) env n st=OK (.leaf 117,l):=by rw[ev.eq_def];simp
theorem ev_end {d l n:Nat}{c:UInt8}{env:List Mn}:ev (d+1) (l+1) (.leaf c) env n []=OK (.leaf c,l):=by rw[ev.eq_def];simp
theorem ev_back {d l n:Nat}{c:UInt8}(h:c≠117){env:List Mn}{f:Gf}{st:List Gf}:ev (d+1) (l+1) (.leaf c) env n (f::st)=ev d l (if c=116 then f.yes else f.no) f.env n st:=by rw[ev.eq_def];simp only[if_neg h]
theorem owns_at {env:List Mn}:∀(ts:List Ty) (ss:List Bd) (k:Nat) (t:Ty) (s:Bd),ts[k]?=t->ss[k]?=s->(jV env ts ss)[k]?=OK (.bd t s env)
 |[],ss,k,t,s,h,_=>by simp at h
 |t'::ts,[],k,t,s,_,h=>by simp at h
 | t'::ts,s'::ss,k,t,s,h1,h2=>by
   rw[jV];cases k with
   |zero=>simp at h1 h2;subst h1;subst h2;rfl
   |succ k=>simp only[RW] at *;exact owns_at ts ss k t s h1 h2
theorem ff {env:List Mn}:∀(ts:List Ty) (ss:List Bd),ts.length=ss.length->(jV env ts ss).length=ts.length
 | [],[],_=>by rw [jV]
               ·rfl
               ·intros;contradiction
 |[],s::ss,h=>by simp at h
 |t::ts,[],h=>by simp at h
 |t::ts,s::ss,h=>by rw[jV];simp[ff ts ss (by simpa using h)]
theorem opens_at:∀(ts:List Ty) (n k:Nat) (t:Ty),ts[k]?=t->(opens n ts)[k]?=OK (.op (n+k) t)
 |[],n,k,t,h=>by simp at h
 | a::ts,n,k,t,h=>by
   rw[opens];cases k with
   |zero=>simp at h;subst h;rfl
   |succ k=>simp only[RW] at *;rw[opens_at ts (n+1) k t h,show n+1+k=n+(k+1) from by omega]
theorem qF:∀(ts:List Ty) (n:Nat),(opens n ts).length=ts.length
 |[],n=>by rw[opens];rfl
 |t::ts,n=>by rw[opens];simp[qF ts]
structure Copies (env:List Mn)(hand:List Ty):Prop where
 len:env.length=hand.length
 each:∀i t,hand[i]?=OK t->∃(v:Nat) (e:List Mn),env[i]?=OK (Mn.bd t (eta t v e.length) e)/\e[v]?=OK (Mn.op i t)
theorem Copies.more {env:List Mn}{hand:List Ty}(h:Copies env hand)(e2:List Mn)(ts:List Ty) :
 Copies (env++jV (e2++opens hand.length ts) ts (uw ts e2.length (e2.length+ts.length))) (hand++ts):=by
 have hl:=h.len;refine⟨?_,fun i t hi=>?_⟩
 ·rw[RL,RL,ff _ _ (wD _ _ _).symm,hl]
 ·rcases Nat.lt_or_ge i hand.length with sC|Bx
  ·rw[Sv sC]at hi;obtain⟨v,e,h1,h2⟩:=h.each i t hi;exact⟨v,e,by rw[Sv (by omega)];exact h1,h2⟩
  ·rw[Sr Bx]at hi;have h1:=etas_at ts e2.length (e2.length+ts.length) _ t hi;have h2:=owns_at (env:=e2++opens hand.length ts) ts _ _ t _ hi h1;have h3:=opens_at ts hand.length _ t hi;refine⟨e2.length+(i-hand.length),e2++opens hand.length ts,?_,?_⟩
   ·rw[Sr (by omega),hl,h2,RL,qF]
   ·rw[Sr (by omega),VB,h3,show hand.length+(i-hand.length)=i from by omega]
mutual
def d7:Mn->List DV
 |.op o t=>[.val (.int RD (o:Nat)),jk t,.val (.pointer U),.val (.slice U 0 0)]
 |.bd _ b e=>[.val (.int RD 0),.val (.pointer U),kM b,.sl 192 4 e.length (jZ e)]
def jZ:List Mn->List DV
 |[]=>[]
 |m::ms=>d7 m++jZ ms
end
theorem wE (m:Mn):(d7 m).length=4:=by cases m <;> simp[d7]
theorem d6:∀ms:List Mn,(jZ ms).length=ms.length*4
 |[]=>by simp[jZ]
 |m::ms=>by rw[jZ,RL,wE,d6 ms];simp;omega
theorem uP:∀(xs ys:List Mn),jZ (xs++ys)=jZ xs++jZ ys
 |[],ys=>by simp[jZ]
 |x::xs,ys=>by simp[jZ,uP xs ys]
theorem encMs_one (m:Mn):jZ [m]=d7 m:=by simp[jZ]
theorem zz.lit1 {w:World}{e:TypeId}{sz:Nat}(cs:Array Value)(hn:cs.size=sz)(hc:∀u∈cs.toList,u.oneCell'=true)(g:Nat)(hg:g=w):zz sz (.slice g 1 1) 1 cs.toList (w.alloc (.cells cs e)):=by
 subst hg;refine⟨by simp[hn],hc,.inl ⟨_,_,rfl,fun j u hu=>?_⟩⟩;unfold Addr.add;split
 ·subst j;simp;simpa using hu
 ·simp;simpa using hu
theorem Tryz.infoMn:(RG.info? 192).map (fun i=>(i.zero,i.size,i.bytes))=OK (OK (.agg #[.int RD 0,.pointer U,.pointer U,()]),4,48):=by kernel_rfl
def FreshV (w:World)(e:TypeId)(sz n:Nat)(P:World->List Value->Prop)(en:Ending)(w':World):Prop:=
 ∃a c xs,en=.returned (.slice a n c)/\Own w' e sz (.slice a n c) n xs/\P w' xs/\No w w'/\∀g,(RI a n c).ownBlock=OK g->(w:Nat)<=g
theorem nI:∀(ts:List Ty) (n:Nat) (t:Ty),opens n (ts++[t])=opens n ts++[.op (n+ts.length) t]
 |[],n,t=>by simp[opens]
 |a::ts,n,t=>by rw[R5,opens,opens,nI ts (n+1) t,R5,RU,show n+1+ts.length=n+(ts.length+1) from by omega]
theorem cO {ts:List Ty}{n k:Nat}{t:Ty}(h:ts[k]?=t):opens n (ts.take (k+1))=opens n (ts.take k)++[.op (n+k) t]:=by
 have hk:=(RR.1 h).1;rw[Sd,h];simp only[Option.toList_some];rw[nI,Sy,UQ (by omega)]
theorem fP {F:Nat->Prop}{w:World}{t:Ty}{v:Value}(h:Rep F w (jk t) v):∃b,v=.pointer (OK ⟨b,0,U⟩):=by
 cases t with
 |mk ts=>rw[jk,jx]at h;obtain⟨b,c,h,_⟩:=h;exact⟨b,h⟩
theorem e_ (F:Nat->Prop)(n:Nat)(ts:List Ty)(kv:Value)(w:World)(h:Rep F w (.sl 33 1 ts.length (qh ts)) kv)(hl:ts.length<=1000)(hn:n<=1000000) :
 Calls RG 102 #[(n:Int),kv] w (FreshV w 192 4 ts.length fun w' xs=>zY F w' (jZ (opens n ts)) xs):=by
 obtain⟨ka,kc,e,_,_,sG⟩:=zH h;subst e;have H:=r9 sG;clear sG h;go_enter Tryz.func102,Tryz.ntmps102;go_wp2_with fail
 go_loopw [5,10] (fun o i wr=>∃k:Nat,k<=ts.length/\i=.int RD k/\∃a c xs,o=.slice a k c/\Own wr 192 4 (.slice a k c) k xs/\zY (fun i=>F i/\i<w) wr (jZ (opens n (ts.take k))) xs/\No w wr/\(∀g,(RI a k c).ownBlock=OK g->(w:Nat)<=g)) (fun _ i _=>ts.length-(intOf i).toNat)
 case atStart=>exact⟨0,R6 _,rfl,U,0,[],rfl,Sf _ _ _ _,by simp[opens,jZ,zE],sQ _ _,fun g h=>by simp[RM]at h⟩
 case round=>
  obtain⟨k,hk,rfl,a,c,xs,rfl,ho,hr,hb,hf⟩:=hrel;have HO:=r9 ho;have HF:=r9 hf;have HB:=r9 hb;have HR:=r9 hr;clear ho hf hb hr;by_cases sC:k<ts.length
  ·have tB:(k:Int)<(ts.length:Int):=by omega
   obtain⟨b,o,u,d,e,_,tY,hd,hc,iK⟩:=H.out k sC;subst e;rw[yH,RP]at hd;obtain⟨t,ht,rfl⟩:=hd;obtain⟨ub,rfl⟩:=fP iK;have q0:=(HB.out.cell (p:=(b,o+k)) tY).trans hc;have HT:=r9 (r_ ht iK);clear ht iK hc;have OT:IntKind.i64.wrap ((n:Int)+(k:Int))=(n:Int)+(k:Int):=IntWalk.i64_in _ (by omega);clear OT;go_wp2_with (at_builtin;refine zF rfl _ _ 189 rfl 192 (.agg #[.int RD 0,.pointer U,.pointer U,.slice U 0 0]) 4 48 S9 Tryz.infoMn rfl (by decide) (.slice a k c) k xs rfl ?c1 _ 1 [.int RD ((n:Int)+(k:Int)),.pointer (OK ⟨ub,0,U⟩),.pointer U,.slice U 0 0] rfl ?c2 ?c3 ?c4 ?_)
   case c1=>exact HO.out.alloc _
   case c2=>exact zz.lit1 #[.int RD ((n:Int)+(k:Int)),.pointer (OK ⟨ub,0,U⟩),.pointer U,.slice U 0 0] rfl (by simp[R4]) _ (by simp)
   case c3=>unfold maxLen;omega
   case c4=>omega
   intro a' c' w7 sj sH sS;have tJ:No w w7:=by
    have h1:=HB.out;refine(h1.alloc h1.size _).trans (sH.toBelow (by rw[zK];have:=h1.size;omega) fun i hi e=>?_);have:=HF.out i e;omega
   have iA:∀g,(RI a' (k+1) c').ownBlock=OK g->w.heap.size<=g:=by
    intro g h;rcases sS g h with h|h
    ·exact HF.out g h
    ·have h2:=HB.out.size;omega
   have lS:zY (fun i=>F i/\i<w.heap.size) w7 (jZ (opens n (ts.take (k+1)))) (xs++[.int RD ((n:Int)+(k:Int)),.pointer (OK ⟨ub,0,U⟩),.pointer U,.slice U 0 0]):=by
    rw[cO HT.out.1,uP,encMs_one];refine zY.append ?_ ?_
    ·exact(Rep.keep fun b o hf ho=>⟨hf,by rw[tJ.block b hf.2,<- HB.out.block b hf.2];exact ho⟩).2 _ _ HR.out
    ·rw[d7];refine zQ.2 ⟨_,_,rfl,zC.2 (by rw[Int.natCast_add]),zQ.2 ⟨_,_,rfl,(Rep.keep fun b o hf ho=>⟨⟨hf,zZ ho⟩,by rw[tJ.block b (zZ ho)];exact ho⟩).1 _ _ HT.out.2,zQ.2 ⟨_,_,rfl,zC.2 rfl,zQ.2 ⟨_,_,rfl,zC.2 rfl,zE.2 rfl⟩⟩⟩⟩
   have HA:=r9 (r_ sj (r_ lS (r_ tJ iA)));clear sj lS tJ iA sH sS;go_wp2_with fail
   go_roundw
   case rel=>exact⟨k+1,by omega,by go_num,a',c',_,rfl,HA.out.1,HA.out.2.1,HA.out.2.2.1,HA.out.2.2.2⟩
   case measure=>simp[intOf];omega
  ·obtain rfl:k=ts.length:=by omega
   go_wp2_with fail
   go_ret;have h0:=HR.out;rw[R8]at h0;exact⟨a,c,xs,rfl,HO.out,(Rep.keep fun b o hf ho=>⟨hf.1,ho⟩).2 _ _ h0,HB.out,HF.out⟩
end Go.Proofs.YtnfenijemllkbaaGreatDoor
namespace Go.Proofs.YtnfenijemllkbaaGreatDoor
open Go.RowKit Go.Extern.Stop Go.Stop Go.Extern Go.Extern.Rtype
theorem Tryz.isTypeOf (v:Value)(w:World):(T9 #[.iface 268 v]).run RG w=.ok (.iface 249 (.agg #[.pointer (OK ⟨7,268,U⟩)])) w:=by kernel_rfl
theorem Tryz.callCmp (w:World):Sem.run RG (callFunc 176 #[.agg #[.pointer (OK ⟨7,268,U⟩)]]) w=.ok (.value (.bool true)) w:=by
 rw[@run_callFunc_extern RG 176 _ (T_ fun t=>do noPackHeld "Comparable" t;pure (.bool (<- typeInfo t).comparable)) Tryz.func176 (by kernel_rfl) (by kernel_rfl) (by kernel_rfl) (by kernel_rfl)];have h:((T_ fun t=>do noPackHeld "Comparable" t;pure (.bool (<- typeInfo t).comparable)) #[.agg #[.pointer (OK ⟨7,268,U⟩)]]).run RG w=.ok (.bool true) w:=by kernel_rfl
 rw[h];rfl
theorem Tryz.isMethodComparable (v:Value)(w:World):(Go.method 400 249 v "Comparable").run RG w=.ok (176,v) w:=by kernel_rfl
theorem Tryz.isComp:(RG.info? 268).map (·.comparable)=true:=by kernel_rfl
theorem Tryz.isSize:(RG.info? 270).map (·.size)=OK 1:=by kernel_rfl
theorem is_nil (b:Addr)(w:World):Calls RG 121 #[.nilIface,.iface 268 (.pointer (OK b))] w fun e w'=>e=.returned (.bool false)/\w'=w:=by
 have hn:=run_eql_iface_nil_left (P:=RG) w 268 (.pointer (OK b)) VW;go_enter WG,Wo;go_wp2;go_ret;exact⟨rfl,rfl⟩
theorem is_same (a:Addr)(w:World) :
 Calls RG 121 #[.iface 268 (.pointer (OK a)),.iface 268 (.pointer (OK a))] w fun e w'=>e=.returned (.bool true)/\w'=w:=by
 obtain⟨i,hi,Qp⟩:=RP.1 Tryz.isComp;obtain⟨j,hj,hjs⟩:=RP.1 Tryz.isSize;have h8:=@run_callFunc_extern RG 137 _ T9 Tryz.func137 (by kernel_rfl) (by kernel_rfl) (by kernel_rfl) (by kernel_rfl);have tT:=Tryz.isTypeOf;have cT:=Tryz.callCmp;have mR:=Tryz.isMethodComparable;have Di:=run_eql_iface_ptr_same (P:=RG) w a VW Tryz.underlying268 hi Qp hj;clear hi Qp hj hjs;go_enter WG,Wo;go_wp2;refine wp_loop_rounds 1 ?_;rw[rounds_succ];go_wp2;go_ret;exact⟨rfl,rfl⟩
def yF (w:World):Prop:=∃a,w.cell? ⟨0,0,U⟩=OK (.iface 268 (.pointer (OK a)))
theorem yF.but {m:Nat->Prop}{w w':World}(h:yF w)(hb:But m w w')(hm:¬m 0):yF w':=by
 obtain⟨a,h⟩:=h;exact⟨a,(hb.cell (sK w _ h) hm).trans h⟩
theorem yF.below {w w':World}(h:yF w)(hb:No w w'):yF w':=h.but (m:=fun _=>False) (But.ofBelow hb) (fun h=>h)
def Apl (w:World)(aa l:Nat):Prop:=w.heap[aa]?=OK (.cells #[(l:Int)] 216 (0,0))
theorem Apl.cell {w:World}{aa l:Nat}(h:Apl w aa l):w aa=OK (.int RD (l:Nat))/\w.frozen? aa=false/\aa<w:=by
 unfold Apl at h;exact⟨by simp[RE,h],by simp[RO,h],zZ h⟩
theorem Apl.below {w w':World}{aa l:Nat}(h:Apl w aa l)(hb:No w w'):Apl w' aa l:=by unfold Apl;rw[hb.block aa (zZ h)];exact h
theorem Rep.low {F:Nat->Prop}{w:World}{d:DV}{v:Value}(h:Rep F w d v):Rep (fun i=>F i/\i<w) w d v:=(Rep.keep fun _ _ hf ho=>⟨⟨hf,zZ ho⟩,ho⟩).1 _ _ h
theorem zY.low {F:Nat->Prop}{w:World}{d:List DV}{v:List Value}(h:zY F w d v):zY (fun i=>F i/\i<w) w d v:=(Rep.keep fun _ _ hf ho=>⟨⟨hf,zZ ho⟩,ho⟩).2 _ _ h
theorem Rep.weak {F G:Nat->Prop}{w:World}{d:DV}{v:Value}(h:Rep F w d v)(k:∀i,F i->G i):Rep G w d v:=(Rep.keep fun _ _ hf ho=>⟨k _ hf,ho⟩).1 _ _ h
def uI (F:Nat->Prop)(w:World)(aa n:Nat):List Gf->Value->Prop
 |[],v=>v=.nilFunc
 | f :: st,v=>∃ (b1 b2 b3 b4 b5:Nat) (bp ev on:Value) (vv:Nat) (ss:List Bd),v=.func (.func 135) #[] #[.pointer (some ⟨b1,0,none⟩),.pointer (some ⟨b2,0,none⟩),.pointer (some ⟨b3,0,none⟩),.pointer (some ⟨b4,0,none⟩),.pointer (some ⟨b5,0,none⟩)] /\
     (F b1/\F b2/\F b3/\F b4/\F b5)/\w b1=bp/\Rep F w (kM (.ask vv ss f.yes f.no)) bp/\w b2=OK (.pointer (OK ⟨aa,0,U⟩))/\w b3=ev/\Rep F w (.sl 192 4 f.env.length (jZ f.env)) ev/\w b4=OK (.int RD (n:Nat))/\w b5=on/\uI F w aa n st on
theorem uI.but {F G:Nat->Prop}{w w':World}{aa n:Nat}{m:Nat->Prop}(hb:But m w w')(hF:∀i,F i->¬m i/\G i):∀(st:List Gf) (v:Value),uI F w aa n st v->uI G w' aa n st v
 |[],v,h=>h
 | f::st,v,h=>by
   obtain⟨b1,b2,b3,b4,b5,bp,ev,on,vv,ss,e,⟨n1,n2,n3,n4,n5⟩,c1,r1,c2,c3,r3,c4,c5,r5⟩:=h;have k:∀ {b:Nat} {u:Value},F b->w b=u->w' b=u:=fun hn hc=>(hb.cell (sK w _ hc) (hF _ hn).1).trans hc;exact⟨b1,b2,b3,b4,b5,bp,ev,on,vv,ss,e,⟨(hF _ n1).2,(hF _ n2).2,(hF _ n3).2,(hF _ n4).2,(hF _ n5).2⟩,k n1 c1,r1.but hb hF,k n2 c2,k n3 c3,r3.but hb hF,k n4 c4,k n5 c5,uI.but hb hF st on r5⟩
theorem uI.low {F:Nat->Prop}{w:World}{aa n:Nat}:∀(st:List Gf) (v:Value),uI F w aa n st v->uI (fun i=>F i/\i<w) w aa n st v
 |[],v,h=>h
 | f::st,v,h=>by
   obtain⟨b1,b2,b3,b4,b5,bp,ev,on,vv,ss,e,⟨n1,n2,n3,n4,n5⟩,c1,r1,c2,c3,r3,c4,c5,r5⟩:=h;have lt:∀ {b:Nat} {u:Value},w b=u->b<w:=fun hc=>sK w _ hc;exact⟨b1,b2,b3,b4,b5,bp,ev,on,vv,ss,e,⟨⟨n1,lt c1⟩,⟨n2,lt c2⟩,⟨n3,lt c3⟩,⟨n4,lt c4⟩,⟨n5,lt c5⟩⟩,c1,Rep.low r1,c2,c3,Rep.low r3,c4,c5,uI.low st on r5⟩
mutual
def okM (B:Nat):Mn->Prop
 |.op o t=>zU t<=15/\o<=B
 |.bd t _ e=>zU t<=15/\e.length<=B/\xP B e
def xP (B:Nat):List Mn->Prop
 |[]=>True
 |m::ms=>okM B m/\xP B ms
end
mutual
theorem okM_mono {B C:Nat}(h:B<=C):∀m,okM B m->okM C m
 |.op o t,k=>by rw[okM] at *;exact⟨k.1,by omega⟩
 |.bd t b e,k=>by rw[okM] at *;exact⟨k.1,by omega,qY h e k.2.2⟩
theorem qY {B C:Nat}(h:B<=C):∀ms,xP B ms->xP C ms
 |[],_=>by rw[xP];trivial
 |m::ms,k=>by rw[xP] at *;exact⟨okM_mono h m k.1,qY h ms k.2⟩
end
theorem jg {B:Nat}:∀(a b:List Mn),xP B a->xP B b->xP B (a++b)
 |[],b,_,h=>h
 |x::a,b,h,k=>by rw[xP]at h;exact⟨h.1,jg a b h.2 k⟩
theorem bE {B:Nat}:∀(a:List Mn),xP B a->∀(k:Nat) (m:Mn),a[k]?=m->okM B m
 |[],_,k,m,h=>by simp at h
 | x::a,hs,k,m,h=>by
   rw[xP]at hs;cases k with
   |zero=>simp at h;subst h;exact hs.1
   |succ k=>exact bE a hs.2 k m (by simpa using h)
theorem jO {B:Nat}:∀(ts:List Ty) (n:Nat),(∀t∈ts,zU t<=15)->n+ts.length<=B+1->xP B (opens n ts)
 |[],n,_,_=>by rw[opens];trivial
 | t::ts,n,h,hn=>by
   simp only[RU]at hn;rw[opens,xP];exact⟨by rw[okM];exact⟨h t (by simp),by omega⟩,jO ts (n+1) (fun x hx=>h x (by simp[hx])) (by omega)⟩
theorem pX {B:Nat}{env:List Mn}(he:xP B env)(hl:env.length<=B):∀(ts:List Ty) (ss:List Bd),(∀t∈ts,zU t<=15)->xP B (jV env ts ss)
 | [],ss,_=>by
   rw[jV]
   ·trivial
   ·intros;contradiction
 | t::ts,[],_=>by
   rw[jV]
   ·trivial
   ·intros;contradiction
 |t::ts,s::ss,h=>by rw[jV,xP];exact⟨by rw[okM];exact⟨h t (by simp),hl,he⟩,pX he hl ts ss (fun x hx=>h x (by simp[hx]))⟩
def okGs (B:Nat):List Gf->Prop
 |[]=>True
 |f::fs=>f.env.length<=B/\xP B f.env/\okGs B fs
theorem vm {B C:Nat}(h:B<=C):∀fs,okGs B fs->okGs C fs
 |[],_=>trivial
 |f::fs,k=>⟨by have:=k.1;omega,qY h _ k.2.1,vm h fs k.2.2⟩
theorem zo {t:Ty}(h:zU t<=15):(∀a∈t.args,zU a<=15)/\t.args.length<=15:=by
 have hm:=kI t;constructor
 ·intro a ha;have key:∀ts:List Ty,a∈ts->1+zU a<=zc ts:=by
   intro ts
   induction ts with
   |nil=>intro h;simp at h
   | cons x xs ih =>
     intro h;rcases Sc.1 h with rfl|h
     ·simp only[zc];omega
     ·have:=ih h;simp only[zc];omega
  have:=key _ ha;omega
 ·have:=kW t.args;omega
def kR (F:Nat->Prop)(aa:Nat)(o:Option (Bd×Nat))(w:World)(en:Ending)(w':World):Prop:=
 But (· = aa) w w'/\(o=U->∃a,en=.returned (.tuple #[.pointer U,.iface 268 (.pointer (OK a))])/\w.cell? ⟨0,0,U⟩=OK (.iface 268 (.pointer (OK a)))) /\
  (∀out l,o=OK (out,l)->∃v,en=.returned (.tuple #[v,.nilIface])/\Apl w' aa l/\Rep (fun i=>F i\/w<=i) w' (kM out) v)
theorem kR.none {F:Nat->Prop}{aa:Nat}{o:Option (Bd×Nat)}{w w':World}{a:Addr}(ho:o=.none)(hb:But (· = aa) w w')(hc:w.cell? ⟨0,0,U⟩=OK (.iface 268 (.pointer (OK a)))) :
 kR F aa o w (.returned (.tuple #[.pointer U,.iface 268 (.pointer (OK a))])) w':=
 ⟨hb,fun _=>⟨a,rfl,hc⟩,fun _ _ h=>by rw[ho]at h;simp at h⟩
theorem kR.some {F:Nat->Prop}{aa:Nat}{o:Option (Bd×Nat)}{w w':World}{out:Bd}{l:Nat}{v:Value}(ho:o=.some (out,l))(hb:But (· = aa) w w')(ha:Apl w' aa l)(hr:Rep (fun i=>F i\/w<=i) w' (kM out) v) :
 kR F aa o w (.returned (.tuple #[v,.nilIface])) w':=
 ⟨hb,fun h=>by rw[ho]at h;simp at h,fun _ _ h=>by rw[ho]at h;simp at h;obtain⟨rfl,rfl⟩:=h;exact⟨v,rfl,ha,hr⟩⟩
structure gX (F:Nat->Prop)(aa l d n:Nat)(H:List Ty)(b:Bd)(env:List Mn)(st:List Gf)(bv ev on:Value)(w:World):Prop where
 glob:yF w
 hF:∀i,F i->i≠aa
 ng:aa≠0
 apl:Apl w aa l
 ld:l<=d
 d20:d<=20000
 fit:jo H b env st
 hn:H.length=n
 el:env.length+16*d<=1000000
 nl:n+16*d<=1000000
 ok:xP (1000000-16*d) env
 okg:okGs (1000000-16*d) st
 rb:Rep F w (kM b) bv
 re:Rep F w (.sl 192 4 env.length (jZ env)) ev
 ro:uI F w aa n st on
def pE (d:Nat):Prop:=∀(F:Nat->Prop) (aa l n:Nat) (H:List Ty) (b:Bd) (env:List Mn) (st:List Gf) (bv ev on:Value) (w:World),gX F aa l d n H b env st bv ev on w->
 Calls RG 120 #[aa,bv,ev,(n:Int),on] w (kR F aa (Zq d l b env n st) w)
theorem after_any (d:Nat)(ih:pE d)(F:Nat->Prop)(aa l n:Nat)(H:List Ty)(f:Gf)(st:List Gf)(b1 b2 b3 b4 b5:Nat)(bp ev on:Value)(vv:Nat)(ss:List Bd)(w:World)(c:UInt8)(hg:yF w)(hF:∀i,F i->i≠aa)(KM:aa≠0)(ha:Apl w aa l)(Ev:l<=d)(hd:d<=20000)(hf:jo H (if c=116 then f.yes else f.no) f.env st)(hn:H.length=n)(BU:f.env.length+16*d<=1000000)(Ce:n+16*d<=1000000)(sI:xP (1000000-16*d) f.env)(Mq:okGs (1000000-16*d) st)(c1:w b1=bp)(r1:Rep F w (kM (.ask vv ss f.yes f.no)) bp)(c2:w b2=OK (.pointer (OK ⟨aa,0,U⟩)))(c3:w b3=ev)(r3:Rep F w (.sl 192 4 f.env.length (jZ f.env)) ev)(c4:w b4=OK (.int RD (n:Nat)))(c5:w b5=on)(r5:uI F w aa n st on) :
 Calls RG 135 #[.bool (decide (c=116)),b1,b2,b3,b4,b5] w (kR F aa (Zq d l (if c=116 then f.yes else f.no) f.env n st) w):=by
 obtain⟨bb,sl,yv,nv,rfl,_,sW,_,ry,rn⟩:=uL r1;have q3:w (bb,3)=yv:=by simp[RE,sW]
 have q4:w (bb,4)=nv:=by simp[RE,sW]
 have IH:=r9 ih
 have key:∀(b:Bd) (bv:Value),jo H b f.env st->Rep F w (kM b) bv->Calls RG 120 #[aa,bv,ev,(n:Int),on] w (kR F aa (Zq d l b f.env n st) w):=
  fun b bv hf hr=>IH.out F aa l n H b f.env st bv ev on w ⟨hg,hF,KM,ha,Ev,hd,hf,hn,BU,Ce,sI,Mq,hr,r3,r5⟩
 by_cases hc:c=116
 ·rw[if_pos hc]at hf ⊢;rw[decide_eq_true hc];have K0:=key _ _ hf ry;generalize Zq d l f.yes f.env n st=o at *;have K:=r9 K0;clear key K0 hf ry rn r1 r3 r5 sW IH ih sI Mq hg hF ha hn hc;go_enter WH,Wp;go_wp2_with fail
  (with_reducible refine K.out.mono ?_);rintro en w1 ⟨sX,tK,tH⟩
  cases o with
  | none =>
    obtain⟨a,rfl,hc⟩:=tK rfl;have HB:=r9 (r_ sX hc);clear sX tK tH hc;go_wp2_with fail
    go_ret2
    exact kR.none rfl HB.out.1 HB.out.2
  | some x =>
    obtain⟨v,rfl,ha,hr⟩:=tH x.1 x.2 rfl;have HB:=r9 (r_ sX (r_ ha hr));clear sX tK tH ha hr;go_wp2_with fail
    go_ret2
    exact kR.some rfl HB.out.1 HB.out.2.1 HB.out.2.2
 ·rw[if_neg hc]at hf ⊢;rw[decide_eq_false hc];have K0:=key _ _ hf rn;generalize Zq d l f.no f.env n st=o at *;have K:=r9 K0;clear key K0 hf ry rn r1 r3 r5 sW IH ih sI Mq hg hF ha hn hc;go_enter WH,Wp;go_wp2_with fail
  (with_reducible refine K.out.mono ?_);rintro en w1 ⟨sX,tK,tH⟩
  cases o with
  | none =>
    obtain⟨a,rfl,hc⟩:=tK rfl;have HB:=r9 (r_ sX hc);clear sX tK tH hc;go_wp2_with fail
    go_ret2
    exact kR.none rfl HB.out.1 HB.out.2
  | some x =>
    obtain⟨v,rfl,ha,hr⟩:=tH x.1 x.2 rfl;have HB:=r9 (r_ sX (r_ ha hr));clear sX tK tH ha hr;go_wp2_with fail
    go_ret2
    exact kR.some rfl HB.out.1 HB.out.2.1 HB.out.2.2
theorem vd {F:Nat->Prop}{w:World}:∀(ms:List Mn) (us:List Value),zY F w (jZ ms) us->∀u∈us,u.oneCell'=true
 |[],us,h,u,hu=>by rw[jZ,zE]at h;subst h;simp at hu
 | m::ms,us,h,u,hu=>by
   rw[jZ]at h;obtain⟨h1,h2⟩:=h.split;rw[wE]at h1 h2;rw[<- R7 4 us]at hu;rcases List.mem_append.1 hu with hu|hu
   ·cases m with
    | op o t =>
      simp only[d7,zQ,zE,zC]at h1;obtain⟨_,_,e,rfl,kv,_,rfl,hk,_,_,rfl,rfl,_,_,rfl,rfl,rfl⟩:=h1;rw[e]at hu;obtain⟨kb,rfl⟩:=fP hk;simp only[Sc,Vc,or_false]at hu;rcases hu with rfl|rfl|rfl|rfl <;> rfl
    | bd t b en =>
      simp only[d7,zQ,zE,zC]at h1;obtain⟨_,_,e,rfl,_,_,rfl,rfl,bv,_,rfl,hk,sv,_,rfl,hs,rfl⟩:=h1;rw[e]at hu;obtain⟨kb,rfl⟩:=zg hk;rw[zv]at hs;obtain⟨_,a,c,rfl,_⟩:=hs;simp only[Sc,Vc,or_false]at hu;rcases hu with rfl|rfl|rfl|rfl <;> rfl
   ·exact vd ms _ h2 u hu
theorem mean_at {F:Nat->Prop}{w:World}{env:List Mn}{ev:Value}(h:Rep F w (.sl 192 4 env.length (jZ env)) ev){v:Nat}{m:Mn}(hc:env[v]?=m) :
 ∃b o cap x0 x1 x2 x3,ev=.slice (b,o) env.length cap/\F b/\b<(w:Nat)/\w (b,o+v*4)=OK x0/\w (b,o+v*4+1)=OK x1/\w (b,o+v*4+2)=OK x2/\w (b,o+v*4+3)=OK x3/\zY F w (d7 m) [x0,x1,x2,x3]:=by
 have hv:=(RR.1 hc).1;rw[zv]at h;obtain⟨hl,a,cap,rfl,hn,hz,h⟩:=h;rcases h with h0|⟨b,o,cs,fr,rfl,hb,aP,hr⟩
 ·omega
 have Be:jZ env=jZ (env.take v)++(d7 m++jZ (env.drop (v+1))):=by
  have e:env=env.take v++m::env.drop (v+1):=by
   have:env[v]=m:=(RR.1 hc).2;rw[<- this,List.getElem_cons_drop,R7]
  conv=>lhs;rw[e]
  rw[uP,jZ]
 rw[Be]at hr;have h2:=hr.split.2;rw[d6,Sy,UQ (by omega)]at h2;have h3:=h2.split.1;rw[wE]at h3;have hlen:=h3.length;rw[wE]at hlen;obtain⟨x0,x1,x2,x3,e1⟩:∃x0 x1 x2 x3,(((cs.toList.drop o).take (env.length*4)).drop (v*4)).take 4=[x0,x1,x2,x3]:=by
  match hq:(((cs.toList.drop o).take (env.length*4)).drop (v*4)).take 4,hlen with
  |[a,b,c,d],_=>exact⟨a,b,c,d,rfl⟩
 rw[e1]at h3;have get:∀(j:Nat) (u':Value),j<4->[x0,x1,x2,x3][j]?=u'->w (b,o+v*4+j)=u':=by
  intro j u' hj h;rw[<- e1,Su,if_pos hj,SA,Su,if_pos (by omega),SA]at h;simp only[RE,aP];simpa[Nat.add_assoc] using h
 exact⟨b,o,cap,x0,x1,x2,x3,rfl,hb,zZ aP,get 0 _ (by omega) rfl,get 1 _ (by omega) rfl,get 2 _ (by omega) rfl,get 3 _ (by omega) rfl,h3⟩
theorem mJ (f:Nat->Bd->List Mn->Nat->List Gf->Option (Bd×Nat))(env:List Mn)(n:Nat)(t:Ty)(s:Bd):∀(ts:List Ty) (ss:List Bd) (l:Nat),ts.length=ss.length->
 qQ f env n l (ts++[t]) (ss++[s])=(qQ f env n l ts ss).bind fun x=>(f x.2 s (env++opens n t.args) (n+t.args.length) []).bind fun y=>OK (x.1++[y.1],y.2)
 | [],[],l,_=>by
   simp only[List.nil_append,qQ,RJ,RF]
 |[],s'::ss,l,h=>by simp at h
 |t'::ts,[],l,h=>by simp at h
 | t'::ts,s'::ss,l,h=>by
   simp only[R5,qQ,RJ];cases h1:f l s' (env++opens n t'.args) (n+t'.args.length) [] with
   |none=>rfl
   | some x =>
     simp only[RF];rw[mJ f env n t s ts ss x.2 (by simpa using h)];cases h2:qQ f env n x.2 ts ss with
     |none=>rfl
     | some y =>
       simp only[RF];cases h3:f y.2 s (env++opens n t.args) (n+t.args.length) [] with
       |none=>rfl
       |some z=>rfl
theorem evSubs_take {f:Nat->Bd->List Mn->Nat->List Gf->Option (Bd×Nat)}{env:List Mn}{n l k:Nat}{ts:List Ty}{ss:List Bd}{t:Ty}{s:Bd}(ht:ts[k]?=t)(hs:ss[k]?=s) :
 qQ f env n l (ts.take (k+1)) (ss.take (k+1))=(qQ f env n l (ts.take k) (ss.take k)).bind fun x=>(f x.2 s (env++opens n t.args) (n+t.args.length) []).bind fun y=>OK (x.1++[y.1],y.2):=by
 have h1:=(RR.1 ht).1;have h2:=(RR.1 hs).1;rw[Sd,Sd,ht,hs];exact mJ f env n t s _ _ l (by rw[Sy,Sy];omega)
theorem mU {f:Nat->Bd->List Mn->Nat->List Gf->Option (Bd×Nat)}{env:List Mn}{n:Nat}:∀(k:Nat) (ts:List Ty) (ss:List Bd) (l:Nat),qQ f env n l (ts.take k) (ss.take k)=U->qQ f env n l ts ss=U
 |0,ts,ss,l,h=>by simp[qQ]at h
 |k+1,[],ss,l,h=>by simp[qQ]at h
 |k+1,t::ts,[],l,h=>by simp[qQ]at h
 | k+1,t::ts,s::ss,l,h=>by
   simp only[List.take_succ_cons,qQ,RJ]at h ⊢;cases h1:f l s (env++opens n t.args) (n+t.args.length) [] with
   |none=>rfl
   | some x =>
     rw[h1]at h;simp only[RF]at h ⊢;cases h2:qQ f env n x.2 (ts.take k) (ss.take k) with
     |none=>rw[mU k ts ss x.2 h2];rfl
     |some y=>rw[h2]at h;simp at h
theorem mY {d:Nat}(ih:∀(l:Nat) (b:Bd) (env:List Mn) (n:Nat) (st:List Gf) (r:Bd) (l':Nat),Zq d l b env n st=OK (r,l')->l'<=l){env:List Mn}{n:Nat} :
 ∀(ts:List Ty) (ss:List Bd) (l:Nat) (xs:List Bd) (l':Nat),qQ (Zq d) env n l ts ss=OK (xs,l')->l'<=l
 |[],ss,l,xs,l',h=>by simp[qQ]at h;omega
 |t::ts,[],l,xs,l',h=>by simp[qQ]at h;omega
 | t::ts,s::ss,l,xs,l',h=>by
   simp only[qQ,RJ,RH,Prod.exists]at h;obtain⟨x,l1,h1,ys,l2,h2,h3⟩:=h;simp at h3;have k1:=ih _ _ _ _ _ _ _ h1;have k2:=mY ih ts ss _ _ _ h2;omega
theorem ev_left (d:Nat):∀(l:Nat) (b:Bd) (env:List Mn) (n:Nat) (st:List Gf) (r:Bd) (l':Nat),Zq d l b env n st=OK (r,l')->l'<=l:=by
 induction d with
 |zero=>intro l b env n st r l' h;simp[Zq]at h
 | succ d ih =>
   intro l b env n st r l' h;cases l with
   |zero=>rw[ev.eq_def]at h;simp at h
   | succ l =>
     cases b with
     | leaf c =>
       by_cases hc:c=117
       ·subst hc;rw[ev_u]at h;simp at h;omega
       ·cases st with
        |nil=>rw[ev_end]at h;simp at h;omega
        |cons f st=>rw[ev_back hc]at h;have:=ih _ _ _ _ _ _ _ h;omega
     | ask v ss y no =>
       cases hv:env[v]? with
       |none=>rw[ev.eq_def]at h;simp[hv]at h
       | some m =>
         cases m with
         |bd t b' e=>rw[ev_bd hv]at h;have:=ih _ _ _ _ _ _ _ h;omega
         | op o t =>
           rw[ev_op hv]at h;simp only[RH,Prod.exists]at h;obtain⟨xs,l1,h1,x,l2,h2,z,l3,h3,h4⟩:=h;simp at h4;have k1:=mY ih _ _ _ _ _ h1;have k2:=ih _ _ _ _ _ _ _ h2;have k3:=ih _ _ _ _ _ _ _ h3;omega
theorem pr (xs:List Bd)(x:Bd):qH (xs++[x])=qH xs++[kM x]:=by
 induction xs with
 |nil=>simp[qH]
 |cons y ys ih=>simp[qH,ih]
structure KInv (F:Nat->Prop)(aa l n d o:Nat)(env:List Mn)(ts:List Ty)(ss:List Bd)(kv:Value)(w:World)(k lk:Nat)(outs:List Bd)(sv:Value)(us:List Value)(wr:World):Prop where
 evk:qQ (Zq d) env n l (ts.take k) (ss.take k)=OK (outs,lk)
 ol:outs.length=k
 but:But (· = aa) w wr
 zw:(w:Nat)+2<=(wr:Nat)
 apl:Apl wr aa lk
 lkl:lk<=l
 box:wr.heap[(w:Nat)]?=OK (.cells #[(o:Int),kv,.pointer U,()] 192 (0,0))
 blk:wr.heap[(w:Nat)+1]?=OK (.cells #[str [],(o:Int),sv,.pointer U,.pointer U] 71 (0,0))
 own:Own wr 34 1 sv k us
 rep:zY (fun i=>((F i/\i<w)\/w+2<=i)/\sv.ownBlock≠OK i) wr (qH outs) us
 fr:∀g,sv.ownBlock=OK g->(w:Nat)+2<=g
theorem p9 {w:World}{P:Nat}{a b c d e:Value}{T:TypeId}(h:w.heap[P]?=OK (.cells #[a,b,c,d,e] T (0,0))):w P=OK a/\w (P,1)=OK b/\w (P,2)=OK c/\w (P,3)=OK d/\w (P,4)=OK e/\(∀o,w.frozen? ⟨P,o,U⟩=false):=
 ⟨by simp[RE,h],by simp[RE,h],by simp[RE,h],by simp[RE,h],by simp[RE,h],fun o=>by simp[RO,h]⟩
theorem kD {w:World}{P:Nat}{a b c d:Value}{T:TypeId}(h:w.heap[P]?=OK (.cells #[a,b,c,d] T (0,0))):w P=a/\w (P,1)=b/\w (P,2)=c/\w (P,3)=d:=
 ⟨by simp[RE,h],by simp[RE,h],by simp[RE,h],by simp[RE,h]⟩
theorem Own.src {w:World}{e:TypeId}{sz n:Nat}{v:Value}{xs:List Value}(h:Own w e sz v n xs)(hc:∀u∈xs,u.oneCell'=true):zz sz v n xs w:=by
 refine⟨h.1,hc,?_⟩;rcases h.2 with ⟨e,h0⟩|⟨g,cap,cur,e,_,hg,_,_,_,ht⟩
 ·exact .inr ⟨e,h0⟩
 ·refine .inl ⟨_,cap,e,fun j u hj=>?_⟩;rw[<- ht,Su]at hj;split at hj
  ·unfold Addr.add;split
   ·subst j;simp only[RE,hg];simpa using hj
   ·simp only[RE,hg];simpa using hj
  ·simp at hj
structure KeptPre (F:Nat->Prop)(aa l d n o vv:Nat)(H:List Ty)(t:Ty)(ss:List Bd)(y no:Bd)(env:List Mn)(st:List Gf)(bv kv ev on:Value)(w:World):Prop where
 glob:yF w
 hF:∀i,F i->i≠aa
 ng:aa≠0
 apl:Apl w aa l
 ld:l<=d
 d20:d<=20000
 hlen:ss.length=t.args.length
 at15:zU t<=15
 sub:∀(k:Nat) (a:Ty) (s:Bd),t.args[k]?=a->ss[k]?=s->jo (H++a.args) s (env++opens H.length a.args) []
 fy:jo H y env st
 fn:jo H no env st
 hn:H.length=n
 el:env.length+16*(d+1)<=1000000
 nl:n+16*(d+1)<=1000000
 ok:xP (1000000-16*(d+1)) env
 okg:okGs (1000000-16*(d+1)) st
 rb:Rep F w (kM (.ask vv ss y no)) bv
 rk:Rep F w (jk t) kv
 re:Rep F w (.sl 192 4 env.length (jZ env)) ev
 ro:uI F w aa n (⟨y,no,env⟩::st) on
def x6 (d l n o:Nat)(t:Ty)(ss:List Bd)(y no:Bd)(env:List Mn)(st:List Gf):Option (Bd×Nat):=
 (qQ (Zq d) env n l t.args ss).bind fun x=>(Zq d x.2 y env n st).bind fun z=>(Zq d z.2 no env n st).bind fun u=>OK (.ask o x.1 z.1 u.1,u.2)
theorem kept_any (d:Nat)(ih:pE d)(F:Nat->Prop)(aa l n o vv:Nat)(H:List Ty)(t:Ty)(ss:List Bd)(y no:Bd)(env:List Mn)(st:List Gf)(bv kv ev on:Value)(w:World)(h:KeptPre F aa l d n o vv H t ss y no env st bv kv ev on w) :
 Calls RG 136 #[aa,bv,.agg #[(o:Int),kv,.pointer U,()],ev,(n:Int),on] w (kR F aa (x6 d l n o t ss y no env st) w):=by
 have HP:=r9 h;have IH:=r9 ih;obtain⟨bb,sl,yv,nv,e,AJ,sW,tt,_,_⟩:=uL h.rb;subst e;obtain⟨kb,ks,e,hkF,ic,Bv⟩:=zh h.rk;subst e;obtain⟨sa,sc,e,_,_,Hg⟩:=zH tt;subst e;obtain⟨ka,kc,e,_,_,DD⟩:=zH Bv;subst e;obtain⟨exs,Io,BA⟩:=zz.ofRep h.re (vd env);obtain⟨ea,ec,e⟩:=BA.slice;subst e;obtain⟨b1,b2,b3,b4,b5,bp,ev5,on5,vv5,ss5,e,⟨n1,n2,n3,n4,n5⟩,c1,r1,c2,c3,r3,c4,c5,r5⟩:=h.ro;subst e;have MB:ss.length<=15:=by rw[h.hlen];exact(zo h.at15).2
 have hl16':t.args.length<=15:=(zo h.at15).2;have QT:=r9 h.hlen;have Ce:=h.nl;have BU:=h.el;have hbaa:=h.hF _ AJ;have hkaa:=h.hF _ hkF;have tY:=zZ sW;have il:=zZ ic;have NT:=h.apl.cell.2.2;have Cv:w (bb,2)=OK (.slice sa ss.length sc):=by simp[RE,sW]
 have Fc:w kb=OK (.slice ka t.args.length kc):=by simp[RE,ic]
 have HA:=r9 (r_ Hg (r_ DD (r_ Io BA)));have HC:=r9 (r_ (r_ n1 (r_ n2 (r_ n3 (r_ n4 n5)))) (r_ c1 (r_ r1 (r_ c2 (r_ c3 (r_ r3 (r_ c4 (r_ c5 r5))))))));clear h ih sW tt ic Bv Hg DD Io BA n1 n2 n3 n4 n5 c1 r1 c2 c3 r3 c4 c5 r5 AJ hkF;go_enter Tryz.func136,Tryz.ntmps136;go_wp2_with fail
 go_loopw [31] (fun i wr=>∃(k lk:Nat) (outs:List Bd) (sv:Value) (us:List Value),k<=ss.length/\i=.int RD k/\KInv F aa l n d o env t.args ss (.pointer (OK ⟨kb,0,U⟩)) w k lk outs sv us wr) (fun i _=>ss.length-(intOf i).toNat)
 case atStart=>
  refine⟨0,l,[],(),[],R6 _,rfl,?_⟩;have iJ:No w ((w.alloc (.cells #[(o:Int),kb,.pointer U,()] 192)).alloc (.cells #[str [],(o:Int),(),.pointer U,.pointer U] 71)):=((sQ _ _).alloc (sZ _) _).alloc (by rw[zK];omega) _;refine { evk:=by simp[qQ],ol:=rfl,but:=But.ofBelow iJ,zw:=by simp,apl:=HP.out.apl.below iJ,lkl:=sZ _,box:=zJ (zW _ _),blk:=?_,own:=Sf _ _ _ _,rep:=by simp[qH,zE],fr:=fun g hg=>by simp[RM]at hg };have:=zW (w.alloc (.cells #[(o:Int),kb,.pointer U,()] 192)) (.cells #[str [],(o:Int),(),.pointer U,.pointer U] 71);rwa [zK]at this
 case round=>
  rename_i wr;obtain⟨k,lk,outs,sv,us,hk,rfl,sN⟩:=hrel;have HI:=r9 sN;clear sN;by_cases sC:k<ss.length
  ·have tB:(k:Int)<(ss.length:Int):=by omega
   have hlta:k<t.args.length:=by have:=QT.out;omega
   have hlta':(k:Int)<(t.args.length:Int):=by omega
   obtain⟨sb,so,u,d1,e,DQ,lF,F3,lJ,iK⟩:=HA.out.1 k sC;subst e;rw[yC,RP]at F3;obtain⟨s,hs,rfl⟩:=F3;obtain⟨ub,rfl⟩:=zg iK;obtain⟨D0,FD,u2,d2,e,Lb,Kr,K4,oI,tq⟩:=HA.out.2.1 k hlta;subst e;rw[yH,RP]at K4;obtain⟨a,ha,rfl⟩:=K4;obtain⟨kab,s2,rfl,hF3,PU,FK⟩:=zh tq;obtain⟨a3,k3,rfl⟩:∃a3 k3,s2=.slice a3 a.args.length k3:=by have h:=FK;rw[zv]at h;obtain⟨_,a,c,e,_⟩:=h;exact⟨a,c,e⟩
   have D9:zU a<=15:=(zo HP.out.at15).1 a (RX ha);have As:=(zo D9).2;have kF:∀ {b:Nat} {j:Nat} {x:Value},F b->w (b,j)=x->wr (b,j)=x:=fun hb hc=>(HI.out.but.cell (sK w _ hc) (HP.out.hF _ hb)).trans hc;have q0:=kF DQ lJ;have q1:wr kb=OK (.slice (D0,FD) t.args.length kc):=(HI.out.but.cell il hkaa).trans Fc;have q2:=kF Lb oI;have q3:wr kab=OK (.slice a3 a.args.length k3):=kF hF3 (by simp[RE,PU]);obtain⟨x0,x1,x2,x3⟩:=kD HI.out.box;have aD:zz 4 (.slice ea env.length ec) env.length exs wr:=bV HI.out.but (fun b hb=>HP.out.hF b hb) HP.out.re HA.out.2.2.2;have HK:=r9 (r_ hs (r_ iK (r_ ha (r_ FK aD))));have Al:=HI.out.zw;clear hs iK ha tq FK PU aD kF lJ oI DQ Lb hF3 Fc Cv;go_wp2_with (at_builtin;refine zF rfl _ _ 189 rfl 192 (.agg #[.int RD 0,.pointer U,.pointer U,()]) 4 48 S9 Tryz.infoMn rfl (by decide) () 0 [] rfl ?a1 _ env.length exs rfl ?a2 ?a3 ?a4 ?_)
   case a1=>exact Sf _ _ _ _
   case a2=>exact HK.out.2.2.2.2
   case a3=>unfold maxLen;omega
   case a4=>omega
   intro a6 c6 w6 FS sM F1;have Ae:No wr w6:=sM.toBelow (sZ _) (fun i _ e=>by simp[RM]at e);have K3:∀g,(RI a6 env.length c6).ownBlock=OK g->(wr:Nat)<=g:=fun g hg=>by
    rcases F1 g hg with h|h
    ·simp[RM]at h
    ·omega
   have Pg:Rep (fun i=>F i/\i<w) w6 (.sl 33 1 a.args.length (qh a.args)) (.slice a3 a.args.length k3):=
    Rep.below Ae (fun _ h=>h) ((Rep.low HK.out.2.2.2.1).but HI.out.but (fun b hb=>⟨HP.out.hF b hb.1,hb⟩))
   have C7:=r9 (e_ (fun i=>F i/\i<w) n a.args (.slice a3 a.args.length k3) w6 Pg (by omega) (by omega));have H6:=r9 (r_ FS (r_ Ae K3));clear FS sM F1 Ae K3 Pg x0 x1 x2 x3 q0 q1 q2 q3;go_wp2_with fail
   (with_reducible refine C7.out.mono ?_);rintro en w7 ⟨a7,c7,xs7,rfl,sj,lS,sH,iA⟩
   clear C7;have Pv:Own w7 192 4 (.slice a6 env.length c6) env.length exs:=H6.out.1.keep fun g o hg hh=>by rw[sH.block g (zZ hh)];exact hh
   have Gs:=sj.src (vd _ _ lS);have QA:No wr w7:=zzT H6.out.2.1 sH;have H7:=r9 (r_ Pv (r_ Gs (r_ lS QA)));clear Pv Gs lS QA sj sH iA;go_wp2_with (at_builtin;refine zF rfl _ _ 189 rfl 192 (.agg #[.int RD 0,.pointer U,.pointer U,()]) 4 48 S9 Tryz.infoMn rfl (by decide) (.slice a6 env.length c6) env.length exs rfl ?e1 _ a.args.length xs7 rfl ?e2 ?e3 ?e4 ?_)
   case e1=>exact H7.out.1
   case e2=>exact H7.out.2.1
   case e3=>unfold maxLen;omega
   case e4=>omega
   intro a8 c8 w8 KI aw Qb;have hz67:=H7.out.2.2.2.size;have JV:No wr w8:=H7.out.2.2.2.trans (aw.toBelow hz67 fun i hi e=>by have:=H6.out.2.2 i e;omega);have ll:∀g,(RI a8 (env.length+a.args.length) c8).ownBlock=OK g->(wr:Nat)<=g:=fun g hg=>by
    rcases Qb g hg with h|h
    ·exact H6.out.2.2 g h
    ·omega
   have C8:But (· = aa) w w8:=HI.out.but.trans (But.ofBelow JV);have QW:∀i,(((F i/\i<(w:Nat))\/(w:Nat)+2<=i)/\sv.ownBlock≠OK i)->i≠aa:=fun i hi=>by
    rcases hi.1 with hi|hi
    ·exact HP.out.hF i hi.1
    ·omega
   have Jw:∀i,i<(w:Nat)->sv.ownBlock≠OK i:=fun i hi e=>by have:=HI.out.fr i e;omega
   have OR:∀i,sv.ownBlock=OK i->i<(wr:Nat):=fun i e=>HI.out.own.lt e;have lowB:∀ {dv:DV} {v:Value},Rep F w dv v->Rep (fun i=>((F i/\i<w)\/w+2<=i)/\sv.ownBlock≠OK i) w8 dv v:=fun h=>(Rep.low h).but C8 (fun b hb=>⟨HP.out.hF b hb.1,.inl hb,Jw b hb.2⟩);have Pi:Rep (fun i=>((F i/\i<w)\/w+2<=i)/\sv.ownBlock≠OK i) w8 (.sl 192 4 (env++opens n a.args).length (jZ (env++opens n a.args))) (.slice a8 (env.length+a.args.length) c8):=by
    rw[RL,qF,uP];refine KI.rep (fun g hg=>⟨.inr (by have:=ll g hg;omega),fun e=>by have:=ll g hg;have:=OR g e;omega⟩) (zY.append ?_ ?_)
    ·exact(zY.low HA.out.2.2.1).but C8 (fun b hb=>⟨HP.out.hF b hb.1,.inl hb,Jw b hb.2⟩)
    ·refine(Rep.keep fun b o hf hh=>⟨⟨.inl hf,Jw b hf.2⟩,?_⟩).2 _ _ H7.out.2.2.1;rw[aw.block b (zZ hh) (fun e=>by have:=H6.out.2.2 b e;have:=hf.2;omega)];exact hh
   have sR:gX (fun i=>((F i/\i<w.heap.size)\/w.heap.size+2<=i)/\sv.ownBlock≠OK i) aa lk d (n+a.args.length) (H++a.args) s (env++opens n a.args) [] (.pointer (OK ⟨ub,0,U⟩)) (.slice a8 (env.length+a.args.length) c8) .nilFunc w8:=
    { glob:=HP.out.glob.but C8 (fun e=>HP.out.ng e.symm),hF:=QW,ng:=HP.out.ng,apl:=HI.out.apl.below JV,ld:=sU HI.out.lkl HP.out.ld,d20:=HP.out.d20,
      fit:=by have:=HP.out.sub k a s HK.out.2.2.1 HK.out.1;rwa [HP.out.hn]at this,hn:=by rw[RL,HP.out.hn],el:=by rw[RL,qF];omega,nl:=by omega,
      ok:=jg _ _ (qY (by omega) _ HP.out.ok) (jO _ _ (zo D9).1 (by omega)),okg:=trivial,rb:=lowB HK.out.2.1,re:=Pi,ro:=rfl }
   have C9:=IH.out _ aa lk (n+a.args.length) (H++a.args) s (env++opens n a.args) [] (.pointer (OK ⟨ub,0,U⟩)) (.slice a8 (env.length+a.args.length) c8) .nilFunc w8 sR;rw[Int.natCast_add]at C9;have aT:=evSubs_take (f:=Zq d) (env:=env) (n:=n) (l:=l) HK.out.2.2.1 HK.out.1;rw[HI.out.evk]at aT;simp only[RF]at aT;generalize aC:Zq d lk s (env++opens n a.args) (n+a.args.length) []=oev at *;have C9':=r9 C9;have H8:=r9 (r_ JV (r_ C8 (r_ aT aC)));clear C9 sR Pi QW JV ll C8 aw Qb KI aT aC lowB Jw OR;go_wp2_with fail
   (with_reducible refine C9'.out.mono ?_);rintro en w9 ⟨aO,Es,Eh⟩
   cases oev with
   | none =>
     obtain⟨Q5,rfl,Iy⟩:=Es rfl;have Aq:x6 d l n o t ss y no env st=U:=by
      have:=H8.out.2.2.1;simp only[Option.bind_none]at this;unfold x6;rw[mU (k+1) _ _ _ this];rfl
     have Iq:w.cell? ⟨0,0,U⟩=OK (.iface 268 (.pointer (OK Q5))):=by
      obtain⟨a0,h0⟩:=HP.out.glob;have:=(H8.out.2.1.cell (sK w _ h0) (fun e=>HP.out.ng e.symm)).trans h0;rw[this]at Iy;rw[h0];exact Iy
     have HF:=r9 (r_ Aq (r_ (H8.out.2.1.trans aO) Iq));clear Aq Iq aO Es Eh Iy;go_wp2_with fail
     go_ret2
     exact kR.none HF.out.1 HF.out.2.1 HF.out.2.2
   | some x =>
     obtain⟨v,rfl,ha9,JA⟩:=Eh x.1 x.2 rfl;obtain⟨vb,rfl⟩:=zg JA;obtain⟨DY,DX,e⟩:=HI.out.own.slice;subst e;have hz8:=H8.out.1.size;have hz9:=aO.size;have Ni:w9.heap[w.heap.size+1]?=OK (.cells #[str [],.int RD (o:Nat),.slice DY k DX,.pointer U,.pointer U] 71 (0,0)):=by
      rw[aO.block _ (by omega) (by omega),H8.out.1.block _ (by omega)];exact HI.out.blk
     have Q9:w9.heap[w.heap.size]?=OK (.cells #[.int RD (o:Nat),.pointer (OK ⟨kb,0,U⟩),.pointer U,.slice U 0 0] 192 (0,0)):=by
      rw[aO.block _ (by omega) (by omega),H8.out.1.block _ (by omega)];exact HI.out.box
     have Oo:Own w9 34 1 (.slice DY k DX) k us:=HI.out.own.keep fun g o hg hh=>by
      have h1:=HI.out.fr g hg;have h2:=zZ hh;rw[aO.block g (by omega) (by omega),H8.out.1.block g h2];exact hh
     have hll:=ev_left _ _ _ _ _ _ _ _ (H8.out.2.2.2);have JK:=HI.out.lkl;obtain⟨y0,y1,y2,y3,y4,yf⟩:=p9 Ni;have H9:=r9 (r_ aO (r_ ha9 (r_ JA (r_ Ni (r_ Q9 Oo)))));clear aO Es Eh ha9 JA Ni Q9 Oo y0 y1 y3 y4 yf;go_wp2_with (at_builtin;refine zF rfl _ _ 69 rfl 34 (.pointer U) 1 8 Tryz.underlying69 Tryz.infoB rfl (by decide) (.slice DY k DX) k us rfl ?f1 _ 1 [.pointer (OK ⟨vb,0,U⟩)] rfl ?f2 ?f3 ?f4 ?_)
     case f1=>exact H9.out.2.2.2.2.2.alloc _
     case f2=>exact zz.lit1 #[vb] rfl (by simp[R4]) _ (by simp)
     case f3=>unfold maxLen;omega
     case f4=>omega
     intro J_ J8 Jr Px DK Qe;have hz10:=DK.size;rw[zK]at hz10;have Dg:∀i,(RI DY k DX).ownBlock=OK i->(w:Nat)+2<=i/\i<(wr:Nat):=fun i e=>⟨HI.out.fr i e,HI.out.own.lt e⟩;have IV:Jr.heap[(w:Nat)+1]?=OK (.cells #[str [],(o:Int),.slice DY k DX,.pointer U,.pointer U] 71 (0,0)):=by
      rw[DK.block _ (by rw[zK];omega) (fun e=>by have:=Dg _ e;omega),Below.heap_alloc _ _ _ (by omega)];exact H9.out.2.2.2.1
     obtain⟨y0,y1,y2,y3,y4,yf⟩:=p9 IV;have yf2:=yf 2;have FJ:∀(g:Nat) (ob:Obj),g≠w+1->Jr.heap[g]?=OK ob->(Jr.setCell ((w:Nat)+1,2) (.slice J_ (k+1) J8)).heap[g]?=OK ob:=fun g ob hg hh=>by
      rw[sJ _ _ _ _ (by show g≠w+1;exact hg)];exact hh
     have past:∀(g:Nat) (ob:Obj),(RI DY k DX).ownBlock≠OK g->w9.heap[g]?=OK ob->Jr.heap[g]?=OK ob:=fun g ob hg hh=>by
      rw[DK.block g (by rw[zK];have:=zZ hh;omega) hg,Below.heap_alloc _ _ _ (zZ hh)];exact hh
     have sN:KInv F aa l n d o env t.args ss (.pointer (OK ⟨kb,0,U⟩)) w (k+1) x.2 (outs++[x.1]) (.slice J_ (k+1) J8) (us++[.pointer (OK ⟨vb,0,U⟩)]) (Jr.setCell ((w:Nat)+1,2) (.slice J_ (k+1) J8)):=by
      have Fd:∀g,(RI J_ (k+1) J8).ownBlock=OK g->(RI DY k DX).ownBlock=OK g\/(w9:Nat)<g:=fun g hg=>by
       rcases Qe g hg with h|h
       ·exact .inl h
       ·exact .inr (by omega)
      refine { evk:=H8.out.2.2.1,ol:=by rw[RL,HI.out.ol];rfl,but:=?_,zw:=by simp[Ts];omega,apl:=?_,lkl:=by omega,box:=?_,blk:=?_,own:=?_,rep:=?_,fr:=fun g hg=>?_ }
      ·have h1:But (· = aa) w Jr:=((H8.out.2.1.trans H9.out.1).alloc _).trans' DK fun i hi e=>by have:=Dg i e;omega
       exact h1.setCell (p:=((w:Nat)+1,2)) (.inr (by show (w:Nat)<=w+1;omega)) _
      ·exact FJ _ _ (by omega) (past _ _ (fun e=>by have:=Dg _ e;omega) H9.out.2.1)
      ·exact FJ _ _ (by omega) (past _ _ (fun e=>by have:=Dg _ e;omega) H9.out.2.2.2.2.1)
      ·rw[zT IV];rfl
      ·exact Px.keep fun g ob hg hh=>FJ _ _ (by
        rcases Fd g hg with h|h
        ·have:=Dg g h;omega
        ·omega) hh
      ·rw[pr];refine zY.append ?_ (zY.one ?_)
       ·refine(Rep.keep fun b ob hf hh=>?_).2 _ _ HI.out.rep;have hb:=zZ hh;have hne:b≠aa/\b≠w+1:=by
         rcases hf.1 with h|h
         ·exact⟨HP.out.hF b h.1,by omega⟩
         ·omega
        refine⟨⟨hf.1,fun e=>?_⟩,FJ _ _ hne.2 (past _ _ hf.2 ?_)⟩
        ·rcases Fd b e with h|h
         ·exact hf.2 h
         ·omega
        ·rw[H9.out.1.block b (by omega) hne.1,H8.out.1.block b hb];exact hh
       ·refine(Rep.keep fun b ob hf hh=>?_).1 _ _ H9.out.2.2.1;have hf:(((F b/\b<w)\/w+2<=b)/\(RI DY k DX).ownBlock≠OK b)\/w8<=b:=hf;have hb:=zZ hh;have OS:(RI DY k DX).ownBlock≠OK b:=by
         rcases hf with h|h
         ·exact h.2
         ·intro e;have:=Dg b e;omega
        have D4:((F b/\b<w)\/w+2<=b):=by
         rcases hf with h|h
         ·exact h.1
         ·exact .inr (by omega)
        refine⟨⟨D4,fun e=>?_⟩,FJ _ _ (by rcases D4 with h|h <;> omega) (past _ _ OS hh)⟩;rcases Fd b e with h|h
        ·exact OS h
        ·omega
      ·rcases Fd g hg with h|h
       ·exact(Dg g h).1
       ·omega
     have HN:=r9 sN;clear sN FJ past IV y0 y1 y3 y4 yf Px DK Qe Dg;go_wp2_with fail
     go_roundw
     case rel=>exact⟨k+1,x.2,outs++[x.1],.slice J_ (k+1) J8,us++[.pointer (OK ⟨vb,0,U⟩)],by omega,by go_num,HN.out⟩
     case measure=>simp[intOf];omega
  ·obtain rfl:k=ss.length:=by omega
   have aW:=HI.out.evk;rw[R8,List.take_of_length_le (by have:=QT.out;omega)]at aW
   have AFT:Hid (∀ (X:World) (l':Nat),But (· = aa) w X->Apl X aa l'->l'<=l ->
    Calls RG 135 #[.bool true,b1,b2,b3,b4,b5] X (kR (fun i=>F i/\i<w) aa (Zq d l' y env n st) X) /\
    Calls RG 135 #[.bool false,b1,b2,b3,b4,b5] X (kR (fun i=>F i/\i<w) aa (Zq d l' no env n st) X)):=by
    show ∀(X:World) (l':Nat),_->_;intro X l' oh haX hlX;obtain⟨⟨n1,n2,n3,n4,n5⟩,c1,r1,c2,c3,r3,c4,c5,r5⟩:=HC.out;have kX:∀ {b:Nat} {x:Value},F b->w.cell? ⟨b,0,U⟩=OK x->X.cell? ⟨b,0,U⟩=OK x:=fun hb hc=>(oh.cell (sK w _ hc) (HP.out.hF _ hb)).trans hc;have lm:∀b,(F b/\b<w.heap.size)->¬(b=aa)/\(F b/\b<w.heap.size):=fun b hb=>⟨HP.out.hF b hb.1,hb⟩
    have key:=fun c hf=>after_any d IH.out (fun i=>F i/\i<w.heap.size) aa l' n H ⟨y,no,env⟩ st b1 b2 b3 b4 b5 bp ev5 on5 vv5 ss5 X c (HP.out.glob.but oh (fun e=>HP.out.ng e.symm)) (fun i hi=>HP.out.hF i hi.1) HP.out.ng haX (by have:=HP.out.ld;omega) HP.out.d20
     hf HP.out.hn (by show env.length+_<=_;omega) (by omega) (qY (by omega) _ HP.out.ok) (vm (by omega) _ HP.out.okg)
     (kX n1 c1) ((Rep.low r1).but oh lm) (kX n2 c2) (kX n3 c3) ((Rep.low r3).but oh lm) (kX n4 c4) (kX n5 c5) (uI.but oh lm _ _ (uI.low _ _ r5))
    exact⟨key 116 HP.out.fy,key 102 HP.out.fn⟩
   have JK:=HI.out.lkl;have C1:=r9 (AFT.out wr lk HI.out.but HI.out.apl JK).1;have Al:=HI.out.zw;obtain⟨DY,DX,e⟩:=HI.out.own.slice;subst e;have HFU:=r9 aW;clear aW;generalize Qi:Zq d lk y env n st=o1 at *;have HE1:=r9 Qi;clear Qi;go_wp2_with fail
   (with_reducible refine C1.out.mono ?_);rintro en w1 ⟨sX,tK,tH⟩
   clear C1;cases o1 with
   | none =>
     obtain⟨Q5,rfl,Iy⟩:=tK rfl;have Aq:x6 d l n o t ss y no env st=U:=by
      unfold x6;rw[HFU.out];simp only[RF];rw[HE1.out];rfl
     have Iq:w.cell? ⟨0,0,U⟩=OK (.iface 268 (.pointer (OK Q5))):=by
      obtain⟨a0,h0⟩:=HP.out.glob;have:=(HI.out.but.cell (sK w _ h0) (fun e=>HP.out.ng e.symm)).trans h0;rw[this]at Iy;rw[h0];exact Iy
     have lU:=sX.size;have Gl:w1.heap[w.heap.size+1]?=OK (.cells #[str [],.int RD (o:Nat),.slice DY ss.length DX,.pointer U,.pointer U] 71 (0,0)):=by
      rw[sX.block _ (by omega) (by omega)];exact HI.out.blk
     obtain⟨_,_,_,y3,_,yf⟩:=p9 Gl;have yf3:=yf 3;clear yf;have AJ:But (· = aa) w (w1.setCell ⟨w.heap.size+1,3,U⟩ (.pointer U)):=(HI.out.but.trans sX).setCell (p:=⟨w.heap.size+1,3,U⟩) (.inr (by show w.heap.size<=w.heap.size+1;omega)) _;have HF:=r9 (r_ Aq (r_ AJ Iq));clear Aq Iq sX tK tH Iy AJ Gl;go_wp2_with fail
     go_ret2
     exact kR.none HF.out.1 HF.out.2.1 HF.out.2.2
   | some z =>
     obtain⟨v1,rfl,GB,aV⟩:=tH z.1 z.2 rfl;obtain⟨zb,rfl⟩:=zg aV;have Gy:=ev_left _ _ _ _ _ _ _ _ HE1.out;have lU:=sX.size;have Gl:w1.heap[w.heap.size+1]?=OK (.cells #[str [],.int RD (o:Nat),.slice DY ss.length DX,.pointer U,.pointer U] 71 (0,0)):=by
      rw[sX.block _ (by omega) (by omega)];exact HI.out.blk
     obtain⟨_,_,_,y3,_,yf⟩:=p9 Gl;have yf3:=yf 3;clear yf;obtain⟨W2,se⟩:=zzN (w1.setCell ((w:Nat)+1,3) (.pointer (OK ⟨zb,0,U⟩)));have sY:But (· = aa) w W2:=by rw[<- se];exact(HI.out.but.trans sX).setCell (p:=((w:Nat)+1,3)) (.inr (by show (w:Nat)<=w+1;omega)) _
     have Dq:∀(g:Nat) (ob:Obj),g≠w+1->w1.heap[g]?=OK ob->W2.heap[g]?=OK ob:=fun g ob hg hh=>by
      rw[<- se,sJ _ _ _ _ (by show g≠w+1;exact hg)];exact hh
     have Q_:W2.heap[(w:Nat)+1]?=OK (.cells #[str [],(o:Int),.slice DY ss.length DX,zb,.pointer U] 71 (0,0)):=by
      rw[<- se,zT Gl];rfl
     have A2:Apl W2 aa z.2:=Dq _ _ (by omega) GB;have C2:=r9 (AFT.out W2 z.2 sY A2 (by omega)).2;have iP:(W2:Nat)=w1:=by rw[<- se];simp[Ts]
     have EQ:=r9 iP;clear iP;have lq:Rep (fun i=>(F i/\i<w)\/wr<=i) W2 (kM z.1) (.pointer (OK ⟨zb,0,U⟩)):=(Rep.keep fun b ob hf hh=>⟨hf,Dq _ _ (by rcases hf with h|h <;> omega) hh⟩).1 _ _ aV;have Oq:Own W2 34 1 (.slice DY ss.length DX) ss.length us:=HI.out.own.keep fun g ob hg hh=>by
      have h1:=HI.out.fr g hg;exact Dq _ _ (by omega) (by rw[sX.block g (zZ hh) (by omega)];exact hh)
     have Oi:zY (fun i=>((F i/\i<w)\/w+2<=i)/\i≠aa) W2 (qH outs) us:=(Rep.keep fun b ob hf hh=>by
      have hne:b≠aa/\b≠w+1:=by
       rcases hf.1 with h|h
       ·exact⟨HP.out.hF b h.1,by omega⟩
       ·omega
      exact ⟨⟨hf.1,hne.1⟩,Dq _ _ hne.2 (by rw [sX.block b (zZ hh) hne.1];exact hh)⟩).2 _ _ HI.out.rep
     generalize Qh:Zq d z.2 no env n st=o2 at *;have H2:=r9 (r_ sY (r_ Q_ (r_ lq (r_ Oq (r_ Oi (r_ Qh se))))));clear sY Q_ lq Oq Oi Qh se Dq sX tK tH GB aV Gl A2;go_wp2_with fail
     rw[H2.out.2.2.2.2.2.2];(with_reducible refine C2.out.mono ?_);rintro en w3 ⟨sE,lu,BY⟩;clear C2;have lP:=sE.size;have L1:=EQ.out;have J9:w3.heap[(w:Nat)+1]?=OK (.cells #[str [],(o:Int),.slice DY ss.length DX,zb,.pointer U] 71 (0,0)):=by
      rw[sE.block _ (by omega) (by omega)];exact H2.out.2.1
     clear L1;obtain⟨_,_,_,_,y4,yf⟩:=p9 J9;have yf4:=yf 4;clear yf;cases o2 with
     | none =>
       obtain⟨Q5,rfl,Iy⟩:=lu rfl;have Aq:x6 d l n o t ss y no env st=U:=by
        unfold x6;rw[HFU.out];simp only[RF];rw[HE1.out];simp only[RF];rw[H2.out.2.2.2.2.2.1];rfl
       have Iq:w.cell? ⟨0,0,U⟩=OK (.iface 268 (.pointer (OK Q5))):=by
        obtain⟨a0,h0⟩:=HP.out.glob;have:=(H2.out.1.cell (sK w _ h0) (fun e=>HP.out.ng e.symm)).trans h0;rw[this]at Iy;rw[h0];exact Iy
       have AJ:But (· = aa) w (w3.setCell ((w:Nat)+1,4) (.pointer U)):=(H2.out.1.trans sE).setCell (p:=((w:Nat)+1,4)) (.inr (by show (w:Nat)<=w+1;omega)) _;have HF:=r9 (r_ Aq (r_ AJ Iq));clear Aq Iq sE lu BY Iy AJ J9;go_wp2_with fail
       go_ret2
       exact kR.none HF.out.1 HF.out.2.1 HF.out.2.2
     | some q =>
       obtain⟨v3,rfl,QM,lO⟩:=BY q.1 q.2 rfl;obtain⟨qb,rfl⟩:=zg lO;have Dv:x6 d l n o t ss y no env st=OK (.ask o outs z.1 q.1,q.2):=by
        unfold x6;rw[HFU.out];simp only[RF];rw[HE1.out];simp only[RF];rw[H2.out.2.2.2.2.2.1];rfl
       have AJ:But (· = aa) w (w3.setCell ((w:Nat)+1,4) (.pointer (OK ⟨qb,0,U⟩))):=(H2.out.1.trans sE).setCell (p:=((w:Nat)+1,4)) (.inr (by show (w:Nat)<=w+1;omega)) _;have pastF:∀(g:Nat) (ob:Obj),g≠w+1->w3.heap[g]?=OK ob->(w3.setCell ((w:Nat)+1,4) (.pointer (OK ⟨qb,0,U⟩))).heap[g]?=OK ob:=fun g ob hg hh=>by
        rw[sJ _ _ _ _ (by show g≠w+1;exact hg)];exact hh
       have blkF:(w3.setCell ((w:Nat)+1,4) (.pointer (OK ⟨qb,0,U⟩))).heap[(w:Nat)+1]?=OK (.cells #[str [],(o:Int),.slice DY ss.length DX,zb,qb] 71 (0,0)):=by
        rw[zT J9];rfl
       have haF:Apl (w3.setCell ((w:Nat)+1,4) (.pointer (OK ⟨qb,0,U⟩))) aa q.2:=pastF _ _ (by omega) QM;have L1:=EQ.out
       have stay:∀(b:Nat) (ob:Obj),b≠aa->b≠w+1->W2.heap[b]?=OK ob->(w3.setCell ((w:Nat)+1,4) (.pointer (OK ⟨qb,0,U⟩))).heap[b]?=OK ob:=fun b ob h1 h2 hh=>
        pastF _ _ h2 (by rw[sE.block b (zZ hh) h1];exact hh)
       have Hq:Rep (fun i=>F i\/w<=i) (w3.setCell ((w:Nat)+1,4) (.pointer (OK ⟨qb,0,U⟩))) (kM (.ask o outs z.1 q.1)) (.pointer (OK ⟨w+1,0,U⟩)):=by
        rw[kM,jx];refine⟨_,_,rfl,.inr (by omega),blkF,?_⟩;simp only[zQ,zE,zC];have lg:=HI.out.ol;refine⟨_,_,rfl,rfl,_,_,rfl,rfl,_,_,rfl,?_,_,_,rfl,?_,_,_,rfl,?_,rfl⟩
        ·rw[lg];refine Own.rep (xs:=us) (H2.out.2.2.2.1.keep fun g ob hg hh=>stay _ _ (by have:=HI.out.fr g hg;omega) (by have:=HI.out.fr g hg;omega) hh) (fun g hg=>.inr (by have:=HI.out.fr g hg;omega)) ?_;refine(Rep.keep fun b ob hf hh=>⟨?_,stay _ _ hf.2 (by rcases hf.1 with h|h <;> omega) hh⟩).2 _ _ H2.out.2.2.2.2.1;rcases hf.1 with h|h
         ·exact .inl h.1
         ·exact .inr (by omega)
        ·refine(Rep.keep fun b ob hf hh=>⟨?_,stay _ _ ?_ (by rcases hf with h|h <;> omega) hh⟩).1 _ _ H2.out.2.2.1
         ·rcases hf with h|h
          ·exact .inl h.1
          ·exact .inr (by omega)
         ·rcases hf with h|h
          ·exact HP.out.hF b h.1
          ·omega
        ·refine(Rep.keep fun b ob hf hh=>⟨?_,pastF _ _ ?_ hh⟩).1 _ _ lO
         ·rcases hf with h|h
          ·exact .inl h.1
          ·exact .inr (by omega)
         ·rcases hf with h|h <;> omega
       have HF:=r9 (r_ Dv (r_ AJ (r_ haF Hq)));clear Dv AJ haF Hq stay blkF pastF sE lu BY QM lO J9 L1;go_wp2_with fail
       go_ret2
       exact kR.some HF.out.1 HF.out.2.1 HF.out.2.2.1 HF.out.2.2.2
end Go.Proofs.YtnfenijemllkbaaGreatDoor

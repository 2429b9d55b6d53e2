/- Walks. -/
import Derived.Lib.AtoiTie
import Derived.Laws.Concat
import Derived.Test.YtnfenijemllkbaaGreatDoorQ2
set_option linter.unusedVariables false
set_option linter.unusedSimpArgs false
set_option maxHeartbeats 10000000
set_option maxRecDepth 100000
open Option renaming none->U
open Option renaming some->OK
open Bool renaming true->OX
open Bool renaming false->RC
open Go.IntKind renaming i64->RD
open Array renaming getElem?_eq_getElem->Sh
open Go.Lib renaming decDigits->Sk,decDigits_length->VQ,decDigits_one->V8,decFrom->Xy,itoa->Tb,nDigits_big->Ve,nDigits_small->Ua
open Go.Proofs.Tryz renaming func73->Uw,ntmps73->Ui,prog->RG,results44->Vf,results73->SB,underlying51->SN
open Go.Value renaming oneCell'->R4,ownBlock->RM,slice->RI
open Go.Value.slice renaming injEq->RT
open Go.World renaming cell?->RE,cell?_of_block->TP,frozen?_of_block->SK,ownsRow_nil->Sf,setCell->Ts
open List renaming append_nil->R9,cons_append->R5,drop_eq_getElem_cons->SE,drop_eq_nil_of_le->TK,drop_left'->Wa,eq_nil_of_length_eq_zero->St,foldl_cons->Vg,getElem?_drop->SA,getElem?_eq_some_iff->RR,getElem?_take->Su,getElem_drop->U3,head?_append->V3,isPrefixOf->TC,length->Td,length_append->RL,length_cons->RU,length_nil->Sq,mem_map->WB,mem_of_getElem?->RX,mem_singleton->VU,singleton_append->VF,take_left'->Wb,take_length->R8,take_of_length_le->S6,take_succ_cons->SO
open List.cons renaming injEq->RY
open Nat renaming pow_le_pow_right->VP,strongRecOn->TF,zero_le->R6
open Option renaming bind_eq_bind->RJ,bind_eq_some_iff->RH,bind_some->RF,map_eq_some_iff->RP
open UInt8 renaming le_iff_toNat_le->S7,ofNat->U4,toNat_inj->V7
namespace Go.Proofs.YtnfenijemllkbaaGreatDoor
open Go.RowKit
def eG (i:Nat)(o:Option (Nat×Nat))(w:World)(en:Ending)(w':World):Prop:=
 ∃(v:Nat) (k:Int),en=.returned (.tuple #[.int RD v,.int RD k])/\w=w'/\(o=U->k = -1)/\(∀v' c,o=OK (v',c)->v=v'/\k=((i+c:Nat):Int))
theorem l3Number_any (l:Bs)(hl:Lim l.length)(i:Nat)(hi:i<=l.length)(w:World) :
 Calls RG 98 #[l,.int RD i] w (eG i (jE (l.drop i)) w):=by
 have Ar:=hl.le;obtain⟨ds,hds⟩:=zzM (qD (l.drop i));have hd4:=bw (l.drop i);rw[<- hds]at hd4;have h4:ds.length<=4:=hd4.1;have Ql:i+ds.length<=l.length:=by have:=hd4.2;simp at this;omega
 have HDS:=r9 hds;clear hds hd4;go_enter Tryz.func98,Tryz.ntmps98;go_wp2_with fail
 go_loop [6,7] (fun n k=>∃j:Nat,j<=ds.length/\k=.int RD ((i+j:Nat):Int)/\n=.int RD (jq (ds.take j):Nat)) (fun _ k=>i+ds.length-(intOf k).toNat)
 case atStart=>exact⟨0,R6 _,by simp,by simp[jq]⟩
 case round=>
  obtain⟨j,hj,rfl,rfl⟩:=hrel;by_cases sC:j<ds.length
  ·have JM:i+j<l.length:=by omega
   have sG:l[i+j]=ds[j]/\dig l[i+j]=OX:=by
    have h1:=HDS.out;subst h1;obtain⟨hm,e1,e2⟩:=digsOf_at sC;rw[U3]at e1 e2;exact⟨e1,e2⟩
   have b1:(48:Int)<=((((⟨l.toArray⟩:ByteArray)[i+j]'(ke JM)).toNat:Int))/\((((⟨l.toArray⟩:ByteArray)[i+j]'(ke JM)).toNat:Int))<=57:=by
    have h2:=sG.2;simp[dig,S7]at h2;rw[xD JM];omega
   obtain⟨b1,b2⟩:=b1;have hv:jq (ds.take j)<=9999:=by
    have h1:=valOf_lt (ds.take j) (fun c hc=>yw _ c (by have:=HDS.out;rw[<- this];exact List.mem_of_mem_take hc));have h2:10 ^ (ds.take j).length<=10 ^ 4:=VP (by omega) (by simp;omega);omega
   have hs:=valOf_take sC;have lw:(jq (ds.take (j+1)):Int)=10*(jq (ds.take j):Int)+(((((⟨l.toArray⟩:ByteArray)[i+j]'(ke JM)).toNat:Int))-48):=by
    rw[xD JM]at b1 ⊢;rw[hs,sG.1] at *;omega
   have HS:=r9 lw;have j4:j<4:=by omega
   clear hs lw sG;go_wp2_with fail
   go_round
   case rel=>exact⟨j+1,by omega,by go_num,by rw[HS.out]⟩
   case measure=>simp[intOf];omega
  ·obtain rfl:j=ds.length:=by omega
   have EC:ds.length=4\/i+ds.length=l.length\/∃h:i+ds.length<l.length,dig l[i+ds.length]=RC:=by
    have h1:=HDS.out;subst h1;rcases digsOf_end (m:=l.drop i) with h|h|⟨h,h2⟩
    ·exact .inl h
    ·right;left;simp at h;omega
    ·right;right;simp at h;refine⟨by omega,?_⟩;rw[U3]at h2;exact h2
   have HV:jE (l.drop i)=(if ds=[]\/(1<ds.length/\(l.drop i).head? = OK 48) then U else OK (jq ds,ds.length)):=by
    unfold jE;rw[<- HDS.out]
   have DG:4<=ds.length\/l.length<=i+ds.length\/(∃h:i+ds.length<l.length,((((⟨l.toArray⟩:ByteArray)[i+ds.length]'(ke h)).toNat:Int))<48)\/(∃h:i+ds.length<l.length,(57:Int)<((((⟨l.toArray⟩:ByteArray)[i+ds.length]'(ke h)).toNat:Int))):=by
    rcases EC with h|h|⟨h,h2⟩
    ·exact .inl (by omega)
    ·exact .inr (.inl (by omega))
    ·simp[dig,S7]at h2;by_cases hc:l[i+ds.length].toNat<48
     ·exact .inr (.inr (.inl ⟨h,by rw[xD h];omega⟩))
     ·exact .inr (.inr (.inr ⟨h,by rw[xD h];have:=h2 (by omega);omega⟩))
   clear EC;rw[R8];rcases(by omega:ds.length=0\/ds.length=1\/2<=ds.length) with hn|hn|hn
   ·have e0:((i:Int)+(ds.length:Int) == (i:Int))=OX:=by rw[beq_iff_eq];omega
    have fin:eG i (jE (l.drop i)) w (.returned (.tuple #[.int RD 0,.int RD (-1)])) w:=by
     have DH:ds=[]:=St hn;refine⟨0,-1,rfl,rfl,fun _=>rfl,fun v c h=>?_⟩;rw[HV,if_pos (.inl DH)]at h;simp at h
    have HF:=r9 fin;have Br:(ds.length:Int)<=0:=by omega
    clear fin HV hn;rcases DG with h|h|⟨h,h2⟩|⟨h,h2⟩
    all_goals
     go_wp2_with fail
     all_goals (go_ret2;exact HF.out)
   ·have e0:((i:Int)+(ds.length:Int) == (i:Int))=RC:=by rw[beq_eq_false_iff_ne];omega
    have n1:¬1<ds.length:=by omega
    have fin:eG i (jE (l.drop i)) w (.returned (.tuple #[.int RD (jq ds:Nat),.int RD ((i:Int)+(ds.length:Int))])) w:=by
     have DH:¬(ds=[]\/(1<ds.length/\(l.drop i).head? = OK 48)):=by
      rintro(h | h)
      ·rw[h]at hn;simp at hn
      ·omega
     refine⟨_,_,rfl,rfl,fun h=>?_,fun v c h=>?_⟩
     ·rw[HV,if_neg DH]at h;simp at h
     ·rw[HV,if_neg DH]at h;simp at h;exact⟨h.1,by omega⟩
    have HF:=r9 fin;have lY:1<=ds.length:=by omega
    clear fin HV hn;rcases DG with h|h|⟨h,h2⟩|⟨h,h2⟩
    all_goals
     go_wp2_with fail
     all_goals (go_ret2;exact HF.out)
   ·have e0:((i:Int)+(ds.length:Int) == (i:Int))=RC:=by rw[beq_eq_false_iff_ne];omega
    have n1:1<ds.length:=by omega
    have MF:i<l.length:=by rcases DG with h|h|⟨h,h2⟩|⟨h,h2⟩ <;> omega
    have KR:(l.drop i).head? = OK l[i]:=by rw[List.head?_drop];simp[MF]
    have hdn:ds≠[]:=by intro h;rw[h]at hn;simp at hn
    by_cases Ft:l[i]=48
    focus
     have f1:=x9 MF (n:=48) (by decide) Ft;have fin:eG i (jE (l.drop i)) w (.returned (.tuple #[.int RD 0,.int RD (-1)])) w:=by
      refine⟨0,-1,rfl,rfl,fun _=>rfl,fun v c h=>?_⟩;rw[HV,if_pos (.inr ⟨n1,by rw[KR,Ft]⟩)]at h;simp at h
    rotate_left
    focus
     have f1:=uG MF (n:=48) (by decide) Ft;have fin:eG i (jE (l.drop i)) w (.returned (.tuple #[.int RD (jq ds:Nat),.int RD ((i:Int)+(ds.length:Int))])) w:=by
      have DH:¬(ds=[]\/(1<ds.length/\(l.drop i).head? = OK 48)):=by
       rintro(h | h)
       ·exact hdn h
       ·rw[KR]at h;exact Ft (Option.some.inj h.2)
      refine⟨_,_,rfl,rfl,fun h=>?_,fun v c h=>?_⟩
      ·rw[HV,if_neg DH]at h;simp at h
      ·rw[HV,if_neg DH]at h;simp at h;exact⟨h.1,by omega⟩
    all_goals
     have HF:=r9 fin;clear fin HV KR Ft;rcases DG with h|h|⟨h,h2⟩|⟨h,h2⟩
     all_goals
      go_wp2_with fail
      all_goals (go_ret2;exact HF.out)
mutual
def kU:Bd->List DV
 |.leaf c=>[.val (str [c]),.val (.int RD (0:Nat)),.sl 53 4 0 [],.sl 53 4 0 []]
 |.ask v ss y n=>[.val (str []),.val (.int RD v),.sl 53 4 ss.length (zp ss),.sl 53 4 2 (kU y++(kU n++[]))]
def zp:List Bd->List DV
 |[]=>[]
 |b::bs=>kU b++zp bs
end
theorem qy (b:Bd):(kU b).length=4:=by cases b <;> simp[kU]
theorem dn (bs:List Bd):(zp bs).length=bs.length*4:=by
 induction bs with
 |nil=>simp[zp]
 |cons b bs ih=>simp[zp,qy,ih];omega
theorem qG (a b:List Bd):zp (a++b)=zp a++zp b:=by
 induction a with
 |nil=>simp[zp]
 |cons t ts ih=>simp[zp,ih,List.append_assoc]
theorem yG (v:Nat)(ss:List Bd)(y n:Bd):kU (.ask v ss y n)=[.val (str []),.val (.int RD v),.sl 53 4 ss.length (zp ss),.sl 53 4 2 (zp [y,n])]:=by
 simp[kU,zp]
theorem Tryz.infoN:(RG.info? 53).map (fun i=>(i.zero,i.size,i.bytes))=OK (OK (.agg #[str [],.int RD 0,(),()]),4,72):=by kernel_rfl
def uO (L:Nat)(w:World)(o:Option (Bd×Bs))(en:Ending)(w':World):Prop:=
 ∃ (s:Bs) (v:Int) (a2:Option Addr) (n2 k2:Nat) (a3:Option Addr) (n3 k3:Nat) (k:Int),en=.returned (.tuple #[.agg #[s,.int .i64 v,.slice a2 n2 k2,.slice a3 n3 k3],.int .i64 k])/\Below w w w'/\(o=none->k = -1) /\
   (∀b rest,o=OK (b,rest)->k=(L:Int)-rest.length/\zY (w<=·) w' (kU b) [s,.int RD v,.slice a2 n2 k2,.slice a3 n3 k3])
theorem uO.no {L:Nat}{w w':World}{o:Option (Bd×Bs)}(ho:o=U)(hb:No w w') :
 uO L w o (.returned (.tuple #[.agg #[str [],.int RD 0,(),()],.int RD (-1)])) w':=
 ⟨[],0,U,0,0,U,0,0,_,rfl,hb,fun _=>rfl,fun _ _ h=>by rw[ho]at h;simp at h⟩
theorem uO.yes {L:Nat}{w w':World}{o:Option (Bd×Bs)}{b:Bd}{rest:Bs}{s:Bs}{v:Int}{a2:Option Addr}{n2 k2:Nat}{a3:Option Addr}{n3 k3:Nat}{k:Int}(ho:o=OK (b,rest))(hk:k=(L:Int)-rest.length)(hb:No w w')(hv:zY (w<=·) w' (kU b) [s,.int RD v,.slice a2 n2 k2,.slice a3 n3 k3]) :
 uO L w o (.returned (.tuple #[.agg #[s,.int RD v,.slice a2 n2 k2,.slice a3 n3 k3],.int RD k])) w':=
 ⟨s,v,a2,n2,k2,a3,n3,k3,k,rfl,hb,fun h=>by rw[ho]at h;simp at h,fun _ _ h=>by rw[ho]at h;simp at h;obtain⟨rfl,rfl⟩:=h;exact⟨hk,hv⟩⟩
def NodeSaid (l:Bs)(e d:Nat):Prop:=∀ (F:Nat->Prop) (hand:List Ty) (hv:Value) (i:Nat) (w:World),i<=l.length->jD e hand ->
    Rep F w (.sl 47 1 hand.length (qu hand)) hv->
    Calls RG 73 #[l,.int RD i,hv,.int RD d] w (uO l.length w (rdN e hand (l.drop i)))
theorem fQ (F:Nat->Prop)(w:World)(c:UInt8):zY F w (kU (.leaf c)) [str [c],.int RD 0,(),()]:=by
 have hz:Rep F w (.sl 53 4 0 []) ():=zv.2 ⟨rfl,U,0,rfl,sZ _,fun _=>rfl,.inl rfl⟩;rw[kU];exact zQ.2 ⟨_,_,rfl,zC.2 rfl,zQ.2 ⟨_,_,rfl,zC.2 rfl,zQ.2 ⟨_,_,rfl,hz,zQ.2 ⟨_,_,rfl,hz,zE.2 rfl⟩⟩⟩⟩
theorem rdN_leaf (e:Nat)(hand:List Ty){l:Bs}{i:Nat}(h:i<l.length)(hc:l[i]=116\/l[i]=102\/l[i]=117):rdN (e+1) hand (l.drop i)=OK (.leaf l[i],l.drop (i+1)):=by
 rw[SE h,rdN];simp only[if_pos hc]
theorem rdN_other (e:Nat)(hand:List Ty){l:Bs}{i:Nat}(h:i<l.length)(hc:¬(l[i]=116\/l[i]=102\/l[i]=117))(iY:¬l[i]=40):rdN (e+1) hand (l.drop i)=U:=by
 rw[SE h,rdN];simp only[if_neg hc,if_pos iY]
theorem rdN_40 (e:Nat)(hand:List Ty){l:Bs}{i:Nat}(h:i<l.length)(iY:l[i]=40):rdN (e+1) hand (l.drop i)=(match jE (l.drop (i+1)) with
 |none=>U
 | some (v,k)=>match hand[v]? with
   |none=>U
   | some t=>do
     let (ps,l1)<-zN (rdN e) (jP hand t) ((l.drop (i+1)).drop k)
     let l2<-cut [41] l1
     let b<-wM v t.args.length ps
     some (b,l2)):=by
 rw[SE h,rdN];rw[if_neg (by rw[iY];decide),if_neg (by simpa using iY)];try rfl
theorem dw (l:Bs)(hl:Lim l.length)(e d:Nat)(F2:e+d=101)(F:Nat->Prop)(hand:List Ty)(hv:Value)(i:Nat)(w:World)(hi:i<=l.length)(hr:Rep F w (.sl 47 1 hand.length (qu hand)) hv)(oW:∀h:i<l.length,e=0\/¬l[i]=40) :
 Calls RG 73 #[l,.int RD i,hv,.int RD d] w (uO l.length w (rdN e hand (l.drop i))):=by
 have Ar:=hl.le;obtain⟨a0,c0,e0,_⟩:=zH hr;subst e0;rcases e with _|e
 ·have F3:(100:Int)<(d:Int):=by omega
  clear oW;go_enter Uw,Ui;go_wp2_with fail
  refine bodyPost_ret (v:=.tuple #[.agg #[str [],.int RD 0,(),()],.int RD (-1)]) (by simp[results,SB,go_sem]) rfl ?_;exact uO.no (by rfl) (by repeat (first | exact sQ _ _ | refine Below.alloc ?_ (sZ _) _ | refine Below.setCell ?_ (by simp) _))
 have DH:¬(100:Int)<(d:Int):=by omega
 by_cases sC:i<l.length;rotate_left
 ·clear oW;go_enter Uw,Ui;go_wp2_with fail
  refine bodyPost_ret (v:=.tuple #[.agg #[str [],.int RD 0,(),()],.int RD (-1)]) (by simp[results,SB,go_sem]) rfl ?_;exact uO.no (by rw[TK (by omega)];rfl) (by repeat (first | exact sQ _ _ | refine Below.alloc ?_ (sZ _) _ | refine Below.setCell ?_ (by simp) _))
 have iY:¬l[i]=40:=(oW sC).resolve_left (by omega);clear oW;by_cases Jb:l[i]=116\/l[i]=102\/l[i]=117
 ·have HM:=r9 (rdN_leaf e hand sC Jb);have hx:((⟨l.toArray⟩:ByteArray).extract i (i+1))=⟨#[l[i]]⟩:=by
   rw[bI];congr 1;rw[List.drop_take,SE sC,show i+1-i=1 from by omega];rfl
  have HX:=r9 hx;clear hx;have fin:∀w':World,No w w'->uO l.length w (rdN (e+1) hand (l.drop i)) (.returned (.tuple #[.agg #[.string ((⟨l.toArray⟩:ByteArray).extract i (i+1)),.int RD 0,(),()],.int RD ((i:Int)+1)])) w':=by
   intro w' hb;rw[HX.out];exact uO.yes (s:=[l[i]]) HM.out (by simp;omega) hb (fQ _ _ _)
  have FIN:=r9 fin;clear fin;have key:((((⟨l.toArray⟩:ByteArray)[i]'(ke sC)).toNat:Int) == 116)=OX\/((((((⟨l.toArray⟩:ByteArray)[i]'(ke sC)).toNat:Int) == 116)=RC/\((((⟨l.toArray⟩:ByteArray)[i]'(ke sC)).toNat:Int) == 102)=OX))\/((((((⟨l.toArray⟩:ByteArray)[i]'(ke sC)).toNat:Int) == 116)=RC/\((((⟨l.toArray⟩:ByteArray)[i]'(ke sC)).toNat:Int) == 102)=RC/\((((⟨l.toArray⟩:ByteArray)[i]'(ke sC)).toNat:Int) == 117)=OX)):=by
   rcases Jb with h|h|h
   ·exact .inl (x9 sC (n:=116) (by decide) h)
   ·exact .inr (.inl ⟨uG sC (c:=116) (n:=116) (by decide) (by rw[h];decide),x9 sC (n:=102) (by decide) h⟩)
   ·exact .inr (.inr ⟨uG sC (c:=116) (n:=116) (by decide) (by rw[h];decide),uG sC (c:=102) (n:=102) (by decide) (by rw[h];decide),x9 sC (n:=117) (by decide) h⟩)
  clear Jb iY HM HX;rcases key with f1|⟨f1,f2⟩|⟨f1,f2,f3⟩
  all_goals
   go_enter Uw,Ui;go_wp2_with fail
   refine bodyPost_ret (v:=.tuple #[.agg #[.string ((⟨l.toArray⟩:ByteArray).extract i (i+1)),.int RD 0,(),()],.int RD ((i:Int)+1)]) (by simp[results,SB,go_sem]) rfl ?_;exact FIN.out _ (by repeat (first | exact sQ _ _ | refine Below.alloc ?_ (sZ _) _ | refine Below.setCell ?_ (by simp) _))
 have HM:=r9 (rdN_other e hand sC Jb iY);have f1:=uG sC (n:=116) (by decide) (fun h=>Jb (.inl h));have f2:=uG sC (n:=102) (by decide) (fun h=>Jb (.inr (.inl h)));have f3:=uG sC (n:=117) (by decide) (fun h=>Jb (.inr (.inr h)));have f4:=vR sC (n:=40) (by decide) iY;clear Jb iY;go_enter Uw,Ui;go_wp2_with fail
 refine bodyPost_ret (v:=.tuple #[.agg #[str [],.int RD 0,(),()],.int RD (-1)]) (by simp[results,SB,go_sem]) rfl ?_;exact uO.no HM.out (by repeat (first | exact sQ _ _ | refine Below.alloc ?_ (sZ _) _ | refine Below.setCell ?_ (by simp) _))
def z9 (ob:Nat)(v:Int)(kslv yslv:Value)(w:World):Prop:=w.heap[ob]?=OK (.cells #[str [],.int RD v,kslv,yslv] 53 (0,0))
theorem z9.cells {ob:Nat}{v:Int}{ks ys:Value}{w:World}(h:z9 ob v ks ys w):w ob=OK (str [])/\w (ob,1)=OK (.int RD v)/\w (ob,2)=OK ks/\w (ob,3)=OK ys/\ob<(w:Nat)/\(∀o,w.frozen? ⟨ob,o,U⟩=RC):=by
 have hl:=zZ h;unfold z9 at h;exact⟨by simp[RE,h],by simp[RE,h],by simp[RE,h],by simp[RE,h],hl,fun o=>by simp[World.frozen?,h]⟩
theorem z9.put2 {ob:Nat}{v:Int}{ks ys u:Value}{w:World}(h:z9 ob v ks ys w):z9 ob v u ys (w.setCell (ob,2) u):=by
 unfold z9;rw[zT h];rfl
theorem z9.put3 {ob:Nat}{v:Int}{ks ys u:Value}{w:World}(h:z9 ob v ks ys w):z9 ob v ks u (w.setCell (ob,3) u):=by
 unfold z9;rw[zT h];rfl
theorem z9.but {ob:Nat}{v:Int}{ks ys:Value}{m:Nat->Prop}{w w':World}(h:z9 ob v ks ys w)(hb:But m w w')(hm:¬m ob):z9 ob v ks ys w':=by
 unfold z9;rw[hb.block ob (zZ h) hm];exact h
theorem z9.below {ob:Nat}{v:Int}{ks ys:Value}{w w':World}{B:Nat}(h:z9 ob v ks ys w)(hb:Below B w w')(hm:ob<B):z9 ob v ks ys w':=by
 unfold z9;rw[hb.block ob hm];exact h
theorem z9.store {ob:Nat}{v:Int}{ks ys:Value}{w:World}(h:z9 ob v ks ys w)(u0 u1 u2 u3:Value) :
 ∃ W,W=((((w.setCell ob u0).setCell (ob,1) u1).setCell (ob,2) u2).setCell (ob,3) u3) /\
   W ob=u0/\W (ob,1)=u1/\W (ob,2)=u2/\W (ob,3)=u3 /\
   (∀B w0,Below B w0 w->B<=ob->Below B w0 W)/\(∀i x,i≠ob->w.heap[i]?=OK x->W.heap[i]?=OK x):=by
 have hc:((((w.setCell ob u0).setCell (ob,1) u1).setCell (ob,2) u2).setCell (ob,3) u3).heap[ob]?=OK (.cells #[u0,u1,u2,u3] 53 (0,0)):=by
  unfold z9 at h;rw[zT (zT (zT (zT h)))];rfl
 refine⟨_,rfl,by simp only[RE,hc];rfl,by simp only[RE,hc];rfl,by simp only[RE,hc];rfl,by simp only[RE,hc];rfl,fun B w0 hb hB=>?_,fun i x hi hx=>?_⟩
 ·exact((((hb.setCell (p:=ob) hB _).setCell (p:=(ob,1)) hB _).setCell (p:=(ob,2)) hB _).setCell (p:=(ob,3)) hB _)
 ·rw[sJ _ _ _ _ (by simpa using hi),sJ _ _ _ _ (by simpa using hi),sJ _ _ _ _ (by simpa using hi),sJ _ _ _ _ (by simpa using hi)];exact hx
structure dZ (l:Bs)(w:World)(rd:RdS)(hs:List (List Ty))(n i0 ob Z v:Nat)(k en:Nat)(wr:World)(ps:List Bd)(kv yv:List Value)(ks:Value)(nk:Nat)(ys:Value)(ny:Nat):Prop where
 hnk:nk=min k n
 hny:ny=k-n
 ksl:∃a c,ks=.slice a nk c
 ysl:∃a c,ys=.slice a ny c
 spec:zN rd (hs.take k) (l.drop i0)=OK (ps,l.drop en)
 len:ps.length=k
 en:en<=l.length
 below:No w wr
 res:z9 w 0 () () wr
 out:z9 ob v ks ys wr
 ownK:Own wr 53 4 ks nk kv
 ownY:Own wr 53 4 ys ny yv
 blkK:∀g,ks.ownBlock=OK g->Z<=g/\ys.ownBlock≠OK g
 blkY:∀g,ys.ownBlock=OK g->Z<=g
 repK:zY (fun b=>Z<=b/\ks.ownBlock≠OK b/\ys.ownBlock≠OK b) wr (zp (ps.take n)) kv
 repY:zY (fun b=>Z<=b/\ks.ownBlock≠OK b/\ys.ownBlock≠OK b) wr (zp (ps.drop n)) yv
 z:Z<=wr
theorem dZ.kid {l:Bs}{w:World}{rd:RdS}{hs:List (List Ty)}{n i0 ob Z v k en:Nat}{wr:World}{ps:List Bd}{kv yv:List Value}{ks ys:Value}{nk ny:Nat}(h:dZ l w rd hs n i0 ob Z v k en wr ps kv yv ks nk ys ny)(hk:k<n)(Hw:ob<Z)(hwo:w<ob){W w7:World}{b:Bd}{cs:List Value}{a':Option Addr}{c' lV:Nat}(sM:No wr W)(aP:zY (wr<=·) W (kU b) cs)(si:Own w7 53 4 (.slice a' (nk+1) c') (nk+1) (kv++cs))(sH:But (fun i=>ks.ownBlock=OK i) W w7)(sS:∀g,(RI a' (nk+1) c').ownBlock=OK g->ks.ownBlock=OK g\/g=(W:Nat))(He:zN rd (hs.take (k+1)) (l.drop i0)=OK (ps++[b],l.drop lV))(JO:lV<=l.length) :
 dZ l w rd hs n i0 ob Z v (k+1) lV (w7.setCell (ob,2) (.slice a' (nk+1) c')) (ps++[b]) (kv++cs) yv (.slice a' (nk+1) c') (nk+1) ys ny:=by
 have z6:=sM.size;have z7:=sH.size;have zr:=h.z;have hlen:=h.len;have keep:∀i x,wr.heap[i]?=OK x->ks.ownBlock≠OK i->i≠ob->(w7.setCell (ob,2) (.slice a' (nk+1) c')).heap[i]?=OK x:=by
  intro i x hx h1 h2;have:=zZ hx;rw[sJ _ _ _ _ (by simpa using h2),sH.block i (by omega) h1,sM.block i this];exact hx
 have iW:∀i x,W.heap[i]?=OK x->ks.ownBlock≠OK i->i≠ob->(w7.setCell (ob,2) (.slice a' (nk+1) c')).heap[i]?=OK x:=by
  intro i x hx h1 h2;have:=zZ hx;rw[sJ _ _ _ _ (by simpa using h2),sH.block i (by omega) h1];exact hx
 have ltK:∀g,ks.ownBlock=OK g->g<(wr:Nat):=fun g hg=>h.ownK.lt hg;have ltY:∀g,ys.ownBlock=OK g->g<(wr:Nat):=fun g hg=>h.ownY.lt hg;have nK:∀i,i<Z->ks.ownBlock≠OK i:=fun i hi e=>by have:=(h.blkK i e).1;omega
 have newg:∀g,(RI a' (nk+1) c').ownBlock=OK g->Z<=g:=fun g hg=>by
  rcases sS g hg with e|e
  ·exact(h.blkK g e).1
  ·omega
 refine⟨by rw[h.hnk];omega,by rw[h.hny];omega,⟨_,_,rfl⟩,h.ysl,He,by simp[hlen],JO,?_,?_,?_,?_,?_,?_,h.blkY,?_,?_,by simp[Ts];omega⟩
 ·refine Below.setCell ?_ (show w<=ob by omega) _;exact(zzT h.below sM).trans (sH.toBelow (by have:=h.below.size;omega) fun i hi e=>nK i (by omega) e)
 ·exact keep _ _ h.res (nK _ (by omega)) (by omega)
 ·have h1:z9 ob v ks ys w7:=by
   unfold z9;rw[sH.block ob (by omega) (nK _ Hw),sM.block ob (by omega)];exact h.out
  exact h1.put2
 ·exact si.keep fun g o hg ho=>by rw[sJ _ _ _ _ (by have:=newg g hg;simp;omega)];exact ho
 ·exact h.ownY.keep fun g o hg ho=>keep g o ho (fun e=>(h.blkK g e).2 hg) (by have:=h.blkY g hg;omega)
 ·intro g hg;refine⟨newg g hg,fun e=>?_⟩;rcases sS g hg with e'|e'
  ·exact(h.blkK g e').2 e
  ·have:=ltY g e;omega
 ·rw[S6 (by simp;omega),qG];have h1:=h.repK;rw[S6 (by omega)]at h1;refine zY.append ((Rep.keep fun i x hi hx=>⟨⟨hi.1,fun e=>(sS i e).elim (fun e'=>hi.2.1 e') (fun e'=>by have:=zZ hx;omega),hi.2.2⟩,keep i x hx hi.2.1 (by have:=hi.1;omega)⟩).2 _ _ h1) ?_
  ·have e1:zp [b]=kU b:=by simp[zp]
   rw[e1];refine(Rep.keep fun i x hi hx=>?_).2 _ _ aP;have h2:=zZ hx;have h3:wr<=i:=hi;refine⟨⟨by omega,fun e=>?_,fun e=>by have:=ltY i e;omega⟩,iW i x hx (fun e=>by have:=ltK i e;omega) (by omega)⟩;rcases sS i e with e'|e'
   ·have:=ltK i e';omega
   ·omega
 ·have h1:=h.repY;rw[TK (by omega)]at h1;rw[TK (by simp;omega)];have:yv=[]:=by simpa[zp,zE] using h1
  subst this;exact zE.2 rfl
theorem dZ.yes {l:Bs}{w:World}{rd:RdS}{hs:List (List Ty)}{n i0 ob Z v k en:Nat}{wr:World}{ps:List Bd}{kv yv:List Value}{ks ys:Value}{nk ny:Nat}(h:dZ l w rd hs n i0 ob Z v k en wr ps kv yv ks nk ys ny)(hk:n<=k)(Hw:ob<Z)(hwo:w<ob){W w7:World}{b:Bd}{cs:List Value}{a':Option Addr}{c' lV:Nat}(sM:No wr W)(aP:zY (wr<=·) W (kU b) cs)(si:Own w7 53 4 (.slice a' (ny+1) c') (ny+1) (yv++cs))(sH:But (fun i=>ys.ownBlock=OK i) W w7)(sS:∀g,(RI a' (ny+1) c').ownBlock=OK g->ys.ownBlock=OK g\/g=(W:Nat))(He:zN rd (hs.take (k+1)) (l.drop i0)=OK (ps++[b],l.drop lV))(JO:lV<=l.length) :
 dZ l w rd hs n i0 ob Z v (k+1) lV (w7.setCell (ob,3) (.slice a' (ny+1) c')) (ps++[b]) kv (yv++cs) ks nk (.slice a' (ny+1) c') (ny+1):=by
 have z6:=sM.size;have z7:=sH.size;have zr:=h.z;have hlen:=h.len;have keep:∀i x,wr.heap[i]?=OK x->ys.ownBlock≠OK i->i≠ob->(w7.setCell (ob,3) (.slice a' (ny+1) c')).heap[i]?=OK x:=by
  intro i x hx h1 h2;have:=zZ hx;rw[sJ _ _ _ _ (by simpa using h2),sH.block i (by omega) h1,sM.block i this];exact hx
 have iW:∀i x,W.heap[i]?=OK x->ys.ownBlock≠OK i->i≠ob->(w7.setCell (ob,3) (.slice a' (ny+1) c')).heap[i]?=OK x:=by
  intro i x hx h1 h2;have:=zZ hx;rw[sJ _ _ _ _ (by simpa using h2),sH.block i (by omega) h1];exact hx
 have ltK:∀g,ks.ownBlock=OK g->g<(wr:Nat):=fun g hg=>h.ownK.lt hg;have ltY:∀g,ys.ownBlock=OK g->g<(wr:Nat):=fun g hg=>h.ownY.lt hg;have nY:∀i,i<Z->ys.ownBlock≠OK i:=fun i hi e=>by have:=h.blkY i e;omega
 have newg:∀g,(RI a' (ny+1) c').ownBlock=OK g->Z<=g:=fun g hg=>by
  rcases sS g hg with e|e
  ·exact h.blkY g e
  ·omega
 refine⟨by rw[h.hnk];omega,by rw[h.hny];omega,h.ksl,⟨_,_,rfl⟩,He,by simp[hlen],JO,?_,?_,?_,?_,?_,?_,newg,?_,?_,by simp[Ts];omega⟩
 ·refine Below.setCell ?_ (show w<=ob by omega) _;exact(zzT h.below sM).trans (sH.toBelow (by have:=h.below.size;omega) fun i hi e=>nY i (by omega) e)
 ·exact keep _ _ h.res (nY _ (by omega)) (by omega)
 ·have h1:z9 ob v ks ys w7:=by
   unfold z9;rw[sH.block ob (by omega) (nY _ Hw),sM.block ob (by omega)];exact h.out
  exact h1.put3
 ·exact h.ownK.keep fun g o hg ho=>keep g o ho (h.blkK g hg).2 (by have:=(h.blkK g hg).1;omega)
 ·exact si.keep fun g o hg ho=>by rw[sJ _ _ _ _ (by have:=newg g hg;simp;omega)];exact ho
 ·intro g hg;refine⟨(h.blkK g hg).1,fun e=>?_⟩;rcases sS g e with e'|e'
  ·exact(h.blkK g hg).2 e'
  ·have:=ltK g hg;omega
 ·rw[List.take_append_of_le_length (by omega)];refine(Rep.keep fun i x hi hx=>⟨⟨hi.1,hi.2.1,fun e=>?_⟩,keep i x hx hi.2.2 (by have:=hi.1;omega)⟩).2 _ _ h.repK;rcases sS i e with e'|e'
  ·exact hi.2.2 e'
  ·have:=zZ hx;omega
 ·rw[List.drop_append_of_le_length (by omega),qG];refine zY.append ((Rep.keep fun i x hi hx=>⟨⟨hi.1,hi.2.1,fun e=>(sS i e).elim (fun e'=>hi.2.2 e') (fun e'=>by have:=zZ hx;omega)⟩,keep i x hx hi.2.2 (by have:=hi.1;omega)⟩).2 _ _ h.repY) ?_
  ·have e1:zp [b]=kU b:=by simp[zp]
   rw[e1];refine(Rep.keep fun i x hi hx=>?_).2 _ _ aP;have h2:=zZ hx;have h3:wr<=i:=hi;refine⟨⟨by omega,fun e=>by have:=ltK i e;omega,fun e=>?_⟩,iW i x hx (fun e=>by have:=ltY i e;omega) (by omega)⟩;rcases sS i e with e'|e'
   ·have:=ltY i e';omega
   ·omega
theorem zz.lit4 {w:World}{e:TypeId}(cs:Array Value)(hn:cs.size=4)(hc:∀u∈cs.toList,u.oneCell'=OX)(g:Nat)(hg:g=w):zz 4 (.slice g 1 1) 1 cs.toList (w.alloc (.cells cs e)):=by
 subst hg;refine⟨by simp[hn],hc,.inl ⟨_,_,rfl,fun j u hu=>?_⟩⟩;unfold Addr.add;split
 ·subst j;simp;simpa using hu
 ·simp;simpa using hu
def NodeRel (l:Bs)(w:World)(rd:RdS)(hs:List (List Ty))(n i0 ob Z v:Nat)(k en:Nat)(wr:World):Prop:=
 ∃ps kv yv ks nk ys ny,dZ l w rd hs n i0 ob Z v k en wr ps kv yv ks nk ys ny
theorem l3Read_ask (l:Bs)(hl:Lim l.length)(e d:Nat)(F2:e+1+d=101)(ih:NodeSaid l e (d+1))(F:Nat->Prop)(hand:List Ty)(hv:Value)(i:Nat)(w:World)(hi:i<l.length)(hh:jD (e+1) hand)(hr:Rep F w (.sl 47 1 hand.length (qu hand)) hv)(iY:l[i]=40) :
 Calls RG 73 #[l,.int RD i,hv,.int RD d] w (uO l.length w (rdN (e+1) hand (l.drop i))):=by
 have Ar:=hl.le;have IH:=r9 ih;clear ih;have hlen:hand.length<=10000:=by have:=hh.2;omega
 have DH:¬(100:Int)<(d:Int):=by omega
 have HM:=r9 (rdN_40 e hand hi iY);have f1:=uG hi (c:=116) (n:=116) (by decide) (by rw[iY];decide);have f2:=uG hi (c:=102) (n:=102) (by decide) (by rw[iY];decide);have f3:=uG hi (c:=117) (n:=117) (by decide) (by rw[iY];decide);have f4:=vi hi (n:=40) (by decide) iY;clear iY;obtain⟨a0,k0,ehv,_,_,sG⟩:=zH hr;subst ehv;have s_:=r9 sG;clear sG;go_enter Uw,Ui;go_wp2_with fail
 rw[show (i:Int)+1=((i+1:Nat):Int) from by omega];refine(l3Number_any l hl (i+1) hi _).mono ?_;rintro en w1 ⟨v,k1,rfl,ew,tK,tH⟩;obtain rfl:=ew;cases hq:jE (l.drop (i+1)) with
 | none =>
   obtain rfl:=tK hq;have hm:rdN (e+1) hand (l.drop i)=U:=by rw[HM.out,hq]
   have HM:=r9 hm;clear hm hq tK tH;go_wp2_with fail
   refine bodyPost_ret (v:=.tuple #[.agg #[str [],.int RD 0,(),()],.int RD (-1)]) (by simp[results,SB,go_sem]) rfl ?_;exact uO.no HM.out (by repeat (first | exact sQ _ _ | refine Below.alloc ?_ (sZ _) _ | refine Below.setCell ?_ (by simp) _))
 |some x=>
 obtain⟨v',c⟩:=x;obtain⟨rfl,rfl⟩:=tH _ _ hq;have lD:i+1+c<=l.length/\v<=9999:=by
  unfold jE at hq;split at hq
  ·simp at hq
  ·simp at hq;obtain⟨e1,e2⟩:=hq;have h1:=bw (l.drop (i+1));have h2:=valOf_lt (qD (l.drop (i+1))) (yw _);have h3:10 ^ (qD (l.drop (i+1))).length<=10 ^ 4:=VP (by omega) h1.1;simp at h1;omega
 obtain⟨lD,hv9⟩:=lD;have HQ:=r9 hq;clear hq tK tH;by_cases D1:v<hand.length;rotate_left
 ·have hm:rdN (e+1) hand (l.drop i)=U:=by
   rw[HM.out,HQ.out];simp only;rw[List.getElem?_eq_none (by omega)]
  have HM:=r9 hm;clear hm;go_wp2_with fail
  refine bodyPost_ret (v:=.tuple #[.agg #[str [],.int RD 0,(),()],.int RD (-1)]) (by simp[results,SB,go_sem]) rfl ?_;exact uO.no HM.out (by repeat (first | exact sQ _ _ | refine Below.alloc ?_ (sZ _) _ | refine Below.setCell ?_ (by simp) _))
 obtain⟨bl,ol,u,dv,ea,N2,Dk,NO,hcl2,iK⟩:=s_.out v D1;rw[vU,RP]at NO;obtain⟨t,ht,rfl⟩:=NO;obtain⟨sa,ks,rfl⟩:=za iK;have Mj:=iK;rw[jJ]at Mj;obtain⟨_,_,est,_,_,II⟩:=zH Mj;simp only[RT]at est;obtain⟨rfl,_,rfl⟩:=est;subst ea;have HT:=r9 ht;have Nu:=r9 II
 have hm : rdN (e+1) hand (l.drop i)=(do
         let (ps,l1)<-zN (rdN e) (jP hand t) ((l.drop (i+1)).drop c)
         let l2<-cut [41] l1
         let b<-wM v t.args.length ps
         some (b,l2)):=by rw [HM.out,HQ.out];simp only [ht]
 rw[List.drop_drop]at hm;have HM:=r9 hm;have AD:t.args.length<=15:=by
  have h1:=hh.1 t (RX ht);have h2:=kI t;have:=kW t.args;omega
 clear hm ht II Mj;have gv:decide (hand.length<=v)=RC:=by rw[decide_eq_false_iff_not];omega
 have gi:decide ((i:Int)+1+(c:Int)<0)=RC:=by rw[decide_eq_false_iff_not];omega
 go_wp2_with fail
 have lZ:NodeRel l w (rdN e) (jP hand t) t.args.length (i+1+c) ((w:Nat)+1) ((w:Nat)+2) v 0 (i+1+c)
  ((w.alloc (.cells #[str [],.int RD 0,(),()] 53)).alloc (.cells #[str [],.int RD v,(),()] 53)):=by
  refine⟨[],[],[],.slice U 0 0,0,.slice U 0 0,0,by simp,by simp,⟨_,_,rfl⟩,⟨_,_,rfl⟩,by simp[zN],rfl,lD,((sQ _ _).alloc (sZ _) _).alloc (by simp) _,?_,?_,Sf _ _ _ _,Sf _ _ _ _,fun g h=>by simp[RM]at h,fun g h=>by simp[RM]at h,by rw[List.take_nil];exact zE.2 rfl,by rw[List.drop_nil];exact zE.2 rfl,by simp⟩
  ·exact zJ (zW _ _)
  ·have:=zW (w.alloc (.cells #[str [],.int RD 0,.slice U 0 0,.slice U 0 0] 53)) (.cells #[str [],.int RD v,.slice U 0 0,.slice U 0 0] 53);rw[zK]at this;exact this
 generalize N1:i+1+c=i0 at *;rw[show (i:Int)+1+(c:Int)=(i0:Int) from by omega];have HI0:=r9 N1;clear N1
 go_loopw [11,14] (fun a b wr=>∃k en:Nat,k<=t.args.length+2/\a=.int RD en/\b=.int RD k/\NodeRel l w (rdN e) (jP hand t) t.args.length i0 (w.heap.size+1) (w.heap.size+2) v k en wr)
  (fun _ b _=>t.args.length+2-(intOf b).toNat)
 case atStart=>exact⟨0,i0,R6 _,rfl,rfl,lZ⟩
 case round=>
  clear lZ;rename_i wr;obtain⟨k,en,hk,rfl,rfl,hrel⟩:=hrel;obtain⟨ps,kv,yv,ks,nk,ys,ny,hrel⟩:=hrel;have A0:=hrel.res;have oW:=hrel.out;have hb:=hrel.below;have hen:=hrel.en;have zr:=hrel.z;have HP:=r9 hrel.spec;have nkl:nk<=17:=by have:=hrel.hnk;omega
  have nyl:ny<=2:=by have:=hrel.hny;omega
  obtain⟨ka,kc,eks⟩:=hrel.ksl;obtain⟨ya,yc,eys⟩:=hrel.ysl;subst eks;subst eys;have HR:=r9 hrel;clear hrel;obtain⟨r0,r1,r2,r3,rl,rf⟩:=A0.cells;obtain⟨q0,q1,q2,q3,ql,qf⟩:=oW.cells;have iX:=rf 0;have iu:=rf 1;have lA:=rf 2;have Aj:=rf 3;clear rf;have I2:=qf 2;have Nw:=qf 3;clear qf;by_cases sC:k<t.args.length+2
  ·have tB:(k:Int)<(t.args.length:Int)+2:=by omega
   by_cases Eb:∃h:en<l.length,l[en]=32;rotate_left
   ·have hm:rdN (e+1) hand (l.drop i)=U:=by
     have hs:=xb (rd:=rdN e) (show (jP hand t)[k]?=OK _ from List.getElem?_eq_getElem (by rw[uq];exact sC)) HP.out;have hc:cut [32] (l.drop en)=U:=by
      by_cases h:en<l.length
      ·rw[y8 h,if_neg (fun h'=>Eb ⟨h,h'⟩)]
      ·exact be (by omega)
     rw[HM.out,uM (k+1) (by rw[hs];simp[qC,hc])];rfl
    have HM:=r9 hm;clear hm;have im:(l.length<=en)\/∃h:en<l.length,((((⟨l.toArray⟩:ByteArray)[en]'(ke h)).toNat:Int) != 32)=OX:=by
     by_cases h:en<l.length
     ·exact .inr ⟨h,vR h (n:=32) (by decide) (fun h'=>Eb ⟨h,h'⟩)⟩
     ·exact .inl (by omega)
    clear Eb;rcases im with h|⟨h,f5⟩
    focus
     have g1:(l.length:Int)<=(en:Int):=by omega
    rotate_left
    all_goals
     go_wp2_with fail
     obtain⟨W,hW,s0,s1,s2,s3,sF,_⟩:=A0.store (.string ⟨#[]⟩) (.int RD 0) () ();rw[<- hW];refine bodyPost_ret (v:=.tuple #[.agg #[str [],.int RD 0,(),()],.int RD (-1)]) (by simp[results,SB,go_sem,s0,s1,s2,s3]) rfl ?_;exact uO.no HM.out (sF _ _ hb (sZ _))
   obtain⟨BU,Eb⟩:=Eb;have f5:=vi BU (n:=32) (by decide) Eb;have g1:decide ((en:Int)<0)=RC:=by rw[decide_eq_false_iff_not];omega
   have g2:decide (l.length<=en)=RC:=by rw[decide_eq_false_iff_not];omega
   have HC:Hid (cut [32] (l.drop en)=OK (l.drop (en+1))):=by show cut [32] (l.drop en)=_;rw[y8 BU,if_pos Eb]
   clear Eb;by_cases B6:k<t.args.length
   ·have MD:(k:Int)<(t.args.length:Int):=by omega
    obtain⟨ba,oa,uk,dk,esa,hFa,MW,Ip,Jj,tq⟩:=Nu.out k B6;subst esa;rw[vU,RP]at Ip;obtain⟨tk,lM,rfl⟩:=Ip;obtain⟨ua,uc,rfl⟩:=za tq;have e1:wr (ba,oa+k)=OK (.slice ua tk.args.length uc):=by rw[hb.cell MW];exact Jj
    have Ph:=Rep.below (F':=F) hb (fun _ h=>h) tq;have o_:=Rep.below (F':=F) hb (fun _ h=>h) hr;have hhk:jD e (hand++tk.args):=hh.next HT.out (RX lM);have JK:Lim (hand.length+tk.args.length):=by have:=hhk.2;simp at this;show _<=_;omega
    have HS:=r9 (xb (rd:=rdN e) (eX (hand:=hand) lM) HP.out);clear lM Jj tq;go_wp2_with fail
    refine(l3Hand_any F hand tk _ _ wr o_ Ph JK).mono ?_;rintro en5 w5 ⟨a5,c5,rfl,sx,Gu⟩;have z5:=sx.size;have HR5:=r9 Gu;clear Gu o_ Ph JK;have Q:=r9 (r_ A0 (r_ oW (r_ hb sx)));have rl5:(w:Nat)<w5:=by omega
    have ql5:(w:Nat)+1<(w5:Nat):=by omega
    go_wp2_with fail
    rw[show (en:Int)+1=((en+1:Nat):Int) from by omega,show (d:Int)+1=((d+1:Nat):Int) from by omega,<- RL];refine(IH.out (fun k=>F k\/wr<=k) (hand++tk.args) _ (en+1) w5 BU hhk (by rw[RL]at HR5 ⊢;exact HR5.out)).mono ?_;rintro Fu w6 ⟨s6,v6,a2,n2,k2,a3,n3,k3,k6,rfl,sM,oL,Am⟩;rw[RL];obtain⟨A0,oW,hb,sx⟩:=Q.out;have z6:=sM.size;have BG:=sx.trans (sM.mono z5);have Ep:=A0.below BG rl;have Er:=oW.below BG ql;have DI:=zzT hb BG;obtain⟨r0,r1,r2,r3,rl6,rf⟩:=Ep.cells;obtain⟨q0,q1,q2,q3,LT,qf⟩:=Er.cells;have iX:=rf 0;have iu:=rf 1;have lA:=rf 2;have Aj:=rf 3;clear rf;have I2:=qf 2;have Nw:=qf 3;clear qf;have Q2:=r9 (r_ BG (r_ Ep Er));clear sx hb A0 oW BG Ep Er sM Q;cases hq:rdN e (hand++tk.args) (l.drop (en+1)) with
    | none =>
      obtain rfl:=oL hq;have hm:rdN (e+1) hand (l.drop i)=U:=by
       rw[HM.out,uM (k+1) (by rw[HS.out];simp[qC,HC.out,hq])];rfl
      have HM:=r9 hm;clear hm hq oL Am;go_wp2_with fail
      obtain⟨W,hW,s0,s1,s2,s3,sF,_⟩:=Q2.out.2.1.store (.string ⟨#[]⟩) (.int RD 0) () ();rw[<- hW];refine bodyPost_ret (v:=.tuple #[.agg #[str [],.int RD 0,(),()],.int RD (-1)]) (by simp[results,SB,go_sem,zV s0,zV s1,zV s2,zV s3]) rfl ?_;exact uO.no HM.out ((sF _ _ DI (sZ _)).alloc (sF _ _ DI (sZ _)).size _)
    | some x =>
      obtain⟨b,rest⟩:=x;obtain⟨rfl,Fe⟩:=Am _ _ hq;have Ap:=xK (pz e hq);have I8:rest.length<=l.length:=by have:=(pz e hq).length_le;simp at this;omega
      obtain⟨lV,Ji⟩:=zzM (l.length-rest.length);rw[<- Ji]at Ap;have EB:(l.length:Int)-(rest.length:Int)=(lV:Int):=by omega
      rw[EB];have Gp:=r9 Ji;clear Ji EB;have hs:zN (rdN e) ((jP hand t).take (k+1)) (l.drop i0)=OK (ps++[b],l.drop lV):=by
       rw[HS.out];simp[qC,HC.out,hq,Ap]
      have Rq:=r9 hs;have Rw:=r9 Fe;clear hs Fe hq oL Am Ap;go_wp2_with (at_builtin;refine zF rfl _ _ 51 rfl 53 (.agg #[str [],.int RD 0,(),()]) 4 72 SN Tryz.infoN rfl (by decide) (.slice ka nk kc) nk kv rfl ?c1 _ 1 [s6,.int RD v6,.slice a2 n2 k2,.slice a3 n3 k3] rfl ?c2 ?c3 ?c4 ?_)
      case c1=>
       refine(HR.out.ownK.keep fun g o hg ho=>?_).alloc _ |>.alloc _;rw[Q2.out.1.block g (zZ ho)];exact ho
      case c2=>exact zz.lit4 #[s6,.int RD v6,.slice a2 n2 k2,.slice a3 n3 k3] rfl (by simp[str,R4]) _ (by simp)
      case c3=>unfold maxLen;omega
      case c4=>omega
      intro a' c' w7 sj sH sS;have hW:No wr ((w6.alloc (.cells #[s6,.int RD v6,.slice a2 n2 k2,.slice a3 n3 k3] 53)).alloc (.cells #[s6,.int RD v6,.slice a2 n2 k2,.slice a3 n3 k3] 53)):=(Q2.out.1.alloc Q2.out.1.size _).alloc (by have:=Q2.out.1.size;simp;omega) _
      have hC:zY (wr<=·) ((w6.alloc (.cells #[s6,.int RD v6,.slice a2 n2 k2,.slice a3 n3 k3] 53)).alloc (.cells #[s6,.int RD v6,.slice a2 n2 k2,.slice a3 n3 k3] 53)) (kU b) [s6,.int RD v6,.slice a2 n2 k2,.slice a3 n3 k3]:=
       (Rep.keep fun i o hi ho=>⟨sU z5 hi,zJ (zJ ho)⟩).2 _ _ Rw.out
      have hA:=HR.out.kid B6 (by omega) (show (w:Nat)<w+1 by omega) hW hC sj sH (fun g hg=>by simpa only[zK] using sS g hg) Rq.out (by have:=Gp.out;omega);have z7:=sH.size;rw[zK,zK]at z7;have ED:w7 ((w:Nat)+1,2)=OK (.slice ka nk kc):=by
       rw[sH.cell (by simp only[zK];omega) (fun e=>by have h:(w:Nat)+2<=(w:Nat)+1:=(HR.out.blkK _ e).1;omega)];exact zV (zV q2)
      have MK:w7.frozen? ((w:Nat)+1,2)=RC:=by
       rw[SK (w:=w6) (by rw[sH.block _ (by simp only[zK];omega) (fun e=>by have h:(w:Nat)+2<=(w:Nat)+1:=(HR.out.blkK _ e).1;omega)];rw[Below.heap_alloc _ _ _ (by simp only[zK];omega),Below.heap_alloc _ _ _ (by omega)])];exact I2
      have HA:=r9 hA;clear hA hW hC sj sH sS;go_wp2_with fail
      go_roundw
      case rel=>exact⟨k+1,lV,by omega,rfl,by go_num,_,_,_,_,_,_,_,HA.out⟩
      case measure=>simp[intOf];omega
   ·have MD:t.args.length<=k:=by omega
    have hkn2:¬(k:Int)<(t.args.length:Int):=by omega
    have o_:=Rep.below (F':=F) hb (fun _ h=>h) hr;have HS:=r9 (xb (rd:=rdN e) (eY (hand:=hand) (t:=t) MD sC) HP.out);go_wp2_with fail
    refine(IH.out F hand _ (en+1) wr BU (by have:=hh.same;rwa [R9]at this) o_).mono ?_;rintro Fu w6 ⟨s6,v6,a2,n2,k2,a3,n3,k3,k6,rfl,sM,oL,Am⟩;have z6:=sM.size;have BG:=sM;have Ep:=A0.below BG rl;have Er:=oW.below BG ql;have DI:=zzT hb BG;obtain⟨r0,r1,r2,r3,rl6,rf⟩:=Ep.cells;obtain⟨q0,q1,q2,q3,LT,qf⟩:=Er.cells;have iX:=rf 0;have iu:=rf 1;have lA:=rf 2;have Aj:=rf 3;clear rf;have I2:=qf 2;have Nw:=qf 3;clear qf;have Q2:=r9 (r_ BG (r_ Ep Er));clear hb A0 oW BG Ep Er sM;cases hq:rdN e hand (l.drop (en+1)) with
    | none =>
      obtain rfl:=oL hq;have hm:rdN (e+1) hand (l.drop i)=U:=by
       rw[HM.out,uM (k+1) (by rw[HS.out];simp[qC,HC.out,hq])];rfl
      have HM:=r9 hm;clear hm hq oL Am;go_wp2_with fail
      obtain⟨W,hW,s0,s1,s2,s3,sF,_⟩:=Q2.out.2.1.store (.string ⟨#[]⟩) (.int RD 0) () ();rw[<- hW];refine bodyPost_ret (v:=.tuple #[.agg #[str [],.int RD 0,(),()],.int RD (-1)]) (by simp[results,SB,go_sem,zV s0,zV s1,zV s2,zV s3]) rfl ?_;exact uO.no HM.out ((sF _ _ DI (sZ _)).alloc (sF _ _ DI (sZ _)).size _)
    | some x =>
      obtain⟨b,rest⟩:=x;obtain⟨rfl,Fe⟩:=Am _ _ hq;have Ap:=xK (pz e hq);have I8:rest.length<=l.length:=by have:=(pz e hq).length_le;simp at this;omega
      obtain⟨lV,Ji⟩:=zzM (l.length-rest.length);rw[<- Ji]at Ap;have EB:(l.length:Int)-(rest.length:Int)=(lV:Int):=by omega
      rw[EB];have Gp:=r9 Ji;clear Ji EB;have hs:zN (rdN e) ((jP hand t).take (k+1)) (l.drop i0)=OK (ps++[b],l.drop lV):=by
       rw[HS.out];simp[qC,HC.out,hq,Ap]
      have Rq:=r9 hs;have Rw:=r9 Fe;clear hs Fe hq oL Am Ap;go_wp2_with (at_builtin;refine zF rfl _ _ 51 rfl 53 (.agg #[str [],.int RD 0,(),()]) 4 72 SN Tryz.infoN rfl (by decide) (.slice ya ny yc) ny yv rfl ?c1 _ 1 [s6,.int RD v6,.slice a2 n2 k2,.slice a3 n3 k3] rfl ?c2 ?c3 ?c4 ?_)
      case c1=>
       refine(HR.out.ownY.keep fun g o hg ho=>?_).alloc _ |>.alloc _;rw[Q2.out.1.block g (zZ ho)];exact ho
      case c2=>exact zz.lit4 #[s6,.int RD v6,.slice a2 n2 k2,.slice a3 n3 k3] rfl (by simp[str,R4]) _ (by simp)
      case c3=>unfold maxLen;omega
      case c4=>omega
      intro a' c' w7 sj sH sS;have hW:No wr ((w6.alloc (.cells #[s6,.int RD v6,.slice a2 n2 k2,.slice a3 n3 k3] 53)).alloc (.cells #[s6,.int RD v6,.slice a2 n2 k2,.slice a3 n3 k3] 53)):=(Q2.out.1.alloc Q2.out.1.size _).alloc (by have:=Q2.out.1.size;simp;omega) _
      have hC:zY (wr<=·) ((w6.alloc (.cells #[s6,.int RD v6,.slice a2 n2 k2,.slice a3 n3 k3] 53)).alloc (.cells #[s6,.int RD v6,.slice a2 n2 k2,.slice a3 n3 k3] 53)) (kU b) [s6,.int RD v6,.slice a2 n2 k2,.slice a3 n3 k3]:=
       (Rep.keep fun i o hi ho=>⟨hi,zJ (zJ ho)⟩).2 _ _ Rw.out
      have hA:=HR.out.yes MD (by omega) (show (w:Nat)<w+1 by omega) hW hC sj sH (fun g hg=>by simpa only[zK] using sS g hg) Rq.out (by have:=Gp.out;omega);have z7:=sH.size;rw[zK,zK]at z7;have ED:w7 ((w:Nat)+1,3)=OK (.slice ya ny yc):=by
       rw[sH.cell (by simp only[zK];omega) (fun e=>by have h:(w:Nat)+2<=(w:Nat)+1:=HR.out.blkY _ e;omega)];exact zV (zV q3)
      have MK:w7.frozen? ((w:Nat)+1,3)=RC:=by
       rw[SK (w:=w6) (by rw[sH.block _ (by simp only[zK];omega) (fun e=>by have h:(w:Nat)+2<=(w:Nat)+1:=HR.out.blkY _ e;omega)];rw[Below.heap_alloc _ _ _ (by simp only[zK];omega),Below.heap_alloc _ _ _ (by omega)])];exact Nw
      have HA:=r9 hA;clear hA hW hC sj sH sS;go_wp2_with fail
      go_roundw
      case rel=>exact⟨k+1,lV,by omega,rfl,by go_num,_,_,_,_,_,_,_,HA.out⟩
      case measure=>simp[intOf];omega
  ·have B6:k=t.args.length+2:=by omega
   have tB:¬(k:Int)<(t.args.length:Int)+2:=by omega
   have hp:zN (rdN e) (jP hand t) (l.drop i0)=OK (ps,l.drop en):=by
    have:=HP.out;rwa [B6,S6 (by rw[uq];exact sZ _)]at this
   have hm:rdN (e+1) hand (l.drop i)=(do
    let l2<-cut [41] (l.drop en)
    let b<-wM v t.args.length ps
    some (b,l2)):=by rw [HM.out,hp];rfl
   have HM:=r9 hm;have HKN:=r9 B6;clear hm hp B6;by_cases Dl:∃h:en<l.length,l[en]=41;rotate_left
   ·have hm:rdN (e+1) hand (l.drop i)=U:=by
     have hc:cut [41] (l.drop en)=U:=by
      by_cases h:en<l.length
      ·rw[y8 h,if_neg (fun h'=>Dl ⟨h,h'⟩)]
      ·exact be (by omega)
     rw[HM.out,hc];rfl
    have HM:=r9 hm;clear hm;have im:(l.length<=en)\/∃h:en<l.length,((((⟨l.toArray⟩:ByteArray)[en]'(ke h)).toNat:Int) != 41)=OX:=by
     by_cases h:en<l.length
     ·exact .inr ⟨h,vR h (n:=41) (by decide) (fun h'=>Dl ⟨h,h'⟩)⟩
     ·exact .inl (by omega)
    clear Dl;rcases im with h|⟨h,f5⟩
    focus
     have g1:(l.length:Int)<=(en:Int):=by omega
    rotate_left
    all_goals
     go_wp2_with fail
     obtain⟨W,hW,s0,s1,s2,s3,sF,_⟩:=A0.store (.string ⟨#[]⟩) (.int RD 0) () ();rw[<- hW];refine bodyPost_ret (v:=.tuple #[.agg #[str [],.int RD 0,(),()],.int RD (-1)]) (by simp[results,SB,go_sem,s0,s1,s2,s3]) rfl ?_;exact uO.no HM.out (sF _ _ hb (sZ _))
   obtain⟨BU,Dl⟩:=Dl;have f5:=vi BU (n:=41) (by decide) Dl;have g1:decide ((en:Int)<0)=RC:=by rw[decide_eq_false_iff_not];omega
   have g2:decide (l.length<=en)=RC:=by rw[decide_eq_false_iff_not];omega
   have HC:Hid (cut [41] (l.drop en)=OK (l.drop (en+1))):=by show cut [41] (l.drop en)=_;rw[y8 BU,if_pos Dl]
   clear Dl;go_wp2_with fail
   obtain⟨W,hW,s0,s1,s2,s3,sF,tZ⟩:=A0.store (str []) (.int RD v) (.slice ka nk kc) (.slice ya ny yc);have IR:=HR.out;have AZ:=IR.len;have hnk:=IR.hnk;have hny:=IR.hny;have B6:=HKN.out;obtain⟨y1,y2,G0⟩:∃y1 y2,ps.drop t.args.length=[y1,y2]:=by
    match hd:ps.drop t.args.length with
    |[a,b]=>exact⟨a,b,rfl⟩
    |[]=>have:=congrArg Td hd;simp at this;omega
    |[a]=>have:=congrArg Td hd;simp at this;omega
    |a::b::c::d=>have:=congrArg Td hd;simp at this;omega
   have hm:rdN (e+1) hand (l.drop i)=OK (.ask v (ps.take t.args.length) y1 y2,l.drop (en+1)):=by
    rw[HM.out,HC.out];simp[wM,G0]
   have hnk':nk=(ps.take t.args.length).length:=by simp;omega
   have hny':ny=2:=by omega
   rw[<- hW];refine bodyPost_ret (v:=.tuple #[.agg #[str [],.int RD v,.slice ka nk kc,.slice ya ny yc],.int RD ((en:Int)+1)]) (by simp[results,SB,go_sem,s0,s1,s2,s3]) rfl ?_;refine uO.yes (s:=[]) hm (by simp;omega) (sF _ _ hb (sZ _)) ?_;rw[yG];refine zQ.2 ⟨_,_,rfl,zC.2 rfl,zQ.2 ⟨_,_,rfl,zC.2 rfl,zQ.2 ⟨_,_,rfl,?_,zQ.2 ⟨_,_,rfl,?_,zE.2 rfl⟩⟩⟩⟩
   ·rw[<- hnk'];refine(IR.ownK.keep fun g o hg ho=>tZ g o (by have:=(IR.blkK g hg).1;omega) ho).rep (fun g hg=>by have:=(IR.blkK g hg).1;omega) ?_;exact(Rep.keep fun x o hx ho=>⟨by have:=hx.1;omega,tZ x o (by have:=hx.1;omega) ho⟩).2 _ _ IR.repK
   ·have lq:=IR.repY;rw[G0]at lq;rw[<- hny'];refine(IR.ownY.keep fun g o hg ho=>tZ g o (by have:=IR.blkY g hg;omega) ho).rep (fun g hg=>by have:=IR.blkY g hg;omega) ?_;exact(Rep.keep fun x o hx ho=>⟨by have:=hx.1;omega,tZ x o (by have:=hx.1;omega) ho⟩).2 _ _ lq
theorem l3Read_any (l:Bs)(hl:Lim l.length)(e:Nat):∀d,e+d=101->NodeSaid l e d:=by
 induction e with
 |zero=>exact fun d F2 F hand hv i w hi _ hr=>dw l hl 0 d F2 F hand hv i w hi hr (fun _=>.inl rfl)
 | succ e ih =>
   intro d F2 F hand hv i w hi hh hr;by_cases h:∃h:i<l.length,l[i]=40
   ·obtain⟨h,iY⟩:=h;exact l3Read_ask l hl e d F2 (ih (d+1) (by omega)) F hand hv i w h hh hr iY
   ·exact dw l hl (e+1) d F2 F hand hv i w hi hr (fun h'=>.inr fun iY=>h ⟨h',iY⟩)
def kh:Bd->List Bd
 |.leaf _=>[]
 |.ask _ ss _ _=>ss
def qS:Bd->List Bd
 |.leaf _=>[]
 |.ask _ _ y n=>[y,n]
def z_:Bd->Bs
 |.leaf c=>[c]
 |.ask _ _ _ _=>[]
def AtN (F:Nat->Prop)(w:World)(bs:List Bd)(a:Option Addr)(k:Nat):Prop:=
 ∃ b o s v a2 n2 c2 a3 n3 c3 d,a=some ⟨b,o,none⟩/\b<(w:Nat)/\bs[k]? = some d/\w (b,o+k*4)=str s/\w (b,o+k*4+1)=some (.int .i64 v) /\
   w (b,o+k*4+2)=OK (.slice a2 n2 c2)/\w (b,o+k*4+3)=OK (.slice a3 n3 c3)/\zY F w (kU d) [s,.int RD v,.slice a2 n2 c2,.slice a3 n3 c3]
def bZ (F:Nat->Prop)(w:World)(bs:List Bd)(a:Option Addr):Prop:=∀k,k<bs.length->AtN F w bs a k
theorem jA {F:Nat->Prop}{w:World}{b:Bd}{vs:List Value}(h:zY F w (kU b) vs) :
 ∃ v a2 c2 a3 c3,vs=[str (z_ b),.int .i64 v,.slice a2 (kh b).length c2,.slice a3 (qS b).length c3] /\
   Rep F w (.sl 53 4 (kh b).length (zp (kh b))) (.slice a2 (kh b).length c2)/\Rep F w (.sl 53 4 (qS b).length (zp (qS b))) (.slice a3 (qS b).length c3):=by
 have key:∀(s:Bs) (v:Int) (d2 d3:DV) (n2 n3:Nat) (k2 k3:List DV),d2=.sl 53 4 n2 k2->d3=.sl 53 4 n3 k3->zY F w [.val (str s),.val (.int RD v),d2,d3] vs->
  ∃a2 c2 a3 c3,vs=[str s,.int RD v,.slice a2 n2 c2,.slice a3 n3 c3]/\Rep F w d2 (.slice a2 n2 c2)/\Rep F w d3 (.slice a3 n3 c3):=by
  intro s v d2 d3 n2 n3 k2 k3 e2 e3 h;obtain⟨_,_,rfl,h0,h⟩:=zQ.1 h;obtain⟨_,_,rfl,h1,h⟩:=zQ.1 h;obtain⟨_,_,rfl,h2,h⟩:=zQ.1 h;obtain⟨_,_,rfl,h3,h⟩:=zQ.1 h;rw[zE]at h;subst h;rw[zC]at h0 h1;subst h0;subst h1;have h2':=h2;have h3':=h3;rw[e2]at h2';rw[e3]at h3';obtain⟨_,a2,c2,e2',_⟩:=zv.1 h2';obtain⟨_,a3,c3,e3',_⟩:=zv.1 h3';subst e2';subst e3';exact⟨a2,c2,a3,c3,rfl,h2,h3⟩
 cases b with
 | leaf c =>
   rw[kU]at h;obtain⟨a2,c2,a3,c3,e,h2,h3⟩:=key _ _ _ _ 0 0 [] [] rfl rfl h;exact⟨_,a2,c2,a3,c3,e,h2,h3⟩
 | ask v ss y n =>
   rw[yG]at h;obtain⟨a2,c2,a3,c3,e,h2,h3⟩:=key _ _ _ _ _ _ _ _ rfl rfl h;exact⟨_,a2,c2,a3,c3,e,h2,h3⟩
theorem bZ.of {F:Nat->Prop}{w:World}{bs:List Bd}{v:Value}(h:Rep F w (.sl 53 4 bs.length (zp bs)) v):∃a c,v=.slice a bs.length c/\bZ F w bs a:=by
 obtain⟨hl,a,c,rfl,hn,hz,h⟩:=zv.1 h;refine⟨a,c,rfl,fun k hk=>?_⟩;rcases h with h|⟨b,o,cs,fr,rfl,hb,hc,hr⟩
 ·omega
 ·have hs:zp bs=zp (bs.take k)++(kU bs[k]++zp (bs.drop (k+1))):=by
   have e1:kU bs[k]=zp [bs[k]]:=by simp[zp]
   rw[e1,<- qG,<- qG]
   congr 1
   simp
  rw[hs]at hr;obtain⟨h1,h2⟩:=hr.split;obtain⟨h3,h4⟩:=h2.split;have AG:(zp (bs.take k)).length=k*4:=by rw[dn];simp;omega
  rw[AG,qy]at h3;obtain⟨v,a2,c2,a3,c3,e,_⟩:=jA h3;have sG:∀j u,([str (z_ bs[k]),.int RD v,.slice a2 (kh bs[k]).length c2,.slice a3 (qS bs[k]).length c3]:List Value)[j]?=OK u->w (b,o+k*4+j)=OK u:=by
   intro j u hu;rw[<- e]at hu;have hj:j<4:=by
    have:=(RR.1 hu).1;simp at this;omega
   rw[Su,if_pos hj,SA,Su]at hu;split at hu
   ·rw[SA]at hu;simp only[RE,hc];rw[Nat.add_assoc];simpa using hu
   ·simp at hu
  refine⟨b,o,_,v,a2,_,c2,a3,_,c3,bs[k],rfl,zZ hc,by simp[hk],sG 0 _ rfl,sG 1 _ rfl,sG 2 _ rfl,sG 3 _ rfl,?_⟩;rw[<- e];exact h3
theorem nS (b:Bd):kr b=kh b++qS b:=by cases b <;> rfl
def BoxN (g:Nat)(s:Bs)(k y:Value)(w:World):Prop:=
 w g=str s/\w (g,2)=k/\w (g,3)=y
theorem BoxN.below {g:Nat}{s:Bs}{k y:Value}{w w':World}(h:BoxN g s k y w)(hb:No w w'):BoxN g s k y w':=by
 obtain⟨h1,h2,h3⟩:=h;have:=sK w _ h1;exact⟨by rw[hb.cell (by exact this)];exact h1,by rw[hb.cell (by exact this)];exact h2,by rw[hb.cell (by exact this)];exact h3⟩
def fT (b:Bd):Prop:=∀(F:Nat->Prop) (w:World) (s:Bs) (v:Int) (a2:Option Addr) (n2 c2:Nat) (a3:Option Addr) (n3 c3:Nat),zY F w (kU b) [s,.int RD v,.slice a2 n2 c2,.slice a3 n3 c3]->
 Calls RG 36 #[.agg #[s,.int RD v,.slice a2 n2 c2,.slice a3 n3 c3]] w fun en w'=>en=.returned (.int RD (zG b))/\No w w'
theorem l3Size_step (b:Bd)(hl:Lim (zG b))(ih:∀b',zG b'<zG b->fT b'):fT b:=by
 intro F w s v a2 n2 c2 a3 n3 c3 hv;have G5:=jA hv;obtain⟨v',DU,DT,Gm,Gk,e,hk,hy⟩:=G5;simp only[RY,RT,and_true]at e;obtain⟨e0,e1,⟨rfl,e2,rfl⟩,⟨rfl,e3,rfl⟩⟩:=e;clear e0 e1;subst e2;subst e3;obtain⟨_,_,ek,oK⟩:=bZ.of hk;obtain⟨_,_,ey,QF⟩:=bZ.of hy;simp only[RT,true_and]at ek ey;obtain⟨rfl,rfl⟩:=ek;obtain⟨rfl,rfl⟩:=ey;have IH:=r9 ih;clear ih;have Ar:=hl.le;have tV:=ud b;rw[nS,jp]at tV;have AG:=qI (kh b);have Nz:=qI (qS b);have E1:=r9 tV;have kl:(kh b).length<=16777216:=by omega
 have yl:(qS b).length<=16777216:=by omega
 have ATK:=r9 oK;have ATY:=r9 QF;clear oK QF hk hy hv tV AG Nz;generalize hK:kh b=kids at *;generalize hY:qS b=yess at *;clear hK hY;go_enter Tryz.func36,Tryz.ntmps36;go_wp2_with fail
 go_loopw [3,4] (fun n i wr=>∃k:Nat,k<=kids.length/\i=.int RD k/\n=.int RD ((1+zI (kids.take k):Nat):Int)/\No w wr/\BoxN w s (.slice a2 kids.length c2) (.slice a3 yess.length c3) wr) (fun _ i _=>kids.length-(intOf i).toNat)
 case atStart=>exact⟨0,R6 _,rfl,by simp[zI],(sQ _ _).alloc (sZ _) _,by simp,by simp,by simp⟩
 case round=>
  rename_i wr;obtain⟨k,hk,rfl,rfl,hb,hc⟩:=hrel;obtain⟨lJ,oI,Iz⟩:=id hc;by_cases sC:k<kids.length
  ·obtain⟨bb,o,s',v',b2,m2,d2,b3,m3,d3,t,rfl,hbb,ht,u0,u1,u2,u3,hr⟩:=ATK.out k sC;have q0:=(hb.cell hbb).trans u0;have q1:=(hb.cell hbb).trans u1;have q2:=(hb.cell hbb).trans u2;have q3:=(hb.cell hbb).trans u3;have o_:=(zY.below (F':=F) hb (fun _ h=>h) hr);have hs:=xV ht;have tw:=vD kids (k+1);have oQ:=E1.out;have hp:=kQ t;have IH':=r9 (IH.out t (by omega));have HS:=r9 hs;have b1:1+zI (kids.take k)+zG t<=16777216:=by omega
   have hz:=sK wr _ lJ;clear hs ht oQ u0 u1 u2 u3 hr;go_wp2_with fail
   refine(IH'.out _ _ _ _ _ _ _ _ _ _ o_).mono ?_;rintro en w2 ⟨rfl,sY⟩;have sE:=zzT hb sY;obtain⟨lJ,oI,Iz⟩:=id (hc.below sY);have Fg:=r9 (hc.below sY);go_wp2_with fail
   go_roundw
   case rel=>exact⟨k+1,by omega,by go_num,by rw[HS.out] <;> go_num,sE,Fg.out⟩
   case measure=>simp[intOf];omega
  ·obtain rfl:k=kids.length:=by omega
   rw[R8];have bK:1+zI kids<=16777216:=by have:=E1.out;omega
   clear hk sC;go_wp2_with fail
   have s8:=hb;have ir:=hc;clear hb hc lJ oI Iz
   go_loopw [3,5] (fun n i wr=>∃k:Nat,k<=yess.length/\i=.int RD k/\n=.int RD ((1+zI kids+zI (yess.take k):Nat):Int)/\No w wr/\BoxN w s (.slice a2 kids.length c2) (.slice a3 yess.length c3) wr) (fun _ i _=>yess.length-(intOf i).toNat)
   case atStart=>exact⟨0,R6 _,rfl,by simp[zI],s8,ir⟩
   case round=>
    clear s8 ir;obtain⟨k,hk,rfl,rfl,hb,hc⟩:=hrel;obtain⟨lJ,oI,Iz⟩:=id hc;by_cases sC:k<yess.length
    ·obtain⟨bb,o,s',v',b2,m2,d2,b3,m3,d3,t,rfl,hbb,ht,u0,u1,u2,u3,hr⟩:=ATY.out k sC;have q0:=(hb.cell hbb).trans u0;have q1:=(hb.cell hbb).trans u1;have q2:=(hb.cell hbb).trans u2;have q3:=(hb.cell hbb).trans u3;have o_:=(zY.below (F':=F) hb (fun _ h=>h) hr);have hs:=xV ht;have tw:=vD yess (k+1);have oQ:=E1.out;have hp:=kQ t;have IH':=r9 (IH.out t (by omega));have HS:=r9 hs;have b1:1+zI kids+zI (yess.take k)+zG t<=16777216:=by omega
     have hz:=sK _ _ lJ;clear hs ht oQ u0 u1 u2 u3 hr;go_wp2_with fail
     refine(IH'.out _ _ _ _ _ _ _ _ _ _ o_).mono ?_;rintro en w2 ⟨rfl,sY⟩;have sE:=zzT hb sY;obtain⟨lJ,oI,Iz⟩:=id (hc.below sY);have Fg:=r9 (hc.below sY);go_wp2_with fail
     go_roundw
     case rel=>exact⟨k+1,by omega,by go_num,by rw[HS.out] <;> go_num,sE,Fg.out⟩
     case measure=>simp[intOf];omega
    ·obtain rfl:k=yess.length:=by omega
     go_wp2_with fail
     go_ret;exact⟨yQ (by rw[E1.out,R8];omega),hb⟩
theorem ci (n:Nat):∀b,zG b<=n->Lim n->fT b:=by
 induction n with
 |zero=>intro b h _;have:=kQ b;omega
 |succ n ih=>exact fun b h hn=>l3Size_step b (hn.mono h) (fun b' h'=>ih b' (by omega) (hn.mono (by omega)))
theorem str_inj {a b:Bs}(h:str a=str b):a=b:=by
 simp only[str,Value.string.injEq,ByteArray.mk.injEq]at h;simpa using congrArg Array.toList h
theorem dT {F:Nat->Prop}{w:World}{b:Bd}{us:List Value}(h:zY F w (kU b) us):∀u∈us,u.oneCell'=OX:=by
 obtain⟨v,a2,c2,a3,c3,rfl,_⟩:=jA h;simp[str,R4]
theorem Tryz.infoBo:(RG.info? 147).map (fun i=>(i.zero,i.size,i.bytes))=OK (OK (.agg #[.int RD 0,str [],.int RD 0,(),(),(),(),.int RD 0,.int RD 0]),9,144):=by kernel_rfl
def kP (s text:Bs):Option Bd:=
 if (zD s).2=RC\/2000<text.length then U else
 match rdN 101 (zD s).1.args text with
 |none=>U
 |some (b,rest)=>if rest=[]/\zG b<=200 then OK b else U
theorem xQ {l:Bs}(h:(zD l).2=OX):zU (zD l).1<=15:=by
 unfold zD at *;split at h
 ·simp at h
 ·rename_i hl;rw[if_neg hl];cases hq:rdS 21 l with
  |none=>rw[hq]at h;simp at h
  |some x=>rw[hq]at h;obtain⟨t,rest⟩:=x;simp at h;exact h.2
theorem pg {t:Ty}(h:zU t<=15):jD 101 t.args:=by
 have hm:=kI t;have key:∀(ts:List Ty) (x:Ty),x∈ts->zU x<=zc ts:=by
  intro ts
  induction ts with
  |nil=>intro x hx;simp at hx
  | cons y ys ih =>
    intro x hx;rcases List.mem_cons.1 hx with rfl|hx
    ·simp[zc];omega
    ·have:=ih x hx;simp[zc];omega
 refine⟨fun x hx=>?_,?_⟩
 ·have:=key t.args x hx;omega
 ·have:=kW t.args;omega
theorem g9 {w:World}{p a:Addr}{u v:Value}(h:w.cell? a=v)(hne:a.block≠p.block):(w.setCell p u).cell? a=v:=by
 rw[TP (w:=w) (sJ _ _ _ _ hne)];exact h
theorem p_ {w w':World}{a:Addr}{v:Value}(h:w.cell? a=v)(hk:∀x,w.heap[a.block]?=OK x->w'.heap[a.block]?=OK x):w'.cell? a=v:=by
 have sC:=sK w a h;rw[TP (w:=w)]
 ·exact h
 ·rw[hk _ (Sh sC),Sh sC]
abbrev KeepS (g1 g2:Nat)(T u0 u1 u2 u3:Value)(w:World):Prop:=
 w g1=T/\w g2=u0/\w (g2,1)=u1/\w (g2,2)=u2/\w (g2,3)=u3
theorem KeepS.set {g1 g2:Nat}{T u0 u1 u2 u3:Value}{w:World}(h:KeepS g1 g2 T u0 u1 u2 u3 w)(b o:Nat)(u:Value)(h1:g1≠b)(h2:g2≠b):KeepS g1 g2 T u0 u1 u2 u3 (w.setCell (b,o) u):=
 ⟨g9 h.1 h1,g9 h.2.1 h2,g9 h.2.2.1 h2,g9 h.2.2.2.1 h2,g9 h.2.2.2.2 h2⟩
def vS (s text:Bs)(w:World)(en:Ending)(w':World):Prop:=
 ∃ (a:Option Addr) (c:Nat) (s':Bs) (v':Int) (a2:Option Addr) (n2 c2:Nat) (a3:Option Addr) (n3 c3:Nat),
   en=.returned (.tuple #[.agg #[.slice a (zD s).1.args.length c],.agg #[s',.int RD v',.slice a2 n2 c2,.slice a3 n3 c3],.bool (kP s text).isSome])/\No w w' /\
   Rep (w<=·) w' (ki (zD s).1) (.slice a (zD s).1.args.length c) /\
   (∀b,kP s text=OK b->zY (w<=·) w' (kU b) [s',.int RD v',.slice a2 n2 c2,.slice a3 n3 c3])
theorem vS.no {s text:Bs}{w w':World}{a:Option Addr}{c:Nat}{v:Value}(hv:v=.slice a (zD s).1.args.length c){s':Bs}{v':Int}{a2:Option Addr}{n2 c2:Nat}{a3:Option Addr}{n3 c3:Nat}{f:Bool}(hf:f=RC)(hn:kP s text=U)(hb:No w w')(hr:Rep (w<=·) w' (ki (zD s).1) v) :
 vS s text w (.returned (.tuple #[.agg #[v],.agg #[s',.int RD v',.slice a2 n2 c2,.slice a3 n3 c3],.bool f])) w':=by
 subst hv;subst hf;exact⟨a,c,s',v',a2,n2,c2,a3,n3,c3,by rw[hn];rfl,hb,hr,fun b h=>by rw[hn]at h;simp at h⟩
theorem vS.yes {s text:Bs}{w w':World}{a:Option Addr}{c:Nat}{v:Value}(hv:v=.slice a (zD s).1.args.length c){s':Bs}{v':Int}{a2:Option Addr}{n2 c2:Nat}{a3:Option Addr}{n3 c3:Nat}{f:Bool}{b:Bd}(hf:f=OX)(hn:kP s text=b)(hb:No w w')(hr:Rep (w<=·) w' (ki (zD s).1) v)(tG:zY (w<=·) w' (kU b) [s',.int RD v',.slice a2 n2 c2,.slice a3 n3 c3]) :
 vS s text w (.returned (.tuple #[.agg #[v],.agg #[s',.int RD v',.slice a2 n2 c2,.slice a3 n3 c3],.bool f])) w':=by
 subst hv;subst hf;exact⟨a,c,s',v',a2,n2,c2,a3,n3,c3,by rw[hn];rfl,hb,hr,fun b' h=>by rw[hn]at h;simp at h;subst h;exact tG⟩
theorem xo (s text:Bs)(hs:Lim s.length)(hl:Lim text.length)(w:World):Calls RG 44 #[s,text] w (vS s text w):=by
 have lw:=hs.le;have Ar:=hl.le;go_enter Tryz.func44,Tryz.ntmps44;go_wp2_with fail
 refine(x5 s hs _).mono ?_;rintro en w1 ⟨v1,rfl,sX,AC⟩;have z1:=sX.size;rw[zK,zK]at z1;obtain⟨a1,c1,e1⟩:=za AC;have E1:=r9 e1;have iJ:No w w1:=(((sQ w w).alloc (sZ _) _).alloc (by simp) _).trans (sX.mono (by simp;omega));have lU:(w:Nat)<w1:=by omega
 have iP:(w:Nat)+1<(w1:Nat):=by omega
 have r0:w1 w=OK (.slice U 0 0):=by rw[sX.cell (by simp only[zK];omega)];exact zV (by simp)
 have iX:w1.frozen? w=RC:=by
  rw[sX.frozen (by simp only[zK];omega)];rw[SK (w:=w.alloc (.cells #[()] 47)) (Below.heap_alloc _ _ _ (by simp))];simp
 have hN:z9 (w.heap.size+1) 0 (.slice U 0 0) (.slice U 0 0) w1:=by
  unfold z9;rw[sX.block _ (by simp)];have:=zW (w.alloc (.cells #[.slice U 0 0] 47)) (.cells #[str [],.int RD 0,.slice U 0 0,.slice U 0 0] 53);rw[zK]at this;exact this
 subst e1;have FF:Rep (w.heap.size+1 < ·) w1 (ki (zD s).1) (.slice a1 (zD s).1.args.length c1):=(Rep.keep fun b o h ho=>⟨by have:=xr h;rw[zK]at this;omega,ho⟩).1 _ _ AC
 have HS:Hid (kP s text=if (zD s).2=false\/2000<text.length then none else
  match rdN 101 (zD s).1.args text with
  |none=>U
  | some (b,rest)=>if rest=[]/\zG b<=200 then some b else none):=rfl
 have ER:=r9 (xQ (l:=s));generalize hT:(zD s).1=t at *;generalize hO:(zD s).2=ok at *;have HT:=r9 hT;clear hT hO AC;obtain⟨q0,q1,q2,q3,ql,qf⟩:=hN.cells;have qf0:=qf 0;have qf1:=qf 1;have I2:=qf 2;have Nw:=qf 3;clear qf;by_cases im:ok=OX/\text.length<=2000;rotate_left
 ·have hn:kP s text=U:=by
   rw[HS.out,if_pos];cases ok with
   |false=>exact .inl rfl
   |true=>exact .inr (by simp at im;omega)
  have HN:=r9 hn;clear hn;have im:ok=RC\/(ok=OX/\(2000:Int)<(text.length:Int)):=by
   cases ok with
   |false=>exact .inl rfl
   |true=>exact .inr ⟨rfl,by simp at im;omega⟩
  have h0:z9 ((w:Nat)+1) 0 () () (w1.setCell w (.slice a1 t.args.length c1)):=by
   unfold z9;rw[sJ _ _ _ _ (by simp)];exact hN
  obtain⟨W,hW,s0,s1,s2,s3,sF,tZ⟩:=h0.store (.string ⟨#[]⟩) (.int RD 0) () ();have t0:W w=OK (.slice a1 t.args.length c1):=p_ (vN r0 _) fun x hx=>tZ _ x (by simp) hx;have AJ:=sF _ _ (iJ.setCell (p:=w) (sZ _) (.slice a1 t.args.length c1)) (by omega);have Hq:Rep (w<=·) W (ki t) (.slice a1 t.args.length c1):=(Rep.keep fun b o h ho=>⟨by omega,tZ b o (by omega) (by rw[sJ _ _ _ _ (by simp;omega)];exact ho)⟩).1 _ _ FF
  have FIN:Hid (∀o,vS s text w (.returned (.tuple #[.agg #[.slice a1 t.args.length c1],.agg #[str [],.int RD 0,(),()],.bool RC])) (W.alloc o)):=fun o=>
   vS.no (a:=a1) (c:=c1) (by rw[HT.out]) rfl HN.out (AJ.alloc AJ.size o) (by rw[HT.out];exact(Rep.keep fun b o h ho=>⟨h,zJ ho⟩).1 _ _ Hq)
  have HW:=r9 hW;clear h0 hW sF tZ AJ Hq;rcases im with rfl|⟨rfl,h⟩
  all_goals
   go_wp2_with fail
   rw[<- HW.out];refine bodyPost_ret (v:=.tuple #[.agg #[.slice a1 t.args.length c1],.agg #[str [],.int RD 0,(),()],.bool RC]) (by simp[results,Vf,go_sem,zV t0,zV s0,zV s1,zV s2,zV s3]) rfl ?_;exact FIN.out _
 obtain⟨rfl,Df⟩:=im;have htl':¬(2000:Int)<(text.length:Int):=by omega
 have sG:=ER.out rfl
 have hm:kP s text=(match rdN 101 t.args text with
  |none=>U
  | some (b,rest)=>if rest=[]/\zG b<=200 then some b else none):=by rw [HS.out,if_neg (by simp;omega)]
 have HM:=r9 hm;clear hm HS ER;have hvE:=FF;rw[jJ]at hvE;have hho:=pg sG;go_wp2_with fail
 refine(l3Read_any text hl 101 0 rfl (w+1 < ·) t.args _ 0 _ (R6 _) hho (by exact(Rep.keep fun b o h ho=>⟨h,zJ ho⟩).1 _ _ hvE)).mono ?_;rw[List.drop_zero];rintro en w2 ⟨s',v',a2,n2,c2,a3,n3,c3,k,rfl,sY,lY,lE⟩;have z2:=sY.size;rw[zK]at z2;have Fk:No w w2:=(iJ.alloc (by omega) _).trans (sY.mono (by rw[zK];omega));have r0':w2 w=OK (.slice U 0 0):=by rw[sY.cell (by rw[zK];simp only;omega)];exact zV r0
 have rf0':w2.frozen? w=RC:=by rw[sY.frozen (by rw[zK];simp only;omega)];rw[SK (w:=w1) (Below.heap_alloc _ _ _ lU)];exact iX
 have hN':z9 ((w:Nat)+1) 0 () () w2:=by
  unfold z9;rw[sY.block _ (by rw[zK];omega)];exact zJ hN
 have GC:w2 w1=OK (.slice a1 t.args.length c1):=by rw[sY.cell (by rw[zK];simp only;omega)];simp
 have Ks:Rep (w+1 < ·) w2 (ki t) (.slice a1 t.args.length c1):=(Rep.keep fun b o h ho=>⟨h,by rw[sY.block b (by have:=zZ ho;rw[zK];omega)];exact zJ ho⟩).1 _ _ FF;clear r0 iX hN q0 q1 q2 q3 ql qf0 qf1 I2 Nw hvE FF hho;obtain⟨q0,q1,q2,q3,ql,qf⟩:=hN'.cells;have qf0:=qf 0;have qf1:=qf 1;have I2:=qf 2;have Nw:=qf 3;clear qf;have y1:(w:Nat)<w2:=by omega
 have y2:(w1:Nat)<w2:=by omega
 have sw:=r9 sY;clear sY;by_cases hk:k=(text.length:Int);rotate_left
 ·have g1:(k == (text.length:Int))=RC:=by rw[beq_eq_false_iff_ne];exact hk
  have hn:kP s text=U:=by
   rw[HM.out];cases hq:rdN 101 t.args text with
   |none=>rfl
   | some x =>
     obtain⟨b,rest⟩:=x;have h1:=(lE b rest hq).1;simp only;rw[if_neg];rintro⟨rfl,_⟩;exact hk (by rw[h1];simp)
  have HN:=r9 hn;clear hn hk lY lE;have h0:z9 ((w:Nat)+1) 0 () () (w2.setCell w (.slice a1 t.args.length c1)):=by
   unfold z9;rw[sJ _ _ _ _ (by simp)];exact hN'
  obtain⟨W,hW,s0,s1,s2,s3,sF,tZ⟩:=h0.store (str s') (.int RD v') (.slice a2 n2 c2) (.slice a3 n3 c3);have t0:W w=OK (.slice a1 t.args.length c1):=p_ (vN r0' _) fun x hx=>tZ _ x (by simp) hx;have AJ:=sF _ _ (Fk.setCell (p:=w) (sZ _) (.slice a1 t.args.length c1)) (by omega);have Hq:Rep (w<=·) W (ki t) (.slice a1 t.args.length c1):=(Rep.keep fun b o h ho=>⟨by omega,tZ b o (by omega) (by rw[sJ _ _ _ _ (by simp;omega)];exact ho)⟩).1 _ _ Ks
  have FIN:Hid (∀o,vS s text w (.returned (.tuple #[.agg #[.slice a1 t.args.length c1],.agg #[s',.int RD v',.slice a2 n2 c2,.slice a3 n3 c3],.bool RC])) (W.alloc o).drew):=fun o=>
   vS.no (a:=a1) (c:=c1) (by rw[HT.out]) rfl HN.out ((AJ.alloc AJ.size o).drew) (by rw[HT.out];exact((Rep.keep fun b o h ho=>⟨h,zJ ho⟩).1 _ _ Hq).drew)
  have HW:=r9 hW;clear h0 hW sF tZ AJ Hq;go_wp2_with fail
  go_region
  go_wp2_with fail
  rw[<- HW.out];refine bodyPost_ret (v:=.tuple #[.agg #[.slice a1 t.args.length c1],.agg #[s',.int RD v',.slice a2 n2 c2,.slice a3 n3 c3],.bool RC]) (by simp[results,Vf,go_sem,zV t0,zV s0,zV s1,zV s2,zV s3]) rfl ?_;exact FIN.out _
 obtain⟨b,hqb⟩:∃b,rdN 101 t.args text=OK (b,[]):=by
  cases hq:rdN 101 t.args text with
  |none=>have:=lY hq;omega
  | some x =>
    obtain⟨b,rest⟩:=x;have h1:=(lE b rest hq).1;have:rest.length=0:=by omega
    rw[St this];exact⟨b,rfl⟩
 have hrB:=(lE b [] hqb).2;have tV:=rdN_size 101 hqb;have hm:kP s text=if zG b<=200 then OK b else U:=by
  rw[HM.out,hqb];simp
 have HM:=r9 hm;have hlB:Lim (zG b):=hl.mono (by simp at tV;omega);have g1:(k == (text.length:Int))=OX:=by rw[beq_iff_eq];exact hk
 clear hm hqb lY lE tV;have HK:=r9 hk;clear hk
 have hrA:zY (w+1 < ·) (w2.alloc (.cells #[s',.int RD v',.slice a2 n2 c2,.slice a3 n3 c3] 53)) (kU b) [s',.int RD v',.slice a2 n2 c2,.slice a3 n3 c3]:=
  (Rep.keep fun b o h ho=>⟨by have:=xr h;omega,zJ ho⟩).2 _ _ hrB
 have hTA:(w2.alloc (.cells #[s',.int RD v',.slice a2 n2 c2,.slice a3 n3 c3] 53)) w1=OK (.slice a1 t.args.length c1):=zV GC;have n0:(w2.alloc (.cells #[s',.int RD v',.slice a2 n2 c2,.slice a3 n3 c3] 53)) w2=str s':=by simp
 have n1:(w2.alloc (.cells #[s',.int RD v',.slice a2 n2 c2,.slice a3 n3 c3] 53)) (w2,1)=OK (.int RD v'):=by simp
 have BP:(w2.alloc (.cells #[s',.int RD v',.slice a2 n2 c2,.slice a3 n3 c3] 53)) (w2,2)=OK (.slice a2 n2 c2):=by simp
 have De:(w2.alloc (.cells #[s',.int RD v',.slice a2 n2 c2,.slice a3 n3 c3] 53)) (w2,3)=OK (.slice a3 n3 c3):=by simp
 have Jm:KeepS w1 w2 (.slice a1 t.args.length c1) (str s') (.int RD v') (.slice a2 n2 c2) (.slice a3 n3 c3) (w2.alloc (.cells #[s',.int RD v',.slice a2 n2 c2,.slice a3 n3 c3] 53)):=⟨hTA,n0,n1,BP,De⟩;have hK3d:KeepS w1 w2 (.slice a1 t.args.length c1) (str s') (.int RD v') (.slice a2 n2 c2) (.slice a3 n3 c3) (w2.alloc (.cells #[s',.int RD v',.slice a2 n2 c2,.slice a3 n3 c3] 53)).drew:=Jm;have BO:(w1:Nat)≠w:=by omega
 have Dr:(w2:Nat)≠w:=by omega
 have o7:(w1:Nat)≠w+1:=by omega
 have ow:(w2:Nat)≠w+1:=by omega
 clear hTA n0 n1 BP De;go_wp2_with fail
 go_region_held3 (fun w'=>w' w1=OK (.slice a1 t.args.length c1)/\w' w2=str s'/\w' (w2,1)=OK (.int RD v')/\w' (w2,2)=OK (.slice a2 n2 c2)/\w' (w2,3)=OK (.slice a3 n3 c3))
  (first
   |with_reducible exact Jm
   |with_reducible exact hK3d
   |with_reducible exact Ci
   |with_reducible exact Ci.set _ _ _ BO Dr
   |with_reducible exact(Ci.set _ _ _ BO Dr).set _ _ _ o7 ow
   |with_reducible exact((Ci.set _ _ _ BO Dr).set _ _ _ o7 ow).set _ _ _ o7 ow
   |with_reducible exact(((Ci.set _ _ _ BO Dr).set _ _ _ o7 ow).set _ _ _ o7 ow).set _ _ _ o7 ow
   |with_reducible exact((((Ci.set _ _ _ BO Dr).set _ _ _ o7 ow).set _ _ _ o7 ow).set _ _ _ o7 ow).set _ _ _ o7 ow
   |with_reducible exact Ci.set _ _ _ o7 ow
   |with_reducible exact(Ci.set _ _ _ o7 ow).set _ _ _ o7 ow
   |with_reducible exact((Ci.set _ _ _ o7 ow).set _ _ _ o7 ow).set _ _ _ o7 ow
   |with_reducible exact(((Ci.set _ _ _ o7 ow).set _ _ _ o7 ow).set _ _ _ o7 ow).set _ _ _ o7 ow
   | with_reducible exact ((((Ci.set _ _ _ o7 ow).set _ _ _ o7 ow).set _ _ _ o7 ow).set _ _ _ o7 ow).set _ _ _ BO Dr)
  (first
   | (go_at_call 36;refine (ci (zG b) b (sZ _) hlB (w+1 < ·) _ _ _ _ _ _ _ _ _ (by exact hrA.drew)).mono ?_;rintro en w5 ⟨rfl,sx⟩;have Ci:KeepS w1 w2 (.slice a1 t.args.length c1) (str s') (.int .i64 v') (.slice a2 n2 c2) (.slice a3 n3 c3) w5:=⟨(sx.cell (by simp;omega)).trans Jm.1,(sx.cell (by simp)).trans Jm.2.1,(sx.cell (by simp)).trans Jm.2.2.1,(sx.cell (by simp)).trans Jm.2.2.2.1,(sx.cell (by simp)).trans Jm.2.2.2.2⟩;have z5:=sx.size;have FE:(w:Nat)<w5:=(by simp at z5;omega);have r5:w5 w=some (.slice none 0 0):=(sx.cell (by simp;omega)).trans (zV r0');have f5:w5.frozen? w=false:=(sx.frozen (by simp;omega)).trans ((SK (w:=w2) (Below.heap_alloc _ _ _ y1)).trans rf0');have hN5:z9 ((w:Nat)+1) 0 () () w5:=(by unfold z9;rw [sx.block _ (by simp;omega)];exact zJ hN');obtain ⟨p0,p1,p2,p3,pl,pf⟩:=hN5.cells;have pf0:=pf 0;have pf1:=pf 1;have pf2:=pf 2;have pf3:=pf 3;clear pf))
 go_wp2_with fail
 have h0:z9 ((w:Nat)+1) 0 () () (w5.setCell w (.slice a1 t.args.length c1)):=by
  unfold z9;rw[sJ _ _ _ _ (by simp)];exact hN5
 obtain⟨W,hW,s0,s1,s2,s3,sF,tZ⟩:=h0.store (str s') (.int RD v') (.slice a2 n2 c2) (.slice a3 n3 c3);have t0:W w=OK (.slice a1 t.args.length c1):=p_ (vN r5 _) fun x hx=>tZ _ x (by simp) hx;have AL:No w2 w5:=((((sQ _ _).alloc (sZ _) _).drew).trans (sx.mono (by simp)));have D8:=zzT Fk AL;have AJ:=sF _ _ (D8.setCell (p:=w) (sZ _) (.slice a1 t.args.length c1)) (by omega)
 have keepF:∀i o,(w:Nat)+1<i->w2.heap[i]?=OK o->W.heap[i]?=OK o:=fun i o h ho=>
  tZ i o (by omega) (by rw[sJ _ _ _ _ (by simp;omega),AL.block i (zZ ho)];exact ho)
 have Hq:Rep (w<=·) W (ki t) (.slice a1 t.args.length c1):=(Rep.keep fun b o h ho=>⟨by omega,keepF b o h ho⟩).1 _ _ Ks;have hrN:zY (w<=·) W (kU b) [s',.int RD v',.slice a2 n2 c2,.slice a3 n3 c3]:=(Rep.keep fun b o h ho=>⟨by have:=xr h;omega,keepF b o (by have:=xr h;omega) ho⟩).2 _ _ hrB;rw[<- hW];refine bodyPost_ret (v:=.tuple #[.agg #[.slice a1 t.args.length c1],.agg #[s',.int RD v',.slice a2 n2 c2,.slice a3 n3 c3],.bool (decide ((zG b:Int)<=200))]) (by simp[results,Vf,go_sem,t0,s0,s1,s2,s3]) rfl ?_;by_cases lT:zG b<=200
 ·refine vS.yes (a:=a1) (c:=c1) (by rw[HT.out]) (by rw[decide_eq_true_eq];omega) (by rw[HM.out,if_pos lT]) AJ (by rw[HT.out];exact Hq) hrN
 ·exact vS.no (a:=a1) (c:=c1) (by rw[HT.out]) (by rw[decide_eq_false_iff_not];omega) (by rw[HM.out,if_neg lT]) AJ (by rw[HT.out];exact Hq)
theorem p7 (c:UInt8):dig c=OX↔48<=c.toNat/\c.toNat<=57:=by
 simp[dig,S7]
theorem ui {k:Nat}(h:k<10):(U4 (48+k)).toNat=48+k:=by
 rw[UInt8.toNat_ofNat'];exact Nat.mod_eq_of_lt (by omega)
theorem decDigits_dig (u:Nat):∀c∈Sk u,dig c=OX:=by
 induction u using TF with
 | _ u ih =>
   intro c hc;rw[Sk]at hc;split at hc
   ·rename_i h;rw[VU]at hc;subst hc;rw[p7,ui h];omega
   ·rename_i h;rcases List.mem_append.1 hc with hc|hc
    ·exact ih _ (by omega) c hc
    ·simp only[VU]at hc;subst hc;rw[p7,ui (by omega)];omega
theorem decDigits_val (u:Nat):jq (Sk u)=u:=by
 induction u using TF with
 | _ u ih =>
   rw[Sk];split
   ·rename_i h;show 10*0+((U4 (48+u)).toNat-48)=u;rw[ui h];omega
   ·rename_i h;rw[pF,ih _ (by omega),ui (by omega)];omega
theorem eZ (u:Nat):Sk u≠[]:=by
 intro h;have:=VQ u;have:=Lib.nDigits_pos u;rw[h] at *;simp at *;omega
theorem rF (u:Nat)(h1:1<=u):(Sk u).head?≠OK 48:=by
 induction u using TF with
 | _ u ih =>
   rw[Sk];split
   ·rename_i h;intro e;rw[List.head?_cons,Option.some.injEq]at e;have:=ui h;rw[e]at this;have Ft:(48:UInt8).toNat=48:=rfl;omega
   ·rename_i h;rw[V3];have:=ih (u / 10) (by omega) (by omega);have hne:=eZ (u / 10);cases hd:Sk (u / 10) with
    |nil=>exact absurd hd hne
    |cons x xs=>rw[hd]at this;simpa using this
theorem mS {u:Nat}(h:u<10000):(Sk u).length<=4:=by
 rw[VQ];by_cases h1:u<10
 ·rw[Ua h1];omega
 rw[Ve h1];by_cases h2:u / 10<10
 ·rw[Ua h2];omega
 rw[Ve h2];by_cases h3:u / 10 / 10<10
 ·rw[Ua h3];omega
 rw[Ve h3];rw[Ua (by omega)];omega
theorem fold_ge (l:Bs):∀a:Nat,a<=l.foldl (fun n c=>10*n+(c.toNat-48)) a:=by
 induction l with
 |nil=>intro a;simp
 |cons c cs ih=>intro a;simp only[Vg];have:=ih (10*a+(c.toNat-48));omega
theorem valOf_pos {l:Bs}(hd:∀c∈l,dig c=OX)(hn:l≠[])(Ft:l.head?≠OK 48):1<=jq l:=by
 cases l with
 |nil=>exact absurd rfl hn
 | cons c cs =>
   have h1:=(p7 c).1 (hd c (by simp));have h2:c.toNat≠48:=fun e=>Ft (by simp;exact V7.1 (by simpa using e));have:=fold_ge cs (10*0+(c.toNat-48));show 1<=cs.foldl _ (10*0+(c.toNat-48));omega
theorem d_ (n:Nat):∀w:Bs,w.length=n->w≠[]->(∀c∈w,dig c=OX)->(1<w.length->w.head?≠OK 48)->Sk (jq w)=w:=by
 induction n with
 |zero=>intro w hl hn;exact absurd (St hl) hn
 | succ n ih =>
   intro w hl hn hd hh;obtain⟨ws,c,rfl⟩:∃ws c,w=ws++[c]:=⟨w.dropLast,w.getLast hn,(List.dropLast_concat_getLast hn).symm⟩;have hc:=(p7 c).1 (hd c (by simp));have hof:U4 (48+(c.toNat-48))=c:=by
    apply V7.1;rw[ui (by omega)];omega
   rw[pF];by_cases OH:ws=[]
   ·subst OH;show Sk (10*0+(c.toNat-48))=[c];rw[V8 (by omega),show 48+(10*0+(c.toNat-48))=48+(c.toNat-48) from by omega,hof]
   ·have Bb:1<=ws.length:=by cases ws with
     |nil=>exact absurd rfl OH
     |cons x xs=>simp
    have Ft:ws.head?≠OK 48:=by
     have:=hh (by simp;omega);rw[V3]at this;cases ws with
     |nil=>exact absurd rfl OH
     |cons x xs=>simpa using this
    have hdw:∀x∈ws,dig x=OX:=fun x hx=>hd x (by simp[hx]);have hp:=valOf_pos hdw OH Ft;have hi:=ih ws (by simpa using hl) OH hdw (fun _=>Ft);rw[Sk,dif_neg (by omega),show (10*jq ws+(c.toNat-48)) / 10=jq ws from by omega,show (10*jq ws+(c.toNat-48)) % 10=c.toNat-48 from by omega,hi,hof]
theorem decFrom_of (l:Bs):∀a:Nat,(∀c∈l,dig c=OX)->Xy a l=OK (l.foldl (fun n c=>10*n+(c.toNat-48)) a):=by
 induction l with
 |nil=>intro a _;rfl
 | cons c cs ih =>
   intro a hd;have hc:=(p7 c).1 (hd c (by simp));simp only[Xy,Lib.digitVal,if_pos hc,Vg];rw[Nat.mul_comm a 10];exact ih _ fun x hx=>hd x (by simp[hx])
theorem lvl_spec {w:Bs}{n v:Nat}(h:lvl w n=v)(hn:n<=10000):w≠[]/\w.length<=4/\(∀c∈w,dig c=OX)/\(1<w.length->w.head?≠OK 48)/\jq w=v/\v<n:=by
 obtain⟨h1,_,h3⟩:=lvl_lt h;have e:Tb (v:Int)=Sk v:=by unfold Tb;rw[if_neg (by omega)];simp
 rw[e]at h3;subst h3;refine⟨eZ v,mS (by omega),decDigits_dig v,fun hl=>?_,decDigits_val v,h1⟩;refine rF v ?_;rcases Nat.eq_zero_or_pos v with h0|h0
 ·subst h0;rw[V8 (by omega)]at hl;simp at hl
 ·exact h0
theorem spec_lvl {w:Bs}{n:Nat}(h1:w≠[])(h2:w.length<=4)(h3:∀c∈w,dig c=OX)(h4:1<w.length->w.head?≠OK 48)(h5:jq w<n):lvl w n=OK (jq w):=by
 have ha:Lib.atoiAll w=.ok (jq w:Int):=by
  rw[Lib.atoiAll_short w (by omega)];cases w with
  |nil=>exact absurd rfl h1
  | cons c cs =>
    have hc:=(p7 c).1 (h3 c (by simp));have n45:(c == 45)=RC:=by rw[beq_eq_false_iff_ne];rintro rfl;have:(45:UInt8).toNat=45:=rfl;omega
    have n43:(c == 43)=RC:=by rw[beq_eq_false_iff_ne];rintro rfl;have:(43:UInt8).toNat=43:=rfl;omega
    simp only[Lib.atoi,n45,n43,Bool.false_eq_true,if_false,Lib.decNat,List.isEmpty_cons];rw[decFrom_of _ 0 h3];rfl
 have hi:Tb (jq w:Int)=w:=by
  have e:Tb (jq w:Int)=Sk (jq w):=by unfold Tb;rw[if_neg (by omega)];simp
  rw[e,d_ w.length w rfl h1 h3 h4]
 unfold lvl;rw[ha];simp only;rw[if_pos ⟨hi,by omega,by omega⟩];simp
def jN (l:Bs):Prop:=l=[]\/∃c r,l=c::r/\sep c=OX
theorem dig_sep {c:UInt8}(h:dig c=OX):sep c=RC:=by
 have:=(p7 c).1 h;rw[Bool.eq_false_iff];intro hs;simp only[sep,Bool.or_eq_true,beq_iff_eq]at hs;rcases hs with (rfl|rfl)|rfl
 ·have:(32:UInt8).toNat=32:=rfl;omega
 ·have:(40:UInt8).toNat=40:=rfl;omega
 ·have:(41:UInt8).toNat=41:=rfl;omega
theorem v7 (l:Bs):l=zR l++zM l:=(List.takeWhile_append_dropWhile).symm
theorem wordDrop (l:Bs):l.drop (zR l).length=zM l:=by
 have h:=v7 l;generalize zR l=a at *;generalize zM l=b at *;subst h;simp
theorem gD (l:Bs):jN (zM l):=by
 unfold zM
 induction l with
 |nil=>exact .inl rfl
 | cons c cs ih =>
   rw[List.dropWhile_cons];split
   ·exact ih
   ·rename_i h;exact .inr ⟨c,cs,rfl,by simpa using h⟩
theorem bQ {w rest:Bs}(hw:∀c∈w,sep c=RC)(hr:jN rest):zR (w++rest)=w/\zM (w++rest)=rest:=by
 unfold zR zM
 induction w with
 | nil =>
   rcases hr with rfl|⟨c,r,rfl,hc⟩
   ·exact⟨rfl,rfl⟩
   ·simp[hc]
 | cons x xs ih =>
   have hx:=hw x (by simp);have:=ih fun c hc=>hw c (by simp[hc]);simp[hx,this.1,this.2]
theorem digsOf_of {w rest:Bs}(hw:∀c∈w,dig c=OX)(hl:w.length<=4)(hr:jN rest):qD (w++rest)=w:=by
 unfold qD;rw[List.take_append,S6 hl];have key:(rest.take (4-w.length)).takeWhile dig=[]:=by
  rcases hr with rfl|⟨c,r,rfl,hc⟩
  ·simp
  ·cases 4-w.length with
   |zero=>rfl
   | succ k =>
     rw[SO,List.takeWhile_cons,if_neg];intro h;rw[dig_sep h]at hc;simp at hc
 rw[List.takeWhile_append_of_pos (fun c hc=>hw c hc),key,R9]
theorem yD {c:UInt8}{r:Bs}:cut [c] (c::r)=r:=by simp[cut,TC]
theorem eI (rd:RdS)(hs gs:List (List Ty)):∀ {l:Bs} {bs:List Bd} {l1:Bs} {cs:List Bd} {l2:Bs},zN rd hs l=OK (bs,l1)->zN rd gs l1=OK (cs,l2)->zN rd (hs++gs) l=OK (bs++cs,l2):=by
 induction hs with
 |nil=>intro l bs l1 cs l2 h k;simp[zN]at h;obtain⟨rfl,rfl⟩:=h;simpa using k
 | cons h' hs ih =>
   intro l bs l1 cs l2 h k;simp only[zN,RJ,RH,Prod.exists]at h;obtain⟨b,m,h1,bs',m',h2,h3⟩:=h;simp at h3;obtain⟨rfl,rfl⟩:=h3;simp only[R5,zN,RJ,h1,RF,ih h2 k]
def RdFits (rd:Rd)(rs:RdS)(h:List Ty):Prop:=∀(left:Nat) (l:Bs) (b:Bd) (r:Bs) (f:Nat),rd h left l=OK (b,r,f)->rs h l=OK (b,r)/\f+zG b=left/\l.length+1<=r.length+7*zG b
theorem parts_fit {rd:Rd}{rs:RdS}(hs:List (List Ty))(hf:∀h∈hs,RdFits rd rs h):∀ {left:Nat} {l:Bs} {bs:List Bd} {r:Bs} {f:Nat},k9 rd hs left l=OK (bs,r,f)->zN rs hs l=OK (bs,r)/\f+zI bs=left/\l.length<=r.length+7*zI bs:=by
 induction hs with
 |nil=>intro left l bs r f h;simp[k9]at h;obtain⟨rfl,rfl,rfl⟩:=h;simp[zN,zI]
 | cons h' hs ih =>
   intro left l bs r f h;simp only[k9,RJ,RH,Prod.exists]at h;obtain⟨l1,h1,b,l2,f2,h2,bs',l3,f3,h3,h4⟩:=h;simp at h4;obtain⟨rfl,rfl,rfl⟩:=h4;obtain⟨a1,a2,a3⟩:=hf h' (by simp) _ _ _ _ _ h2;obtain⟨b1,b2,b3⟩:=ih (fun x hx=>hf x (by simp[hx])) h3;have hc:=uJ h1;refine⟨?_,by simp[zI];omega,by subst hc;simp[zI];omega⟩;simp only[zN,qC,h1,RJ,RF,a1,b1]
theorem mx {l:Bs}{c:UInt8}(h:zR l=[c]):l=c::zM l:=by
 have:=v7 l;rw[h]at this;simpa using this
theorem specNum_of {w rest:Bs}(h1:w≠[])(h2:w.length<=4)(h3:∀c∈w,dig c=OX)(h4:1<w.length->w.head?≠OK 48)(hr:jN rest):jE (w++rest)=OK (jq w,w.length):=by
 unfold jE;rw[digsOf_of h3 h2 hr,if_neg];rintro(h | ⟨h,h'⟩)
 ·exact h1 h
 ·apply h4 h;cases w with
  |nil=>exact absurd rfl h1
  |cons x xs=>simpa using h'
theorem rdB_fits (d:Nat):∀levels,jD d levels->RdFits (rdB d) (rdN (d+1)) levels:=by
 induction d with
 | zero =>
   intro levels hh left l b r f h;rcases left with _|left
   ·simp[rdB]at h
   rcases kC [40] l with h1|⟨r1,h1⟩
   ·rw[dF 0 levels left h1.out]at h;have key:∀c:UInt8,(c=116\/c=102\/c=117)->zR l=[c]->rdN 1 levels l=OK (.leaf c,zM l)/\left+zG (.leaf c)=left+1/\l.length+1<=(zM l).length+7*zG (.leaf c):=by
     intro c hc hw;have e:=mx hw;refine⟨?_,rfl,?_⟩
     ·conv=>lhs;rw[e]
      simp only[rdN,if_pos hc]
     ·have:=congrArg Td e;simp at this;simp[zG];omega
    split at h
    ·rename_i hw;simp at h;obtain⟨rfl,rfl,rfl⟩:=h;exact key _ (by decide) hw
    ·split at h
     ·rename_i hw;simp at h;obtain⟨rfl,rfl,rfl⟩:=h;exact key _ (by decide) hw
     ·split at h
      ·rename_i hw;simp at h;obtain⟨rfl,rfl,rfl⟩:=h;exact key _ (by decide) hw
      ·simp at h
   ·rw[dM 0 levels left h1.out]at h;cases hv:lvl (zR r1) levels.length with
    |none=>rw[hv]at h;simp at h
    |some v=>rw[hv]at h;simp at h
 | succ d ih =>
   intro levels hh left l b r f h;rcases left with _|left
   ·simp[rdB]at h
   rcases kC [40] l with h1|⟨r1,h1⟩
   ·rw[dF (d+1) levels left h1.out]at h;have key:∀c:UInt8,(c=116\/c=102\/c=117)->zR l=[c]->rdN (d+1+1) levels l=OK (.leaf c,zM l)/\left+zG (.leaf c)=left+1/\l.length+1<=(zM l).length+7*zG (.leaf c):=by
     intro c hc hw;have e:=mx hw;refine⟨?_,rfl,?_⟩
     ·conv=>lhs;rw[e]
      simp only[rdN,if_pos hc]
     ·have:=congrArg Td e;simp at this;simp[zG];omega
    split at h
    ·rename_i hw;simp at h;obtain⟨rfl,rfl,rfl⟩:=h;exact key _ (by decide) hw
    ·split at h
     ·rename_i hw;simp at h;obtain⟨rfl,rfl,rfl⟩:=h;exact key _ (by decide) hw
     ·split at h
      ·rename_i hw;simp at h;obtain⟨rfl,rfl,rfl⟩:=h;exact key _ (by decide) hw
      ·simp at h
   ·rw[dM (d+1) levels left h1.out]at h;cases hv:lvl (zR r1) levels.length with
    |none=>rw[hv]at h;simp at h
    | some v =>
      rw[hv]at h;simp only at h;cases ht:levels[v]? with
      |none=>rw[ht]at h;simp at h
      | some t =>
        rw[ht]at h;simp only[nM,RJ,RH,Prod.exists]at h;obtain⟨ss,l1,f1,h2,yn,l2,f2,h3,h4⟩:=h;have hl:levels.length<=10000:=by have:=hh.2;omega
        obtain⟨w1,w2,w3,w4,w5,w6⟩:=lvl_spec hv hl;split at h4
        ·rename_i y n;simp only[RH]at h4;obtain⟨l3,h5,h6⟩:=h4;simp at h6;obtain⟨rfl,rfl,rfl⟩:=h6
         have k1:=parts_fit (rs:=rdN (d+1)) (t.args.map fun a=>levels++a.args) (fun x hx=>by
          obtain⟨a,ha,rfl⟩:=WB.1 hx
          exact ih _ (hh.next ht ha)) h2
         have oX:jD d levels:=by have:=hh.same;rwa [R9]at this
         have k2:=parts_fit (rs:=rdN (d+1)) [levels,levels] (fun x hx=>by
          have:x=levels:=by simpa using hx
          subst this;exact ih _ oX) h3
         have Mz:=(pI (nF d) _ h2).2.2;rw[List.length_map]at Mz;have hc:=uJ h5;have lJ:=uJ h1.out;have hw:=v7 r1;have JD:=specNum_of (rest:=zM r1) w1 w2 w3 w4 (gD r1);rw[<- hw,w5]at JD;have ah:zN (rdN (d+1)) (jP levels t) (zM r1)=OK (ss++[y,n],l2):=eI _ _ _ k1.1 k2.1;refine⟨?_,?_,?_⟩
         ·conv=>lhs;rw[lJ]
          rw[rdN];rw[if_neg (by decide),if_neg (by decide),JD];simp only[ht];rw[wordDrop];simp only[ah,RJ,RF,h5,wM];rw[Wa Mz,Wb Mz];rfl
         ·have a1:=k1.2.1;have a2:=k2.2.1;simp[zG,zI]at a1 a2 ⊢;omega
         ·have a1:=k1.2.2;have a2:=k2.2.2;have Bb:=congrArg Td hw;have lD:=congrArg Td hc;have hc1l:=congrArg Td lJ;simp[zG,zI]at a1 a2 Bb lD hc1l ⊢;omega
        ·simp at h4
theorem xF {rs:RdS}{hs:List (List Ty)}{l:Bs}{ps:List Bd}{r:Bs}(h:zN rs hs l=OK (ps,r))(hr:jN r):jN l:=by
 cases hs with
 |nil=>simp[zN]at h;obtain⟨_,rfl⟩:=h;exact hr
 | cons h' hs =>
   simp only[zN,qC,RJ,RH,Prod.exists]at h;obtain⟨_,_,⟨l1,h1,_⟩,_⟩:=h;have:=uJ h1;exact .inr ⟨32,l1,this,rfl⟩
def RdBack (rd:Rd)(rs:RdS)(h:List Ty):Prop:=∀(left:Nat) (l:Bs) (b:Bd) (r:Bs),rs h l=OK (b,r)->jN r->zG b<=left->rd h left l=OK (b,r,left-zG b)
theorem nR {rd:Rd}{rs:RdS}(hs:List (List Ty))(hf:∀h∈hs,RdBack rd rs h):∀(left:Nat) (l:Bs) (ps:List Bd) (r:Bs),zN rs hs l=OK (ps,r)->jN r->zI ps<=left->k9 rd hs left l=OK (ps,r,left-zI ps):=by
 induction hs with
 |nil=>intro left l ps r h _ _;simp[zN]at h;obtain⟨rfl,rfl⟩:=h;simp[k9,zI]
 | cons h' hs ih =>
   intro left l ps r h hr tV;simp only[zN,qC,RJ,RH,Prod.exists]at h;obtain⟨b,l2,⟨l1,h1,h2⟩,bs,l3,h3,h4⟩:=h;simp at h4;obtain⟨rfl,rfl⟩:=h4;simp[zI]at tV;have hb:=hf h' (by simp) left l1 b l2 h2 (xF h3 hr) (by omega);have K7:=ih (fun x hx=>hf x (by simp[hx])) (left-zG b) l2 bs l3 h3 hr (by omega);simp only[k9,h1,RJ,RF,hb,K7];simp[zI];omega
theorem mB (rs:RdS)(hs gs:List (List Ty)):∀ {l:Bs} {ps:List Bd} {r:Bs},zN rs (hs++gs) l=OK (ps,r)->∃bs l1 cs,ps=bs++cs/\zN rs hs l=OK (bs,l1)/\zN rs gs l1=OK (cs,r):=by
 induction hs with
 |nil=>intro l ps r h;exact⟨[],l,ps,rfl,rfl,h⟩
 | cons h' hs ih =>
   intro l ps r h;simp only[R5,zN,RJ,RH,Prod.exists]at h;obtain⟨b,m,h1,bs',m',h2,h3⟩:=h;simp at h3;obtain⟨rfl,rfl⟩:=h3;obtain⟨bs,l1,cs,rfl,a1,a2⟩:=ih h2;refine⟨b::bs,l1,cs,rfl,?_,a2⟩;simp only[zN,RJ,h1,RF,a1]
theorem dP {m:Bs}{v k:Nat}(h:jE m=OK (v,k)):qD m≠[]/\v=jq (qD m)/\k=(qD m).length/\(1<(qD m).length->(qD m).head?≠OK 48):=by
 unfold jE at h;split at h
 ·simp at h
 ·rename_i hc;simp at h;refine⟨fun e=>hc (.inl e),h.1.symm,h.2.symm,fun h1 h2=>hc (.inr ⟨h1,?_⟩)⟩;have hp:=y7 m;obtain⟨x,hx⟩:=hp;cases hd:qD m with
  |nil=>rw[hd]at h1;simp at h1
  |cons y ys=>rw[hd]at hx h2;rw[<- hx];simpa using h2
theorem rdN_back (d:Nat):∀levels,jD d levels->RdBack (rdB d) (rdN (d+1)) levels:=by
 induction d with
 | zero =>
   intro levels hh left l b r h hr tV;obtain⟨left,rfl⟩:∃x,left=x+1:=⟨left-1,by have:=kQ b;omega⟩;cases l with
   |nil=>simp[rdN]at h
   | cons c m =>
     simp only[rdN]at h;split at h
     ·rename_i hc;simp at h;obtain⟨rfl,rfl⟩:=h;have iY:cut [40] (c::m)=U:=by
       rcases hc with rfl|rfl|rfl <;> simp[cut,TC]
      have hw:=bQ (w:=[c]) (rest:=m) (fun x hx=>by
       have:x=c:=by simpa using hx
       subst this;rcases hc with rfl | rfl | rfl <;> decide) hr
      rw[VF]at hw;rw[dF 0 levels left iY,hw.1,hw.2];rcases hc with rfl|rfl|rfl <;> simp[zG]
     ·split at h
      ·simp at h
      ·split at h
       ·simp at h
       ·split at h
        ·simp at h
        ·exfalso;simp only[RJ,RH,Prod.exists]at h;obtain⟨ps,l1,h1,_⟩:=h;rename_i t _ _;cases ha:jP levels t with
         |nil=>have:=uq levels t;rw[ha]at this;simp at this
         |cons x xs=>rw[ha]at h1;simp[zN,qC]at h1
 | succ d ih =>
   intro levels hh left l b r h hr tV;obtain⟨left,rfl⟩:∃x,left=x+1:=⟨left-1,by have:=kQ b;omega⟩;cases l with
   |nil=>simp[rdN]at h
   | cons c m =>
     rw[rdN]at h;simp only at h;split at h
     ·rename_i hc;simp at h;obtain⟨rfl,rfl⟩:=h;have iY:cut [40] (c::m)=U:=by
       rcases hc with rfl|rfl|rfl <;> simp[cut,TC]
      have hw:=bQ (w:=[c]) (rest:=m) (fun x hx=>by
       have:x=c:=by simpa using hx
       subst this;rcases hc with rfl | rfl | rfl <;> decide) hr
      rw[VF]at hw;rw[dF (d+1) levels left iY,hw.1,hw.2];rcases hc with rfl|rfl|rfl <;> simp[zG]
     ·split at h
      ·simp at h
      ·rename_i iY;have iY:c=40:=by simpa using iY
       subst iY;cases hn:jE m with
       |none=>rw[hn]at h;simp at h
       | some x =>
         obtain⟨v,k⟩:=x;rw[hn]at h;simp only at h;cases ht:levels[v]? with
         |none=>rw[ht]at h;simp at h
         | some t =>
           rw[ht]at h;simp only[RJ,RH,Prod.exists]at h;obtain⟨ps,l2,h1,l3,h2,b',h3,h4⟩:=h;simp at h4;obtain⟨rfl,rfl⟩:=h4;have hc:=uJ h2;have FH:jN l2:=.inr ⟨41,l3,hc,rfl⟩;have lC:=xF h1 FH;obtain⟨n1,n2,n3,n4⟩:=dP hn;obtain⟨bs,l1,cs,e1,p1,p2⟩:=mB _ _ _ h1;have Dk:=wo _ p1;have lD:=wo _ p2;have hsb:=rI h3;have hw0:m=qD m++m.drop k:=by
            obtain⟨x,hx⟩:=y7 m;have gen:∀(a b c:Bs),a++b=c->c.drop a.length=b:=by rintro a b c rfl;simp
            rw[n3,gen _ _ _ hx,hx]
           have hw:=bQ (w:=qD m) (rest:=m.drop k) (fun x hx=>dig_sep (yw m x hx)) lC;rw[<- hw0]at hw;have D1:v<levels.length:=(RR.1 ht).1;have iT:=spec_lvl (n:=levels.length) n1 (bw m).1 (yw m) n4 (by rw[<- n2];exact D1);rw[<- n2]at iT;have hsl1:jN l1:=xF p2 FH;have OP:zI ps=zI bs+zI cs:=by rw[e1,jp]
           have oX:jD d levels:=by have:=hh.same;rwa [R9]at this
           have k1:=nR (rd:=rdB d) (t.args.map fun a=>levels++a.args) (fun x hx=>by
            obtain⟨a,ha,rfl⟩:=WB.1 hx
            exact ih _ (hh.next ht ha)) left (m.drop k) bs l1 p1 hsl1 (by omega)
           have k2:=nR (rd:=rdB d) [levels,levels] (fun x hx=>by
            have:x=levels:=by simpa using hx
            subst this;exact ih _ oX) (left-zI bs) l1 cs l2 p2 FH (by omega)
           have Qv:bs.length=t.args.length:=by simpa[kx] using Dk
           obtain⟨y,n,rfl⟩:∃y n,cs=[y,n]:=by
            match cs,lD with
            |[a,b],_=>exact⟨a,b,rfl⟩
           have hb:b'=.ask v bs y n:=by
            rw[e1]at h3;unfold wM at h3;rw[Wa Qv,Wb Qv]at h3;simpa using h3.symm
           subst hb;rw[dM (d+1) levels left (l:=40::m) yD,hw.1,iT];simp only[ht];rw[hw.2];simp only[nM,k1,k2,RJ,RF,h2];simp[zG,zI] at *;omega
theorem rdStrat_eq (t:Ty)(ht:zU t<=15)(l:Bs):qd t l=(if 2000<l.length then none else match rdN 101 t.args l with
 |none=>U
 | some (b,rest)=>if rest=[]/\zG b<=200 then some b else none):=by
 have hh:=fU ht;cases hq:qd t l with
 | some b =>
   have h1:∃f,rdB 100 t.args 200 l=OK (b,[],f):=by
    unfold qd at hq;split at hq
    ·rename_i b' f he;simp at hq;subst hq;exact⟨f,he⟩
    ·simp at hq
   obtain⟨f,h1⟩:=h1;obtain⟨a1,a2,a3⟩:=rdB_fits 100 t.args hh _ _ _ _ _ h1;have:¬2000<l.length:=by simp at a3;omega
   rw[if_neg this,a1];simp only;rw[if_pos ⟨by trivial,by omega⟩]
 | none =>
   symm;split
   ·rfl
   ·cases hn:rdN 101 t.args l with
    |none=>rfl
    | some x =>
      obtain⟨b,rest⟩:=x;simp only;split
      ·rename_i hc;obtain⟨rfl,hc⟩:=hc;have:=rdN_back 100 t.args hh 200 l b [] hn (.inl rfl) hc;unfold qd at hq;rw[this]at hq;simp at hq
      ·rfl
theorem rdTS_eq (s l:Bs):mF s l=(kP s l).map fun b=>((zD s).1,b):=by
 unfold mF kP;rw[fx];cases sI:(zD s).2 with
 |false=>simp
 | true =>
   have sT:=xQ sI;simp only[if_true,RJ,RF];rw[rdStrat_eq _ sT];by_cases h2:2000<l.length
   ·simp[h2]
   ·simp only[h2,if_false,Bool.true_eq_false,false_or];cases rdN 101 (zD s).1.args l with
    |none=>rfl
    | some x =>
      obtain⟨b,rest⟩:=x;simp only;split <;> rfl
mutual
def qB:List Ty->Bd->Prop
 |_,.leaf _=>True
 |hand,.ask v ss y n=>∃t,hand[v]?=OK t/\qZ (kx hand t.args) ss/\qB hand y/\qB hand n
def qZ:List (List Ty)->List Bd->Prop
 |hs,[]=>hs=[]
 |hs,b::bs=>∃h lw,hs=h::lw/\qB h b/\qZ lw bs
end
mutual
def fF:Bd->Bd->Bool
 |.leaf c,.leaf d=>c == 117 || c == d
 |.leaf c,.ask _ _ _ _=>c == 117
 |.ask _ _ _ _,.leaf _=>RC
 |.ask v ss y n,.ask v' ss' y' n'=>v == v' && (bi ss ss' && (fF y y' && fF n n'))
def bi:List Bd->List Bd->Bool
 |a::xs,b::bs=>fF a b && bi xs bs
 |[],_=>OX
 |_::_,[]=>RC
end
theorem vJ (levels ts:List Ty):(kx levels ts).length=ts.length:=by simp[kx]
theorem dh:∀(xs:List Bd) (bs:List Bd) (hs ks:List (List Ty)),qZ hs xs->qZ ks bs->qZ (hs++ks) (xs++bs)
 |[],bs,hs,ks,h1,h2=>by rw[qZ]at h1;subst h1;simpa using h2
 | a::xs,bs,hs,ks,h1,h2=>by
   rw[qZ]at h1;obtain⟨h,lw,rfl,e1,e2⟩:=h1;exact⟨h,lw++ks,rfl,e1,dh xs bs lw ks e2 h2⟩
theorem ju:∀(xs:List Bd) (hs:List (List Ty)),qZ hs xs->hs.length=xs.length
 |[],hs,h=>by rw[qZ]at h;simp[h]
 | a::xs,hs,h=>by
   rw[qZ]at h;obtain⟨h',lw,rfl,e1,e2⟩:=h;simp[ju xs lw e2]
theorem gt:∀(xs:List Bd) (hs:List (List Ty)),qZ hs xs->∀(k:Nat) (a:Bd),xs[k]?=a->∃h,hs[k]?=OK h/\qB h a
 |[],hs,h,k,a,ha=>by simp at ha
 | a::xs,hs,h,k,a',ha=>by
   rw[qZ]at h;obtain⟨h',lw,rfl,e1,e2⟩:=h;cases k with
   |zero=>simp at ha;subst ha;exact⟨h',rfl,e1⟩
   |succ k=>simp at ha;simpa using gt xs lw e2 k a' ha
theorem rX (h k:List Ty)(y n:Bd):qZ [h,k] [y,n]↔qB h y/\qB k n:=by
 constructor
 ·intro hf;rw[qZ]at hf;obtain⟨a,as',e,h1,h2⟩:=hf;simp only[RY]at e;obtain⟨rfl,rfl⟩:=e;rw[qZ]at h2;obtain⟨a,as',e,h3,h4⟩:=h2;simp only[RY]at e;obtain⟨rfl,rfl⟩:=e;exact⟨h1,h3⟩
 ·rintro⟨h1,h2⟩;exact⟨h,[k],rfl,h1,k,[],rfl,h2,by rw[qZ]⟩
theorem fit_parts {hand:List Ty}{v:Nat}{ss:List Bd}{y n:Bd}(h:qB hand (.ask v ss y n)):∃t,hand[v]?=OK t/\qZ (jP hand t) (kr (.ask v ss y n))/\ss.length=t.args.length:=by
 rw[qB]at h;obtain⟨t,h1,h2,h3,h4⟩:=h;refine⟨t,h1,dh _ _ _ _ h2 ((rX _ _ _ _).2 ⟨h3,h4⟩),?_⟩;have:=ju _ _ h2;rw[vJ]at this;exact this.symm
theorem mQ:∀(hs:List (List Ty)) (ks:List (List Ty)) (ps:List Bd),qZ (hs++ks) ps->qZ hs (ps.take hs.length)/\qZ ks (ps.drop hs.length)
 | [],ks,ps,h=>by
   constructor
   ·simp[qZ]
   ·simpa using h
 |x::hs,ks,[],h=>by simp[qZ]at h
 | x::hs,ks,p::ps,h=>by
   simp only[R5]at h;rw[qZ]at h;obtain⟨h',lw,e,e1,e2⟩:=h;simp only[RY]at e;obtain⟨rfl,rfl⟩:=e;have:=mQ hs ks ps e2;simp only[RU,SO,List.drop_succ_cons];exact⟨⟨x,hs,rfl,e1,this.1⟩,this.2⟩
theorem specParts_fit {rd:RdS}(i8:∀ {h l b r},rd h l=OK (b,r)->qB h b)(hs:List (List Ty)):∀ {l r:Bs} {ps:List Bd},zN rd hs l=OK (ps,r)->qZ hs ps:=by
 induction hs with
 |nil=>intro l r ps h;simp[zN]at h;obtain⟨rfl,rfl⟩:=h;simp[qZ]
 | cons h' hs ih =>
   intro l r ps h;simp only[zN,RJ,RH,Prod.exists]at h;obtain⟨b,l1,h1,bs,l2,h2,h3⟩:=h;simp at h3;obtain⟨rfl,rfl⟩:=h3;unfold qC at h1;simp only[RJ,RH]at h1;obtain⟨l3,_,h4⟩:=h1;exact⟨h',hs,rfl,i8 h4,ih h2⟩
theorem rdN_fit (e:Nat):∀ {h:List Ty} {l:Bs} {b:Bd} {r:Bs},rdN e h l=OK (b,r)->qB h b:=by
 induction e with
 |zero=>intro h l b r hq;simp[rdN]at hq
 | succ e ih =>
   intro h l b r hq;cases l with
   |nil=>simp[rdN]at hq
   | cons c m =>
     simp only[rdN]at hq;split at hq
     ·simp at hq;obtain⟨rfl,rfl⟩:=hq;simp[qB]
     ·split at hq
      ·simp at hq
      ·split at hq
       ·simp at hq
       ·rename_i v k hsn;split at hq
        ·simp at hq
        ·rename_i t ht;simp only[RJ,RH,Prod.exists]at hq;obtain⟨ps,l1,h1,l2,h2,b',h3,h4⟩:=hq;simp at h4;obtain⟨rfl,rfl⟩:=h4;have k1:=specParts_fit ih _ h1;have k2:=mQ _ _ _ k1;rw[vJ]at k2;unfold wM at h3;split at h3
         ·rename_i y no hd;simp at h3;subst h3;rw[hd,rX]at k2;rw[qB];exact⟨t,ht,k2.1,k2.2.1,k2.2.2⟩
         ·simp at h3
theorem specStrat_fit {s text:Bs}{b:Bd}(hq:kP s text=b):qB (zD s).1.args b:=by
 unfold kP at hq;split at hq
 ·simp at hq
 ·split at hq
  ·simp at hq
  ·rename_i b' rest h;split at hq
   ·simp at hq;subst hq;exact rdN_fit _ h
   ·simp at hq
theorem eV:∀(xs bs:List Bd),xs.length=bs.length->(bi xs bs=OX↔∀(k:Nat) (a b:Bd),xs[k]?=a->bs[k]?=b->fF a b=OX)
 |[],[],_=>by simp[bi]
 | a::xs,b::bs,h=>by
   simp only[bi,Bool.and_eq_true];rw[eV xs bs (by simpa using h)];constructor
   ·rintro⟨h1,h2⟩ k a' b' ha hb;cases k with
    |zero=>simp at ha hb;subst ha;subst hb;exact h1
    |succ k=>simp at ha hb;exact h2 k a' b' ha hb
   ·intro h;exact⟨h 0 a b rfl rfl,fun k a' b' ha hb=>h (k+1) a' b' (by simpa using ha) (by simpa using hb)⟩
def gW (xs bs:List Bd)(k:Nat):Prop:=∀(j:Nat) (a b:Bd),j<k->xs[j]?=a->bs[j]?=b->fF a b=OX
theorem gW.zero (xs bs:List Bd):gW xs bs 0:=fun j a b h=>by omega
theorem gW.next {xs bs:List Bd}{k:Nat}(h:gW xs bs k){a b:Bd}(ha:xs[k]?=a)(hb:bs[k]?=b)(EO:fF a b=OX):gW xs bs (k+1):=by
 intro j a' b' hj h1 h2;rcases Nat.lt_or_ge j k with h'|h'
 ·exact h j a' b' h' h1 h2
 ·obtain rfl:j=k:=by omega
  rw[ha]at h1;rw[hb]at h2;simp at h1 h2;subst h1;subst h2;exact EO
theorem gW.all {xs bs:List Bd}(hl:xs.length=bs.length)(h:gW xs bs xs.length):bi xs bs=OX:=
 (eV xs bs hl).2 fun k a b ha hb=>h k a b (RR.1 ha).1 ha hb
def lvOf:Bd->Nat
 |.leaf _=>0
 |.ask v _ _ _=>v
theorem encN_lv {F:Nat->Prop}{w:World}{b:Bd}{s v k y:Value}(h:zY F w (kU b) [s,v,k,y]):v=.int RD (lvOf b:Nat):=by
 cases b with
 | leaf c =>
   rw[kU]at h;obtain⟨_,_,e,h0,h⟩:=zQ.1 h;simp only[RY]at e;obtain⟨rfl,rfl⟩:=e;obtain⟨_,_,e,h1,h⟩:=zQ.1 h;simp only[RY]at e;obtain⟨rfl,rfl⟩:=e;exact zC.1 h1
 | ask lv ss yb nb =>
   rw[kU]at h;obtain⟨_,_,e,h0,h⟩:=zQ.1 h;simp only[RY]at e;obtain⟨rfl,rfl⟩:=e;obtain⟨_,_,e,h1,h⟩:=zQ.1 h;simp only[RY]at e;obtain⟨rfl,rfl⟩:=e;exact zC.1 h1
theorem tmod_nat (a b:Nat):((a:Int).tmod (b:Int))=((a % b:Nat):Int):=rfl
theorem tdiv_nat (a b:Nat):((a:Int).tdiv (b:Int))=((a / b:Nat):Int):=rfl
theorem dK (n:Nat)(h:n<9223372036854775808):IntKind.i64.wrap (n:Int)=(n:Int):=by
 simp[IntKind.wrap,IntKind.bits,IntKind.signed];omega
def x8 (r:Nat):UInt8:=U4 (48+r)
def dec (n:Nat):Bs:=if n<10 then [x8 n] else dec (n / 10)++[x8 (n % 10)]
theorem vM {n:Nat}(h:n<10):dec n=[x8 n]:=by rw[dec,if_pos h]
theorem ve {n:Nat}(h:¬n<10):dec n=dec (n / 10)++[x8 (n % 10)]:=by rw[dec,if_neg h]
theorem vP (k:Nat):∀n,n<10 ^ (k+1)->(dec n).length<=k+1:=by
 induction k with
 |zero=>intro n h;rw[vM (by simpa using h)];simp
 | succ k ih =>
   intro n h;by_cases GE:n<10
   ·rw[vM GE];simp
   ·rw[ve GE];have:=ih (n / 10) (by rw[Nat.div_lt_iff_lt_mul (by omega),<- Nat.pow_succ];exact h);simp;omega
theorem str_add (a b:Bs):(⟨a.toArray⟩:ByteArray)++(⟨b.toArray⟩:ByteArray)=⟨(a++b).toArray⟩:=by
 have h:((⟨a.toArray⟩:ByteArray)++(⟨b.toArray⟩:ByteArray)).data=(a++b).toArray:=by
  rw[ByteArray.data_append];simp
 cases hx:(⟨a.toArray⟩:ByteArray)++(⟨b.toArray⟩:ByteArray) with
 |mk d=>rw[hx]at h;simp at h;rw[h]
theorem qz {P:Program}(a b:Bs)(h:a.length+b.length<=9223372036854775807)(w:World):(Op.stringOp .add ⟨a.toArray⟩ ⟨b.toArray⟩).run P w=.ok (str (a++b)) w:=by
 rw[run_string_add_sum w _ _ (by rw[gS,gS];exact h),str_add]
mutual
def kZ:Bd->Bs
 |.leaf c=>[c]
 |.ask v ss y n=>(((([40]++dec v++kT ss++[32])++kZ y)++[32])++kZ n)++[41]
def kT:List Bd->Bs
 |[]=>[]
 |b::bs=>[32]++kZ b++kT bs
end
mutual
def lvB:Bd->Prop
 |.leaf _=>True
 |.ask v ss y n=>v<=10000/\cu ss/\lvB y/\lvB n
def cu:List Bd->Prop
 |[]=>True
 |b::bs=>lvB b/\cu bs
end
theorem vg:∀(xs ys:List Bd),kT (xs++ys)=kT xs++kT ys
 |[],ys=>by simp[kT]
 |x::xs,ys=>by simp[kT,vg xs ys]
theorem textBs_take {ts:List Bd}{k:Nat}{t:Bd}(h:ts[k]?=t):kT (ts.take (k+1))=kT (ts.take k)++[32]++kZ t:=by
 rw[List.take_add_one,h,vg];simp[kT]
theorem mA:∀(xs:List Bd),cu xs->∀(k:Nat) (t:Bd),xs[k]?=t->lvB t
 |[],_,k,t,h=>by simp at h
 | x::xs,hl,k,t,h=>by
   rw[cu]at hl;cases k with
   |zero=>simp at h;subst h;exact hl.1
   |succ k=>simp at h;exact mA xs hl.2 k t h
mutual
theorem vK:∀(b:Bd),lvB b->(kZ b).length+1<=12*zG b
 |.leaf c,_=>by simp[kZ,zG]
 | .ask v ss y n,h=>by
   rw[lvB]at h;have h1:=ye ss h.2.1;have h2:=vK y h.2.2.1;have h3:=vK n h.2.2.2;have h4:(dec v).length<=5:=vP 4 v (by have:=h.1;omega);simp only[kZ,zG,RL,RU,Sq];omega
theorem ye:∀(bs:List Bd),cu bs->(kT bs).length<=12*zI bs
 |[],_=>by simp[kT]
 | b::bs,h=>by
   rw[cu]at h;have h1:=vK b h.1;have h2:=ye bs h.2;simp only[kT,zI,RL,RU,Sq];omega
end
theorem mG (xs:List Bd)(k:Nat):(kT (xs.take k)).length<=(kT xs).length:=by
 have:=congrArg Td (vg (xs.take k) (xs.drop k));rw[List.take_append_drop,RL]at this;omega
mutual
def zS:Ty->Bs
 |.mk ts=>textTs ts
def textTs:List Ty->Bs
 |[]=>[98]
 |a::ts=>[40,62,32]++(zS a++([32]++(textTs ts++[41])))
end
theorem yA:zS (.mk [])=[98]:=by rw[zS,textTs]
theorem yL (a:Ty)(ts:List Ty):zS (.mk (a::ts))=[40,62,32]++(zS a++([32]++(zS (.mk ts)++[41]))):=by
 rw[zS,textTs,zS]
theorem ul (a:Ty)(ts:List Ty):zU (.mk (a::ts))=1+zU a+zU (.mk ts):=by
 simp only[zU,zc];omega
theorem mz (p r:Bs):cut p (p++r)=r:=by
 unfold cut;have h:p.isPrefixOf (p++r)=OX:=List.isPrefixOf_iff_prefix.2 (List.prefix_append _ _);rw[if_pos h];simp
theorem noCut_b (r:Bs):hH [98] ([40,62,32]++r):=by
 show cut [98] ([40,62,32]++r)=U;rfl
theorem pV (d:Nat):∀(t:Ty) (r:Bs),zU t<=2*d+1->rdK d (zS t++r)=OK (t,r):=by
 have hb:∀(d:Nat) (r:Bs),rdK d (zS (.mk [])++r)=OK (.mk [],r):=fun d r=>by
  rw[yA];exact xR (mz [98] r)
 induction d with
 | zero =>
   intro t r h;obtain⟨ts⟩:=t;cases ts with
   |nil=>exact hb 0 r
   |cons a ts=>rw[ul]at h;have:=qA a;have:=qA (.mk ts);omega
 | succ d ih =>
   intro t r h;obtain⟨ts⟩:=t;cases ts with
   |nil=>exact hb _ r
   | cons a ts =>
     rw[ul]at h;have h1:=qA a;have h2:=qA (.mk ts);rw[yL];have e:([40,62,32]++(zS a++([32]++(zS (.mk ts)++[41]))))++r=[40,62,32]++(zS a++([32]++(zS (.mk ts)++([41]++r)))):=by simp
     rw[e,jj (noCut_b _)];simp only[mz,RJ,RF,ih a _ (by omega:zU a<=2*d+1),ih (.mk ts) _ (by omega:zU (.mk ts)<=2*d+1)];rfl
theorem jY:∀(n:Nat) (t:Ty),zU t<=n->(zS t).length+2=3*zU t:=by
 intro n
 induction n with
 |zero=>intro t h;have:=qA t;omega
 | succ n ih =>
   intro t h;obtain⟨ts⟩:=t;cases ts with
   |nil=>rw[yA];simp[zU,zc]
   | cons a ts =>
     rw[ul]at h ⊢;have h1:=qA a;have h2:=qA (.mk ts);have k1:=ih a (by omega);have k2:=ih (.mk ts) (by omega);rw[yL];simp only[RL,RU,Sq];omega
theorem vh {t:Ty}(h:zU t<=15):zD (zS t)=(t,OX):=by
 have hl:=jY 15 t h;unfold zD;rw[if_neg (by omega)];have:=pV 20 t [] (by omega);rw[R9]at this;have h2:rdS 21 (zS t)=OK (t,[]):=this;rw[h2];simp[h]
theorem fh {t:Ty}(h:zU t<=15):uy (zS t)=t:=by
 unfold uy;have:=pV 15 t [] (by omega);rw[R9]at this;rw[this];simp[h]
theorem dD {t:Ty}(h:zU t<=15)(l:Bs):qd t l=kP (zS t) l:=by
 have h1:=rdTS_eq (zS t) l;unfold mF at h1;rw[fh h]at h1;simp only[RJ,RF]at h1;rw[vh h]at h1;cases ha:qd t l <;> cases hb:kP (zS t) l <;> rw[ha,hb]at h1 <;> simp at h1 ⊢
 exact h1
inductive Clo where
 |mk (b:Bd) (env:List Clo) (begun:Nat) (path:Bs)
def Clo.body:Clo->Bd | .mk b _ _ _=>b
def Clo.env:Clo->List Clo | .mk _ e _ _=>e
def Clo.begun:Clo->Nat | .mk _ _ n _=>n
def Clo.path:Clo->Bs | .mk _ _ _ p=>p
mutual
def rR:Clo->Ty->Prop
 |.mk b e _ _,t=>∃h,jR e h/\qB (h++t.args) b
def jR:List Clo->List Ty->Prop
 |[],h=>h=[]
 |c::cs,h=>∃t ts,h=t::ts/\rR c t/\jR cs ts
end
theorem cG:∀(cs:List Clo) (h:List Ty),jR cs h->cs.length=h.length
 |[],h,k=>by rw[jR]at k;simp[k]
 | c::cs,h,k=>by
   rw[jR]at k;obtain⟨t,ts,rfl,_,k2⟩:=k;simp[cG cs ts k2]
theorem envFit_at:∀(cs:List Clo) (h:List Ty),jR cs h->∀(i:Nat) (c:Clo),cs[i]?=c->∃t,h[i]?=OK t/\rR c t
 |[],h,k,i,c,hc=>by simp at hc
 | c::cs,h,k,i,c',hc=>by
   rw[jR]at k;obtain⟨t,ts,rfl,k1,k2⟩:=k;cases i with
   |zero=>simp at hc;subst hc;exact⟨t,rfl,k1⟩
   |succ i=>simp at hc;simpa using envFit_at cs ts k2 i c' hc
theorem cH:∀(xs bs:List Clo) (h k:List Ty),jR xs h->jR bs k->jR (xs++bs) (h++k)
 |[],bs,h,k,h1,h2=>by rw[jR]at h1;subst h1;simpa using h2
 | a::xs,bs,h,k,h1,h2=>by
   rw[jR]at h1;obtain⟨t,ts,rfl,k1,k2⟩:=h1;simp only[R5];rw[jR];exact⟨t,ts++k,rfl,k1,cH xs bs ts k k2 h2⟩
end Go.Proofs.YtnfenijemllkbaaGreatDoor

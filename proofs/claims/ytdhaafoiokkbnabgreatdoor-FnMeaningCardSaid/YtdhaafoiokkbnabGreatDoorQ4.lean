/- Walks. -/
import Derived.Lib.AtoiTie
import Derived.Laws.Concat
import Derived.Test.YtdhaafoiokkbnabGreatDoorQ2
set_option linter.unusedVariables false
set_option linter.unusedSimpArgs false
set_option maxHeartbeats 10000000
set_option maxRecDepth 100000
open Array renaming getElem?_eq_getElem->O0
open Go.Lib renaming decDigits->Pf,decDigits_length->SC,decDigits_one->SU,decFrom->Ut,itoa->PU,nDigits_big->R0,nDigits_small->QQ
open Go.Proofs.Tryz renaming func72->Rh,ntmps72->QZ,prog->No,results43->R6,results72->Pr,underlying45->PD
open Go.Value renaming oneCell'->OR,ownBlock->OG,slice->Ox
open Go.Value.slice renaming injEq->OK
open Go.World renaming cell?->Li,cell?_of_block->QD,frozen?_of_block->PB,ownsRow_nil->Pq,setCell->Qi
open List renaming append_nil->OY,cons_append->ON,drop_eq_getElem_cons->Pv,drop_eq_nil_of_le->Qv,drop_left'->S0,eq_nil_of_length_eq_zero->OQ,foldl_cons->R7,getElem?_drop->PJ,getElem?_eq_some_iff->OB,getElem?_take->PI,getElem_drop->RP,head?_append->SL,isPrefixOf->Qh,length->PY,length_append->Ov,length_cons->OD,length_nil->Pd,mem_map->Tv,mem_of_getElem?->OI,mem_singleton->SF,singleton_append->Sq,take_left'->S4,take_length->OT,take_of_length_le->Qp,take_succ_cons->PE
open List.cons renaming injEq->OL
open Nat renaming pow_le_pow_right->SB,strongRecOn->Qn,zero_le->OS
open Option renaming bind_eq_bind->Ow,bind_eq_some_iff->N0,bind_some->Lx,map_eq_some_iff->OA
open UInt8 renaming le_iff_toNat_le->PM,ofNat->RQ,toNat_inj->SS
namespace Go.Proofs.YtdhaafoiokkbnabGreatDoor
open Go.RowKit
def d8 (i:Nat) (o:Option (Nat×Nat)) (w:World) (en:Ending) (w':World):Prop :=
 ∃ (v:Nat) (k:Int),en=.returned (.tuple #[.int .i64 v,.int .i64 k])/\w=w'/\(o=none->k = -1)/\(∀ v' c,o=some (v',c)->v=v'/\k=((i+c:Nat):Int))
theorem l3Number_any (l:Bs) (hl:Lim l.length) (i:Nat) (hi:i<=l.length) (w:World) :
 Calls No 93 #[str l,.int .i64 i] w (d8 i (jF (l.drop i)) w):=by
 have i5:=hl.le;obtain ⟨ds,hds⟩:=zzM (qD (l.drop i));have hd4:=be (l.drop i);rw [<- hds] at hd4;have h4:ds.length<=4:=hd4.1;have hdl:i+ds.length<=l.length:=by have:=hd4.2;simp at this;omega
 have HDS:=n7 hds;clear hds hd4;go_enter Tryz.func93,Tryz.ntmps93;go_wp2_with fail
 go_loop [6,7] (fun n k=>∃ j:Nat,j<=ds.length/\k=.int .i64 ((i+j:Nat):Int)/\n=.int .i64 (jv (ds.take j):Nat)) (fun _ k=>i+ds.length-(intOf k).toNat)
 case atStart=>exact ⟨0,OS _,by simp,by simp [jv]⟩
 case round =>
  obtain ⟨j,hj,rfl,rfl⟩:=hrel;by_cases rH:j<ds.length
  ·have GC:i+j<l.length:=by omega
   have rX:l[i+j]=ds[j]/\dig l[i+j]=true:=by
    have h1:=HDS.out;subst h1;obtain ⟨hm,e1,e2⟩:=digsOf_at rH;rw [RP] at e1 e2;exact ⟨e1,e2⟩
   have b1:(48:Int)<=((((⟨l.toArray⟩:ByteArray)[i+j]'(k8 GC)).toNat:Int))/\((((⟨l.toArray⟩:ByteArray)[i+j]'(k8 GC)).toNat:Int))<=57:=by
    have h2:=rX.2;simp [dig,PM] at h2;rw [xM GC];omega
   obtain ⟨b1,b2⟩:=b1;have hv:jv (ds.take j)<=9999:=by
    have h1:=valOf_lt (ds.take j) (fun c hc=>yr _ c (by have:=HDS.out;rw [<- this];exact List.mem_of_mem_take hc));have h2:10 ^ (ds.take j).length<=10 ^ 4:=SB (by omega) (by simp;omega);omega
   have hs:=valOf_take rH;have lQ:(jv (ds.take (j+1)):Int)=10*(jv (ds.take j):Int)+(((((⟨l.toArray⟩:ByteArray)[i+j]'(k8 GC)).toNat:Int))-48):=by
    rw [xM GC] at b1 ⊢;rw [hs,rX.1] at *;omega
   have HS:=n7 lQ;have j4:j<4:=by omega
   clear hs lQ rX;go_wp2_with fail
   go_round
   case rel=>exact ⟨j+1,by omega,by go_num,by rw [HS.out]⟩
   case measure=>simp [intOf];omega
  ·obtain rfl:j=ds.length:=by omega
   have Cz:ds.length=4\/i+ds.length=l.length\/∃ h:i+ds.length<l.length,dig l[i+ds.length]=false:=by
    have h1:=HDS.out;subst h1;rcases digsOf_end (m:=l.drop i) with h | h | ⟨h,h2⟩
    ·exact .inl h
    ·right;left;simp at h;omega
    ·right;right;simp at h;refine ⟨by omega,?_⟩;rw [RP] at h2;exact h2
   have HV:jF (l.drop i)=(if ds=[]\/(1<ds.length/\(l.drop i).head? = some 48) then none else some (jv ds,ds.length)):=by
    unfold jF;rw [<- HDS.out]
   have BJ:4<=ds.length\/l.length<=i+ds.length\/(∃ h:i+ds.length<l.length,((((⟨l.toArray⟩:ByteArray)[i+ds.length]'(k8 h)).toNat:Int))<48)\/(∃ h:i+ds.length<l.length,(57:Int)<((((⟨l.toArray⟩:ByteArray)[i+ds.length]'(k8 h)).toNat:Int))):=by
    rcases Cz with h | h | ⟨h,h2⟩
    ·exact .inl (by omega)
    ·exact .inr (.inl (by omega))
    ·simp [dig,PM] at h2;by_cases hc:l[i+ds.length].toNat<48
     ·exact .inr (.inr (.inl ⟨h,by rw [xM h];omega⟩))
     ·exact .inr (.inr (.inr ⟨h,by rw [xM h];have:=h2 (by omega);omega⟩))
   clear Cz;rw [OT];rcases (by omega:ds.length=0\/ds.length=1\/2<=ds.length) with hn | hn | hn
   ·have e0:((i:Int)+(ds.length:Int) == (i:Int))=true:=by rw [beq_iff_eq];omega
    have fin:d8 i (jF (l.drop i)) w (.returned (.tuple #[.int .i64 0,.int .i64 (-1)])) w:=by
     have A7:ds=[]:=OQ hn;refine ⟨0,-1,rfl,rfl,fun _=>rfl,fun v c h=>?_⟩;rw [HV,if_pos (.inl A7)] at h;simp at h
    have HF:=n7 fin;have lp:(ds.length:Int)<=0:=by omega
    clear fin HV hn;rcases BJ with h | h | ⟨h,h2⟩ | ⟨h,h2⟩
    all_goals
     go_wp2_with fail
     all_goals (go_ret2;exact HF.out)
   ·have e0:((i:Int)+(ds.length:Int) == (i:Int))=false:=by rw [beq_eq_false_iff_ne];omega
    have n1:¬ 1<ds.length:=by omega
    have fin:d8 i (jF (l.drop i)) w (.returned (.tuple #[.int .i64 (jv ds:Nat),.int .i64 ((i:Int)+(ds.length:Int))])) w:=by
     have A7:¬ (ds=[]\/(1<ds.length/\(l.drop i).head? = some 48)):=by
      rintro (h | h)
      ·rw [h] at hn;simp at hn
      ·omega
     refine ⟨_,_,rfl,rfl,fun h=>?_,fun v c h=>?_⟩
     ·rw [HV,if_neg A7] at h;simp at h
     ·rw [HV,if_neg A7] at h;simp at h;exact ⟨h.1,by omega⟩
    have HF:=n7 fin;have iU:1<=ds.length:=by omega
    clear fin HV hn;rcases BJ with h | h | ⟨h,h2⟩ | ⟨h,h2⟩
    all_goals
     go_wp2_with fail
     all_goals (go_ret2;exact HF.out)
   ·have e0:((i:Int)+(ds.length:Int) == (i:Int))=false:=by rw [beq_eq_false_iff_ne];omega
    have n1:1<ds.length:=by omega
    have Jy:i<l.length:=by rcases BJ with h | h | ⟨h,h2⟩ | ⟨h,h2⟩ <;> omega
    have Hx:(l.drop i).head? = some l[i]:=by rw [List.head?_drop];simp [Jy]
    have hdn:ds≠[]:=by intro h;rw [h] at hn;simp at hn
    by_cases DO:l[i]=48
    focus
     have f1:=x7 Jy (n:=48) (by decide) DO;have fin:d8 i (jF (l.drop i)) w (.returned (.tuple #[.int .i64 0,.int .i64 (-1)])) w:=by
      refine ⟨0,-1,rfl,rfl,fun _=>rfl,fun v c h=>?_⟩;rw [HV,if_pos (.inr ⟨n1,by rw [Hx,DO]⟩)] at h;simp at h
    rotate_left
    focus
     have f1:=uF Jy (n:=48) (by decide) DO;have fin:d8 i (jF (l.drop i)) w (.returned (.tuple #[.int .i64 (jv ds:Nat),.int .i64 ((i:Int)+(ds.length:Int))])) w:=by
      have A7:¬ (ds=[]\/(1<ds.length/\(l.drop i).head? = some 48)):=by
       rintro (h | h)
       ·exact hdn h
       ·rw [Hx] at h;exact DO (Option.some.inj h.2)
      refine ⟨_,_,rfl,rfl,fun h=>?_,fun v c h=>?_⟩
      ·rw [HV,if_neg A7] at h;simp at h
      ·rw [HV,if_neg A7] at h;simp at h;exact ⟨h.1,by omega⟩
    all_goals
     have HF:=n7 fin;clear fin HV Hx DO;rcases BJ with h | h | ⟨h,h2⟩ | ⟨h,h2⟩
     all_goals
      go_wp2_with fail
      all_goals (go_ret2;exact HF.out)
mutual
def kx:Bd->List DV
 | .leaf c=>[.val (str [c]),.val (.int .i64 (0:Nat)),.sl 47 4 0 [],.sl 47 4 0 []]
 | .ask v ss y n=>[.val (str []),.val (.int .i64 v),.sl 47 4 ss.length (zi ss),.sl 47 4 2 (kx y++(kx n++[]))]
def zi:List Bd->List DV
 | []=>[]
 | b::bs=>kx b++zi bs
end
theorem vS (b:Bd):(kx b).length=4:=by cases b <;> simp [kx]
theorem encNs_length (bs:List Bd):(zi bs).length=bs.length*4:=by
 induction bs with
 | nil=>simp [zi]
 | cons b bs ih=>simp [zi,vS,ih];omega
theorem qR (a b:List Bd):zi (a++b)=zi a++zi b:=by
 induction a with
 | nil=>simp [zi]
 | cons t ts ih=>simp [zi,ih,List.append_assoc]
theorem xD (v:Nat) (ss:List Bd) (y n:Bd):kx (.ask v ss y n)=[.val (str []),.val (.int .i64 v),.sl 47 4 ss.length (zi ss),.sl 47 4 2 (zi [y,n])]:=by
 simp [kx,zi]
theorem Tryz.infoN:(No.info? 47).map (fun i=>(i.zero,i.size,i.bytes))=some (some (.agg #[str [],.int .i64 0,.slice none 0 0,.slice none 0 0]),4,72):=by kernel_rfl
def ux (L:Nat) (w:World) (o:Option (Bd×Bs)) (en:Ending) (w':World):Prop :=
 ∃ (s:Bs) (v:Int) (a2:Option Addr) (n2 k2:Nat) (a3:Option Addr) (n3 k3:Nat) (k:Int),en=.returned (.tuple #[.agg #[str s,.int .i64 v,.slice a2 n2 k2,.slice a3 n3 k3],.int .i64 k])/\Below w.heap.size w w'/\(o=none->k = -1) /\
   (∀ b rest,o=some (b,rest)->k=(L:Int)-rest.length/\zW (w.heap.size<=·) w' (kx b) [str s,.int .i64 v,.slice a2 n2 k2,.slice a3 n3 k3])
theorem ux.no {L:Nat} {w w':World} {o:Option (Bd×Bs)} (ho:o=none) (hb:Below w.heap.size w w') :
 ux L w o (.returned (.tuple #[.agg #[str [],.int .i64 0,.slice none 0 0,.slice none 0 0],.int .i64 (-1)])) w' :=
 ⟨[],0,none,0,0,none,0,0,_,rfl,hb,fun _=>rfl,fun _ _ h=>by rw [ho] at h;simp at h⟩
theorem ux.yes {L:Nat} {w w':World} {o:Option (Bd×Bs)} {b:Bd} {rest:Bs} {s:Bs} {v:Int} {a2:Option Addr} {n2 k2:Nat} {a3:Option Addr} {n3 k3:Nat} {k:Int} (ho:o=some (b,rest)) (hk:k=(L:Int)-rest.length) (hb:Below w.heap.size w w') (hv:zW (w.heap.size<=·) w' (kx b) [str s,.int .i64 v,.slice a2 n2 k2,.slice a3 n3 k3]) :
 ux L w o (.returned (.tuple #[.agg #[str s,.int .i64 v,.slice a2 n2 k2,.slice a3 n3 k3],.int .i64 k])) w' :=
 ⟨s,v,a2,n2,k2,a3,n3,k3,k,rfl,hb,fun h=>by rw [ho] at h;simp at h,fun _ _ h=>by rw [ho] at h;simp at h;obtain ⟨rfl,rfl⟩:=h;exact ⟨hk,hv⟩⟩
def NodeSaid (l:Bs) (e d:Nat):Prop:=∀ (F:Nat->Prop) (hand:List Ty) (hv:Value) (i:Nat) (w:World),i<=l.length->jC e hand ->
    Rep F w (.sl 42 1 hand.length (qI hand)) hv ->
    Calls No 72 #[str l,.int .i64 i,hv,.int .i64 d] w (ux l.length w (rdN e hand (l.drop i)))
theorem eI (F:Nat->Prop) (w:World) (c:UInt8):zW F w (kx (.leaf c)) [str [c],.int .i64 0,.slice none 0 0,.slice none 0 0]:=by
 have hz:Rep F w (.sl 47 4 0 []) (.slice none 0 0):=zh.2 ⟨rfl,none,0,rfl,n9 _,fun _=>rfl,.inl rfl⟩;rw [kx];exact zQ.2 ⟨_,_,rfl,zH.2 rfl,zQ.2 ⟨_,_,rfl,zH.2 rfl,zQ.2 ⟨_,_,rfl,hz,zQ.2 ⟨_,_,rfl,hz,zC.2 rfl⟩⟩⟩⟩
theorem rdN_leaf (e:Nat) (hand:List Ty) {l:Bs} {i:Nat} (h:i<l.length) (hc:l[i]=116\/l[i]=102\/l[i]=117):rdN (e+1) hand (l.drop i)=some (.leaf l[i],l.drop (i+1)):=by
 rw [Pv h,rdN];simp only [if_pos hc]
theorem rdN_other (e:Nat) (hand:List Ty) {l:Bs} {i:Nat} (h:i<l.length) (hc:¬ (l[i]=116\/l[i]=102\/l[i]=117)) (tE:¬ l[i]=40):rdN (e+1) hand (l.drop i)=none:=by
 rw [Pv h,rdN];simp only [if_neg hc,if_pos tE]
theorem rdN_40 (e:Nat) (hand:List Ty) {l:Bs} {i:Nat} (h:i<l.length) (tE:l[i]=40):rdN (e+1) hand (l.drop i)=(match jF (l.drop (i+1)) with
 | none=>none
 | some (v,k)=>match hand[v]? with
   | none=>none
   | some t=>do
     let (ps,l1)<-zF (rdN e) (jJ hand t) ((l.drop (i+1)).drop k)
     let l2<-cut [41] l1
     let b<-wH v t.args.length ps
     some (b,l2)):=by
 rw [Pv h,rdN];rw [if_neg (by rw [tE];decide),if_neg (by simpa using tE)];try rfl
theorem dR (l:Bs) (hl:Lim l.length) (e d:Nat) (Eb:e+d=101) (F:Nat->Prop) (hand:List Ty) (hv:Value) (i:Nat) (w:World) (hi:i<=l.length)
 (hr:Rep F w (.sl 42 1 hand.length (qI hand)) hv) (a_:∀ h:i<l.length,e=0\/¬ l[i]=40) :
 Calls No 72 #[str l,.int .i64 i,hv,.int .i64 d] w (ux l.length w (rdN e hand (l.drop i))):=by
 have i5:=hl.le;obtain ⟨a0,c0,e0,_⟩:=zP hr;subst e0;rcases e with _ | e
 ·have CQ:(100:Int)<(d:Int):=by omega
  clear a_;go_enter Rh,QZ;go_wp2_with fail
  refine bodyPost_ret (v:=.tuple #[.agg #[str [],.int .i64 0,.slice none 0 0,.slice none 0 0],.int .i64 (-1)]) (by simp [results,Pr,go_sem]) rfl ?_;exact ux.no (by rfl) (by repeat (first | exact rZ _ _ | refine Below.alloc ?_ (n9 _) _ | refine Below.setCell ?_ (by simp) _))
 have A7:¬ (100:Int)<(d:Int):=by omega
 by_cases rH:i<l.length;rotate_left
 ·clear a_;go_enter Rh,QZ;go_wp2_with fail
  refine bodyPost_ret (v:=.tuple #[.agg #[str [],.int .i64 0,.slice none 0 0,.slice none 0 0],.int .i64 (-1)]) (by simp [results,Pr,go_sem]) rfl ?_;exact ux.no (by rw [Qv (by omega)];rfl) (by repeat (first | exact rZ _ _ | refine Below.alloc ?_ (n9 _) _ | refine Below.setCell ?_ (by simp) _))
 have tE:¬ l[i]=40:=(a_ rH).resolve_left (by omega);clear a_;by_cases F4:l[i]=116\/l[i]=102\/l[i]=117
 ·have HM:=n7 (rdN_leaf e hand rH F4);have hx:((⟨l.toArray⟩:ByteArray).extract i (i+1))=⟨#[l[i]]⟩:=by
   rw [bx];congr 1;rw [List.drop_take,Pv rH,show i+1-i=1 from by omega];rfl
  have HX:=n7 hx;clear hx;have fin:∀ w':World,Below w.heap.size w w'->ux l.length w (rdN (e+1) hand (l.drop i)) (.returned (.tuple #[.agg #[.string ((⟨l.toArray⟩:ByteArray).extract i (i+1)),.int .i64 0,.slice none 0 0,.slice none 0 0],.int .i64 ((i:Int)+1)])) w':=by
   intro w' hb;rw [HX.out];exact ux.yes (s:=[l[i]]) HM.out (by simp;omega) hb (eI _ _ _)
  have FIN:=n7 fin;clear fin;have key:((((⟨l.toArray⟩:ByteArray)[i]'(k8 rH)).toNat:Int) == 116)=true\/((((((⟨l.toArray⟩:ByteArray)[i]'(k8 rH)).toNat:Int) == 116)=false/\((((⟨l.toArray⟩:ByteArray)[i]'(k8 rH)).toNat:Int) == 102)=true))\/((((((⟨l.toArray⟩:ByteArray)[i]'(k8 rH)).toNat:Int) == 116)=false/\((((⟨l.toArray⟩:ByteArray)[i]'(k8 rH)).toNat:Int) == 102)=false/\((((⟨l.toArray⟩:ByteArray)[i]'(k8 rH)).toNat:Int) == 117)=true)):=by
   rcases F4 with h | h | h
   ·exact .inl (x7 rH (n:=116) (by decide) h)
   ·exact .inr (.inl ⟨uF rH (c:=116) (n:=116) (by decide) (by rw [h];decide),x7 rH (n:=102) (by decide) h⟩)
   ·exact .inr (.inr ⟨uF rH (c:=116) (n:=116) (by decide) (by rw [h];decide),uF rH (c:=102) (n:=102) (by decide) (by rw [h];decide),x7 rH (n:=117) (by decide) h⟩)
  clear F4 tE HM HX;rcases key with f1 | ⟨f1,f2⟩ | ⟨f1,f2,f3⟩
  all_goals
   go_enter Rh,QZ;go_wp2_with fail
   refine bodyPost_ret (v:=.tuple #[.agg #[.string ((⟨l.toArray⟩:ByteArray).extract i (i+1)),.int .i64 0,.slice none 0 0,.slice none 0 0],.int .i64 ((i:Int)+1)]) (by simp [results,Pr,go_sem]) rfl ?_;exact FIN.out _ (by repeat (first | exact rZ _ _ | refine Below.alloc ?_ (n9 _) _ | refine Below.setCell ?_ (by simp) _))
 have HM:=n7 (rdN_other e hand rH F4 tE);have f1:=uF rH (n:=116) (by decide) (fun h=>F4 (.inl h));have f2:=uF rH (n:=102) (by decide) (fun h=>F4 (.inr (.inl h)));have f3:=uF rH (n:=117) (by decide) (fun h=>F4 (.inr (.inr h)));have f4:=vE rH (n:=40) (by decide) tE;clear F4 tE;go_enter Rh,QZ;go_wp2_with fail
 refine bodyPost_ret (v:=.tuple #[.agg #[str [],.int .i64 0,.slice none 0 0,.slice none 0 0],.int .i64 (-1)]) (by simp [results,Pr,go_sem]) rfl ?_;exact ux.no HM.out (by repeat (first | exact rZ _ _ | refine Below.alloc ?_ (n9 _) _ | refine Below.setCell ?_ (by simp) _))
def kU (ob:Nat) (v:Int) (kslv yslv:Value) (w:World):Prop:=w.heap[ob]? = some (.cells #[str [],.int .i64 v,kslv,yslv] 47 (0,0))
theorem kU.cells {ob:Nat} {v:Int} {ks ys:Value} {w:World} (h:kU ob v ks ys w):w.cell? ⟨ob,0,none⟩=some (str [])/\w.cell? ⟨ob,1,none⟩=some (.int .i64 v)/\w.cell? ⟨ob,2,none⟩=some ks/\w.cell? ⟨ob,3,none⟩=some ys/\ob<w.heap.size/\(∀ o,w.frozen? ⟨ob,o,none⟩=false):=by
 have hl:=zZ h;unfold kU at h;exact ⟨by simp [Li,h],by simp [Li,h],by simp [Li,h],by simp [Li,h],hl,fun o=>by simp [World.frozen?,h]⟩
theorem kU.put2 {ob:Nat} {v:Int} {ks ys u:Value} {w:World} (h:kU ob v ks ys w):kU ob v u ys (w.setCell ⟨ob,2,none⟩ u):=by
 unfold kU;rw [zg h];rfl
theorem kU.put3 {ob:Nat} {v:Int} {ks ys u:Value} {w:World} (h:kU ob v ks ys w):kU ob v ks u (w.setCell ⟨ob,3,none⟩ u):=by
 unfold kU;rw [zg h];rfl
theorem kU.but {ob:Nat} {v:Int} {ks ys:Value} {m:Nat->Prop} {w w':World} (h:kU ob v ks ys w) (hb:But m w w') (hm:¬ m ob):kU ob v ks ys w':=by
 unfold kU;rw [hb.block ob (zZ h) hm];exact h
theorem kU.below {ob:Nat} {v:Int} {ks ys:Value} {w w':World} {B:Nat} (h:kU ob v ks ys w) (hb:Below B w w') (hm:ob<B):kU ob v ks ys w':=by
 unfold kU;rw [hb.block ob hm];exact h
theorem kU.store {ob:Nat} {v:Int} {ks ys:Value} {w:World} (h:kU ob v ks ys w) (u0 u1 u2 u3:Value) :
 ∃ W,W=((((w.setCell ⟨ob,0,none⟩ u0).setCell ⟨ob,1,none⟩ u1).setCell ⟨ob,2,none⟩ u2).setCell ⟨ob,3,none⟩ u3) /\
   W.cell? ⟨ob,0,none⟩=some u0/\W.cell? ⟨ob,1,none⟩=some u1/\W.cell? ⟨ob,2,none⟩=some u2/\W.cell? ⟨ob,3,none⟩=some u3 /\
   (∀ B w0,Below B w0 w->B<=ob->Below B w0 W)/\(∀ i x,i≠ob->w.heap[i]? = some x->W.heap[i]? = some x):=by
 have hc:((((w.setCell ⟨ob,0,none⟩ u0).setCell ⟨ob,1,none⟩ u1).setCell ⟨ob,2,none⟩ u2).setCell ⟨ob,3,none⟩ u3).heap[ob]? = some (.cells #[u0,u1,u2,u3] 47 (0,0)):=by
  unfold kU at h;rw [zg (zg (zg (zg h)))];rfl
 refine ⟨_,rfl,by simp only [Li,hc];rfl,by simp only [Li,hc];rfl,by simp only [Li,hc];rfl,by simp only [Li,hc];rfl,fun B w0 hb hB=>?_,fun i x hi hx=>?_⟩
 ·exact ((((hb.setCell (p:=⟨ob,0,none⟩) hB _).setCell (p:=⟨ob,1,none⟩) hB _).setCell (p:=⟨ob,2,none⟩) hB _).setCell (p:=⟨ob,3,none⟩) hB _)
 ·rw [rK _ _ _ _ (by simpa using hi),rK _ _ _ _ (by simpa using hi),rK _ _ _ _ (by simpa using hi),rK _ _ _ _ (by simpa using hi)];exact hx
structure cd (l:Bs) (w:World) (rd:RdS) (hs:List (List Ty)) (n i0 ob Z v:Nat) (k en:Nat) (wr:World) (ps:List Bd) (kv yv:List Value) (ks:Value) (nk:Nat) (ys:Value) (ny:Nat):Prop where
 hnk:nk=min k n
 hny:ny=k-n
 ksl:∃ a c,ks=.slice a nk c
 ysl:∃ a c,ys=.slice a ny c
 spec:zF rd (hs.take k) (l.drop i0)=some (ps,l.drop en)
 len:ps.length=k
 en:en<=l.length
 below:Below w.heap.size w wr
 res:kU w.heap.size 0 (.slice none 0 0) (.slice none 0 0) wr
 out:kU ob v ks ys wr
 ownK:Own wr 47 4 ks nk kv
 ownY:Own wr 47 4 ys ny yv
 blkK:∀ g,ks.ownBlock=some g->Z<=g/\ys.ownBlock≠some g
 blkY:∀ g,ys.ownBlock=some g->Z<=g
 repK:zW (fun b=>Z<=b/\ks.ownBlock≠some b/\ys.ownBlock≠some b) wr (zi (ps.take n)) kv
 repY:zW (fun b=>Z<=b/\ks.ownBlock≠some b/\ys.ownBlock≠some b) wr (zi (ps.drop n)) yv
 z:Z<=wr.heap.size
theorem cd.kid {l:Bs} {w:World} {rd:RdS} {hs:List (List Ty)} {n i0 ob Z v k en:Nat} {wr:World} {ps:List Bd} {kv yv:List Value} {ks ys:Value} {nk ny:Nat}
 (h:cd l w rd hs n i0 ob Z v k en wr ps kv yv ks nk ys ny) (hk:k<n) (E8:ob<Z) (hwo:w.heap.size<ob) {W w7:World} {b:Bd} {cs:List Value} {a':Option Addr} {c' aI:Nat}
 (rC:Below wr.heap.size wr W) (hcs:zW (wr.heap.size<=·) W (kx b) cs) (r9:Own w7 47 4 (.slice a' (nk+1) c') (nk+1) (kv++cs)) (rP:But (fun i=>ks.ownBlock=some i) W w7)
 (rL:∀ g,(Ox a' (nk+1) c').ownBlock=some g->ks.ownBlock=some g\/g=W.heap.size)
 (EP:zF rd (hs.take (k+1)) (l.drop i0)=some (ps++[b],l.drop aI)) (GF:aI<=l.length) :
 cd l w rd hs n i0 ob Z v (k+1) aI (w7.setCell ⟨ob,2,none⟩ (.slice a' (nk+1) c')) (ps++[b]) (kv++cs) yv (.slice a' (nk+1) c') (nk+1) ys ny:=by
 have z6:=rC.size;have z7:=rP.size;have zr:=h.z;have hlen:=h.len;have keep:∀ i x,wr.heap[i]? = some x->ks.ownBlock≠some i->i≠ob->(w7.setCell ⟨ob,2,none⟩ (.slice a' (nk+1) c')).heap[i]? = some x:=by
  intro i x hx h1 h2;have:=zZ hx;rw [rK _ _ _ _ (by simpa using h2),rP.block i (by omega) h1,rC.block i this];exact hx
 have tM:∀ i x,W.heap[i]? = some x->ks.ownBlock≠some i->i≠ob->(w7.setCell ⟨ob,2,none⟩ (.slice a' (nk+1) c')).heap[i]? = some x:=by
  intro i x hx h1 h2;have:=zZ hx;rw [rK _ _ _ _ (by simpa using h2),rP.block i (by omega) h1];exact hx
 have ltK:∀ g,ks.ownBlock=some g->g<wr.heap.size:=fun g hg=>h.ownK.lt hg;have ltY:∀ g,ys.ownBlock=some g->g<wr.heap.size:=fun g hg=>h.ownY.lt hg;have nK:∀ i,i<Z->ks.ownBlock≠some i:=fun i hi e=>by have:=(h.blkK i e).1;omega
 have newg:∀ g,(Ox a' (nk+1) c').ownBlock=some g->Z<=g:=fun g hg=>by
  rcases rL g hg with e | e
  ·exact (h.blkK g e).1
  ·omega
 refine ⟨by rw [h.hnk];omega,by rw [h.hny];omega,⟨_,_,rfl⟩,h.ysl,EP,by simp [hlen],GF,?_,?_,?_,?_,?_,?_,h.blkY,?_,?_,by simp [Qi];omega⟩
 ·refine Below.setCell ?_ (show w.heap.size<=ob by omega) _;exact (zzT h.below rC).trans (rP.toBelow (by have:=h.below.size;omega) fun i hi e=>nK i (by omega) e)
 ·exact keep _ _ h.res (nK _ (by omega)) (by omega)
 ·have h1:kU ob v ks ys w7:=by
   unfold kU;rw [rP.block ob (by omega) (nK _ E8),rC.block ob (by omega)];exact h.out
  exact h1.put2
 ·exact r9.keep fun g o hg ho=>by rw [rK _ _ _ _ (by have:=newg g hg;simp;omega)];exact ho
 ·exact h.ownY.keep fun g o hg ho=>keep g o ho (fun e=>(h.blkK g e).2 hg) (by have:=h.blkY g hg;omega)
 ·intro g hg;refine ⟨newg g hg,fun e=>?_⟩;rcases rL g hg with e' | e'
  ·exact (h.blkK g e').2 e
  ·have:=ltY g e;omega
 ·rw [Qp (by simp;omega),qR];have h1:=h.repK;rw [Qp (by omega)] at h1;refine zW.append ((Rep.keep fun i x hi hx=>⟨⟨hi.1,fun e=>(rL i e).elim (fun e'=>hi.2.1 e') (fun e'=>by have:=zZ hx;omega),hi.2.2⟩,keep i x hx hi.2.1 (by have:=hi.1;omega)⟩).2 _ _ h1) ?_
  ·have e1:zi [b]=kx b:=by simp [zi]
   rw [e1];refine (Rep.keep fun i x hi hx=>?_).2 _ _ hcs;have h2:=zZ hx;have h3:wr.heap.size<=i:=hi;refine ⟨⟨by omega,fun e=>?_,fun e=>by have:=ltY i e;omega⟩,tM i x hx (fun e=>by have:=ltK i e;omega) (by omega)⟩;rcases rL i e with e' | e'
   ·have:=ltK i e';omega
   ·omega
 ·have h1:=h.repY;rw [Qv (by omega)] at h1;rw [Qv (by simp;omega)];have:yv=[]:=by simpa [zi,zC] using h1
  subst this;exact zC.2 rfl
theorem cd.yes {l:Bs} {w:World} {rd:RdS} {hs:List (List Ty)} {n i0 ob Z v k en:Nat} {wr:World} {ps:List Bd} {kv yv:List Value} {ks ys:Value} {nk ny:Nat}
 (h:cd l w rd hs n i0 ob Z v k en wr ps kv yv ks nk ys ny) (hk:n<=k) (E8:ob<Z) (hwo:w.heap.size<ob) {W w7:World} {b:Bd} {cs:List Value} {a':Option Addr} {c' aI:Nat}
 (rC:Below wr.heap.size wr W) (hcs:zW (wr.heap.size<=·) W (kx b) cs) (r9:Own w7 47 4 (.slice a' (ny+1) c') (ny+1) (yv++cs)) (rP:But (fun i=>ys.ownBlock=some i) W w7)
 (rL:∀ g,(Ox a' (ny+1) c').ownBlock=some g->ys.ownBlock=some g\/g=W.heap.size)
 (EP:zF rd (hs.take (k+1)) (l.drop i0)=some (ps++[b],l.drop aI)) (GF:aI<=l.length) :
 cd l w rd hs n i0 ob Z v (k+1) aI (w7.setCell ⟨ob,3,none⟩ (.slice a' (ny+1) c')) (ps++[b]) kv (yv++cs) ks nk (.slice a' (ny+1) c') (ny+1):=by
 have z6:=rC.size;have z7:=rP.size;have zr:=h.z;have hlen:=h.len;have keep:∀ i x,wr.heap[i]? = some x->ys.ownBlock≠some i->i≠ob->(w7.setCell ⟨ob,3,none⟩ (.slice a' (ny+1) c')).heap[i]? = some x:=by
  intro i x hx h1 h2;have:=zZ hx;rw [rK _ _ _ _ (by simpa using h2),rP.block i (by omega) h1,rC.block i this];exact hx
 have tM:∀ i x,W.heap[i]? = some x->ys.ownBlock≠some i->i≠ob->(w7.setCell ⟨ob,3,none⟩ (.slice a' (ny+1) c')).heap[i]? = some x:=by
  intro i x hx h1 h2;have:=zZ hx;rw [rK _ _ _ _ (by simpa using h2),rP.block i (by omega) h1];exact hx
 have ltK:∀ g,ks.ownBlock=some g->g<wr.heap.size:=fun g hg=>h.ownK.lt hg;have ltY:∀ g,ys.ownBlock=some g->g<wr.heap.size:=fun g hg=>h.ownY.lt hg;have nY:∀ i,i<Z->ys.ownBlock≠some i:=fun i hi e=>by have:=h.blkY i e;omega
 have newg:∀ g,(Ox a' (ny+1) c').ownBlock=some g->Z<=g:=fun g hg=>by
  rcases rL g hg with e | e
  ·exact h.blkY g e
  ·omega
 refine ⟨by rw [h.hnk];omega,by rw [h.hny];omega,h.ksl,⟨_,_,rfl⟩,EP,by simp [hlen],GF,?_,?_,?_,?_,?_,?_,newg,?_,?_,by simp [Qi];omega⟩
 ·refine Below.setCell ?_ (show w.heap.size<=ob by omega) _;exact (zzT h.below rC).trans (rP.toBelow (by have:=h.below.size;omega) fun i hi e=>nY i (by omega) e)
 ·exact keep _ _ h.res (nY _ (by omega)) (by omega)
 ·have h1:kU ob v ks ys w7:=by
   unfold kU;rw [rP.block ob (by omega) (nY _ E8),rC.block ob (by omega)];exact h.out
  exact h1.put3
 ·exact h.ownK.keep fun g o hg ho=>keep g o ho (h.blkK g hg).2 (by have:=(h.blkK g hg).1;omega)
 ·exact r9.keep fun g o hg ho=>by rw [rK _ _ _ _ (by have:=newg g hg;simp;omega)];exact ho
 ·intro g hg;refine ⟨(h.blkK g hg).1,fun e=>?_⟩;rcases rL g e with e' | e'
  ·exact (h.blkK g hg).2 e'
  ·have:=ltK g hg;omega
 ·rw [List.take_append_of_le_length (by omega)];refine (Rep.keep fun i x hi hx=>⟨⟨hi.1,hi.2.1,fun e=>?_⟩,keep i x hx hi.2.2 (by have:=hi.1;omega)⟩).2 _ _ h.repK;rcases rL i e with e' | e'
  ·exact hi.2.2 e'
  ·have:=zZ hx;omega
 ·rw [List.drop_append_of_le_length (by omega),qR];refine zW.append ((Rep.keep fun i x hi hx=>⟨⟨hi.1,hi.2.1,fun e=>(rL i e).elim (fun e'=>hi.2.2 e') (fun e'=>by have:=zZ hx;omega)⟩,keep i x hx hi.2.2 (by have:=hi.1;omega)⟩).2 _ _ h.repY) ?_
  ·have e1:zi [b]=kx b:=by simp [zi]
   rw [e1];refine (Rep.keep fun i x hi hx=>?_).2 _ _ hcs;have h2:=zZ hx;have h3:wr.heap.size<=i:=hi;refine ⟨⟨by omega,fun e=>by have:=ltK i e;omega,fun e=>?_⟩,tM i x hx (fun e=>by have:=ltY i e;omega) (by omega)⟩;rcases rL i e with e' | e'
   ·have:=ltY i e';omega
   ·omega
theorem zu.lit4 {w:World} {e:TypeId} (cs:Array Value) (hn:cs.size=4) (hc:∀ u∈cs.toList,u.oneCell'=true) (g:Nat) (hg:g=w.heap.size):zu 4 (.slice (some ⟨g,0,none⟩) 1 1) 1 cs.toList (w.alloc (.cells cs e)):=by
 subst hg;refine ⟨by simp [hn],hc,.inl ⟨_,_,rfl,fun j u hu=>?_⟩⟩;unfold Addr.add;split
 ·subst j;simp;simpa using hu
 ·simp;simpa using hu
def NodeRel (l:Bs) (w:World) (rd:RdS) (hs:List (List Ty)) (n i0 ob Z v:Nat) (k en:Nat) (wr:World):Prop :=
 ∃ ps kv yv ks nk ys ny,cd l w rd hs n i0 ob Z v k en wr ps kv yv ks nk ys ny
theorem l3Read_ask (l:Bs) (hl:Lim l.length) (e d:Nat) (Eb:e+1+d=101) (ih:NodeSaid l e (d+1)) (F:Nat->Prop) (hand:List Ty) (hv:Value) (i:Nat) (w:World) (hi:i<l.length) (hh:jC (e+1) hand)
 (hr:Rep F w (.sl 42 1 hand.length (qI hand)) hv) (tE:l[i]=40) :
 Calls No 72 #[str l,.int .i64 i,hv,.int .i64 d] w (ux l.length w (rdN (e+1) hand (l.drop i))):=by
 have i5:=hl.le;have IH:=n7 ih;clear ih;have hlen:hand.length<=10000:=by have:=hh.2;omega
 have A7:¬ (100:Int)<(d:Int):=by omega
 have HM:=n7 (rdN_40 e hand hi tE);have f1:=uF hi (c:=116) (n:=116) (by decide) (by rw [tE];decide);have f2:=uF hi (c:=102) (n:=102) (by decide) (by rw [tE];decide);have f3:=uF hi (c:=117) (n:=117) (by decide) (by rw [tE];decide);have f4:=vd hi (n:=40) (by decide) tE;clear tE;obtain ⟨a0,k0,ehv,_,_,rX⟩:=zP hr;subst ehv;have tZ:=n7 rX;clear rX;go_enter Rh,QZ;go_wp2_with fail
 rw [show (i:Int)+1=((i+1:Nat):Int) from by omega];refine (l3Number_any l hl (i+1) hi _).mono ?_;rintro en w1 ⟨v,k1,rfl,ew,sU,sY⟩;obtain rfl:=ew;cases hq:jF (l.drop (i+1)) with
 | none =>
   obtain rfl:=sU hq;have hm:rdN (e+1) hand (l.drop i)=none:=by rw [HM.out,hq]
   have HM:=n7 hm;clear hm hq sU sY;go_wp2_with fail
   refine bodyPost_ret (v:=.tuple #[.agg #[str [],.int .i64 0,.slice none 0 0,.slice none 0 0],.int .i64 (-1)]) (by simp [results,Pr,go_sem]) rfl ?_;exact ux.no HM.out (by repeat (first | exact rZ _ _ | refine Below.alloc ?_ (n9 _) _ | refine Below.setCell ?_ (by simp) _))
 | some x =>
 obtain ⟨v',c⟩:=x;obtain ⟨rfl,rfl⟩:=sY _ _ hq;have B5:i+1+c<=l.length/\v<=9999:=by
  unfold jF at hq;split at hq
  ·simp at hq
  ·simp at hq;obtain ⟨e1,e2⟩:=hq;have h1:=be (l.drop (i+1));have h2:=valOf_lt (qD (l.drop (i+1))) (yr _);have h3:10 ^ (qD (l.drop (i+1))).length<=10 ^ 4:=SB (by omega) h1.1;simp at h1;omega
 obtain ⟨B5,hv9⟩:=B5;have HQ:=n7 hq;clear hq sU sY;by_cases B3:v<hand.length;rotate_left
 ·have hm:rdN (e+1) hand (l.drop i)=none:=by
   rw [HM.out,HQ.out];simp only;rw [List.getElem?_eq_none (by omega)]
  have HM:=n7 hm;clear hm;go_wp2_with fail
  refine bodyPost_ret (v:=.tuple #[.agg #[str [],.int .i64 0,.slice none 0 0,.slice none 0 0],.int .i64 (-1)]) (by simp [results,Pr,go_sem]) rfl ?_;exact ux.no HM.out (by repeat (first | exact rZ _ _ | refine Below.alloc ?_ (n9 _) _ | refine Below.setCell ?_ (by simp) _))
 obtain ⟨bl,ol,u,dv,ea,KU,JI,KD,hcl2,tq⟩:=tZ.out v B3;rw [uJ,OA] at KD;obtain ⟨t,ht,rfl⟩:=KD;obtain ⟨sa,ks,rfl⟩:=kP tq;have Jc:=tq;rw [jQ] at Jc;obtain ⟨_,_,est,_,_,Fv⟩:=zP Jc;simp only [OK] at est;obtain ⟨rfl,_,rfl⟩:=est;subst ea;have HT:=n7 ht;have Kd:=n7 Fv
 have hm : rdN (e+1) hand (l.drop i)=(do
         let (ps,l1)<-zF (rdN e) (jJ hand t) ((l.drop (i+1)).drop c)
         let l2<-cut [41] l1
         let b<-wH v t.args.length ps
         some (b,l2)):=by rw [HM.out,HQ.out];simp only [ht]
 rw [List.drop_drop] at hm;have HM:=n7 hm;have lK:t.args.length<=15:=by
  have h1:=hh.1 t (OI ht);have h2:=qx t;have:=qN t.args;omega
 clear hm ht Fv Jc;have gv:decide (hand.length<=v)=false:=by rw [decide_eq_false_iff_not];omega
 have gi:decide ((i:Int)+1+(c:Int)<0)=false:=by rw [decide_eq_false_iff_not];omega
 go_wp2_with fail
 have aT:NodeRel l w (rdN e) (jJ hand t) t.args.length (i+1+c) (w.heap.size+1) (w.heap.size+2) v 0 (i+1+c)
  ((w.alloc (.cells #[str [],.int .i64 0,.slice none 0 0,.slice none 0 0] 47)).alloc (.cells #[str [],.int .i64 v,.slice none 0 0,.slice none 0 0] 47)):=by
  refine ⟨[],[],[],.slice none 0 0,0,.slice none 0 0,0,by simp,by simp,⟨_,_,rfl⟩,⟨_,_,rfl⟩,by simp [zF],rfl,B5,((rZ _ _).alloc (n9 _) _).alloc (by simp) _,?_,?_,Pq _ _ _ _,Pq _ _ _ _,fun g h=>by simp [OG] at h,fun g h=>by simp [OG] at h,by rw [List.take_nil];exact zC.2 rfl,by rw [List.drop_nil];exact zC.2 rfl,by simp⟩
  ·exact zY (zG _ _)
  ·have:=zG (w.alloc (.cells #[str [],.int .i64 0,.slice none 0 0,.slice none 0 0] 47)) (.cells #[str [],.int .i64 v,.slice none 0 0,.slice none 0 0] 47);rw [zK] at this;exact this
 generalize KR:i+1+c=i0 at *;rw [show (i:Int)+1+(c:Int)=(i0:Int) from by omega];have HI0:=n7 KR;clear KR
 go_loopw [11,14] (fun a b wr=>∃ k en:Nat,k<=t.args.length+2/\a=.int .i64 en/\b=.int .i64 k/\NodeRel l w (rdN e) (jJ hand t) t.args.length i0 (w.heap.size+1) (w.heap.size+2) v k en wr)
  (fun _ b _=>t.args.length+2-(intOf b).toNat)
 case atStart=>exact ⟨0,i0,OS _,rfl,rfl,aT⟩
 case round =>
  clear aT;rename_i wr;obtain ⟨k,en,hk,rfl,rfl,hrel⟩:=hrel;obtain ⟨ps,kv,yv,ks,nk,ys,ny,hrel⟩:=hrel;have oJ:=hrel.res;have a_:=hrel.out;have hb:=hrel.below;have hen:=hrel.en;have zr:=hrel.z;have HP:=n7 hrel.spec;have nkl:nk<=17:=by have:=hrel.hnk;omega
  have nyl:ny<=2:=by have:=hrel.hny;omega
  obtain ⟨ka,kc,eks⟩:=hrel.ksl;obtain ⟨ya,yc,eys⟩:=hrel.ysl;subst eks;subst eys;have HR:=n7 hrel;clear hrel;obtain ⟨r0,r1,r2,r3,rl,rf⟩:=oJ.cells;obtain ⟨q0,q1,q2,q3,ql,qf⟩:=a_.cells;have tF:=rf 0;have aX:=rf 1;have iX:=rf 2;have lH:=rf 3;clear rf;have FS:=qf 2;have Kh:=qf 3;clear qf;by_cases rH:k<t.args.length+2
  ·have sS:(k:Int)<(t.args.length:Int)+2:=by omega
   by_cases B9:∃ h:en<l.length,l[en]=32;rotate_left
   ·have hm:rdN (e+1) hand (l.drop i)=none:=by
     have hs:=xe (rd:=rdN e) (show (jJ hand t)[k]? = some _ from List.getElem?_eq_getElem (by rw [uf];exact rH)) HP.out;have hc:cut [32] (l.drop en)=none:=by
      by_cases h:en<l.length
      ·rw [xZ h,if_neg (fun h'=>B9 ⟨h,h'⟩)]
      ·exact b6 (by omega)
     rw [HM.out,uA (k+1) (by rw [hs];simp [qB,hc])];rfl
    have HM:=n7 hm;clear hm;have tS:(l.length<=en)\/∃ h:en<l.length,((((⟨l.toArray⟩:ByteArray)[en]'(k8 h)).toNat:Int) != 32)=true:=by
     by_cases h:en<l.length
     ·exact .inr ⟨h,vE h (n:=32) (by decide) (fun h'=>B9 ⟨h,h'⟩)⟩
     ·exact .inl (by omega)
    clear B9;rcases tS with h | ⟨h,f5⟩
    focus
     have g1:(l.length:Int)<=(en:Int):=by omega
    rotate_left
    all_goals
     go_wp2_with fail
     obtain ⟨W,hW,s0,s1,s2,s3,rF,_⟩:=oJ.store (.string ⟨#[]⟩) (.int .i64 0) (.slice none 0 0) (.slice none 0 0);rw [<- hW];refine bodyPost_ret (v:=.tuple #[.agg #[str [],.int .i64 0,.slice none 0 0,.slice none 0 0],.int .i64 (-1)]) (by simp [results,Pr,go_sem,s0,s1,s2,s3]) rfl ?_;exact ux.no HM.out (rF _ _ hb (n9 _))
   obtain ⟨Av,B9⟩:=B9;have f5:=vd Av (n:=32) (by decide) B9;have g1:decide ((en:Int)<0)=false:=by rw [decide_eq_false_iff_not];omega
   have g2:decide (l.length<=en)=false:=by rw [decide_eq_false_iff_not];omega
   have HC:Hid (cut [32] (l.drop en)=some (l.drop (en+1))):=by show cut [32] (l.drop en)=_;rw [xZ Av,if_pos B9]
   clear B9;by_cases Ag:k<t.args.length
   ·have Ju:(k:Int)<(t.args.length:Int):=by omega
    obtain ⟨ba,oa,uk,dk,esa,hFa,JJ,M2,DG,sT⟩:=Kd.out k Ag;subst esa;rw [uJ,OA] at M2;obtain ⟨tk,Aq,rfl⟩:=M2;obtain ⟨ua,uc,rfl⟩:=kP sT;have e1:wr.cell? ⟨ba,oa+k,none⟩=some (.slice ua tk.args.length uc):=by rw [hb.cell JJ];exact DG
    have LY:=Rep.below (F':=F) hb (fun _ h=>h) sT;have iF:=Rep.below (F':=F) hb (fun _ h=>h) hr;have hhk:jC e (hand++tk.args):=hh.next HT.out (OI Aq);have GA:Lim (hand.length+tk.args.length):=by have:=hhk.2;simp at this;show _<=_;omega
    have HS:=n7 (xe (rd:=rdN e) (d6 (hand:=hand) Aq) HP.out);clear Aq DG sT;go_wp2_with fail
    refine (l3Hand_any F hand tk _ _ wr iF LY GA).mono ?_;rintro en5 w5 ⟨a5,c5,rfl,rx,E4⟩;have z5:=rx.size;have HR5:=n7 E4;clear E4 iF LY GA;have Q:=n7 (n8 oJ (n8 a_ (n8 hb rx)));have rl5:w.heap.size<w5.heap.size:=by omega
    have ql5:w.heap.size+1<w5.heap.size:=by omega
    go_wp2_with fail
    rw [show (en:Int)+1=((en+1:Nat):Int) from by omega,show (d:Int)+1=((d+1:Nat):Int) from by omega,<- Ov];refine (IH.out (fun k=>F k\/wr.heap.size<=k) (hand++tk.args) _ (en+1) w5 Av hhk (by rw [Ov] at HR5 ⊢;exact HR5.out)).mono ?_;rintro Dh w6 ⟨s6,v6,a2,n2,k2,a3,n3,k3,k6,rfl,rC,lN,lC⟩;rw [Ov];obtain ⟨oJ,a_,hb,rx⟩:=Q.out;have z6:=rC.size;have ow:=rx.trans (rC.mono z5);have Cs:=oJ.below ow rl;have Ct:=a_.below ow ql;have BK:=zzT hb ow;obtain ⟨r0,r1,r2,r3,rl6,rf⟩:=Cs.cells;obtain ⟨q0,q1,q2,q3,IT,qf⟩:=Ct.cells;have tF:=rf 0;have aX:=rf 1;have iX:=rf 2;have lH:=rf 3;clear rf;have FS:=qf 2;have Kh:=qf 3;clear qf;have Q2:=n7 (n8 ow (n8 Cs Ct));clear rx hb oJ a_ ow Cs Ct rC Q;cases hq:rdN e (hand++tk.args) (l.drop (en+1)) with
    | none =>
      obtain rfl:=lN hq;have hm:rdN (e+1) hand (l.drop i)=none:=by
       rw [HM.out,uA (k+1) (by rw [HS.out];simp [qB,HC.out,hq])];rfl
      have HM:=n7 hm;clear hm hq lN lC;go_wp2_with fail
      obtain ⟨W,hW,s0,s1,s2,s3,rF,_⟩:=Q2.out.2.1.store (.string ⟨#[]⟩) (.int .i64 0) (.slice none 0 0) (.slice none 0 0);rw [<- hW];refine bodyPost_ret (v:=.tuple #[.agg #[str [],.int .i64 0,.slice none 0 0,.slice none 0 0],.int .i64 (-1)]) (by simp [results,Pr,go_sem,zV s0,zV s1,zV s2,zV s3]) rfl ?_;exact ux.no HM.out ((rF _ _ BK (n9 _)).alloc (rF _ _ BK (n9 _)).size _)
    | some x =>
      obtain ⟨b,rest⟩:=x;obtain ⟨rfl,DH⟩:=lC _ _ hq;have AF:=xV (pD e hq);have Hr:rest.length<=l.length:=by have:=(pD e hq).length_le;simp at this;omega
      obtain ⟨aI,F8⟩:=zzM (l.length-rest.length);rw [<- F8] at AF;have D9:(l.length:Int)-(rest.length:Int)=(aI:Int):=by omega
      rw [D9];have Em:=n7 F8;clear F8 D9;have hs:zF (rdN e) ((jJ hand t).take (k+1)) (l.drop i0)=some (ps++[b],l.drop aI):=by
       rw [HS.out];simp [qB,HC.out,hq,AF]
      have Oe:=n7 hs;have Om:=n7 DH;clear hs DH hq lN lC AF;go_wp2_with (at_builtin;refine zM rfl _ _ 45 rfl 47 (.agg #[str [],.int .i64 0,.slice none 0 0,.slice none 0 0]) 4 72 PD Tryz.infoN rfl (by decide) (.slice ka nk kc) nk kv rfl ?c1 _ 1 [str s6,.int .i64 v6,.slice a2 n2 k2,.slice a3 n3 k3] rfl ?c2 ?c3 ?c4 ?_)
      case c1 =>
       refine (HR.out.ownK.keep fun g o hg ho=>?_).alloc _ |>.alloc _;rw [Q2.out.1.block g (zZ ho)];exact ho
      case c2=>exact zu.lit4 #[str s6,.int .i64 v6,.slice a2 n2 k2,.slice a3 n3 k3] rfl (by simp [str,OR]) _ (by simp)
      case c3=>unfold maxLen;omega
      case c4=>omega
      intro a' c' w7 r_ rP rL;have hW:Below wr.heap.size wr ((w6.alloc (.cells #[str s6,.int .i64 v6,.slice a2 n2 k2,.slice a3 n3 k3] 47)).alloc (.cells #[str s6,.int .i64 v6,.slice a2 n2 k2,.slice a3 n3 k3] 47)):=(Q2.out.1.alloc Q2.out.1.size _).alloc (by have:=Q2.out.1.size;simp;omega) _
      have hC:zW (wr.heap.size<=·) ((w6.alloc (.cells #[str s6,.int .i64 v6,.slice a2 n2 k2,.slice a3 n3 k3] 47)).alloc (.cells #[str s6,.int .i64 v6,.slice a2 n2 k2,.slice a3 n3 k3] 47)) (kx b) [str s6,.int .i64 v6,.slice a2 n2 k2,.slice a3 n3 k3] :=
       (Rep.keep fun i o hi ho=>⟨rJ z5 hi,zY (zY ho)⟩).2 _ _ Om.out
      have hA:=HR.out.kid Ag (by omega) (show w.heap.size<w.heap.size+1 by omega) hW hC r_ rP (fun g hg=>by simpa only [zK] using rL g hg) Oe.out (by have:=Em.out;omega);have z7:=rP.size;rw [zK,zK] at z7;have C8:w7.cell? ⟨w.heap.size+1,2,none⟩=some (.slice ka nk kc):=by
       rw [rP.cell (by simp only [zK];omega) (fun e=>by have h:w.heap.size+2<=w.heap.size+1:=(HR.out.blkK _ e).1;omega)];exact zV (zV q2)
      have Jz:w7.frozen? ⟨w.heap.size+1,2,none⟩=false:=by
       rw [PB (w:=w6) (by rw [rP.block _ (by simp only [zK];omega) (fun e=>by have h:w.heap.size+2<=w.heap.size+1:=(HR.out.blkK _ e).1;omega)];rw [Below.heap_alloc _ _ _ (by simp only [zK];omega),Below.heap_alloc _ _ _ (by omega)])];exact FS
      have HA:=n7 hA;clear hA hW hC r_ rP rL;go_wp2_with fail
      go_roundw
      case rel=>exact ⟨k+1,aI,by omega,rfl,by go_num,_,_,_,_,_,_,_,HA.out⟩
      case measure=>simp [intOf];omega
   ·have Ju:t.args.length<=k:=by omega
    have hkn2:¬ (k:Int)<(t.args.length:Int):=by omega
    have iF:=Rep.below (F':=F) hb (fun _ h=>h) hr;have HS:=n7 (xe (rd:=rdN e) (dn (hand:=hand) (t:=t) Ju rH) HP.out);go_wp2_with fail
    refine (IH.out F hand _ (en+1) wr Av (by have:=hh.same;rwa [OY] at this) iF).mono ?_;rintro Dh w6 ⟨s6,v6,a2,n2,k2,a3,n3,k3,k6,rfl,rC,lN,lC⟩;have z6:=rC.size;have ow:=rC;have Cs:=oJ.below ow rl;have Ct:=a_.below ow ql;have BK:=zzT hb ow;obtain ⟨r0,r1,r2,r3,rl6,rf⟩:=Cs.cells;obtain ⟨q0,q1,q2,q3,IT,qf⟩:=Ct.cells;have tF:=rf 0;have aX:=rf 1;have iX:=rf 2;have lH:=rf 3;clear rf;have FS:=qf 2;have Kh:=qf 3;clear qf;have Q2:=n7 (n8 ow (n8 Cs Ct));clear hb oJ a_ ow Cs Ct rC;cases hq:rdN e hand (l.drop (en+1)) with
    | none =>
      obtain rfl:=lN hq;have hm:rdN (e+1) hand (l.drop i)=none:=by
       rw [HM.out,uA (k+1) (by rw [HS.out];simp [qB,HC.out,hq])];rfl
      have HM:=n7 hm;clear hm hq lN lC;go_wp2_with fail
      obtain ⟨W,hW,s0,s1,s2,s3,rF,_⟩:=Q2.out.2.1.store (.string ⟨#[]⟩) (.int .i64 0) (.slice none 0 0) (.slice none 0 0);rw [<- hW];refine bodyPost_ret (v:=.tuple #[.agg #[str [],.int .i64 0,.slice none 0 0,.slice none 0 0],.int .i64 (-1)]) (by simp [results,Pr,go_sem,zV s0,zV s1,zV s2,zV s3]) rfl ?_;exact ux.no HM.out ((rF _ _ BK (n9 _)).alloc (rF _ _ BK (n9 _)).size _)
    | some x =>
      obtain ⟨b,rest⟩:=x;obtain ⟨rfl,DH⟩:=lC _ _ hq;have AF:=xV (pD e hq);have Hr:rest.length<=l.length:=by have:=(pD e hq).length_le;simp at this;omega
      obtain ⟨aI,F8⟩:=zzM (l.length-rest.length);rw [<- F8] at AF;have D9:(l.length:Int)-(rest.length:Int)=(aI:Int):=by omega
      rw [D9];have Em:=n7 F8;clear F8 D9;have hs:zF (rdN e) ((jJ hand t).take (k+1)) (l.drop i0)=some (ps++[b],l.drop aI):=by
       rw [HS.out];simp [qB,HC.out,hq,AF]
      have Oe:=n7 hs;have Om:=n7 DH;clear hs DH hq lN lC AF;go_wp2_with (at_builtin;refine zM rfl _ _ 45 rfl 47 (.agg #[str [],.int .i64 0,.slice none 0 0,.slice none 0 0]) 4 72 PD Tryz.infoN rfl (by decide) (.slice ya ny yc) ny yv rfl ?c1 _ 1 [str s6,.int .i64 v6,.slice a2 n2 k2,.slice a3 n3 k3] rfl ?c2 ?c3 ?c4 ?_)
      case c1 =>
       refine (HR.out.ownY.keep fun g o hg ho=>?_).alloc _ |>.alloc _;rw [Q2.out.1.block g (zZ ho)];exact ho
      case c2=>exact zu.lit4 #[str s6,.int .i64 v6,.slice a2 n2 k2,.slice a3 n3 k3] rfl (by simp [str,OR]) _ (by simp)
      case c3=>unfold maxLen;omega
      case c4=>omega
      intro a' c' w7 r_ rP rL;have hW:Below wr.heap.size wr ((w6.alloc (.cells #[str s6,.int .i64 v6,.slice a2 n2 k2,.slice a3 n3 k3] 47)).alloc (.cells #[str s6,.int .i64 v6,.slice a2 n2 k2,.slice a3 n3 k3] 47)):=(Q2.out.1.alloc Q2.out.1.size _).alloc (by have:=Q2.out.1.size;simp;omega) _
      have hC:zW (wr.heap.size<=·) ((w6.alloc (.cells #[str s6,.int .i64 v6,.slice a2 n2 k2,.slice a3 n3 k3] 47)).alloc (.cells #[str s6,.int .i64 v6,.slice a2 n2 k2,.slice a3 n3 k3] 47)) (kx b) [str s6,.int .i64 v6,.slice a2 n2 k2,.slice a3 n3 k3] :=
       (Rep.keep fun i o hi ho=>⟨hi,zY (zY ho)⟩).2 _ _ Om.out
      have hA:=HR.out.yes Ju (by omega) (show w.heap.size<w.heap.size+1 by omega) hW hC r_ rP (fun g hg=>by simpa only [zK] using rL g hg) Oe.out (by have:=Em.out;omega);have z7:=rP.size;rw [zK,zK] at z7;have C8:w7.cell? ⟨w.heap.size+1,3,none⟩=some (.slice ya ny yc):=by
       rw [rP.cell (by simp only [zK];omega) (fun e=>by have h:w.heap.size+2<=w.heap.size+1:=HR.out.blkY _ e;omega)];exact zV (zV q3)
      have Jz:w7.frozen? ⟨w.heap.size+1,3,none⟩=false:=by
       rw [PB (w:=w6) (by rw [rP.block _ (by simp only [zK];omega) (fun e=>by have h:w.heap.size+2<=w.heap.size+1:=HR.out.blkY _ e;omega)];rw [Below.heap_alloc _ _ _ (by simp only [zK];omega),Below.heap_alloc _ _ _ (by omega)])];exact Kh
      have HA:=n7 hA;clear hA hW hC r_ rP rL;go_wp2_with fail
      go_roundw
      case rel=>exact ⟨k+1,aI,by omega,rfl,by go_num,_,_,_,_,_,_,_,HA.out⟩
      case measure=>simp [intOf];omega
  ·have Ag:k=t.args.length+2:=by omega
   have sS:¬ (k:Int)<(t.args.length:Int)+2:=by omega
   have hp:zF (rdN e) (jJ hand t) (l.drop i0)=some (ps,l.drop en):=by
    have:=HP.out;rwa [Ag,Qp (by rw [uf];exact n9 _)] at this
   have hm:rdN (e+1) hand (l.drop i)=(do
    let l2<-cut [41] (l.drop en)
    let b<-wH v t.args.length ps
    some (b,l2)):=by rw [HM.out,hp];rfl
   have HM:=n7 hm;have HKN:=n7 Ag;clear hm hp Ag;by_cases Bp:∃ h:en<l.length,l[en]=41;rotate_left
   ·have hm:rdN (e+1) hand (l.drop i)=none:=by
     have hc:cut [41] (l.drop en)=none:=by
      by_cases h:en<l.length
      ·rw [xZ h,if_neg (fun h'=>Bp ⟨h,h'⟩)]
      ·exact b6 (by omega)
     rw [HM.out,hc];rfl
    have HM:=n7 hm;clear hm;have tS:(l.length<=en)\/∃ h:en<l.length,((((⟨l.toArray⟩:ByteArray)[en]'(k8 h)).toNat:Int) != 41)=true:=by
     by_cases h:en<l.length
     ·exact .inr ⟨h,vE h (n:=41) (by decide) (fun h'=>Bp ⟨h,h'⟩)⟩
     ·exact .inl (by omega)
    clear Bp;rcases tS with h | ⟨h,f5⟩
    focus
     have g1:(l.length:Int)<=(en:Int):=by omega
    rotate_left
    all_goals
     go_wp2_with fail
     obtain ⟨W,hW,s0,s1,s2,s3,rF,_⟩:=oJ.store (.string ⟨#[]⟩) (.int .i64 0) (.slice none 0 0) (.slice none 0 0);rw [<- hW];refine bodyPost_ret (v:=.tuple #[.agg #[str [],.int .i64 0,.slice none 0 0,.slice none 0 0],.int .i64 (-1)]) (by simp [results,Pr,go_sem,s0,s1,s2,s3]) rfl ?_;exact ux.no HM.out (rF _ _ hb (n9 _))
   obtain ⟨Av,Bp⟩:=Bp;have f5:=vd Av (n:=41) (by decide) Bp;have g1:decide ((en:Int)<0)=false:=by rw [decide_eq_false_iff_not];omega
   have g2:decide (l.length<=en)=false:=by rw [decide_eq_false_iff_not];omega
   have HC:Hid (cut [41] (l.drop en)=some (l.drop (en+1))):=by show cut [41] (l.drop en)=_;rw [xZ Av,if_pos Bp]
   clear Bp;go_wp2_with fail
   obtain ⟨W,hW,s0,s1,s2,s3,rF,ri⟩:=oJ.store (str []) (.int .i64 v) (.slice ka nk kc) (.slice ya ny yc);have FE:=HR.out;have oQ:=FE.len;have hnk:=FE.hnk;have hny:=FE.hny;have Ag:=HKN.out;obtain ⟨y1,y2,Gh⟩:∃ y1 y2,ps.drop t.args.length=[y1,y2]:=by
    match hd:ps.drop t.args.length with
    | [a,b]=>exact ⟨a,b,rfl⟩
    | []=>have:=congrArg PY hd;simp at this;omega
    | [a]=>have:=congrArg PY hd;simp at this;omega
    | a::b::c::d=>have:=congrArg PY hd;simp at this;omega
   have hm:rdN (e+1) hand (l.drop i)=some (.ask v (ps.take t.args.length) y1 y2,l.drop (en+1)):=by
    rw [HM.out,HC.out];simp [wH,Gh]
   have hnk':nk=(ps.take t.args.length).length:=by simp;omega
   have hny':ny=2:=by omega
   rw [<- hW];refine bodyPost_ret (v:=.tuple #[.agg #[str [],.int .i64 v,.slice ka nk kc,.slice ya ny yc],.int .i64 ((en:Int)+1)]) (by simp [results,Pr,go_sem,s0,s1,s2,s3]) rfl ?_;refine ux.yes (s:=[]) hm (by simp;omega) (rF _ _ hb (n9 _)) ?_;rw [xD];refine zQ.2 ⟨_,_,rfl,zH.2 rfl,zQ.2 ⟨_,_,rfl,zH.2 rfl,zQ.2 ⟨_,_,rfl,?_,zQ.2 ⟨_,_,rfl,?_,zC.2 rfl⟩⟩⟩⟩
   ·rw [<- hnk'];refine (FE.ownK.keep fun g o hg ho=>ri g o (by have:=(FE.blkK g hg).1;omega) ho).rep (fun g hg=>by have:=(FE.blkK g hg).1;omega) ?_;exact (Rep.keep fun x o hx ho=>⟨by have:=hx.1;omega,ri x o (by have:=hx.1;omega) ho⟩).2 _ _ FE.repK
   ·have tx:=FE.repY;rw [Gh] at tx;rw [<- hny'];refine (FE.ownY.keep fun g o hg ho=>ri g o (by have:=FE.blkY g hg;omega) ho).rep (fun g hg=>by have:=FE.blkY g hg;omega) ?_;exact (Rep.keep fun x o hx ho=>⟨by have:=hx.1;omega,ri x o (by have:=hx.1;omega) ho⟩).2 _ _ tx
theorem l3Read_any (l:Bs) (hl:Lim l.length) (e:Nat):∀ d,e+d=101->NodeSaid l e d:=by
 induction e with
 | zero=>exact fun d Eb F hand hv i w hi _ hr=>dR l hl 0 d Eb F hand hv i w hi hr (fun _=>.inl rfl)
 | succ e ih =>
   intro d Eb F hand hv i w hi hh hr;by_cases h:∃ h:i<l.length,l[i]=40
   ·obtain ⟨h,tE⟩:=h;exact l3Read_ask l hl e d Eb (ih (d+1) (by omega)) F hand hv i w h hh hr tE
   ·exact dR l hl (e+1) d Eb F hand hv i w hi hr (fun h'=>.inr fun tE=>h ⟨h',tE⟩)
def qd:Bd->List Bd
 | .leaf _=>[]
 | .ask _ ss _ _=>ss
def jj:Bd->List Bd
 | .leaf _=>[]
 | .ask _ _ y n=>[y,n]
def vM:Bd->Bs
 | .leaf c=>[c]
 | .ask _ _ _ _=>[]
def AtN (F:Nat->Prop) (w:World) (bs:List Bd) (a:Option Addr) (k:Nat):Prop :=
 ∃ b o s v a2 n2 c2 a3 n3 c3 d,a=some ⟨b,o,none⟩/\b<w.heap.size/\bs[k]? = some d/\w.cell? ⟨b,o+k*4,none⟩=some (str s)/\w.cell? ⟨b,o+k*4+1,none⟩=some (.int .i64 v) /\
   w.cell? ⟨b,o+k*4+2,none⟩=some (.slice a2 n2 c2)/\w.cell? ⟨b,o+k*4+3,none⟩=some (.slice a3 n3 c3)/\zW F w (kx d) [str s,.int .i64 v,.slice a2 n2 c2,.slice a3 n3 c3]
def cQ (F:Nat->Prop) (w:World) (bs:List Bd) (a:Option Addr):Prop:=∀ k,k<bs.length->AtN F w bs a k
theorem vh {F:Nat->Prop} {w:World} {b:Bd} {vs:List Value} (h:zW F w (kx b) vs) :
 ∃ v a2 c2 a3 c3,vs=[str (vM b),.int .i64 v,.slice a2 (qd b).length c2,.slice a3 (jj b).length c3] /\
   Rep F w (.sl 47 4 (qd b).length (zi (qd b))) (.slice a2 (qd b).length c2)/\Rep F w (.sl 47 4 (jj b).length (zi (jj b))) (.slice a3 (jj b).length c3):=by
 have key:∀ (s:Bs) (v:Int) (d2 d3:DV) (n2 n3:Nat) (k2 k3:List DV),d2=.sl 47 4 n2 k2->d3=.sl 47 4 n3 k3->zW F w [.val (str s),.val (.int .i64 v),d2,d3] vs ->
  ∃ a2 c2 a3 c3,vs=[str s,.int .i64 v,.slice a2 n2 c2,.slice a3 n3 c3]/\Rep F w d2 (.slice a2 n2 c2)/\Rep F w d3 (.slice a3 n3 c3):=by
  intro s v d2 d3 n2 n3 k2 k3 e2 e3 h;obtain ⟨_,_,rfl,h0,h⟩:=zQ.1 h;obtain ⟨_,_,rfl,h1,h⟩:=zQ.1 h;obtain ⟨_,_,rfl,h2,h⟩:=zQ.1 h;obtain ⟨_,_,rfl,h3,h⟩:=zQ.1 h;rw [zC] at h;subst h;rw [zH] at h0 h1;subst h0;subst h1;have h2':=h2;have h3':=h3;rw [e2] at h2';rw [e3] at h3';obtain ⟨_,a2,c2,e2',_⟩:=zh.1 h2';obtain ⟨_,a3,c3,e3',_⟩:=zh.1 h3';subst e2';subst e3';exact ⟨a2,c2,a3,c3,rfl,h2,h3⟩
 cases b with
 | leaf c =>
   rw [kx] at h;obtain ⟨a2,c2,a3,c3,e,h2,h3⟩:=key _ _ _ _ 0 0 [] [] rfl rfl h;exact ⟨_,a2,c2,a3,c3,e,h2,h3⟩
 | ask v ss y n =>
   rw [xD] at h;obtain ⟨a2,c2,a3,c3,e,h2,h3⟩:=key _ _ _ _ _ _ _ _ rfl rfl h;exact ⟨_,a2,c2,a3,c3,e,h2,h3⟩
theorem cQ.of {F:Nat->Prop} {w:World} {bs:List Bd} {v:Value} (h:Rep F w (.sl 47 4 bs.length (zi bs)) v):∃ a c,v=.slice a bs.length c/\cQ F w bs a:=by
 obtain ⟨hl,a,c,rfl,hn,hz,h⟩:=zh.1 h;refine ⟨a,c,rfl,fun k hk=>?_⟩;rcases h with h | ⟨b,o,cs,fr,rfl,hb,hc,hr⟩
 ·omega
 ·have hs:zi bs=zi (bs.take k)++(kx bs[k]++zi (bs.drop (k+1))):=by
   have e1:kx bs[k]=zi [bs[k]]:=by simp [zi]
   rw [e1,<- qR,<- qR]
   congr 1
   simp
  rw [hs] at hr;obtain ⟨h1,h2⟩:=hr.split;obtain ⟨h3,h4⟩:=h2.split;have oI:(zi (bs.take k)).length=k*4:=by rw [encNs_length];simp;omega
  rw [oI,vS] at h3;obtain ⟨v,a2,c2,a3,c3,e,_⟩:=vh h3;have rX:∀ j u,([str (vM bs[k]),.int .i64 v,.slice a2 (qd bs[k]).length c2,.slice a3 (jj bs[k]).length c3]:List Value)[j]? = some u->w.cell? ⟨b,o+k*4+j,none⟩=some u:=by
   intro j u hu;rw [<- e] at hu;have hj:j<4:=by
    have:=(OB.1 hu).1;simp at this;omega
   rw [PI,if_pos hj,PJ,PI] at hu;split at hu
   ·rw [PJ] at hu;simp only [Li,hc];rw [Nat.add_assoc];simpa using hu
   ·simp at hu
  refine ⟨b,o,_,v,a2,_,c2,a3,_,c3,bs[k],rfl,zZ hc,by simp [hk],rX 0 _ rfl,rX 1 _ rfl,rX 2 _ rfl,rX 3 _ rfl,?_⟩;rw [<- e];exact h3
theorem mp (b:Bd):ki b=qd b++jj b:=by cases b <;> rfl
def BoxN (g:Nat) (s:Bs) (k y:Value) (w:World):Prop :=
 w.cell? ⟨g,0,none⟩=some (str s)/\w.cell? ⟨g,2,none⟩=some k/\w.cell? ⟨g,3,none⟩=some y
theorem BoxN.below {g:Nat} {s:Bs} {k y:Value} {w w':World} (h:BoxN g s k y w) (hb:Below w.heap.size w w'):BoxN g s k y w':=by
 obtain ⟨h1,h2,h3⟩:=h;have:=n_ w _ h1;exact ⟨by rw [hb.cell (by exact this)];exact h1,by rw [hb.cell (by exact this)];exact h2,by rw [hb.cell (by exact this)];exact h3⟩
def fG (b:Bd):Prop:=∀ (F:Nat->Prop) (w:World) (s:Bs) (v:Int) (a2:Option Addr) (n2 c2:Nat) (a3:Option Addr) (n3 c3:Nat),zW F w (kx b) [str s,.int .i64 v,.slice a2 n2 c2,.slice a3 n3 c3] ->
 Calls No 34 #[.agg #[str s,.int .i64 v,.slice a2 n2 c2,.slice a3 n3 c3]] w fun en w'=>en=.returned (.int .i64 (zU b))/\Below w.heap.size w w'
theorem l3Size_step (b:Bd) (hl:Lim (zU b)) (ih:∀ b',zU b'<zU b->fG b'):fG b:=by
 intro F w s v a2 n2 c2 a3 n3 c3 hv;have Dv:=vh hv;obtain ⟨v',BW,BV,Ek,Ei,e,hk,hy⟩:=Dv;simp only [OL,OK,and_true] at e;obtain ⟨e0,e1,⟨rfl,e2,rfl⟩,⟨rfl,e3,rfl⟩⟩:=e;clear e0 e1;subst e2;subst e3;obtain ⟨_,_,ek,iI⟩:=cQ.of hk;obtain ⟨_,_,ey,Np⟩:=cQ.of hy;simp only [OK,true_and] at ek ey;obtain ⟨rfl,rfl⟩:=ek;obtain ⟨rfl,rfl⟩:=ey;have IH:=n7 ih;clear ih;have i5:=hl.le;have hsz:=uo b;rw [mp,qh] at hsz;have oI:=qO (qd b);have Kp:=qO (jj b);have E1:=n7 hsz;have kl:(qd b).length<=16777216:=by omega
 have yl:(jj b).length<=16777216:=by omega
 have ATK:=n7 iI;have ATY:=n7 Np;clear iI Np hk hy hv hsz oI Kp;generalize hK:qd b=kids at *;generalize hY:jj b=yess at *;clear hK hY;go_enter Tryz.func34,Tryz.ntmps34;go_wp2_with fail
 go_loopw [3,4] (fun n i wr=>∃ k:Nat,k<=kids.length/\i=.int .i64 k/\n=.int .i64 ((1+zE (kids.take k):Nat):Int)/\Below w.heap.size w wr/\BoxN w.heap.size s (.slice a2 kids.length c2) (.slice a3 yess.length c3) wr) (fun _ i _=>kids.length-(intOf i).toNat)
 case atStart=>exact ⟨0,OS _,rfl,by simp [zE],(rZ _ _).alloc (n9 _) _,by simp,by simp,by simp⟩
 case round =>
  rename_i wr;obtain ⟨k,hk,rfl,rfl,hb,hc⟩:=hrel;obtain ⟨aH,iZ,Fr⟩:=id hc;by_cases rH:k<kids.length
  ·obtain ⟨bb,o,s',v',b2,m2,d2,b3,m3,d3,t,rfl,hbb,ht,u0,u1,u2,u3,hr⟩:=ATK.out k rH;have q0:=(hb.cell hbb).trans u0;have q1:=(hb.cell hbb).trans u1;have q2:=(hb.cell hbb).trans u2;have q3:=(hb.cell hbb).trans u3;have iF:=(zW.below (F':=F) hb (fun _ h=>h) hr);have hs:=xU ht;have sw:=jR kids (k+1);have iO:=E1.out;have hp:=ze t;have IH':=n7 (IH.out t (by omega));have HS:=n7 hs;have b1:1+zE (kids.take k)+zU t<=16777216:=by omega
   have hz:=n_ wr _ aH;clear hs ht iO u0 u1 u2 u3 hr;go_wp2_with fail
   refine (IH'.out _ _ _ _ _ _ _ _ _ _ iF).mono ?_;rintro en w2 ⟨rfl,rY⟩;have rE:=zzT hb rY;obtain ⟨aH,iZ,Fr⟩:=id (hc.below rY);have Fs:=n7 (hc.below rY);go_wp2_with fail
   go_roundw
   case rel=>exact ⟨k+1,by omega,by go_num,by rw [HS.out] <;> go_num,rE,Fs.out⟩
   case measure=>simp [intOf];omega
  ·obtain rfl:k=kids.length:=by omega
   rw [OT];have bK:1+zE kids<=16777216:=by have:=E1.out;omega
   clear hk rH;go_wp2_with fail
   have ru:=hb;have iS:=hc;clear hb hc aH iZ Fr
   go_loopw [3,5] (fun n i wr=>∃ k:Nat,k<=yess.length/\i=.int .i64 k/\n=.int .i64 ((1+zE kids+zE (yess.take k):Nat):Int)/\Below w.heap.size w wr/\BoxN w.heap.size s (.slice a2 kids.length c2) (.slice a3 yess.length c3) wr) (fun _ i _=>yess.length-(intOf i).toNat)
   case atStart=>exact ⟨0,OS _,rfl,by simp [zE],ru,iS⟩
   case round =>
    clear ru iS;obtain ⟨k,hk,rfl,rfl,hb,hc⟩:=hrel;obtain ⟨aH,iZ,Fr⟩:=id hc;by_cases rH:k<yess.length
    ·obtain ⟨bb,o,s',v',b2,m2,d2,b3,m3,d3,t,rfl,hbb,ht,u0,u1,u2,u3,hr⟩:=ATY.out k rH;have q0:=(hb.cell hbb).trans u0;have q1:=(hb.cell hbb).trans u1;have q2:=(hb.cell hbb).trans u2;have q3:=(hb.cell hbb).trans u3;have iF:=(zW.below (F':=F) hb (fun _ h=>h) hr);have hs:=xU ht;have sw:=jR yess (k+1);have iO:=E1.out;have hp:=ze t;have IH':=n7 (IH.out t (by omega));have HS:=n7 hs;have b1:1+zE kids+zE (yess.take k)+zU t<=16777216:=by omega
     have hz:=n_ _ _ aH;clear hs ht iO u0 u1 u2 u3 hr;go_wp2_with fail
     refine (IH'.out _ _ _ _ _ _ _ _ _ _ iF).mono ?_;rintro en w2 ⟨rfl,rY⟩;have rE:=zzT hb rY;obtain ⟨aH,iZ,Fr⟩:=id (hc.below rY);have Fs:=n7 (hc.below rY);go_wp2_with fail
     go_roundw
     case rel=>exact ⟨k+1,by omega,by go_num,by rw [HS.out] <;> go_num,rE,Fs.out⟩
     case measure=>simp [intOf];omega
    ·obtain rfl:k=yess.length:=by omega
     go_wp2_with fail
     go_ret;exact ⟨xj (by rw [E1.out,OT];omega),hb⟩
theorem cu (n:Nat):∀ b,zU b<=n->Lim n->fG b:=by
 induction n with
 | zero=>intro b h _;have:=ze b;omega
 | succ n ih=>exact fun b h hn=>l3Size_step b (hn.mono h) (fun b' h'=>ih b' (by omega) (hn.mono (by omega)))
theorem oneCell_encN {F:Nat->Prop} {w:World} {b:Bd} {us:List Value} (h:zW F w (kx b) us):∀ u∈us,u.oneCell'=true:=by
 obtain ⟨v,a2,c2,a3,c3,rfl,_⟩:=vh h;simp [str,OR]
theorem Tryz.infoBo:(No.info? 134).map (fun i=>(i.zero,i.size,i.bytes))=some (some (.agg #[.int .i64 0,str [],.int .i64 0,.slice none 0 0,.slice none 0 0,.slice none 0 0,.slice none 0 0,.int .i64 0,.int .i64 0]),9,144):=by kernel_rfl
def kE (s text:Bs):Option Bd :=
 if (zR s).2=false\/2000<text.length then none else
 match rdN 101 (zR s).1.args text with
 | none=>none
 | some (b,rest)=>if rest=[]/\zU b<=200 then some b else none
theorem vV {l:Bs} (h:(zR l).2=true):zJ (zR l).1<=15:=by
 unfold zR at *;split at h
 ·simp at h
 ·rename_i hl;rw [if_neg hl];cases hq:rdS 21 l with
  | none=>rw [hq] at h;simp at h
  | some x=>rw [hq] at h;obtain ⟨t,rest⟩:=x;simp at h;exact h.2
theorem dA {t:Ty} (h:zJ t<=15):jC 101 t.args:=by
 have hm:=qx t;have key:∀ (ts:List Ty) (x:Ty),x∈ts->zJ x<=zt ts:=by
  intro ts
  induction ts with
  | nil=>intro x hx;simp at hx
  | cons y ys ih =>
    intro x hx;rcases List.mem_cons.1 hx with rfl | hx
    ·simp [zt];omega
    ·have:=ih x hx;simp [zt];omega
 refine ⟨fun x hx=>?_,?_⟩
 ·have:=key t.args x hx;omega
 ·have:=qN t.args;omega
theorem gr {w:World} {p a:Addr} {u v:Value} (h:w.cell? a=some v) (hne:a.block≠p.block):(w.setCell p u).cell? a=some v:=by
 rw [QD (w:=w) (rK _ _ _ _ hne)];exact h
theorem pj {w w':World} {a:Addr} {v:Value} (h:w.cell? a=some v) (hk:∀ x,w.heap[a.block]? = some x->w'.heap[a.block]? = some x):w'.cell? a=some v:=by
 have rH:=n_ w a h;rw [QD (w:=w)]
 ·exact h
 ·rw [hk _ (O0 rH),O0 rH]
abbrev KeepS (g1 g2:Nat) (T u0 u1 u2 u3:Value) (w:World):Prop :=
 w.cell? ⟨g1,0,none⟩=some T/\w.cell? ⟨g2,0,none⟩=some u0/\w.cell? ⟨g2,1,none⟩=some u1/\w.cell? ⟨g2,2,none⟩=some u2/\w.cell? ⟨g2,3,none⟩=some u3
theorem KeepS.set {g1 g2:Nat} {T u0 u1 u2 u3:Value} {w:World} (h:KeepS g1 g2 T u0 u1 u2 u3 w) (b o:Nat) (u:Value) (h1:g1≠b) (h2:g2≠b):KeepS g1 g2 T u0 u1 u2 u3 (w.setCell ⟨b,o,none⟩ u) :=
 ⟨gr h.1 h1,gr h.2.1 h2,gr h.2.2.1 h2,gr h.2.2.2.1 h2,gr h.2.2.2.2 h2⟩
def vN (s text:Bs) (w:World) (en:Ending) (w':World):Prop :=
 ∃ (a:Option Addr) (c:Nat) (s':Bs) (v':Int) (a2:Option Addr) (n2 c2:Nat) (a3:Option Addr) (n3 c3:Nat),
   en=.returned (.tuple #[.agg #[.slice a (zR s).1.args.length c],.agg #[str s',.int .i64 v',.slice a2 n2 c2,.slice a3 n3 c3],.bool (kE s text).isSome])/\Below w.heap.size w w' /\
   Rep (w.heap.size<=·) w' (k9 (zR s).1) (.slice a (zR s).1.args.length c) /\
   (∀ b,kE s text=some b->zW (w.heap.size<=·) w' (kx b) [str s',.int .i64 v',.slice a2 n2 c2,.slice a3 n3 c3])
theorem vN.no {s text:Bs} {w w':World} {a:Option Addr} {c:Nat} {v:Value} (hv:v=.slice a (zR s).1.args.length c) {s':Bs} {v':Int} {a2:Option Addr} {n2 c2:Nat} {a3:Option Addr} {n3 c3:Nat} {f:Bool} (hf:f=false) (hn:kE s text=none) (hb:Below w.heap.size w w')
 (hr:Rep (w.heap.size<=·) w' (k9 (zR s).1) v) :
 vN s text w (.returned (.tuple #[.agg #[v],.agg #[str s',.int .i64 v',.slice a2 n2 c2,.slice a3 n3 c3],.bool f])) w':=by
 subst hv;subst hf;exact ⟨a,c,s',v',a2,n2,c2,a3,n3,c3,by rw [hn];rfl,hb,hr,fun b h=>by rw [hn] at h;simp at h⟩
theorem vN.yes {s text:Bs} {w w':World} {a:Option Addr} {c:Nat} {v:Value} (hv:v=.slice a (zR s).1.args.length c) {s':Bs} {v':Int} {a2:Option Addr} {n2 c2:Nat} {a3:Option Addr} {n3 c3:Nat} {f:Bool} {b:Bd} (hf:f=true) (hn:kE s text=some b) (hb:Below w.heap.size w w')
 (hr:Rep (w.heap.size<=·) w' (k9 (zR s).1) v) (aS:zW (w.heap.size<=·) w' (kx b) [str s',.int .i64 v',.slice a2 n2 c2,.slice a3 n3 c3]) :
 vN s text w (.returned (.tuple #[.agg #[v],.agg #[str s',.int .i64 v',.slice a2 n2 c2,.slice a3 n3 c3],.bool f])) w':=by
 subst hv;subst hf;exact ⟨a,c,s',v',a2,n2,c2,a3,n3,c3,by rw [hn];rfl,hb,hr,fun b' h=>by rw [hn] at h;simp at h;subst h;exact aS⟩
theorem m_ (s text:Bs) (hs:Lim s.length) (hl:Lim text.length) (w:World):Calls No 43 #[str s,str text] w (vN s text w):=by
 have lQ:=hs.le;have i5:=hl.le;go_enter Tryz.func43,Tryz.ntmps43;go_wp2_with fail
 refine (x5 s hs _).mono ?_;rintro en w1 ⟨v1,rfl,rW,lE⟩;have z1:=rW.size;rw [zK,zK] at z1;obtain ⟨a1,c1,e1⟩:=kP lE;have E1:=n7 e1;have aB:Below w.heap.size w w1:=(((rZ w.heap.size w).alloc (n9 _) _).alloc (by simp) _).trans (rW.mono (by simp;omega));have Am:w.heap.size<w1.heap.size:=by omega
 have tg:w.heap.size+1<w1.heap.size:=by omega
 have r0:w1.cell? ⟨w.heap.size,0,none⟩=some (.slice none 0 0):=by rw [rW.cell (by simp only [zK];omega)];exact zV (by simp)
 have tF:w1.frozen? ⟨w.heap.size,0,none⟩=false:=by
  rw [rW.frozen (by simp only [zK];omega)];rw [PB (w:=w.alloc (.cells #[.slice none 0 0] 42)) (Below.heap_alloc _ _ _ (by simp))];simp
 have hN:kU (w.heap.size+1) 0 (.slice none 0 0) (.slice none 0 0) w1:=by
  unfold kU;rw [rW.block _ (by simp)];have:=zG (w.alloc (.cells #[.slice none 0 0] 42)) (.cells #[str [],.int .i64 0,.slice none 0 0,.slice none 0 0] 47);rw [zK] at this;exact this
 subst e1;have DW:Rep (w.heap.size+1 < ·) w1 (k9 (zR s).1) (.slice a1 (zR s).1.args.length c1):=(Rep.keep fun b o h ho=>⟨by have:=xt h;rw [zK] at this;omega,ho⟩).1 _ _ lE
 have HS:Hid (kE s text=if (zR s).2=false\/2000<text.length then none else
  match rdN 101 (zR s).1.args text with
  | none=>none
  | some (b,rest)=>if rest=[]/\zU b<=200 then some b else none):=rfl
 have Ge:=n7 (vV (l:=s));generalize hT:(zR s).1=t at *;generalize hO:(zR s).2=ok at *;have HT:=n7 hT;clear hT hO lE;obtain ⟨q0,q1,q2,q3,ql,qf⟩:=hN.cells;have qf0:=qf 0;have qf1:=qf 1;have FS:=qf 2;have Kh:=qf 3;clear qf;by_cases tS:ok=true/\text.length<=2000;rotate_left
 ·have hn:kE s text=none:=by
   rw [HS.out,if_pos];cases ok with
   | false=>exact .inl rfl
   | true=>exact .inr (by simp at tS;omega)
  have HN:=n7 hn;clear hn;have tS:ok=false\/(ok=true/\(2000:Int)<(text.length:Int)):=by
   cases ok with
   | false=>exact .inl rfl
   | true=>exact .inr ⟨rfl,by simp at tS;omega⟩
  have h0:kU (w.heap.size+1) 0 (.slice none 0 0) (.slice none 0 0) (w1.setCell ⟨w.heap.size,0,none⟩ (.slice a1 t.args.length c1)):=by
   unfold kU;rw [rK _ _ _ _ (by simp)];exact hN
  obtain ⟨W,hW,s0,s1,s2,s3,rF,ri⟩:=h0.store (.string ⟨#[]⟩) (.int .i64 0) (.slice none 0 0) (.slice none 0 0);have t0:W.cell? ⟨w.heap.size,0,none⟩=some (.slice a1 t.args.length c1):=pj (vD r0 _) fun x hx=>ri _ x (by simp) hx;have Ah:=rF _ _ (aB.setCell (p:=⟨w.heap.size,0,none⟩) (n9 _) (.slice a1 t.args.length c1)) (by omega);have E3:Rep (w.heap.size<=·) W (k9 t) (.slice a1 t.args.length c1):=(Rep.keep fun b o h ho=>⟨by omega,ri b o (by omega) (by rw [rK _ _ _ _ (by simp;omega)];exact ho)⟩).1 _ _ DW
  have FIN:Hid (∀ o,vN s text w (.returned (.tuple #[.agg #[.slice a1 t.args.length c1],.agg #[str [],.int .i64 0,.slice none 0 0,.slice none 0 0],.bool false])) (W.alloc o)):=fun o =>
   vN.no (a:=a1) (c:=c1) (by rw [HT.out]) rfl HN.out (Ah.alloc Ah.size o) (by rw [HT.out];exact (Rep.keep fun b o h ho=>⟨h,zY ho⟩).1 _ _ E3)
  have HW:=n7 hW;clear h0 hW rF ri Ah E3;rcases tS with rfl | ⟨rfl,h⟩
  all_goals
   go_wp2_with fail
   rw [<- HW.out];refine bodyPost_ret (v:=.tuple #[.agg #[.slice a1 t.args.length c1],.agg #[str [],.int .i64 0,.slice none 0 0,.slice none 0 0],.bool false]) (by simp [results,R6,go_sem,zV t0,zV s0,zV s1,zV s2,zV s3]) rfl ?_;exact FIN.out _
 obtain ⟨rfl,Hh⟩:=tS;have htl':¬ (2000:Int)<(text.length:Int):=by omega
 have rX:=Ge.out rfl
 have hm:kE s text=(match rdN 101 t.args text with
  | none=>none
  | some (b,rest)=>if rest=[]/\zU b<=200 then some b else none):=by rw [HS.out,if_neg (by simp;omega)]
 have HM:=n7 hm;clear hm HS Ge;have hvE:=DW;rw [jQ] at hvE;have hho:=dA rX;go_wp2_with fail
 refine (l3Read_any text hl 101 0 rfl (w.heap.size+1 < ·) t.args _ 0 _ (OS _) hho (by exact (Rep.keep fun b o h ho=>⟨h,zY ho⟩).1 _ _ hvE)).mono ?_;rw [List.drop_zero];rintro en w2 ⟨s',v',a2,n2,c2,a3,n3,c3,k,rfl,rY,iU,lD⟩;have z2:=rY.size;rw [zK] at z2;have DL:Below w.heap.size w w2:=(aB.alloc (by omega) _).trans (rY.mono (by rw [zK];omega));have r0':w2.cell? ⟨w.heap.size,0,none⟩=some (.slice none 0 0):=by rw [rY.cell (by rw [zK];simp only;omega)];exact zV r0
 have rf0':w2.frozen? ⟨w.heap.size,0,none⟩=false:=by rw [rY.frozen (by rw [zK];simp only;omega)];rw [PB (w:=w1) (Below.heap_alloc _ _ _ Am)];exact tF
 have hN':kU (w.heap.size+1) 0 (.slice none 0 0) (.slice none 0 0) w2:=by
  unfold kU;rw [rY.block _ (by rw [zK];omega)];exact zY hN
 have GT:w2.cell? ⟨w1.heap.size,0,none⟩=some (.slice a1 t.args.length c1):=by rw [rY.cell (by rw [zK];simp only;omega)];simp
 have Hg:Rep (w.heap.size+1 < ·) w2 (k9 t) (.slice a1 t.args.length c1):=(Rep.keep fun b o h ho=>⟨h,by rw [rY.block b (by have:=zZ ho;rw [zK];omega)];exact zY ho⟩).1 _ _ DW;clear r0 tF hN q0 q1 q2 q3 ql qf0 qf1 FS Kh hvE DW hho;obtain ⟨q0,q1,q2,q3,ql,qf⟩:=hN'.cells;have qf0:=qf 0;have qf1:=qf 1;have FS:=qf 2;have Kh:=qf 3;clear qf;have y1:w.heap.size<w2.heap.size:=by omega
 have y2:w1.heap.size<w2.heap.size:=by omega
 have rh:=n7 rY;clear rY;by_cases hk:k=(text.length:Int);rotate_left
 ·have g1:(k == (text.length:Int))=false:=by rw [beq_eq_false_iff_ne];exact hk
  have hn:kE s text=none:=by
   rw [HM.out];cases hq:rdN 101 t.args text with
   | none=>rfl
   | some x =>
     obtain ⟨b,rest⟩:=x;have h1:=(lD b rest hq).1;simp only;rw [if_neg];rintro ⟨rfl,_⟩;exact hk (by rw [h1];simp)
  have HN:=n7 hn;clear hn hk iU lD;have h0:kU (w.heap.size+1) 0 (.slice none 0 0) (.slice none 0 0) (w2.setCell ⟨w.heap.size,0,none⟩ (.slice a1 t.args.length c1)):=by
   unfold kU;rw [rK _ _ _ _ (by simp)];exact hN'
  obtain ⟨W,hW,s0,s1,s2,s3,rF,ri⟩:=h0.store (str s') (.int .i64 v') (.slice a2 n2 c2) (.slice a3 n3 c3);have t0:W.cell? ⟨w.heap.size,0,none⟩=some (.slice a1 t.args.length c1):=pj (vD r0' _) fun x hx=>ri _ x (by simp) hx;have Ah:=rF _ _ (DL.setCell (p:=⟨w.heap.size,0,none⟩) (n9 _) (.slice a1 t.args.length c1)) (by omega);have E3:Rep (w.heap.size<=·) W (k9 t) (.slice a1 t.args.length c1):=(Rep.keep fun b o h ho=>⟨by omega,ri b o (by omega) (by rw [rK _ _ _ _ (by simp;omega)];exact ho)⟩).1 _ _ Hg
  have FIN:Hid (∀ o,vN s text w (.returned (.tuple #[.agg #[.slice a1 t.args.length c1],.agg #[str s',.int .i64 v',.slice a2 n2 c2,.slice a3 n3 c3],.bool false])) (W.alloc o).drew):=fun o =>
   vN.no (a:=a1) (c:=c1) (by rw [HT.out]) rfl HN.out ((Ah.alloc Ah.size o).drew) (by rw [HT.out];exact ((Rep.keep fun b o h ho=>⟨h,zY ho⟩).1 _ _ E3).drew)
  have HW:=n7 hW;clear h0 hW rF ri Ah E3;go_wp2_with fail
  go_region
  go_wp2_with fail
  rw [<- HW.out];refine bodyPost_ret (v:=.tuple #[.agg #[.slice a1 t.args.length c1],.agg #[str s',.int .i64 v',.slice a2 n2 c2,.slice a3 n3 c3],.bool false]) (by simp [results,R6,go_sem,zV t0,zV s0,zV s1,zV s2,zV s3]) rfl ?_;exact FIN.out _
 obtain ⟨b,hqb⟩:∃ b,rdN 101 t.args text=some (b,[]):=by
  cases hq:rdN 101 t.args text with
  | none=>have:=iU hq;omega
  | some x =>
    obtain ⟨b,rest⟩:=x;have h1:=(lD b rest hq).1;have:rest.length=0:=by omega
    rw [OQ this];exact ⟨b,rfl⟩
 have hrB:=(lD b [] hqb).2;have hsz:=rdN_size 101 hqb;have hm:kE s text=if zU b<=200 then some b else none:=by
  rw [HM.out,hqb];simp
 have HM:=n7 hm;have hlB:Lim (zU b):=hl.mono (by simp at hsz;omega);have g1:(k == (text.length:Int))=true:=by rw [beq_iff_eq];exact hk
 clear hm hqb iU lD hsz;have HK:=n7 hk;clear hk
 have hrA:zW (w.heap.size+1 < ·) (w2.alloc (.cells #[str s',.int .i64 v',.slice a2 n2 c2,.slice a3 n3 c3] 47)) (kx b) [str s',.int .i64 v',.slice a2 n2 c2,.slice a3 n3 c3] :=
  (Rep.keep fun b o h ho=>⟨by have:=xt h;omega,zY ho⟩).2 _ _ hrB
 have hTA:(w2.alloc (.cells #[str s',.int .i64 v',.slice a2 n2 c2,.slice a3 n3 c3] 47)).cell? ⟨w1.heap.size,0,none⟩=some (.slice a1 t.args.length c1):=zV GT;have n0:(w2.alloc (.cells #[str s',.int .i64 v',.slice a2 n2 c2,.slice a3 n3 c3] 47)).cell? ⟨w2.heap.size,0,none⟩=some (str s'):=by simp
 have n1:(w2.alloc (.cells #[str s',.int .i64 v',.slice a2 n2 c2,.slice a3 n3 c3] 47)).cell? ⟨w2.heap.size,1,none⟩=some (.int .i64 v'):=by simp
 have AU:(w2.alloc (.cells #[str s',.int .i64 v',.slice a2 n2 c2,.slice a3 n3 c3] 47)).cell? ⟨w2.heap.size,2,none⟩=some (.slice a2 n2 c2):=by simp
 have Cc:(w2.alloc (.cells #[str s',.int .i64 v',.slice a2 n2 c2,.slice a3 n3 c3] 47)).cell? ⟨w2.heap.size,3,none⟩=some (.slice a3 n3 c3):=by simp
 have Ga:KeepS w1.heap.size w2.heap.size (.slice a1 t.args.length c1) (str s') (.int .i64 v') (.slice a2 n2 c2) (.slice a3 n3 c3) (w2.alloc (.cells #[str s',.int .i64 v',.slice a2 n2 c2,.slice a3 n3 c3] 47)):=⟨hTA,n0,n1,AU,Cc⟩;have hK3d:KeepS w1.heap.size w2.heap.size (.slice a1 t.args.length c1) (str s') (.int .i64 v') (.slice a2 n2 c2) (.slice a3 n3 c3) (w2.alloc (.cells #[str s',.int .i64 v',.slice a2 n2 c2,.slice a3 n3 c3] 47)).drew:=Ga;have Cb:w1.heap.size≠w.heap.size:=by omega
 have FT:w2.heap.size≠w.heap.size:=by omega
 have lZ:w1.heap.size≠w.heap.size+1:=by omega
 have il:w2.heap.size≠w.heap.size+1:=by omega
 clear hTA n0 n1 AU Cc;go_wp2_with fail
 go_region_held3 (fun w'=>w'.cell? ⟨w1.heap.size,0,none⟩=some (.slice a1 t.args.length c1)/\w'.cell? ⟨w2.heap.size,0,none⟩=some (str s')/\w'.cell? ⟨w2.heap.size,1,none⟩=some (.int .i64 v')/\w'.cell? ⟨w2.heap.size,2,none⟩=some (.slice a2 n2 c2)/\w'.cell? ⟨w2.heap.size,3,none⟩=some (.slice a3 n3 c3))
  (first
   | with_reducible exact Ga
   | with_reducible exact hK3d
   | with_reducible exact AL
   | with_reducible exact AL.set _ _ _ Cb FT
   | with_reducible exact (AL.set _ _ _ Cb FT).set _ _ _ lZ il
   | with_reducible exact ((AL.set _ _ _ Cb FT).set _ _ _ lZ il).set _ _ _ lZ il
   | with_reducible exact (((AL.set _ _ _ Cb FT).set _ _ _ lZ il).set _ _ _ lZ il).set _ _ _ lZ il
   | with_reducible exact ((((AL.set _ _ _ Cb FT).set _ _ _ lZ il).set _ _ _ lZ il).set _ _ _ lZ il).set _ _ _ lZ il
   | with_reducible exact AL.set _ _ _ lZ il
   | with_reducible exact (AL.set _ _ _ lZ il).set _ _ _ lZ il
   | with_reducible exact ((AL.set _ _ _ lZ il).set _ _ _ lZ il).set _ _ _ lZ il
   | with_reducible exact (((AL.set _ _ _ lZ il).set _ _ _ lZ il).set _ _ _ lZ il).set _ _ _ lZ il
   | with_reducible exact ((((AL.set _ _ _ lZ il).set _ _ _ lZ il).set _ _ _ lZ il).set _ _ _ lZ il).set _ _ _ Cb FT)
  (first
   | (go_at_call 34;refine (cu (zU b) b (n9 _) hlB (w.heap.size+1 < ·) _ _ _ _ _ _ _ _ _ (by exact hrA.drew)).mono ?_;rintro en w5 ⟨rfl,rx⟩;have AL:KeepS w1.heap.size w2.heap.size (.slice a1 t.args.length c1) (str s') (.int .i64 v') (.slice a2 n2 c2) (.slice a3 n3 c3) w5:=⟨(rx.cell (by simp;omega)).trans Ga.1,(rx.cell (by simp)).trans Ga.2.1,(rx.cell (by simp)).trans Ga.2.2.1,(rx.cell (by simp)).trans Ga.2.2.2.1,(rx.cell (by simp)).trans Ga.2.2.2.2⟩;have z5:=rx.size;have hz5:w.heap.size<w5.heap.size:=(by simp at z5;omega);have r5:w5.cell? ⟨w.heap.size,0,none⟩=some (.slice none 0 0):=(rx.cell (by simp;omega)).trans (zV r0');have f5:w5.frozen? ⟨w.heap.size,0,none⟩=false:=(rx.frozen (by simp;omega)).trans ((PB (w:=w2) (Below.heap_alloc _ _ _ y1)).trans rf0');have hN5:kU (w.heap.size+1) 0 (.slice none 0 0) (.slice none 0 0) w5:=(by unfold kU;rw [rx.block _ (by simp;omega)];exact zY hN');obtain ⟨p0,p1,p2,p3,pl,pf⟩:=hN5.cells;have pf0:=pf 0;have pf1:=pf 1;have pf2:=pf 2;have pf3:=pf 3;clear pf))
 go_wp2_with fail
 have h0:kU (w.heap.size+1) 0 (.slice none 0 0) (.slice none 0 0) (w5.setCell ⟨w.heap.size,0,none⟩ (.slice a1 t.args.length c1)):=by
  unfold kU;rw [rK _ _ _ _ (by simp)];exact hN5
 obtain ⟨W,hW,s0,s1,s2,s3,rF,ri⟩:=h0.store (str s') (.int .i64 v') (.slice a2 n2 c2) (.slice a3 n3 c3);have t0:W.cell? ⟨w.heap.size,0,none⟩=some (.slice a1 t.args.length c1):=pj (vD r5 _) fun x hx=>ri _ x (by simp) hx;have lm:Below w2.heap.size w2 w5:=((((rZ _ _).alloc (n9 _) _).drew).trans (rx.mono (by simp)));have KG:=zzT DL lm;have Ah:=rF _ _ (KG.setCell (p:=⟨w.heap.size,0,none⟩) (n9 _) (.slice a1 t.args.length c1)) (by omega)
 have keepF:∀ i o,w.heap.size+1<i->w2.heap[i]? = some o->W.heap[i]? = some o:=fun i o h ho =>
  ri i o (by omega) (by rw [rK _ _ _ _ (by simp;omega),lm.block i (zZ ho)];exact ho)
 have E3:Rep (w.heap.size<=·) W (k9 t) (.slice a1 t.args.length c1):=(Rep.keep fun b o h ho=>⟨by omega,keepF b o h ho⟩).1 _ _ Hg;have hrN:zW (w.heap.size<=·) W (kx b) [str s',.int .i64 v',.slice a2 n2 c2,.slice a3 n3 c3]:=(Rep.keep fun b o h ho=>⟨by have:=xt h;omega,keepF b o (by have:=xt h;omega) ho⟩).2 _ _ hrB;rw [<- hW];refine bodyPost_ret (v:=.tuple #[.agg #[.slice a1 t.args.length c1],.agg #[str s',.int .i64 v',.slice a2 n2 c2,.slice a3 n3 c3],.bool (decide ((zU b:Int)<=200))]) (by simp [results,R6,go_sem,t0,s0,s1,s2,s3]) rfl ?_;by_cases iY:zU b<=200
 ·refine vN.yes (a:=a1) (c:=c1) (by rw [HT.out]) (by rw [decide_eq_true_eq];omega) (by rw [HM.out,if_pos iY]) Ah (by rw [HT.out];exact E3) hrN
 ·exact vN.no (a:=a1) (c:=c1) (by rw [HT.out]) (by rw [decide_eq_false_iff_not];omega) (by rw [HM.out,if_neg iY]) Ah (by rw [HT.out];exact E3)
theorem pI (c:UInt8):dig c=true↔48<=c.toNat/\c.toNat<=57:=by
 simp [dig,PM]
theorem uV {k:Nat} (h:k<10):(RQ (48+k)).toNat=48+k:=by
 rw [UInt8.toNat_ofNat'];exact Nat.mod_eq_of_lt (by omega)
theorem decDigits_dig (u:Nat):∀ c∈Pf u,dig c=true:=by
 induction u using Qn with
 | _ u ih =>
   intro c hc;rw [Pf] at hc;split at hc
   ·rename_i h;rw [SF] at hc;subst hc;rw [pI,uV h];omega
   ·rename_i h;rcases List.mem_append.1 hc with hc | hc
    ·exact ih _ (by omega) c hc
    ·simp only [SF] at hc;subst hc;rw [pI,uV (by omega)];omega
theorem decDigits_val (u:Nat):jv (Pf u)=u:=by
 induction u using Qn with
 | _ u ih =>
   rw [Pf];split
   ·rename_i h;show 10*0+((RQ (48+u)).toNat-48)=u;rw [uV h];omega
   ·rename_i h;rw [pW,ih _ (by omega),uV (by omega)];omega
theorem db (u:Nat):Pf u≠[]:=by
 intro h;have:=SC u;have:=Lib.nDigits_pos u;rw [h] at *;simp at *;omega
theorem nM (u:Nat) (h1:1<=u):(Pf u).head?≠some 48:=by
 induction u using Qn with
 | _ u ih =>
   rw [Pf];split
   ·rename_i h;intro e;rw [List.head?_cons,Option.some.injEq] at e;have:=uV h;rw [e] at this;have DO:(48:UInt8).toNat=48:=rfl;omega
   ·rename_i h;rw [SL];have:=ih (u / 10) (by omega) (by omega);have hne:=db (u / 10);cases hd:Pf (u / 10) with
    | nil=>exact absurd hd hne
    | cons x xs=>rw [hd] at this;simpa using this
theorem fe {u:Nat} (h:u<10000):(Pf u).length<=4:=by
 rw [SC];by_cases h1:u<10
 ·rw [QQ h1];omega
 rw [R0 h1];by_cases h2:u / 10<10
 ·rw [QQ h2];omega
 rw [R0 h2];by_cases h3:u / 10 / 10<10
 ·rw [QQ h3];omega
 rw [R0 h3];rw [QQ (by omega)];omega
theorem fold_ge (l:Bs):∀ a:Nat,a<=l.foldl (fun n c=>10*n+(c.toNat-48)) a:=by
 induction l with
 | nil=>intro a;simp
 | cons c cs ih=>intro a;simp only [R7];have:=ih (10*a+(c.toNat-48));omega
theorem valOf_pos {l:Bs} (hd:∀ c∈l,dig c=true) (hn:l≠[]) (DO:l.head?≠some 48):1<=jv l:=by
 cases l with
 | nil=>exact absurd rfl hn
 | cons c cs =>
   have h1:=(pI c).1 (hd c (by simp));have h2:c.toNat≠48:=fun e=>DO (by simp;exact SS.1 (by simpa using e));have:=fold_ge cs (10*0+(c.toNat-48));show 1<=cs.foldl _ (10*0+(c.toNat-48));omega
theorem dm (n:Nat):∀ w:Bs,w.length=n->w≠[]->(∀ c∈w,dig c=true)->(1<w.length->w.head?≠some 48)->Pf (jv w)=w:=by
 induction n with
 | zero=>intro w hl hn;exact absurd (OQ hl) hn
 | succ n ih =>
   intro w hl hn hd hh;obtain ⟨ws,c,rfl⟩:∃ ws c,w=ws++[c]:=⟨w.dropLast,w.getLast hn,(List.dropLast_concat_getLast hn).symm⟩;have hc:=(pI c).1 (hd c (by simp));have hof:RQ (48+(c.toNat-48))=c:=by
    apply SS.1;rw [uV (by omega)];omega
   rw [pW];by_cases Lu:ws=[]
   ·subst Lu;show Pf (10*0+(c.toNat-48))=[c];rw [SU (by omega),show 48+(10*0+(c.toNat-48))=48+(c.toNat-48) from by omega,hof]
   ·have oH:1<=ws.length:=by cases ws with
     | nil=>exact absurd rfl Lu
     | cons x xs=>simp
    have DO:ws.head?≠some 48:=by
     have:=hh (by simp;omega);rw [SL] at this;cases ws with
     | nil=>exact absurd rfl Lu
     | cons x xs=>simpa using this
    have hdw:∀ x∈ws,dig x=true:=fun x hx=>hd x (by simp [hx]);have hp:=valOf_pos hdw Lu DO;have hi:=ih ws (by simpa using hl) Lu hdw (fun _=>DO);rw [Pf,dif_neg (by omega),show (10*jv ws+(c.toNat-48)) / 10=jv ws from by omega,show (10*jv ws+(c.toNat-48)) % 10=c.toNat-48 from by omega,hi,hof]
theorem decFrom_of (l:Bs):∀ a:Nat,(∀ c∈l,dig c=true)->Ut a l=some (l.foldl (fun n c=>10*n+(c.toNat-48)) a):=by
 induction l with
 | nil=>intro a _;rfl
 | cons c cs ih =>
   intro a hd;have hc:=(pI c).1 (hd c (by simp));simp only [Ut,Lib.digitVal,if_pos hc,R7];rw [Nat.mul_comm a 10];exact ih _ fun x hx=>hd x (by simp [hx])
theorem lvl_spec {w:Bs} {n v:Nat} (h:lvl w n=some v) (hn:n<=10000):w≠[]/\w.length<=4/\(∀ c∈w,dig c=true)/\(1<w.length->w.head?≠some 48)/\jv w=v/\v<n:=by
 obtain ⟨h1,_,h3⟩:=lvl_lt h;have e:PU (v:Int)=Pf v:=by unfold PU;rw [if_neg (by omega)];simp
 rw [e] at h3;subst h3;refine ⟨db v,fe (by omega),decDigits_dig v,fun hl=>?_,decDigits_val v,h1⟩;refine nM v ?_;rcases Nat.eq_zero_or_pos v with h0 | h0
 ·subst h0;rw [SU (by omega)] at hl;simp at hl
 ·exact h0
theorem spec_lvl {w:Bs} {n:Nat} (h1:w≠[]) (h2:w.length<=4) (h3:∀ c∈w,dig c=true) (h4:1<w.length->w.head?≠some 48) (h5:jv w<n):lvl w n=some (jv w):=by
 have ha:Lib.atoiAll w=.ok (jv w:Int):=by
  rw [Lib.atoiAll_short w (by omega)];cases w with
  | nil=>exact absurd rfl h1
  | cons c cs =>
    have hc:=(pI c).1 (h3 c (by simp));have n45:(c == 45)=false:=by rw [beq_eq_false_iff_ne];rintro rfl;have:(45:UInt8).toNat=45:=rfl;omega
    have n43:(c == 43)=false:=by rw [beq_eq_false_iff_ne];rintro rfl;have:(43:UInt8).toNat=43:=rfl;omega
    simp only [Lib.atoi,n45,n43,Bool.false_eq_true,if_false,Lib.decNat,List.isEmpty_cons];rw [decFrom_of _ 0 h3];rfl
 have hi:PU (jv w:Int)=w:=by
  have e:PU (jv w:Int)=Pf (jv w):=by unfold PU;rw [if_neg (by omega)];simp
  rw [e,dm w.length w rfl h1 h3 h4]
 unfold lvl;rw [ha];simp only;rw [if_pos ⟨hi,by omega,by omega⟩];simp
def jS (l:Bs):Prop:=l=[]\/∃ c r,l=c::r/\sep c=true
theorem mK {c:UInt8} (h:dig c=true):sep c=false:=by
 have:=(pI c).1 h;rw [Bool.eq_false_iff];intro hs;simp only [sep,Bool.or_eq_true,beq_iff_eq] at hs;rcases hs with (rfl | rfl) | rfl
 ·have:(32:UInt8).toNat=32:=rfl;omega
 ·have:(40:UInt8).toNat=40:=rfl;omega
 ·have:(41:UInt8).toNat=41:=rfl;omega
theorem v8 (l:Bs):l=zN l++zD l:=(List.takeWhile_append_dropWhile).symm
theorem wordDrop (l:Bs):l.drop (zN l).length=zD l:=by
 have h:=v8 l;generalize zN l=a at *;generalize zD l=b at *;subst h;simp
theorem gZ (l:Bs):jS (zD l):=by
 unfold zD
 induction l with
 | nil=>exact .inl rfl
 | cons c cs ih =>
   rw [List.dropWhile_cons];split
   ·exact ih
   ·rename_i h;exact .inr ⟨c,cs,rfl,by simpa using h⟩
theorem hG {w rest:Bs} (hw:∀ c∈w,sep c=false) (hr:jS rest):zN (w++rest)=w/\zD (w++rest)=rest:=by
 unfold zN zD
 induction w with
 | nil =>
   rcases hr with rfl | ⟨c,r,rfl,hc⟩
   ·exact ⟨rfl,rfl⟩
   ·simp [hc]
 | cons x xs ih =>
   have hx:=hw x (by simp);have:=ih fun c hc=>hw c (by simp [hc]);simp [hx,this.1,this.2]
theorem digsOf_of {w rest:Bs} (hw:∀ c∈w,dig c=true) (hl:w.length<=4) (hr:jS rest):qD (w++rest)=w:=by
 unfold qD;rw [List.take_append,Qp hl];have key:(rest.take (4-w.length)).takeWhile dig=[]:=by
  rcases hr with rfl | ⟨c,r,rfl,hc⟩
  ·simp
  ·cases 4-w.length with
   | zero=>rfl
   | succ k =>
     rw [PE,List.takeWhile_cons,if_neg];intro h;rw [mK h] at hc;simp at hc
 rw [List.takeWhile_append_of_pos (fun c hc=>hw c hc),key,OY]
theorem yD {c:UInt8} {r:Bs}:cut [c] (c::r)=some r:=by simp [cut,Qh]
theorem eG (rd:RdS) (hs gs:List (List Ty)):∀ {l:Bs} {bs:List Bd} {l1:Bs} {cs:List Bd} {l2:Bs},zF rd hs l=some (bs,l1)->zF rd gs l1=some (cs,l2)->zF rd (hs++gs) l=some (bs++cs,l2):=by
 induction hs with
 | nil=>intro l bs l1 cs l2 h k;simp [zF] at h;obtain ⟨rfl,rfl⟩:=h;simpa using k
 | cons h' hs ih =>
   intro l bs l1 cs l2 h k;simp only [zF,Ow,N0,Prod.exists] at h;obtain ⟨b,m,h1,bs',m',h2,h3⟩:=h;simp at h3;obtain ⟨rfl,rfl⟩:=h3;simp only [ON,zF,Ow,h1,Lx,ih h2 k]
def RdFits (rd:Rd) (rs:RdS) (h:List Ty):Prop:=∀ (left:Nat) (l:Bs) (b:Bd) (r:Bs) (f:Nat),rd h left l=some (b,r,f)->rs h l=some (b,r)/\f+zU b=left/\l.length+1<=r.length+7*zU b
theorem parts_fit {rd:Rd} {rs:RdS} (hs:List (List Ty)) (hf:∀ h∈hs,RdFits rd rs h):∀ {left:Nat} {l:Bs} {bs:List Bd} {r:Bs} {f:Nat},qZ rd hs left l=some (bs,r,f)->zF rs hs l=some (bs,r)/\f+zE bs=left/\l.length<=r.length+7*zE bs:=by
 induction hs with
 | nil=>intro left l bs r f h;simp [qZ] at h;obtain ⟨rfl,rfl,rfl⟩:=h;simp [zF,zE]
 | cons h' hs ih =>
   intro left l bs r f h;simp only [qZ,Ow,N0,Prod.exists] at h;obtain ⟨l1,h1,b,l2,f2,h2,bs',l3,f3,h3,h4⟩:=h;simp at h4;obtain ⟨rfl,rfl,rfl⟩:=h4;obtain ⟨a1,a2,a3⟩:=hf h' (by simp) _ _ _ _ _ h2;obtain ⟨b1,b2,b3⟩:=ih (fun x hx=>hf x (by simp [hx])) h3;have hc:=uX h1;refine ⟨?_,by simp [zE];omega,by subst hc;simp [zE];omega⟩;simp only [zF,qB,h1,Ow,Lx,a1,b1]
theorem mY {l:Bs} {c:UInt8} (h:zN l=[c]):l=c::zD l:=by
 have:=v8 l;rw [h] at this;simpa using this
theorem specNum_of {w rest:Bs} (h1:w≠[]) (h2:w.length<=4) (h3:∀ c∈w,dig c=true) (h4:1<w.length->w.head?≠some 48) (hr:jS rest):jF (w++rest)=some (jv w,w.length):=by
 unfold jF;rw [digsOf_of h3 h2 hr,if_neg];rintro (h | ⟨h,h'⟩)
 ·exact h1 h
 ·apply h4 h;cases w with
  | nil=>exact absurd rfl h1
  | cons x xs=>simpa using h'
theorem rdB_fits (d:Nat):∀ levels,jC d levels->RdFits (rdB d) (rdN (d+1)) levels:=by
 induction d with
 | zero =>
   intro levels hh left l b r f h;rcases left with _ | left
   ·simp [rdB] at h
   rcases kM [40] l with h1 | ⟨r1,h1⟩
   ·rw [dP 0 levels left h1.out] at h;have key:∀ c:UInt8,(c=116\/c=102\/c=117)->zN l=[c]->rdN 1 levels l=some (.leaf c,zD l)/\left+zU (.leaf c)=left+1/\l.length+1<=(zD l).length+7*zU (.leaf c):=by
     intro c hc hw;have e:=mY hw;refine ⟨?_,rfl,?_⟩
     ·conv=>lhs;rw [e]
      simp only [rdN,if_pos hc]
     ·have:=congrArg PY e;simp at this;simp [zU];omega
    split at h
    ·rename_i hw;simp at h;obtain ⟨rfl,rfl,rfl⟩:=h;exact key _ (by decide) hw
    ·split at h
     ·rename_i hw;simp at h;obtain ⟨rfl,rfl,rfl⟩:=h;exact key _ (by decide) hw
     ·split at h
      ·rename_i hw;simp at h;obtain ⟨rfl,rfl,rfl⟩:=h;exact key _ (by decide) hw
      ·simp at h
   ·rw [dG 0 levels left h1.out] at h;cases hv:lvl (zN r1) levels.length with
    | none=>rw [hv] at h;simp at h
    | some v=>rw [hv] at h;simp at h
 | succ d ih =>
   intro levels hh left l b r f h;rcases left with _ | left
   ·simp [rdB] at h
   rcases kM [40] l with h1 | ⟨r1,h1⟩
   ·rw [dP (d+1) levels left h1.out] at h;have key:∀ c:UInt8,(c=116\/c=102\/c=117)->zN l=[c]->rdN (d+1+1) levels l=some (.leaf c,zD l)/\left+zU (.leaf c)=left+1/\l.length+1<=(zD l).length+7*zU (.leaf c):=by
     intro c hc hw;have e:=mY hw;refine ⟨?_,rfl,?_⟩
     ·conv=>lhs;rw [e]
      simp only [rdN,if_pos hc]
     ·have:=congrArg PY e;simp at this;simp [zU];omega
    split at h
    ·rename_i hw;simp at h;obtain ⟨rfl,rfl,rfl⟩:=h;exact key _ (by decide) hw
    ·split at h
     ·rename_i hw;simp at h;obtain ⟨rfl,rfl,rfl⟩:=h;exact key _ (by decide) hw
     ·split at h
      ·rename_i hw;simp at h;obtain ⟨rfl,rfl,rfl⟩:=h;exact key _ (by decide) hw
      ·simp at h
   ·rw [dG (d+1) levels left h1.out] at h;cases hv:lvl (zN r1) levels.length with
    | none=>rw [hv] at h;simp at h
    | some v =>
      rw [hv] at h;simp only at h;cases ht:levels[v]? with
      | none=>rw [ht] at h;simp at h
      | some t =>
        rw [ht] at h;simp only [mx,Ow,N0,Prod.exists] at h;obtain ⟨ss,l1,f1,h2,yn,l2,f2,h3,h4⟩:=h;have hl:levels.length<=10000:=by have:=hh.2;omega
        obtain ⟨w1,w2,w3,w4,w5,w6⟩:=lvl_spec hv hl;split at h4
        ·rename_i y n;simp only [N0] at h4;obtain ⟨l3,h5,h6⟩:=h4;simp at h6;obtain ⟨rfl,rfl,rfl⟩:=h6;have k1:=parts_fit (rs:=rdN (d+1)) (t.args.map fun a=>levels++a.args) (fun x hx=>by
          obtain ⟨a,ha,rfl⟩:=Tv.1 hx;exact ih _ (hh.next ht ha)) h2
         have ik:jC d levels:=by have:=hh.same;rwa [OY] at this
         have k2:=parts_fit (rs:=rdN (d+1)) [levels,levels] (fun x hx=>by
          have:x=levels:=by simpa using hx
          subst this;exact ih _ ik) h3
         have hln:=(pB (my d) _ h2).2.2;rw [List.length_map] at hln;have hc:=uX h5;have aH:=uX h1.out;have hw:=v8 r1;have Gv:=specNum_of (rest:=zD r1) w1 w2 w3 w4 (gZ r1);rw [<- hw,w5] at Gv;have t6:zF (rdN (d+1)) (jJ levels t) (zD r1)=some (ss++[y,n],l2):=eG _ _ _ k1.1 k2.1;refine ⟨?_,?_,?_⟩
         ·conv=>lhs;rw [aH]
          rw [rdN];rw [if_neg (by decide),if_neg (by decide),Gv];simp only [ht];rw [wordDrop];simp only [t6,Ow,Lx,h5,wH];rw [S0 hln,S4 hln];rfl
         ·have a1:=k1.2.1;have a2:=k2.2.1;simp [zU,zE] at a1 a2 ⊢;omega
         ·have a1:=k1.2.2;have a2:=k2.2.2;have oH:=congrArg PY hw;have B5:=congrArg PY hc;have hc1l:=congrArg PY aH;simp [zU,zE] at a1 a2 oH B5 hc1l ⊢;omega
        ·simp at h4
theorem xS {rs:RdS} {hs:List (List Ty)} {l:Bs} {ps:List Bd} {r:Bs} (h:zF rs hs l=some (ps,r)) (hr:jS r):jS l:=by
 cases hs with
 | nil=>simp [zF] at h;obtain ⟨_,rfl⟩:=h;exact hr
 | cons h' hs =>
   simp only [zF,qB,Ow,N0,Prod.exists] at h;obtain ⟨_,_,⟨l1,h1,_⟩,_⟩:=h;have:=uX h1;exact .inr ⟨32,l1,this,rfl⟩
def RdBack (rd:Rd) (rs:RdS) (h:List Ty):Prop:=∀ (left:Nat) (l:Bs) (b:Bd) (r:Bs),rs h l=some (b,r)->jS r->zU b<=left->rd h left l=some (b,r,left-zU b)
theorem mw {rd:Rd} {rs:RdS} (hs:List (List Ty)) (hf:∀ h∈hs,RdBack rd rs h):∀ (left:Nat) (l:Bs) (ps:List Bd) (r:Bs),zF rs hs l=some (ps,r)->jS r->zE ps<=left->qZ rd hs left l=some (ps,r,left-zE ps):=by
 induction hs with
 | nil=>intro left l ps r h _ _;simp [zF] at h;obtain ⟨rfl,rfl⟩:=h;simp [qZ,zE]
 | cons h' hs ih =>
   intro left l ps r h hr hsz;simp only [zF,qB,Ow,N0,Prod.exists] at h;obtain ⟨b,l2,⟨l1,h1,h2⟩,bs,l3,h3,h4⟩:=h;simp at h4;obtain ⟨rfl,rfl⟩:=h4;simp [zE] at hsz;have hb:=hf h' (by simp) left l1 b l2 h2 (xS h3 hr) (by omega);have hbs:=ih (fun x hx=>hf x (by simp [hx])) (left-zU b) l2 bs l3 h3 hr (by omega);simp only [qZ,h1,Ow,Lx,hb,hbs];simp [zE];omega
theorem fd (rs:RdS) (hs gs:List (List Ty)):∀ {l:Bs} {ps:List Bd} {r:Bs},zF rs (hs++gs) l=some (ps,r)->∃ bs l1 cs,ps=bs++cs/\zF rs hs l=some (bs,l1)/\zF rs gs l1=some (cs,r):=by
 induction hs with
 | nil=>intro l ps r h;exact ⟨[],l,ps,rfl,rfl,h⟩
 | cons h' hs ih =>
   intro l ps r h;simp only [ON,zF,Ow,N0,Prod.exists] at h;obtain ⟨b,m,h1,bs',m',h2,h3⟩:=h;simp at h3;obtain ⟨rfl,rfl⟩:=h3;obtain ⟨bs,l1,cs,rfl,a1,a2⟩:=ih h2;refine ⟨b::bs,l1,cs,rfl,?_,a2⟩;simp only [zF,Ow,h1,Lx,a1]
theorem dV {m:Bs} {v k:Nat} (h:jF m=some (v,k)):qD m≠[]/\v=jv (qD m)/\k=(qD m).length/\(1<(qD m).length->(qD m).head?≠some 48):=by
 unfold jF at h;split at h
 ·simp at h
 ·rename_i hc;simp at h;refine ⟨fun e=>hc (.inl e),h.1.symm,h.2.symm,fun h1 h2=>hc (.inr ⟨h1,?_⟩)⟩;have hp:=y_ m;obtain ⟨x,hx⟩:=hp;cases hd:qD m with
  | nil=>rw [hd] at h1;simp at h1
  | cons y ys=>rw [hd] at hx h2;rw [<- hx];simpa using h2
theorem rdN_back (d:Nat):∀ levels,jC d levels->RdBack (rdB d) (rdN (d+1)) levels:=by
 induction d with
 | zero =>
   intro levels hh left l b r h hr hsz;obtain ⟨left,rfl⟩:∃ x,left=x+1:=⟨left-1,by have:=ze b;omega⟩;cases l with
   | nil=>simp [rdN] at h
   | cons c m =>
     simp only [rdN] at h;split at h
     ·rename_i hc;simp at h;obtain ⟨rfl,rfl⟩:=h;have tE:cut [40] (c::m)=none:=by
       rcases hc with rfl | rfl | rfl <;> simp [cut,Qh]
      have hw:=hG (w:=[c]) (rest:=m) (fun x hx=>by
       have:x=c:=by simpa using hx
       subst this;rcases hc with rfl | rfl | rfl <;> decide) hr
      rw [Sq] at hw;rw [dP 0 levels left tE,hw.1,hw.2];rcases hc with rfl | rfl | rfl <;> simp [zU]
     ·split at h
      ·simp at h
      ·split at h
       ·simp at h
       ·split at h
        ·simp at h
        ·exfalso;simp only [Ow,N0,Prod.exists] at h;obtain ⟨ps,l1,h1,_⟩:=h;rename_i t _ _;cases ha:jJ levels t with
         | nil=>have:=uf levels t;rw [ha] at this;simp at this
         | cons x xs=>rw [ha] at h1;simp [zF,qB] at h1
 | succ d ih =>
   intro levels hh left l b r h hr hsz;obtain ⟨left,rfl⟩:∃ x,left=x+1:=⟨left-1,by have:=ze b;omega⟩;cases l with
   | nil=>simp [rdN] at h
   | cons c m =>
     rw [rdN] at h;simp only at h;split at h
     ·rename_i hc;simp at h;obtain ⟨rfl,rfl⟩:=h;have tE:cut [40] (c::m)=none:=by
       rcases hc with rfl | rfl | rfl <;> simp [cut,Qh]
      have hw:=hG (w:=[c]) (rest:=m) (fun x hx=>by
       have:x=c:=by simpa using hx
       subst this;rcases hc with rfl | rfl | rfl <;> decide) hr
      rw [Sq] at hw;rw [dP (d+1) levels left tE,hw.1,hw.2];rcases hc with rfl | rfl | rfl <;> simp [zU]
     ·split at h
      ·simp at h
      ·rename_i tE;have tE:c=40:=by simpa using tE
       subst tE;cases hn:jF m with
       | none=>rw [hn] at h;simp at h
       | some x =>
         obtain ⟨v,k⟩:=x;rw [hn] at h;simp only at h;cases ht:levels[v]? with
         | none=>rw [ht] at h;simp at h
         | some t =>
           rw [ht] at h;simp only [Ow,N0,Prod.exists] at h;obtain ⟨ps,l2,h1,l3,h2,b',h3,h4⟩:=h;simp at h4;obtain ⟨rfl,rfl⟩:=h4;have hc:=uX h2;have Ja:jS l2:=.inr ⟨41,l3,hc,rfl⟩;have hst:=xS h1 Ja;obtain ⟨n1,n2,n3,n4⟩:=dV hn;obtain ⟨bs,l1,cs,e1,p1,p2⟩:=fd _ _ _ h1;have JI:=wI _ p1;have B5:=wI _ p2;have hsb:=nO h3;have hw0:m=qD m++m.drop k:=by
            obtain ⟨x,hx⟩:=y_ m;have gen:∀ (a b c:Bs),a++b=c->c.drop a.length=b:=by rintro a b c rfl;simp
            rw [n3,gen _ _ _ hx,hx]
           have hw:=hG (w:=qD m) (rest:=m.drop k) (fun x hx=>mK (yr m x hx)) hst;rw [<- hw0] at hw;have B3:v<levels.length:=(OB.1 ht).1;have th:=spec_lvl (n:=levels.length) n1 (be m).1 (yr m) n4 (by rw [<- n2];exact B3);rw [<- n2] at th;have hsl1:jS l1:=xS p2 Ja;have Gm:zE ps=zE bs+zE cs:=by rw [e1,qh]
           have ik:jC d levels:=by have:=hh.same;rwa [OY] at this
           have k1:=mw (rd:=rdB d) (t.args.map fun a=>levels++a.args) (fun x hx=>by
            obtain ⟨a,ha,rfl⟩:=Tv.1 hx;exact ih _ (hh.next ht ha)) left (m.drop k) bs l1 p1 hsl1 (by omega)
           have k2:=mw (rd:=rdB d) [levels,levels] (fun x hx=>by
            have:x=levels:=by simpa using hx
            subst this;exact ih _ ik) (left-zE bs) l1 cs l2 p2 Ja (by omega)
           have Nd:bs.length=t.args.length:=by simpa [kD] using JI
           obtain ⟨y,n,rfl⟩:∃ y n,cs=[y,n]:=by
            match cs,B5 with
            | [a,b],_=>exact ⟨a,b,rfl⟩
           have hb:b'=.ask v bs y n:=by
            rw [e1] at h3;unfold wH at h3;rw [S0 Nd,S4 Nd] at h3;simpa using h3.symm
           subst hb;rw [dG (d+1) levels left (l:=40::m) yD,hw.1,th];simp only [ht];rw [hw.2];simp only [mx,k1,k2,Ow,Lx,h2];simp [zU,zE] at *;omega
theorem rdStrat_eq (t:Ty) (ht:zJ t<=15) (l:Bs):uw t l=(if 2000<l.length then none else match rdN 101 t.args l with
 | none=>none
 | some (b,rest)=>if rest=[]/\zU b<=200 then some b else none):=by
 have hh:=eh ht;cases hq:uw t l with
 | some b =>
   have h1:∃ f,rdB 100 t.args 200 l=some (b,[],f):=by
    unfold uw at hq;split at hq
    ·rename_i b' f he;simp at hq;subst hq;exact ⟨f,he⟩
    ·simp at hq
   obtain ⟨f,h1⟩:=h1;obtain ⟨a1,a2,a3⟩:=rdB_fits 100 t.args hh _ _ _ _ _ h1;have:¬ 2000<l.length:=by simp at a3;omega
   rw [if_neg this,a1];simp only;rw [if_pos ⟨by trivial,by omega⟩]
 | none =>
   symm;split
   ·rfl
   ·cases hn:rdN 101 t.args l with
    | none=>rfl
    | some x =>
      obtain ⟨b,rest⟩:=x;simp only;split
      ·rename_i hc;obtain ⟨rfl,hc⟩:=hc;have:=rdN_back 100 t.args hh 200 l b [] hn (.inl rfl) hc;unfold uw at hq;rw [this] at hq;simp at hq
      ·rfl
theorem rdTS_eq (s l:Bs):fa s l=(kE s l).map fun b=>((zR s).1,b):=by
 unfold fa kE;rw [specType_eq];cases rj:(zR s).2 with
 | false=>simp
 | true =>
   have rR:=vV rj;simp only [if_true,Ow,Lx];rw [rdStrat_eq _ rR];by_cases h2:2000<l.length
   ·simp [h2]
   ·simp only [h2,if_false,Bool.true_eq_false,false_or];cases rdN 101 (zR s).1.args l with
    | none=>rfl
    | some x =>
      obtain ⟨b,rest⟩:=x;simp only;split <;> rfl
mutual
def qj:List Ty->Bd->Prop
 | _,.leaf _=>True
 | hand,.ask v ss y n=>∃ t,hand[v]? = some t/\qU (kD hand t.args) ss/\qj hand y/\qj hand n
def qU:List (List Ty)->List Bd->Prop
 | hs,[]=>hs=[]
 | hs,b::bs=>∃ h lQ,hs=h::lQ/\qj h b/\qU lQ bs
end
mutual
def fV:Bd->Bd->Bool
 | .leaf c,.leaf d=>c == 117 || c == d
 | .leaf c,.ask _ _ _ _=>c == 117
 | .ask _ _ _ _,.leaf _=>false
 | .ask v ss y n,.ask v' ss' y' n'=>v == v' && (b7 ss ss' && (fV y y' && fV n n'))
def b7:List Bd->List Bd->Bool
 | a::xs,b::bs=>fV a b && b7 xs bs
 | [],_=>true
 | _::_,[]=>false
end
theorem kL (levels ts:List Ty):(kD levels ts).length=ts.length:=by simp [kD]
theorem dL:∀ (xs:List Bd) (bs:List Bd) (hs ks:List (List Ty)),qU hs xs->qU ks bs->qU (hs++ks) (xs++bs)
 | [],bs,hs,ks,h1,h2=>by rw [qU] at h1;subst h1;simpa using h2
 | a::xs,bs,hs,ks,h1,h2=>by
   rw [qU] at h1;obtain ⟨h,lQ,rfl,e1,e2⟩:=h1;exact ⟨h,lQ++ks,rfl,e1,dL xs bs lQ ks e2 h2⟩
theorem kh:∀ (xs:List Bd) (hs:List (List Ty)),qU hs xs->hs.length=xs.length
 | [],hs,h=>by rw [qU] at h;simp [h]
 | a::xs,hs,h=>by
   rw [qU] at h;obtain ⟨h',lQ,rfl,e1,e2⟩:=h;simp [kh xs lQ e2]
theorem w_:∀ (xs:List Bd) (hs:List (List Ty)),qU hs xs->∀ (k:Nat) (a:Bd),xs[k]? = some a->∃ h,hs[k]? = some h/\qj h a
 | [],hs,h,k,a,ha=>by simp at ha
 | a::xs,hs,h,k,a',ha=>by
   rw [qU] at h;obtain ⟨h',lQ,rfl,e1,e2⟩:=h;cases k with
   | zero=>simp at ha;subst ha;exact ⟨h',rfl,e1⟩
   | succ k=>simp at ha;simpa using w_ xs lQ e2 k a' ha
theorem nG (h k:List Ty) (y n:Bd):qU [h,k] [y,n]↔qj h y/\qj k n:=by
 constructor
 ·intro hf;rw [qU] at hf;obtain ⟨a,as',e,h1,h2⟩:=hf;simp only [OL] at e;obtain ⟨rfl,rfl⟩:=e;rw [qU] at h2;obtain ⟨a,as',e,h3,h4⟩:=h2;simp only [OL] at e;obtain ⟨rfl,rfl⟩:=e;exact ⟨h1,h3⟩
 ·rintro ⟨h1,h2⟩;exact ⟨h,[k],rfl,h1,k,[],rfl,h2,by rw [qU]⟩
theorem fit_parts {hand:List Ty} {v:Nat} {ss:List Bd} {y n:Bd} (h:qj hand (.ask v ss y n)):∃ t,hand[v]? = some t/\qU (jJ hand t) (ki (.ask v ss y n))/\ss.length=t.args.length:=by
 rw [qj] at h;obtain ⟨t,h1,h2,h3,h4⟩:=h;refine ⟨t,h1,dL _ _ _ _ h2 ((nG _ _ _ _).2 ⟨h3,h4⟩),?_⟩;have:=kh _ _ h2;rw [kL] at this;exact this.symm
theorem wW:∀ (hs:List (List Ty)) (ks:List (List Ty)) (ps:List Bd),qU (hs++ks) ps->qU hs (ps.take hs.length)/\qU ks (ps.drop hs.length)
 | [],ks,ps,h=>by
   constructor
   ·simp [qU]
   ·simpa using h
 | x::hs,ks,[],h=>by simp [qU] at h
 | x::hs,ks,p::ps,h=>by
   simp only [ON] at h;rw [qU] at h;obtain ⟨h',lQ,e,e1,e2⟩:=h;simp only [OL] at e;obtain ⟨rfl,rfl⟩:=e;have:=wW hs ks ps e2;simp only [OD,PE,List.drop_succ_cons];exact ⟨⟨x,hs,rfl,e1,this.1⟩,this.2⟩
theorem specParts_fit {rd:RdS} (lx:∀ {h l b r},rd h l=some (b,r)->qj h b) (hs:List (List Ty)):∀ {l r:Bs} {ps:List Bd},zF rd hs l=some (ps,r)->qU hs ps:=by
 induction hs with
 | nil=>intro l r ps h;simp [zF] at h;obtain ⟨rfl,rfl⟩:=h;simp [qU]
 | cons h' hs ih =>
   intro l r ps h;simp only [zF,Ow,N0,Prod.exists] at h;obtain ⟨b,l1,h1,bs,l2,h2,h3⟩:=h;simp at h3;obtain ⟨rfl,rfl⟩:=h3;unfold qB at h1;simp only [Ow,N0] at h1;obtain ⟨l3,_,h4⟩:=h1;exact ⟨h',hs,rfl,lx h4,ih h2⟩
theorem rdN_fit (e:Nat):∀ {h:List Ty} {l:Bs} {b:Bd} {r:Bs},rdN e h l=some (b,r)->qj h b:=by
 induction e with
 | zero=>intro h l b r hq;simp [rdN] at hq
 | succ e ih =>
   intro h l b r hq;cases l with
   | nil=>simp [rdN] at hq
   | cons c m =>
     simp only [rdN] at hq;split at hq
     ·simp at hq;obtain ⟨rfl,rfl⟩:=hq;simp [qj]
     ·split at hq
      ·simp at hq
      ·split at hq
       ·simp at hq
       ·rename_i v k hsn;split at hq
        ·simp at hq
        ·rename_i t ht;simp only [Ow,N0,Prod.exists] at hq;obtain ⟨ps,l1,h1,l2,h2,b',h3,h4⟩:=hq;simp at h4;obtain ⟨rfl,rfl⟩:=h4;have k1:=specParts_fit ih _ h1;have k2:=wW _ _ _ k1;rw [kL] at k2;unfold wH at h3;split at h3
         ·rename_i y no hd;simp at h3;subst h3;rw [hd,nG] at k2;rw [qj];exact ⟨t,ht,k2.1,k2.2.1,k2.2.2⟩
         ·simp at h3
theorem dl:∀ (xs bs:List Bd),xs.length=bs.length->(b7 xs bs=true↔∀ (k:Nat) (a b:Bd),xs[k]? = some a->bs[k]? = some b->fV a b=true)
 | [],[],_=>by simp [b7]
 | a::xs,b::bs,h=>by
   simp only [b7,Bool.and_eq_true];rw [dl xs bs (by simpa using h)];constructor
   ·rintro ⟨h1,h2⟩ k a' b' ha hb;cases k with
    | zero=>simp at ha hb;subst ha;subst hb;exact h1
    | succ k=>simp at ha hb;exact h2 k a' b' ha hb
   ·intro h;exact ⟨h 0 a b rfl rfl,fun k a' b' ha hb=>h (k+1) a' b' (by simpa using ha) (by simpa using hb)⟩
def pr (xs bs:List Bd) (k:Nat):Prop:=∀ (j:Nat) (a b:Bd),j<k->xs[j]? = some a->bs[j]? = some b->fV a b=true
theorem pr.zero (xs bs:List Bd):pr xs bs 0:=fun j a b h=>by omega
theorem pr.next {xs bs:List Bd} {k:Nat} (h:pr xs bs k) {a b:Bd} (ha:xs[k]? = some a) (hb:bs[k]? = some b) (Df:fV a b=true):pr xs bs (k+1):=by
 intro j a' b' hj h1 h2;rcases Nat.lt_or_ge j k with h' | h'
 ·exact h j a' b' h' h1 h2
 ·obtain rfl:j=k:=by omega
  rw [ha] at h1;rw [hb] at h2;simp at h1 h2;subst h1;subst h2;exact Df
theorem pr.all {xs bs:List Bd} (hl:xs.length=bs.length) (h:pr xs bs xs.length):b7 xs bs=true :=
 (dl xs bs hl).2 fun k a b ha hb=>h k a b (OB.1 ha).1 ha hb
def lvOf:Bd->Nat
 | .leaf _=>0
 | .ask v _ _ _=>v
theorem encN_lv {F:Nat->Prop} {w:World} {b:Bd} {s v k y:Value} (h:zW F w (kx b) [s,v,k,y]):v=.int .i64 (lvOf b:Nat):=by
 cases b with
 | leaf c =>
   rw [kx] at h;obtain ⟨_,_,e,h0,h⟩:=zQ.1 h;simp only [OL] at e;obtain ⟨rfl,rfl⟩:=e;obtain ⟨_,_,e,h1,h⟩:=zQ.1 h;simp only [OL] at e;obtain ⟨rfl,rfl⟩:=e;exact zH.1 h1
 | ask lv ss yb nb =>
   rw [kx] at h;obtain ⟨_,_,e,h0,h⟩:=zQ.1 h;simp only [OL] at e;obtain ⟨rfl,rfl⟩:=e;obtain ⟨_,_,e,h1,h⟩:=zQ.1 h;simp only [OL] at e;obtain ⟨rfl,rfl⟩:=e;exact zH.1 h1
theorem gK (a b:Nat):((a:Int).tmod (b:Int))=((a % b:Nat):Int):=rfl
theorem mH (a b:Nat):((a:Int).tdiv (b:Int))=((a / b:Nat):Int):=rfl
theorem p_ (n:Nat) (h:n<9223372036854775808):IntKind.i64.wrap (n:Int)=(n:Int):=by
 simp [IntKind.wrap,IntKind.bits,IntKind.signed];omega
def xF (r:Nat):UInt8:=RQ (48+r)
def dec (n:Nat):Bs:=if n<10 then [xF n] else dec (n / 10)++[xF (n % 10)]
theorem vQ {n:Nat} (h:n<10):dec n=[xF n]:=by rw [dec,if_pos h]
theorem vc {n:Nat} (h:¬ n<10):dec n=dec (n / 10)++[xF (n % 10)]:=by rw [dec,if_neg h]
theorem uY (k:Nat):∀ n,n<10 ^ (k+1)->(dec n).length<=k+1:=by
 induction k with
 | zero=>intro n h;rw [vQ (by simpa using h)];simp
 | succ k ih =>
   intro n h;by_cases J0:n<10
   ·rw [vQ J0];simp
   ·rw [vc J0];have:=ih (n / 10) (by rw [Nat.div_lt_iff_lt_mul (by omega),<- Nat.pow_succ];exact h);simp;omega
theorem str_add (a b:Bs):(⟨a.toArray⟩:ByteArray)++(⟨b.toArray⟩:ByteArray)=⟨(a++b).toArray⟩:=by
 have h:((⟨a.toArray⟩:ByteArray)++(⟨b.toArray⟩:ByteArray)).data=(a++b).toArray:=by
  rw [ByteArray.data_append];simp
 cases hx:(⟨a.toArray⟩:ByteArray)++(⟨b.toArray⟩:ByteArray) with
 | mk d=>rw [hx] at h;simp at h;rw [h]
theorem kI {P:Program} (a b:Bs) (h:a.length+b.length<=9223372036854775807) (w:World):(Op.stringOp .add ⟨a.toArray⟩ ⟨b.toArray⟩).run P w=.ok (str (a++b)) w:=by
 rw [run_string_add_sum w _ _ (by rw [gG,gG];exact h),str_add]
mutual
def kC:Bd->Bs
 | .leaf c=>[c]
 | .ask v ss y n=>(((([40]++dec v++kz ss++[32])++kC y)++[32])++kC n)++[41]
def kz:List Bd->Bs
 | []=>[]
 | b::bs=>[32]++kC b++kz bs
end
mutual
def lvB:Bd->Prop
 | .leaf _=>True
 | .ask v ss y n=>v<=10000/\cA ss/\lvB y/\lvB n
def cA:List Bd->Prop
 | []=>True
 | b::bs=>lvB b/\cA bs
end
theorem vx:∀ (xs ys:List Bd),kz (xs++ys)=kz xs++kz ys
 | [],ys=>by simp [kz]
 | x::xs,ys=>by simp [kz,vx xs ys]
theorem textBs_take {ts:List Bd} {k:Nat} {t:Bd} (h:ts[k]? = some t):kz (ts.take (k+1))=kz (ts.take k)++[32]++kC t:=by
 rw [List.take_add_one,h,vx];simp [kz]
theorem fo:∀ (xs:List Bd),cA xs->∀ (k:Nat) (t:Bd),xs[k]? = some t->lvB t
 | [],_,k,t,h=>by simp at h
 | x::xs,hl,k,t,h=>by
   rw [cA] at hl;cases k with
   | zero=>simp at h;subst h;exact hl.1
   | succ k=>simp at h;exact fo xs hl.2 k t h
mutual
theorem vL:∀ (b:Bd),lvB b->(kC b).length+1<=12*zU b
 | .leaf c,_=>by simp [kC,zU]
 | .ask v ss y n,h=>by
   rw [lvB] at h;have h1:=y8 ss h.2.1;have h2:=vL y h.2.2.1;have h3:=vL n h.2.2.2;have h4:(dec v).length<=5:=uY 4 v (by have:=h.1;omega);simp only [kC,zU,Ov,OD,Pd];omega
theorem y8:∀ (bs:List Bd),cA bs->(kz bs).length<=12*zE bs
 | [],_=>by simp [kz]
 | b::bs,h=>by
   rw [cA] at h;have h1:=vL b h.1;have h2:=y8 bs h.2;simp only [kz,zE,Ov,OD,Pd];omega
end
theorem fc (xs:List Bd) (k:Nat):(kz (xs.take k)).length<=(kz xs).length:=by
 have:=congrArg PY (vx (xs.take k) (xs.drop k));rw [List.take_append_drop,Ov] at this;omega
mutual
def zL:Ty->Bs
 | .mk ts=>textTs ts
def textTs:List Ty->Bs
 | []=>[98]
 | a::ts=>[40,62,32]++(zL a++([32]++(textTs ts++[41])))
end
theorem yI:zL (.mk [])=[98]:=by rw [zL,textTs]
theorem um (a:Ty) (ts:List Ty):zL (.mk (a::ts))=[40,62,32]++(zL a++([32]++(zL (.mk ts)++[41]))):=by
 rw [zL,textTs,zL]
theorem jd (a:Ty) (ts:List Ty):zJ (.mk (a::ts))=1+zJ a+zJ (.mk ts):=by
 simp only [zJ,zt];omega
theorem mQ (p r:Bs):cut p (p++r)=some r:=by
 unfold cut;have h:p.isPrefixOf (p++r)=true:=List.isPrefixOf_iff_prefix.2 (List.prefix_append _ _);rw [if_pos h];simp
theorem noCut_b (r:Bs):g9 [98] ([40,62,32]++r):=by
 show cut [98] ([40,62,32]++r)=none;rfl
theorem gD (d:Nat):∀ (t:Ty) (r:Bs),zJ t<=2*d+1->rdK d (zL t++r)=some (t,r):=by
 have hb:∀ (d:Nat) (r:Bs),rdK d (zL (.mk [])++r)=some (.mk [],r):=fun d r=>by
  rw [yI];exact xO (mQ [98] r)
 induction d with
 | zero =>
   intro t r h;obtain ⟨ts⟩:=t;cases ts with
   | nil=>exact hb 0 r
   | cons a ts=>rw [jd] at h;have:=ke a;have:=ke (.mk ts);omega
 | succ d ih =>
   intro t r h;obtain ⟨ts⟩:=t;cases ts with
   | nil=>exact hb _ r
   | cons a ts =>
     rw [jd] at h;have h1:=ke a;have h2:=ke (.mk ts);rw [um];have e:([40,62,32]++(zL a++([32]++(zL (.mk ts)++[41]))))++r=[40,62,32]++(zL a++([32]++(zL (.mk ts)++([41]++r)))):=by simp
     rw [e,ju (noCut_b _)];simp only [mQ,Ow,Lx,ih a _ (by omega:zJ a<=2*d+1),ih (.mk ts) _ (by omega:zJ (.mk ts)<=2*d+1)];rfl
theorem jE:∀ (n:Nat) (t:Ty),zJ t<=n->(zL t).length+2=3*zJ t:=by
 intro n
 induction n with
 | zero=>intro t h;have:=ke t;omega
 | succ n ih =>
   intro t h;obtain ⟨ts⟩:=t;cases ts with
   | nil=>rw [yI];simp [zJ,zt]
   | cons a ts =>
     rw [jd] at h ⊢;have h1:=ke a;have h2:=ke (.mk ts);have k1:=ih a (by omega);have k2:=ih (.mk ts) (by omega);rw [um];simp only [Ov,OD,Pd];omega
theorem uz {t:Ty} (h:zJ t<=15):zR (zL t)=(t,true):=by
 have hl:=jE 15 t h;unfold zR;rw [if_neg (by omega)];have:=gD 20 t [] (by omega);rw [OY] at this;have h2:rdS 21 (zL t)=some (t,[]):=this;rw [h2];simp [h]
inductive Clo where
 | mk (b:Bd) (env:List Clo) (begun:Nat) (path:Bs)
def Clo.body:Clo->Bd | .mk b _ _ _=>b
def Clo.env:Clo->List Clo | .mk _ e _ _=>e
def Clo.begun:Clo->Nat | .mk _ _ n _=>n
def Clo.path:Clo->Bs | .mk _ _ _ p=>p
end Go.Proofs.YtdhaafoiokkbnabGreatDoor

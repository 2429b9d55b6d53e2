/- Walks. -/
import Derived.Lib.AtoiTie
import Derived.Laws.Concat
import Derived.Test.YtpgiohmcggllgaaGreatDoorQ2
set_option linter.unusedVariables false
set_option linter.unusedSimpArgs false
set_option maxHeartbeats 10000000
set_option maxRecDepth 100000
open Array renaming getElem?_eq_getElem->Oo
open Go.Lib renaming decDigits->OC,decDigits_length->Sa,decDigits_one->Sm,decFrom->TW,itoa->Pp,nDigits_big->Rv,nDigits_small->Qh
open Go.Proofs.Tryz renaming func76->QG,ntmps76->Qp,prog->KD,results47->Rx,results76->ON,underlying45->OV
open Go.Value renaming oneCell'->Of,ownBlock->N7,slice->Nq
open Go.Value.slice renaming injEq->N_
open Go.World renaming cell?->GD,cell?_of_block->P7,frozen?_of_block->OS,ownsRow_nil->OL,setCell->PL
open List renaming append_nil->Ov,cons_append->Oe,drop_eq_getElem_cons->OP,drop_eq_nil_of_le->PX,drop_left'->So,eq_nil_of_length_eq_zero->Ox,foldl_cons->Ry,getElem?_drop->Pd,getElem?_eq_some_iff->N6,getElem?_take->Pc,getElem_drop->Ri,head?_append->Si,isPrefixOf->Pr,length->Pj,length_append->NZ,length_cons->N5,length_nil->OD,mem_map->SN,mem_of_getElem?->Oc,mem_singleton->Sd,singleton_append->R0,take_left'->Rz,take_length->Oh,take_of_length_le->PR
open List.cons renaming injEq->Od
open Nat renaming pow_le_pow_right->R_,strongRecOn->Ps,zero_le->Og
open Option renaming bind_eq_bind->NX,bind_eq_some_iff->No,bind_some->Mm,map_eq_some_iff->N3
open UInt8 renaming le_iff_toNat_le->Pi,ofNat->Rj,toNat_inj->Sl
namespace Go.Proofs.YtpgiohmcggllgaaGreatDoor
open Go.RowKit
def dM (i:Nat) (o:Option (Nat×Nat)) (w:World) (en:Ending) (w':World):Prop :=
 ∃ (v:Nat) (k:Int),en=.returned (.tuple #[.int .i64 v,.int .i64 k])/\w=w'/\(o=none->k = -1)/\(∀ v' c,o=some (v',c)->v=v'/\k=((i+c:Nat):Int))
theorem l3Number_any (l:Bs) (hl:Lim l.length) (i:Nat) (hi:i<=l.length) (w:World) :
 Calls KD 113 #[str l,.int .i64 i] w (dM i (jF (l.drop i)) w):=by
 have iU:=hl.le;obtain ⟨ds,hds⟩:=zzM (qI (l.drop i));have hd4:=h_ (l.drop i);rw [<- hds] at hd4;have h4:ds.length<=4:=hd4.1;have J3:i+ds.length<=l.length:=by have:=hd4.2;simp at this;omega
 have HDS:=mj hds;clear hds hd4;go_enter Tryz.func113,Tryz.ntmps113;go_wp2_with fail
 go_loop [6,7] (fun n k=>∃ j:Nat,j<=ds.length/\k=.int .i64 ((i+j:Nat):Int)/\n=.int .i64 (jL (ds.take j):Nat)) (fun _ k=>i+ds.length-(intOf k).toNat)
 case atStart=>exact ⟨0,Og _,by simp,by simp [jL]⟩
 case round =>
  obtain ⟨j,hj,rfl,rfl⟩:=hrel;by_cases m_:j<ds.length
  ·have F3:i+j<l.length:=by omega
   have ml:l[i+j]=ds[j]/\dig l[i+j]=true:=by
    have h1:=HDS.out;subst h1;obtain ⟨hm,e1,e2⟩:=digsOf_at m_;rw [Ri] at e1 e2;exact ⟨e1,e2⟩
   have b1:(48:Int)<=((((⟨l.toArray⟩:ByteArray)[i+j]'(kr F3)).toNat:Int))/\((((⟨l.toArray⟩:ByteArray)[i+j]'(kr F3)).toNat:Int))<=57:=by
    have h2:=ml.2;simp [dig,Pi] at h2;rw [xQ F3];omega
   obtain ⟨b1,b2⟩:=b1;have hv:jL (ds.take j)<=9999:=by
    have h1:=valOf_lt (ds.take j) (fun c hc=>xu _ c (by have:=HDS.out;rw [<- this];exact List.mem_of_mem_take hc));have h2:10 ^ (ds.take j).length<=10 ^ 4:=R_ (by omega) (by simp;omega);omega
   have hs:=valOf_take m_;have oJ:(jL (ds.take (j+1)):Int)=10*(jL (ds.take j):Int)+(((((⟨l.toArray⟩:ByteArray)[i+j]'(kr F3)).toNat:Int))-48):=by
    rw [xQ F3] at b1 ⊢;rw [hs,ml.1] at *;omega
   have HS:=mj oJ;have j4:j<4:=by omega
   clear hs oJ ml;go_wp2_with fail
   go_round
   case rel=>exact ⟨j+1,by omega,by go_num,by rw [HS.out]⟩
   case measure=>simp [intOf];omega
  ·obtain rfl:j=ds.length:=by omega
   have BP:ds.length=4\/i+ds.length=l.length\/∃ h:i+ds.length<l.length,dig l[i+ds.length]=false:=by
    have h1:=HDS.out;subst h1;rcases digsOf_end (m:=l.drop i) with h | h | ⟨h,h2⟩
    ·exact .inl h
    ·right;left;simp at h;omega
    ·right;right;simp at h;refine ⟨by omega,?_⟩;rw [Ri] at h2;exact h2
   have HV:jF (l.drop i)=(if ds=[]\/(1<ds.length/\(l.drop i).head? = some 48) then none else some (jL ds,ds.length)):=by
    unfold jF;rw [<- HDS.out]
   have AP:4<=ds.length\/l.length<=i+ds.length\/(∃ h:i+ds.length<l.length,((((⟨l.toArray⟩:ByteArray)[i+ds.length]'(kr h)).toNat:Int))<48)\/(∃ h:i+ds.length<l.length,(57:Int)<((((⟨l.toArray⟩:ByteArray)[i+ds.length]'(kr h)).toNat:Int))):=by
    rcases BP with h | h | ⟨h,h2⟩
    ·exact .inl (by omega)
    ·exact .inr (.inl (by omega))
    ·simp [dig,Pi] at h2;by_cases hc:l[i+ds.length].toNat<48
     ·exact .inr (.inr (.inl ⟨h,by rw [xQ h];omega⟩))
     ·exact .inr (.inr (.inr ⟨h,by rw [xQ h];have:=h2 (by omega);omega⟩))
   clear BP;rw [Oh];rcases (by omega:ds.length=0\/ds.length=1\/2<=ds.length) with hn | hn | hn
   ·have e0:((i:Int)+(ds.length:Int) == (i:Int))=true:=by rw [beq_iff_eq];omega
    have fin:dM i (jF (l.drop i)) w (.returned (.tuple #[.int .i64 0,.int .i64 (-1)])) w:=by
     have Ac:ds=[]:=Ox hn;refine ⟨0,-1,rfl,rfl,fun _=>rfl,fun v c h=>?_⟩;rw [HV,if_pos (.inl Ac)] at h;simp at h
    have HF:=mj fin;have hn0:(ds.length:Int)<=0:=by omega
    clear fin HV hn;rcases AP with h | h | ⟨h,h2⟩ | ⟨h,h2⟩
    all_goals
     go_wp2_with fail
     all_goals (go_ret2;exact HF.out)
   ·have e0:((i:Int)+(ds.length:Int) == (i:Int))=false:=by rw [beq_eq_false_iff_ne];omega
    have n1:¬ 1<ds.length:=by omega
    have fin:dM i (jF (l.drop i)) w (.returned (.tuple #[.int .i64 (jL ds:Nat),.int .i64 ((i:Int)+(ds.length:Int))])) w:=by
     have Ac:¬ (ds=[]\/(1<ds.length/\(l.drop i).head? = some 48)):=by
      rintro (h | h)
      ·rw [h] at hn;simp at hn
      ·omega
     refine ⟨_,_,rfl,rfl,fun h=>?_,fun v c h=>?_⟩
     ·rw [HV,if_neg Ac] at h;simp at h
     ·rw [HV,if_neg Ac] at h;simp at h;exact ⟨h.1,by omega⟩
    have HF:=mj fin;have aK:1<=ds.length:=by omega
    clear fin HV hn;rcases AP with h | h | ⟨h,h2⟩ | ⟨h,h2⟩
    all_goals
     go_wp2_with fail
     all_goals (go_ret2;exact HF.out)
   ·have e0:((i:Int)+(ds.length:Int) == (i:Int))=false:=by rw [beq_eq_false_iff_ne];omega
    have n1:1<ds.length:=by omega
    have I0:i<l.length:=by rcases AP with h | h | ⟨h,h2⟩ | ⟨h,h2⟩ <;> omega
    have G3:(l.drop i).head? = some l[i]:=by rw [List.head?_drop];simp [I0]
    have hdn:ds≠[]:=by intro h;rw [h] at hn;simp at hn
    by_cases C5:l[i]=48
    focus
     have f1:=xy I0 (n:=48) (by decide) C5;have fin:dM i (jF (l.drop i)) w (.returned (.tuple #[.int .i64 0,.int .i64 (-1)])) w:=by
      refine ⟨0,-1,rfl,rfl,fun _=>rfl,fun v c h=>?_⟩;rw [HV,if_pos (.inr ⟨n1,by rw [G3,C5]⟩)] at h;simp at h
    rotate_left
    focus
     have f1:=uW I0 (n:=48) (by decide) C5;have fin:dM i (jF (l.drop i)) w (.returned (.tuple #[.int .i64 (jL ds:Nat),.int .i64 ((i:Int)+(ds.length:Int))])) w:=by
      have Ac:¬ (ds=[]\/(1<ds.length/\(l.drop i).head? = some 48)):=by
       rintro (h | h)
       ·exact hdn h
       ·rw [G3] at h;exact C5 (Option.some.inj h.2)
      refine ⟨_,_,rfl,rfl,fun h=>?_,fun v c h=>?_⟩
      ·rw [HV,if_neg Ac] at h;simp at h
      ·rw [HV,if_neg Ac] at h;simp at h;exact ⟨h.1,by omega⟩
    all_goals
     have HF:=mj fin;clear fin HV G3 C5;rcases AP with h | h | ⟨h,h2⟩ | ⟨h,h2⟩
     all_goals
      go_wp2_with fail
      all_goals (go_ret2;exact HF.out)
mutual
def kL:Bd->List DV
 | .leaf c=>[.val (str [c]),.val (.int .i64 (0:Nat)),.sl 47 4 0 [],.sl 47 4 0 []]
 | .ask v ss y n=>[.val (str []),.val (.int .i64 v),.sl 47 4 ss.length (zh ss),.sl 47 4 2 (kL y++(kL n++[]))]
def zh:List Bd->List DV
 | []=>[]
 | b::bs=>kL b++zh bs
end
theorem vN (b:Bd):(kL b).length=4:=by cases b <;> simp [kL]
theorem encNs_length (bs:List Bd):(zh bs).length=bs.length*4:=by
 induction bs with
 | nil=>simp [zh]
 | cons b bs ih=>simp [zh,vN,ih];omega
theorem qD (a b:List Bd):zh (a++b)=zh a++zh b:=by
 induction a with
 | nil=>simp [zh]
 | cons t ts ih=>simp [zh,ih,List.append_assoc]
theorem xK (v:Nat) (ss:List Bd) (y n:Bd):kL (.ask v ss y n)=[.val (str []),.val (.int .i64 v),.sl 47 4 ss.length (zh ss),.sl 47 4 2 (zh [y,n])]:=by
 simp [kL,zh]
theorem Tryz.infoN:(KD.info? 47).map (fun i=>(i.zero,i.size,i.bytes))=some (some (.agg #[str [],.int .i64 0,.slice none 0 0,.slice none 0 0]),4,72):=by kernel_rfl
def uT (L:Nat) (w:World) (o:Option (Bd×Bs)) (en:Ending) (w':World):Prop :=
 ∃ (s:Bs) (v:Int) (a2:Option Addr) (n2 k2:Nat) (a3:Option Addr) (n3 k3:Nat) (k:Int),en=.returned (.tuple #[.agg #[str s,.int .i64 v,.slice a2 n2 k2,.slice a3 n3 k3],.int .i64 k])/\Below w.heap.size w w'/\(o=none->k = -1) /\
   (∀ b rest,o=some (b,rest)->k=(L:Int)-rest.length/\zW (w.heap.size<=·) w' (kL b) [str s,.int .i64 v,.slice a2 n2 k2,.slice a3 n3 k3])
theorem uT.no {L:Nat} {w w':World} {o:Option (Bd×Bs)} (ho:o=none) (hb:Below w.heap.size w w') :
 uT L w o (.returned (.tuple #[.agg #[str [],.int .i64 0,.slice none 0 0,.slice none 0 0],.int .i64 (-1)])) w' :=
 ⟨[],0,none,0,0,none,0,0,_,rfl,hb,fun _=>rfl,fun _ _ h=>by rw [ho] at h;simp at h⟩
theorem uT.yes {L:Nat} {w w':World} {o:Option (Bd×Bs)} {b:Bd} {rest:Bs} {s:Bs} {v:Int} {a2:Option Addr} {n2 k2:Nat} {a3:Option Addr} {n3 k3:Nat} {k:Int} (ho:o=some (b,rest)) (hk:k=(L:Int)-rest.length) (hb:Below w.heap.size w w') (hv:zW (w.heap.size<=·) w' (kL b) [str s,.int .i64 v,.slice a2 n2 k2,.slice a3 n3 k3]) :
 uT L w o (.returned (.tuple #[.agg #[str s,.int .i64 v,.slice a2 n2 k2,.slice a3 n3 k3],.int .i64 k])) w' :=
 ⟨s,v,a2,n2,k2,a3,n3,k3,k,rfl,hb,fun h=>by rw [ho] at h;simp at h,fun _ _ h=>by rw [ho] at h;simp at h;obtain ⟨rfl,rfl⟩:=h;exact ⟨hk,hv⟩⟩
def NodeSaid (l:Bs) (e d:Nat):Prop:=∀ (F:Nat->Prop) (hand:List Ty) (hv:Value) (i:Nat) (w:World),i<=l.length->jP e hand ->
    Rep F w (.sl 42 1 hand.length (qA hand)) hv ->
    Calls KD 76 #[str l,.int .i64 i,hv,.int .i64 d] w (uT l.length w (rdN e hand (l.drop i)))
theorem dm (F:Nat->Prop) (w:World) (c:UInt8):zW F w (kL (.leaf c)) [str [c],.int .i64 0,.slice none 0 0,.slice none 0 0]:=by
 have hz:Rep F w (.sl 47 4 0 []) (.slice none 0 0):=zg.2 ⟨rfl,none,0,rfl,my _,fun _=>rfl,.inl rfl⟩;rw [kL];exact zQ.2 ⟨_,_,rfl,zH.2 rfl,zQ.2 ⟨_,_,rfl,zH.2 rfl,zQ.2 ⟨_,_,rfl,hz,zQ.2 ⟨_,_,rfl,hz,zC.2 rfl⟩⟩⟩⟩
theorem rdN_leaf (e:Nat) (hand:List Ty) {l:Bs} {i:Nat} (h:i<l.length) (hc:l[i]=116\/l[i]=102\/l[i]=117):rdN (e+1) hand (l.drop i)=some (.leaf l[i],l.drop (i+1)):=by
 rw [OP h,rdN];simp only [if_pos hc]
theorem rdN_other (e:Nat) (hand:List Ty) {l:Bs} {i:Nat} (h:i<l.length) (hc:¬ (l[i]=116\/l[i]=102\/l[i]=117)) (se:¬ l[i]=40):rdN (e+1) hand (l.drop i)=none:=by
 rw [OP h,rdN];simp only [if_neg hc,if_pos se]
theorem rdN_40 (e:Nat) (hand:List Ty) {l:Bs} {i:Nat} (h:i<l.length) (se:l[i]=40):rdN (e+1) hand (l.drop i)=(match jF (l.drop (i+1)) with
 | none=>none
 | some (v,k)=>match hand[v]? with
   | none=>none
   | some t=>do
     let (ps,l1)<-zM (rdN e) (jJ hand t) ((l.drop (i+1)).drop k)
     let l2<-cut [41] l1
     let b<-wj v t.args.length ps
     some (b,l2)):=by
 rw [OP h,rdN];rw [if_neg (by rw [se];decide),if_neg (by simpa using se)];try rfl
theorem ch (l:Bs) (hl:Lim l.length) (e d:Nat) (Dv:e+d=101) (F:Nat->Prop) (hand:List Ty) (hv:Value) (i:Nat) (w:World) (hi:i<=l.length)
 (hr:Rep F w (.sl 42 1 hand.length (qA hand)) hv) (aA:∀ h:i<l.length,e=0\/¬ l[i]=40) :
 Calls KD 76 #[str l,.int .i64 i,hv,.int .i64 d] w (uT l.length w (rdN e hand (l.drop i))):=by
 have iU:=hl.le;obtain ⟨a0,c0,e0,_⟩:=zP hr;subst e0;rcases e with _ | e
 ·have As:(100:Int)<(d:Int):=by omega
  clear aA;go_enter QG,Qp;go_wp2_with fail
  refine bodyPost_ret (v:=.tuple #[.agg #[str [],.int .i64 0,.slice none 0 0,.slice none 0 0],.int .i64 (-1)]) (by simp [results,ON,go_sem]) rfl ?_;exact uT.no (by rfl) (by repeat (first | exact mw _ _ | refine Below.alloc ?_ (my _) _ | refine Below.setCell ?_ (by simp) _))
 have Ac:¬ (100:Int)<(d:Int):=by omega
 by_cases m_:i<l.length;rotate_left
 ·clear aA;go_enter QG,Qp;go_wp2_with fail
  refine bodyPost_ret (v:=.tuple #[.agg #[str [],.int .i64 0,.slice none 0 0,.slice none 0 0],.int .i64 (-1)]) (by simp [results,ON,go_sem]) rfl ?_;exact uT.no (by rw [PX (by omega)];rfl) (by repeat (first | exact mw _ _ | refine Below.alloc ?_ (my _) _ | refine Below.setCell ?_ (by simp) _))
 have se:¬ l[i]=40:=(aA m_).resolve_left (by omega);clear aA;by_cases Fp:l[i]=116\/l[i]=102\/l[i]=117
 ·have HM:=mj (rdN_leaf e hand m_ Fp);have hx:((⟨l.toArray⟩:ByteArray).extract i (i+1))=⟨#[l[i]]⟩:=by
   rw [g_];congr 1;rw [List.drop_take,OP m_,show i+1-i=1 from by omega];rfl
  have HX:=mj hx;clear hx;have fin:∀ w':World,Below w.heap.size w w'->uT l.length w (rdN (e+1) hand (l.drop i)) (.returned (.tuple #[.agg #[.string ((⟨l.toArray⟩:ByteArray).extract i (i+1)),.int .i64 0,.slice none 0 0,.slice none 0 0],.int .i64 ((i:Int)+1)])) w':=by
   intro w' hb;rw [HX.out];exact uT.yes (s:=[l[i]]) HM.out (by simp;omega) hb (dm _ _ _)
  have FIN:=mj fin;clear fin;have key:((((⟨l.toArray⟩:ByteArray)[i]'(kr m_)).toNat:Int) == 116)=true\/((((((⟨l.toArray⟩:ByteArray)[i]'(kr m_)).toNat:Int) == 116)=false/\((((⟨l.toArray⟩:ByteArray)[i]'(kr m_)).toNat:Int) == 102)=true))\/((((((⟨l.toArray⟩:ByteArray)[i]'(kr m_)).toNat:Int) == 116)=false/\((((⟨l.toArray⟩:ByteArray)[i]'(kr m_)).toNat:Int) == 102)=false/\((((⟨l.toArray⟩:ByteArray)[i]'(kr m_)).toNat:Int) == 117)=true)):=by
   rcases Fp with h | h | h
   ·exact .inl (xy m_ (n:=116) (by decide) h)
   ·exact .inr (.inl ⟨uW m_ (c:=116) (n:=116) (by decide) (by rw [h];decide),xy m_ (n:=102) (by decide) h⟩)
   ·exact .inr (.inr ⟨uW m_ (c:=116) (n:=116) (by decide) (by rw [h];decide),uW m_ (c:=102) (n:=102) (by decide) (by rw [h];decide),xy m_ (n:=117) (by decide) h⟩)
  clear Fp se HM HX;rcases key with f1 | ⟨f1,f2⟩ | ⟨f1,f2,f3⟩
  all_goals
   go_enter QG,Qp;go_wp2_with fail
   refine bodyPost_ret (v:=.tuple #[.agg #[.string ((⟨l.toArray⟩:ByteArray).extract i (i+1)),.int .i64 0,.slice none 0 0,.slice none 0 0],.int .i64 ((i:Int)+1)]) (by simp [results,ON,go_sem]) rfl ?_;exact FIN.out _ (by repeat (first | exact mw _ _ | refine Below.alloc ?_ (my _) _ | refine Below.setCell ?_ (by simp) _))
 have HM:=mj (rdN_other e hand m_ Fp se);have f1:=uW m_ (n:=116) (by decide) (fun h=>Fp (.inl h));have f2:=uW m_ (n:=102) (by decide) (fun h=>Fp (.inr (.inl h)));have f3:=uW m_ (n:=117) (by decide) (fun h=>Fp (.inr (.inr h)));have f4:=vH m_ (n:=40) (by decide) se;clear Fp se;go_enter QG,Qp;go_wp2_with fail
 refine bodyPost_ret (v:=.tuple #[.agg #[str [],.int .i64 0,.slice none 0 0,.slice none 0 0],.int .i64 (-1)]) (by simp [results,ON,go_sem]) rfl ?_;exact uT.no HM.out (by repeat (first | exact mw _ _ | refine Below.alloc ?_ (my _) _ | refine Below.setCell ?_ (by simp) _))
def kQ (ob:Nat) (v:Int) (kslv yslv:Value) (w:World):Prop:=w.heap[ob]? = some (.cells #[str [],.int .i64 v,kslv,yslv] 47 (0,0))
theorem kQ.cells {ob:Nat} {v:Int} {ks ys:Value} {w:World} (h:kQ ob v ks ys w):w.cell? ⟨ob,0,none⟩=some (str [])/\w.cell? ⟨ob,1,none⟩=some (.int .i64 v)/\w.cell? ⟨ob,2,none⟩=some ks/\w.cell? ⟨ob,3,none⟩=some ys/\ob<w.heap.size/\(∀ o,w.frozen? ⟨ob,o,none⟩=false):=by
 have hl:=zZ h;unfold kQ at h;exact ⟨by simp [GD,h],by simp [GD,h],by simp [GD,h],by simp [GD,h],hl,fun o=>by simp [World.frozen?,h]⟩
theorem kQ.put2 {ob:Nat} {v:Int} {ks ys u:Value} {w:World} (h:kQ ob v ks ys w):kQ ob v u ys (w.setCell ⟨ob,2,none⟩ u):=by
 unfold kQ;rw [zy h];rfl
theorem kQ.put3 {ob:Nat} {v:Int} {ks ys u:Value} {w:World} (h:kQ ob v ks ys w):kQ ob v ks u (w.setCell ⟨ob,3,none⟩ u):=by
 unfold kQ;rw [zy h];rfl
theorem kQ.but {ob:Nat} {v:Int} {ks ys:Value} {m:Nat->Prop} {w w':World} (h:kQ ob v ks ys w) (hb:But m w w') (hm:¬ m ob):kQ ob v ks ys w':=by
 unfold kQ;rw [hb.block ob (zZ h) hm];exact h
theorem kQ.below {ob:Nat} {v:Int} {ks ys:Value} {w w':World} {B:Nat} (h:kQ ob v ks ys w) (hb:Below B w w') (hm:ob<B):kQ ob v ks ys w':=by
 unfold kQ;rw [hb.block ob hm];exact h
theorem kQ.store {ob:Nat} {v:Int} {ks ys:Value} {w:World} (h:kQ ob v ks ys w) (u0 u1 u2 u3:Value) :
 ∃ W,W=((((w.setCell ⟨ob,0,none⟩ u0).setCell ⟨ob,1,none⟩ u1).setCell ⟨ob,2,none⟩ u2).setCell ⟨ob,3,none⟩ u3) /\
   W.cell? ⟨ob,0,none⟩=some u0/\W.cell? ⟨ob,1,none⟩=some u1/\W.cell? ⟨ob,2,none⟩=some u2/\W.cell? ⟨ob,3,none⟩=some u3 /\
   (∀ B w0,Below B w0 w->B<=ob->Below B w0 W)/\(∀ i x,i≠ob->w.heap[i]? = some x->W.heap[i]? = some x):=by
 have hc:((((w.setCell ⟨ob,0,none⟩ u0).setCell ⟨ob,1,none⟩ u1).setCell ⟨ob,2,none⟩ u2).setCell ⟨ob,3,none⟩ u3).heap[ob]? = some (.cells #[u0,u1,u2,u3] 47 (0,0)):=by
  unfold kQ at h;rw [zy (zy (zy (zy h)))];rfl
 refine ⟨_,rfl,by simp only [GD,hc];rfl,by simp only [GD,hc];rfl,by simp only [GD,hc];rfl,by simp only [GD,hc];rfl,fun B w0 hb hB=>?_,fun i x hi hx=>?_⟩
 ·exact ((((hb.setCell (p:=⟨ob,0,none⟩) hB _).setCell (p:=⟨ob,1,none⟩) hB _).setCell (p:=⟨ob,2,none⟩) hB _).setCell (p:=⟨ob,3,none⟩) hB _)
 ·rw [mp _ _ _ _ (by simpa using hi),mp _ _ _ _ (by simpa using hi),mp _ _ _ _ (by simpa using hi),mp _ _ _ _ (by simpa using hi)];exact hx
structure cH (l:Bs) (w:World) (rd:RdS) (hs:List (List Ty)) (n i0 ob Z v:Nat) (k en:Nat) (wr:World) (ps:List Bd) (kv yv:List Value) (ks:Value) (nk:Nat) (ys:Value) (ny:Nat):Prop where
 hnk:nk=min k n
 hny:ny=k-n
 ksl:∃ a c,ks=.slice a nk c
 ysl:∃ a c,ys=.slice a ny c
 spec:zM rd (hs.take k) (l.drop i0)=some (ps,l.drop en)
 len:ps.length=k
 en:en<=l.length
 below:Below w.heap.size w wr
 res:kQ w.heap.size 0 (.slice none 0 0) (.slice none 0 0) wr
 out:kQ ob v ks ys wr
 ownK:Own wr 47 4 ks nk kv
 ownY:Own wr 47 4 ys ny yv
 blkK:∀ g,ks.ownBlock=some g->Z<=g/\ys.ownBlock≠some g
 blkY:∀ g,ys.ownBlock=some g->Z<=g
 repK:zW (fun b=>Z<=b/\ks.ownBlock≠some b/\ys.ownBlock≠some b) wr (zh (ps.take n)) kv
 repY:zW (fun b=>Z<=b/\ks.ownBlock≠some b/\ys.ownBlock≠some b) wr (zh (ps.drop n)) yv
 z:Z<=wr.heap.size
theorem cH.kid {l:Bs} {w:World} {rd:RdS} {hs:List (List Ty)} {n i0 ob Z v k en:Nat} {wr:World} {ps:List Bd} {kv yv:List Value} {ks ys:Value} {nk ny:Nat}
 (h:cH l w rd hs n i0 ob Z v k en wr ps kv yv ks nk ys ny) (hk:k<n) (Es:ob<Z) (hwo:w.heap.size<ob) {W w7:World} {b:Bd} {cs:List Value} {a':Option Addr} {c' tN:Nat}
 (nJ:Below wr.heap.size wr W) (hcs:zW (wr.heap.size<=·) W (kL b) cs) (nM:Own w7 47 4 (.slice a' (nk+1) c') (nk+1) (kv++cs)) (mo:But (fun i=>ks.ownBlock=some i) W w7)
 (nG:∀ g,(Nq a' (nk+1) c').ownBlock=some g->ks.ownBlock=some g\/g=W.heap.size)
 (Eb:zM rd (hs.take (k+1)) (l.drop i0)=some (ps++[b],l.drop tN)) (F5:tN<=l.length) :
 cH l w rd hs n i0 ob Z v (k+1) tN (w7.setCell ⟨ob,2,none⟩ (.slice a' (nk+1) c')) (ps++[b]) (kv++cs) yv (.slice a' (nk+1) c') (nk+1) ys ny:=by
 have z6:=nJ.size;have z7:=mo.size;have zr:=h.z;have hlen:=h.len;have keep:∀ i x,wr.heap[i]? = some x->ks.ownBlock≠some i->i≠ob->(w7.setCell ⟨ob,2,none⟩ (.slice a' (nk+1) c')).heap[i]? = some x:=by
  intro i x hx h1 h2;have:=zZ hx;rw [mp _ _ _ _ (by simpa using h2),mo.block i (by omega) h1,nJ.block i this];exact hx
 have sH:∀ i x,W.heap[i]? = some x->ks.ownBlock≠some i->i≠ob->(w7.setCell ⟨ob,2,none⟩ (.slice a' (nk+1) c')).heap[i]? = some x:=by
  intro i x hx h1 h2;have:=zZ hx;rw [mp _ _ _ _ (by simpa using h2),mo.block i (by omega) h1];exact hx
 have ltK:∀ g,ks.ownBlock=some g->g<wr.heap.size:=fun g hg=>h.ownK.lt hg;have ltY:∀ g,ys.ownBlock=some g->g<wr.heap.size:=fun g hg=>h.ownY.lt hg;have nK:∀ i,i<Z->ks.ownBlock≠some i:=fun i hi e=>by have:=(h.blkK i e).1;omega
 have newg:∀ g,(Nq a' (nk+1) c').ownBlock=some g->Z<=g:=fun g hg=>by
  rcases nG g hg with e | e
  ·exact (h.blkK g e).1
  ·omega
 refine ⟨by rw [h.hnk];omega,by rw [h.hny];omega,⟨_,_,rfl⟩,h.ysl,Eb,by simp [hlen],F5,?_,?_,?_,?_,?_,?_,h.blkY,?_,?_,by simp [PL];omega⟩
 ·refine Below.setCell ?_ (show w.heap.size<=ob by omega) _;exact (zzT h.below nJ).trans (mo.toBelow (by have:=h.below.size;omega) fun i hi e=>nK i (by omega) e)
 ·exact keep _ _ h.res (nK _ (by omega)) (by omega)
 ·have h1:kQ ob v ks ys w7:=by
   unfold kQ;rw [mo.block ob (by omega) (nK _ Es),nJ.block ob (by omega)];exact h.out
  exact h1.put2
 ·exact nM.keep fun g o hg ho=>by rw [mp _ _ _ _ (by have:=newg g hg;simp;omega)];exact ho
 ·exact h.ownY.keep fun g o hg ho=>keep g o ho (fun e=>(h.blkK g e).2 hg) (by have:=h.blkY g hg;omega)
 ·intro g hg;refine ⟨newg g hg,fun e=>?_⟩;rcases nG g hg with e' | e'
  ·exact (h.blkK g e').2 e
  ·have:=ltY g e;omega
 ·rw [PR (by simp;omega),qD];have h1:=h.repK;rw [PR (by omega)] at h1;refine zW.append ((Rep.keep fun i x hi hx=>⟨⟨hi.1,fun e=>(nG i e).elim (fun e'=>hi.2.1 e') (fun e'=>by have:=zZ hx;omega),hi.2.2⟩,keep i x hx hi.2.1 (by have:=hi.1;omega)⟩).2 _ _ h1) ?_
  ·have e1:zh [b]=kL b:=by simp [zh]
   rw [e1];refine (Rep.keep fun i x hi hx=>?_).2 _ _ hcs;have h2:=zZ hx;have h3:wr.heap.size<=i:=hi;refine ⟨⟨by omega,fun e=>?_,fun e=>by have:=ltY i e;omega⟩,sH i x hx (fun e=>by have:=ltK i e;omega) (by omega)⟩;rcases nG i e with e' | e'
   ·have:=ltK i e';omega
   ·omega
 ·have h1:=h.repY;rw [PX (by omega)] at h1;rw [PX (by simp;omega)];have:yv=[]:=by simpa [zh,zC] using h1
  subst this;exact zC.2 rfl
theorem cH.yes {l:Bs} {w:World} {rd:RdS} {hs:List (List Ty)} {n i0 ob Z v k en:Nat} {wr:World} {ps:List Bd} {kv yv:List Value} {ks ys:Value} {nk ny:Nat}
 (h:cH l w rd hs n i0 ob Z v k en wr ps kv yv ks nk ys ny) (hk:n<=k) (Es:ob<Z) (hwo:w.heap.size<ob) {W w7:World} {b:Bd} {cs:List Value} {a':Option Addr} {c' tN:Nat}
 (nJ:Below wr.heap.size wr W) (hcs:zW (wr.heap.size<=·) W (kL b) cs) (nM:Own w7 47 4 (.slice a' (ny+1) c') (ny+1) (yv++cs)) (mo:But (fun i=>ys.ownBlock=some i) W w7)
 (nG:∀ g,(Nq a' (ny+1) c').ownBlock=some g->ys.ownBlock=some g\/g=W.heap.size)
 (Eb:zM rd (hs.take (k+1)) (l.drop i0)=some (ps++[b],l.drop tN)) (F5:tN<=l.length) :
 cH l w rd hs n i0 ob Z v (k+1) tN (w7.setCell ⟨ob,3,none⟩ (.slice a' (ny+1) c')) (ps++[b]) kv (yv++cs) ks nk (.slice a' (ny+1) c') (ny+1):=by
 have z6:=nJ.size;have z7:=mo.size;have zr:=h.z;have hlen:=h.len;have keep:∀ i x,wr.heap[i]? = some x->ys.ownBlock≠some i->i≠ob->(w7.setCell ⟨ob,3,none⟩ (.slice a' (ny+1) c')).heap[i]? = some x:=by
  intro i x hx h1 h2;have:=zZ hx;rw [mp _ _ _ _ (by simpa using h2),mo.block i (by omega) h1,nJ.block i this];exact hx
 have sH:∀ i x,W.heap[i]? = some x->ys.ownBlock≠some i->i≠ob->(w7.setCell ⟨ob,3,none⟩ (.slice a' (ny+1) c')).heap[i]? = some x:=by
  intro i x hx h1 h2;have:=zZ hx;rw [mp _ _ _ _ (by simpa using h2),mo.block i (by omega) h1];exact hx
 have ltK:∀ g,ks.ownBlock=some g->g<wr.heap.size:=fun g hg=>h.ownK.lt hg;have ltY:∀ g,ys.ownBlock=some g->g<wr.heap.size:=fun g hg=>h.ownY.lt hg;have nY:∀ i,i<Z->ys.ownBlock≠some i:=fun i hi e=>by have:=h.blkY i e;omega
 have newg:∀ g,(Nq a' (ny+1) c').ownBlock=some g->Z<=g:=fun g hg=>by
  rcases nG g hg with e | e
  ·exact h.blkY g e
  ·omega
 refine ⟨by rw [h.hnk];omega,by rw [h.hny];omega,h.ksl,⟨_,_,rfl⟩,Eb,by simp [hlen],F5,?_,?_,?_,?_,?_,?_,newg,?_,?_,by simp [PL];omega⟩
 ·refine Below.setCell ?_ (show w.heap.size<=ob by omega) _;exact (zzT h.below nJ).trans (mo.toBelow (by have:=h.below.size;omega) fun i hi e=>nY i (by omega) e)
 ·exact keep _ _ h.res (nY _ (by omega)) (by omega)
 ·have h1:kQ ob v ks ys w7:=by
   unfold kQ;rw [mo.block ob (by omega) (nY _ Es),nJ.block ob (by omega)];exact h.out
  exact h1.put3
 ·exact h.ownK.keep fun g o hg ho=>keep g o ho (h.blkK g hg).2 (by have:=(h.blkK g hg).1;omega)
 ·exact nM.keep fun g o hg ho=>by rw [mp _ _ _ _ (by have:=newg g hg;simp;omega)];exact ho
 ·intro g hg;refine ⟨(h.blkK g hg).1,fun e=>?_⟩;rcases nG g e with e' | e'
  ·exact (h.blkK g hg).2 e'
  ·have:=ltK g hg;omega
 ·rw [List.take_append_of_le_length (by omega)];refine (Rep.keep fun i x hi hx=>⟨⟨hi.1,hi.2.1,fun e=>?_⟩,keep i x hx hi.2.2 (by have:=hi.1;omega)⟩).2 _ _ h.repK;rcases nG i e with e' | e'
  ·exact hi.2.2 e'
  ·have:=zZ hx;omega
 ·rw [List.drop_append_of_le_length (by omega),qD];refine zW.append ((Rep.keep fun i x hi hx=>⟨⟨hi.1,hi.2.1,fun e=>(nG i e).elim (fun e'=>hi.2.2 e') (fun e'=>by have:=zZ hx;omega)⟩,keep i x hx hi.2.2 (by have:=hi.1;omega)⟩).2 _ _ h.repY) ?_
  ·have e1:zh [b]=kL b:=by simp [zh]
   rw [e1];refine (Rep.keep fun i x hi hx=>?_).2 _ _ hcs;have h2:=zZ hx;have h3:wr.heap.size<=i:=hi;refine ⟨⟨by omega,fun e=>by have:=ltK i e;omega,fun e=>?_⟩,sH i x hx (fun e=>by have:=ltY i e;omega) (by omega)⟩;rcases nG i e with e' | e'
   ·have:=ltY i e';omega
   ·omega
theorem zq.lit4 {w:World} {e:TypeId} (cs:Array Value) (hn:cs.size=4) (hc:∀ u∈cs.toList,u.oneCell'=true) (g:Nat) (hg:g=w.heap.size):zq 4 (.slice (some ⟨g,0,none⟩) 1 1) 1 cs.toList (w.alloc (.cells cs e)):=by
 subst hg;refine ⟨by simp [hn],hc,.inl ⟨_,_,rfl,fun j u hu=>?_⟩⟩;unfold Addr.add;split
 ·subst j;simp;simpa using hu
 ·simp;simpa using hu
def NodeRel (l:Bs) (w:World) (rd:RdS) (hs:List (List Ty)) (n i0 ob Z v:Nat) (k en:Nat) (wr:World):Prop :=
 ∃ ps kv yv ks nk ys ny,cH l w rd hs n i0 ob Z v k en wr ps kv yv ks nk ys ny
theorem l3Read_ask (l:Bs) (hl:Lim l.length) (e d:Nat) (Dv:e+1+d=101) (ih:NodeSaid l e (d+1)) (F:Nat->Prop) (hand:List Ty) (hv:Value) (i:Nat) (w:World) (hi:i<l.length) (hh:jP (e+1) hand)
 (hr:Rep F w (.sl 42 1 hand.length (qA hand)) hv) (se:l[i]=40) :
 Calls KD 76 #[str l,.int .i64 i,hv,.int .i64 d] w (uT l.length w (rdN (e+1) hand (l.drop i))):=by
 have iU:=hl.le;have IH:=mj ih;clear ih;have hlen:hand.length<=10000:=by have:=hh.2;omega
 have Ac:¬ (100:Int)<(d:Int):=by omega
 have HM:=mj (rdN_40 e hand hi se);have f1:=uW hi (c:=116) (n:=116) (by decide) (by rw [se];decide);have f2:=uW hi (c:=102) (n:=102) (by decide) (by rw [se];decide);have f3:=uW hi (c:=117) (n:=117) (by decide) (by rw [se];decide);have f4:=vf hi (n:=40) (by decide) se;clear se;obtain ⟨a0,k0,ehv,_,_,ml⟩:=zP hr;subst ehv;have rh:=mj ml;clear ml;go_enter QG,Qp;go_wp2_with fail
 rw [show (i:Int)+1=((i+1:Nat):Int) from by omega];refine (l3Number_any l hl (i+1) hi _).mono ?_;rintro en w1 ⟨v,k1,rfl,ew,nh,nf⟩;obtain rfl:=ew;cases hq:jF (l.drop (i+1)) with
 | none =>
   obtain rfl:=nh hq;have hm:rdN (e+1) hand (l.drop i)=none:=by rw [HM.out,hq]
   have HM:=mj hm;clear hm hq nh nf;go_wp2_with fail
   refine bodyPost_ret (v:=.tuple #[.agg #[str [],.int .i64 0,.slice none 0 0,.slice none 0 0],.int .i64 (-1)]) (by simp [results,ON,go_sem]) rfl ?_;exact uT.no HM.out (by repeat (first | exact mw _ _ | refine Below.alloc ?_ (my _) _ | refine Below.setCell ?_ (by simp) _))
 | some x =>
 obtain ⟨v',c⟩:=x;obtain ⟨rfl,rfl⟩:=nf _ _ hq;have Bi:i+1+c<=l.length/\v<=9999:=by
  unfold jF at hq;split at hq
  ·simp at hq
  ·simp at hq;obtain ⟨e1,e2⟩:=hq;have h1:=h_ (l.drop (i+1));have h2:=valOf_lt (qI (l.drop (i+1))) (xu _);have h3:10 ^ (qI (l.drop (i+1))).length<=10 ^ 4:=R_ (by omega) h1.1;simp at h1;omega
 obtain ⟨Bi,hv9⟩:=Bi;have HQ:=mj hq;clear hq nh nf;by_cases Cd:v<hand.length;rotate_left
 ·have hm:rdN (e+1) hand (l.drop i)=none:=by
   rw [HM.out,HQ.out];simp only;rw [List.getElem?_eq_none (by omega)]
  have HM:=mj hm;clear hm;go_wp2_with fail
  refine bodyPost_ret (v:=.tuple #[.agg #[str [],.int .i64 0,.slice none 0 0,.slice none 0 0],.int .i64 (-1)]) (by simp [results,ON,go_sem]) rfl ?_;exact uT.no HM.out (by repeat (first | exact mw _ _ | refine Below.alloc ?_ (my _) _ | refine Below.setCell ?_ (by simp) _))
 obtain ⟨bl,ol,u,dv,ea,Kg,Fv,J2,hcl2,tQ⟩:=rh.out v Cd;rw [v_,N3] at J2;obtain ⟨t,ht,rfl⟩:=J2;obtain ⟨sa,ks,rfl⟩:=kU tQ;have ID:=tQ;rw [q_] at ID;obtain ⟨_,_,est,_,_,ES⟩:=zP ID;simp only [N_] at est;obtain ⟨rfl,_,rfl⟩:=est;subst ea;have HT:=mj ht;have JE:=mj ES
 have hm : rdN (e+1) hand (l.drop i)=(do
         let (ps,l1)<-zM (rdN e) (jJ hand t) ((l.drop (i+1)).drop c)
         let l2<-cut [41] l1
         let b<-wj v t.args.length ps
         some (b,l2)):=by rw [HM.out,HQ.out];simp only [ht]
 rw [List.drop_drop] at hm;have HM:=mj hm;have iG:t.args.length<=15:=by
  have h1:=hh.1 t (Oc ht);have h2:=qi t;have:=qB t.args;omega
 clear hm ht ES ID;have gv:decide (hand.length<=v)=false:=by rw [decide_eq_false_iff_not];omega
 have gi:decide ((i:Int)+1+(c:Int)<0)=false:=by rw [decide_eq_false_iff_not];omega
 go_wp2_with fail
 have sC:NodeRel l w (rdN e) (jJ hand t) t.args.length (i+1+c) (w.heap.size+1) (w.heap.size+2) v 0 (i+1+c)
  ((w.alloc (.cells #[str [],.int .i64 0,.slice none 0 0,.slice none 0 0] 47)).alloc (.cells #[str [],.int .i64 v,.slice none 0 0,.slice none 0 0] 47)):=by
  refine ⟨[],[],[],.slice none 0 0,0,.slice none 0 0,0,by simp,by simp,⟨_,_,rfl⟩,⟨_,_,rfl⟩,by simp [zM],rfl,Bi,((mw _ _).alloc (my _) _).alloc (by simp) _,?_,?_,OL _ _ _ _,OL _ _ _ _,fun g h=>by simp [N7] at h,fun g h=>by simp [N7] at h,by rw [List.take_nil];exact zC.2 rfl,by rw [List.drop_nil];exact zC.2 rfl,by simp⟩
  ·exact zU (zG _ _)
  ·have:=zG (w.alloc (.cells #[str [],.int .i64 0,.slice none 0 0,.slice none 0 0] 47)) (.cells #[str [],.int .i64 v,.slice none 0 0,.slice none 0 0] 47);rw [zK] at this;exact this
 generalize Kf:i+1+c=i0 at *;rw [show (i:Int)+1+(c:Int)=(i0:Int) from by omega];have HI0:=mj Kf;clear Kf
 go_loopw [11,14] (fun a b wr=>∃ k en:Nat,k<=t.args.length+2/\a=.int .i64 en/\b=.int .i64 k/\NodeRel l w (rdN e) (jJ hand t) t.args.length i0 (w.heap.size+1) (w.heap.size+2) v k en wr)
  (fun _ b _=>t.args.length+2-(intOf b).toNat)
 case atStart=>exact ⟨0,i0,Og _,rfl,rfl,sC⟩
 case round =>
  clear sC;rename_i wr;obtain ⟨k,en,hk,rfl,rfl,hrel⟩:=hrel;obtain ⟨ps,kv,yv,ks,nk,ys,ny,hrel⟩:=hrel;have i9:=hrel.res;have aA:=hrel.out;have hb:=hrel.below;have hen:=hrel.en;have zr:=hrel.z;have HP:=mj hrel.spec;have nkl:nk<=17:=by have:=hrel.hnk;omega
  have nyl:ny<=2:=by have:=hrel.hny;omega
  obtain ⟨ka,kc,eks⟩:=hrel.ksl;obtain ⟨ya,yc,eys⟩:=hrel.ysl;subst eks;subst eys;have HR:=mj hrel;clear hrel;obtain ⟨r0,r1,r2,r3,rl,rf⟩:=i9.cells;obtain ⟨q0,q1,q2,q3,ql,qf⟩:=aA.cells;have sG:=rf 0;have tZ:=rf 1;have aJ:=rf 2;have iA:=rf 3;clear rf;have Fe:=qf 2;have JG:=qf 3;clear qf;by_cases m_:k<t.args.length+2
  ·have rF:(k:Int)<(t.args.length:Int)+2:=by omega
   by_cases Bq:∃ h:en<l.length,l[en]=32;rotate_left
   ·have hm:rdN (e+1) hand (l.drop i)=none:=by
     have hs:=xL (rd:=rdN e) (show (jJ hand t)[k]? = some _ from List.getElem?_eq_getElem (by rw [uz];exact m_)) HP.out;have hc:cut [32] (l.drop en)=none:=by
      by_cases h:en<l.length
      ·rw [yw h,if_neg (fun h'=>Bq ⟨h,h'⟩)]
      ·exact bQ (by omega)
     rw [HM.out,uD (k+1) (by rw [hs];simp [qR,hc])];rfl
    have HM:=mj hm;clear hm;have sE:(l.length<=en)\/∃ h:en<l.length,((((⟨l.toArray⟩:ByteArray)[en]'(kr h)).toNat:Int) != 32)=true:=by
     by_cases h:en<l.length
     ·exact .inr ⟨h,vH h (n:=32) (by decide) (fun h'=>Bq ⟨h,h'⟩)⟩
     ·exact .inl (by omega)
    clear Bq;rcases sE with h | ⟨h,f5⟩
    focus
     have g1:(l.length:Int)<=(en:Int):=by omega
    rotate_left
    all_goals
     go_wp2_with fail
     obtain ⟨W,hW,s0,s1,s2,s3,nV,_⟩:=i9.store (.string ⟨#[]⟩) (.int .i64 0) (.slice none 0 0) (.slice none 0 0);rw [<- hW];refine bodyPost_ret (v:=.tuple #[.agg #[str [],.int .i64 0,.slice none 0 0,.slice none 0 0],.int .i64 (-1)]) (by simp [results,ON,go_sem,s0,s1,s2,s3]) rfl ?_;exact uT.no HM.out (nV _ _ hb (my _))
   obtain ⟨oX,Bq⟩:=Bq;have f5:=vf oX (n:=32) (by decide) Bq;have g1:decide ((en:Int)<0)=false:=by rw [decide_eq_false_iff_not];omega
   have g2:decide (l.length<=en)=false:=by rw [decide_eq_false_iff_not];omega
   have HC:Hid (cut [32] (l.drop en)=some (l.drop (en+1))):=by show cut [32] (l.drop en)=_;rw [yw oX,if_pos Bq]
   clear Bq;by_cases oU:k<t.args.length
   ·have IW:(k:Int)<(t.args.length:Int):=by omega
    obtain ⟨ba,oa,uk,dk,esa,hFa,Jb,Mx,J4,rD⟩:=JE.out k oU;subst esa;rw [v_,N3] at Mx;obtain ⟨tk,An,rfl⟩:=Mx;obtain ⟨ua,uc,rfl⟩:=kU rD;have e1:wr.cell? ⟨ba,oa+k,none⟩=some (.slice ua tk.args.length uc):=by rw [hb.cell Jb];exact J4
    have Lu:=Rep.below (F':=F) hb (fun _ h=>h) rD;have aH:=Rep.below (F':=F) hb (fun _ h=>h) hr;have hhk:jP e (hand++tk.args):=hh.next HT.out (Oc An);have F1:Lim (hand.length+tk.args.length):=by have:=hhk.2;simp at this;show _<=_;omega
    have HS:=mj (xL (rd:=rdN e) (dE (hand:=hand) An) HP.out);clear An J4 rD;go_wp2_with fail
    refine (l3Hand_any F hand tk _ _ wr aH Lu F1).mono ?_;rintro en5 w5 ⟨a5,c5,rfl,nR,Eo⟩;have z5:=nR.size;have HR5:=mj Eo;clear Eo aH Lu F1;have Q:=mj (mu i9 (mu aA (mu hb nR)));have rl5:w.heap.size<w5.heap.size:=by omega
    have ql5:w.heap.size+1<w5.heap.size:=by omega
    go_wp2_with fail
    rw [show (en:Int)+1=((en+1:Nat):Int) from by omega,show (d:Int)+1=((d+1:Nat):Int) from by omega,<- NZ];refine (IH.out (fun k=>F k\/wr.heap.size<=k) (hand++tk.args) _ (en+1) w5 oX hhk (by rw [NZ] at HR5 ⊢;exact HR5.out)).mono ?_;rintro C8 w6 ⟨s6,v6,a2,n2,k2,a3,n3,k3,k6,rfl,nJ,ij,iI⟩;rw [NZ];obtain ⟨i9,aA,hb,nR⟩:=Q.out;have z6:=nJ.size;have lL:=nR.trans (nJ.mono z5);have BI:=i9.below lL rl;have BJ:=aA.below lL ql;have AQ:=zzT hb lL;obtain ⟨r0,r1,r2,r3,rl6,rf⟩:=BI.cells;obtain ⟨q0,q1,q2,q3,Ik,qf⟩:=BJ.cells;have sG:=rf 0;have tZ:=rf 1;have aJ:=rf 2;have iA:=rf 3;clear rf;have Fe:=qf 2;have JG:=qf 3;clear qf;have Q2:=mj (mu lL (mu BI BJ));clear nR hb i9 aA lL BI BJ nJ Q;cases hq:rdN e (hand++tk.args) (l.drop (en+1)) with
    | none =>
      obtain rfl:=ij hq;have hm:rdN (e+1) hand (l.drop i)=none:=by
       rw [HM.out,uD (k+1) (by rw [HS.out];simp [qR,HC.out,hq])];rfl
      have HM:=mj hm;clear hm hq ij iI;go_wp2_with fail
      obtain ⟨W,hW,s0,s1,s2,s3,nV,_⟩:=Q2.out.2.1.store (.string ⟨#[]⟩) (.int .i64 0) (.slice none 0 0) (.slice none 0 0);rw [<- hW];refine bodyPost_ret (v:=.tuple #[.agg #[str [],.int .i64 0,.slice none 0 0,.slice none 0 0],.int .i64 (-1)]) (by simp [results,ON,go_sem,zV s0,zV s1,zV s2,zV s3]) rfl ?_;exact uT.no HM.out ((nV _ _ AQ (my _)).alloc (nV _ _ AQ (my _)).size _)
    | some x =>
      obtain ⟨b,rest⟩:=x;obtain ⟨rfl,Cu⟩:=iI _ _ hq;have oS:=yr (wo e hq);have Eg:rest.length<=l.length:=by have:=(wo e hq).length_le;simp at this;omega
      obtain ⟨tN,Fu⟩:=zzM (l.length-rest.length);rw [<- Fu] at oS;have Ds:(l.length:Int)-(rest.length:Int)=(tN:Int):=by omega
      rw [Ds];have DH:=mj Fu;clear Fu Ds;have hs:zM (rdN e) ((jJ hand t).take (k+1)) (l.drop i0)=some (ps++[b],l.drop tN):=by
       rw [HS.out];simp [qR,HC.out,hq,oS]
      have NF:=mj hs;have NP:=mj Cu;clear hs Cu hq ij iI oS;go_wp2_with (at_builtin;refine zE rfl _ _ 45 rfl 47 (.agg #[str [],.int .i64 0,.slice none 0 0,.slice none 0 0]) 4 72 OV Tryz.infoN rfl (by decide) (.slice ka nk kc) nk kv rfl ?c1 _ 1 [str s6,.int .i64 v6,.slice a2 n2 k2,.slice a3 n3 k3] rfl ?c2 ?c3 ?c4 ?_)
      case c1 =>
       refine (HR.out.ownK.keep fun g o hg ho=>?_).alloc _ |>.alloc _;rw [Q2.out.1.block g (zZ ho)];exact ho
      case c2=>exact zq.lit4 #[str s6,.int .i64 v6,.slice a2 n2 k2,.slice a3 n3 k3] rfl (by simp [str,Of]) _ (by simp)
      case c3=>unfold maxLen;omega
      case c4=>omega
      intro a' c' w7 nL mo nG;have hW:Below wr.heap.size wr ((w6.alloc (.cells #[str s6,.int .i64 v6,.slice a2 n2 k2,.slice a3 n3 k3] 47)).alloc (.cells #[str s6,.int .i64 v6,.slice a2 n2 k2,.slice a3 n3 k3] 47)):=(Q2.out.1.alloc Q2.out.1.size _).alloc (by have:=Q2.out.1.size;simp;omega) _
      have hC:zW (wr.heap.size<=·) ((w6.alloc (.cells #[str s6,.int .i64 v6,.slice a2 n2 k2,.slice a3 n3 k3] 47)).alloc (.cells #[str s6,.int .i64 v6,.slice a2 n2 k2,.slice a3 n3 k3] 47)) (kL b) [str s6,.int .i64 v6,.slice a2 n2 k2,.slice a3 n3 k3] :=
       (Rep.keep fun i o hi ho=>⟨mh z5 hi,zU (zU ho)⟩).2 _ _ NP.out
      have hA:=HR.out.kid oU (by omega) (show w.heap.size<w.heap.size+1 by omega) hW hC nL mo (fun g hg=>by simpa only [zK] using nG g hg) NF.out (by have:=DH.out;omega);have z7:=mo.size;rw [zK,zK] at z7;have BQ:w7.cell? ⟨w.heap.size+1,2,none⟩=some (.slice ka nk kc):=by
       rw [mo.cell (by simp only [zK];omega) (fun e=>by have h:w.heap.size+2<=w.heap.size+1:=(HR.out.blkK _ e).1;omega)];exact zV (zV q2)
      have I2:w7.frozen? ⟨w.heap.size+1,2,none⟩=false:=by
       rw [OS (w:=w6) (by rw [mo.block _ (by simp only [zK];omega) (fun e=>by have h:w.heap.size+2<=w.heap.size+1:=(HR.out.blkK _ e).1;omega)];rw [Below.heap_alloc _ _ _ (by simp only [zK];omega),Below.heap_alloc _ _ _ (by omega)])];exact Fe
      have HA:=mj hA;clear hA hW hC nL mo nG;go_wp2_with fail
      go_roundw
      case rel=>exact ⟨k+1,tN,by omega,rfl,by go_num,_,_,_,_,_,_,_,HA.out⟩
      case measure=>simp [intOf];omega
   ·have IW:t.args.length<=k:=by omega
    have hkn2:¬ (k:Int)<(t.args.length:Int):=by omega
    have aH:=Rep.below (F':=F) hb (fun _ h=>h) hr;have HS:=mj (xL (rd:=rdN e) (dD (hand:=hand) (t:=t) IW m_) HP.out);go_wp2_with fail
    refine (IH.out F hand _ (en+1) wr oX (by have:=hh.same;rwa [Ov] at this) aH).mono ?_;rintro C8 w6 ⟨s6,v6,a2,n2,k2,a3,n3,k3,k6,rfl,nJ,ij,iI⟩;have z6:=nJ.size;have lL:=nJ;have BI:=i9.below lL rl;have BJ:=aA.below lL ql;have AQ:=zzT hb lL;obtain ⟨r0,r1,r2,r3,rl6,rf⟩:=BI.cells;obtain ⟨q0,q1,q2,q3,Ik,qf⟩:=BJ.cells;have sG:=rf 0;have tZ:=rf 1;have aJ:=rf 2;have iA:=rf 3;clear rf;have Fe:=qf 2;have JG:=qf 3;clear qf;have Q2:=mj (mu lL (mu BI BJ));clear hb i9 aA lL BI BJ nJ;cases hq:rdN e hand (l.drop (en+1)) with
    | none =>
      obtain rfl:=ij hq;have hm:rdN (e+1) hand (l.drop i)=none:=by
       rw [HM.out,uD (k+1) (by rw [HS.out];simp [qR,HC.out,hq])];rfl
      have HM:=mj hm;clear hm hq ij iI;go_wp2_with fail
      obtain ⟨W,hW,s0,s1,s2,s3,nV,_⟩:=Q2.out.2.1.store (.string ⟨#[]⟩) (.int .i64 0) (.slice none 0 0) (.slice none 0 0);rw [<- hW];refine bodyPost_ret (v:=.tuple #[.agg #[str [],.int .i64 0,.slice none 0 0,.slice none 0 0],.int .i64 (-1)]) (by simp [results,ON,go_sem,zV s0,zV s1,zV s2,zV s3]) rfl ?_;exact uT.no HM.out ((nV _ _ AQ (my _)).alloc (nV _ _ AQ (my _)).size _)
    | some x =>
      obtain ⟨b,rest⟩:=x;obtain ⟨rfl,Cu⟩:=iI _ _ hq;have oS:=yr (wo e hq);have Eg:rest.length<=l.length:=by have:=(wo e hq).length_le;simp at this;omega
      obtain ⟨tN,Fu⟩:=zzM (l.length-rest.length);rw [<- Fu] at oS;have Ds:(l.length:Int)-(rest.length:Int)=(tN:Int):=by omega
      rw [Ds];have DH:=mj Fu;clear Fu Ds;have hs:zM (rdN e) ((jJ hand t).take (k+1)) (l.drop i0)=some (ps++[b],l.drop tN):=by
       rw [HS.out];simp [qR,HC.out,hq,oS]
      have NF:=mj hs;have NP:=mj Cu;clear hs Cu hq ij iI oS;go_wp2_with (at_builtin;refine zE rfl _ _ 45 rfl 47 (.agg #[str [],.int .i64 0,.slice none 0 0,.slice none 0 0]) 4 72 OV Tryz.infoN rfl (by decide) (.slice ya ny yc) ny yv rfl ?c1 _ 1 [str s6,.int .i64 v6,.slice a2 n2 k2,.slice a3 n3 k3] rfl ?c2 ?c3 ?c4 ?_)
      case c1 =>
       refine (HR.out.ownY.keep fun g o hg ho=>?_).alloc _ |>.alloc _;rw [Q2.out.1.block g (zZ ho)];exact ho
      case c2=>exact zq.lit4 #[str s6,.int .i64 v6,.slice a2 n2 k2,.slice a3 n3 k3] rfl (by simp [str,Of]) _ (by simp)
      case c3=>unfold maxLen;omega
      case c4=>omega
      intro a' c' w7 nL mo nG;have hW:Below wr.heap.size wr ((w6.alloc (.cells #[str s6,.int .i64 v6,.slice a2 n2 k2,.slice a3 n3 k3] 47)).alloc (.cells #[str s6,.int .i64 v6,.slice a2 n2 k2,.slice a3 n3 k3] 47)):=(Q2.out.1.alloc Q2.out.1.size _).alloc (by have:=Q2.out.1.size;simp;omega) _
      have hC:zW (wr.heap.size<=·) ((w6.alloc (.cells #[str s6,.int .i64 v6,.slice a2 n2 k2,.slice a3 n3 k3] 47)).alloc (.cells #[str s6,.int .i64 v6,.slice a2 n2 k2,.slice a3 n3 k3] 47)) (kL b) [str s6,.int .i64 v6,.slice a2 n2 k2,.slice a3 n3 k3] :=
       (Rep.keep fun i o hi ho=>⟨hi,zU (zU ho)⟩).2 _ _ NP.out
      have hA:=HR.out.yes IW (by omega) (show w.heap.size<w.heap.size+1 by omega) hW hC nL mo (fun g hg=>by simpa only [zK] using nG g hg) NF.out (by have:=DH.out;omega);have z7:=mo.size;rw [zK,zK] at z7;have BQ:w7.cell? ⟨w.heap.size+1,3,none⟩=some (.slice ya ny yc):=by
       rw [mo.cell (by simp only [zK];omega) (fun e=>by have h:w.heap.size+2<=w.heap.size+1:=HR.out.blkY _ e;omega)];exact zV (zV q3)
      have I2:w7.frozen? ⟨w.heap.size+1,3,none⟩=false:=by
       rw [OS (w:=w6) (by rw [mo.block _ (by simp only [zK];omega) (fun e=>by have h:w.heap.size+2<=w.heap.size+1:=HR.out.blkY _ e;omega)];rw [Below.heap_alloc _ _ _ (by simp only [zK];omega),Below.heap_alloc _ _ _ (by omega)])];exact JG
      have HA:=mj hA;clear hA hW hC nL mo nG;go_wp2_with fail
      go_roundw
      case rel=>exact ⟨k+1,tN,by omega,rfl,by go_num,_,_,_,_,_,_,_,HA.out⟩
      case measure=>simp [intOf];omega
  ·have oU:k=t.args.length+2:=by omega
   have rF:¬ (k:Int)<(t.args.length:Int)+2:=by omega
   have hp:zM (rdN e) (jJ hand t) (l.drop i0)=some (ps,l.drop en):=by
    have:=HP.out;rwa [oU,PR (by rw [uz];exact my _)] at this
   have hm:rdN (e+1) hand (l.drop i)=(do
    let l2<-cut [41] (l.drop en)
    let b<-wj v t.args.length ps
    some (b,l2)):=by rw [HM.out,hp];rfl
   have HM:=mj hm;have HKN:=mj oU;clear hm hp oU;by_cases Au:∃ h:en<l.length,l[en]=41;rotate_left
   ·have hm:rdN (e+1) hand (l.drop i)=none:=by
     have hc:cut [41] (l.drop en)=none:=by
      by_cases h:en<l.length
      ·rw [yw h,if_neg (fun h'=>Au ⟨h,h'⟩)]
      ·exact bQ (by omega)
     rw [HM.out,hc];rfl
    have HM:=mj hm;clear hm;have sE:(l.length<=en)\/∃ h:en<l.length,((((⟨l.toArray⟩:ByteArray)[en]'(kr h)).toNat:Int) != 41)=true:=by
     by_cases h:en<l.length
     ·exact .inr ⟨h,vH h (n:=41) (by decide) (fun h'=>Au ⟨h,h'⟩)⟩
     ·exact .inl (by omega)
    clear Au;rcases sE with h | ⟨h,f5⟩
    focus
     have g1:(l.length:Int)<=(en:Int):=by omega
    rotate_left
    all_goals
     go_wp2_with fail
     obtain ⟨W,hW,s0,s1,s2,s3,nV,_⟩:=i9.store (.string ⟨#[]⟩) (.int .i64 0) (.slice none 0 0) (.slice none 0 0);rw [<- hW];refine bodyPost_ret (v:=.tuple #[.agg #[str [],.int .i64 0,.slice none 0 0,.slice none 0 0],.int .i64 (-1)]) (by simp [results,ON,go_sem,s0,s1,s2,s3]) rfl ?_;exact uT.no HM.out (nV _ _ hb (my _))
   obtain ⟨oX,Au⟩:=Au;have f5:=vf oX (n:=41) (by decide) Au;have g1:decide ((en:Int)<0)=false:=by rw [decide_eq_false_iff_not];omega
   have g2:decide (l.length<=en)=false:=by rw [decide_eq_false_iff_not];omega
   have HC:Hid (cut [41] (l.drop en)=some (l.drop (en+1))):=by show cut [41] (l.drop en)=_;rw [yw oX,if_pos Au]
   clear Au;go_wp2_with fail
   obtain ⟨W,hW,s0,s1,s2,s3,nV,nT⟩:=i9.store (str []) (.int .i64 v) (.slice ka nk kc) (.slice ya ny yc);have E0:=HR.out;have i8:=E0.len;have hnk:=E0.hnk;have hny:=E0.hny;have oU:=HKN.out;obtain ⟨y1,y2,FH⟩:∃ y1 y2,ps.drop t.args.length=[y1,y2]:=by
    match hd:ps.drop t.args.length with
    | [a,b]=>exact ⟨a,b,rfl⟩
    | []=>have:=congrArg Pj hd;simp at this;omega
    | [a]=>have:=congrArg Pj hd;simp at this;omega
    | a::b::c::d=>have:=congrArg Pj hd;simp at this;omega
   have hm:rdN (e+1) hand (l.drop i)=some (.ask v (ps.take t.args.length) y1 y2,l.drop (en+1)):=by
    rw [HM.out,HC.out];simp [wj,FH]
   have hnk':nk=(ps.take t.args.length).length:=by simp;omega
   have hny':ny=2:=by omega
   rw [<- hW];refine bodyPost_ret (v:=.tuple #[.agg #[str [],.int .i64 v,.slice ka nk kc,.slice ya ny yc],.int .i64 ((en:Int)+1)]) (by simp [results,ON,go_sem,s0,s1,s2,s3]) rfl ?_;refine uT.yes (s:=[]) hm (by simp;omega) (nV _ _ hb (my _)) ?_;rw [xK];refine zQ.2 ⟨_,_,rfl,zH.2 rfl,zQ.2 ⟨_,_,rfl,zH.2 rfl,zQ.2 ⟨_,_,rfl,?_,zQ.2 ⟨_,_,rfl,?_,zC.2 rfl⟩⟩⟩⟩
   ·rw [<- hnk'];refine (E0.ownK.keep fun g o hg ho=>nT g o (by have:=(E0.blkK g hg).1;omega) ho).rep (fun g hg=>by have:=(E0.blkK g hg).1;omega) ?_;exact (Rep.keep fun x o hx ho=>⟨by have:=hx.1;omega,nT x o (by have:=hx.1;omega) ho⟩).2 _ _ E0.repK
   ·have sS:=E0.repY;rw [FH] at sS;rw [<- hny'];refine (E0.ownY.keep fun g o hg ho=>nT g o (by have:=E0.blkY g hg;omega) ho).rep (fun g hg=>by have:=E0.blkY g hg;omega) ?_;exact (Rep.keep fun x o hx ho=>⟨by have:=hx.1;omega,nT x o (by have:=hx.1;omega) ho⟩).2 _ _ sS
theorem l3Read_any (l:Bs) (hl:Lim l.length) (e:Nat):∀ d,e+d=101->NodeSaid l e d:=by
 induction e with
 | zero=>exact fun d Dv F hand hv i w hi _ hr=>ch l hl 0 d Dv F hand hv i w hi hr (fun _=>.inl rfl)
 | succ e ih =>
   intro d Dv F hand hv i w hi hh hr;by_cases h:∃ h:i<l.length,l[i]=40
   ·obtain ⟨h,se⟩:=h;exact l3Read_ask l hl e d Dv (ih (d+1) (by omega)) F hand hv i w h hh hr se
   ·exact ch l hl (e+1) d Dv F hand hv i w hi hr (fun h'=>.inr fun se=>h ⟨h',se⟩)
def qw:Bd->List Bd
 | .leaf _=>[]
 | .ask _ ss _ _=>ss
def jA:Bd->List Bd
 | .leaf _=>[]
 | .ask _ _ y n=>[y,n]
def vD:Bd->Bs
 | .leaf c=>[c]
 | .ask _ _ _ _=>[]
def AtN (F:Nat->Prop) (w:World) (bs:List Bd) (a:Option Addr) (k:Nat):Prop :=
 ∃ b o s v a2 n2 c2 a3 n3 c3 d,a=some ⟨b,o,none⟩/\b<w.heap.size/\bs[k]? = some d/\w.cell? ⟨b,o+k*4,none⟩=some (str s)/\w.cell? ⟨b,o+k*4+1,none⟩=some (.int .i64 v) /\
   w.cell? ⟨b,o+k*4+2,none⟩=some (.slice a2 n2 c2)/\w.cell? ⟨b,o+k*4+3,none⟩=some (.slice a3 n3 c3)/\zW F w (kL d) [str s,.int .i64 v,.slice a2 n2 c2,.slice a3 n3 c3]
def bH (F:Nat->Prop) (w:World) (bs:List Bd) (a:Option Addr):Prop:=∀ k,k<bs.length->AtN F w bs a k
theorem vc {F:Nat->Prop} {w:World} {b:Bd} {vs:List Value} (h:zW F w (kL b) vs) :
 ∃ v a2 c2 a3 c3,vs=[str (vD b),.int .i64 v,.slice a2 (qw b).length c2,.slice a3 (jA b).length c3] /\
   Rep F w (.sl 47 4 (qw b).length (zh (qw b))) (.slice a2 (qw b).length c2)/\Rep F w (.sl 47 4 (jA b).length (zh (jA b))) (.slice a3 (jA b).length c3):=by
 have key:∀ (s:Bs) (v:Int) (d2 d3:DV) (n2 n3:Nat) (k2 k3:List DV),d2=.sl 47 4 n2 k2->d3=.sl 47 4 n3 k3->zW F w [.val (str s),.val (.int .i64 v),d2,d3] vs ->
  ∃ a2 c2 a3 c3,vs=[str s,.int .i64 v,.slice a2 n2 c2,.slice a3 n3 c3]/\Rep F w d2 (.slice a2 n2 c2)/\Rep F w d3 (.slice a3 n3 c3):=by
  intro s v d2 d3 n2 n3 k2 k3 e2 e3 h;obtain ⟨_,_,rfl,h0,h⟩:=zQ.1 h;obtain ⟨_,_,rfl,h1,h⟩:=zQ.1 h;obtain ⟨_,_,rfl,h2,h⟩:=zQ.1 h;obtain ⟨_,_,rfl,h3,h⟩:=zQ.1 h;rw [zC] at h;subst h;rw [zH] at h0 h1;subst h0;subst h1;have h2':=h2;have h3':=h3;rw [e2] at h2';rw [e3] at h3';obtain ⟨_,a2,c2,e2',_⟩:=zg.1 h2';obtain ⟨_,a3,c3,e3',_⟩:=zg.1 h3';subst e2';subst e3';exact ⟨a2,c2,a3,c3,rfl,h2,h3⟩
 cases b with
 | leaf c =>
   rw [kL] at h;obtain ⟨a2,c2,a3,c3,e,h2,h3⟩:=key _ _ _ _ 0 0 [] [] rfl rfl h;exact ⟨_,a2,c2,a3,c3,e,h2,h3⟩
 | ask v ss y n =>
   rw [xK] at h;obtain ⟨a2,c2,a3,c3,e,h2,h3⟩:=key _ _ _ _ _ _ _ _ rfl rfl h;exact ⟨_,a2,c2,a3,c3,e,h2,h3⟩
theorem bH.of {F:Nat->Prop} {w:World} {bs:List Bd} {v:Value} (h:Rep F w (.sl 47 4 bs.length (zh bs)) v):∃ a c,v=.slice a bs.length c/\bH F w bs a:=by
 obtain ⟨hl,a,c,rfl,hn,hz,h⟩:=zg.1 h;refine ⟨a,c,rfl,fun k hk=>?_⟩;rcases h with h | ⟨b,o,cs,fr,rfl,hb,hc,hr⟩
 ·omega
 ·have hs:zh bs=zh (bs.take k)++(kL bs[k]++zh (bs.drop (k+1))):=by
   have e1:kL bs[k]=zh [bs[k]]:=by simp [zh]
   rw [e1,<- qD,<- qD]
   congr 1
   simp
  rw [hs] at hr;obtain ⟨h1,h2⟩:=hr.split;obtain ⟨h3,h4⟩:=h2.split;have iu:(zh (bs.take k)).length=k*4:=by rw [encNs_length];simp;omega
  rw [iu,vN] at h3;obtain ⟨v,a2,c2,a3,c3,e,_⟩:=vc h3;have ml:∀ j u,([str (vD bs[k]),.int .i64 v,.slice a2 (qw bs[k]).length c2,.slice a3 (jA bs[k]).length c3]:List Value)[j]? = some u->w.cell? ⟨b,o+k*4+j,none⟩=some u:=by
   intro j u hu;rw [<- e] at hu;have hj:j<4:=by
    have:=(N6.1 hu).1;simp at this;omega
   rw [Pc,if_pos hj,Pd,Pc] at hu;split at hu
   ·rw [Pd] at hu;simp only [GD,hc];rw [Nat.add_assoc];simpa using hu
   ·simp at hu
  refine ⟨b,o,_,v,a2,_,c2,a3,_,c3,bs[k],rfl,zZ hc,by simp [hk],ml 0 _ rfl,ml 1 _ rfl,ml 2 _ rfl,ml 3 _ rfl,?_⟩;rw [<- e];exact h3
theorem fw (b:Bd):kh b=qw b++jA b:=by cases b <;> rfl
def BoxN (g:Nat) (s:Bs) (k y:Value) (w:World):Prop :=
 w.cell? ⟨g,0,none⟩=some (str s)/\w.cell? ⟨g,2,none⟩=some k/\w.cell? ⟨g,3,none⟩=some y
theorem BoxN.below {g:Nat} {s:Bs} {k y:Value} {w w':World} (h:BoxN g s k y w) (hb:Below w.heap.size w w'):BoxN g s k y w':=by
 obtain ⟨h1,h2,h3⟩:=h;have:=mx w _ h1;exact ⟨by rw [hb.cell (by exact this)];exact h1,by rw [hb.cell (by exact this)];exact h2,by rw [hb.cell (by exact this)];exact h3⟩
def eX (b:Bd):Prop:=∀ (F:Nat->Prop) (w:World) (s:Bs) (v:Int) (a2:Option Addr) (n2 c2:Nat) (a3:Option Addr) (n3 c3:Nat),zW F w (kL b) [str s,.int .i64 v,.slice a2 n2 c2,.slice a3 n3 c3] ->
 Calls KD 38 #[.agg #[str s,.int .i64 v,.slice a2 n2 c2,.slice a3 n3 c3]] w fun en w'=>en=.returned (.int .i64 (zX b))/\Below w.heap.size w w'
theorem l3Size_step (b:Bd) (hl:Lim (zX b)) (ih:∀ b',zX b'<zX b->eX b'):eX b:=by
 intro F w s v a2 n2 c2 a3 n3 c3 hv;have Cf:=vc hv;obtain ⟨v',A8,A7,DE,DC,e,hk,hy⟩:=Cf;simp only [Od,N_,and_true] at e;obtain ⟨e0,e1,⟨rfl,e2,rfl⟩,⟨rfl,e3,rfl⟩⟩:=e;clear e0 e1;subst e2;subst e3;obtain ⟨_,_,ek,aR⟩:=bH.of hk;obtain ⟨_,_,ey,MR⟩:=bH.of hy;simp only [N_,true_and] at ek ey;obtain ⟨rfl,rfl⟩:=ek;obtain ⟨rfl,rfl⟩:=ey;have IH:=mj ih;clear ih;have iU:=hl.le;have hsz:=ug b;rw [fw,jy] at hsz;have iu:=qL (qw b);have JN:=qL (jA b);have E1:=mj hsz;have kl:(qw b).length<=16777216:=by omega
 have yl:(jA b).length<=16777216:=by omega
 have ATK:=mj aR;have ATY:=mj MR;clear aR MR hk hy hv hsz iu JN;generalize hK:qw b=kids at *;generalize hY:jA b=yess at *;clear hK hY;go_enter Tryz.func38,Tryz.ntmps38;go_wp2_with fail
 go_loopw [3,4] (fun n i wr=>∃ k:Nat,k<=kids.length/\i=.int .i64 k/\n=.int .i64 ((1+zR (kids.take k):Nat):Int)/\Below w.heap.size w wr/\BoxN w.heap.size s (.slice a2 kids.length c2) (.slice a3 yess.length c3) wr) (fun _ i _=>kids.length-(intOf i).toNat)
 case atStart=>exact ⟨0,Og _,rfl,by simp [zR],(mw _ _).alloc (my _) _,by simp,by simp,by simp⟩
 case round =>
  rename_i wr;obtain ⟨k,hk,rfl,rfl,hb,hc⟩:=hrel;obtain ⟨tU,tf,EL⟩:=id hc;by_cases m_:k<kids.length
  ·obtain ⟨bb,o,s',v',b2,m2,d2,b3,m3,d3,t,rfl,hbb,ht,u0,u1,u2,u3,hr⟩:=ATK.out k m_;have q0:=(hb.cell hbb).trans u0;have q1:=(hb.cell hbb).trans u1;have q2:=(hb.cell hbb).trans u2;have q3:=(hb.cell hbb).trans u3;have aH:=(zW.below (F':=F) hb (fun _ h=>h) hr);have hs:=ye ht;have rL:=vX kids (k+1);have aS:=E1.out;have hp:=kW t;have IH':=mj (IH.out t (by omega));have HS:=mj hs;have b1:1+zR (kids.take k)+zX t<=16777216:=by omega
   have hz:=mx wr _ tU;clear hs ht aS u0 u1 u2 u3 hr;go_wp2_with fail
   refine (IH'.out _ _ _ _ _ _ _ _ _ _ aH).mono ?_;rintro en w2 ⟨rfl,me⟩;have nZ:=zzT hb me;obtain ⟨tU,tf,EL⟩:=id (hc.below me);have EM:=mj (hc.below me);go_wp2_with fail
   go_roundw
   case rel=>exact ⟨k+1,by omega,by go_num,by rw [HS.out] <;> go_num,nZ,EM.out⟩
   case measure=>simp [intOf];omega
  ·obtain rfl:k=kids.length:=by omega
   rw [Oh];have bK:1+zR kids<=16777216:=by have:=E1.out;omega
   clear hk m_;go_wp2_with fail
   have nN:=hb;have aE:=hc;clear hb hc tU tf EL
   go_loopw [3,5] (fun n i wr=>∃ k:Nat,k<=yess.length/\i=.int .i64 k/\n=.int .i64 ((1+zR kids+zR (yess.take k):Nat):Int)/\Below w.heap.size w wr/\BoxN w.heap.size s (.slice a2 kids.length c2) (.slice a3 yess.length c3) wr) (fun _ i _=>yess.length-(intOf i).toNat)
   case atStart=>exact ⟨0,Og _,rfl,by simp [zR],nN,aE⟩
   case round =>
    clear nN aE;obtain ⟨k,hk,rfl,rfl,hb,hc⟩:=hrel;obtain ⟨tU,tf,EL⟩:=id hc;by_cases m_:k<yess.length
    ·obtain ⟨bb,o,s',v',b2,m2,d2,b3,m3,d3,t,rfl,hbb,ht,u0,u1,u2,u3,hr⟩:=ATY.out k m_;have q0:=(hb.cell hbb).trans u0;have q1:=(hb.cell hbb).trans u1;have q2:=(hb.cell hbb).trans u2;have q3:=(hb.cell hbb).trans u3;have aH:=(zW.below (F':=F) hb (fun _ h=>h) hr);have hs:=ye ht;have rL:=vX yess (k+1);have aS:=E1.out;have hp:=kW t;have IH':=mj (IH.out t (by omega));have HS:=mj hs;have b1:1+zR kids+zR (yess.take k)+zX t<=16777216:=by omega
     have hz:=mx _ _ tU;clear hs ht aS u0 u1 u2 u3 hr;go_wp2_with fail
     refine (IH'.out _ _ _ _ _ _ _ _ _ _ aH).mono ?_;rintro en w2 ⟨rfl,me⟩;have nZ:=zzT hb me;obtain ⟨tU,tf,EL⟩:=id (hc.below me);have EM:=mj (hc.below me);go_wp2_with fail
     go_roundw
     case rel=>exact ⟨k+1,by omega,by go_num,by rw [HS.out] <;> go_num,nZ,EM.out⟩
     case measure=>simp [intOf];omega
    ·obtain rfl:k=yess.length:=by omega
     go_wp2_with fail
     go_ret;exact ⟨un (by rw [E1.out,Oh];omega),hb⟩
theorem cW (n:Nat):∀ b,zX b<=n->Lim n->eX b:=by
 induction n with
 | zero=>intro b h _;have:=kW b;omega
 | succ n ih=>exact fun b h hn=>l3Size_step b (hn.mono h) (fun b' h'=>ih b' (by omega) (hn.mono (by omega)))
theorem oneCell_encN {F:Nat->Prop} {w:World} {b:Bd} {us:List Value} (h:zW F w (kL b) us):∀ u∈us,u.oneCell'=true:=by
 obtain ⟨v,a2,c2,a3,c3,rfl,_⟩:=vc h;simp [str,Of]
theorem Tryz.infoBo:(KD.info? 145).map (fun i=>(i.zero,i.size,i.bytes))=some (some (.agg #[.int .i64 0,str [],.int .i64 0,.slice none 0 0,.slice none 0 0,.slice none 0 0,.slice none 0 0,.int .i64 0,.int .i64 0]),9,144):=by kernel_rfl
def qX (s text:Bs):Option Bd :=
 if (zI s).2=false\/2000<text.length then none else
 match rdN 101 (zI s).1.args text with
 | none=>none
 | some (b,rest)=>if rest=[]/\zX b<=200 then some b else none
theorem vM {l:Bs} (h:(zI l).2=true):zJ (zI l).1<=15:=by
 unfold zI at *;split at h
 ·simp at h
 ·rename_i hl;rw [if_neg hl];cases hq:rdS 21 l with
  | none=>rw [hq] at h;simp at h
  | some x=>rw [hq] at h;obtain ⟨t,rest⟩:=x;simp at h;exact h.2
theorem ce {t:Ty} (h:zJ t<=15):jP 101 t.args:=by
 have hm:=qi t;have key:∀ (ts:List Ty) (x:Ty),x∈ts->zJ x<=zc ts:=by
  intro ts
  induction ts with
  | nil=>intro x hx;simp at hx
  | cons y ys ih =>
    intro x hx;rcases List.mem_cons.1 hx with rfl | hx
    ·simp [zc];omega
    ·have:=ih x hx;simp [zc];omega
 refine ⟨fun x hx=>?_,?_⟩
 ·have:=key t.args x hx;omega
 ·have:=qB t.args;omega
theorem gF {w:World} {p a:Addr} {u v:Value} (h:w.cell? a=some v) (hne:a.block≠p.block):(w.setCell p u).cell? a=some v:=by
 rw [P7 (w:=w) (mp _ _ _ _ hne)];exact h
theorem pH {w w':World} {a:Addr} {v:Value} (h:w.cell? a=some v) (hk:∀ x,w.heap[a.block]? = some x->w'.heap[a.block]? = some x):w'.cell? a=some v:=by
 have m_:=mx w a h;rw [P7 (w:=w)]
 ·exact h
 ·rw [hk _ (Oo m_),Oo m_]
abbrev KeepS (g1 g2:Nat) (T u0 u1 u2 u3:Value) (w:World):Prop :=
 w.cell? ⟨g1,0,none⟩=some T/\w.cell? ⟨g2,0,none⟩=some u0/\w.cell? ⟨g2,1,none⟩=some u1/\w.cell? ⟨g2,2,none⟩=some u2/\w.cell? ⟨g2,3,none⟩=some u3
theorem KeepS.set {g1 g2:Nat} {T u0 u1 u2 u3:Value} {w:World} (h:KeepS g1 g2 T u0 u1 u2 u3 w) (b o:Nat) (u:Value) (h1:g1≠b) (h2:g2≠b):KeepS g1 g2 T u0 u1 u2 u3 (w.setCell ⟨b,o,none⟩ u) :=
 ⟨gF h.1 h1,gF h.2.1 h2,gF h.2.2.1 h2,gF h.2.2.2.1 h2,gF h.2.2.2.2 h2⟩
def vE (s text:Bs) (w:World) (en:Ending) (w':World):Prop :=
 ∃ (a:Option Addr) (c:Nat) (s':Bs) (v':Int) (a2:Option Addr) (n2 c2:Nat) (a3:Option Addr) (n3 c3:Nat),
   en=.returned (.tuple #[.agg #[.slice a (zI s).1.args.length c],.agg #[str s',.int .i64 v',.slice a2 n2 c2,.slice a3 n3 c3],.bool (qX s text).isSome])/\Below w.heap.size w w' /\
   Rep (w.heap.size<=·) w' (ke (zI s).1) (.slice a (zI s).1.args.length c) /\
   (∀ b,qX s text=some b->zW (w.heap.size<=·) w' (kL b) [str s',.int .i64 v',.slice a2 n2 c2,.slice a3 n3 c3])
theorem vE.no {s text:Bs} {w w':World} {a:Option Addr} {c:Nat} {v:Value} (hv:v=.slice a (zI s).1.args.length c) {s':Bs} {v':Int} {a2:Option Addr} {n2 c2:Nat} {a3:Option Addr} {n3 c3:Nat} {f:Bool} (hf:f=false) (hn:qX s text=none) (hb:Below w.heap.size w w')
 (hr:Rep (w.heap.size<=·) w' (ke (zI s).1) v) :
 vE s text w (.returned (.tuple #[.agg #[v],.agg #[str s',.int .i64 v',.slice a2 n2 c2,.slice a3 n3 c3],.bool f])) w':=by
 subst hv;subst hf;exact ⟨a,c,s',v',a2,n2,c2,a3,n3,c3,by rw [hn];rfl,hb,hr,fun b h=>by rw [hn] at h;simp at h⟩
theorem vE.yes {s text:Bs} {w w':World} {a:Option Addr} {c:Nat} {v:Value} (hv:v=.slice a (zI s).1.args.length c) {s':Bs} {v':Int} {a2:Option Addr} {n2 c2:Nat} {a3:Option Addr} {n3 c3:Nat} {f:Bool} {b:Bd} (hf:f=true) (hn:qX s text=some b) (hb:Below w.heap.size w w')
 (hr:Rep (w.heap.size<=·) w' (ke (zI s).1) v) (tF:zW (w.heap.size<=·) w' (kL b) [str s',.int .i64 v',.slice a2 n2 c2,.slice a3 n3 c3]) :
 vE s text w (.returned (.tuple #[.agg #[v],.agg #[str s',.int .i64 v',.slice a2 n2 c2,.slice a3 n3 c3],.bool f])) w':=by
 subst hv;subst hf;exact ⟨a,c,s',v',a2,n2,c2,a3,n3,c3,by rw [hn];rfl,hb,hr,fun b' h=>by rw [hn] at h;simp at h;subst h;exact tF⟩
theorem fe (s text:Bs) (hs:Lim s.length) (hl:Lim text.length) (w:World):Calls KD 47 #[str s,str text] w (vE s text w):=by
 have oJ:=hs.le;have iU:=hl.le;go_enter Tryz.func47,Tryz.ntmps47;go_wp2_with fail
 refine (xO s hs _).mono ?_;rintro en w1 ⟨v1,rfl,mi,iz⟩;have z1:=mi.size;rw [zK,zK] at z1;obtain ⟨a1,c1,e1⟩:=kU iz;have E1:=mj e1;have tY:Below w.heap.size w w1:=(((mw w.heap.size w).alloc (my _) _).alloc (by simp) _).trans (mi.mono (by simp;omega));have ln:w.heap.size<w1.heap.size:=by omega
 have sI:w.heap.size+1<w1.heap.size:=by omega
 have r0:w1.cell? ⟨w.heap.size,0,none⟩=some (.slice none 0 0):=by rw [mi.cell (by simp only [zK];omega)];exact zV (by simp)
 have sG:w1.frozen? ⟨w.heap.size,0,none⟩=false:=by
  rw [mi.frozen (by simp only [zK];omega)];rw [OS (w:=w.alloc (.cells #[.slice none 0 0] 42)) (Below.heap_alloc _ _ _ (by simp))];simp
 have hN:kQ (w.heap.size+1) 0 (.slice none 0 0) (.slice none 0 0) w1:=by
  unfold kQ;rw [mi.block _ (by simp)];have:=zG (w.alloc (.cells #[.slice none 0 0] 42)) (.cells #[str [],.int .i64 0,.slice none 0 0,.slice none 0 0] 47);rw [zK] at this;exact this
 subst e1;have Dg:Rep (w.heap.size+1 < ·) w1 (ke (zI s).1) (.slice a1 (zI s).1.args.length c1):=(Rep.keep fun b o h ho=>⟨by have:=xA h;rw [zK] at this;omega,ho⟩).1 _ _ iz
 have HS:Hid (qX s text=if (zI s).2=false\/2000<text.length then none else
  match rdN 101 (zI s).1.args text with
  | none=>none
  | some (b,rest)=>if rest=[]/\zX b<=200 then some b else none):=rfl
 have FF:=mj (vM (l:=s));generalize hT:(zI s).1=t at *;generalize hO:(zI s).2=ok at *;have HT:=mj hT;clear hT hO iz;obtain ⟨q0,q1,q2,q3,ql,qf⟩:=hN.cells;have qf0:=qf 0;have qf1:=qf 1;have Fe:=qf 2;have JG:=qf 3;clear qf;by_cases sE:ok=true/\text.length<=2000;rotate_left
 ·have hn:qX s text=none:=by
   rw [HS.out,if_pos];cases ok with
   | false=>exact .inl rfl
   | true=>exact .inr (by simp at sE;omega)
  have HN:=mj hn;clear hn;have sE:ok=false\/(ok=true/\(2000:Int)<(text.length:Int)):=by
   cases ok with
   | false=>exact .inl rfl
   | true=>exact .inr ⟨rfl,by simp at sE;omega⟩
  have h0:kQ (w.heap.size+1) 0 (.slice none 0 0) (.slice none 0 0) (w1.setCell ⟨w.heap.size,0,none⟩ (.slice a1 t.args.length c1)):=by
   unfold kQ;rw [mp _ _ _ _ (by simp)];exact hN
  obtain ⟨W,hW,s0,s1,s2,s3,nV,nT⟩:=h0.store (.string ⟨#[]⟩) (.int .i64 0) (.slice none 0 0) (.slice none 0 0);have t0:W.cell? ⟨w.heap.size,0,none⟩=some (.slice a1 t.args.length c1):=pH (vG r0 _) fun x hx=>nT _ x (by simp) hx;have lm:=nV _ _ (tY.setCell (p:=⟨w.heap.size,0,none⟩) (my _) (.slice a1 t.args.length c1)) (by omega);have En:Rep (w.heap.size<=·) W (ke t) (.slice a1 t.args.length c1):=(Rep.keep fun b o h ho=>⟨by omega,nT b o (by omega) (by rw [mp _ _ _ _ (by simp;omega)];exact ho)⟩).1 _ _ Dg
  have FIN:Hid (∀ o,vE s text w (.returned (.tuple #[.agg #[.slice a1 t.args.length c1],.agg #[str [],.int .i64 0,.slice none 0 0,.slice none 0 0],.bool false])) (W.alloc o)):=fun o =>
   vE.no (a:=a1) (c:=c1) (by rw [HT.out]) rfl HN.out (lm.alloc lm.size o) (by rw [HT.out];exact (Rep.keep fun b o h ho=>⟨h,zU ho⟩).1 _ _ En)
  have HW:=mj hW;clear h0 hW nV nT lm En;rcases sE with rfl | ⟨rfl,h⟩
  all_goals
   go_wp2_with fail
   rw [<- HW.out];refine bodyPost_ret (v:=.tuple #[.agg #[.slice a1 t.args.length c1],.agg #[str [],.int .i64 0,.slice none 0 0,.slice none 0 0],.bool false]) (by simp [results,Rx,go_sem,zV t0,zV s0,zV s1,zV s2,zV s3]) rfl ?_;exact FIN.out _
 obtain ⟨rfl,GF⟩:=sE;have htl':¬ (2000:Int)<(text.length:Int):=by omega
 have ml:=FF.out rfl
 have hm:qX s text=(match rdN 101 t.args text with
  | none=>none
  | some (b,rest)=>if rest=[]/\zX b<=200 then some b else none):=by rw [HS.out,if_neg (by simp;omega)]
 have HM:=mj hm;clear hm HS FF;have hvE:=Dg;rw [q_] at hvE;have hho:=ce ml;go_wp2_with fail
 refine (l3Read_any text hl 101 0 rfl (w.heap.size+1 < ·) t.args _ 0 _ (Og _) hho (by exact (Rep.keep fun b o h ho=>⟨h,zU ho⟩).1 _ _ hvE)).mono ?_;rw [List.drop_zero];rintro en w2 ⟨s',v',a2,n2,c2,a3,n3,c3,k,rfl,me,aK,iO⟩;have z2:=me.size;rw [zK] at z2;have Cy:Below w.heap.size w w2:=(tY.alloc (by omega) _).trans (me.mono (by rw [zK];omega));have r0':w2.cell? ⟨w.heap.size,0,none⟩=some (.slice none 0 0):=by rw [me.cell (by rw [zK];simp only;omega)];exact zV r0
 have rf0':w2.frozen? ⟨w.heap.size,0,none⟩=false:=by rw [me.frozen (by rw [zK];simp only;omega)];rw [OS (w:=w1) (Below.heap_alloc _ _ _ ln)];exact sG
 have hN':kQ (w.heap.size+1) 0 (.slice none 0 0) (.slice none 0 0) w2:=by
  unfold kQ;rw [me.block _ (by rw [zK];omega)];exact zU hN
 have DA:w2.cell? ⟨w1.heap.size,0,none⟩=some (.slice a1 t.args.length c1):=by rw [me.cell (by rw [zK];simp only;omega)];simp
 have GE:Rep (w.heap.size+1 < ·) w2 (ke t) (.slice a1 t.args.length c1):=(Rep.keep fun b o h ho=>⟨h,by rw [me.block b (by have:=zZ ho;rw [zK];omega)];exact zU ho⟩).1 _ _ Dg;clear r0 sG hN q0 q1 q2 q3 ql qf0 qf1 Fe JG hvE Dg hho;obtain ⟨q0,q1,q2,q3,ql,qf⟩:=hN'.cells;have qf0:=qf 0;have qf1:=qf 1;have Fe:=qf 2;have JG:=qf 3;clear qf;have y1:w.heap.size<w2.heap.size:=by omega
 have y2:w1.heap.size<w2.heap.size:=by omega
 have nF:=mj me;clear me;by_cases hk:k=(text.length:Int);rotate_left
 ·have g1:(k == (text.length:Int))=false:=by rw [beq_eq_false_iff_ne];exact hk
  have hn:qX s text=none:=by
   rw [HM.out];cases hq:rdN 101 t.args text with
   | none=>rfl
   | some x =>
     obtain ⟨b,rest⟩:=x;have h1:=(iO b rest hq).1;simp only;rw [if_neg];rintro ⟨rfl,_⟩;exact hk (by rw [h1];simp)
  have HN:=mj hn;clear hn hk aK iO;have h0:kQ (w.heap.size+1) 0 (.slice none 0 0) (.slice none 0 0) (w2.setCell ⟨w.heap.size,0,none⟩ (.slice a1 t.args.length c1)):=by
   unfold kQ;rw [mp _ _ _ _ (by simp)];exact hN'
  obtain ⟨W,hW,s0,s1,s2,s3,nV,nT⟩:=h0.store (str s') (.int .i64 v') (.slice a2 n2 c2) (.slice a3 n3 c3);have t0:W.cell? ⟨w.heap.size,0,none⟩=some (.slice a1 t.args.length c1):=pH (vG r0' _) fun x hx=>nT _ x (by simp) hx;have lm:=nV _ _ (Cy.setCell (p:=⟨w.heap.size,0,none⟩) (my _) (.slice a1 t.args.length c1)) (by omega);have En:Rep (w.heap.size<=·) W (ke t) (.slice a1 t.args.length c1):=(Rep.keep fun b o h ho=>⟨by omega,nT b o (by omega) (by rw [mp _ _ _ _ (by simp;omega)];exact ho)⟩).1 _ _ GE
  have FIN:Hid (∀ o,vE s text w (.returned (.tuple #[.agg #[.slice a1 t.args.length c1],.agg #[str s',.int .i64 v',.slice a2 n2 c2,.slice a3 n3 c3],.bool false])) (W.alloc o).drew):=fun o =>
   vE.no (a:=a1) (c:=c1) (by rw [HT.out]) rfl HN.out ((lm.alloc lm.size o).drew) (by rw [HT.out];exact ((Rep.keep fun b o h ho=>⟨h,zU ho⟩).1 _ _ En).drew)
  have HW:=mj hW;clear h0 hW nV nT lm En;go_wp2_with fail
  go_region
  go_wp2_with fail
  rw [<- HW.out];refine bodyPost_ret (v:=.tuple #[.agg #[.slice a1 t.args.length c1],.agg #[str s',.int .i64 v',.slice a2 n2 c2,.slice a3 n3 c3],.bool false]) (by simp [results,Rx,go_sem,zV t0,zV s0,zV s1,zV s2,zV s3]) rfl ?_;exact FIN.out _
 obtain ⟨b,hqb⟩:∃ b,rdN 101 t.args text=some (b,[]):=by
  cases hq:rdN 101 t.args text with
  | none=>have:=aK hq;omega
  | some x =>
    obtain ⟨b,rest⟩:=x;have h1:=(iO b rest hq).1;have:rest.length=0:=by omega
    rw [Ox this];exact ⟨b,rfl⟩
 have hrB:=(iO b [] hqb).2;have hsz:=rdN_size 101 hqb;have hm:qX s text=if zX b<=200 then some b else none:=by
  rw [HM.out,hqb];simp
 have HM:=mj hm;have hlB:Lim (zX b):=hl.mono (by simp at hsz;omega);have g1:(k == (text.length:Int))=true:=by rw [beq_iff_eq];exact hk
 clear hm hqb aK iO hsz;have HK:=mj hk;clear hk
 have hrA:zW (w.heap.size+1 < ·) (w2.alloc (.cells #[str s',.int .i64 v',.slice a2 n2 c2,.slice a3 n3 c3] 47)) (kL b) [str s',.int .i64 v',.slice a2 n2 c2,.slice a3 n3 c3] :=
  (Rep.keep fun b o h ho=>⟨by have:=xA h;omega,zU ho⟩).2 _ _ hrB
 have hTA:(w2.alloc (.cells #[str s',.int .i64 v',.slice a2 n2 c2,.slice a3 n3 c3] 47)).cell? ⟨w1.heap.size,0,none⟩=some (.slice a1 t.args.length c1):=zV DA;have n0:(w2.alloc (.cells #[str s',.int .i64 v',.slice a2 n2 c2,.slice a3 n3 c3] 47)).cell? ⟨w2.heap.size,0,none⟩=some (str s'):=by simp
 have n1:(w2.alloc (.cells #[str s',.int .i64 v',.slice a2 n2 c2,.slice a3 n3 c3] 47)).cell? ⟨w2.heap.size,1,none⟩=some (.int .i64 v'):=by simp
 have ow:(w2.alloc (.cells #[str s',.int .i64 v',.slice a2 n2 c2,.slice a3 n3 c3] 47)).cell? ⟨w2.heap.size,2,none⟩=some (.slice a2 n2 c2):=by simp
 have Bu:(w2.alloc (.cells #[str s',.int .i64 v',.slice a2 n2 c2,.slice a3 n3 c3] 47)).cell? ⟨w2.heap.size,3,none⟩=some (.slice a3 n3 c3):=by simp
 have FA:KeepS w1.heap.size w2.heap.size (.slice a1 t.args.length c1) (str s') (.int .i64 v') (.slice a2 n2 c2) (.slice a3 n3 c3) (w2.alloc (.cells #[str s',.int .i64 v',.slice a2 n2 c2,.slice a3 n3 c3] 47)):=⟨hTA,n0,n1,ow,Bu⟩;have hK3d:KeepS w1.heap.size w2.heap.size (.slice a1 t.args.length c1) (str s') (.int .i64 v') (.slice a2 n2 c2) (.slice a3 n3 c3) (w2.alloc (.cells #[str s',.int .i64 v',.slice a2 n2 c2,.slice a3 n3 c3] 47)).drew:=FA;have Bt:w1.heap.size≠w.heap.size:=by omega
 have Ff:w2.heap.size≠w.heap.size:=by omega
 have iP:w1.heap.size≠w.heap.size+1:=by omega
 have iQ:w2.heap.size≠w.heap.size+1:=by omega
 clear hTA n0 n1 ow Bu;go_wp2_with fail
 go_region_held3 (fun w'=>w'.cell? ⟨w1.heap.size,0,none⟩=some (.slice a1 t.args.length c1)/\w'.cell? ⟨w2.heap.size,0,none⟩=some (str s')/\w'.cell? ⟨w2.heap.size,1,none⟩=some (.int .i64 v')/\w'.cell? ⟨w2.heap.size,2,none⟩=some (.slice a2 n2 c2)/\w'.cell? ⟨w2.heap.size,3,none⟩=some (.slice a3 n3 c3))
  (first
   | with_reducible exact FA
   | with_reducible exact hK3d
   | with_reducible exact oO
   | with_reducible exact oO.set _ _ _ Bt Ff
   | with_reducible exact (oO.set _ _ _ Bt Ff).set _ _ _ iP iQ
   | with_reducible exact ((oO.set _ _ _ Bt Ff).set _ _ _ iP iQ).set _ _ _ iP iQ
   | with_reducible exact (((oO.set _ _ _ Bt Ff).set _ _ _ iP iQ).set _ _ _ iP iQ).set _ _ _ iP iQ
   | with_reducible exact ((((oO.set _ _ _ Bt Ff).set _ _ _ iP iQ).set _ _ _ iP iQ).set _ _ _ iP iQ).set _ _ _ iP iQ
   | with_reducible exact oO.set _ _ _ iP iQ
   | with_reducible exact (oO.set _ _ _ iP iQ).set _ _ _ iP iQ
   | with_reducible exact ((oO.set _ _ _ iP iQ).set _ _ _ iP iQ).set _ _ _ iP iQ
   | with_reducible exact (((oO.set _ _ _ iP iQ).set _ _ _ iP iQ).set _ _ _ iP iQ).set _ _ _ iP iQ
   | with_reducible exact ((((oO.set _ _ _ iP iQ).set _ _ _ iP iQ).set _ _ _ iP iQ).set _ _ _ iP iQ).set _ _ _ Bt Ff)
  (first
   | (go_at_call 38;refine (cW (zX b) b (my _) hlB (w.heap.size+1 < ·) _ _ _ _ _ _ _ _ _ (by exact hrA.drew)).mono ?_;rintro en w5 ⟨rfl,nR⟩;have oO:KeepS w1.heap.size w2.heap.size (.slice a1 t.args.length c1) (str s') (.int .i64 v') (.slice a2 n2 c2) (.slice a3 n3 c3) w5:=⟨(nR.cell (by simp;omega)).trans FA.1,(nR.cell (by simp)).trans FA.2.1,(nR.cell (by simp)).trans FA.2.2.1,(nR.cell (by simp)).trans FA.2.2.2.1,(nR.cell (by simp)).trans FA.2.2.2.2⟩;have z5:=nR.size;have hz5:w.heap.size<w5.heap.size:=(by simp at z5;omega);have r5:w5.cell? ⟨w.heap.size,0,none⟩=some (.slice none 0 0):=(nR.cell (by simp;omega)).trans (zV r0');have f5:w5.frozen? ⟨w.heap.size,0,none⟩=false:=(nR.frozen (by simp;omega)).trans ((OS (w:=w2) (Below.heap_alloc _ _ _ y1)).trans rf0');have hN5:kQ (w.heap.size+1) 0 (.slice none 0 0) (.slice none 0 0) w5:=(by unfold kQ;rw [nR.block _ (by simp;omega)];exact zU hN');obtain ⟨p0,p1,p2,p3,pl,pf⟩:=hN5.cells;have pf0:=pf 0;have pf1:=pf 1;have pf2:=pf 2;have pf3:=pf 3;clear pf))
 go_wp2_with fail
 have h0:kQ (w.heap.size+1) 0 (.slice none 0 0) (.slice none 0 0) (w5.setCell ⟨w.heap.size,0,none⟩ (.slice a1 t.args.length c1)):=by
  unfold kQ;rw [mp _ _ _ _ (by simp)];exact hN5
 obtain ⟨W,hW,s0,s1,s2,s3,nV,nT⟩:=h0.store (str s') (.int .i64 v') (.slice a2 n2 c2) (.slice a3 n3 c3);have t0:W.cell? ⟨w.heap.size,0,none⟩=some (.slice a1 t.args.length c1):=pH (vG r5 _) fun x hx=>nT _ x (by simp) hx;have il:Below w2.heap.size w2 w5:=((((mw _ _).alloc (my _) _).drew).trans (nR.mono (by simp)));have J7:=zzT Cy il;have lm:=nV _ _ (J7.setCell (p:=⟨w.heap.size,0,none⟩) (my _) (.slice a1 t.args.length c1)) (by omega)
 have keepF:∀ i o,w.heap.size+1<i->w2.heap[i]? = some o->W.heap[i]? = some o:=fun i o h ho =>
  nT i o (by omega) (by rw [mp _ _ _ _ (by simp;omega),il.block i (zZ ho)];exact ho)
 have En:Rep (w.heap.size<=·) W (ke t) (.slice a1 t.args.length c1):=(Rep.keep fun b o h ho=>⟨by omega,keepF b o h ho⟩).1 _ _ GE;have hrN:zW (w.heap.size<=·) W (kL b) [str s',.int .i64 v',.slice a2 n2 c2,.slice a3 n3 c3]:=(Rep.keep fun b o h ho=>⟨by have:=xA h;omega,keepF b o (by have:=xA h;omega) ho⟩).2 _ _ hrB;rw [<- hW];refine bodyPost_ret (v:=.tuple #[.agg #[.slice a1 t.args.length c1],.agg #[str s',.int .i64 v',.slice a2 n2 c2,.slice a3 n3 c3],.bool (decide ((zX b:Int)<=200))]) (by simp [results,Rx,go_sem,t0,s0,s1,s2,s3]) rfl ?_;by_cases aQ:zX b<=200
 ·refine vE.yes (a:=a1) (c:=c1) (by rw [HT.out]) (by rw [decide_eq_true_eq];omega) (by rw [HM.out,if_pos aQ]) lm (by rw [HT.out];exact En) hrN
 ·exact vE.no (a:=a1) (c:=c1) (by rw [HT.out]) (by rw [decide_eq_false_iff_not];omega) (by rw [HM.out,if_neg aQ]) lm (by rw [HT.out];exact En)
theorem pX (c:UInt8):dig c=true↔48<=c.toNat/\c.toNat<=57:=by
 simp [dig,Pi]
theorem uZ {k:Nat} (h:k<10):(Rj (48+k)).toNat=48+k:=by
 rw [UInt8.toNat_ofNat'];exact Nat.mod_eq_of_lt (by omega)
theorem decDigits_dig (u:Nat):∀ c∈OC u,dig c=true:=by
 induction u using Ps with
 | _ u ih =>
   intro c hc;rw [OC] at hc;split at hc
   ·rename_i h;rw [Sd] at hc;subst hc;rw [pX,uZ h];omega
   ·rename_i h;rcases List.mem_append.1 hc with hc | hc
    ·exact ih _ (by omega) c hc
    ·simp only [Sd] at hc;subst hc;rw [pX,uZ (by omega)];omega
theorem decDigits_val (u:Nat):jL (OC u)=u:=by
 induction u using Ps with
 | _ u ih =>
   rw [OC];split
   ·rename_i h;show 10*0+((Rj (48+u)).toNat-48)=u;rw [uZ h];omega
   ·rename_i h;rw [wt,ih _ (by omega),uZ (by omega)];omega
theorem dG (u:Nat):OC u≠[]:=by
 intro h;have:=Sa u;have:=Lib.nDigits_pos u;rw [h] at *;simp at *;omega
theorem mP (u:Nat) (h1:1<=u):(OC u).head?≠some 48:=by
 induction u using Ps with
 | _ u ih =>
   rw [OC];split
   ·rename_i h;intro e;rw [List.head?_cons,Option.some.injEq] at e;have:=uZ h;rw [e] at this;have C5:(48:UInt8).toNat=48:=rfl;omega
   ·rename_i h;rw [Si];have:=ih (u / 10) (by omega) (by omega);have hne:=dG (u / 10);cases hd:OC (u / 10) with
    | nil=>exact absurd hd hne
    | cons x xs=>rw [hd] at this;simpa using this
theorem e9 {u:Nat} (h:u<10000):(OC u).length<=4:=by
 rw [Sa];by_cases h1:u<10
 ·rw [Qh h1];omega
 rw [Rv h1];by_cases h2:u / 10<10
 ·rw [Qh h2];omega
 rw [Rv h2];by_cases h3:u / 10 / 10<10
 ·rw [Qh h3];omega
 rw [Rv h3];rw [Qh (by omega)];omega
theorem fold_ge (l:Bs):∀ a:Nat,a<=l.foldl (fun n c=>10*n+(c.toNat-48)) a:=by
 induction l with
 | nil=>intro a;simp
 | cons c cs ih=>intro a;simp only [Ry];have:=ih (10*a+(c.toNat-48));omega
theorem valOf_pos {l:Bs} (hd:∀ c∈l,dig c=true) (hn:l≠[]) (C5:l.head?≠some 48):1<=jL l:=by
 cases l with
 | nil=>exact absurd rfl hn
 | cons c cs =>
   have h1:=(pX c).1 (hd c (by simp));have h2:c.toNat≠48:=fun e=>C5 (by simp;exact Sl.1 (by simpa using e));have:=fold_ge cs (10*0+(c.toNat-48));show 1<=cs.foldl _ (10*0+(c.toNat-48));omega
theorem decDigits_of (n:Nat):∀ w:Bs,w.length=n->w≠[]->(∀ c∈w,dig c=true)->(1<w.length->w.head?≠some 48)->OC (jL w)=w:=by
 induction n with
 | zero=>intro w hl hn;exact absurd (Ox hl) hn
 | succ n ih =>
   intro w hl hn hd hh;obtain ⟨ws,c,rfl⟩:∃ ws c,w=ws++[c]:=⟨w.dropLast,w.getLast hn,(List.dropLast_concat_getLast hn).symm⟩;have hc:=(pX c).1 (hd c (by simp));have hof:Rj (48+(c.toNat-48))=c:=by
    apply Sl.1;rw [uZ (by omega)];omega
   rw [wt];by_cases KQ:ws=[]
   ·subst KQ;show OC (10*0+(c.toNat-48))=[c];rw [Sm (by omega),show 48+(10*0+(c.toNat-48))=48+(c.toNat-48) from by omega,hof]
   ·have lU:1<=ws.length:=by cases ws with
     | nil=>exact absurd rfl KQ
     | cons x xs=>simp
    have C5:ws.head?≠some 48:=by
     have:=hh (by simp;omega);rw [Si] at this;cases ws with
     | nil=>exact absurd rfl KQ
     | cons x xs=>simpa using this
    have hdw:∀ x∈ws,dig x=true:=fun x hx=>hd x (by simp [hx]);have hp:=valOf_pos hdw KQ C5;have hi:=ih ws (by simpa using hl) KQ hdw (fun _=>C5);rw [OC,dif_neg (by omega),show (10*jL ws+(c.toNat-48)) / 10=jL ws from by omega,show (10*jL ws+(c.toNat-48)) % 10=c.toNat-48 from by omega,hi,hof]
theorem decFrom_of (l:Bs):∀ a:Nat,(∀ c∈l,dig c=true)->TW a l=some (l.foldl (fun n c=>10*n+(c.toNat-48)) a):=by
 induction l with
 | nil=>intro a _;rfl
 | cons c cs ih =>
   intro a hd;have hc:=(pX c).1 (hd c (by simp));simp only [TW,Lib.digitVal,if_pos hc,Ry];rw [Nat.mul_comm a 10];exact ih _ fun x hx=>hd x (by simp [hx])
theorem lvl_spec {w:Bs} {n v:Nat} (h:lvl w n=some v) (hn:n<=10000):w≠[]/\w.length<=4/\(∀ c∈w,dig c=true)/\(1<w.length->w.head?≠some 48)/\jL w=v/\v<n:=by
 obtain ⟨h1,_,h3⟩:=lvl_lt h;have e:Pp (v:Int)=OC v:=by unfold Pp;rw [if_neg (by omega)];simp
 rw [e] at h3;subst h3;refine ⟨dG v,e9 (by omega),decDigits_dig v,fun hl=>?_,decDigits_val v,h1⟩;refine mP v ?_;rcases Nat.eq_zero_or_pos v with h0 | h0
 ·subst h0;rw [Sm (by omega)] at hl;simp at hl
 ·exact h0
theorem spec_lvl {w:Bs} {n:Nat} (h1:w≠[]) (h2:w.length<=4) (h3:∀ c∈w,dig c=true) (h4:1<w.length->w.head?≠some 48) (h5:jL w<n):lvl w n=some (jL w):=by
 have ha:Lib.atoiAll w=.ok (jL w:Int):=by
  rw [Lib.atoiAll_short w (by omega)];cases w with
  | nil=>exact absurd rfl h1
  | cons c cs =>
    have hc:=(pX c).1 (h3 c (by simp));have n45:(c == 45)=false:=by rw [beq_eq_false_iff_ne];rintro rfl;have:(45:UInt8).toNat=45:=rfl;omega
    have n43:(c == 43)=false:=by rw [beq_eq_false_iff_ne];rintro rfl;have:(43:UInt8).toNat=43:=rfl;omega
    simp only [Lib.atoi,n45,n43,Bool.false_eq_true,if_false,Lib.decNat,List.isEmpty_cons];rw [decFrom_of _ 0 h3];rfl
 have hi:Pp (jL w:Int)=w:=by
  have e:Pp (jL w:Int)=OC (jL w):=by unfold Pp;rw [if_neg (by omega)];simp
  rw [e,decDigits_of w.length w rfl h1 h3 h4]
 unfold lvl;rw [ha];simp only;rw [if_pos ⟨hi,by omega,by omega⟩];simp
def jC (l:Bs):Prop:=l=[]\/∃ c r,l=c::r/\sep c=true
theorem dig_sep {c:UInt8} (h:dig c=true):sep c=false:=by
 have:=(pX c).1 h;rw [Bool.eq_false_iff];intro hs;simp only [sep,Bool.or_eq_true,beq_iff_eq] at hs;rcases hs with (rfl | rfl) | rfl
 ·have:(32:UInt8).toNat=32:=rfl;omega
 ·have:(40:UInt8).toNat=40:=rfl;omega
 ·have:(41:UInt8).toNat=41:=rfl;omega
theorem vl (l:Bs):l=zF l++zD l:=(List.takeWhile_append_dropWhile).symm
theorem wordDrop (l:Bs):l.drop (zF l).length=zD l:=by
 have h:=vl l;generalize zF l=a at *;generalize zD l=b at *;subst h;simp
theorem pu (l:Bs):jC (zD l):=by
 unfold zD
 induction l with
 | nil=>exact .inl rfl
 | cons c cs ih =>
   rw [List.dropWhile_cons];split
   ·exact ih
   ·rename_i h;exact .inr ⟨c,cs,rfl,by simpa using h⟩
theorem gI {w rest:Bs} (hw:∀ c∈w,sep c=false) (hr:jC rest):zF (w++rest)=w/\zD (w++rest)=rest:=by
 unfold zF zD
 induction w with
 | nil =>
   rcases hr with rfl | ⟨c,r,rfl,hc⟩
   ·exact ⟨rfl,rfl⟩
   ·simp [hc]
 | cons x xs ih =>
   have hx:=hw x (by simp);have:=ih fun c hc=>hw c (by simp [hc]);simp [hx,this.1,this.2]
theorem digsOf_of {w rest:Bs} (hw:∀ c∈w,dig c=true) (hl:w.length<=4) (hr:jC rest):qI (w++rest)=w:=by
 unfold qI;rw [List.take_append,PR hl];have key:(rest.take (4-w.length)).takeWhile dig=[]:=by
  rcases hr with rfl | ⟨c,r,rfl,hc⟩
  ·simp
  ·cases 4-w.length with
   | zero=>rfl
   | succ k =>
     rw [List.take_succ_cons,List.takeWhile_cons,if_neg];intro h;rw [dig_sep h] at hc;simp at hc
 rw [List.takeWhile_append_of_pos (fun c hc=>hw c hc),key,Ov]
theorem yU {c:UInt8} {r:Bs}:cut [c] (c::r)=some r:=by simp [cut,Pr]
theorem dz (rd:RdS) (hs gs:List (List Ty)):∀ {l:Bs} {bs:List Bd} {l1:Bs} {cs:List Bd} {l2:Bs},zM rd hs l=some (bs,l1)->zM rd gs l1=some (cs,l2)->zM rd (hs++gs) l=some (bs++cs,l2):=by
 induction hs with
 | nil=>intro l bs l1 cs l2 h k;simp [zM] at h;obtain ⟨rfl,rfl⟩:=h;simpa using k
 | cons h' hs ih =>
   intro l bs l1 cs l2 h k;simp only [zM,NX,No,Prod.exists] at h;obtain ⟨b,m,h1,bs',m',h2,h3⟩:=h;simp at h3;obtain ⟨rfl,rfl⟩:=h3;simp only [Oe,zM,NX,h1,Mm,ih h2 k]
def RdFits (rd:Rd) (rs:RdS) (h:List Ty):Prop:=∀ (left:Nat) (l:Bs) (b:Bd) (r:Bs) (f:Nat),rd h left l=some (b,r,f)->rs h l=some (b,r)/\f+zX b=left/\l.length+1<=r.length+7*zX b
theorem parts_fit {rd:Rd} {rs:RdS} (hs:List (List Ty)) (hf:∀ h∈hs,RdFits rd rs h):∀ {left:Nat} {l:Bs} {bs:List Bd} {r:Bs} {f:Nat},ki rd hs left l=some (bs,r,f)->zM rs hs l=some (bs,r)/\f+zR bs=left/\l.length<=r.length+7*zR bs:=by
 induction hs with
 | nil=>intro left l bs r f h;simp [ki] at h;obtain ⟨rfl,rfl,rfl⟩:=h;simp [zM,zR]
 | cons h' hs ih =>
   intro left l bs r f h;simp only [ki,NX,No,Prod.exists] at h;obtain ⟨l1,h1,b,l2,f2,h2,bs',l3,f3,h3,h4⟩:=h;simp at h4;obtain ⟨rfl,rfl,rfl⟩:=h4;obtain ⟨a1,a2,a3⟩:=hf h' (by simp) _ _ _ _ _ h2;obtain ⟨b1,b2,b3⟩:=ih (fun x hx=>hf x (by simp [hx])) h3;have hc:=uQ h1;refine ⟨?_,by simp [zR];omega,by subst hc;simp [zR];omega⟩;simp only [zM,qR,h1,NX,Mm,a1,b1]
theorem fU {l:Bs} {c:UInt8} (h:zF l=[c]):l=c::zD l:=by
 have:=vl l;rw [h] at this;simpa using this
theorem specNum_of {w rest:Bs} (h1:w≠[]) (h2:w.length<=4) (h3:∀ c∈w,dig c=true) (h4:1<w.length->w.head?≠some 48) (hr:jC rest):jF (w++rest)=some (jL w,w.length):=by
 unfold jF;rw [digsOf_of h3 h2 hr,if_neg];rintro (h | ⟨h,h'⟩)
 ·exact h1 h
 ·apply h4 h;cases w with
  | nil=>exact absurd rfl h1
  | cons x xs=>simpa using h'
theorem rdB_fits (d:Nat):∀ levels,jP d levels->RdFits (rdB d) (rdN (d+1)) levels:=by
 induction d with
 | zero =>
   intro levels hh left l b r f h;rcases left with _ | left
   ·simp [rdB] at h
   rcases kD [40] l with h1 | ⟨r1,h1⟩
   ·rw [cL 0 levels left h1.out] at h;have key:∀ c:UInt8,(c=116\/c=102\/c=117)->zF l=[c]->rdN 1 levels l=some (.leaf c,zD l)/\left+zX (.leaf c)=left+1/\l.length+1<=(zD l).length+7*zX (.leaf c):=by
     intro c hc hw;have e:=fU hw;refine ⟨?_,rfl,?_⟩
     ·conv=>lhs;rw [e]
      simp only [rdN,if_pos hc]
     ·have:=congrArg Pj e;simp at this;simp [zX];omega
    split at h
    ·rename_i hw;simp at h;obtain ⟨rfl,rfl,rfl⟩:=h;exact key _ (by decide) hw
    ·split at h
     ·rename_i hw;simp at h;obtain ⟨rfl,rfl,rfl⟩:=h;exact key _ (by decide) hw
     ·split at h
      ·rename_i hw;simp at h;obtain ⟨rfl,rfl,rfl⟩:=h;exact key _ (by decide) hw
      ·simp at h
   ·rw [cI 0 levels left h1.out] at h;cases hv:lvl (zF r1) levels.length with
    | none=>rw [hv] at h;simp at h
    | some v=>rw [hv] at h;simp at h
 | succ d ih =>
   intro levels hh left l b r f h;rcases left with _ | left
   ·simp [rdB] at h
   rcases kD [40] l with h1 | ⟨r1,h1⟩
   ·rw [cL (d+1) levels left h1.out] at h;have key:∀ c:UInt8,(c=116\/c=102\/c=117)->zF l=[c]->rdN (d+1+1) levels l=some (.leaf c,zD l)/\left+zX (.leaf c)=left+1/\l.length+1<=(zD l).length+7*zX (.leaf c):=by
     intro c hc hw;have e:=fU hw;refine ⟨?_,rfl,?_⟩
     ·conv=>lhs;rw [e]
      simp only [rdN,if_pos hc]
     ·have:=congrArg Pj e;simp at this;simp [zX];omega
    split at h
    ·rename_i hw;simp at h;obtain ⟨rfl,rfl,rfl⟩:=h;exact key _ (by decide) hw
    ·split at h
     ·rename_i hw;simp at h;obtain ⟨rfl,rfl,rfl⟩:=h;exact key _ (by decide) hw
     ·split at h
      ·rename_i hw;simp at h;obtain ⟨rfl,rfl,rfl⟩:=h;exact key _ (by decide) hw
      ·simp at h
   ·rw [cI (d+1) levels left h1.out] at h;cases hv:lvl (zF r1) levels.length with
    | none=>rw [hv] at h;simp at h
    | some v =>
      rw [hv] at h;simp only at h;cases ht:levels[v]? with
      | none=>rw [ht] at h;simp at h
      | some t =>
        rw [ht] at h;simp only [fu,NX,No,Prod.exists] at h;obtain ⟨ss,l1,f1,h2,yn,l2,f2,h3,h4⟩:=h;have hl:levels.length<=10000:=by have:=hh.2;omega
        obtain ⟨w1,w2,w3,w4,w5,w6⟩:=lvl_spec hv hl;split at h4
        ·rename_i y n;simp only [No] at h4;obtain ⟨l3,h5,h6⟩:=h4;simp at h6;obtain ⟨rfl,rfl,rfl⟩:=h6
         have k1:=parts_fit (rs:=rdN (d+1)) (t.args.map fun a=>levels++a.args) (fun x hx=>by
          obtain ⟨a,ha,rfl⟩:=SN.1 hx
          exact ih _ (hh.next ht ha)) h2
         have aT:jP d levels:=by have:=hh.same;rwa [Ov] at this
         have k2:=parts_fit (rs:=rdN (d+1)) [levels,levels] (fun x hx=>by
          have:x=levels:=by simpa using hx
          subst this;exact ih _ aT) h3
         have hln:=(wi (fv d) _ h2).2.2;rw [List.length_map] at hln;have hc:=uQ h5;have tU:=uQ h1.out;have hw:=vl r1;have FV:=specNum_of (rest:=zD r1) w1 w2 w3 w4 (pu r1);rw [<- hw,w5] at FV;have sx:zM (rdN (d+1)) (jJ levels t) (zD r1)=some (ss++[y,n],l2):=dz _ _ _ k1.1 k2.1;refine ⟨?_,?_,?_⟩
         ·conv=>lhs;rw [tU]
          rw [rdN];rw [if_neg (by decide),if_neg (by decide),FV];simp only [ht];rw [wordDrop];simp only [sx,NX,Mm,h5,wj];rw [So hln,Rz hln];rfl
         ·have a1:=k1.2.1;have a2:=k2.2.1;simp [zX,zR] at a1 a2 ⊢;omega
         ·have a1:=k1.2.2;have a2:=k2.2.2;have lU:=congrArg Pj hw;have Bi:=congrArg Pj hc;have hc1l:=congrArg Pj tU;simp [zX,zR] at a1 a2 lU Bi hc1l ⊢;omega
        ·simp at h4
theorem xU {rs:RdS} {hs:List (List Ty)} {l:Bs} {ps:List Bd} {r:Bs} (h:zM rs hs l=some (ps,r)) (hr:jC r):jC l:=by
 cases hs with
 | nil=>simp [zM] at h;obtain ⟨_,rfl⟩:=h;exact hr
 | cons h' hs =>
   simp only [zM,qR,NX,No,Prod.exists] at h;obtain ⟨_,_,⟨l1,h1,_⟩,_⟩:=h;have:=uQ h1;exact .inr ⟨32,l1,this,rfl⟩
def RdBack (rd:Rd) (rs:RdS) (h:List Ty):Prop:=∀ (left:Nat) (l:Bs) (b:Bd) (r:Bs),rs h l=some (b,r)->jC r->zX b<=left->rd h left l=some (b,r,left-zX b)
theorem fx {rd:Rd} {rs:RdS} (hs:List (List Ty)) (hf:∀ h∈hs,RdBack rd rs h):∀ (left:Nat) (l:Bs) (ps:List Bd) (r:Bs),zM rs hs l=some (ps,r)->jC r->zR ps<=left->ki rd hs left l=some (ps,r,left-zR ps):=by
 induction hs with
 | nil=>intro left l ps r h _ _;simp [zM] at h;obtain ⟨rfl,rfl⟩:=h;simp [ki,zR]
 | cons h' hs ih =>
   intro left l ps r h hr hsz;simp only [zM,qR,NX,No,Prod.exists] at h;obtain ⟨b,l2,⟨l1,h1,h2⟩,bs,l3,h3,h4⟩:=h;simp at h4;obtain ⟨rfl,rfl⟩:=h4;simp [zR] at hsz;have hb:=hf h' (by simp) left l1 b l2 h2 (xU h3 hr) (by omega);have hbs:=ih (fun x hx=>hf x (by simp [hx])) (left-zX b) l2 bs l3 h3 hr (by omega);simp only [ki,h1,NX,Mm,hb,hbs];simp [zR];omega
theorem ef (rs:RdS) (hs gs:List (List Ty)):∀ {l:Bs} {ps:List Bd} {r:Bs},zM rs (hs++gs) l=some (ps,r)->∃ bs l1 cs,ps=bs++cs/\zM rs hs l=some (bs,l1)/\zM rs gs l1=some (cs,r):=by
 induction hs with
 | nil=>intro l ps r h;exact ⟨[],l,ps,rfl,rfl,h⟩
 | cons h' hs ih =>
   intro l ps r h;simp only [Oe,zM,NX,No,Prod.exists] at h;obtain ⟨b,m,h1,bs',m',h2,h3⟩:=h;simp at h3;obtain ⟨rfl,rfl⟩:=h3;obtain ⟨bs,l1,cs,rfl,a1,a2⟩:=ih h2;refine ⟨b::bs,l1,cs,rfl,?_,a2⟩;simp only [zM,NX,h1,Mm,a1]
theorem specNum_some {m:Bs} {v k:Nat} (h:jF m=some (v,k)):qI m≠[]/\v=jL (qI m)/\k=(qI m).length/\(1<(qI m).length->(qI m).head?≠some 48):=by
 unfold jF at h;split at h
 ·simp at h
 ·rename_i hc;simp at h;refine ⟨fun e=>hc (.inl e),h.1.symm,h.2.symm,fun h1 h2=>hc (.inr ⟨h1,?_⟩)⟩;have hp:=wV m;obtain ⟨x,hx⟩:=hp;cases hd:qI m with
  | nil=>rw [hd] at h1;simp at h1
  | cons y ys=>rw [hd] at hx h2;rw [<- hx];simpa using h2
theorem rdN_back (d:Nat):∀ levels,jP d levels->RdBack (rdB d) (rdN (d+1)) levels:=by
 induction d with
 | zero =>
   intro levels hh left l b r h hr hsz;obtain ⟨left,rfl⟩:∃ x,left=x+1:=⟨left-1,by have:=kW b;omega⟩;cases l with
   | nil=>simp [rdN] at h
   | cons c m =>
     simp only [rdN] at h;split at h
     ·rename_i hc;simp at h;obtain ⟨rfl,rfl⟩:=h;have se:cut [40] (c::m)=none:=by
       rcases hc with rfl | rfl | rfl <;> simp [cut,Pr]
      have hw:=gI (w:=[c]) (rest:=m) (fun x hx=>by
       have:x=c:=by simpa using hx
       subst this;rcases hc with rfl | rfl | rfl <;> decide) hr
      rw [R0] at hw;rw [cL 0 levels left se,hw.1,hw.2];rcases hc with rfl | rfl | rfl <;> simp [zX]
     ·split at h
      ·simp at h
      ·split at h
       ·simp at h
       ·split at h
        ·simp at h
        ·exfalso;simp only [NX,No,Prod.exists] at h;obtain ⟨ps,l1,h1,_⟩:=h;rename_i t _ _;cases ha:jJ levels t with
         | nil=>have:=uz levels t;rw [ha] at this;simp at this
         | cons x xs=>rw [ha] at h1;simp [zM,qR] at h1
 | succ d ih =>
   intro levels hh left l b r h hr hsz;obtain ⟨left,rfl⟩:∃ x,left=x+1:=⟨left-1,by have:=kW b;omega⟩;cases l with
   | nil=>simp [rdN] at h
   | cons c m =>
     rw [rdN] at h;simp only at h;split at h
     ·rename_i hc;simp at h;obtain ⟨rfl,rfl⟩:=h;have se:cut [40] (c::m)=none:=by
       rcases hc with rfl | rfl | rfl <;> simp [cut,Pr]
      have hw:=gI (w:=[c]) (rest:=m) (fun x hx=>by
       have:x=c:=by simpa using hx
       subst this;rcases hc with rfl | rfl | rfl <;> decide) hr
      rw [R0] at hw;rw [cL (d+1) levels left se,hw.1,hw.2];rcases hc with rfl | rfl | rfl <;> simp [zX]
     ·split at h
      ·simp at h
      ·rename_i se;have se:c=40:=by simpa using se
       subst se;cases hn:jF m with
       | none=>rw [hn] at h;simp at h
       | some x =>
         obtain ⟨v,k⟩:=x;rw [hn] at h;simp only at h;cases ht:levels[v]? with
         | none=>rw [ht] at h;simp at h
         | some t =>
           rw [ht] at h;simp only [NX,No,Prod.exists] at h;obtain ⟨ps,l2,h1,l3,h2,b',h3,h4⟩:=h;simp at h4;obtain ⟨rfl,rfl⟩:=h4;have hc:=uQ h2;have IA:jC l2:=.inr ⟨41,l3,hc,rfl⟩;have aG:=xU h1 IA;obtain ⟨n1,n2,n3,n4⟩:=specNum_some hn;obtain ⟨bs,l1,cs,e1,p1,p2⟩:=ef _ _ _ h1;have Fv:=wD _ p1;have Bi:=wD _ p2;have hsb:=mS h3;have hw0:m=qI m++m.drop k:=by
            obtain ⟨x,hx⟩:=wV m;have gen:∀ (a b c:Bs),a++b=c->c.drop a.length=b:=by rintro a b c rfl;simp
            rw [n3,gen _ _ _ hx,hx]
           have hw:=gI (w:=qI m) (rest:=m.drop k) (fun x hx=>dig_sep (xu m x hx)) aG;rw [<- hw0] at hw;have Cd:v<levels.length:=(N6.1 ht).1;have sO:=spec_lvl (n:=levels.length) n1 (h_ m).1 (xu m) n4 (by rw [<- n2];exact Cd);rw [<- n2] at sO;have hsl1:jC l1:=xU p2 IA;have KZ:zR ps=zR bs+zR cs:=by rw [e1,jy]
           have aT:jP d levels:=by have:=hh.same;rwa [Ov] at this
           have k1:=fx (rd:=rdB d) (t.args.map fun a=>levels++a.args) (fun x hx=>by
            obtain ⟨a,ha,rfl⟩:=SN.1 hx
            exact ih _ (hh.next ht ha)) left (m.drop k) bs l1 p1 hsl1 (by omega)
           have k2:=fx (rd:=rdB d) [levels,levels] (fun x hx=>by
            have:x=levels:=by simpa using hx
            subst this;exact ih _ aT) (left-zR bs) l1 cs l2 p2 IA (by omega)
           have MJ:bs.length=t.args.length:=by simpa [qC] using Fv
           obtain ⟨y,n,rfl⟩:∃ y n,cs=[y,n]:=by
            match cs,Bi with
            | [a,b],_=>exact ⟨a,b,rfl⟩
           have hb:b'=.ask v bs y n:=by
            rw [e1] at h3;unfold wj at h3;rw [So MJ,Rz MJ] at h3;simpa using h3.symm
           subst hb;rw [cI (d+1) levels left (l:=40::m) yU,hw.1,sO];simp only [ht];rw [hw.2];simp only [fu,k1,k2,NX,Mm,h2];simp [zX,zR] at *;omega
theorem rdStrat_eq (t:Ty) (ht:zJ t<=15) (l:Bs):uA t l=(if 2000<l.length then none else match rdN 101 t.args l with
 | none=>none
 | some (b,rest)=>if rest=[]/\zX b<=200 then some b else none):=by
 have hh:=dl ht;cases hq:uA t l with
 | some b =>
   have h1:∃ f,rdB 100 t.args 200 l=some (b,[],f):=by
    unfold uA at hq;split at hq
    ·rename_i b' f he;simp at hq;subst hq;exact ⟨f,he⟩
    ·simp at hq
   obtain ⟨f,h1⟩:=h1;obtain ⟨a1,a2,a3⟩:=rdB_fits 100 t.args hh _ _ _ _ _ h1;have:¬ 2000<l.length:=by simp at a3;omega
   rw [if_neg this,a1];simp only;rw [if_pos ⟨by trivial,by omega⟩]
 | none =>
   symm;split
   ·rfl
   ·cases hn:rdN 101 t.args l with
    | none=>rfl
    | some x =>
      obtain ⟨b,rest⟩:=x;simp only;split
      ·rename_i hc;obtain ⟨rfl,hc⟩:=hc;have:=rdN_back 100 t.args hh 200 l b [] hn (.inl rfl) hc;unfold uA at hq;rw [this] at hq;simp at hq
      ·rfl
theorem rdTS_eq (s l:Bs):fO s l=(qX s l).map fun b=>((zI s).1,b):=by
 unfold fO qX;rw [specType_eq];cases nC:(zI s).2 with
 | false=>simp
 | true =>
   have nX:=vM nC;simp only [if_true,NX,Mm];rw [rdStrat_eq _ nX];by_cases h2:2000<l.length
   ·simp [h2]
   ·simp only [h2,if_false,Bool.true_eq_false,false_or];cases rdN 101 (zI s).1.args l with
    | none=>rfl
    | some x =>
      obtain ⟨b,rest⟩:=x;simp only;split <;> rfl
theorem fD {s text:Bs} {b:Bd} (hq:qX s text=some b):zX b<=200:=by
 unfold qX at hq;split at hq
 ·simp at hq
 ·split at hq
  ·simp at hq
  ·split at hq
   ·rename_i h;simp at hq;subst hq;exact h.2
   ·simp at hq
theorem rdTS_size {s text:Bs} {t:Ty} {b:Bd} (hq:fO s text=some (t,b)):zX b<=200:=by
 rw [rdTS_eq,N3] at hq;obtain ⟨b',h,e⟩:=hq;simp at e;rw [<- e.2];exact fD h
mutual
def jq:List Ty->Bd->Prop
 | _,.leaf _=>True
 | hand,.ask v ss y n=>∃ t,hand[v]? = some t/\jz (qC hand t.args) ss/\jq hand y/\jq hand n
def jz:List (List Ty)->List Bd->Prop
 | hs,[]=>hs=[]
 | hs,b::bs=>∃ h oJ,hs=h::oJ/\jq h b/\jz oJ bs
end
mutual
def eK:Bd->Bd->Bool
 | .leaf c,.leaf d=>c == 117 || c == d
 | .leaf c,.ask _ _ _ _=>c == 117
 | .ask _ _ _ _,.leaf _=>false
 | .ask v ss y n,.ask v' ss' y' n'=>v == v' && (bJ ss ss' && (eK y y' && eK n n'))
def bJ:List Bd->List Bd->Bool
 | a::xs,b::bs=>eK a b && bJ xs bs
 | [],_=>true
 | _::_,[]=>false
end
theorem yJ (levels ts:List Ty):(qC levels ts).length=ts.length:=by simp [qC]
theorem co:∀ (xs:List Bd) (bs:List Bd) (hs ks:List (List Ty)),jz hs xs->jz ks bs->jz (hs++ks) (xs++bs)
 | [],bs,hs,ks,h1,h2=>by rw [jz] at h1;subst h1;simpa using h2
 | a::xs,bs,hs,ks,h1,h2=>by
   rw [jz] at h1;obtain ⟨h,oJ,rfl,e1,e2⟩:=h1;exact ⟨h,oJ++ks,rfl,e1,co xs bs oJ ks e2 h2⟩
theorem vL:∀ (xs:List Bd) (hs:List (List Ty)),jz hs xs->hs.length=xs.length
 | [],hs,h=>by rw [jz] at h;simp [h]
 | a::xs,hs,h=>by
   rw [jz] at h;obtain ⟨h',oJ,rfl,e1,e2⟩:=h;simp [vL xs oJ e2]
theorem gP:∀ (xs:List Bd) (hs:List (List Ty)),jz hs xs->∀ (k:Nat) (a:Bd),xs[k]? = some a->∃ h,hs[k]? = some h/\jq h a
 | [],hs,h,k,a,ha=>by simp at ha
 | a::xs,hs,h,k,a',ha=>by
   rw [jz] at h;obtain ⟨h',oJ,rfl,e1,e2⟩:=h;cases k with
   | zero=>simp at ha;subst ha;exact ⟨h',rfl,e1⟩
   | succ k=>simp at ha;simpa using gP xs oJ e2 k a' ha
theorem fitBs_pair (h k:List Ty) (y n:Bd):jz [h,k] [y,n]↔jq h y/\jq k n:=by
 constructor
 ·intro hf;rw [jz] at hf;obtain ⟨a,as',e,h1,h2⟩:=hf;simp only [Od] at e;obtain ⟨rfl,rfl⟩:=e;rw [jz] at h2;obtain ⟨a,as',e,h3,h4⟩:=h2;simp only [Od] at e;obtain ⟨rfl,rfl⟩:=e;exact ⟨h1,h3⟩
 ·rintro ⟨h1,h2⟩;exact ⟨h,[k],rfl,h1,k,[],rfl,h2,by rw [jz]⟩
theorem fit_parts {hand:List Ty} {v:Nat} {ss:List Bd} {y n:Bd} (h:jq hand (.ask v ss y n)):∃ t,hand[v]? = some t/\jz (jJ hand t) (kh (.ask v ss y n))/\ss.length=t.args.length:=by
 rw [jq] at h;obtain ⟨t,h1,h2,h3,h4⟩:=h;refine ⟨t,h1,co _ _ _ _ h2 ((fitBs_pair _ _ _ _).2 ⟨h3,h4⟩),?_⟩;have:=vL _ _ h2;rw [yJ] at this;exact this.symm
theorem dC:∀ (xs bs:List Bd),xs.length=bs.length->(bJ xs bs=true↔∀ (k:Nat) (a b:Bd),xs[k]? = some a->bs[k]? = some b->eK a b=true)
 | [],[],_=>by simp [bJ]
 | a::xs,b::bs,h=>by
   simp only [bJ,Bool.and_eq_true];rw [dC xs bs (by simpa using h)];constructor
   ·rintro ⟨h1,h2⟩ k a' b' ha hb;cases k with
    | zero=>simp at ha hb;subst ha;subst hb;exact h1
    | succ k=>simp at ha hb;exact h2 k a' b' ha hb
   ·intro h;exact ⟨h 0 a b rfl rfl,fun k a' b' ha hb=>h (k+1) a' b' (by simpa using ha) (by simpa using hb)⟩
def pT (xs bs:List Bd) (k:Nat):Prop:=∀ (j:Nat) (a b:Bd),j<k->xs[j]? = some a->bs[j]? = some b->eK a b=true
theorem pT.zero (xs bs:List Bd):pT xs bs 0:=fun j a b h=>by omega
theorem pT.next {xs bs:List Bd} {k:Nat} (h:pT xs bs k) {a b:Bd} (ha:xs[k]? = some a) (hb:bs[k]? = some b) (B0:eK a b=true):pT xs bs (k+1):=by
 intro j a' b' hj h1 h2;rcases Nat.lt_or_ge j k with h' | h'
 ·exact h j a' b' h' h1 h2
 ·obtain rfl:j=k:=by omega
  rw [ha] at h1;rw [hb] at h2;simp at h1 h2;subst h1;subst h2;exact B0
theorem pT.all {xs bs:List Bd} (hl:xs.length=bs.length) (h:pT xs bs xs.length):bJ xs bs=true :=
 (dC xs bs hl).2 fun k a b ha hb=>h k a b (N6.1 ha).1 ha hb
def lvOf:Bd->Nat
 | .leaf _=>0
 | .ask v _ _ _=>v
theorem encN_lv {F:Nat->Prop} {w:World} {b:Bd} {s v k y:Value} (h:zW F w (kL b) [s,v,k,y]):v=.int .i64 (lvOf b:Nat):=by
 cases b with
 | leaf c =>
   rw [kL] at h;obtain ⟨_,_,e,h0,h⟩:=zQ.1 h;simp only [Od] at e;obtain ⟨rfl,rfl⟩:=e;obtain ⟨_,_,e,h1,h⟩:=zQ.1 h;simp only [Od] at e;obtain ⟨rfl,rfl⟩:=e;exact zH.1 h1
 | ask lv ss yb nb =>
   rw [kL] at h;obtain ⟨_,_,e,h0,h⟩:=zQ.1 h;simp only [Od] at e;obtain ⟨rfl,rfl⟩:=e;obtain ⟨_,_,e,h1,h⟩:=zQ.1 h;simp only [Od] at e;obtain ⟨rfl,rfl⟩:=e;exact zH.1 h1
theorem wB (a b:Nat):((a:Int).tmod (b:Int))=((a % b:Nat):Int):=rfl
theorem cM (a b:Nat):((a:Int).tdiv (b:Int))=((a / b:Nat):Int):=rfl
theorem xR (n:Nat) (h:n<9223372036854775808):IntKind.i64.wrap (n:Int)=(n:Int):=by
 simp [IntKind.wrap,IntKind.bits,IntKind.signed];omega
def yH (r:Nat):UInt8:=Rj (48+r)
def dec (n:Nat):Bs:=if n<10 then [yH n] else dec (n / 10)++[yH (n % 10)]
theorem jl {n:Nat} (h:n<10):dec n=[yH n]:=by rw [dec,if_pos h]
theorem vd {n:Nat} (h:¬ n<10):dec n=dec (n / 10)++[yH (n % 10)]:=by rw [dec,if_neg h]
theorem vU (k:Nat):∀ n,n<10 ^ (k+1)->(dec n).length<=k+1:=by
 induction k with
 | zero=>intro n h;rw [jl (by simpa using h)];simp
 | succ k ih =>
   intro n h;by_cases FC:n<10
   ·rw [jl FC];simp
   ·rw [vd FC];have:=ih (n / 10) (by rw [Nat.div_lt_iff_lt_mul (by omega),<- Nat.pow_succ];exact h);simp;omega
theorem str_add (a b:Bs):(⟨a.toArray⟩:ByteArray)++(⟨b.toArray⟩:ByteArray)=⟨(a++b).toArray⟩:=by
 have h:((⟨a.toArray⟩:ByteArray)++(⟨b.toArray⟩:ByteArray)).data=(a++b).toArray:=by
  rw [ByteArray.data_append];simp
 cases hx:(⟨a.toArray⟩:ByteArray)++(⟨b.toArray⟩:ByteArray) with
 | mk d=>rw [hx] at h;simp at h;rw [h]
theorem k9 {P:Program} (a b:Bs) (h:a.length+b.length<=9223372036854775807) (w:World):(Op.stringOp .add ⟨a.toArray⟩ ⟨b.toArray⟩).run P w=.ok (str (a++b)) w:=by
 rw [run_string_add_sum w _ _ (by rw [ui,ui];exact h),str_add]
mutual
def kI:Bd->Bs
 | .leaf c=>[c]
 | .ask v ss y n=>(((([40]++dec v++kq ss++[32])++kI y)++[32])++kI n)++[41]
def kq:List Bd->Bs
 | []=>[]
 | b::bs=>[32]++kI b++kq bs
end
mutual
def lvB:Bd->Prop
 | .leaf _=>True
 | .ask v ss y n=>v<=10000/\cJ ss/\lvB y/\lvB n
def cJ:List Bd->Prop
 | []=>True
 | b::bs=>lvB b/\cJ bs
end
theorem vx:∀ (xs ys:List Bd),kq (xs++ys)=kq xs++kq ys
 | [],ys=>by simp [kq]
 | x::xs,ys=>by simp [kq,vx xs ys]
theorem textBs_take {ts:List Bd} {k:Nat} {t:Bd} (h:ts[k]? = some t):kq (ts.take (k+1))=kq (ts.take k)++[32]++kI t:=by
 rw [List.take_add_one,h,vx];simp [kq]
theorem e_:∀ (xs:List Bd),cJ xs->∀ (k:Nat) (t:Bd),xs[k]? = some t->lvB t
 | [],_,k,t,h=>by simp at h
 | x::xs,hl,k,t,h=>by
   rw [cJ] at hl;cases k with
   | zero=>simp at h;subst h;exact hl.1
   | succ k=>simp at h;exact e_ xs hl.2 k t h
mutual
theorem jk:∀ (b:Bd),lvB b->(kI b).length+1<=12*zX b
 | .leaf c,_=>by simp [kI,zX]
 | .ask v ss y n,h=>by
   rw [lvB] at h;have h1:=yu ss h.2.1;have h2:=jk y h.2.2.1;have h3:=jk n h.2.2.2;have h4:(dec v).length<=5:=vU 4 v (by have:=h.1;omega);simp only [kI,zX,NZ,N5,OD];omega
theorem yu:∀ (bs:List Bd),cJ bs->(kq bs).length<=12*zR bs
 | [],_=>by simp [kq]
 | b::bs,h=>by
   rw [cJ] at h;have h1:=jk b h.1;have h2:=yu bs h.2;simp only [kq,zR,NZ,N5,OD];omega
end
theorem ed (xs:List Bd) (k:Nat):(kq (xs.take k)).length<=(kq xs).length:=by
 have:=congrArg Pj (vx (xs.take k) (xs.drop k));rw [List.take_append_drop,NZ] at this;omega
mutual
def zN:Ty->Bs
 | .mk ts=>b6 ts
def b6:List Ty->Bs
 | []=>[98]
 | a::ts=>[40,62,32]++(zN a++([32]++(b6 ts++[41])))
end
theorem yR:zN (.mk [])=[98]:=by rw [zN,b6]
theorem yS (a:Ty) (ts:List Ty):zN (.mk (a::ts))=[40,62,32]++(zN a++([32]++(zN (.mk ts)++[41]))):=by
 rw [zN,b6,zN]
theorem vQ (a:Ty) (ts:List Ty):zJ (.mk (a::ts))=1+zJ a+zJ (.mk ts):=by
 simp only [zJ,zc];omega
theorem fK (p r:Bs):cut p (p++r)=some r:=by
 unfold cut;have h:p.isPrefixOf (p++r)=true:=List.isPrefixOf_iff_prefix.2 (List.prefix_append _ _);rw [if_pos h];simp
theorem noCut_b (r:Bs):gS [98] ([40,62,32]++r):=by
 show cut [98] ([40,62,32]++r)=none;rfl
theorem p9 (d:Nat):∀ (t:Ty) (r:Bs),zJ t<=2*d+1->rdK d (zN t++r)=some (t,r):=by
 have hb:∀ (d:Nat) (r:Bs),rdK d (zN (.mk [])++r)=some (.mk [],r):=fun d r=>by
  rw [yR];exact xG (fK [98] r)
 induction d with
 | zero =>
   intro t r h;obtain ⟨ts⟩:=t;cases ts with
   | nil=>exact hb 0 r
   | cons a ts=>rw [vQ] at h;have:=kg a;have:=kg (.mk ts);omega
 | succ d ih =>
   intro t r h;obtain ⟨ts⟩:=t;cases ts with
   | nil=>exact hb _ r
   | cons a ts =>
     rw [vQ] at h;have h1:=kg a;have h2:=kg (.mk ts);rw [yS];have e:([40,62,32]++(zN a++([32]++(zN (.mk ts)++[41]))))++r=[40,62,32]++(zN a++([32]++(zN (.mk ts)++([41]++r)))):=by simp
     rw [e,jI (noCut_b _)];simp only [fK,NX,Mm,ih a _ (by omega:zJ a<=2*d+1),ih (.mk ts) _ (by omega:zJ (.mk ts)<=2*d+1)];rfl
theorem jG:∀ (n:Nat) (t:Ty),zJ t<=n->(zN t).length+2=3*zJ t:=by
 intro n
 induction n with
 | zero=>intro t h;have:=kg t;omega
 | succ n ih =>
   intro t h;obtain ⟨ts⟩:=t;cases ts with
   | nil=>rw [yR];simp [zJ,zc]
   | cons a ts =>
     rw [vQ] at h ⊢;have h1:=kg a;have h2:=kg (.mk ts);have k1:=ih a (by omega);have k2:=ih (.mk ts) (by omega);rw [yS];simp only [NZ,N5,OD];omega
theorem uN {t:Ty} (h:zJ t<=15):zI (zN t)=(t,true):=by
 have hl:=jG 15 t h;unfold zI;rw [if_neg (by omega)];have:=p9 20 t [] (by omega);rw [Ov] at this;have h2:rdS 21 (zN t)=some (t,[]):=this;rw [h2];simp [h]
inductive Clo where
 | mk (b:Bd) (env:List Clo) (begun:Nat) (path:Bs)
def Clo.body:Clo->Bd | .mk b _ _ _=>b
def Clo.env:Clo->List Clo | .mk _ e _ _=>e
def Clo.begun:Clo->Nat | .mk _ _ n _=>n
def Clo.path:Clo->Bs | .mk _ _ _ p=>p
end Go.Proofs.YtpgiohmcggllgaaGreatDoor

/- Walks of functions that the statement reaches, and plain words. No conditions. -/
import Derived.Lib.AtoiTie
import Derived.Laws.Concat
import Derived.Test.YtepgfdhkkjfmhacGreatDoorQ2
set_option linter.unusedVariables false
set_option linter.unusedSimpArgs false
set_option maxHeartbeats 10000000
namespace Go.Proofs.YtepgfdhkkjfmhacGreatDoor
open Go.RowKit
def xe (i:Nat) (o:Option (Nat×Nat)) (w:World) (en:Ending) (w':World):Prop :=
 ∃ (v:Nat) (k:Int),en=.returned (.tuple #[.int .i64 v,.int .i64 k])/\w=w'/\(o=none->k = -1)/\(∀ v' c,o=some (v',c)->v=v'/\k=((i+c:Nat):Int))
theorem l3Number_any (l:Bs) (hl:Lim l.length) (i:Nat) (hi:i<=l.length) (w:World) :
 Calls Tryz.prog 61 #[str l,.int .i64 i] w (xe i (ke (l.drop i)) w):=by
 have fH:=hl.le
 obtain ⟨ds,hds⟩:=zzM (kK (l.drop i))
 have hd4:=yy (l.drop i)
 rw [<- hds] at hd4
 have h4:ds.length<=4:=hd4.1
 have ov:i+ds.length<=l.length:=by have:=hd4.2;simp at this;omega
 have HDS:=gl hds;clear hds hd4
 go_enter Tryz.func61,Tryz.ntmps61
 go_wp2_with fail
 go_loop [6,7] (fun n k=>∃ j:Nat,j<=ds.length/\k=.int .i64 ((i+j:Nat):Int)/\n=.int .i64 (qK (ds.take j):Nat)) (fun _ k=>i+ds.length-(intOf k).toNat)
 case atStart=>exact ⟨0,Nat.zero_le _,by simp,by simp [qK]⟩
 case round =>
  obtain ⟨j,hj,rfl,rfl⟩:=hrel
  by_cases bY:j<ds.length
  ·have Bx:i+j<l.length:=by omega
   have bJ:l[i+j]=ds[j]/\dig l[i+j]=true:=by
    have h1:=HDS.out;subst h1
    obtain ⟨hm,e1,e2⟩:=digsOf_at bY
    rw [List.getElem_drop] at e1 e2
    exact ⟨e1,e2⟩
   have b1:(48:Int)<=((((⟨l.toArray⟩:ByteArray)[i+j]'(qy Bx)).toNat:Int))/\((((⟨l.toArray⟩:ByteArray)[i+j]'(qy Bx)).toNat:Int))<=57:=by
    have h2:=bJ.2
    simp [dig,UInt8.le_iff_toNat_le] at h2
    rw [xc Bx];omega
   obtain ⟨b1,b2⟩:=b1
   have hv:qK (ds.take j)<=9999:=by
    have h1:=valOf_lt (ds.take j) (fun c hc=>jc _ c (by have:=HDS.out;rw [<- this];exact List.mem_of_mem_take hc))
    have h2:10 ^ (ds.take j).length<=10 ^ 4:=Nat.pow_le_pow_right (by omega) (by simp;omega)
    omega
   have hs:=valOf_take bY
   have mW:(qK (ds.take (j+1)):Int)=10*(qK (ds.take j):Int)+(((((⟨l.toArray⟩:ByteArray)[i+j]'(qy Bx)).toNat:Int))-48):=by
    rw [xc Bx] at b1 ⊢;rw [hs,bJ.1] at *;omega
   have HS:=gl mW
   have j4:j<4:=by omega
   clear hs mW bJ
   go_wp2_with fail
   go_round
   case rel=>exact ⟨j+1,by omega,by go_num,by rw [HS.out]⟩
   case measure=>simp [intOf];omega
  ·obtain rfl:j=ds.length:=by omega
   have sP:ds.length=4\/i+ds.length=l.length\/∃ h:i+ds.length<l.length,dig l[i+ds.length]=false:=by
    have h1:=HDS.out;subst h1
    rcases digsOf_end (m:=l.drop i) with h | h | ⟨h,h2⟩
    ·exact .inl h
    ·right;left;simp at h;omega
    ·right;right;simp at h;refine ⟨by omega,?_⟩;rw [List.getElem_drop] at h2;exact h2
   have HV:ke (l.drop i)=(if ds=[]\/(1<ds.length/\(l.drop i).head? = some 48) then none else some (qK ds,ds.length)):=by
    unfold ke;rw [<- HDS.out]
   have fl:4<=ds.length\/l.length<=i+ds.length\/(∃ h:i+ds.length<l.length,((((⟨l.toArray⟩:ByteArray)[i+ds.length]'(qy h)).toNat:Int))<48)\/(∃ h:i+ds.length<l.length,(57:Int)<((((⟨l.toArray⟩:ByteArray)[i+ds.length]'(qy h)).toNat:Int))):=by
    rcases sP with h | h | ⟨h,h2⟩
    ·exact .inl (by omega)
    ·exact .inr (.inl (by omega))
    ·simp [dig,UInt8.le_iff_toNat_le] at h2
     by_cases hc:l[i+ds.length].toNat<48
     ·exact .inr (.inr (.inl ⟨h,by rw [xc h];omega⟩))
     ·exact .inr (.inr (.inr ⟨h,by rw [xc h];have:=h2 (by omega);omega⟩))
   clear sP
   rw [List.take_length]
   rcases (by omega:ds.length=0\/ds.length=1\/2<=ds.length) with hn | hn | hn
   ·have e0:((i:Int)+(ds.length:Int) == (i:Int))=true:=by rw [beq_iff_eq];omega
    have fin:xe i (ke (l.drop i)) w (.returned (.tuple #[.int .i64 0,.int .i64 (-1)])) w:=by
     have sG:ds=[]:=List.eq_nil_of_length_eq_zero hn
     refine ⟨0,-1,rfl,rfl,fun _=>rfl,fun v c h=>?_⟩
     rw [HV,if_pos (.inl sG)] at h;simp at h
    have HF:=gl fin;have hn0:(ds.length:Int)<=0:=by omega
    clear fin HV hn
    rcases fl with h | h | ⟨h,h2⟩ | ⟨h,h2⟩
    all_goals
     go_wp2_with fail
     all_goals (go_ret2;exact HF.out)
   ·have e0:((i:Int)+(ds.length:Int) == (i:Int))=false:=by rw [beq_eq_false_iff_ne];omega
    have n1:¬ 1<ds.length:=by omega
    have fin:xe i (ke (l.drop i)) w (.returned (.tuple #[.int .i64 (qK ds:Nat),.int .i64 ((i:Int)+(ds.length:Int))])) w:=by
     have sG:¬ (ds=[]\/(1<ds.length/\(l.drop i).head? = some 48)):=by
      rintro (h | h)
      ·rw [h] at hn;simp at hn
      ·omega
     refine ⟨_,_,rfl,rfl,fun h=>?_,fun v c h=>?_⟩
     ·rw [HV,if_neg sG] at h;simp at h
     ·rw [HV,if_neg sG] at h;simp at h;exact ⟨h.1,by omega⟩
    have HF:=gl fin;have dK:1<=ds.length:=by omega
    clear fin HV hn
    rcases fl with h | h | ⟨h,h2⟩ | ⟨h,h2⟩
    all_goals
     go_wp2_with fail
     all_goals (go_ret2;exact HF.out)
   ·have e0:((i:Int)+(ds.length:Int) == (i:Int))=false:=by rw [beq_eq_false_iff_ne];omega
    have n1:1<ds.length:=by omega
    have hil:i<l.length:=by rcases fl with h | h | ⟨h,h2⟩ | ⟨h,h2⟩ <;> omega
    have hhd:(l.drop i).head? = some l[i]:=by rw [List.head?_drop];simp [hil]
    have hdn:ds≠[]:=by intro h;rw [h] at hn;simp at hn
    by_cases nP:l[i]=48
    ·have f1:=uC hil (n:=48) (by decide) nP
     have fin:xe i (ke (l.drop i)) w (.returned (.tuple #[.int .i64 0,.int .i64 (-1)])) w:=by
      refine ⟨0,-1,rfl,rfl,fun _=>rfl,fun v c h=>?_⟩
      rw [HV,if_pos (.inr ⟨n1,by rw [hhd,nP]⟩)] at h;simp at h
     have HF:=gl fin;clear fin HV hhd nP
     rcases fl with h | h | ⟨h,h2⟩ | ⟨h,h2⟩
     all_goals
      go_wp2_with fail
      all_goals (go_ret2;exact HF.out)
    ·have f1:=jM hil (n:=48) (by decide) nP
     have fin:xe i (ke (l.drop i)) w (.returned (.tuple #[.int .i64 (qK ds:Nat),.int .i64 ((i:Int)+(ds.length:Int))])) w:=by
      have sG:¬ (ds=[]\/(1<ds.length/\(l.drop i).head? = some 48)):=by
       rintro (h | h)
       ·exact hdn h
       ·rw [hhd] at h;exact nP (Option.some.inj h.2)
      refine ⟨_,_,rfl,rfl,fun h=>?_,fun v c h=>?_⟩
      ·rw [HV,if_neg sG] at h;simp at h
      ·rw [HV,if_neg sG] at h;simp at h;exact ⟨h.1,by omega⟩
     have HF:=gl fin;clear fin HV hhd nP
     rcases fl with h | h | ⟨h,h2⟩ | ⟨h,h2⟩
     all_goals
      go_wp2_with fail
      all_goals (go_ret2;exact HF.out)
mutual
def kE:Bd->List DV
 | .leaf c=>[.val (str [c]),.val (.int .i64 (0:Nat)),.sl 46 4 0 [],.sl 46 4 0 []]
 | .ask v ss y n=>[.val (str []),.val (.int .i64 v),.sl 46 4 ss.length (zn ss),.sl 46 4 2 (kE y++(kE n++[]))]
def zn:List Bd->List DV
 | []=>[]
 | b::bs=>kE b++zn bs
end
theorem jA (b:Bd):(kE b).length=4:=by cases b <;> simp [kE]
theorem encNs_length (bs:List Bd):(zn bs).length=bs.length*4:=by
 induction bs with
 | nil=>simp [zn]
 | cons b bs ih=>simp [zn,jA,ih];omega
theorem qw (a b:List Bd):zn (a++b)=zn a++zn b:=by
 induction a with
 | nil=>simp [zn]
 | cons t ts ih=>simp [zn,ih,List.append_assoc]
theorem j9 (v:Nat) (ss:List Bd) (y n:Bd):kE (.ask v ss y n)=[.val (str []),.val (.int .i64 v),.sl 46 4 ss.length (zn ss),.sl 46 4 2 (zn [y,n])]:=by
 simp [kE,zn]
theorem Tryz.infoN:(Tryz.prog.info? 46).map (fun i=>(i.zero,i.size,i.bytes))=some (some (.agg #[str [],.int .i64 0,.slice none 0 0,.slice none 0 0]),4,72):=by kernel_rfl
def jD (L:Nat) (w:World) (o:Option (Bd×Bs)) (en:Ending) (w':World):Prop :=
 ∃ (s:Bs) (v:Int) (a2:Option Addr) (n2 k2:Nat) (a3:Option Addr) (n3 k3:Nat) (k:Int),en=.returned (.tuple #[.agg #[str s,.int .i64 v,.slice a2 n2 k2,.slice a3 n3 k3],.int .i64 k])/\Below w.heap.size w w'/\(o=none->k = -1) /\
   (∀ b rest,o=some (b,rest)->k=(L:Int)-rest.length/\zH (w.heap.size<=·) w' (kE b) [str s,.int .i64 v,.slice a2 n2 k2,.slice a3 n3 k3])
theorem jD.no {L:Nat} {w w':World} {o:Option (Bd×Bs)} (ho:o=none) (hb:Below w.heap.size w w') :
 jD L w o (.returned (.tuple #[.agg #[str [],.int .i64 0,.slice none 0 0,.slice none 0 0],.int .i64 (-1)])) w' :=
 ⟨[],0,none,0,0,none,0,0,_,rfl,hb,fun _=>rfl,fun _ _ h=>by rw [ho] at h;simp at h⟩
theorem jD.yes {L:Nat} {w w':World} {o:Option (Bd×Bs)} {b:Bd} {rest:Bs} {s:Bs} {v:Int} {a2:Option Addr} {n2 k2:Nat} {a3:Option Addr} {n3 k3:Nat} {k:Int} (ho:o=some (b,rest)) (hk:k=(L:Int)-rest.length) (hb:Below w.heap.size w w') (hv:zH (w.heap.size<=·) w' (kE b) [str s,.int .i64 v,.slice a2 n2 k2,.slice a3 n3 k3]) :
 jD L w o (.returned (.tuple #[.agg #[str s,.int .i64 v,.slice a2 n2 k2,.slice a3 n3 k3],.int .i64 k])) w' :=
 ⟨s,v,a2,n2,k2,a3,n3,k3,k,rfl,hb,fun h=>by rw [ho] at h;simp at h,fun _ _ h=>by rw [ho] at h;simp at h;obtain ⟨rfl,rfl⟩:=h;exact ⟨hk,hv⟩⟩
def NodeSaid (l:Bs) (e d:Nat):Prop:=∀ (F:Nat->Prop) (hand:List Ty) (hv:Value) (i:Nat) (w:World),i<=l.length->kC e hand ->
    Rep F w (.sl 43 1 hand.length (kd hand)) hv ->
    Calls Tryz.prog 40 #[str l,.int .i64 i,hv,.int .i64 d] w (jD l.length w (rdN e hand (l.drop i)))
theorem wY (F:Nat->Prop) (w:World) (c:UInt8):zH F w (kE (.leaf c)) [str [c],.int .i64 0,.slice none 0 0,.slice none 0 0]:=by
 have hz:Rep F w (.sl 46 4 0 []) (.slice none 0 0):=zp.2 ⟨rfl,none,0,rfl,g_ _,fun _=>rfl,.inl rfl⟩
 rw [kE]
 exact zQ.2 ⟨_,_,rfl,zF.2 rfl,zQ.2 ⟨_,_,rfl,zF.2 rfl,zQ.2 ⟨_,_,rfl,hz,zQ.2 ⟨_,_,rfl,hz,zB.2 rfl⟩⟩⟩⟩
theorem rdN_leaf (e:Nat) (hand:List Ty) {l:Bs} {i:Nat} (h:i<l.length) (hc:l[i]=116\/l[i]=102\/l[i]=117):rdN (e+1) hand (l.drop i)=some (.leaf l[i],l.drop (i+1)):=by
 rw [List.drop_eq_getElem_cons h,rdN];simp only [if_pos hc]
theorem rdN_other (e:Nat) (hand:List Ty) {l:Bs} {i:Nat} (h:i<l.length) (hc:¬ (l[i]=116\/l[i]=102\/l[i]=117)) (cc:¬ l[i]=40):rdN (e+1) hand (l.drop i)=none:=by
 rw [List.drop_eq_getElem_cons h,rdN];simp only [if_neg hc,if_pos cc]
theorem rdN_40 (e:Nat) (hand:List Ty) {l:Bs} {i:Nat} (h:i<l.length) (cc:l[i]=40):rdN (e+1) hand (l.drop i)=(match ke (l.drop (i+1)) with
 | none=>none
 | some (v,k)=>match hand[v]? with
   | none=>none
   | some t=>do
     let (ps,l1)<-zU (rdN e) (ku hand t) ((l.drop (i+1)).drop k)
     let l2<-cut [41] l1
     let b<-vf v t.args.length ps
     some (b,l2)):=by
 rw [List.drop_eq_getElem_cons h,rdN]
 rw [if_neg (by rw [cc];decide),if_neg (by simpa using cc)]
 try rfl
theorem xR (l:Bs) (hl:Lim l.length) (e d:Nat) (oq:e+d=101) (F:Nat->Prop) (hand:List Ty) (hv:Value) (i:Nat) (w:World) (hi:i<=l.length)
 (hr:Rep F w (.sl 43 1 hand.length (kd hand)) hv) (de:∀ h:i<l.length,e=0\/¬ l[i]=40) :
 Calls Tryz.prog 40 #[str l,.int .i64 i,hv,.int .i64 d] w (jD l.length w (rdN e hand (l.drop i))):=by
 have fH:=hl.le
 obtain ⟨a0,c0,e0,_⟩:=zE hr
 subst e0
 rcases e with _ | e
 ·have fx:(100:Int)<(d:Int):=by omega
  clear de
  go_enter Tryz.func40,Tryz.ntmps40
  go_wp2_with fail
  refine bodyPost_ret (v:=.tuple #[.agg #[str [],.int .i64 0,.slice none 0 0,.slice none 0 0],.int .i64 (-1)]) (by simp [results,Tryz.results40,go_sem]) rfl ?_
  exact jD.no (by rfl) (by repeat (first | exact hG _ _ | refine Below.alloc ?_ (g_ _) _ | refine Below.setCell ?_ (by simp) _))
 have sG:¬ (100:Int)<(d:Int):=by omega
 by_cases bY:i<l.length
 rotate_left
 ·clear de
  go_enter Tryz.func40,Tryz.ntmps40
  go_wp2_with fail
  refine bodyPost_ret (v:=.tuple #[.agg #[str [],.int .i64 0,.slice none 0 0,.slice none 0 0],.int .i64 (-1)]) (by simp [results,Tryz.results40,go_sem]) rfl ?_
  exact jD.no (by rw [List.drop_eq_nil_of_le (by omega)];rfl) (by repeat (first | exact hG _ _ | refine Below.alloc ?_ (g_ _) _ | refine Below.setCell ?_ (by simp) _))
 have cc:¬ l[i]=40:=(de bY).resolve_left (by omega)
 clear de
 by_cases iW:l[i]=116\/l[i]=102\/l[i]=117
 ·have HM:=gl (rdN_leaf e hand bY iW)
  have hx:((⟨l.toArray⟩:ByteArray).extract i (i+1))=⟨#[l[i]]⟩:=by
   rw [xI];congr 1
   rw [List.drop_take,List.drop_eq_getElem_cons bY,show i+1-i=1 from by omega];rfl
  have HX:=gl hx;clear hx
  have fin:∀ w':World,Below w.heap.size w w'->jD l.length w (rdN (e+1) hand (l.drop i)) (.returned (.tuple #[.agg #[.string ((⟨l.toArray⟩:ByteArray).extract i (i+1)),.int .i64 0,.slice none 0 0,.slice none 0 0],.int .i64 ((i:Int)+1)])) w':=by
   intro w' hb
   rw [HX.out]
   exact jD.yes (s:=[l[i]]) HM.out (by simp;omega) hb (wY _ _ _)
  have FIN:=gl fin;clear fin
  have key:((((⟨l.toArray⟩:ByteArray)[i]'(qy bY)).toNat:Int) == 116)=true\/((((((⟨l.toArray⟩:ByteArray)[i]'(qy bY)).toNat:Int) == 116)=false/\((((⟨l.toArray⟩:ByteArray)[i]'(qy bY)).toNat:Int) == 102)=true))\/((((((⟨l.toArray⟩:ByteArray)[i]'(qy bY)).toNat:Int) == 116)=false/\((((⟨l.toArray⟩:ByteArray)[i]'(qy bY)).toNat:Int) == 102)=false/\((((⟨l.toArray⟩:ByteArray)[i]'(qy bY)).toNat:Int) == 117)=true)):=by
   rcases iW with h | h | h
   ·exact .inl (uC bY (n:=116) (by decide) h)
   ·exact .inr (.inl ⟨jM bY (c:=116) (n:=116) (by decide) (by rw [h];decide),uC bY (n:=102) (by decide) h⟩)
   ·exact .inr (.inr ⟨jM bY (c:=116) (n:=116) (by decide) (by rw [h];decide),jM bY (c:=102) (n:=102) (by decide) (by rw [h];decide),uC bY (n:=117) (by decide) h⟩)
  clear iW cc HM HX
  rcases key with f1 | ⟨f1,f2⟩ | ⟨f1,f2,f3⟩
  all_goals
   go_enter Tryz.func40,Tryz.ntmps40
   go_wp2_with fail
   refine bodyPost_ret (v:=.tuple #[.agg #[.string ((⟨l.toArray⟩:ByteArray).extract i (i+1)),.int .i64 0,.slice none 0 0,.slice none 0 0],.int .i64 ((i:Int)+1)]) (by simp [results,Tryz.results40,go_sem]) rfl ?_
   exact FIN.out _ (by repeat (first | exact hG _ _ | refine Below.alloc ?_ (g_ _) _ | refine Below.setCell ?_ (by simp) _))
 have HM:=gl (rdN_other e hand bY iW cc)
 have f1:=jM bY (n:=116) (by decide) (fun h=>iW (.inl h))
 have f2:=jM bY (n:=102) (by decide) (fun h=>iW (.inr (.inl h)))
 have f3:=jM bY (n:=117) (by decide) (fun h=>iW (.inr (.inr h)))
 have f4:=yI bY (n:=40) (by decide) cc
 clear iW cc
 go_enter Tryz.func40,Tryz.ntmps40
 go_wp2_with fail
 refine bodyPost_ret (v:=.tuple #[.agg #[str [],.int .i64 0,.slice none 0 0,.slice none 0 0],.int .i64 (-1)]) (by simp [results,Tryz.results40,go_sem]) rfl ?_
 exact jD.no HM.out (by repeat (first | exact hG _ _ | refine Below.alloc ?_ (g_ _) _ | refine Below.setCell ?_ (by simp) _))
def zm (ob:Nat) (v:Int) (kslv yslv:Value) (w:World):Prop:=w.heap[ob]? = some (.cells #[str [],.int .i64 v,kslv,yslv] 46 (0,0))
theorem zm.cells {ob:Nat} {v:Int} {ks ys:Value} {w:World} (h:zm ob v ks ys w):w.cell? ⟨ob,0,none⟩=some (str [])/\w.cell? ⟨ob,1,none⟩=some (.int .i64 v)/\w.cell? ⟨ob,2,none⟩=some ks/\w.cell? ⟨ob,3,none⟩=some ys/\ob<w.heap.size/\(∀ o,w.frozen? ⟨ob,o,none⟩=false):=by
 have hl:=zZ h
 unfold zm at h
 exact ⟨by simp [World.cell?,h],by simp [World.cell?,h],by simp [World.cell?,h],by simp [World.cell?,h],hl,fun o=>by simp [World.frozen?,h]⟩
theorem zm.put2 {ob:Nat} {v:Int} {ks ys u:Value} {w:World} (h:zm ob v ks ys w):zm ob v u ys (w.setCell ⟨ob,2,none⟩ u):=by
 unfold zm;rw [zI h];rfl
theorem zm.put3 {ob:Nat} {v:Int} {ks ys u:Value} {w:World} (h:zm ob v ks ys w):zm ob v ks u (w.setCell ⟨ob,3,none⟩ u):=by
 unfold zm;rw [zI h];rfl
theorem zm.but {ob:Nat} {v:Int} {ks ys:Value} {m:Nat->Prop} {w w':World} (h:zm ob v ks ys w) (hb:But m w w') (hm:¬ m ob):zm ob v ks ys w':=by
 unfold zm;rw [hb.block ob (zZ h) hm];exact h
theorem zm.below {ob:Nat} {v:Int} {ks ys:Value} {w w':World} {B:Nat} (h:zm ob v ks ys w) (hb:Below B w w') (hm:ob<B):zm ob v ks ys w':=by
 unfold zm;rw [hb.block ob hm];exact h
theorem zm.store {ob:Nat} {v:Int} {ks ys:Value} {w:World} (h:zm ob v ks ys w) (u0 u1 u2 u3:Value) :
 ∃ W,W=((((w.setCell ⟨ob,0,none⟩ u0).setCell ⟨ob,1,none⟩ u1).setCell ⟨ob,2,none⟩ u2).setCell ⟨ob,3,none⟩ u3) /\
   W.cell? ⟨ob,0,none⟩=some u0/\W.cell? ⟨ob,1,none⟩=some u1/\W.cell? ⟨ob,2,none⟩=some u2/\W.cell? ⟨ob,3,none⟩=some u3 /\
   (∀ B w0,Below B w0 w->B<=ob->Below B w0 W)/\(∀ i x,i≠ob->w.heap[i]? = some x->W.heap[i]? = some x):=by
 have hc:((((w.setCell ⟨ob,0,none⟩ u0).setCell ⟨ob,1,none⟩ u1).setCell ⟨ob,2,none⟩ u2).setCell ⟨ob,3,none⟩ u3).heap[ob]? = some (.cells #[u0,u1,u2,u3] 46 (0,0)):=by
  unfold zm at h
  rw [zI (zI (zI (zI h)))];rfl
 refine ⟨_,rfl,by simp only [World.cell?,hc];rfl,by simp only [World.cell?,hc];rfl,by simp only [World.cell?,hc];rfl,by simp only [World.cell?,hc];rfl,fun B w0 hb hB=>?_,fun i x hi hx=>?_⟩
 ·exact ((((hb.setCell (p:=⟨ob,0,none⟩) hB _).setCell (p:=⟨ob,1,none⟩) hB _).setCell (p:=⟨ob,2,none⟩) hB _).setCell (p:=⟨ob,3,none⟩) hB _)
 ·rw [hH _ _ _ _ (by simpa using hi),hH _ _ _ _ (by simpa using hi),hH _ _ _ _ (by simpa using hi),hH _ _ _ _ (by simpa using hi)];exact hx
structure xU (l:Bs) (w:World) (rd:RdS) (hs:List (List Ty)) (n i0 ob Z v:Nat) (k en:Nat) (wr:World) (ps:List Bd) (kv yv:List Value) (ks:Value) (nk:Nat) (ys:Value) (ny:Nat):Prop where
 hnk:nk=min k n
 hny:ny=k-n
 ksl:∃ a c,ks=.slice a nk c
 ysl:∃ a c,ys=.slice a ny c
 spec:zU rd (hs.take k) (l.drop i0)=some (ps,l.drop en)
 len:ps.length=k
 en:en<=l.length
 below:Below w.heap.size w wr
 res:zm w.heap.size 0 (.slice none 0 0) (.slice none 0 0) wr
 out:zm ob v ks ys wr
 ownK:Own wr 46 4 ks nk kv
 ownY:Own wr 46 4 ys ny yv
 blkK:∀ g,ks.ownBlock=some g->Z<=g/\ys.ownBlock≠some g
 blkY:∀ g,ys.ownBlock=some g->Z<=g
 repK:zH (fun b=>Z<=b/\ks.ownBlock≠some b/\ys.ownBlock≠some b) wr (zn (ps.take n)) kv
 repY:zH (fun b=>Z<=b/\ks.ownBlock≠some b/\ys.ownBlock≠some b) wr (zn (ps.drop n)) yv
 z:Z<=wr.heap.size
theorem xU.kid {l:Bs} {w:World} {rd:RdS} {hs:List (List Ty)} {n i0 ob Z v k en:Nat} {wr:World} {ps:List Bd} {kv yv:List Value} {ks ys:Value} {nk ny:Nat}
 (h:xU l w rd hs n i0 ob Z v k en wr ps kv yv ks nk ys ny) (hk:k<n) (tz:ob<Z) (hwo:w.heap.size<ob) {W w7:World} {b:Bd} {cs:List Value} {a':Option Addr} {c' fL:Nat}
 (bP:Below wr.heap.size wr W) (hcs:zH (wr.heap.size<=·) W (kE b) cs) (bA:Own w7 46 4 (.slice a' (nk+1) c') (nk+1) (kv++cs)) (bV:But (fun i=>ks.ownBlock=some i) W w7)
 (bH:∀ g,(Value.slice a' (nk+1) c').ownBlock=some g->ks.ownBlock=some g\/g=W.heap.size)
 (rU:zU rd (hs.take (k+1)) (l.drop i0)=some (ps++[b],l.drop fL)) (lT:fL<=l.length) :
 xU l w rd hs n i0 ob Z v (k+1) fL (w7.setCell ⟨ob,2,none⟩ (.slice a' (nk+1) c')) (ps++[b]) (kv++cs) yv (.slice a' (nk+1) c') (nk+1) ys ny:=by
 have z6:=bP.size
 have z7:=bV.size
 have zr:=h.z
 have hlen:=h.len
 have keep:∀ i x,wr.heap[i]? = some x->ks.ownBlock≠some i->i≠ob->(w7.setCell ⟨ob,2,none⟩ (.slice a' (nk+1) c')).heap[i]? = some x:=by
  intro i x hx h1 h2
  have:=zZ hx
  rw [hH _ _ _ _ (by simpa using h2),bV.block i (by omega) h1,bP.block i this];exact hx
 have cM:∀ i x,W.heap[i]? = some x->ks.ownBlock≠some i->i≠ob->(w7.setCell ⟨ob,2,none⟩ (.slice a' (nk+1) c')).heap[i]? = some x:=by
  intro i x hx h1 h2
  have:=zZ hx
  rw [hH _ _ _ _ (by simpa using h2),bV.block i (by omega) h1];exact hx
 have ltK:∀ g,ks.ownBlock=some g->g<wr.heap.size:=fun g hg=>h.ownK.lt hg
 have ltY:∀ g,ys.ownBlock=some g->g<wr.heap.size:=fun g hg=>h.ownY.lt hg
 have nK:∀ i,i<Z->ks.ownBlock≠some i:=fun i hi e=>by have:=(h.blkK i e).1;omega
 have newg:∀ g,(Value.slice a' (nk+1) c').ownBlock=some g->Z<=g:=fun g hg=>by
  rcases bH g hg with e | e
  ·exact (h.blkK g e).1
  ·omega
 refine ⟨by rw [h.hnk];omega,by rw [h.hny];omega,⟨_,_,rfl⟩,h.ysl,rU,by simp [hlen],lT,?_,?_,?_,?_,?_,?_,h.blkY,?_,?_,by simp [World.setCell];omega⟩
 ·refine Below.setCell ?_ (show w.heap.size<=ob by omega) _
  exact (zzT h.below bP).trans (bV.toBelow (by have:=h.below.size;omega) fun i hi e=>nK i (by omega) e)
 ·exact keep _ _ h.res (nK _ (by omega)) (by omega)
 ·have h1:zm ob v ks ys w7:=by
   unfold zm;rw [bV.block ob (by omega) (nK _ tz),bP.block ob (by omega)];exact h.out
  exact h1.put2
 ·exact bA.keep fun g o hg ho=>by rw [hH _ _ _ _ (by have:=newg g hg;simp;omega)];exact ho
 ·exact h.ownY.keep fun g o hg ho=>keep g o ho (fun e=>(h.blkK g e).2 hg) (by have:=h.blkY g hg;omega)
 ·intro g hg
  refine ⟨newg g hg,fun e=>?_⟩
  rcases bH g hg with e' | e'
  ·exact (h.blkK g e').2 e
  ·have:=ltY g e;omega
 ·rw [List.take_of_length_le (by simp;omega),qw]
  have h1:=h.repK
  rw [List.take_of_length_le (by omega)] at h1
  refine zH.append ((Rep.keep fun i x hi hx=>⟨⟨hi.1,fun e=>(bH i e).elim (fun e'=>hi.2.1 e') (fun e'=>by have:=zZ hx;omega),hi.2.2⟩,keep i x hx hi.2.1 (by have:=hi.1;omega)⟩).2 _ _ h1) ?_
  ·have e1:zn [b]=kE b:=by simp [zn]
   rw [e1]
   refine (Rep.keep fun i x hi hx=>?_).2 _ _ hcs
   have h2:=zZ hx
   have h3:wr.heap.size<=i:=hi
   refine ⟨⟨by omega,fun e=>?_,fun e=>by have:=ltY i e;omega⟩,cM i x hx (fun e=>by have:=ltK i e;omega) (by omega)⟩
   rcases bH i e with e' | e'
   ·have:=ltK i e';omega
   ·omega
 ·have h1:=h.repY
  rw [List.drop_eq_nil_of_le (by omega)] at h1
  rw [List.drop_eq_nil_of_le (by simp;omega)]
  have:yv=[]:=by simpa [zn,zB] using h1
  subst this;exact zB.2 rfl
theorem xU.yes {l:Bs} {w:World} {rd:RdS} {hs:List (List Ty)} {n i0 ob Z v k en:Nat} {wr:World} {ps:List Bd} {kv yv:List Value} {ks ys:Value} {nk ny:Nat}
 (h:xU l w rd hs n i0 ob Z v k en wr ps kv yv ks nk ys ny) (hk:n<=k) (tz:ob<Z) (hwo:w.heap.size<ob) {W w7:World} {b:Bd} {cs:List Value} {a':Option Addr} {c' fL:Nat}
 (bP:Below wr.heap.size wr W) (hcs:zH (wr.heap.size<=·) W (kE b) cs) (bA:Own w7 46 4 (.slice a' (ny+1) c') (ny+1) (yv++cs)) (bV:But (fun i=>ys.ownBlock=some i) W w7)
 (bH:∀ g,(Value.slice a' (ny+1) c').ownBlock=some g->ys.ownBlock=some g\/g=W.heap.size)
 (rU:zU rd (hs.take (k+1)) (l.drop i0)=some (ps++[b],l.drop fL)) (lT:fL<=l.length) :
 xU l w rd hs n i0 ob Z v (k+1) fL (w7.setCell ⟨ob,3,none⟩ (.slice a' (ny+1) c')) (ps++[b]) kv (yv++cs) ks nk (.slice a' (ny+1) c') (ny+1):=by
 have z6:=bP.size
 have z7:=bV.size
 have zr:=h.z
 have hlen:=h.len
 have keep:∀ i x,wr.heap[i]? = some x->ys.ownBlock≠some i->i≠ob->(w7.setCell ⟨ob,3,none⟩ (.slice a' (ny+1) c')).heap[i]? = some x:=by
  intro i x hx h1 h2
  have:=zZ hx
  rw [hH _ _ _ _ (by simpa using h2),bV.block i (by omega) h1,bP.block i this];exact hx
 have cM:∀ i x,W.heap[i]? = some x->ys.ownBlock≠some i->i≠ob->(w7.setCell ⟨ob,3,none⟩ (.slice a' (ny+1) c')).heap[i]? = some x:=by
  intro i x hx h1 h2
  have:=zZ hx
  rw [hH _ _ _ _ (by simpa using h2),bV.block i (by omega) h1];exact hx
 have ltK:∀ g,ks.ownBlock=some g->g<wr.heap.size:=fun g hg=>h.ownK.lt hg
 have ltY:∀ g,ys.ownBlock=some g->g<wr.heap.size:=fun g hg=>h.ownY.lt hg
 have nY:∀ i,i<Z->ys.ownBlock≠some i:=fun i hi e=>by have:=h.blkY i e;omega
 have newg:∀ g,(Value.slice a' (ny+1) c').ownBlock=some g->Z<=g:=fun g hg=>by
  rcases bH g hg with e | e
  ·exact h.blkY g e
  ·omega
 refine ⟨by rw [h.hnk];omega,by rw [h.hny];omega,h.ksl,⟨_,_,rfl⟩,rU,by simp [hlen],lT,?_,?_,?_,?_,?_,?_,newg,?_,?_,by simp [World.setCell];omega⟩
 ·refine Below.setCell ?_ (show w.heap.size<=ob by omega) _
  exact (zzT h.below bP).trans (bV.toBelow (by have:=h.below.size;omega) fun i hi e=>nY i (by omega) e)
 ·exact keep _ _ h.res (nY _ (by omega)) (by omega)
 ·have h1:zm ob v ks ys w7:=by
   unfold zm;rw [bV.block ob (by omega) (nY _ tz),bP.block ob (by omega)];exact h.out
  exact h1.put3
 ·exact h.ownK.keep fun g o hg ho=>keep g o ho (h.blkK g hg).2 (by have:=(h.blkK g hg).1;omega)
 ·exact bA.keep fun g o hg ho=>by rw [hH _ _ _ _ (by have:=newg g hg;simp;omega)];exact ho
 ·intro g hg
  refine ⟨(h.blkK g hg).1,fun e=>?_⟩
  rcases bH g e with e' | e'
  ·exact (h.blkK g hg).2 e'
  ·have:=ltK g hg;omega
 ·rw [List.take_append_of_le_length (by omega)]
  refine (Rep.keep fun i x hi hx=>⟨⟨hi.1,hi.2.1,fun e=>?_⟩,keep i x hx hi.2.2 (by have:=hi.1;omega)⟩).2 _ _ h.repK
  rcases bH i e with e' | e'
  ·exact hi.2.2 e'
  ·have:=zZ hx;omega
 ·rw [List.drop_append_of_le_length (by omega),qw]
  refine zH.append ((Rep.keep fun i x hi hx=>⟨⟨hi.1,hi.2.1,fun e=>(bH i e).elim (fun e'=>hi.2.2 e') (fun e'=>by have:=zZ hx;omega)⟩,keep i x hx hi.2.2 (by have:=hi.1;omega)⟩).2 _ _ h.repY) ?_
  ·have e1:zn [b]=kE b:=by simp [zn]
   rw [e1]
   refine (Rep.keep fun i x hi hx=>?_).2 _ _ hcs
   have h2:=zZ hx
   have h3:wr.heap.size<=i:=hi
   refine ⟨⟨by omega,fun e=>by have:=ltK i e;omega,fun e=>?_⟩,cM i x hx (fun e=>by have:=ltY i e;omega) (by omega)⟩
   rcases bH i e with e' | e'
   ·have:=ltY i e';omega
   ·omega
theorem zS.lit4 {w:World} {e:TypeId} (cs:Array Value) (hn:cs.size=4) (hc:∀ u∈cs.toList,u.oneCell'=true) (g:Nat) (hg:g=w.heap.size):zS 4 (.slice (some ⟨g,0,none⟩) 1 1) 1 cs.toList (w.alloc (.cells cs e)):=by
 subst hg
 refine ⟨by simp [hn],hc,.inl ⟨_,_,rfl,fun j u hu=>?_⟩⟩
 unfold Addr.add
 split
 ·subst j;simp;simpa using hu
 ·simp;simpa using hu
def NodeRel (l:Bs) (w:World) (rd:RdS) (hs:List (List Ty)) (n i0 ob Z v:Nat) (k en:Nat) (wr:World):Prop :=
 ∃ ps kv yv ks nk ys ny,xU l w rd hs n i0 ob Z v k en wr ps kv yv ks nk ys ny
set_option maxRecDepth 100000 in
theorem l3Read_ask (l:Bs) (hl:Lim l.length) (e d:Nat) (oq:e+1+d=101) (ih:NodeSaid l e (d+1)) (F:Nat->Prop) (hand:List Ty) (hv:Value) (i:Nat) (w:World) (hi:i<l.length) (hh:kC (e+1) hand)
 (hr:Rep F w (.sl 43 1 hand.length (kd hand)) hv) (cc:l[i]=40) :
 Calls Tryz.prog 40 #[str l,.int .i64 i,hv,.int .i64 d] w (jD l.length w (rdN (e+1) hand (l.drop i))):=by
 have fH:=hl.le
 have IH:=gl ih;clear ih
 have hlen:hand.length<=10000:=by have:=hh.2;omega
 have sG:¬ (100:Int)<(d:Int):=by omega
 have HM:=gl (rdN_40 e hand hi cc)
 have f1:=jM hi (c:=116) (n:=116) (by decide) (by rw [cc];decide)
 have f2:=jM hi (c:=102) (n:=102) (by decide) (by rw [cc];decide)
 have f3:=jM hi (c:=117) (n:=117) (by decide) (by rw [cc];decide)
 have f4:=uB hi (n:=40) (by decide) cc
 clear cc
 obtain ⟨a0,k0,ehv,_,_,bJ⟩:=zE hr
 subst ehv
 have bf:=gl bJ;clear bJ
 go_enter Tryz.func40,Tryz.ntmps40
 go_wp2_with fail
 rw [show (i:Int)+1=((i+1:Nat):Int) from by omega]
 refine (l3Number_any l hl (i+1) hi _).mono ?_
 rintro en w1 ⟨v,k1,rfl,ew,b8,cQ⟩
 obtain rfl:=ew
 cases hq:ke (l.drop (i+1)) with
 | none =>
   obtain rfl:=b8 hq
   have hm:rdN (e+1) hand (l.drop i)=none:=by rw [HM.out,hq]
   have HM:=gl hm;clear hm hq b8 cQ
   go_wp2_with fail
   refine bodyPost_ret (v:=.tuple #[.agg #[str [],.int .i64 0,.slice none 0 0,.slice none 0 0],.int .i64 (-1)]) (by simp [results,Tryz.results40,go_sem]) rfl ?_
   exact jD.no HM.out (by repeat (first | exact hG _ _ | refine Below.alloc ?_ (g_ _) _ | refine Below.setCell ?_ (by simp) _))
 | some x =>
 obtain ⟨v',c⟩:=x
 obtain ⟨rfl,rfl⟩:=cQ _ _ hq
 have tV:i+1+c<=l.length/\v<=9999:=by
  unfold ke at hq
  split at hq
  ·simp at hq
  ·simp at hq
   obtain ⟨e1,e2⟩:=hq
   have h1:=yy (l.drop (i+1))
   have h2:=valOf_lt (kK (l.drop (i+1))) (jc _)
   have h3:10 ^ (kK (l.drop (i+1))).length<=10 ^ 4:=Nat.pow_le_pow_right (by omega) h1.1
   simp at h1;omega
 obtain ⟨tV,hv9⟩:=tV
 have HQ:=gl hq;clear hq b8 cQ
 by_cases nQ:v<hand.length
 rotate_left
 ·have hm:rdN (e+1) hand (l.drop i)=none:=by
   rw [HM.out,HQ.out];simp only
   rw [List.getElem?_eq_none (by omega)]
  have HM:=gl hm;clear hm
  go_wp2_with fail
  refine bodyPost_ret (v:=.tuple #[.agg #[str [],.int .i64 0,.slice none 0 0,.slice none 0 0],.int .i64 (-1)]) (by simp [results,Tryz.results40,go_sem]) rfl ?_
  exact jD.no HM.out (by repeat (first | exact hG _ _ | refine Below.alloc ?_ (g_ _) _ | refine Below.setCell ?_ (by simp) _))
 obtain ⟨bl,ol,u,dv,ea,hFl,tX,tn,BQ,be⟩:=bf.out v nQ
 rw [qo,Option.map_eq_some_iff] at tn
 obtain ⟨t,ht,rfl⟩:=tn
 obtain ⟨sa,ks,rfl⟩:=zu be
 have mL:=be
 rw [k8] at mL
 obtain ⟨_,_,est,_,_,f_⟩:=zE mL
 simp only [Value.slice.injEq] at est
 obtain ⟨rfl,_,rfl⟩:=est
 subst ea
 have HT:=gl ht;have sm:=gl f_
 have hm : rdN (e+1) hand (l.drop i)=(do
         let (ps,l1)<-zU (rdN e) (ku hand t) ((l.drop (i+1)).drop c)
         let l2<-cut [41] l1
         let b<-vf v t.args.length ps
         some (b,l2)):=by rw [HM.out,HQ.out];simp only [ht]
 rw [List.drop_drop] at hm
 have HM:=gl hm
 have eN:t.args.length<=15:=by
  have h1:=hh.1 t (List.mem_of_getElem? ht)
  have h2:=kN t
  have:=zl t.args;omega
 clear hm ht f_ mL
 have gv:decide (hand.length<=v)=false:=by rw [decide_eq_false_iff_not];omega
 have gi:decide ((i:Int)+1+(c:Int)<0)=false:=by rw [decide_eq_false_iff_not];omega
 go_wp2_with fail
 have cO:NodeRel l w (rdN e) (ku hand t) t.args.length (i+1+c) (w.heap.size+1) (w.heap.size+2) v 0 (i+1+c)
  ((w.alloc (.cells #[str [],.int .i64 0,.slice none 0 0,.slice none 0 0] 46)).alloc (.cells #[str [],.int .i64 v,.slice none 0 0,.slice none 0 0] 46)):=by
  refine ⟨[],[],[],.slice none 0 0,0,.slice none 0 0,0,by simp,by simp,⟨_,_,rfl⟩,⟨_,_,rfl⟩,by simp [zU],rfl,tV,((hG _ _).alloc (g_ _) _).alloc (by simp) _,?_,?_,World.ownsRow_nil _ _ _ _,World.ownsRow_nil _ _ _ _,fun g h=>by simp [Value.ownBlock] at h,fun g h=>by simp [Value.ownBlock] at h,by rw [List.take_nil];exact zB.2 rfl,by rw [List.drop_nil];exact zB.2 rfl,by simp⟩
  ·exact zV (zR _ _)
  ·have:=zR (w.alloc (.cells #[str [],.int .i64 0,.slice none 0 0,.slice none 0 0] 46)) (.cells #[str [],.int .i64 v,.slice none 0 0,.slice none 0 0] 46)
   rw [zK] at this;exact this
 generalize oe:i+1+c=i0 at *
 rw [show (i:Int)+1+(c:Int)=(i0:Int) from by omega]
 have HI0:=gl oe;clear oe
 go_loopw [11,14] (fun a b wr=>∃ k en:Nat,k<=t.args.length+2/\a=.int .i64 en/\b=.int .i64 k/\NodeRel l w (rdN e) (ku hand t) t.args.length i0 (w.heap.size+1) (w.heap.size+2) v k en wr)
  (fun _ b _=>t.args.length+2-(intOf b).toNat)
 case atStart=>exact ⟨0,i0,Nat.zero_le _,rfl,rfl,cO⟩
 case round =>
  clear cO
  rename_i wr
  obtain ⟨k,en,hk,rfl,rfl,hrel⟩:=hrel
  obtain ⟨ps,kv,yv,ks,nk,ys,ny,hrel⟩:=hrel
  have nr:=hrel.res;have de:=hrel.out;have hb:=hrel.below;have hen:=hrel.en;have zr:=hrel.z
  have HP:=gl hrel.spec
  have nkl:nk<=17:=by have:=hrel.hnk;omega
  have nyl:ny<=2:=by have:=hrel.hny;omega
  obtain ⟨ka,kc,eks⟩:=hrel.ksl
  obtain ⟨ya,yc,eys⟩:=hrel.ysl
  subst eks;subst eys
  have HR:=gl hrel;clear hrel
  obtain ⟨r0,r1,r2,r3,rl,rf⟩:=nr.cells
  obtain ⟨q0,q1,q2,q3,ql,qf⟩:=de.cells
  have fv:=rf 0;have mC:=rf 1;have mB:=rf 2;have mH:=rf 3;clear rf
  have nH:=qf 2;have aI:=qf 3;clear qf
  by_cases bY:k<t.args.length+2
  ·have cz:(k:Int)<(t.args.length:Int)+2:=by omega
   by_cases aF:∃ h:en<l.length,l[en]=32
   rotate_left
   ·have hm:rdN (e+1) hand (l.drop i)=none:=by
     have hs:=vF (rd:=rdN e) (show (ku hand t)[k]? = some _ from List.getElem?_eq_getElem (by rw [jR];exact bY)) HP.out
     have hc:cut [32] (l.drop en)=none:=by
      by_cases h:en<l.length
      ·rw [jb h,if_neg (fun h'=>aF ⟨h,h'⟩)]
      ·exact yw (by omega)
     rw [HM.out,jX (k+1) (by rw [hs];simp [z_,hc])];rfl
    have HM:=gl hm;clear hm
    have dJ:(l.length<=en)\/∃ h:en<l.length,((((⟨l.toArray⟩:ByteArray)[en]'(qy h)).toNat:Int) != 32)=true:=by
     by_cases h:en<l.length
     ·exact .inr ⟨h,yI h (n:=32) (by decide) (fun h'=>aF ⟨h,h'⟩)⟩
     ·exact .inl (by omega)
    clear aF
    rcases dJ with h | ⟨h,f5⟩
    ·have g1:(l.length:Int)<=(en:Int):=by omega
     go_wp2_with fail
     obtain ⟨W,hW,s0,s1,s2,s3,bE,_⟩:=nr.store (.string ⟨#[]⟩) (.int .i64 0) (.slice none 0 0) (.slice none 0 0)
     rw [<- hW]
     refine bodyPost_ret (v:=.tuple #[.agg #[str [],.int .i64 0,.slice none 0 0,.slice none 0 0],.int .i64 (-1)]) (by simp [results,Tryz.results40,go_sem,s0,s1,s2,s3]) rfl ?_
     exact jD.no HM.out (bE _ _ hb (g_ _))
    ·go_wp2_with fail
     obtain ⟨W,hW,s0,s1,s2,s3,bE,_⟩:=nr.store (.string ⟨#[]⟩) (.int .i64 0) (.slice none 0 0) (.slice none 0 0)
     rw [<- hW]
     refine bodyPost_ret (v:=.tuple #[.agg #[str [],.int .i64 0,.slice none 0 0,.slice none 0 0],.int .i64 (-1)]) (by simp [results,Tryz.results40,go_sem,s0,s1,s2,s3]) rfl ?_
     exact jD.no HM.out (bE _ _ hb (g_ _))
   obtain ⟨ez,aF⟩:=aF
   have f5:=uB ez (n:=32) (by decide) aF
   have g1:decide ((en:Int)<0)=false:=by rw [decide_eq_false_iff_not];omega
   have g2:decide (l.length<=en)=false:=by rw [decide_eq_false_iff_not];omega
   have HC:Hid (cut [32] (l.drop en)=some (l.drop (en+1))):=by show cut [32] (l.drop en)=_;rw [jb ez,if_pos aF]
   clear aF
   by_cases lC:k<t.args.length
   ·have lB:(k:Int)<(t.args.length:Int):=by omega
    obtain ⟨ba,oa,uk,dk,esa,hFa,iR,iE,t_,c_⟩:=sm.out k lC
    subst esa
    rw [qo,Option.map_eq_some_iff] at iE
    obtain ⟨tk,fU,rfl⟩:=iE
    obtain ⟨ua,uc,rfl⟩:=zu c_
    have e1:wr.cell? ⟨ba,oa+k,none⟩=some (.slice ua tk.args.length uc):=by rw [hb.cell iR];exact t_
    have rE:=Rep.below (F':=F) hb (fun _ h=>h) c_
    have dg:=Rep.below (F':=F) hb (fun _ h=>h) hr
    have iB:kC e (hand++tk.args):=hh.next HT.out (List.mem_of_getElem? fU)
    have ri:Lim (hand.length+tk.args.length):=by have:=iB.2;simp at this;show _<=_;omega
    have HS:=gl (vF (rd:=rdN e) (xa (hand:=hand) fU) HP.out)
    clear fU t_ c_
    go_wp2_with fail
    refine (gH F hand tk _ _ wr dg rE ri).mono ?_
    rintro en5 w5 ⟨a5,c5,rfl,bC,fP⟩
    have z5:=bC.size
    have HR5:=gl fP;clear fP dg rE ri
    have Q:=gl (go nr (go de (go hb bC)))
    have rl5:w.heap.size<w5.heap.size:=by omega
    have oU:w.heap.size+1<w5.heap.size:=by omega
    go_wp2_with fail
    rw [show (en:Int)+1=((en+1:Nat):Int) from by omega,show (d:Int)+1=((d+1:Nat):Int) from by omega,<- List.length_append]
    refine (IH.out (fun k=>F k\/wr.heap.size<=k) (hand++tk.args) _ (en+1) w5 ez iB (by rw [List.length_append] at HR5 ⊢;exact HR5.out)).mono ?_
    rintro o_ w6 ⟨s6,v6,a2,n2,k2,a3,n3,k3,k6,rfl,bP,eS,dx⟩
    rw [List.length_append]
    obtain ⟨nr,de,hb,bC⟩:=Q.out
    have z6:=bP.size
    have eB:=bC.trans (bP.mono z5)
    have mq:=nr.below eB rl
    have mj:=de.below eB ql
    have fE:=zzT hb eB
    obtain ⟨r0,r1,r2,r3,rl6,rf⟩:=mq.cells
    obtain ⟨q0,q1,q2,q3,tC,qf⟩:=mj.cells
    have fv:=rf 0;have mC:=rf 1;have mB:=rf 2;have mH:=rf 3;clear rf
    have nH:=qf 2;have aI:=qf 3;clear qf
    have Q2:=gl (go eB (go mq mj));clear bC hb nr de eB mq mj bP Q
    cases hq:rdN e (hand++tk.args) (l.drop (en+1)) with
    | none =>
      obtain rfl:=eS hq
      have hm:rdN (e+1) hand (l.drop i)=none:=by
       rw [HM.out,jX (k+1) (by rw [HS.out];simp [z_,HC.out,hq])];rfl
      have HM:=gl hm;clear hm hq eS dx
      go_wp2_with fail
      obtain ⟨W,hW,s0,s1,s2,s3,bE,_⟩:=Q2.out.2.1.store (.string ⟨#[]⟩) (.int .i64 0) (.slice none 0 0) (.slice none 0 0)
      rw [<- hW]
      refine bodyPost_ret (v:=.tuple #[.agg #[str [],.int .i64 0,.slice none 0 0,.slice none 0 0],.int .i64 (-1)]) (by simp [results,Tryz.results40,go_sem,zJ s0,zJ s1,zJ s2,zJ s3]) rfl ?_
      exact jD.no HM.out ((bE _ _ fE (g_ _)).alloc (bE _ _ fE (g_ _)).size _)
    | some x =>
      obtain ⟨b,rest⟩:=x
      obtain ⟨rfl,fD⟩:=dx _ _ hq
      have fm:=vu (uj e hq)
      have rD:rest.length<=l.length:=by have:=(uj e hq).length_le;simp at this;omega
      obtain ⟨fL,lL⟩:=zzM (l.length-rest.length)
      rw [<- lL] at fm
      have Bu:(l.length:Int)-(rest.length:Int)=(fL:Int):=by omega
      rw [Bu]
      have HE2:=gl lL;clear lL Bu
      have hs:zU (rdN e) ((ku hand t).take (k+1)) (l.drop i0)=some (ps++[b],l.drop fL):=by
       rw [HS.out];simp [z_,HC.out,hq,fm]
      have HS2:=gl hs;have HC6:=gl fD;clear hs fD hq eS dx fm
      go_wp2_with (at_builtin;refine zP rfl _ _ 44 rfl 46 (.agg #[str [],.int .i64 0,.slice none 0 0,.slice none 0 0]) 4 72 Tryz.underlying44 Tryz.infoN rfl (by decide) (.slice ka nk kc) nk kv rfl ?c1 _ 1 [str s6,.int .i64 v6,.slice a2 n2 k2,.slice a3 n3 k3] rfl ?c2 ?c3 ?c4 ?_)
      case c1 =>
       refine (HR.out.ownK.keep fun g o hg ho=>?_).alloc _ |>.alloc _
       rw [Q2.out.1.block g (zZ ho)];exact ho
      case c2=>exact zS.lit4 #[str s6,.int .i64 v6,.slice a2 n2 k2,.slice a3 n3 k3] rfl (by simp [str,Value.oneCell']) _ (by simp)
      case c3=>unfold maxLen;omega
      case c4=>omega
      intro a' c' w7 bI bV bH
      have hW:Below wr.heap.size wr ((w6.alloc (.cells #[str s6,.int .i64 v6,.slice a2 n2 k2,.slice a3 n3 k3] 46)).alloc (.cells #[str s6,.int .i64 v6,.slice a2 n2 k2,.slice a3 n3 k3] 46)):=(Q2.out.1.alloc Q2.out.1.size _).alloc (by have:=Q2.out.1.size;simp;omega) _
      have hC:zH (wr.heap.size<=·) ((w6.alloc (.cells #[str s6,.int .i64 v6,.slice a2 n2 k2,.slice a3 n3 k3] 46)).alloc (.cells #[str s6,.int .i64 v6,.slice a2 n2 k2,.slice a3 n3 k3] 46)) (kE b) [str s6,.int .i64 v6,.slice a2 n2 k2,.slice a3 n3 k3] :=
       (Rep.keep fun i o hi ho=>⟨h_ z5 hi,zV (zV ho)⟩).2 _ _ HC6.out
      have hA:=HR.out.kid lC (by omega) (show w.heap.size<w.heap.size+1 by omega) hW hC bI bV (fun g hg=>by simpa only [zK] using bH g hg) HS2.out (by have:=HE2.out;omega)
      have z7:=bV.size
      rw [zK,zK] at z7
      have lO:w7.cell? ⟨w.heap.size+1,2,none⟩=some (.slice ka nk kc):=by
       rw [bV.cell (by simp only [zK];omega) (fun e=>by have h:w.heap.size+2<=w.heap.size+1:=(HR.out.blkK _ e).1;omega)]
       exact zJ (zJ q2)
      have lN:w7.frozen? ⟨w.heap.size+1,2,none⟩=false:=by
       rw [World.frozen?_of_block (w:=w6) (by rw [bV.block _ (by simp only [zK];omega) (fun e=>by have h:w.heap.size+2<=w.heap.size+1:=(HR.out.blkK _ e).1;omega)];rw [Below.heap_alloc _ _ _ (by simp only [zK];omega),Below.heap_alloc _ _ _ (by omega)])]
       exact nH
      have HA:=gl hA;clear hA hW hC bI bV bH
      go_wp2_with fail
      go_roundw
      case rel=>exact ⟨k+1,fL,by omega,rfl,by go_num,_,_,_,_,_,_,_,HA.out⟩
      case measure=>simp [intOf];omega
   ·have lB:t.args.length<=k:=by omega
    have hkn2:¬ (k:Int)<(t.args.length:Int):=by omega
    have dg:=Rep.below (F':=F) hb (fun _ h=>h) hr
    have HS:=gl (vF (rd:=rdN e) (xt (hand:=hand) (t:=t) lB bY) HP.out)
    go_wp2_with fail
    refine (IH.out F hand _ (en+1) wr ez (by have:=hh.same;rwa [List.append_nil] at this) dg).mono ?_
    rintro o_ w6 ⟨s6,v6,a2,n2,k2,a3,n3,k3,k6,rfl,bP,eS,dx⟩
    have z6:=bP.size
    have eB:=bP
    have mq:=nr.below eB rl
    have mj:=de.below eB ql
    have fE:=zzT hb eB
    obtain ⟨r0,r1,r2,r3,rl6,rf⟩:=mq.cells
    obtain ⟨q0,q1,q2,q3,tC,qf⟩:=mj.cells
    have fv:=rf 0;have mC:=rf 1;have mB:=rf 2;have mH:=rf 3;clear rf
    have nH:=qf 2;have aI:=qf 3;clear qf
    have Q2:=gl (go eB (go mq mj));clear hb nr de eB mq mj bP
    cases hq:rdN e hand (l.drop (en+1)) with
    | none =>
      obtain rfl:=eS hq
      have hm:rdN (e+1) hand (l.drop i)=none:=by
       rw [HM.out,jX (k+1) (by rw [HS.out];simp [z_,HC.out,hq])];rfl
      have HM:=gl hm;clear hm hq eS dx
      go_wp2_with fail
      obtain ⟨W,hW,s0,s1,s2,s3,bE,_⟩:=Q2.out.2.1.store (.string ⟨#[]⟩) (.int .i64 0) (.slice none 0 0) (.slice none 0 0)
      rw [<- hW]
      refine bodyPost_ret (v:=.tuple #[.agg #[str [],.int .i64 0,.slice none 0 0,.slice none 0 0],.int .i64 (-1)]) (by simp [results,Tryz.results40,go_sem,zJ s0,zJ s1,zJ s2,zJ s3]) rfl ?_
      exact jD.no HM.out ((bE _ _ fE (g_ _)).alloc (bE _ _ fE (g_ _)).size _)
    | some x =>
      obtain ⟨b,rest⟩:=x
      obtain ⟨rfl,fD⟩:=dx _ _ hq
      have fm:=vu (uj e hq)
      have rD:rest.length<=l.length:=by have:=(uj e hq).length_le;simp at this;omega
      obtain ⟨fL,lL⟩:=zzM (l.length-rest.length)
      rw [<- lL] at fm
      have Bu:(l.length:Int)-(rest.length:Int)=(fL:Int):=by omega
      rw [Bu]
      have HE2:=gl lL;clear lL Bu
      have hs:zU (rdN e) ((ku hand t).take (k+1)) (l.drop i0)=some (ps++[b],l.drop fL):=by
       rw [HS.out];simp [z_,HC.out,hq,fm]
      have HS2:=gl hs;have HC6:=gl fD;clear hs fD hq eS dx fm
      go_wp2_with (at_builtin;refine zP rfl _ _ 44 rfl 46 (.agg #[str [],.int .i64 0,.slice none 0 0,.slice none 0 0]) 4 72 Tryz.underlying44 Tryz.infoN rfl (by decide) (.slice ya ny yc) ny yv rfl ?c1 _ 1 [str s6,.int .i64 v6,.slice a2 n2 k2,.slice a3 n3 k3] rfl ?c2 ?c3 ?c4 ?_)
      case c1 =>
       refine (HR.out.ownY.keep fun g o hg ho=>?_).alloc _ |>.alloc _
       rw [Q2.out.1.block g (zZ ho)];exact ho
      case c2=>exact zS.lit4 #[str s6,.int .i64 v6,.slice a2 n2 k2,.slice a3 n3 k3] rfl (by simp [str,Value.oneCell']) _ (by simp)
      case c3=>unfold maxLen;omega
      case c4=>omega
      intro a' c' w7 bI bV bH
      have hW:Below wr.heap.size wr ((w6.alloc (.cells #[str s6,.int .i64 v6,.slice a2 n2 k2,.slice a3 n3 k3] 46)).alloc (.cells #[str s6,.int .i64 v6,.slice a2 n2 k2,.slice a3 n3 k3] 46)):=(Q2.out.1.alloc Q2.out.1.size _).alloc (by have:=Q2.out.1.size;simp;omega) _
      have hC:zH (wr.heap.size<=·) ((w6.alloc (.cells #[str s6,.int .i64 v6,.slice a2 n2 k2,.slice a3 n3 k3] 46)).alloc (.cells #[str s6,.int .i64 v6,.slice a2 n2 k2,.slice a3 n3 k3] 46)) (kE b) [str s6,.int .i64 v6,.slice a2 n2 k2,.slice a3 n3 k3] :=
       (Rep.keep fun i o hi ho=>⟨hi,zV (zV ho)⟩).2 _ _ HC6.out
      have hA:=HR.out.yes lB (by omega) (show w.heap.size<w.heap.size+1 by omega) hW hC bI bV (fun g hg=>by simpa only [zK] using bH g hg) HS2.out (by have:=HE2.out;omega)
      have z7:=bV.size
      rw [zK,zK] at z7
      have lO:w7.cell? ⟨w.heap.size+1,3,none⟩=some (.slice ya ny yc):=by
       rw [bV.cell (by simp only [zK];omega) (fun e=>by have h:w.heap.size+2<=w.heap.size+1:=HR.out.blkY _ e;omega)]
       exact zJ (zJ q3)
      have lN:w7.frozen? ⟨w.heap.size+1,3,none⟩=false:=by
       rw [World.frozen?_of_block (w:=w6) (by rw [bV.block _ (by simp only [zK];omega) (fun e=>by have h:w.heap.size+2<=w.heap.size+1:=HR.out.blkY _ e;omega)];rw [Below.heap_alloc _ _ _ (by simp only [zK];omega),Below.heap_alloc _ _ _ (by omega)])]
       exact aI
      have HA:=gl hA;clear hA hW hC bI bV bH
      go_wp2_with fail
      go_roundw
      case rel=>exact ⟨k+1,fL,by omega,rfl,by go_num,_,_,_,_,_,_,_,HA.out⟩
      case measure=>simp [intOf];omega
  ·have lC:k=t.args.length+2:=by omega
   have cz:¬ (k:Int)<(t.args.length:Int)+2:=by omega
   have hp:zU (rdN e) (ku hand t) (l.drop i0)=some (ps,l.drop en):=by
    have:=HP.out;rwa [lC,List.take_of_length_le (by rw [jR];exact g_ _)] at this
   have hm:rdN (e+1) hand (l.drop i)=(do
    let l2<-cut [41] (l.drop en)
    let b<-vf v t.args.length ps
    some (b,l2)):=by rw [HM.out,hp];rfl
   have HM:=gl hm
   have HKN:=gl lC
   clear hm hp lC
   by_cases aE:∃ h:en<l.length,l[en]=41
   rotate_left
   ·have hm:rdN (e+1) hand (l.drop i)=none:=by
     have hc:cut [41] (l.drop en)=none:=by
      by_cases h:en<l.length
      ·rw [jb h,if_neg (fun h'=>aE ⟨h,h'⟩)]
      ·exact yw (by omega)
     rw [HM.out,hc];rfl
    have HM:=gl hm;clear hm
    have dJ:(l.length<=en)\/∃ h:en<l.length,((((⟨l.toArray⟩:ByteArray)[en]'(qy h)).toNat:Int) != 41)=true:=by
     by_cases h:en<l.length
     ·exact .inr ⟨h,yI h (n:=41) (by decide) (fun h'=>aE ⟨h,h'⟩)⟩
     ·exact .inl (by omega)
    clear aE
    rcases dJ with h | ⟨h,f5⟩
    ·have g1:(l.length:Int)<=(en:Int):=by omega
     go_wp2_with fail
     obtain ⟨W,hW,s0,s1,s2,s3,bE,_⟩:=nr.store (.string ⟨#[]⟩) (.int .i64 0) (.slice none 0 0) (.slice none 0 0)
     rw [<- hW]
     refine bodyPost_ret (v:=.tuple #[.agg #[str [],.int .i64 0,.slice none 0 0,.slice none 0 0],.int .i64 (-1)]) (by simp [results,Tryz.results40,go_sem,s0,s1,s2,s3]) rfl ?_
     exact jD.no HM.out (bE _ _ hb (g_ _))
    ·go_wp2_with fail
     obtain ⟨W,hW,s0,s1,s2,s3,bE,_⟩:=nr.store (.string ⟨#[]⟩) (.int .i64 0) (.slice none 0 0) (.slice none 0 0)
     rw [<- hW]
     refine bodyPost_ret (v:=.tuple #[.agg #[str [],.int .i64 0,.slice none 0 0,.slice none 0 0],.int .i64 (-1)]) (by simp [results,Tryz.results40,go_sem,s0,s1,s2,s3]) rfl ?_
     exact jD.no HM.out (bE _ _ hb (g_ _))
   obtain ⟨ez,aE⟩:=aE
   have f5:=uB ez (n:=41) (by decide) aE
   have g1:decide ((en:Int)<0)=false:=by rw [decide_eq_false_iff_not];omega
   have g2:decide (l.length<=en)=false:=by rw [decide_eq_false_iff_not];omega
   have HC:Hid (cut [41] (l.drop en)=some (l.drop (en+1))):=by show cut [41] (l.drop en)=_;rw [jb ez,if_pos aE]
   clear aE
   go_wp2_with fail
   obtain ⟨W,hW,s0,s1,s2,s3,bE,eY⟩:=nr.store (str []) (.int .i64 v) (.slice ka nk kc) (.slice ya ny yc)
   have sy:=HR.out
   have AL:=sy.len
   have hnk:=sy.hnk
   have hny:=sy.hny
   have lC:=HKN.out
   obtain ⟨y1,y2,tF⟩:∃ y1 y2,ps.drop t.args.length=[y1,y2]:=by
    match hd:ps.drop t.args.length with
    | [a,b]=>exact ⟨a,b,rfl⟩
    | []=>have:=congrArg List.length hd;simp at this;omega
    | [a]=>have:=congrArg List.length hd;simp at this;omega
    | a::b::c::d=>have:=congrArg List.length hd;simp at this;omega
   have hm:rdN (e+1) hand (l.drop i)=some (.ask v (ps.take t.args.length) y1 y2,l.drop (en+1)):=by
    rw [HM.out,HC.out];simp [vf,tF]
   have lU:nk=(ps.take t.args.length).length:=by simp;omega
   have lJ:ny=2:=by omega
   rw [<- hW]
   refine bodyPost_ret (v:=.tuple #[.agg #[str [],.int .i64 v,.slice ka nk kc,.slice ya ny yc],.int .i64 ((en:Int)+1)]) (by simp [results,Tryz.results40,go_sem,s0,s1,s2,s3]) rfl ?_
   refine jD.yes (s:=[]) hm (by simp;omega) (bE _ _ hb (g_ _)) ?_
   rw [j9]
   refine zQ.2 ⟨_,_,rfl,zF.2 rfl,zQ.2 ⟨_,_,rfl,zF.2 rfl,zQ.2 ⟨_,_,rfl,?_,zQ.2 ⟨_,_,rfl,?_,zB.2 rfl⟩⟩⟩⟩
   ·rw [<- lU]
    refine (sy.ownK.keep fun g o hg ho=>eY g o (by have:=(sy.blkK g hg).1;omega) ho).rep (fun g hg=>by have:=(sy.blkK g hg).1;omega) ?_
    exact (Rep.keep fun x o hx ho=>⟨by have:=hx.1;omega,eY x o (by have:=hx.1;omega) ho⟩).2 _ _ sy.repK
   ·have cH:=sy.repY
    rw [tF] at cH
    rw [<- lJ]
    refine (sy.ownY.keep fun g o hg ho=>eY g o (by have:=sy.blkY g hg;omega) ho).rep (fun g hg=>by have:=sy.blkY g hg;omega) ?_
    exact (Rep.keep fun x o hx ho=>⟨by have:=hx.1;omega,eY x o (by have:=hx.1;omega) ho⟩).2 _ _ cH
theorem l3Read_any (l:Bs) (hl:Lim l.length) (e:Nat):∀ d,e+d=101->NodeSaid l e d:=by
 induction e with
 | zero=>exact fun d oq F hand hv i w hi _ hr=>xR l hl 0 d oq F hand hv i w hi hr (fun _=>.inl rfl)
 | succ e ih =>
   intro d oq F hand hv i w hi hh hr
   by_cases h:∃ h:i<l.length,l[i]=40
   ·obtain ⟨h,cc⟩:=h
    exact l3Read_ask l hl e d oq (ih (d+1) (by omega)) F hand hv i w h hh hr cc
   ·exact xR l hl (e+1) d oq F hand hv i w hi hr (fun h'=>.inr fun cc=>h ⟨h',cc⟩)
def jW:Bd->List Bd
 | .leaf _=>[]
 | .ask _ ss _ _=>ss
def vQ:Bd->List Bd
 | .leaf _=>[]
 | .ask _ _ y n=>[y,n]
def vo:Bd->Bs
 | .leaf c=>[c]
 | .ask _ _ _ _=>[]
def AtN (F:Nat->Prop) (w:World) (bs:List Bd) (a:Option Addr) (k:Nat):Prop :=
 ∃ b o s v a2 n2 c2 a3 n3 c3 d,a=some ⟨b,o,none⟩/\b<w.heap.size/\bs[k]? = some d/\w.cell? ⟨b,o+k*4,none⟩=some (str s)/\w.cell? ⟨b,o+k*4+1,none⟩=some (.int .i64 v) /\
   w.cell? ⟨b,o+k*4+2,none⟩=some (.slice a2 n2 c2)/\w.cell? ⟨b,o+k*4+3,none⟩=some (.slice a3 n3 c3)/\zH F w (kE d) [str s,.int .i64 v,.slice a2 n2 c2,.slice a3 n3 c3]
def pF (F:Nat->Prop) (w:World) (bs:List Bd) (a:Option Addr):Prop:=∀ k,k<bs.length->AtN F w bs a k
theorem jg {F:Nat->Prop} {w:World} {b:Bd} {vs:List Value} (h:zH F w (kE b) vs) :
 ∃ v a2 c2 a3 c3,vs=[str (vo b),.int .i64 v,.slice a2 (jW b).length c2,.slice a3 (vQ b).length c3] /\
   Rep F w (.sl 46 4 (jW b).length (zn (jW b))) (.slice a2 (jW b).length c2)/\Rep F w (.sl 46 4 (vQ b).length (zn (vQ b))) (.slice a3 (vQ b).length c3):=by
 have key:∀ (s:Bs) (v:Int) (d2 d3:DV) (n2 n3:Nat) (k2 k3:List DV),d2=.sl 46 4 n2 k2->d3=.sl 46 4 n3 k3->zH F w [.val (str s),.val (.int .i64 v),d2,d3] vs ->
  ∃ a2 c2 a3 c3,vs=[str s,.int .i64 v,.slice a2 n2 c2,.slice a3 n3 c3]/\Rep F w d2 (.slice a2 n2 c2)/\Rep F w d3 (.slice a3 n3 c3):=by
  intro s v d2 d3 n2 n3 k2 k3 e2 e3 h
  obtain ⟨_,_,rfl,h0,h⟩:=zQ.1 h
  obtain ⟨_,_,rfl,h1,h⟩:=zQ.1 h
  obtain ⟨_,_,rfl,h2,h⟩:=zQ.1 h
  obtain ⟨_,_,rfl,h3,h⟩:=zQ.1 h
  rw [zB] at h;subst h
  rw [zF] at h0 h1
  subst h0;subst h1
  have h2':=h2;have h3':=h3
  rw [e2] at h2';rw [e3] at h3'
  obtain ⟨_,a2,c2,e2',_⟩:=zp.1 h2'
  obtain ⟨_,a3,c3,e3',_⟩:=zp.1 h3'
  subst e2';subst e3'
  exact ⟨a2,c2,a3,c3,rfl,h2,h3⟩
 cases b with
 | leaf c =>
   rw [kE] at h
   obtain ⟨a2,c2,a3,c3,e,h2,h3⟩:=key _ _ _ _ 0 0 [] [] rfl rfl h
   exact ⟨_,a2,c2,a3,c3,e,h2,h3⟩
 | ask v ss y n =>
   rw [j9] at h
   obtain ⟨a2,c2,a3,c3,e,h2,h3⟩:=key _ _ _ _ _ _ _ _ rfl rfl h
   exact ⟨_,a2,c2,a3,c3,e,h2,h3⟩
theorem pF.of {F:Nat->Prop} {w:World} {bs:List Bd} {v:Value} (h:Rep F w (.sl 46 4 bs.length (zn bs)) v):∃ a c,v=.slice a bs.length c/\pF F w bs a:=by
 obtain ⟨hl,a,c,rfl,hn,hz,h⟩:=zp.1 h
 refine ⟨a,c,rfl,fun k hk=>?_⟩
 rcases h with h | ⟨b,o,cs,fr,rfl,hb,hc,hr⟩
 ·omega
 ·have hs:zn bs=zn (bs.take k)++(kE bs[k]++zn (bs.drop (k+1))):=by
   have e1:kE bs[k]=zn [bs[k]]:=by simp [zn]
   rw [e1,<- qw,<- qw]
   congr 1
   simp
  rw [hs] at hr
  obtain ⟨h1,h2⟩:=hr.split
  obtain ⟨h3,h4⟩:=h2.split
  have Bo:(zn (bs.take k)).length=k*4:=by rw [encNs_length];simp;omega
  rw [Bo,jA] at h3
  obtain ⟨v,a2,c2,a3,c3,e,_⟩:=jg h3
  have bJ:∀ j u,([str (vo bs[k]),.int .i64 v,.slice a2 (jW bs[k]).length c2,.slice a3 (vQ bs[k]).length c3]:List Value)[j]? = some u->w.cell? ⟨b,o+k*4+j,none⟩=some u:=by
   intro j u hu
   rw [<- e] at hu
   have hj:j<4:=by
    have:=(List.getElem?_eq_some_iff.1 hu).1
    simp at this;omega
   rw [List.getElem?_take,if_pos hj,List.getElem?_drop,List.getElem?_take] at hu
   split at hu
   ·rw [List.getElem?_drop] at hu
    simp only [World.cell?,hc]
    rw [Nat.add_assoc]
    simpa using hu
   ·simp at hu
  refine ⟨b,o,_,v,a2,_,c2,a3,_,c3,bs[k],rfl,zZ hc,by simp [hk],bJ 0 _ rfl,bJ 1 _ rfl,bJ 2 _ rfl,bJ 3 _ rfl,?_⟩
  rw [<- e];exact h3
theorem gJ (b:Bd):zc b=jW b++vQ b:=by cases b <;> rfl
def BoxN (g:Nat) (s:Bs) (k y:Value) (w:World):Prop :=
 w.cell? ⟨g,0,none⟩=some (str s)/\w.cell? ⟨g,2,none⟩=some k/\w.cell? ⟨g,3,none⟩=some y
theorem BoxN.below {g:Nat} {s:Bs} {k y:Value} {w w':World} (h:BoxN g s k y w) (hb:Below w.heap.size w w'):BoxN g s k y w':=by
 obtain ⟨h1,h2,h3⟩:=h
 have:=hU w _ h1
 exact ⟨by rw [hb.cell (by exact this)];exact h1,by rw [hb.cell (by exact this)];exact h2,by rw [hb.cell (by exact this)];exact h3⟩
def wA (b:Bd):Prop:=∀ (F:Nat->Prop) (w:World) (s:Bs) (v:Int) (a2:Option Addr) (n2 c2:Nat) (a3:Option Addr) (n3 c3:Nat),zH F w (kE b) [str s,.int .i64 v,.slice a2 n2 c2,.slice a3 n3 c3] ->
 Calls Tryz.prog 41 #[.agg #[str s,.int .i64 v,.slice a2 n2 c2,.slice a3 n3 c3]] w fun en w'=>en=.returned (.int .i64 (zX b))/\Below w.heap.size w w'
set_option maxRecDepth 100000 in
theorem l3Size_step (b:Bd) (hl:Lim (zX b)) (ih:∀ b',zX b'<zX b->wA b'):wA b:=by
 intro F w s v a2 n2 c2 a3 n3 c3 hv
 have er:=jg hv
 obtain ⟨v',mV,mJ,nw,nj,e,hk,hy⟩:=er
 simp only [List.cons.injEq,Value.slice.injEq,and_true] at e
 obtain ⟨e0,e1,⟨rfl,e2,rfl⟩,⟨rfl,e3,rfl⟩⟩:=e
 clear e0 e1
 subst e2;subst e3
 obtain ⟨_,_,ek,B8⟩:=pF.of hk
 obtain ⟨_,_,ey,B6⟩:=pF.of hy
 simp only [Value.slice.injEq,true_and] at ek ey
 obtain ⟨rfl,rfl⟩:=ek
 obtain ⟨rfl,rfl⟩:=ey
 have IH:=gl ih;clear ih
 have fH:=hl.le
 have hsz:=jT b
 rw [gJ,kI] at hsz
 have Bo:=km (jW b)
 have hyl:=km (vQ b)
 have E1:=gl hsz
 have kl:(jW b).length<=16777216:=by omega
 have yl:(vQ b).length<=16777216:=by omega
 have ATK:=gl B8;have ATY:=gl B6
 clear B8 B6 hk hy hv hsz Bo hyl
 generalize hK:jW b=kids at *
 generalize hY:vQ b=yess at *
 clear hK hY
 go_enter Tryz.func41,Tryz.ntmps41
 go_wp2_with fail
 go_loopw [3,4] (fun n i wr=>∃ k:Nat,k<=kids.length/\i=.int .i64 k/\n=.int .i64 ((1+zG (kids.take k):Nat):Int)/\Below w.heap.size w wr/\BoxN w.heap.size s (.slice a2 kids.length c2) (.slice a3 yess.length c3) wr) (fun _ i _=>kids.length-(intOf i).toNat)
 case atStart=>exact ⟨0,Nat.zero_le _,rfl,by simp [zG],(hG _ _).alloc (g_ _) _,by simp,by simp,by simp⟩
 case round =>
  rename_i wr
  obtain ⟨k,hk,rfl,rfl,hb,hc⟩:=hrel
  obtain ⟨ca,e9,tU⟩:=id hc
  by_cases bY:k<kids.length
  ·obtain ⟨bb,o,s',v',b2,m2,d2,b3,m3,d3,t,rfl,hbb,ht,u0,u1,u2,u3,hr⟩:=ATK.out k bY
   have q0:=(hb.cell hbb).trans u0
   have q1:=(hb.cell hbb).trans u1
   have q2:=(hb.cell hbb).trans u2
   have q3:=(hb.cell hbb).trans u3
   have dg:=(zH.below (F':=F) hb (fun _ h=>h) hr)
   have hs:=ji ht
   have cI:=qT kids (k+1)
   have fF:=E1.out
   have hp:=kH t
   have IH':=gl (IH.out t (by omega))
   have HS:=gl hs
   have b1:1+zG (kids.take k)+zX t<=16777216:=by omega
   have hz:=hU wr _ ca
   clear hs ht fF u0 u1 u2 u3 hr
   go_wp2_with fail
   refine (IH'.out _ _ _ _ _ _ _ _ _ _ dg).mono ?_
   rintro en w2 ⟨rfl,bZ⟩
   have bU:=zzT hb bZ
   obtain ⟨ca,e9,tU⟩:=id (hc.below bZ)
   have BS:=gl (hc.below bZ)
   go_wp2_with fail
   go_roundw
   case rel=>exact ⟨k+1,by omega,by go_num,by rw [HS.out] <;> go_num,bU,BS.out⟩
   case measure=>simp [intOf];omega
  ·obtain rfl:k=kids.length:=by omega
   rw [List.take_length]
   have bK:1+zG kids<=16777216:=by have:=E1.out;omega
   clear hk bY
   go_wp2_with fail
   have tW:=hb;have ce:=hc
   clear hb hc ca e9 tU
   go_loopw [3,5] (fun n i wr=>∃ k:Nat,k<=yess.length/\i=.int .i64 k/\n=.int .i64 ((1+zG kids+zG (yess.take k):Nat):Int)/\Below w.heap.size w wr/\BoxN w.heap.size s (.slice a2 kids.length c2) (.slice a3 yess.length c3) wr) (fun _ i _=>yess.length-(intOf i).toNat)
   case atStart=>exact ⟨0,Nat.zero_le _,rfl,by simp [zG],tW,ce⟩
   case round =>
    clear tW ce
    obtain ⟨k,hk,rfl,rfl,hb,hc⟩:=hrel
    obtain ⟨ca,e9,tU⟩:=id hc
    by_cases bY:k<yess.length
    ·obtain ⟨bb,o,s',v',b2,m2,d2,b3,m3,d3,t,rfl,hbb,ht,u0,u1,u2,u3,hr⟩:=ATY.out k bY
     have q0:=(hb.cell hbb).trans u0
     have q1:=(hb.cell hbb).trans u1
     have q2:=(hb.cell hbb).trans u2
     have q3:=(hb.cell hbb).trans u3
     have dg:=(zH.below (F':=F) hb (fun _ h=>h) hr)
     have hs:=ji ht
     have cI:=qT yess (k+1)
     have fF:=E1.out
     have hp:=kH t
     have IH':=gl (IH.out t (by omega))
     have HS:=gl hs
     have b1:1+zG kids+zG (yess.take k)+zX t<=16777216:=by omega
     have hz:=hU _ _ ca
     clear hs ht fF u0 u1 u2 u3 hr
     go_wp2_with fail
     refine (IH'.out _ _ _ _ _ _ _ _ _ _ dg).mono ?_
     rintro en w2 ⟨rfl,bZ⟩
     have bU:=zzT hb bZ
     obtain ⟨ca,e9,tU⟩:=id (hc.below bZ)
     have BS:=gl (hc.below bZ)
     go_wp2_with fail
     go_roundw
     case rel=>exact ⟨k+1,by omega,by go_num,by rw [HS.out] <;> go_num,bU,BS.out⟩
     case measure=>simp [intOf];omega
    ·obtain rfl:k=yess.length:=by omega
     go_wp2_with fail
     go_ret
     exact ⟨vY (by rw [E1.out,List.take_length];omega),hb⟩
theorem l3Size_any (n:Nat):∀ b,zX b<=n->Lim n->wA b:=by
 induction n with
 | zero=>intro b h _;have:=kH b;omega
 | succ n ih=>exact fun b h hn=>l3Size_step b (hn.mono h) (fun b' h'=>ih b' (by omega) (hn.mono (by omega)))
theorem oneCell_encN {F:Nat->Prop} {w:World} {b:Bd} {us:List Value} (h:zH F w (kE b) us):∀ u∈us,u.oneCell'=true:=by
 obtain ⟨v,a2,c2,a3,c3,rfl,_⟩:=jg h
 simp [str,Value.oneCell']
theorem Tryz.infoBo:(Tryz.prog.info? 94).map (fun i=>(i.zero,i.size,i.bytes))=some (some (.agg #[.int .i64 0,str [],.int .i64 0,.slice none 0 0,.slice none 0 0,.slice none 0 0,.slice none 0 0,.int .i64 0,.int .i64 0]),9,144):=by kernel_rfl
def zC (s text:Bs):Option Bd :=
 if (zW s).2=false\/2000<text.length then none else
 match rdN 101 (zW s).1.args text with
 | none=>none
 | some (b,rest)=>if rest=[]/\zX b<=200 then some b else none
theorem qv {l:Bs} (h:(zW l).2=true):zY (zW l).1<=15:=by
 unfold zW at *
 split at h
 ·simp at h
 ·rename_i hl
  rw [if_neg hl]
  cases hq:rdS 21 l with
  | none=>rw [hq] at h;simp at h
  | some x=>rw [hq] at h;obtain ⟨t,rest⟩:=x;simp at h;exact h.2
theorem uy {t:Ty} (h:zY t<=15):kC 101 t.args:=by
 have hm:=kN t
 have key:∀ (ts:List Ty) (x:Ty),x∈ts->zY x<=zk ts:=by
  intro ts
  induction ts with
  | nil=>intro x hx;simp at hx
  | cons y ys ih =>
    intro x hx
    rcases List.mem_cons.1 hx with rfl | hx
    ·simp [zk];omega
    ·have:=ih x hx;simp [zk];omega
 refine ⟨fun x hx=>?_,?_⟩
 ·have:=key t.args x hx;omega
 ·have:=zl t.args;omega
theorem yA {w:World} {p a:Addr} {u v:Value} (h:w.cell? a=some v) (hne:a.block≠p.block):(w.setCell p u).cell? a=some v:=by
 rw [World.cell?_of_block (w:=w) (hH _ _ _ _ hne)];exact h
theorem ud {w w':World} {a:Addr} {v:Value} (h:w.cell? a=some v) (hk:∀ x,w.heap[a.block]? = some x->w'.heap[a.block]? = some x):w'.cell? a=some v:=by
 have bY:=hU w a h
 rw [World.cell?_of_block (w:=w)]
 ·exact h
 ·rw [hk _ (Array.getElem?_eq_getElem bY),Array.getElem?_eq_getElem bY]
abbrev KeepS (g1 g2:Nat) (T u0 u1 u2 u3:Value) (w:World):Prop :=
 w.cell? ⟨g1,0,none⟩=some T/\w.cell? ⟨g2,0,none⟩=some u0/\w.cell? ⟨g2,1,none⟩=some u1/\w.cell? ⟨g2,2,none⟩=some u2/\w.cell? ⟨g2,3,none⟩=some u3
theorem KeepS.set {g1 g2:Nat} {T u0 u1 u2 u3:Value} {w:World} (h:KeepS g1 g2 T u0 u1 u2 u3 w) (b o:Nat) (u:Value) (h1:g1≠b) (h2:g2≠b):KeepS g1 g2 T u0 u1 u2 u3 (w.setCell ⟨b,o,none⟩ u) :=
 ⟨yA h.1 h1,yA h.2.1 h2,yA h.2.2.1 h2,yA h.2.2.2.1 h2,yA h.2.2.2.2 h2⟩
def qq (s text:Bs) (w:World) (en:Ending) (w':World):Prop :=
 ∃ (a:Option Addr) (c:Nat) (s':Bs) (v':Int) (a2:Option Addr) (n2 c2:Nat) (a3:Option Addr) (n3 c3:Nat),
   en=.returned (.tuple #[.agg #[.slice a (zW s).1.args.length c],.agg #[str s',.int .i64 v',.slice a2 n2 c2,.slice a3 n3 c3],.bool (zC s text).isSome])/\Below w.heap.size w w' /\
   Rep (w.heap.size<=·) w' (qg (zW s).1) (.slice a (zW s).1.args.length c) /\
   (∀ b,zC s text=some b->zH (w.heap.size<=·) w' (kE b) [str s',.int .i64 v',.slice a2 n2 c2,.slice a3 n3 c3])
theorem qq.no {s text:Bs} {w w':World} {a:Option Addr} {c:Nat} {v:Value} (hv:v=.slice a (zW s).1.args.length c) {s':Bs} {v':Int} {a2:Option Addr} {n2 c2:Nat} {a3:Option Addr} {n3 c3:Nat} {f:Bool} (hf:f=false) (hn:zC s text=none) (hb:Below w.heap.size w w')
 (hr:Rep (w.heap.size<=·) w' (qg (zW s).1) v) :
 qq s text w (.returned (.tuple #[.agg #[v],.agg #[str s',.int .i64 v',.slice a2 n2 c2,.slice a3 n3 c3],.bool f])) w':=by
 subst hv;subst hf
 exact ⟨a,c,s',v',a2,n2,c2,a3,n3,c3,by rw [hn];rfl,hb,hr,fun b h=>by rw [hn] at h;simp at h⟩
theorem qq.yes {s text:Bs} {w w':World} {a:Option Addr} {c:Nat} {v:Value} (hv:v=.slice a (zW s).1.args.length c) {s':Bs} {v':Int} {a2:Option Addr} {n2 c2:Nat} {a3:Option Addr} {n3 c3:Nat} {f:Bool} {b:Bd} (hf:f=true) (hn:zC s text=some b) (hb:Below w.heap.size w w')
 (hr:Rep (w.heap.size<=·) w' (qg (zW s).1) v) (d_:zH (w.heap.size<=·) w' (kE b) [str s',.int .i64 v',.slice a2 n2 c2,.slice a3 n3 c3]) :
 qq s text w (.returned (.tuple #[.agg #[v],.agg #[str s',.int .i64 v',.slice a2 n2 c2,.slice a3 n3 c3],.bool f])) w':=by
 subst hv;subst hf
 exact ⟨a,c,s',v',a2,n2,c2,a3,n3,c3,by rw [hn];rfl,hb,hr,fun b' h=>by rw [hn] at h;simp at h;subst h;exact d_⟩
set_option maxRecDepth 100000 in
theorem vN (s text:Bs) (hs:Lim s.length) (hl:Lim text.length) (w:World):Calls Tryz.prog 16 #[str s,str text] w (qq s text w):=by
 have mW:=hs.le
 have fH:=hl.le
 go_enter Tryz.func16,Tryz.ntmps16
 go_wp2_with fail
 refine (xZ s hs _).mono ?_
 rintro en w1 ⟨v1,rfl,bQ,co⟩
 have z1:=bQ.size
 rw [zK,zK] at z1
 obtain ⟨a1,c1,e1⟩:=zu co
 have E1:=gl e1
 have cE:Below w.heap.size w w1:=(((hG w.heap.size w).alloc (g_ _) _).alloc (by simp) _).trans (bQ.mono (by simp;omega))
 have d6:w.heap.size<w1.heap.size:=by omega
 have cG:w.heap.size+1<w1.heap.size:=by omega
 have r0:w1.cell? ⟨w.heap.size,0,none⟩=some (.slice none 0 0):=by rw [bQ.cell (by simp only [zK];omega)];exact zJ (by simp)
 have fv:w1.frozen? ⟨w.heap.size,0,none⟩=false:=by
  rw [bQ.frozen (by simp only [zK];omega)]
  rw [World.frozen?_of_block (w:=w.alloc (.cells #[.slice none 0 0] 43)) (Below.heap_alloc _ _ _ (by simp))];simp
 have hN:zm (w.heap.size+1) 0 (.slice none 0 0) (.slice none 0 0) w1:=by
  unfold zm;rw [bQ.block _ (by simp)]
  have:=zR (w.alloc (.cells #[.slice none 0 0] 43)) (.cells #[str [],.int .i64 0,.slice none 0 0,.slice none 0 0] 46)
  rw [zK] at this;exact this
 subst e1
 have nB:Rep (w.heap.size+1 < ·) w1 (qg (zW s).1) (.slice a1 (zW s).1.args.length c1):=(Rep.keep fun b o h ho=>⟨by have:=vE h;rw [zK] at this;omega,ho⟩).1 _ _ co
 have HS:Hid (zC s text=if (zW s).2=false\/2000<text.length then none else
  match rdN 101 (zW s).1.args text with
  | none=>none
  | some (b,rest)=>if rest=[]/\zX b<=200 then some b else none):=rfl
 have oJ:=gl (qv (l:=s))
 generalize hT:(zW s).1=t at *
 generalize hO:(zW s).2=ok at *
 have HT:=gl hT;clear hT hO co
 obtain ⟨q0,q1,q2,q3,ql,qf⟩:=hN.cells
 have qf0:=qf 0;have qf1:=qf 1;have nH:=qf 2;have aI:=qf 3;clear qf
 by_cases dJ:ok=true/\text.length<=2000
 rotate_left
 ·have hn:zC s text=none:=by
   rw [HS.out,if_pos]
   cases ok with
   | false=>exact .inl rfl
   | true=>exact .inr (by simp at dJ;omega)
  have HN:=gl hn;clear hn
  have dJ:ok=false\/(ok=true/\(2000:Int)<(text.length:Int)):=by
   cases ok with
   | false=>exact .inl rfl
   | true=>exact .inr ⟨rfl,by simp at dJ;omega⟩
  have h0:zm (w.heap.size+1) 0 (.slice none 0 0) (.slice none 0 0) (w1.setCell ⟨w.heap.size,0,none⟩ (.slice a1 t.args.length c1)):=by
   unfold zm;rw [hH _ _ _ _ (by simp)];exact hN
  obtain ⟨W,hW,s0,s1,s2,s3,bE,eY⟩:=h0.store (.string ⟨#[]⟩) (.int .i64 0) (.slice none 0 0) (.slice none 0 0)
  have t0:W.cell? ⟨w.heap.size,0,none⟩=some (.slice a1 t.args.length c1):=ud (qz r0 _) fun x hx=>eY _ x (by simp) hx
  have eA:=bE _ _ (cE.setCell (p:=⟨w.heap.size,0,none⟩) (g_ _) (.slice a1 t.args.length c1)) (by omega)
  have rS:Rep (w.heap.size<=·) W (qg t) (.slice a1 t.args.length c1):=(Rep.keep fun b o h ho=>⟨by omega,eY b o (by omega) (by rw [hH _ _ _ _ (by simp;omega)];exact ho)⟩).1 _ _ nB
  have FIN:Hid (∀ o,qq s text w (.returned (.tuple #[.agg #[.slice a1 t.args.length c1],.agg #[str [],.int .i64 0,.slice none 0 0,.slice none 0 0],.bool false])) (W.alloc o)):=fun o =>
   qq.no (a:=a1) (c:=c1) (by rw [HT.out]) rfl HN.out (eA.alloc eA.size o) (by rw [HT.out];exact (Rep.keep fun b o h ho=>⟨h,zV ho⟩).1 _ _ rS)
  have HW:=gl hW;clear h0 hW bE eY eA rS
  rcases dJ with rfl | ⟨rfl,h⟩
  all_goals
   go_wp2_with fail
   rw [<- HW.out]
   refine bodyPost_ret (v:=.tuple #[.agg #[.slice a1 t.args.length c1],.agg #[str [],.int .i64 0,.slice none 0 0,.slice none 0 0],.bool false]) (by simp [results,Tryz.results16,go_sem,zJ t0,zJ s0,zJ s1,zJ s2,zJ s3]) rfl ?_
   exact FIN.out _
 obtain ⟨rfl,htl⟩:=dJ
 have htl':¬ (2000:Int)<(text.length:Int):=by omega
 have bJ:=oJ.out rfl
 have hm:zC s text=(match rdN 101 t.args text with
  | none=>none
  | some (b,rest)=>if rest=[]/\zX b<=200 then some b else none):=by rw [HS.out,if_neg (by simp;omega)]
 have HM:=gl hm;clear hm HS oJ
 have hvE:=nB
 rw [k8] at hvE
 have hho:=uy bJ
 go_wp2_with fail
 refine (l3Read_any text hl 101 0 rfl (w.heap.size+1 < ·) t.args _ 0 _ (Nat.zero_le _) hho (by exact (Rep.keep fun b o h ho=>⟨h,zV ho⟩).1 _ _ hvE)).mono ?_
 rw [List.drop_zero]
 rintro en w2 ⟨s',v',a2,n2,c2,a3,n3,c3,k,rfl,bZ,dK,dD⟩
 have z2:=bZ.size
 rw [zK] at z2
 have mh:Below w.heap.size w w2:=(cE.alloc (by omega) _).trans (bZ.mono (by rw [zK];omega))
 have r0':w2.cell? ⟨w.heap.size,0,none⟩=some (.slice none 0 0):=by rw [bZ.cell (by rw [zK];simp only;omega)];exact zJ r0
 have rf0':w2.frozen? ⟨w.heap.size,0,none⟩=false:=by rw [bZ.frozen (by rw [zK];simp only;omega)];rw [World.frozen?_of_block (w:=w1) (Below.heap_alloc _ _ _ d6)];exact fv
 have hN':zm (w.heap.size+1) 0 (.slice none 0 0) (.slice none 0 0) w2:=by
  unfold zm;rw [bZ.block _ (by rw [zK];omega)];exact zV hN
 have eg:w2.cell? ⟨w1.heap.size,0,none⟩=some (.slice a1 t.args.length c1):=by rw [bZ.cell (by rw [zK];simp only;omega)];simp
 have aw:Rep (w.heap.size+1 < ·) w2 (qg t) (.slice a1 t.args.length c1):=(Rep.keep fun b o h ho=>⟨h,by rw [bZ.block b (by have:=zZ ho;rw [zK];omega)];exact zV ho⟩).1 _ _ nB
 clear r0 fv hN q0 q1 q2 q3 ql qf0 qf1 nH aI hvE nB hho
 obtain ⟨q0,q1,q2,q3,ql,qf⟩:=hN'.cells
 have qf0:=qf 0;have qf1:=qf 1;have nH:=qf 2;have aI:=qf 3;clear qf
 have y1:w.heap.size<w2.heap.size:=by omega
 have y2:w1.heap.size<w2.heap.size:=by omega
 have cw:=gl bZ;clear bZ
 by_cases hk:k=(text.length:Int)
 rotate_left
 ·have g1:(k == (text.length:Int))=false:=by rw [beq_eq_false_iff_ne];exact hk
  have hn:zC s text=none:=by
   rw [HM.out]
   cases hq:rdN 101 t.args text with
   | none=>rfl
   | some x =>
     obtain ⟨b,rest⟩:=x
     have h1:=(dD b rest hq).1
     simp only
     rw [if_neg]
     rintro ⟨rfl,_⟩
     exact hk (by rw [h1];simp)
  have HN:=gl hn
  clear hn hk dK dD
  have h0:zm (w.heap.size+1) 0 (.slice none 0 0) (.slice none 0 0) (w2.setCell ⟨w.heap.size,0,none⟩ (.slice a1 t.args.length c1)):=by
   unfold zm;rw [hH _ _ _ _ (by simp)];exact hN'
  obtain ⟨W,hW,s0,s1,s2,s3,bE,eY⟩:=h0.store (str s') (.int .i64 v') (.slice a2 n2 c2) (.slice a3 n3 c3)
  have t0:W.cell? ⟨w.heap.size,0,none⟩=some (.slice a1 t.args.length c1):=ud (qz r0' _) fun x hx=>eY _ x (by simp) hx
  have eA:=bE _ _ (mh.setCell (p:=⟨w.heap.size,0,none⟩) (g_ _) (.slice a1 t.args.length c1)) (by omega)
  have rS:Rep (w.heap.size<=·) W (qg t) (.slice a1 t.args.length c1):=(Rep.keep fun b o h ho=>⟨by omega,eY b o (by omega) (by rw [hH _ _ _ _ (by simp;omega)];exact ho)⟩).1 _ _ aw
  have FIN:Hid (∀ o,qq s text w (.returned (.tuple #[.agg #[.slice a1 t.args.length c1],.agg #[str s',.int .i64 v',.slice a2 n2 c2,.slice a3 n3 c3],.bool false])) (W.alloc o).drew):=fun o =>
   qq.no (a:=a1) (c:=c1) (by rw [HT.out]) rfl HN.out ((eA.alloc eA.size o).drew) (by rw [HT.out];exact ((Rep.keep fun b o h ho=>⟨h,zV ho⟩).1 _ _ rS).drew)
  have HW:=gl hW;clear h0 hW bE eY eA rS
  go_wp2_with fail
  go_region
  go_wp2_with fail
  rw [<- HW.out]
  refine bodyPost_ret (v:=.tuple #[.agg #[.slice a1 t.args.length c1],.agg #[str s',.int .i64 v',.slice a2 n2 c2,.slice a3 n3 c3],.bool false]) (by simp [results,Tryz.results16,go_sem,zJ t0,zJ s0,zJ s1,zJ s2,zJ s3]) rfl ?_
  exact FIN.out _
 obtain ⟨b,hqb⟩:∃ b,rdN 101 t.args text=some (b,[]):=by
  cases hq:rdN 101 t.args text with
  | none=>have:=dK hq;omega
  | some x =>
    obtain ⟨b,rest⟩:=x
    have h1:=(dD b rest hq).1
    have:rest.length=0:=by omega
    rw [List.eq_nil_of_length_eq_zero this];exact ⟨b,rfl⟩
 have hrB:=(dD b [] hqb).2
 have hsz:=rdN_size 101 hqb
 have hm:zC s text=if zX b<=200 then some b else none:=by
  rw [HM.out,hqb];simp
 have HM:=gl hm
 have hlB:Lim (zX b):=hl.mono (by simp at hsz;omega)
 have g1:(k == (text.length:Int))=true:=by rw [beq_iff_eq];exact hk
 clear hm hqb dK dD hsz
 have HK:=gl hk;clear hk
 have oM:zH (w.heap.size+1 < ·) (w2.alloc (.cells #[str s',.int .i64 v',.slice a2 n2 c2,.slice a3 n3 c3] 46)) (kE b) [str s',.int .i64 v',.slice a2 n2 c2,.slice a3 n3 c3] :=
  (Rep.keep fun b o h ho=>⟨by have:=vE h;omega,zV ho⟩).2 _ _ hrB
 have hTA:(w2.alloc (.cells #[str s',.int .i64 v',.slice a2 n2 c2,.slice a3 n3 c3] 46)).cell? ⟨w1.heap.size,0,none⟩=some (.slice a1 t.args.length c1):=zJ eg
 have n0:(w2.alloc (.cells #[str s',.int .i64 v',.slice a2 n2 c2,.slice a3 n3 c3] 46)).cell? ⟨w2.heap.size,0,none⟩=some (str s'):=by simp
 have n1:(w2.alloc (.cells #[str s',.int .i64 v',.slice a2 n2 c2,.slice a3 n3 c3] 46)).cell? ⟨w2.heap.size,1,none⟩=some (.int .i64 v'):=by simp
 have fV:(w2.alloc (.cells #[str s',.int .i64 v',.slice a2 n2 c2,.slice a3 n3 c3] 46)).cell? ⟨w2.heap.size,2,none⟩=some (.slice a2 n2 c2):=by simp
 have mE:(w2.alloc (.cells #[str s',.int .i64 v',.slice a2 n2 c2,.slice a3 n3 c3] 46)).cell? ⟨w2.heap.size,3,none⟩=some (.slice a3 n3 c3):=by simp
 have tH:KeepS w1.heap.size w2.heap.size (.slice a1 t.args.length c1) (str s') (.int .i64 v') (.slice a2 n2 c2) (.slice a3 n3 c3) (w2.alloc (.cells #[str s',.int .i64 v',.slice a2 n2 c2,.slice a3 n3 c3] 46)):=⟨hTA,n0,n1,fV,mE⟩
 have hK3d:KeepS w1.heap.size w2.heap.size (.slice a1 t.args.length c1) (str s') (.int .i64 v') (.slice a2 n2 c2) (.slice a3 n3 c3) (w2.alloc (.cells #[str s',.int .i64 v',.slice a2 n2 c2,.slice a3 n3 c3] 46)).drew:=tH
 have oG:w1.heap.size≠w.heap.size:=by omega
 have oP:w2.heap.size≠w.heap.size:=by omega
 have da:w1.heap.size≠w.heap.size+1:=by omega
 have db:w2.heap.size≠w.heap.size+1:=by omega
 clear hTA n0 n1 fV mE
 go_wp2_with fail
 go_region_held3 (fun w'=>w'.cell? ⟨w1.heap.size,0,none⟩=some (.slice a1 t.args.length c1)/\w'.cell? ⟨w2.heap.size,0,none⟩=some (str s')/\w'.cell? ⟨w2.heap.size,1,none⟩=some (.int .i64 v')/\w'.cell? ⟨w2.heap.size,2,none⟩=some (.slice a2 n2 c2)/\w'.cell? ⟨w2.heap.size,3,none⟩=some (.slice a3 n3 c3))
  (first
   | with_reducible exact tH
   | with_reducible exact hK3d
   | with_reducible exact su
   | with_reducible exact su.set _ _ _ oG oP
   | with_reducible exact (su.set _ _ _ oG oP).set _ _ _ da db
   | with_reducible exact ((su.set _ _ _ oG oP).set _ _ _ da db).set _ _ _ da db
   | with_reducible exact (((su.set _ _ _ oG oP).set _ _ _ da db).set _ _ _ da db).set _ _ _ da db
   | with_reducible exact ((((su.set _ _ _ oG oP).set _ _ _ da db).set _ _ _ da db).set _ _ _ da db).set _ _ _ da db
   | with_reducible exact su.set _ _ _ da db
   | with_reducible exact (su.set _ _ _ da db).set _ _ _ da db
   | with_reducible exact ((su.set _ _ _ da db).set _ _ _ da db).set _ _ _ da db
   | with_reducible exact (((su.set _ _ _ da db).set _ _ _ da db).set _ _ _ da db).set _ _ _ da db
   | with_reducible exact ((((su.set _ _ _ da db).set _ _ _ da db).set _ _ _ da db).set _ _ _ da db).set _ _ _ oG oP)
  (first
   | (go_at_call 41;refine (l3Size_any (zX b) b (g_ _) hlB (w.heap.size+1 < ·) _ _ _ _ _ _ _ _ _ (by exact oM.drew)).mono ?_;rintro en w5 ⟨rfl,bC⟩;have su:KeepS w1.heap.size w2.heap.size (.slice a1 t.args.length c1) (str s') (.int .i64 v') (.slice a2 n2 c2) (.slice a3 n3 c3) w5:=⟨(bC.cell (by simp;omega)).trans tH.1,(bC.cell (by simp)).trans tH.2.1,(bC.cell (by simp)).trans tH.2.2.1,(bC.cell (by simp)).trans tH.2.2.2.1,(bC.cell (by simp)).trans tH.2.2.2.2⟩;have z5:=bC.size;have hz5:w.heap.size<w5.heap.size:=(by simp at z5;omega);have r5:w5.cell? ⟨w.heap.size,0,none⟩=some (.slice none 0 0):=(bC.cell (by simp;omega)).trans (zJ r0');have f5:w5.frozen? ⟨w.heap.size,0,none⟩=false:=(bC.frozen (by simp;omega)).trans ((World.frozen?_of_block (w:=w2) (Below.heap_alloc _ _ _ y1)).trans rf0');have hN5:zm (w.heap.size+1) 0 (.slice none 0 0) (.slice none 0 0) w5:=(by unfold zm;rw [bC.block _ (by simp;omega)];exact zV hN');obtain ⟨p0,p1,p2,p3,pl,pf⟩:=hN5.cells;have pf0:=pf 0;have pf1:=pf 1;have pf2:=pf 2;have pf3:=pf 3;clear pf))
 go_wp2_with fail
 have h0:zm (w.heap.size+1) 0 (.slice none 0 0) (.slice none 0 0) (w5.setCell ⟨w.heap.size,0,none⟩ (.slice a1 t.args.length c1)):=by
  unfold zm;rw [hH _ _ _ _ (by simp)];exact hN5
 obtain ⟨W,hW,s0,s1,s2,s3,bE,eY⟩:=h0.store (str s') (.int .i64 v') (.slice a2 n2 c2) (.slice a3 n3 c3)
 have t0:W.cell? ⟨w.heap.size,0,none⟩=some (.slice a1 t.args.length c1):=ud (qz r5 _) fun x hx=>eY _ x (by simp) hx
 have dm:Below w2.heap.size w2 w5:=((((hG _ _).alloc (g_ _) _).drew).trans (bC.mono (by simp)))
 have ow:=zzT mh dm
 have eA:=bE _ _ (ow.setCell (p:=⟨w.heap.size,0,none⟩) (g_ _) (.slice a1 t.args.length c1)) (by omega)
 have keepF:∀ i o,w.heap.size+1<i->w2.heap[i]? = some o->W.heap[i]? = some o:=fun i o h ho =>
  eY i o (by omega) (by rw [hH _ _ _ _ (by simp;omega),dm.block i (zZ ho)];exact ho)
 have rS:Rep (w.heap.size<=·) W (qg t) (.slice a1 t.args.length c1):=(Rep.keep fun b o h ho=>⟨by omega,keepF b o h ho⟩).1 _ _ aw
 have hrN:zH (w.heap.size<=·) W (kE b) [str s',.int .i64 v',.slice a2 n2 c2,.slice a3 n3 c3]:=(Rep.keep fun b o h ho=>⟨by have:=vE h;omega,keepF b o (by have:=vE h;omega) ho⟩).2 _ _ hrB
 rw [<- hW]
 refine bodyPost_ret (v:=.tuple #[.agg #[.slice a1 t.args.length c1],.agg #[str s',.int .i64 v',.slice a2 n2 c2,.slice a3 n3 c3],.bool (decide ((zX b:Int)<=200))]) (by simp [results,Tryz.results16,go_sem,t0,s0,s1,s2,s3]) rfl ?_
 by_cases aM:zX b<=200
 ·refine qq.yes (a:=a1) (c:=c1) (by rw [HT.out]) (by rw [decide_eq_true_eq];omega) (by rw [HM.out,if_pos aM]) eA (by rw [HT.out];exact rS) hrN
 ·exact qq.no (a:=a1) (c:=c1) (by rw [HT.out]) (by rw [decide_eq_false_iff_not];omega) (by rw [HM.out,if_neg aM]) eA (by rw [HT.out];exact rS)
theorem uh (c:UInt8):dig c=true↔48<=c.toNat/\c.toNat<=57:=by
 simp [dig,UInt8.le_iff_toNat_le]
theorem q_ {k:Nat} (h:k<10):(UInt8.ofNat (48+k)).toNat=48+k:=by
 rw [UInt8.toNat_ofNat'];exact Nat.mod_eq_of_lt (by omega)
theorem decDigits_dig (u:Nat):∀ c∈Lib.decDigits u,dig c=true:=by
 induction u using Nat.strongRecOn with
 | _ u ih =>
   intro c hc
   rw [Lib.decDigits] at hc
   split at hc
   ·rename_i h
    rw [List.mem_singleton] at hc;subst hc
    rw [uh,q_ h];omega
   ·rename_i h
    rcases List.mem_append.1 hc with hc | hc
    ·exact ih _ (by omega) c hc
    ·simp only [List.mem_singleton] at hc;subst hc
     rw [uh,q_ (by omega)];omega
theorem decDigits_val (u:Nat):qK (Lib.decDigits u)=u:=by
 induction u using Nat.strongRecOn with
 | _ u ih =>
   rw [Lib.decDigits]
   split
   ·rename_i h
    show 10*0+((UInt8.ofNat (48+u)).toNat-48)=u
    rw [q_ h];omega
   ·rename_i h
    rw [uL,ih _ (by omega),q_ (by omega)];omega
theorem xw (u:Nat):Lib.decDigits u≠[]:=by
 intro h
 have:=Lib.decDigits_length u
 have:=Lib.nDigits_pos u
 rw [h] at *;simp at *;omega
theorem gA (u:Nat) (h1:1<=u):(Lib.decDigits u).head?≠some 48:=by
 induction u using Nat.strongRecOn with
 | _ u ih =>
   rw [Lib.decDigits]
   split
   ·rename_i h
    intro e
    rw [List.head?_cons,Option.some.injEq] at e
    have:=q_ h
    rw [e] at this
    have nP:(48:UInt8).toNat=48:=rfl
    omega
   ·rename_i h
    rw [List.head?_append]
    have:=ih (u / 10) (by omega) (by omega)
    have hne:=xw (u / 10)
    cases hd:Lib.decDigits (u / 10) with
    | nil=>exact absurd hd hne
    | cons x xs=>rw [hd] at this;simpa using this
theorem pE {u:Nat} (h:u<10000):(Lib.decDigits u).length<=4:=by
 rw [Lib.decDigits_length]
 by_cases h1:u<10
 ·rw [Lib.nDigits_small h1];omega
 rw [Lib.nDigits_big h1]
 by_cases h2:u / 10<10
 ·rw [Lib.nDigits_small h2];omega
 rw [Lib.nDigits_big h2]
 by_cases h3:u / 10 / 10<10
 ·rw [Lib.nDigits_small h3];omega
 rw [Lib.nDigits_big h3]
 rw [Lib.nDigits_small (by omega)];omega
theorem fold_ge (l:Bs):∀ a:Nat,a<=l.foldl (fun n c=>10*n+(c.toNat-48)) a:=by
 induction l with
 | nil=>intro a;simp
 | cons c cs ih=>intro a;simp only [List.foldl_cons];have:=ih (10*a+(c.toNat-48));omega
theorem valOf_pos {l:Bs} (hd:∀ c∈l,dig c=true) (hn:l≠[]) (nP:l.head?≠some 48):1<=qK l:=by
 cases l with
 | nil=>exact absurd rfl hn
 | cons c cs =>
   have h1:=(uh c).1 (hd c (by simp))
   have h2:c.toNat≠48:=fun e=>nP (by simp;exact UInt8.toNat_inj.1 (by simpa using e))
   have:=fold_ge cs (10*0+(c.toNat-48))
   show 1<=cs.foldl _ (10*0+(c.toNat-48))
   omega
theorem xx (n:Nat):∀ w:Bs,w.length=n->w≠[]->(∀ c∈w,dig c=true)->(1<w.length->w.head?≠some 48)->Lib.decDigits (qK w)=w:=by
 induction n with
 | zero=>intro w hl hn;exact absurd (List.eq_nil_of_length_eq_zero hl) hn
 | succ n ih =>
   intro w hl hn hd hh
   obtain ⟨ws,c,rfl⟩:∃ ws c,w=ws++[c]:=⟨w.dropLast,w.getLast hn,(List.dropLast_concat_getLast hn).symm⟩
   have hc:=(uh c).1 (hd c (by simp))
   have hof:UInt8.ofNat (48+(c.toNat-48))=c:=by
    apply UInt8.toNat_inj.1;rw [q_ (by omega)];omega
   rw [uL]
   by_cases Ap:ws=[]
   ·subst Ap
    show Lib.decDigits (10*0+(c.toNat-48))=[c]
    rw [Lib.decDigits_one (by omega),show 48+(10*0+(c.toNat-48))=48+(c.toNat-48) from by omega,hof]
   ·have az:1<=ws.length:=by cases ws with
     | nil=>exact absurd rfl Ap
     | cons x xs=>simp
    have nP:ws.head?≠some 48:=by
     have:=hh (by simp;omega)
     rw [List.head?_append] at this
     cases ws with
     | nil=>exact absurd rfl Ap
     | cons x xs=>simpa using this
    have hdw:∀ x∈ws,dig x=true:=fun x hx=>hd x (by simp [hx])
    have hp:=valOf_pos hdw Ap nP
    have hi:=ih ws (by simpa using hl) Ap hdw (fun _=>nP)
    rw [Lib.decDigits,dif_neg (by omega),show (10*qK ws+(c.toNat-48)) / 10=qK ws from by omega,show (10*qK ws+(c.toNat-48)) % 10=c.toNat-48 from by omega,hi,hof]
theorem decFrom_of (l:Bs):∀ a:Nat,(∀ c∈l,dig c=true)->Lib.decFrom a l=some (l.foldl (fun n c=>10*n+(c.toNat-48)) a):=by
 induction l with
 | nil=>intro a _;rfl
 | cons c cs ih =>
   intro a hd
   have hc:=(uh c).1 (hd c (by simp))
   simp only [Lib.decFrom,Lib.digitVal,if_pos hc,List.foldl_cons]
   rw [Nat.mul_comm a 10]
   exact ih _ fun x hx=>hd x (by simp [hx])
theorem lvl_spec {w:Bs} {n v:Nat} (h:lvl w n=some v) (hn:n<=10000):w≠[]/\w.length<=4/\(∀ c∈w,dig c=true)/\(1<w.length->w.head?≠some 48)/\qK w=v/\v<n:=by
 obtain ⟨h1,_,h3⟩:=lvl_lt h
 have e:Lib.itoa (v:Int)=Lib.decDigits v:=by unfold Lib.itoa;rw [if_neg (by omega)];simp
 rw [e] at h3
 subst h3
 refine ⟨xw v,pE (by omega),decDigits_dig v,fun hl=>?_,decDigits_val v,h1⟩
 refine gA v ?_
 rcases Nat.eq_zero_or_pos v with h0 | h0
 ·subst h0;rw [Lib.decDigits_one (by omega)] at hl;simp at hl
 ·exact h0
theorem spec_lvl {w:Bs} {n:Nat} (h1:w≠[]) (h2:w.length<=4) (h3:∀ c∈w,dig c=true) (h4:1<w.length->w.head?≠some 48) (h5:qK w<n):lvl w n=some (qK w):=by
 have ha:Lib.atoiAll w=.ok (qK w:Int):=by
  rw [Lib.atoiAll_short w (by omega)]
  cases w with
  | nil=>exact absurd rfl h1
  | cons c cs =>
    have hc:=(uh c).1 (h3 c (by simp))
    have n45:(c == 45)=false:=by rw [beq_eq_false_iff_ne];rintro rfl;have:(45:UInt8).toNat=45:=rfl;omega
    have n43:(c == 43)=false:=by rw [beq_eq_false_iff_ne];rintro rfl;have:(43:UInt8).toNat=43:=rfl;omega
    simp only [Lib.atoi,n45,n43,Bool.false_eq_true,if_false,Lib.decNat,List.isEmpty_cons]
    rw [decFrom_of _ 0 h3];rfl
 have hi:Lib.itoa (qK w:Int)=w:=by
  have e:Lib.itoa (qK w:Int)=Lib.decDigits (qK w):=by unfold Lib.itoa;rw [if_neg (by omega)];simp
  rw [e,xx w.length w rfl h1 h3 h4]
 unfold lvl
 rw [ha]
 simp only
 rw [if_pos ⟨hi,by omega,by omega⟩];simp
def jG (l:Bs):Prop:=l=[]\/∃ c r,l=c::r/\sep c=true
theorem dig_sep {c:UInt8} (h:dig c=true):sep c=false:=by
 have:=(uh c).1 h
 rw [Bool.eq_false_iff];intro hs
 simp only [sep,Bool.or_eq_true,beq_iff_eq] at hs
 rcases hs with (rfl | rfl) | rfl
 ·have:(32:UInt8).toNat=32:=rfl;omega
 ·have:(40:UInt8).toNat=40:=rfl;omega
 ·have:(41:UInt8).toNat=41:=rfl;omega
theorem jL (l:Bs):l=zN l++zD l:=(List.takeWhile_append_dropWhile).symm
theorem wordDrop (l:Bs):l.drop (zN l).length=zD l:=by
 have h:=jL l
 generalize zN l=a at *
 generalize zD l=b at *
 subst h;simp
theorem pz (l:Bs):jG (zD l):=by
 unfold zD
 induction l with
 | nil=>exact .inl rfl
 | cons c cs ih =>
   rw [List.dropWhile_cons]
   split
   ·exact ih
   ·rename_i h;exact .inr ⟨c,cs,rfl,by simpa using h⟩
theorem word_of {w rest:Bs} (hw:∀ c∈w,sep c=false) (hr:jG rest):zN (w++rest)=w/\zD (w++rest)=rest:=by
 unfold zN zD
 induction w with
 | nil =>
   rcases hr with rfl | ⟨c,r,rfl,hc⟩
   ·exact ⟨rfl,rfl⟩
   ·simp [hc]
 | cons x xs ih =>
   have hx:=hw x (by simp)
   have:=ih fun c hc=>hw c (by simp [hc])
   simp [hx,this.1,this.2]
theorem digsOf_of {w rest:Bs} (hw:∀ c∈w,dig c=true) (hl:w.length<=4) (hr:jG rest):kK (w++rest)=w:=by
 unfold kK
 rw [List.take_append,List.take_of_length_le hl]
 have key:(rest.take (4-w.length)).takeWhile dig=[]:=by
  rcases hr with rfl | ⟨c,r,rfl,hc⟩
  ·simp
  ·cases 4-w.length with
   | zero=>rfl
   | succ k =>
     rw [List.take_succ_cons,List.takeWhile_cons,if_neg]
     intro h;rw [dig_sep h] at hc;simp at hc
 rw [List.takeWhile_append_of_pos (fun c hc=>hw c hc),key,List.append_nil]
theorem cut_is {c:UInt8} {r:Bs}:cut [c] (c::r)=some r:=by simp [cut,List.isPrefixOf]
theorem wZ (rd:RdS) (hs gs:List (List Ty)):∀ {l:Bs} {bs:List Bd} {l1:Bs} {cs:List Bd} {l2:Bs},zU rd hs l=some (bs,l1)->zU rd gs l1=some (cs,l2)->zU rd (hs++gs) l=some (bs++cs,l2):=by
 induction hs with
 | nil=>intro l bs l1 cs l2 h k;simp [zU] at h;obtain ⟨rfl,rfl⟩:=h;simpa using k
 | cons h' hs ih =>
   intro l bs l1 cs l2 h k
   simp only [zU,Option.bind_eq_bind,Option.bind_eq_some_iff,Prod.exists] at h
   obtain ⟨b,m,h1,bs',m',h2,h3⟩:=h
   simp at h3;obtain ⟨rfl,rfl⟩:=h3
   simp only [List.cons_append,zU,Option.bind_eq_bind,h1,Option.bind_some,ih h2 k]
def RdFits (rd:Rd) (rs:RdS) (h:List Ty):Prop:=∀ (left:Nat) (l:Bs) (b:Bd) (r:Bs) (f:Nat),rd h left l=some (b,r,f)->rs h l=some (b,r)/\f+zX b=left/\l.length+1<=r.length+7*zX b
theorem parts_fit {rd:Rd} {rs:RdS} (hs:List (List Ty)) (hf:∀ h∈hs,RdFits rd rs h):∀ {left:Nat} {l:Bs} {bs:List Bd} {r:Bs} {f:Nat},zf rd hs left l=some (bs,r,f)->zU rs hs l=some (bs,r)/\f+zG bs=left/\l.length<=r.length+7*zG bs:=by
 induction hs with
 | nil=>intro left l bs r f h;simp [zf] at h;obtain ⟨rfl,rfl,rfl⟩:=h;simp [zU,zG]
 | cons h' hs ih =>
   intro left l bs r f h
   simp only [zf,Option.bind_eq_bind,Option.bind_eq_some_iff,Prod.exists] at h
   obtain ⟨l1,h1,b,l2,f2,h2,bs',l3,f3,h3,h4⟩:=h
   simp at h4;obtain ⟨rfl,rfl,rfl⟩:=h4
   obtain ⟨a1,a2,a3⟩:=hf h' (by simp) _ _ _ _ _ h2
   obtain ⟨b1,b2,b3⟩:=ih (fun x hx=>hf x (by simp [hx])) h3
   have hc:=jZ h1
   refine ⟨?_,by simp [zG];omega,by subst hc;simp [zG];omega⟩
   simp only [zU,z_,h1,Option.bind_eq_bind,Option.bind_some,a1,b1]
theorem pj {l:Bs} {c:UInt8} (h:zN l=[c]):l=c::zD l:=by
 have:=jL l
 rw [h] at this;simpa using this
theorem specNum_of {w rest:Bs} (h1:w≠[]) (h2:w.length<=4) (h3:∀ c∈w,dig c=true) (h4:1<w.length->w.head?≠some 48) (hr:jG rest):ke (w++rest)=some (qK w,w.length):=by
 unfold ke
 rw [digsOf_of h3 h2 hr,if_neg]
 rintro (h | ⟨h,h'⟩)
 ·exact h1 h
 ·apply h4 h
  cases w with
  | nil=>exact absurd rfl h1
  | cons x xs=>simpa using h'
theorem rdB_fits (d:Nat):∀ levels,kC d levels->RdFits (rdB d) (rdN (d+1)) levels:=by
 induction d with
 | zero =>
   intro levels hh left l b r f h
   rcases left with _ | left
   ·simp [rdB] at h
   rcases zi [40] l with h1 | ⟨r1,h1⟩
   ·rw [xD 0 levels left h1.out] at h
    have key:∀ c:UInt8,(c=116\/c=102\/c=117)->zN l=[c]->rdN 1 levels l=some (.leaf c,zD l)/\left+zX (.leaf c)=left+1/\l.length+1<=(zD l).length+7*zX (.leaf c):=by
     intro c hc hw
     have e:=pj hw
     refine ⟨?_,rfl,?_⟩
     ·conv=>lhs;rw [e]
      simp only [rdN,if_pos hc]
     ·have:=congrArg List.length e;simp at this;simp [zX];omega
    split at h
    ·rename_i hw;simp at h;obtain ⟨rfl,rfl,rfl⟩:=h;exact key _ (by decide) hw
    ·split at h
     ·rename_i hw;simp at h;obtain ⟨rfl,rfl,rfl⟩:=h;exact key _ (by decide) hw
     ·split at h
      ·rename_i hw;simp at h;obtain ⟨rfl,rfl,rfl⟩:=h;exact key _ (by decide) hw
      ·simp at h
   ·rw [xE 0 levels left h1.out] at h
    cases hv:lvl (zN r1) levels.length with
    | none=>rw [hv] at h;simp at h
    | some v=>rw [hv] at h;simp at h
 | succ d ih =>
   intro levels hh left l b r f h
   rcases left with _ | left
   ·simp [rdB] at h
   rcases zi [40] l with h1 | ⟨r1,h1⟩
   ·rw [xD (d+1) levels left h1.out] at h
    have key:∀ c:UInt8,(c=116\/c=102\/c=117)->zN l=[c]->rdN (d+1+1) levels l=some (.leaf c,zD l)/\left+zX (.leaf c)=left+1/\l.length+1<=(zD l).length+7*zX (.leaf c):=by
     intro c hc hw
     have e:=pj hw
     refine ⟨?_,rfl,?_⟩
     ·conv=>lhs;rw [e]
      simp only [rdN,if_pos hc]
     ·have:=congrArg List.length e;simp at this;simp [zX];omega
    split at h
    ·rename_i hw;simp at h;obtain ⟨rfl,rfl,rfl⟩:=h;exact key _ (by decide) hw
    ·split at h
     ·rename_i hw;simp at h;obtain ⟨rfl,rfl,rfl⟩:=h;exact key _ (by decide) hw
     ·split at h
      ·rename_i hw;simp at h;obtain ⟨rfl,rfl,rfl⟩:=h;exact key _ (by decide) hw
      ·simp at h
   ·rw [xE (d+1) levels left h1.out] at h
    cases hv:lvl (zN r1) levels.length with
    | none=>rw [hv] at h;simp at h
    | some v =>
      rw [hv] at h
      simp only at h
      cases ht:levels[v]? with
      | none=>rw [ht] at h;simp at h
      | some t =>
        rw [ht] at h
        simp only [gK,Option.bind_eq_bind,Option.bind_eq_some_iff,Prod.exists] at h
        obtain ⟨ss,l1,f1,h2,yn,l2,f2,h3,h4⟩:=h
        have hl:levels.length<=10000:=by have:=hh.2;omega
        obtain ⟨w1,w2,w3,w4,w5,w6⟩:=lvl_spec hv hl
        split at h4
        ·rename_i y n
         simp only [Option.bind_eq_some_iff] at h4
         obtain ⟨l3,h5,h6⟩:=h4
         simp at h6;obtain ⟨rfl,rfl,rfl⟩:=h6
         have k1:=parts_fit (rs:=rdN (d+1)) (t.args.map fun a=>levels++a.args) (fun x hx=>by
          obtain ⟨a,ha,rfl⟩:=List.mem_map.1 hx
          exact ih _ (hh.next ht ha)) h2
         have dG:kC d levels:=by have:=hh.same;rwa [List.append_nil] at this
         have k2:=parts_fit (rs:=rdN (d+1)) [levels,levels] (fun x hx=>by
          have:x=levels:=by simpa using hx
          subst this;exact ih _ dG) h3
         have Bk:=(uq (gZ d) _ h2).2.2
         rw [List.length_map] at Bk
         have hc:=jZ h5
         have ca:=jZ h1.out
         have hw:=jL r1
         have tq:=specNum_of (rest:=zD r1) w1 w2 w3 w4 (pz r1)
         rw [<- hw,w5] at tq
         have ex:zU (rdN (d+1)) (ku levels t) (zD r1)=some (ss++[y,n],l2):=wZ _ _ _ k1.1 k2.1
         refine ⟨?_,?_,?_⟩
         ·conv=>lhs;rw [ca]
          rw [rdN]
          rw [if_neg (by decide),if_neg (by decide),tq]
          simp only [ht]
          rw [wordDrop]
          simp only [ex,Option.bind_eq_bind,Option.bind_some,h5,vf]
          rw [List.drop_left' Bk,List.take_left' Bk];rfl
         ·have a1:=k1.2.1;have a2:=k2.2.1
          simp [zX,zG] at a1 a2 ⊢;omega
         ·have a1:=k1.2.2;have a2:=k2.2.2
          have az:=congrArg List.length hw
          have tV:=congrArg List.length hc
          have hc1l:=congrArg List.length ca
          simp [zX,zG] at a1 a2 az tV hc1l ⊢;omega
        ·simp at h4
theorem vZ {rs:RdS} {hs:List (List Ty)} {l:Bs} {ps:List Bd} {r:Bs} (h:zU rs hs l=some (ps,r)) (hr:jG r):jG l:=by
 cases hs with
 | nil=>simp [zU] at h;obtain ⟨_,rfl⟩:=h;exact hr
 | cons h' hs =>
   simp only [zU,z_,Option.bind_eq_bind,Option.bind_eq_some_iff,Prod.exists] at h
   obtain ⟨_,_,⟨l1,h1,_⟩,_⟩:=h
   have:=jZ h1
   exact .inr ⟨32,l1,this,rfl⟩
def RdBack (rd:Rd) (rs:RdS) (h:List Ty):Prop:=∀ (left:Nat) (l:Bs) (b:Bd) (r:Bs),rs h l=some (b,r)->jG r->zX b<=left->rd h left l=some (b,r,left-zX b)
theorem gQ {rd:Rd} {rs:RdS} (hs:List (List Ty)) (hf:∀ h∈hs,RdBack rd rs h):∀ (left:Nat) (l:Bs) (ps:List Bd) (r:Bs),zU rs hs l=some (ps,r)->jG r->zG ps<=left->zf rd hs left l=some (ps,r,left-zG ps):=by
 induction hs with
 | nil=>intro left l ps r h _ _;simp [zU] at h;obtain ⟨rfl,rfl⟩:=h;simp [zf,zG]
 | cons h' hs ih =>
   intro left l ps r h hr hsz
   simp only [zU,z_,Option.bind_eq_bind,Option.bind_eq_some_iff,Prod.exists] at h
   obtain ⟨b,l2,⟨l1,h1,h2⟩,bs,l3,h3,h4⟩:=h
   simp at h4;obtain ⟨rfl,rfl⟩:=h4
   simp [zG] at hsz
   have hb:=hf h' (by simp) left l1 b l2 h2 (vZ h3 hr) (by omega)
   have hbs:=ih (fun x hx=>hf x (by simp [hx])) (left-zX b) l2 bs l3 h3 hr (by omega)
   simp only [zf,h1,Option.bind_eq_bind,Option.bind_some,hb,hbs]
   simp [zG];omega
theorem pP (rs:RdS) (hs gs:List (List Ty)):∀ {l:Bs} {ps:List Bd} {r:Bs},zU rs (hs++gs) l=some (ps,r)->∃ bs l1 cs,ps=bs++cs/\zU rs hs l=some (bs,l1)/\zU rs gs l1=some (cs,r):=by
 induction hs with
 | nil=>intro l ps r h;exact ⟨[],l,ps,rfl,rfl,h⟩
 | cons h' hs ih =>
   intro l ps r h
   simp only [List.cons_append,zU,Option.bind_eq_bind,Option.bind_eq_some_iff,Prod.exists] at h
   obtain ⟨b,m,h1,bs',m',h2,h3⟩:=h
   simp at h3;obtain ⟨rfl,rfl⟩:=h3
   obtain ⟨bs,l1,cs,rfl,a1,a2⟩:=ih h2
   refine ⟨b::bs,l1,cs,rfl,?_,a2⟩
   simp only [zU,Option.bind_eq_bind,h1,Option.bind_some,a1]
theorem xB {m:Bs} {v k:Nat} (h:ke m=some (v,k)):kK m≠[]/\v=qK (kK m)/\k=(kK m).length/\(1<(kK m).length->(kK m).head?≠some 48):=by
 unfold ke at h
 split at h
 ·simp at h
 ·rename_i hc
  simp at h
  refine ⟨fun e=>hc (.inl e),h.1.symm,h.2.symm,fun h1 h2=>hc (.inr ⟨h1,?_⟩)⟩
  have hp:=jt m
  obtain ⟨x,hx⟩:=hp
  cases hd:kK m with
  | nil=>rw [hd] at h1;simp at h1
  | cons y ys=>rw [hd] at hx h2;rw [<- hx];simpa using h2
theorem rdN_back (d:Nat):∀ levels,kC d levels->RdBack (rdB d) (rdN (d+1)) levels:=by
 induction d with
 | zero =>
   intro levels hh left l b r h hr hsz
   obtain ⟨left,rfl⟩:∃ x,left=x+1:=⟨left-1,by have:=kH b;omega⟩
   cases l with
   | nil=>simp [rdN] at h
   | cons c m =>
     simp only [rdN] at h
     split at h
     ·rename_i hc
      simp at h;obtain ⟨rfl,rfl⟩:=h
      have cc:cut [40] (c::m)=none:=by
       rcases hc with rfl | rfl | rfl <;> simp [cut,List.isPrefixOf]
      have hw:=word_of (w:=[c]) (rest:=m) (fun x hx=>by
       have:x=c:=by simpa using hx
       subst this;rcases hc with rfl | rfl | rfl <;> decide) hr
      rw [List.singleton_append] at hw
      rw [xD 0 levels left cc,hw.1,hw.2]
      rcases hc with rfl | rfl | rfl <;> simp [zX]
     ·split at h
      ·simp at h
      ·split at h
       ·simp at h
       ·split at h
        ·simp at h
        ·exfalso
         simp only [Option.bind_eq_bind,Option.bind_eq_some_iff,Prod.exists] at h
         obtain ⟨ps,l1,h1,_⟩:=h
         rename_i t _ _
         cases ha:ku levels t with
         | nil=>have:=jR levels t;rw [ha] at this;simp at this
         | cons x xs=>rw [ha] at h1;simp [zU,z_] at h1
 | succ d ih =>
   intro levels hh left l b r h hr hsz
   obtain ⟨left,rfl⟩:∃ x,left=x+1:=⟨left-1,by have:=kH b;omega⟩
   cases l with
   | nil=>simp [rdN] at h
   | cons c m =>
     rw [rdN] at h
     simp only at h
     split at h
     ·rename_i hc
      simp at h;obtain ⟨rfl,rfl⟩:=h
      have cc:cut [40] (c::m)=none:=by
       rcases hc with rfl | rfl | rfl <;> simp [cut,List.isPrefixOf]
      have hw:=word_of (w:=[c]) (rest:=m) (fun x hx=>by
       have:x=c:=by simpa using hx
       subst this;rcases hc with rfl | rfl | rfl <;> decide) hr
      rw [List.singleton_append] at hw
      rw [xD (d+1) levels left cc,hw.1,hw.2]
      rcases hc with rfl | rfl | rfl <;> simp [zX]
     ·split at h
      ·simp at h
      ·rename_i cc
       have cc:c=40:=by simpa using cc
       subst cc
       cases hn:ke m with
       | none=>rw [hn] at h;simp at h
       | some x =>
         obtain ⟨v,k⟩:=x
         rw [hn] at h
         simp only at h
         cases ht:levels[v]? with
         | none=>rw [ht] at h;simp at h
         | some t =>
           rw [ht] at h
           simp only [Option.bind_eq_bind,Option.bind_eq_some_iff,Prod.exists] at h
           obtain ⟨ps,l2,h1,l3,h2,b',h3,h4⟩:=h
           simp at h4;obtain ⟨rfl,rfl⟩:=h4
           have hc:=jZ h2
           have io:jG l2:=.inr ⟨41,l3,hc,rfl⟩
           have fd:=vZ h1 io
           obtain ⟨n1,n2,n3,n4⟩:=xB hn
           obtain ⟨bs,l1,cs,e1,p1,p2⟩:=pP _ _ _ h1
           have tX:=uJ _ p1
           have tV:=uJ _ p2
           have hsb:=gg h3
           have hw0:m=kK m++m.drop k:=by
            obtain ⟨x,hx⟩:=jt m
            have gen:∀ (a b c:Bs),a++b=c->c.drop a.length=b:=by rintro a b c rfl;simp
            rw [n3,gen _ _ _ hx,hx]
           have hw:=word_of (w:=kK m) (rest:=m.drop k) (fun x hx=>dig_sep (jc m x hx)) fd
           rw [<- hw0] at hw
           have nQ:v<levels.length:=(List.getElem?_eq_some_iff.1 ht).1
           have dQ:=spec_lvl (n:=levels.length) n1 (yy m).1 (jc m) n4 (by rw [<- n2];exact nQ)
           rw [<- n2] at dQ
           have hsl1:jG l1:=vZ p2 io
           have hszs:zG ps=zG bs+zG cs:=by rw [e1,kI]
           have dG:kC d levels:=by have:=hh.same;rwa [List.append_nil] at this
           have k1:=gQ (rd:=rdB d) (t.args.map fun a=>levels++a.args) (fun x hx=>by
            obtain ⟨a,ha,rfl⟩:=List.mem_map.1 hx
            exact ih _ (hh.next ht ha)) left (m.drop k) bs l1 p1 hsl1 (by omega)
           have k2:=gQ (rd:=rdB d) [levels,levels] (fun x hx=>by
            have:x=levels:=by simpa using hx
            subst this;exact ih _ dG) (left-zG bs) l1 cs l2 p2 io (by omega)
           have B0:bs.length=t.args.length:=by simpa [kW] using tX
           obtain ⟨y,n,rfl⟩:∃ y n,cs=[y,n]:=by
            match cs,tV with
            | [a,b],_=>exact ⟨a,b,rfl⟩
           have hb:b'=.ask v bs y n:=by
            rw [e1] at h3
            unfold vf at h3
            rw [List.drop_left' B0,List.take_left' B0] at h3
            simpa using h3.symm
           subst hb
           rw [xE (d+1) levels left (l:=40::m) cut_is,hw.1,dQ]
           simp only [ht]
           rw [hw.2]
           simp only [gK,k1,k2,Option.bind_eq_bind,Option.bind_some,h2]
           simp [zX,zG] at *;omega
theorem rdStrat_eq (t:Ty) (ht:zY t<=15) (l:Bs):qX t l=(if 2000<l.length then none else match rdN 101 t.args l with
 | none=>none
 | some (b,rest)=>if rest=[]/\zX b<=200 then some b else none):=by
 have hh:=wH ht
 cases hq:qX t l with
 | some b =>
   have h1:∃ f,rdB 100 t.args 200 l=some (b,[],f):=by
    unfold qX at hq
    split at hq
    ·rename_i b' f he
     simp at hq;subst hq;exact ⟨f,he⟩
    ·simp at hq
   obtain ⟨f,h1⟩:=h1
   obtain ⟨a1,a2,a3⟩:=rdB_fits 100 t.args hh _ _ _ _ _ h1
   have:¬ 2000<l.length:=by simp at a3;omega
   rw [if_neg this,a1]
   simp only
   rw [if_pos ⟨by trivial,by omega⟩]
 | none =>
   symm
   split
   ·rfl
   ·cases hn:rdN 101 t.args l with
    | none=>rfl
    | some x =>
      obtain ⟨b,rest⟩:=x
      simp only
      split
      ·rename_i hc
       obtain ⟨rfl,hc⟩:=hc
       have:=rdN_back 100 t.args hh 200 l b [] hn (.inl rfl) hc
       unfold qX at hq
       rw [this] at hq;simp at hq
      ·rfl
theorem yq (s l:Bs):uz s l=(zC s l).map fun b=>((zW s).1,b):=by
 unfold uz zC
 rw [wj]
 cases cW:(zW s).2 with
 | false=>simp
 | true =>
   have cv:=qv cW
   simp only [if_true,Option.bind_eq_bind,Option.bind_some]
   rw [rdStrat_eq _ cv]
   by_cases h2:2000<l.length
   ·simp [h2]
   ·simp only [h2,if_false,Bool.true_eq_false,false_or]
    cases rdN 101 (zW s).1.args l with
    | none=>rfl
    | some x =>
      obtain ⟨b,rest⟩:=x
      simp only
      split <;> rfl
theorem pr {s text:Bs} {b:Bd} (hq:zC s text=some b):zX b<=200:=by
 unfold zC at hq
 split at hq
 ·simp at hq
 ·split at hq
  ·simp at hq
  ·split at hq
   ·rename_i h;simp at hq;subst hq;exact h.2
   ·simp at hq
theorem rdTS_size {s text:Bs} {t:Ty} {b:Bd} (hq:uz s text=some (t,b)):zX b<=200:=by
 rw [yq,Option.map_eq_some_iff] at hq
 obtain ⟨b',h,e⟩:=hq
 simp at e;rw [<- e.2];exact pr h
mutual
def qA:List Ty->Bd->Prop
 | _,.leaf _=>True
 | hand,.ask v ss y n=>∃ t,hand[v]? = some t/\kg (kW hand t.args) ss/\qA hand y/\qA hand n
def kg:List (List Ty)->List Bd->Prop
 | hs,[]=>hs=[]
 | hs,b::bs=>∃ h mW,hs=h::mW/\qA h b/\kg mW bs
end
mutual
def wM:Bd->Bd->Bool
 | .leaf c,.leaf d=>c == 117 || c == d
 | .leaf c,.ask _ _ _ _=>c == 117
 | .ask _ _ _ _,.leaf _=>false
 | .ask v ss y n,.ask v' ss' y' n'=>v == v' && (yp ss ss' && (wM y y' && wM n n'))
def yp:List Bd->List Bd->Bool
 | a::xs,b::bs=>wM a b && yp xs bs
 | [],_=>true
 | _::_,[]=>false
end
theorem vP (levels ts:List Ty):(kW levels ts).length=ts.length:=by simp [kW]
theorem uw:∀ (xs:List Bd) (bs:List Bd) (hs ks:List (List Ty)),kg hs xs->kg ks bs->kg (hs++ks) (xs++bs)
 | [],bs,hs,ks,h1,h2=>by rw [kg] at h1;subst h1;simpa using h2
 | a::xs,bs,hs,ks,h1,h2=>by
   rw [kg] at h1
   obtain ⟨h,mW,rfl,e1,e2⟩:=h1
   exact ⟨h,mW++ks,rfl,e1,uw xs bs mW ks e2 h2⟩
theorem jk:∀ (xs:List Bd) (hs:List (List Ty)),kg hs xs->hs.length=xs.length
 | [],hs,h=>by rw [kg] at h;simp [h]
 | a::xs,hs,h=>by
   rw [kg] at h
   obtain ⟨h',mW,rfl,e1,e2⟩:=h
   simp [jk xs mW e2]
theorem xL:∀ (xs:List Bd) (hs:List (List Ty)),kg hs xs->∀ (k:Nat) (a:Bd),xs[k]? = some a->∃ h,hs[k]? = some h/\qA h a
 | [],hs,h,k,a,ha=>by simp at ha
 | a::xs,hs,h,k,a',ha=>by
   rw [kg] at h
   obtain ⟨h',mW,rfl,e1,e2⟩:=h
   cases k with
   | zero=>simp at ha;subst ha;exact ⟨h',rfl,e1⟩
   | succ k=>simp at ha;simpa using xL xs mW e2 k a' ha
theorem gN (h k:List Ty) (y n:Bd):kg [h,k] [y,n]↔qA h y/\qA k n:=by
 constructor
 ·intro hf
  rw [kg] at hf
  obtain ⟨a,as',e,h1,h2⟩:=hf
  simp only [List.cons.injEq] at e
  obtain ⟨rfl,rfl⟩:=e
  rw [kg] at h2
  obtain ⟨a,as',e,h3,h4⟩:=h2
  simp only [List.cons.injEq] at e
  obtain ⟨rfl,rfl⟩:=e
  exact ⟨h1,h3⟩
 ·rintro ⟨h1,h2⟩
  exact ⟨h,[k],rfl,h1,k,[],rfl,h2,by rw [kg]⟩
theorem fit_parts {hand:List Ty} {v:Nat} {ss:List Bd} {y n:Bd} (h:qA hand (.ask v ss y n)):∃ t,hand[v]? = some t/\kg (ku hand t) (zc (.ask v ss y n))/\ss.length=t.args.length:=by
 rw [qA] at h
 obtain ⟨t,h1,h2,h3,h4⟩:=h
 refine ⟨t,h1,uw _ _ _ _ h2 ((gN _ _ _ _).2 ⟨h3,h4⟩),?_⟩
 have:=jk _ _ h2
 rw [vP] at this;exact this.symm
theorem wa:∀ (hs:List (List Ty)) (ks:List (List Ty)) (ps:List Bd),kg (hs++ks) ps->kg hs (ps.take hs.length)/\kg ks (ps.drop hs.length)
 | [],ks,ps,h=>by
   constructor
   ·simp [kg]
   ·simpa using h
 | x::hs,ks,[],h=>by simp [kg] at h
 | x::hs,ks,p::ps,h=>by
   simp only [List.cons_append] at h
   rw [kg] at h
   obtain ⟨h',mW,e,e1,e2⟩:=h
   simp only [List.cons.injEq] at e
   obtain ⟨rfl,rfl⟩:=e
   have:=wa hs ks ps e2
   simp only [List.length_cons,List.take_succ_cons,List.drop_succ_cons]
   exact ⟨⟨x,hs,rfl,e1,this.1⟩,this.2⟩
theorem specParts_fit {rd:RdS} (dz:∀ {h l b r},rd h l=some (b,r)->qA h b) (hs:List (List Ty)):∀ {l r:Bs} {ps:List Bd},zU rd hs l=some (ps,r)->kg hs ps:=by
 induction hs with
 | nil=>intro l r ps h;simp [zU] at h;obtain ⟨rfl,rfl⟩:=h;simp [kg]
 | cons h' hs ih =>
   intro l r ps h
   simp only [zU,Option.bind_eq_bind,Option.bind_eq_some_iff,Prod.exists] at h
   obtain ⟨b,l1,h1,bs,l2,h2,h3⟩:=h
   simp at h3;obtain ⟨rfl,rfl⟩:=h3
   unfold z_ at h1
   simp only [Option.bind_eq_bind,Option.bind_eq_some_iff] at h1
   obtain ⟨l3,_,h4⟩:=h1
   exact ⟨h',hs,rfl,dz h4,ih h2⟩
theorem rdN_fit (e:Nat):∀ {h:List Ty} {l:Bs} {b:Bd} {r:Bs},rdN e h l=some (b,r)->qA h b:=by
 induction e with
 | zero=>intro h l b r hq;simp [rdN] at hq
 | succ e ih =>
   intro h l b r hq
   cases l with
   | nil=>simp [rdN] at hq
   | cons c m =>
     simp only [rdN] at hq
     split at hq
     ·simp at hq;obtain ⟨rfl,rfl⟩:=hq;simp [qA]
     ·split at hq
      ·simp at hq
      ·split at hq
       ·simp at hq
       ·rename_i v k hsn
        split at hq
        ·simp at hq
        ·rename_i t ht
         simp only [Option.bind_eq_bind,Option.bind_eq_some_iff,Prod.exists] at hq
         obtain ⟨ps,l1,h1,l2,h2,b',h3,h4⟩:=hq
         simp at h4;obtain ⟨rfl,rfl⟩:=h4
         have k1:=specParts_fit ih _ h1
         have k2:=wa _ _ _ k1
         rw [vP] at k2
         unfold vf at h3
         split at h3
         ·rename_i y no hd
          simp at h3;subst h3
          rw [hd,gN] at k2
          rw [qA]
          exact ⟨t,ht,k2.1,k2.2.1,k2.2.2⟩
         ·simp at h3
theorem xf:∀ (xs bs:List Bd),xs.length=bs.length->(yp xs bs=true↔∀ (k:Nat) (a b:Bd),xs[k]? = some a->bs[k]? = some b->wM a b=true)
 | [],[],_=>by simp [yp]
 | a::xs,b::bs,h=>by
   simp only [yp,Bool.and_eq_true]
   rw [xf xs bs (by simpa using h)]
   constructor
   ·rintro ⟨h1,h2⟩ k a' b' ha hb
    cases k with
    | zero=>simp at ha hb;subst ha;subst hb;exact h1
    | succ k=>simp at ha hb;exact h2 k a' b' ha hb
   ·intro h
    exact ⟨h 0 a b rfl rfl,fun k a' b' ha hb=>h (k+1) a' b' (by simpa using ha) (by simpa using hb)⟩
def ul (xs bs:List Bd) (k:Nat):Prop:=∀ (j:Nat) (a b:Bd),j<k->xs[j]? = some a->bs[j]? = some b->wM a b=true
theorem ul.zero (xs bs:List Bd):ul xs bs 0:=fun j a b h=>by omega
theorem ul.next {xs bs:List Bd} {k:Nat} (h:ul xs bs k) {a b:Bd} (ha:xs[k]? = some a) (hb:bs[k]? = some b) (hab:wM a b=true):ul xs bs (k+1):=by
 intro j a' b' hj h1 h2
 rcases Nat.lt_or_ge j k with h' | h'
 ·exact h j a' b' h' h1 h2
 ·obtain rfl:j=k:=by omega
  rw [ha] at h1;rw [hb] at h2;simp at h1 h2;subst h1;subst h2;exact hab
theorem ul.all {xs bs:List Bd} (hl:xs.length=bs.length) (h:ul xs bs xs.length):yp xs bs=true :=
 (xf xs bs hl).2 fun k a b ha hb=>h k a b (List.getElem?_eq_some_iff.1 ha).1 ha hb
def lvOf:Bd->Nat
 | .leaf _=>0
 | .ask v _ _ _=>v
theorem encN_lv {F:Nat->Prop} {w:World} {b:Bd} {s v k y:Value} (h:zH F w (kE b) [s,v,k,y]):v=.int .i64 (lvOf b:Nat):=by
 cases b with
 | leaf c =>
   rw [kE] at h
   obtain ⟨_,_,e,h0,h⟩:=zQ.1 h
   simp only [List.cons.injEq] at e;obtain ⟨rfl,rfl⟩:=e
   obtain ⟨_,_,e,h1,h⟩:=zQ.1 h
   simp only [List.cons.injEq] at e;obtain ⟨rfl,rfl⟩:=e
   exact zF.1 h1
 | ask lv ss yb nb =>
   rw [kE] at h
   obtain ⟨_,_,e,h0,h⟩:=zQ.1 h
   simp only [List.cons.injEq] at e;obtain ⟨rfl,rfl⟩:=e
   obtain ⟨_,_,e,h1,h⟩:=zQ.1 h
   simp only [List.cons.injEq] at e;obtain ⟨rfl,rfl⟩:=e
   exact zF.1 h1
theorem uQ (a b:Nat):((a:Int).tmod (b:Int))=((a % b:Nat):Int):=rfl
theorem xG (a b:Nat):((a:Int).tdiv (b:Int))=((a / b:Nat):Int):=rfl
theorem vD (n:Nat) (h:n<9223372036854775808):IntKind.i64.wrap (n:Int)=(n:Int):=by
 simp [IntKind.wrap,IntKind.bits,IntKind.signed];omega
def jy (r:Nat):UInt8:=UInt8.ofNat (48+r)
def dec (n:Nat):Bs:=if n<10 then [jy n] else dec (n / 10)++[jy (n % 10)]
theorem qG {n:Nat} (h:n<10):dec n=[jy n]:=by rw [dec,if_pos h]
theorem qL {n:Nat} (h:¬ n<10):dec n=dec (n / 10)++[jy (n % 10)]:=by rw [dec,if_neg h]
theorem qM (k:Nat):∀ n,n<10 ^ (k+1)->(dec n).length<=k+1:=by
 induction k with
 | zero=>intro n h;rw [qG (by simpa using h)];simp
 | succ k ih =>
   intro n h
   by_cases iO:n<10
   ·rw [qG iO];simp
   ·rw [qL iO]
    have:=ih (n / 10) (by rw [Nat.div_lt_iff_lt_mul (by omega),<- Nat.pow_succ];exact h)
    simp;omega
theorem str_add (a b:Bs):(⟨a.toArray⟩:ByteArray)++(⟨b.toArray⟩:ByteArray)=⟨(a++b).toArray⟩:=by
 have h:((⟨a.toArray⟩:ByteArray)++(⟨b.toArray⟩:ByteArray)).data=(a++b).toArray:=by
  rw [ByteArray.data_append];simp
 cases hx:(⟨a.toArray⟩:ByteArray)++(⟨b.toArray⟩:ByteArray) with
 | mk d=>rw [hx] at h;simp at h;rw [h]
theorem zo {P:Program} (a b:Bs) (h:a.length+b.length<=9223372036854775807) (w:World):(Op.stringOp .add ⟨a.toArray⟩ ⟨b.toArray⟩).run P w=.ok (str (a++b)) w:=by
 rw [run_string_add_sum w _ _ (by rw [jI,jI];exact h),str_add]
mutual
def zO:Bd->Bs
 | .leaf c=>[c]
 | .ask v ss y n=>(((([40]++dec v++zv ss++[32])++zO y)++[32])++zO n)++[41]
def zv:List Bd->Bs
 | []=>[]
 | b::bs=>[32]++zO b++zv bs
end
mutual
def lvB:Bd->Prop
 | .leaf _=>True
 | .ask v ss y n=>v<=10000/\vM ss/\lvB y/\lvB n
def vM:List Bd->Prop
 | []=>True
 | b::bs=>lvB b/\vM bs
end
theorem qd:∀ (xs ys:List Bd),zv (xs++ys)=zv xs++zv ys
 | [],ys=>by simp [zv]
 | x::xs,ys=>by simp [zv,qd xs ys]
theorem textBs_take {ts:List Bd} {k:Nat} {t:Bd} (h:ts[k]? = some t):zv (ts.take (k+1))=zv (ts.take k)++[32]++zO t:=by
 rw [List.take_add_one,h,qd];simp [zv]
theorem pM:∀ (xs:List Bd),vM xs->∀ (k:Nat) (t:Bd),xs[k]? = some t->lvB t
 | [],_,k,t,h=>by simp at h
 | x::xs,hl,k,t,h=>by
   rw [vM] at hl
   cases k with
   | zero=>simp at h;subst h;exact hl.1
   | succ k=>simp at h;exact pM xs hl.2 k t h
mutual
theorem kz:∀ (b:Bd),lvB b->(zO b).length+1<=12*zX b
 | .leaf c,_=>by simp [zO,zX]
 | .ask v ss y n,h=>by
   rw [lvB] at h
   have h1:=jr ss h.2.1
   have h2:=kz y h.2.2.1
   have h3:=kz n h.2.2.2
   have h4:(dec v).length<=5:=qM 4 v (by have:=h.1;omega)
   simp only [zO,zX,List.length_append,List.length_cons,List.length_nil]
   omega
theorem jr:∀ (bs:List Bd),vM bs->(zv bs).length<=12*zG bs
 | [],_=>by simp [zv]
 | b::bs,h=>by
   rw [vM] at h
   have h1:=kz b h.1
   have h2:=jr bs h.2
   simp only [zv,zG,List.length_append,List.length_cons,List.length_nil]
   omega
end
theorem pW (xs:List Bd) (k:Nat):(zv (xs.take k)).length<=(zv xs).length:=by
 have:=congrArg List.length (qd (xs.take k) (xs.drop k))
 rw [List.take_append_drop,List.length_append] at this
 omega
mutual
def zM:Ty->Bs
 | .mk ts=>y6 ts
def y6:List Ty->Bs
 | []=>[98]
 | a::ts=>[40,62,32]++(zM a++([32]++(y6 ts++[41])))
end
theorem jx:zM (.mk [])=[98]:=by rw [zM,y6]
theorem jw (a:Ty) (ts:List Ty):zM (.mk (a::ts))=[40,62,32]++(zM a++([32]++(zM (.mk ts)++[41]))):=by
 rw [zM,y6,zM]
theorem vd (a:Ty) (ts:List Ty):zY (.mk (a::ts))=1+zY a+zY (.mk ts):=by
 simp only [zY,zk];omega
theorem pR (p r:Bs):cut p (p++r)=some r:=by
 unfold cut
 have h:p.isPrefixOf (p++r)=true:=List.isPrefixOf_iff_prefix.2 (List.prefix_append _ _)
 rw [if_pos h];simp
theorem noCut_b (r:Bs):y5 [98] ([40,62,32]++r):=by
 show cut [98] ([40,62,32]++r)=none
 rfl
theorem rdK_text (d:Nat):∀ (t:Ty) (r:Bs),zY t<=2*d+1->rdK d (zM t++r)=some (t,r):=by
 have hb:∀ (d:Nat) (r:Bs),rdK d (zM (.mk [])++r)=some (.mk [],r):=fun d r=>by
  rw [jx];exact vJ (pR [98] r)
 induction d with
 | zero =>
   intro t r h
   obtain ⟨ts⟩:=t
   cases ts with
   | nil=>exact hb 0 r
   | cons a ts=>rw [vd] at h;have:=kr a;have:=kr (.mk ts);omega
 | succ d ih =>
   intro t r h
   obtain ⟨ts⟩:=t
   cases ts with
   | nil=>exact hb _ r
   | cons a ts =>
     rw [vd] at h
     have h1:=kr a;have h2:=kr (.mk ts)
     rw [jw]
     have e:([40,62,32]++(zM a++([32]++(zM (.mk ts)++[41]))))++r=[40,62,32]++(zM a++([32]++(zM (.mk ts)++([41]++r)))):=by simp
     rw [e,qQ (noCut_b _)]
     simp only [pR,Option.bind_eq_bind,Option.bind_some,ih a _ (by omega:zY a<=2*d+1),ih (.mk ts) _ (by omega:zY (.mk ts)<=2*d+1)]
     rfl
theorem kO:∀ (n:Nat) (t:Ty),zY t<=n->(zM t).length+2=3*zY t:=by
 intro n
 induction n with
 | zero=>intro t h;have:=kr t;omega
 | succ n ih =>
   intro t h
   obtain ⟨ts⟩:=t
   cases ts with
   | nil=>rw [jx];simp [zY,zk]
   | cons a ts =>
     rw [vd] at h ⊢
     have h1:=kr a;have h2:=kr (.mk ts)
     have k1:=ih a (by omega)
     have k2:=ih (.mk ts) (by omega)
     rw [jw]
     simp only [List.length_append,List.length_cons,List.length_nil]
     omega
theorem js {t:Ty} (h:zY t<=15):zW (zM t)=(t,true):=by
 have hl:=kO 15 t h
 unfold zW
 rw [if_neg (by omega)]
 have:=rdK_text 20 t [] (by omega)
 rw [List.append_nil] at this
 have h2:rdS 21 (zM t)=some (t,[]):=this
 rw [h2]
 simp [h]
theorem yH {t:Ty} (h:zY t<=15):qn (zM t)=some t:=by
 unfold qn
 have:=rdK_text 15 t [] (by omega)
 rw [List.append_nil] at this
 rw [this]
 simp [h]
theorem vW {t:Ty} (h:zY t<=15) (l:Bs):qX t l=zC (zM t) l:=by
 have h1:=yq (zM t) l
 unfold uz at h1
 rw [yH h] at h1
 simp only [Option.bind_eq_bind,Option.bind_some] at h1
 rw [js h] at h1
 cases ha:qX t l <;> cases hb:zC (zM t) l <;> rw [ha,hb] at h1 <;> simp at h1 ⊢
 exact h1
inductive Clo where
 | mk (b:Bd) (env:List Clo) (begun:Nat) (path:Bs)
def Clo.body:Clo->Bd | .mk b _ _ _=>b
def Clo.env:Clo->List Clo | .mk _ e _ _=>e
def Clo.begun:Clo->Nat | .mk _ _ n _=>n
def Clo.path:Clo->Bs | .mk _ _ _ p=>p
end Go.Proofs.YtepgfdhkkjfmhacGreatDoor

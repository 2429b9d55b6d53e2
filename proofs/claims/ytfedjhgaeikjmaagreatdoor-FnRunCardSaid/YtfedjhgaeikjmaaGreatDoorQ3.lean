/- Walks of functions that the statement reaches, and plain words. No conditions. -/
import Derived.Lib.AtoiTie
import Derived.Laws.Concat
import Derived.Test.YtfedjhgaeikjmaaGreatDoorQ2
set_option linter.unusedVariables false
set_option linter.unusedSimpArgs false
set_option maxHeartbeats 10000000
namespace Go.Proofs.YtfedjhgaeikjmaaGreatDoor
open Go.RowKit
def wA (i:Nat) (o:Option (Nat×Nat)) (w:World) (en:Ending) (w':World):Prop :=
 ∃ (v:Nat) (k:Int),en=.returned (.tuple #[.int .i64 v,.int .i64 k])/\w=w'/\(o=none->k = -1)/\(∀ v' c,o=some (v',c)->v=v'/\k=((i+c:Nat):Int))
theorem l3Number_any (l:Bs) (hl:Lim l.length) (i:Nat) (hi:i<=l.length) (w:World) :
 Calls Tryz.prog 102 #[str l,.int .i64 i] w (wA i (qU (l.drop i)) w):=by
 have eS:=hl.le
 obtain ⟨ds,aS⟩:=zzM (z9 (l.drop i))
 have hd4:=y7 (l.drop i)
 rw [<- aS] at hd4
 have h4:ds.length<=4:=hd4.1
 have o7:i+ds.length<=l.length:=by have:=hd4.2;simp at this;omega
 have HDS:=bc aS;clear aS hd4
 go_enter Tryz.func102,Tryz.ntmps102
 go_wp2_with fail
 go_loop [6,7] (fun n k=>∃ j:Nat,j<=ds.length/\k=.int .i64 ((i+j:Nat):Int)/\n=.int .i64 (ke (ds.take j):Nat)) (fun _ k=>i+ds.length-(intOf k).toNat)
 case atStart=>exact ⟨0,Nat.zero_le _,by simp,by simp [ke]⟩
 case round =>
  obtain ⟨j,hj,rfl,rfl⟩:=hrel
  by_cases cZ:j<ds.length
  ·have sg:i+j<l.length:=by omega
   have hat:l[i+j]=ds[j]/\dig l[i+j]=true:=by
    have h1:=HDS.out;subst h1
    obtain ⟨hm,e1,e2⟩:=digsOf_at cZ
    rw [List.getElem_drop] at e1 e2
    exact ⟨e1,e2⟩
   have b1:(48:Int)<=((((⟨l.toArray⟩:ByteArray)[i+j]'(k9 sg)).toNat:Int))/\((((⟨l.toArray⟩:ByteArray)[i+j]'(k9 sg)).toNat:Int))<=57:=by
    have h2:=hat.2
    simp [dig,UInt8.le_iff_toNat_le] at h2
    rw [j8 sg];omega
   obtain ⟨b1,b2⟩:=b1
   have hv:ke (ds.take j)<=9999:=by
    have h1:=valOf_lt (ds.take j) (fun c hc=>jm _ c (by have:=HDS.out;rw [<- this];exact List.mem_of_mem_take hc))
    have h2:10 ^ (ds.take j).length<=10 ^ 4:=Nat.pow_le_pow_right (by omega) (by simp;omega)
    omega
   have hs:=valOf_take cZ
   have eN:(ke (ds.take (j+1)):Int)=10*(ke (ds.take j):Int)+(((((⟨l.toArray⟩:ByteArray)[i+j]'(k9 sg)).toNat:Int))-48):=by
    rw [j8 sg] at b1 ⊢;rw [hs,hat.1] at *;omega
   have HS:=bc eN
   have j4:j<4:=by omega
   clear hs eN hat
   go_wp2_with fail
   go_round
   case rel=>exact ⟨j+1,by omega,by go_num,by rw [HS.out]⟩
   case measure=>simp [intOf];omega
  ·obtain rfl:j=ds.length:=by omega
   have aM:ds.length=4\/i+ds.length=l.length\/∃ h:i+ds.length<l.length,dig l[i+ds.length]=false:=by
    have h1:=HDS.out;subst h1
    rcases digsOf_end (m:=l.drop i) with h | h | ⟨h,h2⟩
    ·exact .inl h
    ·right;left;simp at h;omega
    ·right;right;simp at h;refine ⟨by omega,?_⟩;rw [List.getElem_drop] at h2;exact h2
   have HV:qU (l.drop i)=(if ds=[]\/(1<ds.length/\(l.drop i).head? = some 48) then none else some (ke ds,ds.length)):=by
    unfold qU;rw [<- HDS.out]
   have mt:4<=ds.length\/l.length<=i+ds.length\/(∃ h:i+ds.length<l.length,((((⟨l.toArray⟩:ByteArray)[i+ds.length]'(k9 h)).toNat:Int))<48)\/(∃ h:i+ds.length<l.length,(57:Int)<((((⟨l.toArray⟩:ByteArray)[i+ds.length]'(k9 h)).toNat:Int))):=by
    rcases aM with h | h | ⟨h,h2⟩
    ·exact .inl (by omega)
    ·exact .inr (.inl (by omega))
    ·simp [dig,UInt8.le_iff_toNat_le] at h2
     by_cases hc:l[i+ds.length].toNat<48
     ·exact .inr (.inr (.inl ⟨h,by rw [j8 h];omega⟩))
     ·exact .inr (.inr (.inr ⟨h,by rw [j8 h];have:=h2 (by omega);omega⟩))
   clear aM
   rw [List.take_length]
   rcases (by omega:ds.length=0\/ds.length=1\/2<=ds.length) with hn | hn | hn
   ·have e0:((i:Int)+(ds.length:Int) == (i:Int))=true:=by rw [beq_iff_eq];omega
    have fin:wA i (qU (l.drop i)) w (.returned (.tuple #[.int .i64 0,.int .i64 (-1)])) w:=by
     have si:ds=[]:=List.eq_nil_of_length_eq_zero hn
     refine ⟨0,-1,rfl,rfl,fun _=>rfl,fun v c h=>?_⟩
     rw [HV,if_pos (.inl si)] at h;simp at h
    have HF:=bc fin;have hn0:(ds.length:Int)<=0:=by omega
    clear fin HV hn
    rcases mt with h | h | ⟨h,h2⟩ | ⟨h,h2⟩
    all_goals
     go_wp2_with fail
     all_goals (go_ret2;exact HF.out)
   ·have e0:((i:Int)+(ds.length:Int) == (i:Int))=false:=by rw [beq_eq_false_iff_ne];omega
    have n1:¬ 1<ds.length:=by omega
    have fin:wA i (qU (l.drop i)) w (.returned (.tuple #[.int .i64 (ke ds:Nat),.int .i64 ((i:Int)+(ds.length:Int))])) w:=by
     have si:¬ (ds=[]\/(1<ds.length/\(l.drop i).head? = some 48)):=by
      rintro (h | h)
      ·rw [h] at hn;simp at hn
      ·omega
     refine ⟨_,_,rfl,rfl,fun h=>?_,fun v c h=>?_⟩
     ·rw [HV,if_neg si] at h;simp at h
     ·rw [HV,if_neg si] at h;simp at h;exact ⟨h.1,by omega⟩
    have HF:=bc fin;have fB:1<=ds.length:=by omega
    clear fin HV hn
    rcases mt with h | h | ⟨h,h2⟩ | ⟨h,h2⟩
    all_goals
     go_wp2_with fail
     all_goals (go_ret2;exact HF.out)
   ·have e0:((i:Int)+(ds.length:Int) == (i:Int))=false:=by rw [beq_eq_false_iff_ne];omega
    have n1:1<ds.length:=by omega
    have oc:i<l.length:=by rcases mt with h | h | ⟨h,h2⟩ | ⟨h,h2⟩ <;> omega
    have hhd:(l.drop i).head? = some l[i]:=by rw [List.head?_drop];simp [oc]
    have hdn:ds≠[]:=by intro h;rw [h] at hn;simp at hn
    by_cases nO:l[i]=48
    ·have f1:=j7 oc (n:=48) (by decide) nO
     have fin:wA i (qU (l.drop i)) w (.returned (.tuple #[.int .i64 0,.int .i64 (-1)])) w:=by
      refine ⟨0,-1,rfl,rfl,fun _=>rfl,fun v c h=>?_⟩
      rw [HV,if_pos (.inr ⟨n1,by rw [hhd,nO]⟩)] at h;simp at h
     have HF:=bc fin;clear fin HV hhd nO
     rcases mt with h | h | ⟨h,h2⟩ | ⟨h,h2⟩
     all_goals
      go_wp2_with fail
      all_goals (go_ret2;exact HF.out)
    ·have f1:=qt oc (n:=48) (by decide) nO
     have fin:wA i (qU (l.drop i)) w (.returned (.tuple #[.int .i64 (ke ds:Nat),.int .i64 ((i:Int)+(ds.length:Int))])) w:=by
      have si:¬ (ds=[]\/(1<ds.length/\(l.drop i).head? = some 48)):=by
       rintro (h | h)
       ·exact hdn h
       ·rw [hhd] at h;exact nO (Option.some.inj h.2)
      refine ⟨_,_,rfl,rfl,fun h=>?_,fun v c h=>?_⟩
      ·rw [HV,if_neg si] at h;simp at h
      ·rw [HV,if_neg si] at h;simp at h;exact ⟨h.1,by omega⟩
     have HF:=bc fin;clear fin HV hhd nO
     rcases mt with h | h | ⟨h,h2⟩ | ⟨h,h2⟩
     all_goals
      go_wp2_with fail
      all_goals (go_ret2;exact HF.out)
mutual
def kC:Bd->List DV
 | .leaf c=>[.val (str [c]),.val (.int .i64 (0:Nat)),.sl 64 4 0 [],.sl 64 4 0 []]
 | .ask v ss y n=>[.val (str []),.val (.int .i64 v),.sl 64 4 ss.length (zm ss),.sl 64 4 2 (kC y++(kC n++[]))]
def zm:List Bd->List DV
 | []=>[]
 | b::bs=>kC b++zm bs
end
theorem qS (b:Bd):(kC b).length=4:=by cases b <;> simp [kC]
theorem wY (bs:List Bd):(zm bs).length=bs.length*4:=by
 induction bs with
 | nil=>simp [zm]
 | cons b bs ih=>simp [zm,qS,ih];omega
theorem kr (a b:List Bd):zm (a++b)=zm a++zm b:=by
 induction a with
 | nil=>simp [zm]
 | cons t ts ih=>simp [zm,ih,List.append_assoc]
theorem wX (v:Nat) (ss:List Bd) (y n:Bd):kC (.ask v ss y n)=[.val (str []),.val (.int .i64 v),.sl 64 4 ss.length (zm ss),.sl 64 4 2 (zm [y,n])]:=by
 simp [kC,zm]
theorem Tryz.infoN:(Tryz.prog.info? 64).map (fun i=>(i.zero,i.size,i.bytes))=some (some (.agg #[str [],.int .i64 0,.slice none 0 0,.slice none 0 0]),4,72):=by kernel_rfl
def jP (L:Nat) (w:World) (o:Option (Bd×Bs)) (en:Ending) (w':World):Prop :=
 ∃ (s:Bs) (v:Int) (a2:Option Addr) (n2 k2:Nat) (a3:Option Addr) (n3 k3:Nat) (k:Int),en=.returned (.tuple #[.agg #[str s,.int .i64 v,.slice a2 n2 k2,.slice a3 n3 k3],.int .i64 k])/\Below w.heap.size w w'/\(o=none->k = -1) /\
   (∀ b rest,o=some (b,rest)->k=(L:Int)-rest.length/\zG (w.heap.size<=·) w' (kC b) [str s,.int .i64 v,.slice a2 n2 k2,.slice a3 n3 k3])
theorem jP.no {L:Nat} {w w':World} {o:Option (Bd×Bs)} (ho:o=none) (hb:Below w.heap.size w w') :
 jP L w o (.returned (.tuple #[.agg #[str [],.int .i64 0,.slice none 0 0,.slice none 0 0],.int .i64 (-1)])) w' :=
 ⟨[],0,none,0,0,none,0,0,_,rfl,hb,fun _=>rfl,fun _ _ h=>by rw [ho] at h;simp at h⟩
theorem jP.yes {L:Nat} {w w':World} {o:Option (Bd×Bs)} {b:Bd} {rest:Bs} {s:Bs} {v:Int} {a2:Option Addr} {n2 k2:Nat} {a3:Option Addr} {n3 k3:Nat} {k:Int} (ho:o=some (b,rest)) (hk:k=(L:Int)-rest.length) (hb:Below w.heap.size w w') (hv:zG (w.heap.size<=·) w' (kC b) [str s,.int .i64 v,.slice a2 n2 k2,.slice a3 n3 k3]) :
 jP L w o (.returned (.tuple #[.agg #[str s,.int .i64 v,.slice a2 n2 k2,.slice a3 n3 k3],.int .i64 k])) w' :=
 ⟨s,v,a2,n2,k2,a3,n3,k3,k,rfl,hb,fun h=>by rw [ho] at h;simp at h,fun _ _ h=>by rw [ho] at h;simp at h;obtain ⟨rfl,rfl⟩:=h;exact ⟨hk,hv⟩⟩
def NodeSaid (l:Bs) (e d:Nat):Prop:=∀ (F:Nat->Prop) (hand:List Ty) (hv:Value) (i:Nat) (w:World),i<=l.length->kd e hand ->
    Rep F w (.sl 61 1 hand.length (qz hand)) hv ->
    Calls Tryz.prog 64 #[str l,.int .i64 i,hv,.int .i64 d] w (jP l.length w (rdN e hand (l.drop i)))
theorem leaf_reps (F:Nat->Prop) (w:World) (c:UInt8):zG F w (kC (.leaf c)) [str [c],.int .i64 0,.slice none 0 0,.slice none 0 0]:=by
 have hz:Rep F w (.sl 64 4 0 []) (.slice none 0 0):=kP.2 ⟨rfl,none,0,rfl,br _,fun _=>rfl,.inl rfl⟩
 rw [kC]
 exact zJ.2 ⟨_,_,rfl,zI.2 rfl,zJ.2 ⟨_,_,rfl,zI.2 rfl,zJ.2 ⟨_,_,rfl,hz,zJ.2 ⟨_,_,rfl,hz,zC.2 rfl⟩⟩⟩⟩
theorem rdN_leaf (e:Nat) (hand:List Ty) {l:Bs} {i:Nat} (h:i<l.length) (hc:l[i]=116\/l[i]=102\/l[i]=117):rdN (e+1) hand (l.drop i)=some (.leaf l[i],l.drop (i+1)):=by
 rw [List.drop_eq_getElem_cons h,rdN];simp only [if_pos hc]
theorem rdN_other (e:Nat) (hand:List Ty) {l:Bs} {i:Nat} (h:i<l.length) (hc:¬ (l[i]=116\/l[i]=102\/l[i]=117)) (dq:¬ l[i]=40):rdN (e+1) hand (l.drop i)=none:=by
 rw [List.drop_eq_getElem_cons h,rdN];simp only [if_neg hc,if_pos dq]
theorem rdN_40 (e:Nat) (hand:List Ty) {l:Bs} {i:Nat} (h:i<l.length) (dq:l[i]=40):rdN (e+1) hand (l.drop i)=(match qU (l.drop (i+1)) with
 | none=>none
 | some (v,k)=>match hand[v]? with
   | none=>none
   | some t=>do
     let (ps,l1)<-zY (rdN e) (kR hand t) ((l.drop (i+1)).drop k)
     let l2<-cut [41] l1
     let b<-yX v t.args.length ps
     some (b,l2)):=by
 rw [List.drop_eq_getElem_cons h,rdN]
 rw [if_neg (by rw [dq];decide),if_neg (by simpa using dq)]
 try rfl
theorem wK (l:Bs) (hl:Lim l.length) (e d:Nat) (o4:e+d=101) (F:Nat->Prop) (hand:List Ty) (hv:Value) (i:Nat) (w:World) (hi:i<=l.length)
 (hr:Rep F w (.sl 61 1 hand.length (qz hand)) hv) (f7:∀ h:i<l.length,e=0\/¬ l[i]=40) :
 Calls Tryz.prog 64 #[str l,.int .i64 i,hv,.int .i64 d] w (jP l.length w (rdN e hand (l.drop i))):=by
 have eS:=hl.le
 obtain ⟨a0,c0,e0,_⟩:=zF hr
 subst e0
 rcases e with _ | e
 ·have hd1:(100:Int)<(d:Int):=by omega
  clear f7
  go_enter Tryz.func64,Tryz.ntmps64
  go_wp2_with fail
  refine bodyPost_ret (v:=.tuple #[.agg #[str [],.int .i64 0,.slice none 0 0,.slice none 0 0],.int .i64 (-1)]) (by simp [results,Tryz.results64,go_sem]) rfl ?_
  exact jP.no (by rfl) (by repeat (first | exact bi _ _ | refine Below.alloc ?_ (br _) _ | refine Below.setCell ?_ (by simp) _))
 have si:¬ (100:Int)<(d:Int):=by omega
 by_cases cZ:i<l.length
 rotate_left
 ·clear f7
  go_enter Tryz.func64,Tryz.ntmps64
  go_wp2_with fail
  refine bodyPost_ret (v:=.tuple #[.agg #[str [],.int .i64 0,.slice none 0 0,.slice none 0 0],.int .i64 (-1)]) (by simp [results,Tryz.results64,go_sem]) rfl ?_
  exact jP.no (by rw [List.drop_eq_nil_of_le (by omega)];rfl) (by repeat (first | exact bi _ _ | refine Below.alloc ?_ (br _) _ | refine Below.setCell ?_ (by simp) _))
 have dq:¬ l[i]=40:=(f7 cZ).resolve_left (by omega)
 clear f7
 by_cases iT:l[i]=116\/l[i]=102\/l[i]=117
 ·have HM:=bc (rdN_leaf e hand cZ iT)
  have hx:((⟨l.toArray⟩:ByteArray).extract i (i+1))=⟨#[l[i]]⟩:=by
   rw [vB];congr 1
   rw [List.drop_take,List.drop_eq_getElem_cons cZ,show i+1-i=1 from by omega];rfl
  have HX:=bc hx;clear hx
  have fin:∀ w':World,Below w.heap.size w w'->jP l.length w (rdN (e+1) hand (l.drop i)) (.returned (.tuple #[.agg #[.string ((⟨l.toArray⟩:ByteArray).extract i (i+1)),.int .i64 0,.slice none 0 0,.slice none 0 0],.int .i64 ((i:Int)+1)])) w':=by
   intro w' hb
   rw [HX.out]
   exact jP.yes (s:=[l[i]]) HM.out (by simp;omega) hb (leaf_reps _ _ _)
  have FIN:=bc fin;clear fin
  have key:((((⟨l.toArray⟩:ByteArray)[i]'(k9 cZ)).toNat:Int) == 116)=true\/((((((⟨l.toArray⟩:ByteArray)[i]'(k9 cZ)).toNat:Int) == 116)=false/\((((⟨l.toArray⟩:ByteArray)[i]'(k9 cZ)).toNat:Int) == 102)=true))\/((((((⟨l.toArray⟩:ByteArray)[i]'(k9 cZ)).toNat:Int) == 116)=false/\((((⟨l.toArray⟩:ByteArray)[i]'(k9 cZ)).toNat:Int) == 102)=false/\((((⟨l.toArray⟩:ByteArray)[i]'(k9 cZ)).toNat:Int) == 117)=true)):=by
   rcases iT with h | h | h
   ·exact .inl (j7 cZ (n:=116) (by decide) h)
   ·exact .inr (.inl ⟨qt cZ (c:=116) (n:=116) (by decide) (by rw [h];decide),j7 cZ (n:=102) (by decide) h⟩)
   ·exact .inr (.inr ⟨qt cZ (c:=116) (n:=116) (by decide) (by rw [h];decide),qt cZ (c:=102) (n:=102) (by decide) (by rw [h];decide),j7 cZ (n:=117) (by decide) h⟩)
  clear iT dq HM HX
  rcases key with f1 | ⟨f1,f2⟩ | ⟨f1,f2,f3⟩
  all_goals
   go_enter Tryz.func64,Tryz.ntmps64
   go_wp2_with fail
   refine bodyPost_ret (v:=.tuple #[.agg #[.string ((⟨l.toArray⟩:ByteArray).extract i (i+1)),.int .i64 0,.slice none 0 0,.slice none 0 0],.int .i64 ((i:Int)+1)]) (by simp [results,Tryz.results64,go_sem]) rfl ?_
   exact FIN.out _ (by repeat (first | exact bi _ _ | refine Below.alloc ?_ (br _) _ | refine Below.setCell ?_ (by simp) _))
 have HM:=bc (rdN_other e hand cZ iT dq)
 have f1:=qt cZ (n:=116) (by decide) (fun h=>iT (.inl h))
 have f2:=qt cZ (n:=102) (by decide) (fun h=>iT (.inr (.inl h)))
 have f3:=qt cZ (n:=117) (by decide) (fun h=>iT (.inr (.inr h)))
 have f4:=yp cZ (n:=40) (by decide) dq
 clear iT dq
 go_enter Tryz.func64,Tryz.ntmps64
 go_wp2_with fail
 refine bodyPost_ret (v:=.tuple #[.agg #[str [],.int .i64 0,.slice none 0 0,.slice none 0 0],.int .i64 (-1)]) (by simp [results,Tryz.results64,go_sem]) rfl ?_
 exact jP.no HM.out (by repeat (first | exact bi _ _ | refine Below.alloc ?_ (br _) _ | refine Below.setCell ?_ (by simp) _))
def kY (ob:Nat) (v:Int) (kslv yslv:Value) (w:World):Prop:=w.heap[ob]? = some (.cells #[str [],.int .i64 v,kslv,yslv] 64 (0,0))
theorem kY.cells {ob:Nat} {v:Int} {ks ys:Value} {w:World} (h:kY ob v ks ys w):w.cell? ⟨ob,0,none⟩=some (str [])/\w.cell? ⟨ob,1,none⟩=some (.int .i64 v)/\w.cell? ⟨ob,2,none⟩=some ks/\w.cell? ⟨ob,3,none⟩=some ys/\ob<w.heap.size/\(∀ o,w.frozen? ⟨ob,o,none⟩=false):=by
 have hl:=zZ h
 unfold kY at h
 exact ⟨by simp [World.cell?,h],by simp [World.cell?,h],by simp [World.cell?,h],by simp [World.cell?,h],hl,fun o=>by simp [World.frozen?,h]⟩
theorem kY.put2 {ob:Nat} {v:Int} {ks ys u:Value} {w:World} (h:kY ob v ks ys w):kY ob v u ys (w.setCell ⟨ob,2,none⟩ u):=by
 unfold kY;rw [zO h];rfl
theorem kY.put3 {ob:Nat} {v:Int} {ks ys u:Value} {w:World} (h:kY ob v ks ys w):kY ob v ks u (w.setCell ⟨ob,3,none⟩ u):=by
 unfold kY;rw [zO h];rfl
theorem kY.but {ob:Nat} {v:Int} {ks ys:Value} {m:Nat->Prop} {w w':World} (h:kY ob v ks ys w) (hb:But m w w') (hm:¬ m ob):kY ob v ks ys w':=by
 unfold kY;rw [hb.block ob (zZ h) hm];exact h
theorem kY.below {ob:Nat} {v:Int} {ks ys:Value} {w w':World} {B:Nat} (h:kY ob v ks ys w) (hb:Below B w w') (hm:ob<B):kY ob v ks ys w':=by
 unfold kY;rw [hb.block ob hm];exact h
theorem kY.store {ob:Nat} {v:Int} {ks ys:Value} {w:World} (h:kY ob v ks ys w) (u0 u1 u2 u3:Value) :
 ∃ W,W=((((w.setCell ⟨ob,0,none⟩ u0).setCell ⟨ob,1,none⟩ u1).setCell ⟨ob,2,none⟩ u2).setCell ⟨ob,3,none⟩ u3) /\
   W.cell? ⟨ob,0,none⟩=some u0/\W.cell? ⟨ob,1,none⟩=some u1/\W.cell? ⟨ob,2,none⟩=some u2/\W.cell? ⟨ob,3,none⟩=some u3 /\
   (∀ B w0,Below B w0 w->B<=ob->Below B w0 W)/\(∀ i x,i≠ob->w.heap[i]? = some x->W.heap[i]? = some x):=by
 have hc:((((w.setCell ⟨ob,0,none⟩ u0).setCell ⟨ob,1,none⟩ u1).setCell ⟨ob,2,none⟩ u2).setCell ⟨ob,3,none⟩ u3).heap[ob]? = some (.cells #[u0,u1,u2,u3] 64 (0,0)):=by
  unfold kY at h
  rw [zO (zO (zO (zO h)))];rfl
 refine ⟨_,rfl,by simp only [World.cell?,hc];rfl,by simp only [World.cell?,hc];rfl,by simp only [World.cell?,hc];rfl,by simp only [World.cell?,hc];rfl,fun B w0 hb hB=>?_,fun i x hi hx=>?_⟩
 ·exact ((((hb.setCell (p:=⟨ob,0,none⟩) hB _).setCell (p:=⟨ob,1,none⟩) hB _).setCell (p:=⟨ob,2,none⟩) hB _).setCell (p:=⟨ob,3,none⟩) hB _)
 ·rw [b5 _ _ _ _ (by simpa using hi),b5 _ _ _ _ (by simpa using hi),b5 _ _ _ _ (by simpa using hi),b5 _ _ _ _ (by simpa using hi)];exact hx
structure xy (l:Bs) (w:World) (rd:RdS) (hs:List (List Ty)) (n i0 ob Z v:Nat) (k en:Nat) (wr:World) (ps:List Bd) (kv yv:List Value) (ks:Value) (nk:Nat) (ys:Value) (ny:Nat):Prop where
 hnk:nk=min k n
 hny:ny=k-n
 ksl:∃ a c,ks=.slice a nk c
 ysl:∃ a c,ys=.slice a ny c
 spec:zY rd (hs.take k) (l.drop i0)=some (ps,l.drop en)
 len:ps.length=k
 en:en<=l.length
 below:Below w.heap.size w wr
 res:kY w.heap.size 0 (.slice none 0 0) (.slice none 0 0) wr
 out:kY ob v ks ys wr
 ownK:Own wr 64 4 ks nk kv
 ownY:Own wr 64 4 ys ny yv
 blkK:∀ g,ks.ownBlock=some g->Z<=g/\ys.ownBlock≠some g
 blkY:∀ g,ys.ownBlock=some g->Z<=g
 repK:zG (fun b=>Z<=b/\ks.ownBlock≠some b/\ys.ownBlock≠some b) wr (zm (ps.take n)) kv
 repY:zG (fun b=>Z<=b/\ks.ownBlock≠some b/\ys.ownBlock≠some b) wr (zm (ps.drop n)) yv
 z:Z<=wr.heap.size
theorem xy.kid {l:Bs} {w:World} {rd:RdS} {hs:List (List Ty)} {n i0 ob Z v k en:Nat} {wr:World} {ps:List Bd} {kv yv:List Value} {ks ys:Value} {nk ny:Nat}
 (h:xy l w rd hs n i0 ob Z v k en wr ps kv yv ks nk ys ny) (hk:k<n) (rc:ob<Z) (Az:w.heap.size<ob) {W w7:World} {b:Bd} {cs:List Value} {a':Option Addr} {c' mM:Nat}
 (cW:Below wr.heap.size wr W) (hcs:zG (wr.heap.size<=·) W (kC b) cs) (cV:Own w7 64 4 (.slice a' (nk+1) c') (nk+1) (kv++cs)) (cJ:But (fun i=>ks.ownBlock=some i) W w7)
 (cB:∀ g,(Value.slice a' (nk+1) c').ownBlock=some g->ks.ownBlock=some g\/g=W.heap.size)
 (sC:zY rd (hs.take (k+1)) (l.drop i0)=some (ps++[b],l.drop mM)) (lu:mM<=l.length) :
 xy l w rd hs n i0 ob Z v (k+1) mM (w7.setCell ⟨ob,2,none⟩ (.slice a' (nk+1) c')) (ps++[b]) (kv++cs) yv (.slice a' (nk+1) c') (nk+1) ys ny:=by
 have z6:=cW.size
 have z7:=cJ.size
 have zr:=h.z
 have b_:=h.len
 have keep:∀ i x,wr.heap[i]? = some x->ks.ownBlock≠some i->i≠ob->(w7.setCell ⟨ob,2,none⟩ (.slice a' (nk+1) c')).heap[i]? = some x:=by
  intro i x hx h1 h2
  have:=zZ hx
  rw [b5 _ _ _ _ (by simpa using h2),cJ.block i (by omega) h1,cW.block i this];exact hx
 have dJ:∀ i x,W.heap[i]? = some x->ks.ownBlock≠some i->i≠ob->(w7.setCell ⟨ob,2,none⟩ (.slice a' (nk+1) c')).heap[i]? = some x:=by
  intro i x hx h1 h2
  have:=zZ hx
  rw [b5 _ _ _ _ (by simpa using h2),cJ.block i (by omega) h1];exact hx
 have ltK:∀ g,ks.ownBlock=some g->g<wr.heap.size:=fun g hg=>h.ownK.lt hg
 have ltY:∀ g,ys.ownBlock=some g->g<wr.heap.size:=fun g hg=>h.ownY.lt hg
 have nK:∀ i,i<Z->ks.ownBlock≠some i:=fun i hi e=>by have:=(h.blkK i e).1;omega
 have newg:∀ g,(Value.slice a' (nk+1) c').ownBlock=some g->Z<=g:=fun g hg=>by
  rcases cB g hg with e | e
  ·exact (h.blkK g e).1
  ·omega
 refine ⟨by rw [h.hnk];omega,by rw [h.hny];omega,⟨_,_,rfl⟩,h.ysl,sC,by simp [b_],lu,?_,?_,?_,?_,?_,?_,h.blkY,?_,?_,by simp [World.setCell];omega⟩
 ·refine Below.setCell ?_ (show w.heap.size<=ob by omega) _
  exact (zzT h.below cW).trans (cJ.toBelow (by have:=h.below.size;omega) fun i hi e=>nK i (by omega) e)
 ·exact keep _ _ h.res (nK _ (by omega)) (by omega)
 ·have h1:kY ob v ks ys w7:=by
   unfold kY;rw [cJ.block ob (by omega) (nK _ rc),cW.block ob (by omega)];exact h.out
  exact h1.put2
 ·exact cV.keep fun g o hg ho=>by rw [b5 _ _ _ _ (by have:=newg g hg;simp;omega)];exact ho
 ·exact h.ownY.keep fun g o hg ho=>keep g o ho (fun e=>(h.blkK g e).2 hg) (by have:=h.blkY g hg;omega)
 ·intro g hg
  refine ⟨newg g hg,fun e=>?_⟩
  rcases cB g hg with e' | e'
  ·exact (h.blkK g e').2 e
  ·have:=ltY g e;omega
 ·rw [List.take_of_length_le (by simp;omega),kr]
  have h1:=h.repK
  rw [List.take_of_length_le (by omega)] at h1
  refine zG.append ((Rep.keep fun i x hi hx=>⟨⟨hi.1,fun e=>(cB i e).elim (fun e'=>hi.2.1 e') (fun e'=>by have:=zZ hx;omega),hi.2.2⟩,keep i x hx hi.2.1 (by have:=hi.1;omega)⟩).2 _ _ h1) ?_
  ·have e1:zm [b]=kC b:=by simp [zm]
   rw [e1]
   refine (Rep.keep fun i x hi hx=>?_).2 _ _ hcs
   have h2:=zZ hx
   have h3:wr.heap.size<=i:=hi
   refine ⟨⟨by omega,fun e=>?_,fun e=>by have:=ltY i e;omega⟩,dJ i x hx (fun e=>by have:=ltK i e;omega) (by omega)⟩
   rcases cB i e with e' | e'
   ·have:=ltK i e';omega
   ·omega
 ·have h1:=h.repY
  rw [List.drop_eq_nil_of_le (by omega)] at h1
  rw [List.drop_eq_nil_of_le (by simp;omega)]
  have:yv=[]:=by simpa [zm,zC] using h1
  subst this;exact zC.2 rfl
theorem xy.yes {l:Bs} {w:World} {rd:RdS} {hs:List (List Ty)} {n i0 ob Z v k en:Nat} {wr:World} {ps:List Bd} {kv yv:List Value} {ks ys:Value} {nk ny:Nat}
 (h:xy l w rd hs n i0 ob Z v k en wr ps kv yv ks nk ys ny) (hk:n<=k) (rc:ob<Z) (Az:w.heap.size<ob) {W w7:World} {b:Bd} {cs:List Value} {a':Option Addr} {c' mM:Nat}
 (cW:Below wr.heap.size wr W) (hcs:zG (wr.heap.size<=·) W (kC b) cs) (cV:Own w7 64 4 (.slice a' (ny+1) c') (ny+1) (yv++cs)) (cJ:But (fun i=>ys.ownBlock=some i) W w7)
 (cB:∀ g,(Value.slice a' (ny+1) c').ownBlock=some g->ys.ownBlock=some g\/g=W.heap.size)
 (sC:zY rd (hs.take (k+1)) (l.drop i0)=some (ps++[b],l.drop mM)) (lu:mM<=l.length) :
 xy l w rd hs n i0 ob Z v (k+1) mM (w7.setCell ⟨ob,3,none⟩ (.slice a' (ny+1) c')) (ps++[b]) kv (yv++cs) ks nk (.slice a' (ny+1) c') (ny+1):=by
 have z6:=cW.size
 have z7:=cJ.size
 have zr:=h.z
 have b_:=h.len
 have keep:∀ i x,wr.heap[i]? = some x->ys.ownBlock≠some i->i≠ob->(w7.setCell ⟨ob,3,none⟩ (.slice a' (ny+1) c')).heap[i]? = some x:=by
  intro i x hx h1 h2
  have:=zZ hx
  rw [b5 _ _ _ _ (by simpa using h2),cJ.block i (by omega) h1,cW.block i this];exact hx
 have dJ:∀ i x,W.heap[i]? = some x->ys.ownBlock≠some i->i≠ob->(w7.setCell ⟨ob,3,none⟩ (.slice a' (ny+1) c')).heap[i]? = some x:=by
  intro i x hx h1 h2
  have:=zZ hx
  rw [b5 _ _ _ _ (by simpa using h2),cJ.block i (by omega) h1];exact hx
 have ltK:∀ g,ks.ownBlock=some g->g<wr.heap.size:=fun g hg=>h.ownK.lt hg
 have ltY:∀ g,ys.ownBlock=some g->g<wr.heap.size:=fun g hg=>h.ownY.lt hg
 have nY:∀ i,i<Z->ys.ownBlock≠some i:=fun i hi e=>by have:=h.blkY i e;omega
 have newg:∀ g,(Value.slice a' (ny+1) c').ownBlock=some g->Z<=g:=fun g hg=>by
  rcases cB g hg with e | e
  ·exact h.blkY g e
  ·omega
 refine ⟨by rw [h.hnk];omega,by rw [h.hny];omega,h.ksl,⟨_,_,rfl⟩,sC,by simp [b_],lu,?_,?_,?_,?_,?_,?_,newg,?_,?_,by simp [World.setCell];omega⟩
 ·refine Below.setCell ?_ (show w.heap.size<=ob by omega) _
  exact (zzT h.below cW).trans (cJ.toBelow (by have:=h.below.size;omega) fun i hi e=>nY i (by omega) e)
 ·exact keep _ _ h.res (nY _ (by omega)) (by omega)
 ·have h1:kY ob v ks ys w7:=by
   unfold kY;rw [cJ.block ob (by omega) (nY _ rc),cW.block ob (by omega)];exact h.out
  exact h1.put3
 ·exact h.ownK.keep fun g o hg ho=>keep g o ho (h.blkK g hg).2 (by have:=(h.blkK g hg).1;omega)
 ·exact cV.keep fun g o hg ho=>by rw [b5 _ _ _ _ (by have:=newg g hg;simp;omega)];exact ho
 ·intro g hg
  refine ⟨(h.blkK g hg).1,fun e=>?_⟩
  rcases cB g e with e' | e'
  ·exact (h.blkK g hg).2 e'
  ·have:=ltK g hg;omega
 ·rw [List.take_append_of_le_length (by omega)]
  refine (Rep.keep fun i x hi hx=>⟨⟨hi.1,hi.2.1,fun e=>?_⟩,keep i x hx hi.2.2 (by have:=hi.1;omega)⟩).2 _ _ h.repK
  rcases cB i e with e' | e'
  ·exact hi.2.2 e'
  ·have:=zZ hx;omega
 ·rw [List.drop_append_of_le_length (by omega),kr]
  refine zG.append ((Rep.keep fun i x hi hx=>⟨⟨hi.1,hi.2.1,fun e=>(cB i e).elim (fun e'=>hi.2.2 e') (fun e'=>by have:=zZ hx;omega)⟩,keep i x hx hi.2.2 (by have:=hi.1;omega)⟩).2 _ _ h.repY) ?_
  ·have e1:zm [b]=kC b:=by simp [zm]
   rw [e1]
   refine (Rep.keep fun i x hi hx=>?_).2 _ _ hcs
   have h2:=zZ hx
   have h3:wr.heap.size<=i:=hi
   refine ⟨⟨by omega,fun e=>by have:=ltK i e;omega,fun e=>?_⟩,dJ i x hx (fun e=>by have:=ltY i e;omega) (by omega)⟩
   rcases cB i e with e' | e'
   ·have:=ltY i e';omega
   ·omega
theorem zM.lit4 {w:World} {e:TypeId} (cs:Array Value) (hn:cs.size=4) (hc:∀ u∈cs.toList,u.oneCell'=true) (g:Nat) (hg:g=w.heap.size):zM 4 (.slice (some ⟨g,0,none⟩) 1 1) 1 cs.toList (w.alloc (.cells cs e)):=by
 subst hg
 refine ⟨by simp [hn],hc,.inl ⟨_,_,rfl,fun j u hu=>?_⟩⟩
 unfold Addr.add
 split
 ·subst j;simp;simpa using hu
 ·simp;simpa using hu
def NodeRel (l:Bs) (w:World) (rd:RdS) (hs:List (List Ty)) (n i0 ob Z v:Nat) (k en:Nat) (wr:World):Prop :=
 ∃ ps kv yv ks nk ys ny,xy l w rd hs n i0 ob Z v k en wr ps kv yv ks nk ys ny
set_option maxRecDepth 100000 in
theorem l3Read_ask (l:Bs) (hl:Lim l.length) (e d:Nat) (o4:e+1+d=101) (ih:NodeSaid l e (d+1)) (F:Nat->Prop) (hand:List Ty) (hv:Value) (i:Nat) (w:World) (hi:i<l.length) (hh:kd (e+1) hand)
 (hr:Rep F w (.sl 61 1 hand.length (qz hand)) hv) (dq:l[i]=40) :
 Calls Tryz.prog 64 #[str l,.int .i64 i,hv,.int .i64 d] w (jP l.length w (rdN (e+1) hand (l.drop i))):=by
 have eS:=hl.le
 have IH:=bc ih;clear ih
 have b_:hand.length<=10000:=by have:=hh.2;omega
 have si:¬ (100:Int)<(d:Int):=by omega
 have HM:=bc (rdN_40 e hand hi dq)
 have f1:=qt hi (c:=116) (n:=116) (by decide) (by rw [dq];decide)
 have f2:=qt hi (c:=102) (n:=102) (by decide) (by rw [dq];decide)
 have f3:=qt hi (c:=117) (n:=117) (by decide) (by rw [dq];decide)
 have f4:=uA hi (n:=40) (by decide) dq
 clear dq
 obtain ⟨a0,k0,ehv,_,_,hat⟩:=zF hr
 subst ehv
 have cv:=bc hat;clear hat
 go_enter Tryz.func64,Tryz.ntmps64
 go_wp2_with fail
 rw [show (i:Int)+1=((i+1:Nat):Int) from by omega]
 refine (l3Number_any l hl (i+1) hi _).mono ?_
 rintro en w1 ⟨v,k1,rfl,ew,cT,dH⟩
 obtain rfl:=ew
 cases hq:qU (l.drop (i+1)) with
 | none =>
   obtain rfl:=cT hq
   have hm:rdN (e+1) hand (l.drop i)=none:=by rw [HM.out,hq]
   have HM:=bc hm;clear hm hq cT dH
   go_wp2_with fail
   refine bodyPost_ret (v:=.tuple #[.agg #[str [],.int .i64 0,.slice none 0 0,.slice none 0 0],.int .i64 (-1)]) (by simp [results,Tryz.results64,go_sem]) rfl ?_
   exact jP.no HM.out (by repeat (first | exact bi _ _ | refine Below.alloc ?_ (br _) _ | refine Below.setCell ?_ (by simp) _))
 | some x =>
 obtain ⟨v',c⟩:=x
 obtain ⟨rfl,rfl⟩:=dH _ _ hq
 have fK:i+1+c<=l.length/\v<=9999:=by
  unfold qU at hq
  split at hq
  ·simp at hq
  ·simp at hq
   obtain ⟨e1,e2⟩:=hq
   have h1:=y7 (l.drop (i+1))
   have h2:=valOf_lt (z9 (l.drop (i+1))) (jm _)
   have h3:10 ^ (z9 (l.drop (i+1))).length<=10 ^ 4:=Nat.pow_le_pow_right (by omega) h1.1
   simp at h1;omega
 obtain ⟨fK,hv9⟩:=fK
 have HQ:=bc hq;clear hq cT dH
 by_cases fS:v<hand.length
 rotate_left
 ·have hm:rdN (e+1) hand (l.drop i)=none:=by
   rw [HM.out,HQ.out];simp only
   rw [List.getElem?_eq_none (by omega)]
  have HM:=bc hm;clear hm
  go_wp2_with fail
  refine bodyPost_ret (v:=.tuple #[.agg #[str [],.int .i64 0,.slice none 0 0,.slice none 0 0],.int .i64 (-1)]) (by simp [results,Tryz.results64,go_sem]) rfl ?_
  exact jP.no HM.out (by repeat (first | exact bi _ _ | refine Below.alloc ?_ (br _) _ | refine Below.setCell ?_ (by simp) _))
 obtain ⟨bl,ol,u,dv,ea,hFl,db,aR,BY,mP⟩:=cv.out v fS
 rw [jv,Option.map_eq_some_iff] at aR
 obtain ⟨t,ht,rfl⟩:=aR
 obtain ⟨sa,ks,rfl⟩:=zl mP
 have nC:=mP
 rw [qY] at nC
 obtain ⟨_,_,est,_,_,dV⟩:=zF nC
 simp only [Value.slice.injEq] at est
 obtain ⟨rfl,_,rfl⟩:=est
 subst ea
 have HT:=bc ht;have tF:=bc dV
 have hm : rdN (e+1) hand (l.drop i)=(do
         let (ps,l1)<-zY (rdN e) (kR hand t) ((l.drop (i+1)).drop c)
         let l2<-cut [41] l1
         let b<-yX v t.args.length ps
         some (b,l2)):=by rw [HM.out,HQ.out];simp only [ht]
 rw [List.drop_drop] at hm
 have HM:=bc hm
 have t6:t.args.length<=15:=by
  have h1:=hh.1 t (List.mem_of_getElem? ht)
  have h2:=zp t
  have:=zc t.args;omega
 clear hm ht dV nC
 have gv:decide (hand.length<=v)=false:=by rw [decide_eq_false_iff_not];omega
 have gi:decide ((i:Int)+1+(c:Int)<0)=false:=by rw [decide_eq_false_iff_not];omega
 go_wp2_with fail
 have di:NodeRel l w (rdN e) (kR hand t) t.args.length (i+1+c) (w.heap.size+1) (w.heap.size+2) v 0 (i+1+c)
  ((w.alloc (.cells #[str [],.int .i64 0,.slice none 0 0,.slice none 0 0] 64)).alloc (.cells #[str [],.int .i64 v,.slice none 0 0,.slice none 0 0] 64)):=by
  refine ⟨[],[],[],.slice none 0 0,0,.slice none 0 0,0,by simp,by simp,⟨_,_,rfl⟩,⟨_,_,rfl⟩,by simp [zY],rfl,fK,((bi _ _).alloc (br _) _).alloc (by simp) _,?_,?_,World.ownsRow_nil _ _ _ _,World.ownsRow_nil _ _ _ _,fun g h=>by simp [Value.ownBlock] at h,fun g h=>by simp [Value.ownBlock] at h,by rw [List.take_nil];exact zC.2 rfl,by rw [List.drop_nil];exact zC.2 rfl,by simp⟩
  ·exact zX (zS _ _)
  ·have:=zS (w.alloc (.cells #[str [],.int .i64 0,.slice none 0 0,.slice none 0 0] 64)) (.cells #[str [],.int .i64 v,.slice none 0 0,.slice none 0 0] 64)
   rw [zK] at this;exact this
 generalize hI0:i+1+c=i0 at *
 rw [show (i:Int)+1+(c:Int)=(i0:Int) from by omega]
 have HI0:=bc hI0;clear hI0
 go_loopw [11,14] (fun a b wr=>∃ k en:Nat,k<=t.args.length+2/\a=.int .i64 en/\b=.int .i64 k/\NodeRel l w (rdN e) (kR hand t) t.args.length i0 (w.heap.size+1) (w.heap.size+2) v k en wr)
  (fun _ b _=>t.args.length+2-(intOf b).toNat)
 case atStart=>exact ⟨0,i0,Nat.zero_le _,rfl,rfl,di⟩
 case round =>
  clear di
  rename_i wr
  obtain ⟨k,en,hk,rfl,rfl,hrel⟩:=hrel
  obtain ⟨ps,kv,yv,ks,nk,ys,ny,hrel⟩:=hrel
  have rr:=hrel.res;have f7:=hrel.out;have hb:=hrel.below;have tj:=hrel.en;have zr:=hrel.z
  have HP:=bc hrel.spec
  have nkl:nk<=17:=by have:=hrel.hnk;omega
  have nyl:ny<=2:=by have:=hrel.hny;omega
  obtain ⟨ka,kc,eks⟩:=hrel.ksl
  obtain ⟨ya,yc,eys⟩:=hrel.ysl
  subst eks;subst eys
  have HR:=bc hrel;clear hrel
  obtain ⟨r0,r1,r2,r3,rl,rf⟩:=rr.cells
  obtain ⟨q0,q1,q2,q3,ql,qf⟩:=f7.cells
  have tr:=rf 0;have oF:=rf 1;have oE:=rf 2;have oD:=rf 3;clear rf
  have tt:=qf 2;have a_:=qf 3;clear qf
  by_cases cZ:k<t.args.length+2
  ·have dd:(k:Int)<(t.args.length:Int)+2:=by omega
   by_cases ah:∃ h:en<l.length,l[en]=32
   rotate_left
   ·have hm:rdN (e+1) hand (l.drop i)=none:=by
     have hs:=vT (rd:=rdN e) (show (kR hand t)[k]? = some _ from List.getElem?_eq_getElem (by rw [vY];exact cZ)) HP.out
     have hc:cut [32] (l.drop en)=none:=by
      by_cases h:en<l.length
      ·rw [jl h,if_neg (fun h'=>ah ⟨h,h'⟩)]
      ·exact y9 (by omega)
     rw [HM.out,q_ (k+1) (by rw [hs];simp [kZ,hc])];rfl
    have HM:=bc hm;clear hm
    have dG:(l.length<=en)\/∃ h:en<l.length,((((⟨l.toArray⟩:ByteArray)[en]'(k9 h)).toNat:Int) != 32)=true:=by
     by_cases h:en<l.length
     ·exact .inr ⟨h,yp h (n:=32) (by decide) (fun h'=>ah ⟨h,h'⟩)⟩
     ·exact .inl (by omega)
    clear ah
    rcases dG with h | ⟨h,f5⟩
    ·have g1:(l.length:Int)<=(en:Int):=by omega
     go_wp2_with fail
     obtain ⟨W,hW,s0,s1,s2,s3,cK,_⟩:=rr.store (.string ⟨#[]⟩) (.int .i64 0) (.slice none 0 0) (.slice none 0 0)
     rw [<- hW]
     refine bodyPost_ret (v:=.tuple #[.agg #[str [],.int .i64 0,.slice none 0 0,.slice none 0 0],.int .i64 (-1)]) (by simp [results,Tryz.results64,go_sem,s0,s1,s2,s3]) rfl ?_
     exact jP.no HM.out (cK _ _ hb (br _))
    ·go_wp2_with fail
     obtain ⟨W,hW,s0,s1,s2,s3,cK,_⟩:=rr.store (.string ⟨#[]⟩) (.int .i64 0) (.slice none 0 0) (.slice none 0 0)
     rw [<- hW]
     refine bodyPost_ret (v:=.tuple #[.agg #[str [],.int .i64 0,.slice none 0 0,.slice none 0 0],.int .i64 (-1)]) (by simp [results,Tryz.results64,go_sem,s0,s1,s2,s3]) rfl ?_
     exact jP.no HM.out (cK _ _ hb (br _))
   obtain ⟨mK,ah⟩:=ah
   have f5:=uA mK (n:=32) (by decide) ah
   have g1:decide ((en:Int)<0)=false:=by rw [decide_eq_false_iff_not];omega
   have g2:decide (l.length<=en)=false:=by rw [decide_eq_false_iff_not];omega
   have HC:Hid (cut [32] (l.drop en)=some (l.drop (en+1))):=by show cut [32] (l.drop en)=_;rw [jl mK,if_pos ah]
   clear ah
   by_cases aB:k<t.args.length
   ·have lT:(k:Int)<(t.args.length:Int):=by omega
    obtain ⟨ba,oa,uk,dk,esa,hFa,hba,n5,rL,mG⟩:=tF.out k aB
    subst esa
    rw [jv,Option.map_eq_some_iff] at n5
    obtain ⟨tk,dI,rfl⟩:=n5
    obtain ⟨ua,uc,rfl⟩:=zl mG
    have e1:wr.cell? ⟨ba,oa+k,none⟩=some (.slice ua tk.args.length uc):=by rw [hb.cell hba];exact rL
    have sF:=Rep.below (F':=F) hb (fun _ h=>h) mG
    have fl:=Rep.below (F':=F) hb (fun _ h=>h) hr
    have iz:kd e (hand++tk.args):=hh.next HT.out (List.mem_of_getElem? dI)
    have iR:Lim (hand.length+tk.args.length):=by have:=iz.2;simp at this;show _<=_;omega
    have HS:=bc (vT (rd:=rdN e) (allHands_kid (hand:=hand) dI) HP.out)
    clear dI rL mG
    go_wp2_with fail
    refine (hU F hand tk _ _ wr fl sF iR).mono ?_
    rintro en5 w5 ⟨a5,c5,rfl,cF,fi⟩
    have z5:=cF.size
    have HR5:=bc fi;clear fi fl sF iR
    have Q:=bc (bm rr (bm f7 (bm hb cF)))
    have rl5:w.heap.size<w5.heap.size:=by omega
    have oM:w.heap.size+1<w5.heap.size:=by omega
    go_wp2_with fail
    rw [show (en:Int)+1=((en+1:Nat):Int) from by omega,show (d:Int)+1=((d+1:Nat):Int) from by omega,<- List.length_append]
    refine (IH.out (fun k=>F k\/wr.heap.size<=k) (hand++tk.args) _ (en+1) w5 mK iz (by rw [List.length_append] at HR5 ⊢;exact HR5.out)).mono ?_
    rintro en6 w6 ⟨s6,v6,a2,n2,k2,a3,n3,k3,k6,rfl,cW,nf,sU⟩
    rw [List.length_append]
    obtain ⟨rr,f7,hb,cF⟩:=Q.out
    have z6:=cW.size
    have fF:=cF.trans (cW.mono z5)
    have nD:=rr.below fF rl
    have nE:=f7.below fF ql
    have s8:=zzT hb fF
    obtain ⟨r0,r1,r2,r3,rl6,rf⟩:=nD.cells
    obtain ⟨q0,q1,q2,q3,Ao,qf⟩:=nE.cells
    have tr:=rf 0;have oF:=rf 1;have oE:=rf 2;have oD:=rf 3;clear rf
    have tt:=qf 2;have a_:=qf 3;clear qf
    have Q2:=bc (bm fF (bm nD nE));clear cF hb rr f7 fF nD nE cW Q
    cases hq:rdN e (hand++tk.args) (l.drop (en+1)) with
    | none =>
      obtain rfl:=nf hq
      have hm:rdN (e+1) hand (l.drop i)=none:=by
       rw [HM.out,q_ (k+1) (by rw [HS.out];simp [kZ,HC.out,hq])];rfl
      have HM:=bc hm;clear hm hq nf sU
      go_wp2_with fail
      obtain ⟨W,hW,s0,s1,s2,s3,cK,_⟩:=Q2.out.2.1.store (.string ⟨#[]⟩) (.int .i64 0) (.slice none 0 0) (.slice none 0 0)
      rw [<- hW]
      refine bodyPost_ret (v:=.tuple #[.agg #[str [],.int .i64 0,.slice none 0 0,.slice none 0 0],.int .i64 (-1)]) (by simp [results,Tryz.results64,go_sem,zU s0,zU s1,zU s2,zU s3]) rfl ?_
      exact jP.no HM.out ((cK _ _ s8 (br _)).alloc (cK _ _ s8 (br _)).size _)
    | some x =>
      obtain ⟨b,rest⟩:=x
      obtain ⟨rfl,mD⟩:=sU _ _ hq
      have fU:=vg (uh e hq)
      have AO:rest.length<=l.length:=by have:=(uh e hq).length_le;simp at this;omega
      obtain ⟨mM,se⟩:=zzM (l.length-rest.length)
      rw [<- se] at fU
      have ro:(l.length:Int)-(rest.length:Int)=(mM:Int):=by omega
      rw [ro]
      have HE2:=bc se;clear se ro
      have hs:zY (rdN e) ((kR hand t).take (k+1)) (l.drop i0)=some (ps++[b],l.drop mM):=by
       rw [HS.out];simp [kZ,HC.out,hq,fU]
      have Ag:=bc hs;have HC6:=bc mD;clear hs mD hq nf sU fU
      go_wp2_with (at_builtin;refine zW rfl _ _ 62 rfl 64 (.agg #[str [],.int .i64 0,.slice none 0 0,.slice none 0 0]) 4 72 Tryz.underlying62 Tryz.infoN rfl (by decide) (.slice ka nk kc) nk kv rfl ?c1 _ 1 [str s6,.int .i64 v6,.slice a2 n2 k2,.slice a3 n3 k3] rfl ?c2 ?c3 ?c4 ?_)
      case c1 =>
       refine (HR.out.ownK.keep fun g o hg ho=>?_).alloc _ |>.alloc _
       rw [Q2.out.1.block g (zZ ho)];exact ho
      case c2=>exact zM.lit4 #[str s6,.int .i64 v6,.slice a2 n2 k2,.slice a3 n3 k3] rfl (by simp [str,Value.oneCell']) _ (by simp)
      case c3=>unfold maxLen;omega
      case c4=>omega
      intro a' c' w7 dP cJ cB
      have hW:Below wr.heap.size wr ((w6.alloc (.cells #[str s6,.int .i64 v6,.slice a2 n2 k2,.slice a3 n3 k3] 64)).alloc (.cells #[str s6,.int .i64 v6,.slice a2 n2 k2,.slice a3 n3 k3] 64)):=(Q2.out.1.alloc Q2.out.1.size _).alloc (by have:=Q2.out.1.size;simp;omega) _
      have hC:zG (wr.heap.size<=·) ((w6.alloc (.cells #[str s6,.int .i64 v6,.slice a2 n2 k2,.slice a3 n3 k3] 64)).alloc (.cells #[str s6,.int .i64 v6,.slice a2 n2 k2,.slice a3 n3 k3] 64)) (kC b) [str s6,.int .i64 v6,.slice a2 n2 k2,.slice a3 n3 k3] :=
       (Rep.keep fun i o hi ho=>⟨b7 z5 hi,zX (zX ho)⟩).2 _ _ HC6.out
      have hA:=HR.out.kid aB (by omega) (show w.heap.size<w.heap.size+1 by omega) hW hC dP cJ (fun g hg=>by simpa only [zK] using cB g hg) Ag.out (by have:=HE2.out;omega)
      have z7:=cJ.size
      rw [zK,zK] at z7
      have lh:w7.cell? ⟨w.heap.size+1,2,none⟩=some (.slice ka nk kc):=by
       rw [cJ.cell (by simp only [zK];omega) (fun e=>by have h:w.heap.size+2<=w.heap.size+1:=(HR.out.blkK _ e).1;omega)]
       exact zU (zU q2)
      have lI:w7.frozen? ⟨w.heap.size+1,2,none⟩=false:=by
       rw [World.frozen?_of_block (w:=w6) (by rw [cJ.block _ (by simp only [zK];omega) (fun e=>by have h:w.heap.size+2<=w.heap.size+1:=(HR.out.blkK _ e).1;omega)];rw [Below.heap_alloc _ _ _ (by simp only [zK];omega),Below.heap_alloc _ _ _ (by omega)])]
       exact tt
      have HA:=bc hA;clear hA hW hC dP cJ cB
      go_wp2_with fail
      go_roundw
      case rel=>exact ⟨k+1,mM,by omega,rfl,by go_num,_,_,_,_,_,_,_,HA.out⟩
      case measure=>simp [intOf];omega
   ·have lT:t.args.length<=k:=by omega
    have hkn2:¬ (k:Int)<(t.args.length:Int):=by omega
    have fl:=Rep.below (F':=F) hb (fun _ h=>h) hr
    have HS:=bc (vT (rd:=rdN e) (allHands_yes (hand:=hand) (t:=t) lT cZ) HP.out)
    go_wp2_with fail
    refine (IH.out F hand _ (en+1) wr mK (by have:=hh.same;rwa [List.append_nil] at this) fl).mono ?_
    rintro en6 w6 ⟨s6,v6,a2,n2,k2,a3,n3,k3,k6,rfl,cW,nf,sU⟩
    have z6:=cW.size
    have fF:=cW
    have nD:=rr.below fF rl
    have nE:=f7.below fF ql
    have s8:=zzT hb fF
    obtain ⟨r0,r1,r2,r3,rl6,rf⟩:=nD.cells
    obtain ⟨q0,q1,q2,q3,Ao,qf⟩:=nE.cells
    have tr:=rf 0;have oF:=rf 1;have oE:=rf 2;have oD:=rf 3;clear rf
    have tt:=qf 2;have a_:=qf 3;clear qf
    have Q2:=bc (bm fF (bm nD nE));clear hb rr f7 fF nD nE cW
    cases hq:rdN e hand (l.drop (en+1)) with
    | none =>
      obtain rfl:=nf hq
      have hm:rdN (e+1) hand (l.drop i)=none:=by
       rw [HM.out,q_ (k+1) (by rw [HS.out];simp [kZ,HC.out,hq])];rfl
      have HM:=bc hm;clear hm hq nf sU
      go_wp2_with fail
      obtain ⟨W,hW,s0,s1,s2,s3,cK,_⟩:=Q2.out.2.1.store (.string ⟨#[]⟩) (.int .i64 0) (.slice none 0 0) (.slice none 0 0)
      rw [<- hW]
      refine bodyPost_ret (v:=.tuple #[.agg #[str [],.int .i64 0,.slice none 0 0,.slice none 0 0],.int .i64 (-1)]) (by simp [results,Tryz.results64,go_sem,zU s0,zU s1,zU s2,zU s3]) rfl ?_
      exact jP.no HM.out ((cK _ _ s8 (br _)).alloc (cK _ _ s8 (br _)).size _)
    | some x =>
      obtain ⟨b,rest⟩:=x
      obtain ⟨rfl,mD⟩:=sU _ _ hq
      have fU:=vg (uh e hq)
      have AO:rest.length<=l.length:=by have:=(uh e hq).length_le;simp at this;omega
      obtain ⟨mM,se⟩:=zzM (l.length-rest.length)
      rw [<- se] at fU
      have ro:(l.length:Int)-(rest.length:Int)=(mM:Int):=by omega
      rw [ro]
      have HE2:=bc se;clear se ro
      have hs:zY (rdN e) ((kR hand t).take (k+1)) (l.drop i0)=some (ps++[b],l.drop mM):=by
       rw [HS.out];simp [kZ,HC.out,hq,fU]
      have Ag:=bc hs;have HC6:=bc mD;clear hs mD hq nf sU fU
      go_wp2_with (at_builtin;refine zW rfl _ _ 62 rfl 64 (.agg #[str [],.int .i64 0,.slice none 0 0,.slice none 0 0]) 4 72 Tryz.underlying62 Tryz.infoN rfl (by decide) (.slice ya ny yc) ny yv rfl ?c1 _ 1 [str s6,.int .i64 v6,.slice a2 n2 k2,.slice a3 n3 k3] rfl ?c2 ?c3 ?c4 ?_)
      case c1 =>
       refine (HR.out.ownY.keep fun g o hg ho=>?_).alloc _ |>.alloc _
       rw [Q2.out.1.block g (zZ ho)];exact ho
      case c2=>exact zM.lit4 #[str s6,.int .i64 v6,.slice a2 n2 k2,.slice a3 n3 k3] rfl (by simp [str,Value.oneCell']) _ (by simp)
      case c3=>unfold maxLen;omega
      case c4=>omega
      intro a' c' w7 dP cJ cB
      have hW:Below wr.heap.size wr ((w6.alloc (.cells #[str s6,.int .i64 v6,.slice a2 n2 k2,.slice a3 n3 k3] 64)).alloc (.cells #[str s6,.int .i64 v6,.slice a2 n2 k2,.slice a3 n3 k3] 64)):=(Q2.out.1.alloc Q2.out.1.size _).alloc (by have:=Q2.out.1.size;simp;omega) _
      have hC:zG (wr.heap.size<=·) ((w6.alloc (.cells #[str s6,.int .i64 v6,.slice a2 n2 k2,.slice a3 n3 k3] 64)).alloc (.cells #[str s6,.int .i64 v6,.slice a2 n2 k2,.slice a3 n3 k3] 64)) (kC b) [str s6,.int .i64 v6,.slice a2 n2 k2,.slice a3 n3 k3] :=
       (Rep.keep fun i o hi ho=>⟨hi,zX (zX ho)⟩).2 _ _ HC6.out
      have hA:=HR.out.yes lT (by omega) (show w.heap.size<w.heap.size+1 by omega) hW hC dP cJ (fun g hg=>by simpa only [zK] using cB g hg) Ag.out (by have:=HE2.out;omega)
      have z7:=cJ.size
      rw [zK,zK] at z7
      have lh:w7.cell? ⟨w.heap.size+1,3,none⟩=some (.slice ya ny yc):=by
       rw [cJ.cell (by simp only [zK];omega) (fun e=>by have h:w.heap.size+2<=w.heap.size+1:=HR.out.blkY _ e;omega)]
       exact zU (zU q3)
      have lI:w7.frozen? ⟨w.heap.size+1,3,none⟩=false:=by
       rw [World.frozen?_of_block (w:=w6) (by rw [cJ.block _ (by simp only [zK];omega) (fun e=>by have h:w.heap.size+2<=w.heap.size+1:=HR.out.blkY _ e;omega)];rw [Below.heap_alloc _ _ _ (by simp only [zK];omega),Below.heap_alloc _ _ _ (by omega)])]
       exact a_
      have HA:=bc hA;clear hA hW hC dP cJ cB
      go_wp2_with fail
      go_roundw
      case rel=>exact ⟨k+1,mM,by omega,rfl,by go_num,_,_,_,_,_,_,_,HA.out⟩
      case measure=>simp [intOf];omega
  ·have aB:k=t.args.length+2:=by omega
   have dd:¬ (k:Int)<(t.args.length:Int)+2:=by omega
   have hp:zY (rdN e) (kR hand t) (l.drop i0)=some (ps,l.drop en):=by
    have:=HP.out;rwa [aB,List.take_of_length_le (by rw [vY];exact br _)] at this
   have hm:rdN (e+1) hand (l.drop i)=(do
    let l2<-cut [41] (l.drop en)
    let b<-yX v t.args.length ps
    some (b,l2)):=by rw [HM.out,hp];rfl
   have HM:=bc hm
   have HKN:=bc aB
   clear hm hp aB
   by_cases aw:∃ h:en<l.length,l[en]=41
   rotate_left
   ·have hm:rdN (e+1) hand (l.drop i)=none:=by
     have hc:cut [41] (l.drop en)=none:=by
      by_cases h:en<l.length
      ·rw [jl h,if_neg (fun h'=>aw ⟨h,h'⟩)]
      ·exact y9 (by omega)
     rw [HM.out,hc];rfl
    have HM:=bc hm;clear hm
    have dG:(l.length<=en)\/∃ h:en<l.length,((((⟨l.toArray⟩:ByteArray)[en]'(k9 h)).toNat:Int) != 41)=true:=by
     by_cases h:en<l.length
     ·exact .inr ⟨h,yp h (n:=41) (by decide) (fun h'=>aw ⟨h,h'⟩)⟩
     ·exact .inl (by omega)
    clear aw
    rcases dG with h | ⟨h,f5⟩
    ·have g1:(l.length:Int)<=(en:Int):=by omega
     go_wp2_with fail
     obtain ⟨W,hW,s0,s1,s2,s3,cK,_⟩:=rr.store (.string ⟨#[]⟩) (.int .i64 0) (.slice none 0 0) (.slice none 0 0)
     rw [<- hW]
     refine bodyPost_ret (v:=.tuple #[.agg #[str [],.int .i64 0,.slice none 0 0,.slice none 0 0],.int .i64 (-1)]) (by simp [results,Tryz.results64,go_sem,s0,s1,s2,s3]) rfl ?_
     exact jP.no HM.out (cK _ _ hb (br _))
    ·go_wp2_with fail
     obtain ⟨W,hW,s0,s1,s2,s3,cK,_⟩:=rr.store (.string ⟨#[]⟩) (.int .i64 0) (.slice none 0 0) (.slice none 0 0)
     rw [<- hW]
     refine bodyPost_ret (v:=.tuple #[.agg #[str [],.int .i64 0,.slice none 0 0,.slice none 0 0],.int .i64 (-1)]) (by simp [results,Tryz.results64,go_sem,s0,s1,s2,s3]) rfl ?_
     exact jP.no HM.out (cK _ _ hb (br _))
   obtain ⟨mK,aw⟩:=aw
   have f5:=uA mK (n:=41) (by decide) aw
   have g1:decide ((en:Int)<0)=false:=by rw [decide_eq_false_iff_not];omega
   have g2:decide (l.length<=en)=false:=by rw [decide_eq_false_iff_not];omega
   have HC:Hid (cut [41] (l.drop en)=some (l.drop (en+1))):=by show cut [41] (l.drop en)=_;rw [jl mK,if_pos aw]
   clear aw
   go_wp2_with fail
   obtain ⟨W,hW,s0,s1,s2,s3,cK,eW⟩:=rr.store (str []) (.int .i64 v) (.slice ka nk kc) (.slice ya ny yc)
   have tB:=HR.out
   have hps:=tB.len
   have hnk:=tB.hnk
   have hny:=tB.hny
   have aB:=HKN.out
   obtain ⟨y1,y2,i9⟩:∃ y1 y2,ps.drop t.args.length=[y1,y2]:=by
    match hd:ps.drop t.args.length with
    | [a,b]=>exact ⟨a,b,rfl⟩
    | []=>have:=congrArg List.length hd;simp at this;omega
    | [a]=>have:=congrArg List.length hd;simp at this;omega
    | a::b::c::d=>have:=congrArg List.length hd;simp at this;omega
   have hm:rdN (e+1) hand (l.drop i)=some (.ask v (ps.take t.args.length) y1 y2,l.drop (en+1)):=by
    rw [HM.out,HC.out];simp [yX,i9]
   have lE:nk=(ps.take t.args.length).length:=by simp;omega
   have lC:ny=2:=by omega
   rw [<- hW]
   refine bodyPost_ret (v:=.tuple #[.agg #[str [],.int .i64 v,.slice ka nk kc,.slice ya ny yc],.int .i64 ((en:Int)+1)]) (by simp [results,Tryz.results64,go_sem,s0,s1,s2,s3]) rfl ?_
   refine jP.yes (s:=[]) hm (by simp;omega) (cK _ _ hb (br _)) ?_
   rw [wX]
   refine zJ.2 ⟨_,_,rfl,zI.2 rfl,zJ.2 ⟨_,_,rfl,zI.2 rfl,zJ.2 ⟨_,_,rfl,?_,zJ.2 ⟨_,_,rfl,?_,zC.2 rfl⟩⟩⟩⟩
   ·rw [<- lE]
    refine (tB.ownK.keep fun g o hg ho=>eW g o (by have:=(tB.blkK g hg).1;omega) ho).rep (fun g hg=>by have:=(tB.blkK g hg).1;omega) ?_
    exact (Rep.keep fun x o hx ho=>⟨by have:=hx.1;omega,eW x o (by have:=hx.1;omega) ho⟩).2 _ _ tB.repK
   ·have dR:=tB.repY
    rw [i9] at dR
    rw [<- lC]
    refine (tB.ownY.keep fun g o hg ho=>eW g o (by have:=tB.blkY g hg;omega) ho).rep (fun g hg=>by have:=tB.blkY g hg;omega) ?_
    exact (Rep.keep fun x o hx ho=>⟨by have:=hx.1;omega,eW x o (by have:=hx.1;omega) ho⟩).2 _ _ dR
theorem l3Read_any (l:Bs) (hl:Lim l.length) (e:Nat):∀ d,e+d=101->NodeSaid l e d:=by
 induction e with
 | zero=>exact fun d o4 F hand hv i w hi _ hr=>wK l hl 0 d o4 F hand hv i w hi hr (fun _=>.inl rfl)
 | succ e ih =>
   intro d o4 F hand hv i w hi hh hr
   by_cases h:∃ h:i<l.length,l[i]=40
   ·obtain ⟨h,dq⟩:=h
    exact l3Read_ask l hl e d o4 (ih (d+1) (by omega)) F hand hv i w h hh hr dq
   ·exact wK l hl (e+1) d o4 F hand hv i w hi hr (fun h'=>.inr fun dq=>h ⟨h',dq⟩)
def k_:Bd->List Bd
 | .leaf _=>[]
 | .ask _ ss _ _=>ss
def qv:Bd->List Bd
 | .leaf _=>[]
 | .ask _ _ y n=>[y,n]
def zt:Bd->Bs
 | .leaf c=>[c]
 | .ask _ _ _ _=>[]
def AtN (F:Nat->Prop) (w:World) (bs:List Bd) (a:Option Addr) (k:Nat):Prop :=
 ∃ b o s v a2 n2 c2 a3 n3 c3 d,a=some ⟨b,o,none⟩/\b<w.heap.size/\bs[k]? = some d/\w.cell? ⟨b,o+k*4,none⟩=some (str s)/\w.cell? ⟨b,o+k*4+1,none⟩=some (.int .i64 v) /\
   w.cell? ⟨b,o+k*4+2,none⟩=some (.slice a2 n2 c2)/\w.cell? ⟨b,o+k*4+3,none⟩=some (.slice a3 n3 c3)/\zG F w (kC d) [str s,.int .i64 v,.slice a2 n2 c2,.slice a3 n3 c3]
def AtNs (F:Nat->Prop) (w:World) (bs:List Bd) (a:Option Addr):Prop:=∀ k,k<bs.length->AtN F w bs a k
theorem jA {F:Nat->Prop} {w:World} {b:Bd} {vs:List Value} (h:zG F w (kC b) vs) :
 ∃ v a2 c2 a3 c3,vs=[str (zt b),.int .i64 v,.slice a2 (k_ b).length c2,.slice a3 (qv b).length c3] /\
   Rep F w (.sl 64 4 (k_ b).length (zm (k_ b))) (.slice a2 (k_ b).length c2)/\Rep F w (.sl 64 4 (qv b).length (zm (qv b))) (.slice a3 (qv b).length c3):=by
 have key:∀ (s:Bs) (v:Int) (d2 d3:DV) (n2 n3:Nat) (k2 k3:List DV),d2=.sl 64 4 n2 k2->d3=.sl 64 4 n3 k3->zG F w [.val (str s),.val (.int .i64 v),d2,d3] vs ->
  ∃ a2 c2 a3 c3,vs=[str s,.int .i64 v,.slice a2 n2 c2,.slice a3 n3 c3]/\Rep F w d2 (.slice a2 n2 c2)/\Rep F w d3 (.slice a3 n3 c3):=by
  intro s v d2 d3 n2 n3 k2 k3 e2 e3 h
  obtain ⟨_,_,rfl,h0,h⟩:=zJ.1 h
  obtain ⟨_,_,rfl,h1,h⟩:=zJ.1 h
  obtain ⟨_,_,rfl,h2,h⟩:=zJ.1 h
  obtain ⟨_,_,rfl,h3,h⟩:=zJ.1 h
  rw [zC] at h;subst h
  rw [zI] at h0 h1
  subst h0;subst h1
  have h2':=h2;have h3':=h3
  rw [e2] at h2';rw [e3] at h3'
  obtain ⟨_,a2,c2,e2',_⟩:=kP.1 h2'
  obtain ⟨_,a3,c3,e3',_⟩:=kP.1 h3'
  subst e2';subst e3'
  exact ⟨a2,c2,a3,c3,rfl,h2,h3⟩
 cases b with
 | leaf c =>
   rw [kC] at h
   obtain ⟨a2,c2,a3,c3,e,h2,h3⟩:=key _ _ _ _ 0 0 [] [] rfl rfl h
   exact ⟨_,a2,c2,a3,c3,e,h2,h3⟩
 | ask v ss y n =>
   rw [wX] at h
   obtain ⟨a2,c2,a3,c3,e,h2,h3⟩:=key _ _ _ _ _ _ _ _ rfl rfl h
   exact ⟨_,a2,c2,a3,c3,e,h2,h3⟩
theorem AtNs.of {F:Nat->Prop} {w:World} {bs:List Bd} {v:Value} (h:Rep F w (.sl 64 4 bs.length (zm bs)) v):∃ a c,v=.slice a bs.length c/\AtNs F w bs a:=by
 obtain ⟨hl,a,c,rfl,hn,hz,h⟩:=kP.1 h
 refine ⟨a,c,rfl,fun k hk=>?_⟩
 rcases h with h | ⟨b,o,cs,fr,rfl,hb,hc,hr⟩
 ·omega
 ·have hs:zm bs=zm (bs.take k)++(kC bs[k]++zm (bs.drop (k+1))):=by
   have e1:kC bs[k]=zm [bs[k]]:=by simp [zm]
   rw [e1,<- kr,<- kr]
   congr 1
   simp
  rw [hs] at hr
  obtain ⟨h1,h2⟩:=hr.split
  obtain ⟨h3,h4⟩:=h2.split
  have aC:(zm (bs.take k)).length=k*4:=by rw [wY];simp;omega
  rw [aC,qS] at h3
  obtain ⟨v,a2,c2,a3,c3,e,_⟩:=jA h3
  have hat:∀ j u,([str (zt bs[k]),.int .i64 v,.slice a2 (k_ bs[k]).length c2,.slice a3 (qv bs[k]).length c3]:List Value)[j]? = some u->w.cell? ⟨b,o+k*4+j,none⟩=some u:=by
   intro j u hu
   rw [<- e] at hu
   have hj:j<4:=by
    have:=(List.getElem?_eq_some_iff.1 hu).1
    simp at this;omega
   rw [List.getElem?_take,if_pos hj,List.getElem?_drop,List.getElem?_take] at hu
   split at hu
   ·rw [List.getElem?_drop] at hu
    simp only [World.cell?,hc]
    rw [Nat.add_assoc]
    simpa using hu
   ·simp at hu
  refine ⟨b,o,_,v,a2,_,c2,a3,_,c3,bs[k],rfl,zZ hc,by simp [hk],hat 0 _ rfl,hat 1 _ rfl,hat 2 _ rfl,hat 3 _ rfl,?_⟩
  rw [<- e];exact h3
theorem gr (b:Bd):vd b=k_ b++qv b:=by cases b <;> rfl
def BoxN (g:Nat) (s:Bs) (k y:Value) (w:World):Prop :=
 w.cell? ⟨g,0,none⟩=some (str s)/\w.cell? ⟨g,2,none⟩=some k/\w.cell? ⟨g,3,none⟩=some y
theorem BoxN.below {g:Nat} {s:Bs} {k y:Value} {w w':World} (h:BoxN g s k y w) (hb:Below w.heap.size w w'):BoxN g s k y w':=by
 obtain ⟨h1,h2,h3⟩:=h
 have:=be w _ h1
 exact ⟨by rw [hb.cell (by exact this)];exact h1,by rw [hb.cell (by exact this)];exact h2,by rw [hb.cell (by exact this)];exact h3⟩
def pV (b:Bd):Prop:=∀ (F:Nat->Prop) (w:World) (s:Bs) (v:Int) (a2:Option Addr) (n2 c2:Nat) (a3:Option Addr) (n3 c3:Nat),zG F w (kC b) [str s,.int .i64 v,.slice a2 n2 c2,.slice a3 n3 c3] ->
 Calls Tryz.prog 65 #[.agg #[str s,.int .i64 v,.slice a2 n2 c2,.slice a3 n3 c3]] w fun en w'=>en=.returned (.int .i64 (zL b))/\Below w.heap.size w w'
set_option maxRecDepth 100000 in
theorem l3Size_step (b:Bd) (hl:Lim (zL b)) (ih:∀ b',zL b'<zL b->pV b'):pV b:=by
 intro F w s v a2 n2 c2 a3 n3 c3 hv
 have iV:=jA hv
 obtain ⟨v',Db,CZ,a3',c3',e,hk,hy⟩:=iV
 simp only [List.cons.injEq,Value.slice.injEq,and_true] at e
 obtain ⟨e0,e1,⟨rfl,e2,rfl⟩,⟨rfl,e3,rfl⟩⟩:=e
 clear e0 e1
 subst e2;subst e3
 obtain ⟨_,_,ek,Cl⟩:=AtNs.of hk
 obtain ⟨_,_,ey,Ck⟩:=AtNs.of hy
 simp only [Value.slice.injEq,true_and] at ek ey
 obtain ⟨rfl,rfl⟩:=ek
 obtain ⟨rfl,rfl⟩:=ey
 have IH:=bc ih;clear ih
 have eS:=hl.le
 have eX:=yS b
 rw [gr,kk] at eX
 have aC:=jf (k_ b)
 have hyl:=jf (qv b)
 have E1:=bc eX
 have kl:(k_ b).length<=16777216:=by omega
 have yl:(qv b).length<=16777216:=by omega
 have ATK:=bc Cl;have ATY:=bc Ck
 clear Cl Ck hk hy hv eX aC hyl
 generalize hK:k_ b=kids at *
 generalize hY:qv b=yess at *
 clear hK hY
 go_enter Tryz.func65,Tryz.ntmps65
 go_wp2_with fail
 go_loopw [3,4] (fun n i wr=>∃ k:Nat,k<=kids.length/\i=.int .i64 k/\n=.int .i64 ((1+zD (kids.take k):Nat):Int)/\Below w.heap.size w wr/\BoxN w.heap.size s (.slice a2 kids.length c2) (.slice a3 yess.length c3) wr) (fun _ i _=>kids.length-(intOf i).toNat)
 case atStart=>exact ⟨0,Nat.zero_le _,rfl,by simp [zD],(bi _ _).alloc (br _) _,by simp,by simp,by simp⟩
 case round =>
  rename_i wr
  obtain ⟨k,hk,rfl,rfl,hb,hc⟩:=hrel
  obtain ⟨me,fQ,n6⟩:=id hc
  by_cases cZ:k<kids.length
  ·obtain ⟨bb,o,s',v',b2,m2,d2,b3,m3,d3,t,rfl,hbb,ht,u0,u1,u2,u3,hr⟩:=ATK.out k cZ
   have q0:=(hb.cell hbb).trans u0
   have q1:=(hb.cell hbb).trans u1
   have q2:=(hb.cell hbb).trans u2
   have q3:=(hb.cell hbb).trans u3
   have fl:=(zG.below (F':=F) hb (fun _ h=>h) hr)
   have hs:=yR ht
   have d_:=vL kids (k+1)
   have mF:=E1.out
   have hp:=qm t
   have IH':=bc (IH.out t (by omega))
   have HS:=bc hs
   have b1:1+zD (kids.take k)+zL t<=16777216:=by omega
   have hz:=be wr _ me
   clear hs ht mF u0 u1 u2 u3 hr
   go_wp2_with fail
   refine (IH'.out _ _ _ _ _ _ _ _ _ _ fl).mono ?_
   rintro en w2 ⟨rfl,b8⟩
   have cP:=zzT hb b8
   obtain ⟨me,fQ,n6⟩:=id (hc.below b8)
   have tx:=bc (hc.below b8)
   go_wp2_with fail
   go_roundw
   case rel=>exact ⟨k+1,by omega,by go_num,by rw [HS.out] <;> go_num,cP,tx.out⟩
   case measure=>simp [intOf];omega
  ·obtain rfl:k=kids.length:=by omega
   rw [List.take_length]
   have bK:1+zD kids<=16777216:=by have:=E1.out;omega
   clear hk cZ
   go_wp2_with fail
   have fw:=hb;have sZ:=hc
   clear hb hc me fQ n6
   go_loopw [3,5] (fun n i wr=>∃ k:Nat,k<=yess.length/\i=.int .i64 k/\n=.int .i64 ((1+zD kids+zD (yess.take k):Nat):Int)/\Below w.heap.size w wr/\BoxN w.heap.size s (.slice a2 kids.length c2) (.slice a3 yess.length c3) wr) (fun _ i _=>yess.length-(intOf i).toNat)
   case atStart=>exact ⟨0,Nat.zero_le _,rfl,by simp [zD],fw,sZ⟩
   case round =>
    clear fw sZ
    obtain ⟨k,hk,rfl,rfl,hb,hc⟩:=hrel
    obtain ⟨me,fQ,n6⟩:=id hc
    by_cases cZ:k<yess.length
    ·obtain ⟨bb,o,s',v',b2,m2,d2,b3,m3,d3,t,rfl,hbb,ht,u0,u1,u2,u3,hr⟩:=ATY.out k cZ
     have q0:=(hb.cell hbb).trans u0
     have q1:=(hb.cell hbb).trans u1
     have q2:=(hb.cell hbb).trans u2
     have q3:=(hb.cell hbb).trans u3
     have fl:=(zG.below (F':=F) hb (fun _ h=>h) hr)
     have hs:=yR ht
     have d_:=vL yess (k+1)
     have mF:=E1.out
     have hp:=qm t
     have IH':=bc (IH.out t (by omega))
     have HS:=bc hs
     have b1:1+zD kids+zD (yess.take k)+zL t<=16777216:=by omega
     have hz:=be _ _ me
     clear hs ht mF u0 u1 u2 u3 hr
     go_wp2_with fail
     refine (IH'.out _ _ _ _ _ _ _ _ _ _ fl).mono ?_
     rintro en w2 ⟨rfl,b8⟩
     have cP:=zzT hb b8
     obtain ⟨me,fQ,n6⟩:=id (hc.below b8)
     have tx:=bc (hc.below b8)
     go_wp2_with fail
     go_roundw
     case rel=>exact ⟨k+1,by omega,by go_num,by rw [HS.out] <;> go_num,cP,tx.out⟩
     case measure=>simp [intOf];omega
    ·obtain rfl:k=yess.length:=by omega
     go_wp2_with fail
     go_ret
     exact ⟨uv (by rw [E1.out,List.take_length];omega),hb⟩
theorem l3Size_any (n:Nat):∀ b,zL b<=n->Lim n->pV b:=by
 induction n with
 | zero=>intro b h _;have:=qm b;omega
 | succ n ih=>exact fun b h hn=>l3Size_step b (hn.mono h) (fun b' h'=>ih b' (by omega) (hn.mono (by omega)))
theorem str_inj {a b:Bs} (h:str a=str b):a=b:=by
 simp only [str,Value.string.injEq,ByteArray.mk.injEq] at h
 simpa using congrArg Array.toList h
theorem oneCell_encN {F:Nat->Prop} {w:World} {b:Bd} {us:List Value} (h:zG F w (kC b) us):∀ u∈us,u.oneCell'=true:=by
 obtain ⟨v,a2,c2,a3,c3,rfl,_⟩:=jA h
 simp [str,Value.oneCell']
theorem Tryz.infoBo:(Tryz.prog.info? 187).map (fun i=>(i.zero,i.size,i.bytes))=some (some (.agg #[.int .i64 0,str [],.int .i64 0,.slice none 0 0,.slice none 0 0,.slice none 0 0,.slice none 0 0,.int .i64 0,.int .i64 0]),9,144):=by kernel_rfl
def zT (s text:Bs):Option Bd :=
 if (zQ s).2=false\/2000<text.length then none else
 match rdN 101 (zQ s).1.args text with
 | none=>none
 | some (b,rest)=>if rest=[]/\zL b<=200 then some b else none
theorem qN {l:Bs} (h:(zQ l).2=true):zV (zQ l).1<=15:=by
 unfold zQ at *
 split at h
 ·simp at h
 ·rename_i hl
  rw [if_neg hl]
  cases hq:rdS 21 l with
  | none=>rw [hq] at h;simp at h
  | some x=>rw [hq] at h;obtain ⟨t,rest⟩:=x;simp at h;exact h.2
theorem un {t:Ty} (h:zV t<=15):kd 101 t.args:=by
 have hm:=zp t
 have key:∀ (ts:List Ty) (x:Ty),x∈ts->zV x<=zE ts:=by
  intro ts
  induction ts with
  | nil=>intro x hx;simp at hx
  | cons y ys ih =>
    intro x hx
    rcases List.mem_cons.1 hx with rfl | hx
    ·simp [zE];omega
    ·have:=ih x hx;simp [zE];omega
 refine ⟨fun x hx=>?_,?_⟩
 ·have:=key t.args x hx;omega
 ·have:=zc t.args;omega
theorem yw {w:World} {p a:Addr} {u v:Value} (h:w.cell? a=some v) (cX:a.block≠p.block):(w.setCell p u).cell? a=some v:=by
 rw [World.cell?_of_block (w:=w) (b5 _ _ _ _ cX)];exact h
theorem yQ {w w':World} {a:Addr} {v:Value} (h:w.cell? a=some v) (hk:∀ x,w.heap[a.block]? = some x->w'.heap[a.block]? = some x):w'.cell? a=some v:=by
 have cZ:=be w a h
 rw [World.cell?_of_block (w:=w)]
 ·exact h
 ·rw [hk _ (Array.getElem?_eq_getElem cZ),Array.getElem?_eq_getElem cZ]
abbrev KeepS (g1 g2:Nat) (T u0 u1 u2 u3:Value) (w:World):Prop :=
 w.cell? ⟨g1,0,none⟩=some T/\w.cell? ⟨g2,0,none⟩=some u0/\w.cell? ⟨g2,1,none⟩=some u1/\w.cell? ⟨g2,2,none⟩=some u2/\w.cell? ⟨g2,3,none⟩=some u3
theorem KeepS.set {g1 g2:Nat} {T u0 u1 u2 u3:Value} {w:World} (h:KeepS g1 g2 T u0 u1 u2 u3 w) (b o:Nat) (u:Value) (h1:g1≠b) (h2:g2≠b):KeepS g1 g2 T u0 u1 u2 u3 (w.setCell ⟨b,o,none⟩ u) :=
 ⟨yw h.1 h1,yw h.2.1 h2,yw h.2.2.1 h2,yw h.2.2.2.1 h2,yw h.2.2.2.2 h2⟩
def qE (s text:Bs) (w:World) (en:Ending) (w':World):Prop :=
 ∃ (a:Option Addr) (c:Nat) (s':Bs) (v':Int) (a2:Option Addr) (n2 c2:Nat) (a3:Option Addr) (n3 c3:Nat),
   en=.returned (.tuple #[.agg #[.slice a (zQ s).1.args.length c],.agg #[str s',.int .i64 v',.slice a2 n2 c2,.slice a3 n3 c3],.bool (zT s text).isSome])/\Below w.heap.size w w' /\
   Rep (w.heap.size<=·) w' (jX (zQ s).1) (.slice a (zQ s).1.args.length c) /\
   (∀ b,zT s text=some b->zG (w.heap.size<=·) w' (kC b) [str s',.int .i64 v',.slice a2 n2 c2,.slice a3 n3 c3])
theorem qE.no {s text:Bs} {w w':World} {a:Option Addr} {c:Nat} {v:Value} (hv:v=.slice a (zQ s).1.args.length c) {s':Bs} {v':Int} {a2:Option Addr} {n2 c2:Nat} {a3:Option Addr} {n3 c3:Nat} {f:Bool} (hf:f=false) (hn:zT s text=none) (hb:Below w.heap.size w w')
 (hr:Rep (w.heap.size<=·) w' (jX (zQ s).1) v) :
 qE s text w (.returned (.tuple #[.agg #[v],.agg #[str s',.int .i64 v',.slice a2 n2 c2,.slice a3 n3 c3],.bool f])) w':=by
 subst hv;subst hf
 exact ⟨a,c,s',v',a2,n2,c2,a3,n3,c3,by rw [hn];rfl,hb,hr,fun b h=>by rw [hn] at h;simp at h⟩
theorem qE.yes {s text:Bs} {w w':World} {a:Option Addr} {c:Nat} {v:Value} (hv:v=.slice a (zQ s).1.args.length c) {s':Bs} {v':Int} {a2:Option Addr} {n2 c2:Nat} {a3:Option Addr} {n3 c3:Nat} {f:Bool} {b:Bd} (hf:f=true) (hn:zT s text=some b) (hb:Below w.heap.size w w')
 (hr:Rep (w.heap.size<=·) w' (jX (zQ s).1) v) (cO:zG (w.heap.size<=·) w' (kC b) [str s',.int .i64 v',.slice a2 n2 c2,.slice a3 n3 c3]) :
 qE s text w (.returned (.tuple #[.agg #[v],.agg #[str s',.int .i64 v',.slice a2 n2 c2,.slice a3 n3 c3],.bool f])) w':=by
 subst hv;subst hf
 exact ⟨a,c,s',v',a2,n2,c2,a3,n3,c3,by rw [hn];rfl,hb,hr,fun b' h=>by rw [hn] at h;simp at h;subst h;exact cO⟩
set_option maxRecDepth 100000 in
theorem yj (s text:Bs) (hs:Lim s.length) (hl:Lim text.length) (w:World):Calls Tryz.prog 31 #[str s,str text] w (qE s text w):=by
 have eN:=hs.le
 have eS:=hl.le
 go_enter Tryz.func31,Tryz.ntmps31
 go_wp2_with fail
 refine (xO s hs _).mono ?_
 rintro en w1 ⟨v1,rfl,b9,mN⟩
 have z1:=b9.size
 rw [zK,zK] at z1
 obtain ⟨a1,c1,e1⟩:=zl mN
 have E1:=bc e1
 have dM:Below w.heap.size w w1:=(((bi w.heap.size w).alloc (br _) _).alloc (by simp) _).trans (b9.mono (by simp;omega))
 have du:w.heap.size<w1.heap.size:=by omega
 have nj:w.heap.size+1<w1.heap.size:=by omega
 have r0:w1.cell? ⟨w.heap.size,0,none⟩=some (.slice none 0 0):=by rw [b9.cell (by simp only [zK];omega)];exact zU (by simp)
 have tr:w1.frozen? ⟨w.heap.size,0,none⟩=false:=by
  rw [b9.frozen (by simp only [zK];omega)]
  rw [World.frozen?_of_block (w:=w.alloc (.cells #[.slice none 0 0] 61)) (Below.heap_alloc _ _ _ (by simp))];simp
 have hN:kY (w.heap.size+1) 0 (.slice none 0 0) (.slice none 0 0) w1:=by
  unfold kY;rw [b9.block _ (by simp)]
  have:=zS (w.alloc (.cells #[.slice none 0 0] 61)) (.cells #[str [],.int .i64 0,.slice none 0 0,.slice none 0 0] 64)
  rw [zK] at this;exact this
 subst e1
 have rU:Rep (w.heap.size+1 < ·) w1 (jX (zQ s).1) (.slice a1 (zQ s).1.args.length c1):=(Rep.keep fun b o h ho=>⟨by have:=vS h;rw [zK] at this;omega,ho⟩).1 _ _ mN
 have HS:Hid (zT s text=if (zQ s).2=false\/2000<text.length then none else
  match rdN 101 (zQ s).1.args text with
  | none=>none
  | some (b,rest)=>if rest=[]/\zL b<=200 then some b else none):=rfl
 have ai:=bc (qN (l:=s))
 generalize hT:(zQ s).1=t at *
 generalize hO:(zQ s).2=ok at *
 have HT:=bc hT;clear hT hO mN
 obtain ⟨q0,q1,q2,q3,ql,qf⟩:=hN.cells
 have qf0:=qf 0;have qf1:=qf 1;have tt:=qf 2;have a_:=qf 3;clear qf
 by_cases dG:ok=true/\text.length<=2000
 rotate_left
 ·have hn:zT s text=none:=by
   rw [HS.out,if_pos]
   cases ok with
   | false=>exact .inl rfl
   | true=>exact .inr (by simp at dG;omega)
  have HN:=bc hn;clear hn
  have dG:ok=false\/(ok=true/\(2000:Int)<(text.length:Int)):=by
   cases ok with
   | false=>exact .inl rfl
   | true=>exact .inr ⟨rfl,by simp at dG;omega⟩
  have h0:kY (w.heap.size+1) 0 (.slice none 0 0) (.slice none 0 0) (w1.setCell ⟨w.heap.size,0,none⟩ (.slice a1 t.args.length c1)):=by
   unfold kY;rw [b5 _ _ _ _ (by simp)];exact hN
  obtain ⟨W,hW,s0,s1,s2,s3,cK,eW⟩:=h0.store (.string ⟨#[]⟩) (.int .i64 0) (.slice none 0 0) (.slice none 0 0)
  have t0:W.cell? ⟨w.heap.size,0,none⟩=some (.slice a1 t.args.length c1):=yQ (qC r0 _) fun x hx=>eW _ x (by simp) hx
  have eP:=cK _ _ (dM.setCell (p:=⟨w.heap.size,0,none⟩) (br _) (.slice a1 t.args.length c1)) (by omega)
  have iD:Rep (w.heap.size<=·) W (jX t) (.slice a1 t.args.length c1):=(Rep.keep fun b o h ho=>⟨by omega,eW b o (by omega) (by rw [b5 _ _ _ _ (by simp;omega)];exact ho)⟩).1 _ _ rU
  have FIN:Hid (∀ o,qE s text w (.returned (.tuple #[.agg #[.slice a1 t.args.length c1],.agg #[str [],.int .i64 0,.slice none 0 0,.slice none 0 0],.bool false])) (W.alloc o)):=fun o =>
   qE.no (a:=a1) (c:=c1) (by rw [HT.out]) rfl HN.out (eP.alloc eP.size o) (by rw [HT.out];exact (Rep.keep fun b o h ho=>⟨h,zX ho⟩).1 _ _ iD)
  have HW:=bc hW;clear h0 hW cK eW eP iD
  rcases dG with rfl | ⟨rfl,h⟩
  all_goals
   go_wp2_with fail
   rw [<- HW.out]
   refine bodyPost_ret (v:=.tuple #[.agg #[.slice a1 t.args.length c1],.agg #[str [],.int .i64 0,.slice none 0 0,.slice none 0 0],.bool false]) (by simp [results,Tryz.results31,go_sem,zU t0,zU s0,zU s1,zU s2,zU s3]) rfl ?_
   exact FIN.out _
 obtain ⟨rfl,htl⟩:=dG
 have htl':¬ (2000:Int)<(text.length:Int):=by omega
 have hat:=ai.out rfl
 have hm:zT s text=(match rdN 101 t.args text with
  | none=>none
  | some (b,rest)=>if rest=[]/\zL b<=200 then some b else none):=by rw [HS.out,if_neg (by simp;omega)]
 have HM:=bc hm;clear hm HS ai
 have hvE:=rU
 rw [qY] at hvE
 have hho:=un hat
 go_wp2_with fail
 refine (l3Read_any text hl 101 0 rfl (w.heap.size+1 < ·) t.args _ 0 _ (Nat.zero_le _) hho (by exact (Rep.keep fun b o h ho=>⟨h,zX ho⟩).1 _ _ hvE)).mono ?_
 rw [List.drop_zero]
 rintro en w2 ⟨s',v',a2,n2,c2,a3,n3,c3,k,rfl,b8,fB,eE⟩
 have z2:=b8.size
 rw [zK] at z2
 have nL:Below w.heap.size w w2:=(dM.alloc (by omega) _).trans (b8.mono (by rw [zK];omega))
 have r0':w2.cell? ⟨w.heap.size,0,none⟩=some (.slice none 0 0):=by rw [b8.cell (by rw [zK];simp only;omega)];exact zU r0
 have rf0':w2.frozen? ⟨w.heap.size,0,none⟩=false:=by rw [b8.frozen (by rw [zK];simp only;omega)];rw [World.frozen?_of_block (w:=w1) (Below.heap_alloc _ _ _ du)];exact tr
 have hN':kY (w.heap.size+1) 0 (.slice none 0 0) (.slice none 0 0) w2:=by
  unfold kY;rw [b8.block _ (by rw [zK];omega)];exact zX hN
 have hT2:w2.cell? ⟨w1.heap.size,0,none⟩=some (.slice a1 t.args.length c1):=by rw [b8.cell (by rw [zK];simp only;omega)];simp
 have iJ:Rep (w.heap.size+1 < ·) w2 (jX t) (.slice a1 t.args.length c1):=(Rep.keep fun b o h ho=>⟨h,by rw [b8.block b (by have:=zZ ho;rw [zK];omega)];exact zX ho⟩).1 _ _ rU
 clear r0 tr hN q0 q1 q2 q3 ql qf0 qf1 tt a_ hvE rU hho
 obtain ⟨q0,q1,q2,q3,ql,qf⟩:=hN'.cells
 have qf0:=qf 0;have qf1:=qf 1;have tt:=qf 2;have a_:=qf 3;clear qf
 have y1:w.heap.size<w2.heap.size:=by omega
 have y2:w1.heap.size<w2.heap.size:=by omega
 have c_:=bc b8;clear b8
 by_cases hk:k=(text.length:Int)
 rotate_left
 ·have g1:(k == (text.length:Int))=false:=by rw [beq_eq_false_iff_ne];exact hk
  have hn:zT s text=none:=by
   rw [HM.out]
   cases hq:rdN 101 t.args text with
   | none=>rfl
   | some x =>
     obtain ⟨b,rest⟩:=x
     have h1:=(eE b rest hq).1
     simp only
     rw [if_neg]
     rintro ⟨rfl,_⟩
     exact hk (by rw [h1];simp)
  have HN:=bc hn
  clear hn hk fB eE
  have h0:kY (w.heap.size+1) 0 (.slice none 0 0) (.slice none 0 0) (w2.setCell ⟨w.heap.size,0,none⟩ (.slice a1 t.args.length c1)):=by
   unfold kY;rw [b5 _ _ _ _ (by simp)];exact hN'
  obtain ⟨W,hW,s0,s1,s2,s3,cK,eW⟩:=h0.store (str s') (.int .i64 v') (.slice a2 n2 c2) (.slice a3 n3 c3)
  have t0:W.cell? ⟨w.heap.size,0,none⟩=some (.slice a1 t.args.length c1):=yQ (qC r0' _) fun x hx=>eW _ x (by simp) hx
  have eP:=cK _ _ (nL.setCell (p:=⟨w.heap.size,0,none⟩) (br _) (.slice a1 t.args.length c1)) (by omega)
  have iD:Rep (w.heap.size<=·) W (jX t) (.slice a1 t.args.length c1):=(Rep.keep fun b o h ho=>⟨by omega,eW b o (by omega) (by rw [b5 _ _ _ _ (by simp;omega)];exact ho)⟩).1 _ _ iJ
  have FIN:Hid (∀ o,qE s text w (.returned (.tuple #[.agg #[.slice a1 t.args.length c1],.agg #[str s',.int .i64 v',.slice a2 n2 c2,.slice a3 n3 c3],.bool false])) (W.alloc o).drew):=fun o =>
   qE.no (a:=a1) (c:=c1) (by rw [HT.out]) rfl HN.out ((eP.alloc eP.size o).drew) (by rw [HT.out];exact ((Rep.keep fun b o h ho=>⟨h,zX ho⟩).1 _ _ iD).drew)
  have HW:=bc hW;clear h0 hW cK eW eP iD
  go_wp2_with fail
  go_region
  go_wp2_with fail
  rw [<- HW.out]
  refine bodyPost_ret (v:=.tuple #[.agg #[.slice a1 t.args.length c1],.agg #[str s',.int .i64 v',.slice a2 n2 c2,.slice a3 n3 c3],.bool false]) (by simp [results,Tryz.results31,go_sem,zU t0,zU s0,zU s1,zU s2,zU s3]) rfl ?_
  exact FIN.out _
 obtain ⟨b,hqb⟩:∃ b,rdN 101 t.args text=some (b,[]):=by
  cases hq:rdN 101 t.args text with
  | none=>have:=fB hq;omega
  | some x =>
    obtain ⟨b,rest⟩:=x
    have h1:=(eE b rest hq).1
    have:rest.length=0:=by omega
    rw [List.eq_nil_of_length_eq_zero this];exact ⟨b,rfl⟩
 have hrB:=(eE b [] hqb).2
 have eX:=rdN_size 101 hqb
 have hm:zT s text=if zL b<=200 then some b else none:=by
  rw [HM.out,hqb];simp
 have HM:=bc hm
 have hlB:Lim (zL b):=hl.mono (by simp at eX;omega)
 have g1:(k == (text.length:Int))=true:=by rw [beq_iff_eq];exact hk
 clear hm hqb fB eE eX
 have HK:=bc hk;clear hk
 have oz:zG (w.heap.size+1 < ·) (w2.alloc (.cells #[str s',.int .i64 v',.slice a2 n2 c2,.slice a3 n3 c3] 64)) (kC b) [str s',.int .i64 v',.slice a2 n2 c2,.slice a3 n3 c3] :=
  (Rep.keep fun b o h ho=>⟨by have:=vS h;omega,zX ho⟩).2 _ _ hrB
 have hTA:(w2.alloc (.cells #[str s',.int .i64 v',.slice a2 n2 c2,.slice a3 n3 c3] 64)).cell? ⟨w1.heap.size,0,none⟩=some (.slice a1 t.args.length c1):=zU hT2
 have n0:(w2.alloc (.cells #[str s',.int .i64 v',.slice a2 n2 c2,.slice a3 n3 c3] 64)).cell? ⟨w2.heap.size,0,none⟩=some (str s'):=by simp
 have n1:(w2.alloc (.cells #[str s',.int .i64 v',.slice a2 n2 c2,.slice a3 n3 c3] 64)).cell? ⟨w2.heap.size,1,none⟩=some (.int .i64 v'):=by simp
 have Aq:(w2.alloc (.cells #[str s',.int .i64 v',.slice a2 n2 c2,.slice a3 n3 c3] 64)).cell? ⟨w2.heap.size,2,none⟩=some (.slice a2 n2 c2):=by simp
 have Ap:(w2.alloc (.cells #[str s',.int .i64 v',.slice a2 n2 c2,.slice a3 n3 c3] 64)).cell? ⟨w2.heap.size,3,none⟩=some (.slice a3 n3 c3):=by simp
 have tg:KeepS w1.heap.size w2.heap.size (.slice a1 t.args.length c1) (str s') (.int .i64 v') (.slice a2 n2 c2) (.slice a3 n3 c3) (w2.alloc (.cells #[str s',.int .i64 v',.slice a2 n2 c2,.slice a3 n3 c3] 64)):=⟨hTA,n0,n1,Aq,Ap⟩
 have hK3d:KeepS w1.heap.size w2.heap.size (.slice a1 t.args.length c1) (str s') (.int .i64 v') (.slice a2 n2 c2) (.slice a3 n3 c3) (w2.alloc (.cells #[str s',.int .i64 v',.slice a2 n2 c2,.slice a3 n3 c3] 64)).drew:=tg
 have rJ:w1.heap.size≠w.heap.size:=by omega
 have rQ:w2.heap.size≠w.heap.size:=by omega
 have e6:w1.heap.size≠w.heap.size+1:=by omega
 have er:w2.heap.size≠w.heap.size+1:=by omega
 clear hTA n0 n1 Aq Ap
 go_wp2_with fail
 go_region_held3 (fun w'=>w'.cell? ⟨w1.heap.size,0,none⟩=some (.slice a1 t.args.length c1)/\w'.cell? ⟨w2.heap.size,0,none⟩=some (str s')/\w'.cell? ⟨w2.heap.size,1,none⟩=some (.int .i64 v')/\w'.cell? ⟨w2.heap.size,2,none⟩=some (.slice a2 n2 c2)/\w'.cell? ⟨w2.heap.size,3,none⟩=some (.slice a3 n3 c3))
  (first
   | with_reducible exact tg
   | with_reducible exact hK3d
   | with_reducible exact tH
   | with_reducible exact tH.set _ _ _ rJ rQ
   | with_reducible exact (tH.set _ _ _ rJ rQ).set _ _ _ e6 er
   | with_reducible exact ((tH.set _ _ _ rJ rQ).set _ _ _ e6 er).set _ _ _ e6 er
   | with_reducible exact (((tH.set _ _ _ rJ rQ).set _ _ _ e6 er).set _ _ _ e6 er).set _ _ _ e6 er
   | with_reducible exact ((((tH.set _ _ _ rJ rQ).set _ _ _ e6 er).set _ _ _ e6 er).set _ _ _ e6 er).set _ _ _ e6 er
   | with_reducible exact tH.set _ _ _ e6 er
   | with_reducible exact (tH.set _ _ _ e6 er).set _ _ _ e6 er
   | with_reducible exact ((tH.set _ _ _ e6 er).set _ _ _ e6 er).set _ _ _ e6 er
   | with_reducible exact (((tH.set _ _ _ e6 er).set _ _ _ e6 er).set _ _ _ e6 er).set _ _ _ e6 er
   | with_reducible exact ((((tH.set _ _ _ e6 er).set _ _ _ e6 er).set _ _ _ e6 er).set _ _ _ e6 er).set _ _ _ rJ rQ)
  (first
   | (go_at_call 65;refine (l3Size_any (zL b) b (br _) hlB (w.heap.size+1 < ·) _ _ _ _ _ _ _ _ _ (by exact oz.drew)).mono ?_;rintro en w5 ⟨rfl,cF⟩;have tH:KeepS w1.heap.size w2.heap.size (.slice a1 t.args.length c1) (str s') (.int .i64 v') (.slice a2 n2 c2) (.slice a3 n3 c3) w5:=⟨(cF.cell (by simp;omega)).trans tg.1,(cF.cell (by simp)).trans tg.2.1,(cF.cell (by simp)).trans tg.2.2.1,(cF.cell (by simp)).trans tg.2.2.2.1,(cF.cell (by simp)).trans tg.2.2.2.2⟩;have z5:=cF.size;have hz5:w.heap.size<w5.heap.size:=(by simp at z5;omega);have r5:w5.cell? ⟨w.heap.size,0,none⟩=some (.slice none 0 0):=(cF.cell (by simp;omega)).trans (zU r0');have f5:w5.frozen? ⟨w.heap.size,0,none⟩=false:=(cF.frozen (by simp;omega)).trans ((World.frozen?_of_block (w:=w2) (Below.heap_alloc _ _ _ y1)).trans rf0');have hN5:kY (w.heap.size+1) 0 (.slice none 0 0) (.slice none 0 0) w5:=(by unfold kY;rw [cF.block _ (by simp;omega)];exact zX hN');obtain ⟨p0,p1,p2,p3,pl,pf⟩:=hN5.cells;have pf0:=pf 0;have pf1:=pf 1;have pf2:=pf 2;have pf3:=pf 3;clear pf))
 go_wp2_with fail
 have h0:kY (w.heap.size+1) 0 (.slice none 0 0) (.slice none 0 0) (w5.setCell ⟨w.heap.size,0,none⟩ (.slice a1 t.args.length c1)):=by
  unfold kY;rw [b5 _ _ _ _ (by simp)];exact hN5
 obtain ⟨W,hW,s0,s1,s2,s3,cK,eW⟩:=h0.store (str s') (.int .i64 v') (.slice a2 n2 c2) (.slice a3 n3 c3)
 have t0:W.cell? ⟨w.heap.size,0,none⟩=some (.slice a1 t.args.length c1):=yQ (qC r5 _) fun x hx=>eW _ x (by simp) hx
 have eL:Below w2.heap.size w2 w5:=((((bi _ _).alloc (br _) _).drew).trans (cF.mono (by simp)))
 have nJ:=zzT nL eL
 have eP:=cK _ _ (nJ.setCell (p:=⟨w.heap.size,0,none⟩) (br _) (.slice a1 t.args.length c1)) (by omega)
 have keepF:∀ i o,w.heap.size+1<i->w2.heap[i]? = some o->W.heap[i]? = some o:=fun i o h ho =>
  eW i o (by omega) (by rw [b5 _ _ _ _ (by simp;omega),eL.block i (zZ ho)];exact ho)
 have iD:Rep (w.heap.size<=·) W (jX t) (.slice a1 t.args.length c1):=(Rep.keep fun b o h ho=>⟨by omega,keepF b o h ho⟩).1 _ _ iJ
 have hrN:zG (w.heap.size<=·) W (kC b) [str s',.int .i64 v',.slice a2 n2 c2,.slice a3 n3 c3]:=(Rep.keep fun b o h ho=>⟨by have:=vS h;omega,keepF b o (by have:=vS h;omega) ho⟩).2 _ _ hrB
 rw [<- hW]
 refine bodyPost_ret (v:=.tuple #[.agg #[.slice a1 t.args.length c1],.agg #[str s',.int .i64 v',.slice a2 n2 c2,.slice a3 n3 c3],.bool (decide ((zL b:Int)<=200))]) (by simp [results,Tryz.results31,go_sem,t0,s0,s1,s2,s3]) rfl ?_
 by_cases Cz:zL b<=200
 ·refine qE.yes (a:=a1) (c:=c1) (by rw [HT.out]) (by rw [decide_eq_true_eq];omega) (by rw [HM.out,if_pos Cz]) eP (by rw [HT.out];exact iD) hrN
 ·exact qE.no (a:=a1) (c:=c1) (by rw [HT.out]) (by rw [decide_eq_false_iff_not];omega) (by rw [HM.out,if_neg Cz]) eP (by rw [HT.out];exact iD)
theorem yK (c:UInt8):dig c=true↔48<=c.toNat/\c.toNat<=57:=by
 simp [dig,UInt8.le_iff_toNat_le]
theorem qy {k:Nat} (h:k<10):(UInt8.ofNat (48+k)).toNat=48+k:=by
 rw [UInt8.toNat_ofNat'];exact Nat.mod_eq_of_lt (by omega)
theorem decDigits_dig (u:Nat):∀ c∈Lib.decDigits u,dig c=true:=by
 induction u using Nat.strongRecOn with
 | _ u ih =>
   intro c hc
   rw [Lib.decDigits] at hc
   split at hc
   ·rename_i h
    rw [List.mem_singleton] at hc;subst hc
    rw [yK,qy h];omega
   ·rename_i h
    rcases List.mem_append.1 hc with hc | hc
    ·exact ih _ (by omega) c hc
    ·simp only [List.mem_singleton] at hc;subst hc
     rw [yK,qy (by omega)];omega
theorem decDigits_val (u:Nat):ke (Lib.decDigits u)=u:=by
 induction u using Nat.strongRecOn with
 | _ u ih =>
   rw [Lib.decDigits]
   split
   ·rename_i h
    show 10*0+((UInt8.ofNat (48+u)).toNat-48)=u
    rw [qy h];omega
   ·rename_i h
    rw [xE,ih _ (by omega),qy (by omega)];omega
theorem wH (u:Nat):Lib.decDigits u≠[]:=by
 intro h
 have:=Lib.decDigits_length u
 have:=Lib.nDigits_pos u
 rw [h] at *;simp at *;omega
theorem bE (u:Nat) (h1:1<=u):(Lib.decDigits u).head?≠some 48:=by
 induction u using Nat.strongRecOn with
 | _ u ih =>
   rw [Lib.decDigits]
   split
   ·rename_i h
    intro e
    rw [List.head?_cons,Option.some.injEq] at e
    have:=qy h
    rw [e] at this
    have nO:(48:UInt8).toNat=48:=rfl
    omega
   ·rename_i h
    rw [List.head?_append]
    have:=ih (u / 10) (by omega) (by omega)
    have cX:=wH (u / 10)
    cases hd:Lib.decDigits (u / 10) with
    | nil=>exact absurd hd cX
    | cons x xs=>rw [hd] at this;simpa using this
theorem pn {u:Nat} (h:u<10000):(Lib.decDigits u).length<=4:=by
 rw [Lib.decDigits_length]
 by_cases h1:u<10
 ·rw [Lib.nDigits_small h1];omega
 rw [Lib.nDigits_big h1]
 by_cases h2:u / 10<10
 ·rw [Lib.nDigits_small h2];omega
 rw [Lib.nDigits_big h2]
 by_cases h3:u / 10 / 10<10
 ·rw [Lib.nDigits_small h3];omega
 rw [Lib.nDigits_big h3]
 rw [Lib.nDigits_small (by omega)];omega
theorem fold_ge (l:Bs):∀ a:Nat,a<=l.foldl (fun n c=>10*n+(c.toNat-48)) a:=by
 induction l with
 | nil=>intro a;simp
 | cons c cs ih=>intro a;simp only [List.foldl_cons];have:=ih (10*a+(c.toNat-48));omega
theorem valOf_pos {l:Bs} (hd:∀ c∈l,dig c=true) (hn:l≠[]) (nO:l.head?≠some 48):1<=ke l:=by
 cases l with
 | nil=>exact absurd rfl hn
 | cons c cs =>
   have h1:=(yK c).1 (hd c (by simp))
   have h2:c.toNat≠48:=fun e=>nO (by simp;exact UInt8.toNat_inj.1 (by simpa using e))
   have:=fold_ge cs (10*0+(c.toNat-48))
   show 1<=cs.foldl _ (10*0+(c.toNat-48))
   omega
theorem wG (n:Nat):∀ w:Bs,w.length=n->w≠[]->(∀ c∈w,dig c=true)->(1<w.length->w.head?≠some 48)->Lib.decDigits (ke w)=w:=by
 induction n with
 | zero=>intro w hl hn;exact absurd (List.eq_nil_of_length_eq_zero hl) hn
 | succ n ih =>
   intro w hl hn hd hh
   obtain ⟨ws,c,rfl⟩:∃ ws c,w=ws++[c]:=⟨w.dropLast,w.getLast hn,(List.dropLast_concat_getLast hn).symm⟩
   have hc:=(yK c).1 (hd c (by simp))
   have hof:UInt8.ofNat (48+(c.toNat-48))=c:=by
    apply UInt8.toNat_inj.1;rw [qy (by omega)];omega
   rw [xE]
   by_cases Ay:ws=[]
   ·subst Ay
    show Lib.decDigits (10*0+(c.toNat-48))=[c]
    rw [Lib.decDigits_one (by omega),show 48+(10*0+(c.toNat-48))=48+(c.toNat-48) from by omega,hof]
   ·have tn:1<=ws.length:=by cases ws with
     | nil=>exact absurd rfl Ay
     | cons x xs=>simp
    have nO:ws.head?≠some 48:=by
     have:=hh (by simp;omega)
     rw [List.head?_append] at this
     cases ws with
     | nil=>exact absurd rfl Ay
     | cons x xs=>simpa using this
    have hdw:∀ x∈ws,dig x=true:=fun x hx=>hd x (by simp [hx])
    have hp:=valOf_pos hdw Ay nO
    have hi:=ih ws (by simpa using hl) Ay hdw (fun _=>nO)
    rw [Lib.decDigits,dif_neg (by omega),show (10*ke ws+(c.toNat-48)) / 10=ke ws from by omega,show (10*ke ws+(c.toNat-48)) % 10=c.toNat-48 from by omega,hi,hof]
theorem decFrom_of (l:Bs):∀ a:Nat,(∀ c∈l,dig c=true)->Lib.decFrom a l=some (l.foldl (fun n c=>10*n+(c.toNat-48)) a):=by
 induction l with
 | nil=>intro a _;rfl
 | cons c cs ih =>
   intro a hd
   have hc:=(yK c).1 (hd c (by simp))
   simp only [Lib.decFrom,Lib.digitVal,if_pos hc,List.foldl_cons]
   rw [Nat.mul_comm a 10]
   exact ih _ fun x hx=>hd x (by simp [hx])
theorem lvl_spec {w:Bs} {n v:Nat} (h:lvl w n=some v) (hn:n<=10000):w≠[]/\w.length<=4/\(∀ c∈w,dig c=true)/\(1<w.length->w.head?≠some 48)/\ke w=v/\v<n:=by
 obtain ⟨h1,_,h3⟩:=lvl_lt h
 have e:Lib.itoa (v:Int)=Lib.decDigits v:=by unfold Lib.itoa;rw [if_neg (by omega)];simp
 rw [e] at h3
 subst h3
 refine ⟨wH v,pn (by omega),decDigits_dig v,fun hl=>?_,decDigits_val v,h1⟩
 refine bE v ?_
 rcases Nat.eq_zero_or_pos v with h0 | h0
 ·subst h0;rw [Lib.decDigits_one (by omega)] at hl;simp at hl
 ·exact h0
theorem spec_lvl {w:Bs} {n:Nat} (h1:w≠[]) (h2:w.length<=4) (h3:∀ c∈w,dig c=true) (h4:1<w.length->w.head?≠some 48) (h5:ke w<n):lvl w n=some (ke w):=by
 have ha:Lib.atoiAll w=.ok (ke w:Int):=by
  rw [Lib.atoiAll_short w (by omega)]
  cases w with
  | nil=>exact absurd rfl h1
  | cons c cs =>
    have hc:=(yK c).1 (h3 c (by simp))
    have n45:(c == 45)=false:=by rw [beq_eq_false_iff_ne];rintro rfl;have:(45:UInt8).toNat=45:=rfl;omega
    have n43:(c == 43)=false:=by rw [beq_eq_false_iff_ne];rintro rfl;have:(43:UInt8).toNat=43:=rfl;omega
    simp only [Lib.atoi,n45,n43,Bool.false_eq_true,if_false,Lib.decNat,List.isEmpty_cons]
    rw [decFrom_of _ 0 h3];rfl
 have hi:Lib.itoa (ke w:Int)=w:=by
  have e:Lib.itoa (ke w:Int)=Lib.decDigits (ke w):=by unfold Lib.itoa;rw [if_neg (by omega)];simp
  rw [e,wG w.length w rfl h1 h3 h4]
 unfold lvl
 rw [ha]
 simp only
 rw [if_pos ⟨hi,by omega,by omega⟩];simp
def jV (l:Bs):Prop:=l=[]\/∃ c r,l=c::r/\sep c=true
theorem dig_sep {c:UInt8} (h:dig c=true):sep c=false:=by
 have:=(yK c).1 h
 rw [Bool.eq_false_iff];intro hs
 simp only [sep,Bool.or_eq_true,beq_iff_eq] at hs
 rcases hs with (rfl | rfl) | rfl
 ·have:(32:UInt8).toNat=32:=rfl;omega
 ·have:(40:UInt8).toNat=40:=rfl;omega
 ·have:(41:UInt8).toNat=41:=rfl;omega
theorem gX (l:Bs):l=zN l++zH l:=(List.takeWhile_append_dropWhile).symm
theorem wordDrop (l:Bs):l.drop (zN l).length=zH l:=by
 have h:=gX l
 generalize zN l=a at *
 generalize zH l=b at *
 subst h;simp
theorem gP (l:Bs):jV (zH l):=by
 unfold zH
 induction l with
 | nil=>exact .inl rfl
 | cons c cs ih =>
   rw [List.dropWhile_cons]
   split
   ·exact ih
   ·rename_i h;exact .inr ⟨c,cs,rfl,by simpa using h⟩
theorem word_of {w rest:Bs} (hw:∀ c∈w,sep c=false) (hr:jV rest):zN (w++rest)=w/\zH (w++rest)=rest:=by
 unfold zN zH
 induction w with
 | nil =>
   rcases hr with rfl | ⟨c,r,rfl,hc⟩
   ·exact ⟨rfl,rfl⟩
   ·simp [hc]
 | cons x xs ih =>
   have hx:=hw x (by simp)
   have:=ih fun c hc=>hw c (by simp [hc])
   simp [hx,this.1,this.2]
theorem digsOf_of {w rest:Bs} (hw:∀ c∈w,dig c=true) (hl:w.length<=4) (hr:jV rest):z9 (w++rest)=w:=by
 unfold z9
 rw [List.take_append,List.take_of_length_le hl]
 have key:(rest.take (4-w.length)).takeWhile dig=[]:=by
  rcases hr with rfl | ⟨c,r,rfl,hc⟩
  ·simp
  ·cases 4-w.length with
   | zero=>rfl
   | succ k =>
     rw [List.take_succ_cons,List.takeWhile_cons,if_neg]
     intro h;rw [dig_sep h] at hc;simp at hc
 rw [List.takeWhile_append_of_pos (fun c hc=>hw c hc),key,List.append_nil]
theorem cut_is {c:UInt8} {r:Bs}:cut [c] (c::r)=some r:=by simp [cut,List.isPrefixOf]
theorem ww (rd:RdS) (hs gs:List (List Ty)):∀ {l:Bs} {bs:List Bd} {l1:Bs} {cs:List Bd} {l2:Bs},zY rd hs l=some (bs,l1)->zY rd gs l1=some (cs,l2)->zY rd (hs++gs) l=some (bs++cs,l2):=by
 induction hs with
 | nil=>intro l bs l1 cs l2 h k;simp [zY] at h;obtain ⟨rfl,rfl⟩:=h;simpa using k
 | cons h' hs ih =>
   intro l bs l1 cs l2 h k
   simp only [zY,Option.bind_eq_bind,Option.bind_eq_some_iff,Prod.exists] at h
   obtain ⟨b,m,h1,bs',m',h2,h3⟩:=h
   simp at h3;obtain ⟨rfl,rfl⟩:=h3
   simp only [List.cons_append,zY,Option.bind_eq_bind,h1,Option.bind_some,ih h2 k]
def RdFits (rd:Rd) (rs:RdS) (h:List Ty):Prop:=∀ (left:Nat) (l:Bs) (b:Bd) (r:Bs) (f:Nat),rd h left l=some (b,r,f)->rs h l=some (b,r)/\f+zL b=left/\l.length+1<=r.length+7*zL b
theorem parts_fit {rd:Rd} {rs:RdS} (hs:List (List Ty)) (hf:∀ h∈hs,RdFits rd rs h):∀ {left:Nat} {l:Bs} {bs:List Bd} {r:Bs} {f:Nat},zh rd hs left l=some (bs,r,f)->zY rs hs l=some (bs,r)/\f+zD bs=left/\l.length<=r.length+7*zD bs:=by
 induction hs with
 | nil=>intro left l bs r f h;simp [zh] at h;obtain ⟨rfl,rfl,rfl⟩:=h;simp [zY,zD]
 | cons h' hs ih =>
   intro left l bs r f h
   simp only [zh,Option.bind_eq_bind,Option.bind_eq_some_iff,Prod.exists] at h
   obtain ⟨l1,h1,b,l2,f2,h2,bs',l3,f3,h3,h4⟩:=h
   simp at h4;obtain ⟨rfl,rfl,rfl⟩:=h4
   obtain ⟨a1,a2,a3⟩:=hf h' (by simp) _ _ _ _ _ h2
   obtain ⟨b1,b2,b3⟩:=ih (fun x hx=>hf x (by simp [hx])) h3
   have hc:=qw h1
   refine ⟨?_,by simp [zD];omega,by subst hc;simp [zD];omega⟩
   simp only [zY,kZ,h1,Option.bind_eq_bind,Option.bind_some,a1,b1]
theorem gG {l:Bs} {c:UInt8} (h:zN l=[c]):l=c::zH l:=by
 have:=gX l
 rw [h] at this;simpa using this
theorem specNum_of {w rest:Bs} (h1:w≠[]) (h2:w.length<=4) (h3:∀ c∈w,dig c=true) (h4:1<w.length->w.head?≠some 48) (hr:jV rest):qU (w++rest)=some (ke w,w.length):=by
 unfold qU
 rw [digsOf_of h3 h2 hr,if_neg]
 rintro (h | ⟨h,h'⟩)
 ·exact h1 h
 ·apply h4 h
  cases w with
  | nil=>exact absurd rfl h1
  | cons x xs=>simpa using h'
theorem rdB_fits (d:Nat):∀ levels,kd d levels->RdFits (rdB d) (rdN (d+1)) levels:=by
 induction d with
 | zero =>
   intro levels hh left l b r f h
   rcases left with _ | left
   ·simp [rdB] at h
   rcases ze [40] l with h1 | ⟨r1,h1⟩
   ·rw [xe 0 levels left h1.out] at h
    have key:∀ c:UInt8,(c=116\/c=102\/c=117)->zN l=[c]->rdN 1 levels l=some (.leaf c,zH l)/\left+zL (.leaf c)=left+1/\l.length+1<=(zH l).length+7*zL (.leaf c):=by
     intro c hc hw
     have e:=gG hw
     refine ⟨?_,rfl,?_⟩
     ·conv=>lhs;rw [e]
      simp only [rdN,if_pos hc]
     ·have:=congrArg List.length e;simp at this;simp [zL];omega
    split at h
    ·rename_i hw;simp at h;obtain ⟨rfl,rfl,rfl⟩:=h;exact key _ (by decide) hw
    ·split at h
     ·rename_i hw;simp at h;obtain ⟨rfl,rfl,rfl⟩:=h;exact key _ (by decide) hw
     ·split at h
      ·rename_i hw;simp at h;obtain ⟨rfl,rfl,rfl⟩:=h;exact key _ (by decide) hw
      ·simp at h
   ·rw [xi 0 levels left h1.out] at h
    cases hv:lvl (zN r1) levels.length with
    | none=>rw [hv] at h;simp at h
    | some v=>rw [hv] at h;simp at h
 | succ d ih =>
   intro levels hh left l b r f h
   rcases left with _ | left
   ·simp [rdB] at h
   rcases ze [40] l with h1 | ⟨r1,h1⟩
   ·rw [xe (d+1) levels left h1.out] at h
    have key:∀ c:UInt8,(c=116\/c=102\/c=117)->zN l=[c]->rdN (d+1+1) levels l=some (.leaf c,zH l)/\left+zL (.leaf c)=left+1/\l.length+1<=(zH l).length+7*zL (.leaf c):=by
     intro c hc hw
     have e:=gG hw
     refine ⟨?_,rfl,?_⟩
     ·conv=>lhs;rw [e]
      simp only [rdN,if_pos hc]
     ·have:=congrArg List.length e;simp at this;simp [zL];omega
    split at h
    ·rename_i hw;simp at h;obtain ⟨rfl,rfl,rfl⟩:=h;exact key _ (by decide) hw
    ·split at h
     ·rename_i hw;simp at h;obtain ⟨rfl,rfl,rfl⟩:=h;exact key _ (by decide) hw
     ·split at h
      ·rename_i hw;simp at h;obtain ⟨rfl,rfl,rfl⟩:=h;exact key _ (by decide) hw
      ·simp at h
   ·rw [xi (d+1) levels left h1.out] at h
    cases hv:lvl (zN r1) levels.length with
    | none=>rw [hv] at h;simp at h
    | some v =>
      rw [hv] at h
      simp only at h
      cases ht:levels[v]? with
      | none=>rw [ht] at h;simp at h
      | some t =>
        rw [ht] at h
        simp only [gj,Option.bind_eq_bind,Option.bind_eq_some_iff,Prod.exists] at h
        obtain ⟨ss,l1,f1,h2,yn,l2,f2,h3,h4⟩:=h
        have hl:levels.length<=10000:=by have:=hh.2;omega
        obtain ⟨w1,w2,w3,w4,w5,w6⟩:=lvl_spec hv hl
        split at h4
        ·rename_i y n
         simp only [Option.bind_eq_some_iff] at h4
         obtain ⟨l3,h5,h6⟩:=h4
         simp at h6;obtain ⟨rfl,rfl,rfl⟩:=h6
         have k1:=parts_fit (rs:=rdN (d+1)) (t.args.map fun a=>levels++a.args) (fun x hx=>by
          obtain ⟨a,ha,rfl⟩:=List.mem_map.1 hx
          exact ih _ (hh.next ht ha)) h2
         have fY:kd d levels:=by have:=hh.same;rwa [List.append_nil] at this
         have k2:=parts_fit (rs:=rdN (d+1)) [levels,levels] (fun x hx=>by
          have:x=levels:=by simpa using hx
          subst this;exact ih _ fY) h3
         have iN:=(ug (gq d) _ h2).2.2
         rw [List.length_map] at iN
         have hc:=qw h5
         have me:=qw h1.out
         have hw:=gX r1
         have A9:=specNum_of (rest:=zH r1) w1 w2 w3 w4 (gP r1)
         rw [<- hw,w5] at A9
         have cq:zY (rdN (d+1)) (kR levels t) (zH r1)=some (ss++[y,n],l2):=ww _ _ _ k1.1 k2.1
         refine ⟨?_,?_,?_⟩
         ·conv=>lhs;rw [me]
          rw [rdN]
          rw [if_neg (by decide),if_neg (by decide),A9]
          simp only [ht]
          rw [wordDrop]
          simp only [cq,Option.bind_eq_bind,Option.bind_some,h5,yX]
          rw [List.drop_left' iN,List.take_left' iN];rfl
         ·have a1:=k1.2.1;have a2:=k2.2.1
          simp [zL,zD] at a1 a2 ⊢;omega
         ·have a1:=k1.2.2;have a2:=k2.2.2
          have tn:=congrArg List.length hw
          have fK:=congrArg List.length hc
          have hc1l:=congrArg List.length me
          simp [zL,zD] at a1 a2 tn fK hc1l ⊢;omega
        ·simp at h4
theorem vQ {rs:RdS} {hs:List (List Ty)} {l:Bs} {ps:List Bd} {r:Bs} (h:zY rs hs l=some (ps,r)) (hr:jV r):jV l:=by
 cases hs with
 | nil=>simp [zY] at h;obtain ⟨_,rfl⟩:=h;exact hr
 | cons h' hs =>
   simp only [zY,kZ,Option.bind_eq_bind,Option.bind_eq_some_iff,Prod.exists] at h
   obtain ⟨_,_,⟨l1,h1,_⟩,_⟩:=h
   have:=qw h1
   exact .inr ⟨32,l1,this,rfl⟩
def RdBack (rd:Rd) (rs:RdS) (h:List Ty):Prop:=∀ (left:Nat) (l:Bs) (b:Bd) (r:Bs),rs h l=some (b,r)->jV r->zL b<=left->rd h left l=some (b,r,left-zL b)
theorem gh {rd:Rd} {rs:RdS} (hs:List (List Ty)) (hf:∀ h∈hs,RdBack rd rs h):∀ (left:Nat) (l:Bs) (ps:List Bd) (r:Bs),zY rs hs l=some (ps,r)->jV r->zD ps<=left->zh rd hs left l=some (ps,r,left-zD ps):=by
 induction hs with
 | nil=>intro left l ps r h _ _;simp [zY] at h;obtain ⟨rfl,rfl⟩:=h;simp [zh,zD]
 | cons h' hs ih =>
   intro left l ps r h hr eX
   simp only [zY,kZ,Option.bind_eq_bind,Option.bind_eq_some_iff,Prod.exists] at h
   obtain ⟨b,l2,⟨l1,h1,h2⟩,bs,l3,h3,h4⟩:=h
   simp at h4;obtain ⟨rfl,rfl⟩:=h4
   simp [zD] at eX
   have hb:=hf h' (by simp) left l1 b l2 h2 (vQ h3 hr) (by omega)
   have sK:=ih (fun x hx=>hf x (by simp [hx])) (left-zL b) l2 bs l3 h3 hr (by omega)
   simp only [zh,h1,Option.bind_eq_bind,Option.bind_some,hb,sK]
   simp [zD];omega
theorem pm (rs:RdS) (hs gs:List (List Ty)):∀ {l:Bs} {ps:List Bd} {r:Bs},zY rs (hs++gs) l=some (ps,r)->∃ bs l1 cs,ps=bs++cs/\zY rs hs l=some (bs,l1)/\zY rs gs l1=some (cs,r):=by
 induction hs with
 | nil=>intro l ps r h;exact ⟨[],l,ps,rfl,rfl,h⟩
 | cons h' hs ih =>
   intro l ps r h
   simp only [List.cons_append,zY,Option.bind_eq_bind,Option.bind_eq_some_iff,Prod.exists] at h
   obtain ⟨b,m,h1,bs',m',h2,h3⟩:=h
   simp at h3;obtain ⟨rfl,rfl⟩:=h3
   obtain ⟨bs,l1,cs,rfl,a1,a2⟩:=ih h2
   refine ⟨b::bs,l1,cs,rfl,?_,a2⟩
   simp only [zY,Option.bind_eq_bind,h1,Option.bind_some,a1]
theorem xc {m:Bs} {v k:Nat} (h:qU m=some (v,k)):z9 m≠[]/\v=ke (z9 m)/\k=(z9 m).length/\(1<(z9 m).length->(z9 m).head?≠some 48):=by
 unfold qU at h
 split at h
 ·simp at h
 ·rename_i hc
  simp at h
  refine ⟨fun e=>hc (.inl e),h.1.symm,h.2.symm,fun h1 h2=>hc (.inr ⟨h1,?_⟩)⟩
  have hp:=ji m
  obtain ⟨x,hx⟩:=hp
  cases hd:z9 m with
  | nil=>rw [hd] at h1;simp at h1
  | cons y ys=>rw [hd] at hx h2;rw [<- hx];simpa using h2
theorem rdN_back (d:Nat):∀ levels,kd d levels->RdBack (rdB d) (rdN (d+1)) levels:=by
 induction d with
 | zero =>
   intro levels hh left l b r h hr eX
   obtain ⟨left,rfl⟩:∃ x,left=x+1:=⟨left-1,by have:=qm b;omega⟩
   cases l with
   | nil=>simp [rdN] at h
   | cons c m =>
     simp only [rdN] at h
     split at h
     ·rename_i hc
      simp at h;obtain ⟨rfl,rfl⟩:=h
      have dq:cut [40] (c::m)=none:=by
       rcases hc with rfl | rfl | rfl <;> simp [cut,List.isPrefixOf]
      have hw:=word_of (w:=[c]) (rest:=m) (fun x hx=>by
       have:x=c:=by simpa using hx
       subst this;rcases hc with rfl | rfl | rfl <;> decide) hr
      rw [List.singleton_append] at hw
      rw [xe 0 levels left dq,hw.1,hw.2]
      rcases hc with rfl | rfl | rfl <;> simp [zL]
     ·split at h
      ·simp at h
      ·split at h
       ·simp at h
       ·split at h
        ·simp at h
        ·exfalso
         simp only [Option.bind_eq_bind,Option.bind_eq_some_iff,Prod.exists] at h
         obtain ⟨ps,l1,h1,_⟩:=h
         rename_i t _ _
         cases ha:kR levels t with
         | nil=>have:=vY levels t;rw [ha] at this;simp at this
         | cons x xs=>rw [ha] at h1;simp [zY,kZ] at h1
 | succ d ih =>
   intro levels hh left l b r h hr eX
   obtain ⟨left,rfl⟩:∃ x,left=x+1:=⟨left-1,by have:=qm b;omega⟩
   cases l with
   | nil=>simp [rdN] at h
   | cons c m =>
     rw [rdN] at h
     simp only at h
     split at h
     ·rename_i hc
      simp at h;obtain ⟨rfl,rfl⟩:=h
      have dq:cut [40] (c::m)=none:=by
       rcases hc with rfl | rfl | rfl <;> simp [cut,List.isPrefixOf]
      have hw:=word_of (w:=[c]) (rest:=m) (fun x hx=>by
       have:x=c:=by simpa using hx
       subst this;rcases hc with rfl | rfl | rfl <;> decide) hr
      rw [List.singleton_append] at hw
      rw [xe (d+1) levels left dq,hw.1,hw.2]
      rcases hc with rfl | rfl | rfl <;> simp [zL]
     ·split at h
      ·simp at h
      ·rename_i dq
       have dq:c=40:=by simpa using dq
       subst dq
       cases hn:qU m with
       | none=>rw [hn] at h;simp at h
       | some x =>
         obtain ⟨v,k⟩:=x
         rw [hn] at h
         simp only at h
         cases ht:levels[v]? with
         | none=>rw [ht] at h;simp at h
         | some t =>
           rw [ht] at h
           simp only [Option.bind_eq_bind,Option.bind_eq_some_iff,Prod.exists] at h
           obtain ⟨ps,l2,h1,l3,h2,b',h3,h4⟩:=h
           simp at h4;obtain ⟨rfl,rfl⟩:=h4
           have hc:=qw h2
           have rY:jV l2:=.inr ⟨41,l3,hc,rfl⟩
           have dC:=vQ h1 rY
           obtain ⟨n1,n2,n3,n4⟩:=xc hn
           obtain ⟨bs,l1,cs,e1,p1,p2⟩:=pm _ _ _ h1
           have db:=uB _ p1
           have fK:=uB _ p2
           have rh:=bA h3
           have hw0:m=z9 m++m.drop k:=by
            obtain ⟨x,hx⟩:=ji m
            have gen:∀ (a b c:Bs),a++b=c->c.drop a.length=b:=by rintro a b c rfl;simp
            rw [n3,gen _ _ _ hx,hx]
           have hw:=word_of (w:=z9 m) (rest:=m.drop k) (fun x hx=>dig_sep (jm m x hx)) dC
           rw [<- hw0] at hw
           have fS:v<levels.length:=(List.getElem?_eq_some_iff.1 ht).1
           have dx:=spec_lvl (n:=levels.length) n1 (y7 m).1 (jm m) n4 (by rw [<- n2];exact fS)
           rw [<- n2] at dx
           have hsl1:jV l1:=vQ p2 rY
           have hszs:zD ps=zD bs+zD cs:=by rw [e1,kk]
           have fY:kd d levels:=by have:=hh.same;rwa [List.append_nil] at this
           have k1:=gh (rd:=rdB d) (t.args.map fun a=>levels++a.args) (fun x hx=>by
            obtain ⟨a,ha,rfl⟩:=List.mem_map.1 hx
            exact ih _ (hh.next ht ha)) left (m.drop k) bs l1 p1 hsl1 (by omega)
           have k2:=gh (rd:=rdB d) [levels,levels] (fun x hx=>by
            have:x=levels:=by simpa using hx
            subst this;exact ih _ fY) (left-zD bs) l1 cs l2 p2 rY (by omega)
           have Ca:bs.length=t.args.length:=by simpa [zu] using db
           obtain ⟨y,n,rfl⟩:∃ y n,cs=[y,n]:=by
            match cs,fK with
            | [a,b],_=>exact ⟨a,b,rfl⟩
           have hb:b'=.ask v bs y n:=by
            rw [e1] at h3
            unfold yX at h3
            rw [List.drop_left' Ca,List.take_left' Ca] at h3
            simpa using h3.symm
           subst hb
           rw [xi (d+1) levels left (l:=40::m) cut_is,hw.1,dx]
           simp only [ht]
           rw [hw.2]
           simp only [gj,k1,k2,Option.bind_eq_bind,Option.bind_some,h2]
           simp [zL,zD] at *;omega
theorem rdStrat_eq (t:Ty) (ht:zV t<=15) (l:Bs):kX t l=(if 2000<l.length then none else match rdN 101 t.args l with
 | none=>none
 | some (b,rest)=>if rest=[]/\zL b<=200 then some b else none):=by
 have hh:=handOk_of ht
 cases hq:kX t l with
 | some b =>
   have h1:∃ f,rdB 100 t.args 200 l=some (b,[],f):=by
    unfold kX at hq
    split at hq
    ·rename_i b' f he
     simp at hq;subst hq;exact ⟨f,he⟩
    ·simp at hq
   obtain ⟨f,h1⟩:=h1
   obtain ⟨a1,a2,a3⟩:=rdB_fits 100 t.args hh _ _ _ _ _ h1
   have:¬ 2000<l.length:=by simp at a3;omega
   rw [if_neg this,a1]
   simp only
   rw [if_pos ⟨by trivial,by omega⟩]
 | none =>
   symm
   split
   ·rfl
   ·cases hn:rdN 101 t.args l with
    | none=>rfl
    | some x =>
      obtain ⟨b,rest⟩:=x
      simp only
      split
      ·rename_i hc
       obtain ⟨rfl,hc⟩:=hc
       have:=rdN_back 100 t.args hh 200 l b [] hn (.inl rfl) hc
       unfold kX at hq
       rw [this] at hq;simp at hq
      ·rfl
theorem uw (s l:Bs):xS s l=(zT s l).map fun b=>((zQ s).1,b):=by
 unfold xS zT
 rw [yF]
 cases cH:(zQ s).2 with
 | false=>simp
 | true =>
   have cQ:=qN cH
   simp only [if_true,Option.bind_eq_bind,Option.bind_some]
   rw [rdStrat_eq _ cQ]
   by_cases h2:2000<l.length
   ·simp [h2]
   ·simp only [h2,if_false,Bool.true_eq_false,false_or]
    cases rdN 101 (zQ s).1.args l with
    | none=>rfl
    | some x =>
      obtain ⟨b,rest⟩:=x
      simp only
      split <;> rfl
mutual
def kJ:List Ty->Bd->Prop
 | _,.leaf _=>True
 | hand,.ask v ss y n=>∃ t,hand[v]? = some t/\zg (zu hand t.args) ss/\kJ hand y/\kJ hand n
def zg:List (List Ty)->List Bd->Prop
 | hs,[]=>hs=[]
 | hs,b::bs=>∃ h eN,hs=h::eN/\kJ h b/\zg eN bs
end
mutual
def wo:Bd->Bd->Bool
 | .leaf c,.leaf d=>c == 117 || c == d
 | .leaf c,.ask _ _ _ _=>c == 117
 | .ask _ _ _ _,.leaf _=>false
 | .ask v ss y n,.ask v' ss' y' n'=>v == v' && (y_ ss ss' && (wo y y' && wo n n'))
def y_:List Bd->List Bd->Bool
 | a::xs,b::bs=>wo a b && y_ xs bs
 | [],_=>true
 | _::_,[]=>false
end
theorem qL (levels ts:List Ty):(zu levels ts).length=ts.length:=by simp [zu]
theorem u_:∀ (xs:List Bd) (bs:List Bd) (hs ks:List (List Ty)),zg hs xs->zg ks bs->zg (hs++ks) (xs++bs)
 | [],bs,hs,ks,h1,h2=>by rw [zg] at h1;subst h1;simpa using h2
 | a::xs,bs,hs,ks,h1,h2=>by
   rw [zg] at h1
   obtain ⟨h,eN,rfl,e1,e2⟩:=h1
   exact ⟨h,eN++ks,rfl,e1,u_ xs bs eN ks e2 h2⟩
theorem qI:∀ (xs:List Bd) (hs:List (List Ty)),zg hs xs->hs.length=xs.length
 | [],hs,h=>by rw [zg] at h;simp [h]
 | a::xs,hs,h=>by
   rw [zg] at h
   obtain ⟨h',eN,rfl,e1,e2⟩:=h
   simp [qI xs eN e2]
theorem bG:∀ (xs:List Bd) (hs:List (List Ty)),zg hs xs->∀ (k:Nat) (a:Bd),xs[k]? = some a->∃ h,hs[k]? = some h/\kJ h a
 | [],hs,h,k,a,ha=>by simp at ha
 | a::xs,hs,h,k,a',ha=>by
   rw [zg] at h
   obtain ⟨h',eN,rfl,e1,e2⟩:=h
   cases k with
   | zero=>simp at ha;subst ha;exact ⟨h',rfl,e1⟩
   | succ k=>simp at ha;simpa using bG xs eN e2 k a' ha
theorem bP (h k:List Ty) (y n:Bd):zg [h,k] [y,n]↔kJ h y/\kJ k n:=by
 constructor
 ·intro hf
  rw [zg] at hf
  obtain ⟨a,as',e,h1,h2⟩:=hf
  simp only [List.cons.injEq] at e
  obtain ⟨rfl,rfl⟩:=e
  rw [zg] at h2
  obtain ⟨a,as',e,h3,h4⟩:=h2
  simp only [List.cons.injEq] at e
  obtain ⟨rfl,rfl⟩:=e
  exact ⟨h1,h3⟩
 ·rintro ⟨h1,h2⟩
  exact ⟨h,[k],rfl,h1,k,[],rfl,h2,by rw [zg]⟩
theorem fit_parts {hand:List Ty} {v:Nat} {ss:List Bd} {y n:Bd} (h:kJ hand (.ask v ss y n)):∃ t,hand[v]? = some t/\zg (kR hand t) (vd (.ask v ss y n))/\ss.length=t.args.length:=by
 rw [kJ] at h
 obtain ⟨t,h1,h2,h3,h4⟩:=h
 refine ⟨t,h1,u_ _ _ _ _ h2 ((bP _ _ _ _).2 ⟨h3,h4⟩),?_⟩
 have:=qI _ _ h2
 rw [qL] at this;exact this.symm
theorem pj:∀ (hs:List (List Ty)) (ks:List (List Ty)) (ps:List Bd),zg (hs++ks) ps->zg hs (ps.take hs.length)/\zg ks (ps.drop hs.length)
 | [],ks,ps,h=>by
   constructor
   ·simp [zg]
   ·simpa using h
 | x::hs,ks,[],h=>by simp [zg] at h
 | x::hs,ks,p::ps,h=>by
   simp only [List.cons_append] at h
   rw [zg] at h
   obtain ⟨h',eN,e,e1,e2⟩:=h
   simp only [List.cons.injEq] at e
   obtain ⟨rfl,rfl⟩:=e
   have:=pj hs ks ps e2
   simp only [List.length_cons,List.take_succ_cons,List.drop_succ_cons]
   exact ⟨⟨x,hs,rfl,e1,this.1⟩,this.2⟩
theorem specParts_fit {rd:RdS} (dZ:∀ {h l b r},rd h l=some (b,r)->kJ h b) (hs:List (List Ty)):∀ {l r:Bs} {ps:List Bd},zY rd hs l=some (ps,r)->zg hs ps:=by
 induction hs with
 | nil=>intro l r ps h;simp [zY] at h;obtain ⟨rfl,rfl⟩:=h;simp [zg]
 | cons h' hs ih =>
   intro l r ps h
   simp only [zY,Option.bind_eq_bind,Option.bind_eq_some_iff,Prod.exists] at h
   obtain ⟨b,l1,h1,bs,l2,h2,h3⟩:=h
   simp at h3;obtain ⟨rfl,rfl⟩:=h3
   unfold kZ at h1
   simp only [Option.bind_eq_bind,Option.bind_eq_some_iff] at h1
   obtain ⟨l3,_,h4⟩:=h1
   exact ⟨h',hs,rfl,dZ h4,ih h2⟩
theorem rdN_fit (e:Nat):∀ {h:List Ty} {l:Bs} {b:Bd} {r:Bs},rdN e h l=some (b,r)->kJ h b:=by
 induction e with
 | zero=>intro h l b r hq;simp [rdN] at hq
 | succ e ih =>
   intro h l b r hq
   cases l with
   | nil=>simp [rdN] at hq
   | cons c m =>
     simp only [rdN] at hq
     split at hq
     ·simp at hq;obtain ⟨rfl,rfl⟩:=hq;simp [kJ]
     ·split at hq
      ·simp at hq
      ·split at hq
       ·simp at hq
       ·rename_i v k hsn
        split at hq
        ·simp at hq
        ·rename_i t ht
         simp only [Option.bind_eq_bind,Option.bind_eq_some_iff,Prod.exists] at hq
         obtain ⟨ps,l1,h1,l2,h2,b',h3,h4⟩:=hq
         simp at h4;obtain ⟨rfl,rfl⟩:=h4
         have k1:=specParts_fit ih _ h1
         have k2:=pj _ _ _ k1
         rw [qL] at k2
         unfold yX at h3
         split at h3
         ·rename_i y no hd
          simp at h3;subst h3
          rw [hd,bP] at k2
          rw [kJ]
          exact ⟨t,ht,k2.1,k2.2.1,k2.2.2⟩
         ·simp at h3
theorem specStrat_fit {s text:Bs} {b:Bd} (hq:zT s text=some b):kJ (zQ s).1.args b:=by
 unfold zT at hq
 split at hq
 ·simp at hq
 ·split at hq
  ·simp at hq
  ·rename_i b' rest h
   split at hq
   ·simp at hq;subst hq;exact rdN_fit _ h
   ·simp at hq
theorem wE:∀ (xs bs:List Bd),xs.length=bs.length->(y_ xs bs=true↔∀ (k:Nat) (a b:Bd),xs[k]? = some a->bs[k]? = some b->wo a b=true)
 | [],[],_=>by simp [y_]
 | a::xs,b::bs,h=>by
   simp only [y_,Bool.and_eq_true]
   rw [wE xs bs (by simpa using h)]
   constructor
   ·rintro ⟨h1,h2⟩ k a' b' ha hb
    cases k with
    | zero=>simp at ha hb;subst ha;subst hb;exact h1
    | succ k=>simp at ha hb;exact h2 k a' b' ha hb
   ·intro h
    exact ⟨h 0 a b rfl rfl,fun k a' b' ha hb=>h (k+1) a' b' (by simpa using ha) (by simpa using hb)⟩
def yV (xs bs:List Bd) (k:Nat):Prop:=∀ (j:Nat) (a b:Bd),j<k->xs[j]? = some a->bs[j]? = some b->wo a b=true
theorem yV.zero (xs bs:List Bd):yV xs bs 0:=fun j a b h=>by omega
theorem yV.next {xs bs:List Bd} {k:Nat} (h:yV xs bs k) {a b:Bd} (ha:xs[k]? = some a) (hb:bs[k]? = some b) (hab:wo a b=true):yV xs bs (k+1):=by
 intro j a' b' hj h1 h2
 rcases Nat.lt_or_ge j k with h' | h'
 ·exact h j a' b' h' h1 h2
 ·obtain rfl:j=k:=by omega
  rw [ha] at h1;rw [hb] at h2;simp at h1 h2;subst h1;subst h2;exact hab
theorem yV.all {xs bs:List Bd} (hl:xs.length=bs.length) (h:yV xs bs xs.length):y_ xs bs=true :=
 (wE xs bs hl).2 fun k a b ha hb=>h k a b (List.getElem?_eq_some_iff.1 ha).1 ha hb
def lvOf:Bd->Nat
 | .leaf _=>0
 | .ask v _ _ _=>v
theorem encN_lv {F:Nat->Prop} {w:World} {b:Bd} {s v k y:Value} (h:zG F w (kC b) [s,v,k,y]):v=.int .i64 (lvOf b:Nat):=by
 cases b with
 | leaf c =>
   rw [kC] at h
   obtain ⟨_,_,e,h0,h⟩:=zJ.1 h
   simp only [List.cons.injEq] at e;obtain ⟨rfl,rfl⟩:=e
   obtain ⟨_,_,e,h1,h⟩:=zJ.1 h
   simp only [List.cons.injEq] at e;obtain ⟨rfl,rfl⟩:=e
   exact zI.1 h1
 | ask lv ss yb nb =>
   rw [kC] at h
   obtain ⟨_,_,e,h0,h⟩:=zJ.1 h
   simp only [List.cons.injEq] at e;obtain ⟨rfl,rfl⟩:=e
   obtain ⟨_,_,e,h1,h⟩:=zJ.1 h
   simp only [List.cons.injEq] at e;obtain ⟨rfl,rfl⟩:=e
   exact zI.1 h1
theorem yC (a b:Nat):((a:Int).tmod (b:Int))=((a % b:Nat):Int):=rfl
theorem gE (a b:Nat):((a:Int).tdiv (b:Int))=((a / b:Nat):Int):=rfl
theorem qu (n:Nat) (h:n<9223372036854775808):IntKind.i64.wrap (n:Int)=(n:Int):=by
 simp [IntKind.wrap,IntKind.bits,IntKind.signed];omega
def qi (r:Nat):UInt8:=UInt8.ofNat (48+r)
def dec (n:Nat):Bs:=if n<10 then [qi n] else dec (n / 10)++[qi (n % 10)]
theorem jL {n:Nat} (h:n<10):dec n=[qi n]:=by rw [dec,if_pos h]
theorem uT {n:Nat} (h:¬ n<10):dec n=dec (n / 10)++[qi (n % 10)]:=by rw [dec,if_neg h]
theorem qx (k:Nat):∀ n,n<10 ^ (k+1)->(dec n).length<=k+1:=by
 induction k with
 | zero=>intro n h;rw [jL (by simpa using h)];simp
 | succ k ih =>
   intro n h
   by_cases fL:n<10
   ·rw [jL fL];simp
   ·rw [uT fL]
    have:=ih (n / 10) (by rw [Nat.div_lt_iff_lt_mul (by omega),<- Nat.pow_succ];exact h)
    simp;omega
theorem str_add (a b:Bs):(⟨a.toArray⟩:ByteArray)++(⟨b.toArray⟩:ByteArray)=⟨(a++b).toArray⟩:=by
 have h:((⟨a.toArray⟩:ByteArray)++(⟨b.toArray⟩:ByteArray)).data=(a++b).toArray:=by
  rw [ByteArray.data_append];simp
 cases hx:(⟨a.toArray⟩:ByteArray)++(⟨b.toArray⟩:ByteArray) with
 | mk d=>rw [hx] at h;simp at h;rw [h]
theorem kN {P:Program} (a b:Bs) (h:a.length+b.length<=9223372036854775807) (w:World):(Op.stringOp .add ⟨a.toArray⟩ ⟨b.toArray⟩).run P w=.ok (str (a++b)) w:=by
 rw [run_string_add_sum w _ _ (by rw [xd,xd];exact h),str_add]
mutual
def kt:Bd->Bs
 | .leaf c=>[c]
 | .ask v ss y n=>(((([40]++dec v++kj ss++[32])++kt y)++[32])++kt n)++[41]
def kj:List Bd->Bs
 | []=>[]
 | b::bs=>[32]++kt b++kj bs
end
mutual
def lvB:Bd->Prop
 | .leaf _=>True
 | .ask v ss y n=>v<=10000/\uR ss/\lvB y/\lvB n
def uR:List Bd->Prop
 | []=>True
 | b::bs=>lvB b/\uR bs
end
theorem ja:∀ (xs ys:List Bd),kj (xs++ys)=kj xs++kj ys
 | [],ys=>by simp [kj]
 | x::xs,ys=>by simp [kj,ja xs ys]
theorem textBs_take {ts:List Bd} {k:Nat} {t:Bd} (h:ts[k]? = some t):kj (ts.take (k+1))=kj (ts.take k)++[32]++kt t:=by
 rw [List.take_add_one,h,ja];simp [kj]
theorem lvBs_at:∀ (xs:List Bd),uR xs->∀ (k:Nat) (t:Bd),xs[k]? = some t->lvB t
 | [],_,k,t,h=>by simp at h
 | x::xs,hl,k,t,h=>by
   rw [uR] at hl
   cases k with
   | zero=>simp at h;subst h;exact hl.1
   | succ k=>simp at h;exact lvBs_at xs hl.2 k t h
mutual
theorem qV:∀ (b:Bd),lvB b->(kt b).length+1<=12*zL b
 | .leaf c,_=>by simp [kt,zL]
 | .ask v ss y n,h=>by
   rw [lvB] at h
   have h1:=v7 ss h.2.1
   have h2:=qV y h.2.2.1
   have h3:=qV n h.2.2.2
   have h4:(dec v).length<=5:=qx 4 v (by have:=h.1;omega)
   simp only [kt,zL,List.length_append,List.length_cons,List.length_nil]
   omega
theorem v7:∀ (bs:List Bd),uR bs->(kj bs).length<=12*zD bs
 | [],_=>by simp [kj]
 | b::bs,h=>by
   rw [uR] at h
   have h1:=qV b h.1
   have h2:=v7 bs h.2
   simp only [kj,zD,List.length_append,List.length_cons,List.length_nil]
   omega
end
theorem pd (xs:List Bd) (k:Nat):(kj (xs.take k)).length<=(kj xs).length:=by
 have:=congrArg List.length (ja (xs.take k) (xs.drop k))
 rw [List.take_append_drop,List.length_append] at this
 omega
mutual
def kV:Ty->Bs
 | .mk ts=>textTs ts
def textTs:List Ty->Bs
 | []=>[98]
 | a::ts=>[40,62,32]++(kV a++([32]++(textTs ts++[41])))
end
theorem uH:kV (.mk [])=[98]:=by rw [kV,textTs]
theorem uO (a:Ty) (ts:List Ty):kV (.mk (a::ts))=[40,62,32]++(kV a++([32]++(kV (.mk ts)++[41]))):=by
 rw [kV,textTs,kV]
theorem yh (a:Ty) (ts:List Ty):zV (.mk (a::ts))=1+zV a+zV (.mk ts):=by
 simp only [zV,zE];omega
theorem cut_app (p r:Bs):cut p (p++r)=some r:=by
 unfold cut
 have h:p.isPrefixOf (p++r)=true:=List.isPrefixOf_iff_prefix.2 (List.prefix_append _ _)
 rw [if_pos h];simp
theorem noCut_b (r:Bs):xC [98] ([40,62,32]++r):=by
 show cut [98] ([40,62,32]++r)=none
 rfl
theorem rdK_text (d:Nat):∀ (t:Ty) (r:Bs),zV t<=2*d+1->rdK d (kV t++r)=some (t,r):=by
 have hb:∀ (d:Nat) (r:Bs),rdK d (kV (.mk [])++r)=some (.mk [],r):=fun d r=>by
  rw [uH];exact vW (cut_app [98] r)
 induction d with
 | zero =>
   intro t r h
   obtain ⟨ts⟩:=t
   cases ts with
   | nil=>exact hb 0 r
   | cons a ts=>rw [yh] at h;have:=kL a;have:=kL (.mk ts);omega
 | succ d ih =>
   intro t r h
   obtain ⟨ts⟩:=t
   cases ts with
   | nil=>exact hb _ r
   | cons a ts =>
     rw [yh] at h
     have h1:=kL a;have h2:=kL (.mk ts)
     rw [uO]
     have e:([40,62,32]++(kV a++([32]++(kV (.mk ts)++[41]))))++r=[40,62,32]++(kV a++([32]++(kV (.mk ts)++([41]++r)))):=by simp
     rw [e,kf (noCut_b _)]
     simp only [cut_app,Option.bind_eq_bind,Option.bind_some,ih a _ (by omega:zV a<=2*d+1),ih (.mk ts) _ (by omega:zV (.mk ts)<=2*d+1)]
     rfl
theorem jO:∀ (n:Nat) (t:Ty),zV t<=n->(kV t).length+2=3*zV t:=by
 intro n
 induction n with
 | zero=>intro t h;have:=kL t;omega
 | succ n ih =>
   intro t h
   obtain ⟨ts⟩:=t
   cases ts with
   | nil=>rw [uH];simp [zV,zE]
   | cons a ts =>
     rw [yh] at h ⊢
     have h1:=kL a;have h2:=kL (.mk ts)
     have k1:=ih a (by omega)
     have k2:=ih (.mk ts) (by omega)
     rw [uO]
     simp only [List.length_append,List.length_cons,List.length_nil]
     omega
theorem je {t:Ty} (h:zV t<=15):zQ (kV t)=(t,true):=by
 have hl:=jO 15 t h
 unfold zQ
 rw [if_neg (by omega)]
 have:=rdK_text 20 t [] (by omega)
 rw [List.append_nil] at this
 have h2:rdS 21 (kV t)=some (t,[]):=this
 rw [h2]
 simp [h]
theorem rdKind_text {t:Ty} (h:zV t<=15):qk (kV t)=some t:=by
 unfold qk
 have:=rdK_text 15 t [] (by omega)
 rw [List.append_nil] at this
 rw [this]
 simp [h]
theorem up {t:Ty} (h:zV t<=15) (l:Bs):kX t l=zT (kV t) l:=by
 have h1:=uw (kV t) l
 unfold xS at h1
 rw [rdKind_text h] at h1
 simp only [Option.bind_eq_bind,Option.bind_some] at h1
 rw [je h] at h1
 cases ha:kX t l <;> cases hb:zT (kV t) l <;> rw [ha,hb] at h1 <;> simp at h1 ⊢
 exact h1
inductive Clo where
 | mk (b:Bd) (env:List Clo) (begun:Nat) (path:Bs)
def Clo.body:Clo->Bd | .mk b _ _ _=>b
def Clo.env:Clo->List Clo | .mk _ e _ _=>e
def Clo.begun:Clo->Nat | .mk _ _ n _=>n
def Clo.path:Clo->Bs | .mk _ _ _ p=>p
mutual
def bM:Clo->Ty->Prop
 | .mk b e _ _,t=>∃ h,kw e h/\kJ (h++t.args) b
def kw:List Clo->List Ty->Prop
 | [],h=>h=[]
 | c::cs,h=>∃ t ts,h=t::ts/\bM c t/\kw cs ts
end
theorem xY:∀ (cs:List Clo) (h:List Ty),kw cs h->cs.length=h.length
 | [],h,k=>by rw [kw] at k;simp [k]
 | c::cs,h,k=>by
   rw [kw] at k
   obtain ⟨t,ts,rfl,_,k2⟩:=k
   simp [xY cs ts k2]
theorem envFit_at:∀ (cs:List Clo) (h:List Ty),kw cs h->∀ (i:Nat) (c:Clo),cs[i]? = some c->∃ t,h[i]? = some t/\bM c t
 | [],h,k,i,c,hc=>by simp at hc
 | c::cs,h,k,i,c',hc=>by
   rw [kw] at k
   obtain ⟨t,ts,rfl,k1,k2⟩:=k
   cases i with
   | zero=>simp at hc;subst hc;exact ⟨t,rfl,k1⟩
   | succ i=>simp at hc;simpa using envFit_at cs ts k2 i c' hc
theorem xX:∀ (xs bs:List Clo) (h k:List Ty),kw xs h->kw bs k->kw (xs++bs) (h++k)
 | [],bs,h,k,h1,h2=>by rw [kw] at h1;subst h1;simpa using h2
 | a::xs,bs,h,k,h1,h2=>by
   rw [kw] at h1
   obtain ⟨t,ts,rfl,k1,k2⟩:=h1
   simp only [List.cons_append]
   rw [kw]
   exact ⟨t,ts++k,rfl,k1,xX xs bs ts k k2 h2⟩
end Go.Proofs.YtfedjhgaeikjmaaGreatDoor

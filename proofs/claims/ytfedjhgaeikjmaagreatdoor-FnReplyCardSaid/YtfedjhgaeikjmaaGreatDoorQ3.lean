/- Walks of functions that the statement reaches, and plain words. No conditions. -/
import Derived.Lib.AtoiTie
import Derived.Laws.Concat
import Derived.Test.YtfedjhgaeikjmaaGreatDoorQ2
set_option linter.unusedVariables false
set_option linter.unusedSimpArgs false
set_option maxHeartbeats 10000000
namespace Go.Proofs.YtfedjhgaeikjmaaGreatDoor
open Go.RowKit
def wD (i:Nat) (o:Option (Nat×Nat)) (w:World) (en:Ending) (w':World):Prop :=
 ∃ (v:Nat) (k:Int),en=.returned (.tuple #[.int .i64 v,.int .i64 k])/\w=w'/\(o=none->k = -1)/\(∀ v' c,o=some (v',c)->v=v'/\k=((i+c:Nat):Int))
theorem l3Number_any (l:Bs) (hl:Lim l.length) (i:Nat) (hi:i<=l.length) (w:World) :
 Calls Tryz.prog 102 #[str l,.int .i64 i] w (wD i (qN (l.drop i)) w):=by
 have dd:=hl.le
 obtain ⟨ds,rT⟩:=zzM (kJ (l.drop i))
 have hd4:=yp (l.drop i)
 rw [<- rT] at hd4
 have h4:ds.length<=4:=hd4.1
 have iz:i+ds.length<=l.length:=by have:=hd4.2;simp at this;omega
 have HDS:=bz rT;clear rT hd4
 go_enter Tryz.func102,Tryz.ntmps102
 go_wp2_with fail
 go_loop [6,7] (fun n k=>∃ j:Nat,j<=ds.length/\k=.int .i64 ((i+j:Nat):Int)/\n=.int .i64 (qU (ds.take j):Nat)) (fun _ k=>i+ds.length-(intOf k).toNat)
 case atStart=>exact ⟨0,Nat.zero_le _,by simp,by simp [qU]⟩
 case round =>
  obtain ⟨j,hj,rfl,rfl⟩:=hrel
  by_cases cQ:j<ds.length
  ·have sI:i+j<l.length:=by omega
   have hat:l[i+j]=ds[j]/\dig l[i+j]=true:=by
    have h1:=HDS.out;subst h1
    obtain ⟨hm,e1,e2⟩:=digsOf_at cQ
    rw [List.getElem_drop] at e1 e2
    exact ⟨e1,e2⟩
   have b1:(48:Int)<=((((⟨l.toArray⟩:ByteArray)[i+j]'(kP sI)).toNat:Int))/\((((⟨l.toArray⟩:ByteArray)[i+j]'(kP sI)).toNat:Int))<=57:=by
    have h2:=hat.2
    simp [dig,UInt8.le_iff_toNat_le] at h2
    rw [kr sI];omega
   obtain ⟨b1,b2⟩:=b1
   have hv:qU (ds.take j)<=9999:=by
    have h1:=valOf_lt (ds.take j) (fun c hc=>ji _ c (by have:=HDS.out;rw [<- this];exact List.mem_of_mem_take hc))
    have h2:10 ^ (ds.take j).length<=10 ^ 4:=Nat.pow_le_pow_right (by omega) (by simp;omega)
    omega
   have hs:=valOf_take cQ
   have mR:(qU (ds.take (j+1)):Int)=10*(qU (ds.take j):Int)+(((((⟨l.toArray⟩:ByteArray)[i+j]'(kP sI)).toNat:Int))-48):=by
    rw [kr sI] at b1 ⊢;rw [hs,hat.1] at *;omega
   have HS:=bz mR
   have j4:j<4:=by omega
   clear hs mR hat
   go_wp2_with fail
   go_round
   case rel=>exact ⟨j+1,by omega,by go_num,by rw [HS.out]⟩
   case measure=>simp [intOf];omega
  ·obtain rfl:j=ds.length:=by omega
   have EC:ds.length=4\/i+ds.length=l.length\/∃ h:i+ds.length<l.length,dig l[i+ds.length]=false:=by
    have h1:=HDS.out;subst h1
    rcases digsOf_end (m:=l.drop i) with h | h | ⟨h,h2⟩
    ·exact .inl h
    ·right;left;simp at h;omega
    ·right;right;simp at h;refine ⟨by omega,?_⟩;rw [List.getElem_drop] at h2;exact h2
   have HV:qN (l.drop i)=(if ds=[]\/(1<ds.length/\(l.drop i).head? = some 48) then none else some (qU ds,ds.length)):=by
    unfold qN;rw [<- HDS.out]
   have nz:4<=ds.length\/l.length<=i+ds.length\/(∃ h:i+ds.length<l.length,((((⟨l.toArray⟩:ByteArray)[i+ds.length]'(kP h)).toNat:Int))<48)\/(∃ h:i+ds.length<l.length,(57:Int)<((((⟨l.toArray⟩:ByteArray)[i+ds.length]'(kP h)).toNat:Int))):=by
    rcases EC with h | h | ⟨h,h2⟩
    ·exact .inl (by omega)
    ·exact .inr (.inl (by omega))
    ·simp [dig,UInt8.le_iff_toNat_le] at h2
     by_cases hc:l[i+ds.length].toNat<48
     ·exact .inr (.inr (.inl ⟨h,by rw [kr h];omega⟩))
     ·exact .inr (.inr (.inr ⟨h,by rw [kr h];have:=h2 (by omega);omega⟩))
   clear EC
   rw [List.take_length]
   rcases (by omega:ds.length=0\/ds.length=1\/2<=ds.length) with hn | hn | hn
   ·have e0:((i:Int)+(ds.length:Int) == (i:Int))=true:=by rw [beq_iff_eq];omega
    have fin:wD i (qN (l.drop i)) w (.returned (.tuple #[.int .i64 0,.int .i64 (-1)])) w:=by
     have rA:ds=[]:=List.eq_nil_of_length_eq_zero hn
     refine ⟨0,-1,rfl,rfl,fun _=>rfl,fun v c h=>?_⟩
     rw [HV,if_pos (.inl rA)] at h;simp at h
    have HF:=bz fin;have B9:(ds.length:Int)<=0:=by omega
    clear fin HV hn
    rcases nz with h | h | ⟨h,h2⟩ | ⟨h,h2⟩
    all_goals
     go_wp2_with fail
     all_goals (go_ret2;exact HF.out)
   ·have e0:((i:Int)+(ds.length:Int) == (i:Int))=false:=by rw [beq_eq_false_iff_ne];omega
    have n1:¬ 1<ds.length:=by omega
    have fin:wD i (qN (l.drop i)) w (.returned (.tuple #[.int .i64 (qU ds:Nat),.int .i64 ((i:Int)+(ds.length:Int))])) w:=by
     have rA:¬ (ds=[]\/(1<ds.length/\(l.drop i).head? = some 48)):=by
      rintro (h | h)
      ·rw [h] at hn;simp at hn
      ·omega
     refine ⟨_,_,rfl,rfl,fun h=>?_,fun v c h=>?_⟩
     ·rw [HV,if_neg rA] at h;simp at h
     ·rw [HV,if_neg rA] at h;simp at h;exact ⟨h.1,by omega⟩
    have HF:=bz fin;have fP:1<=ds.length:=by omega
    clear fin HV hn
    rcases nz with h | h | ⟨h,h2⟩ | ⟨h,h2⟩
    all_goals
     go_wp2_with fail
     all_goals (go_ret2;exact HF.out)
   ·have e0:((i:Int)+(ds.length:Int) == (i:Int))=false:=by rw [beq_eq_false_iff_ne];omega
    have n1:1<ds.length:=by omega
    have oq:i<l.length:=by rcases nz with h | h | ⟨h,h2⟩ | ⟨h,h2⟩ <;> omega
    have hhd:(l.drop i).head? = some l[i]:=by rw [List.head?_drop];simp [oq]
    have hdn:ds≠[]:=by intro h;rw [h] at hn;simp at hn
    by_cases rv:l[i]=48
    ·have f1:=j_ oq (n:=48) (by decide) rv
     have fin:wD i (qN (l.drop i)) w (.returned (.tuple #[.int .i64 0,.int .i64 (-1)])) w:=by
      refine ⟨0,-1,rfl,rfl,fun _=>rfl,fun v c h=>?_⟩
      rw [HV,if_pos (.inr ⟨n1,by rw [hhd,rv]⟩)] at h;simp at h
     have HF:=bz fin;clear fin HV hhd rv
     rcases nz with h | h | ⟨h,h2⟩ | ⟨h,h2⟩
     all_goals
      go_wp2_with fail
      all_goals (go_ret2;exact HF.out)
    ·have f1:=jC oq (n:=48) (by decide) rv
     have fin:wD i (qN (l.drop i)) w (.returned (.tuple #[.int .i64 (qU ds:Nat),.int .i64 ((i:Int)+(ds.length:Int))])) w:=by
      have rA:¬ (ds=[]\/(1<ds.length/\(l.drop i).head? = some 48)):=by
       rintro (h | h)
       ·exact hdn h
       ·rw [hhd] at h;exact rv (Option.some.inj h.2)
      refine ⟨_,_,rfl,rfl,fun h=>?_,fun v c h=>?_⟩
      ·rw [HV,if_neg rA] at h;simp at h
      ·rw [HV,if_neg rA] at h;simp at h;exact ⟨h.1,by omega⟩
     have HF:=bz fin;clear fin HV hhd rv
     rcases nz with h | h | ⟨h,h2⟩ | ⟨h,h2⟩
     all_goals
      go_wp2_with fail
      all_goals (go_ret2;exact HF.out)
mutual
def qZ:Bd->List DV
 | .leaf c=>[.val (str [c]),.val (.int .i64 (0:Nat)),.sl 64 4 0 [],.sl 64 4 0 []]
 | .ask v ss y n=>[.val (str []),.val (.int .i64 v),.sl 64 4 ss.length (kS ss),.sl 64 4 2 (qZ y++(qZ n++[]))]
def kS:List Bd->List DV
 | []=>[]
 | b::bs=>qZ b++kS bs
end
theorem yR (b:Bd):(qZ b).length=4:=by cases b <;> simp [qZ]
theorem encNs_length (bs:List Bd):(kS bs).length=bs.length*4:=by
 induction bs with
 | nil=>simp [kS]
 | cons b bs ih=>simp [kS,yR,ih];omega
theorem jH (a b:List Bd):kS (a++b)=kS a++kS b:=by
 induction a with
 | nil=>simp [kS]
 | cons t ts ih=>simp [kS,ih,List.append_assoc]
theorem bW (v:Nat) (ss:List Bd) (y n:Bd):qZ (.ask v ss y n)=[.val (str []),.val (.int .i64 v),.sl 64 4 ss.length (kS ss),.sl 64 4 2 (kS [y,n])]:=by
 simp [qZ,kS]
theorem Tryz.infoN:(Tryz.prog.info? 64).map (fun i=>(i.zero,i.size,i.bytes))=some (some (.agg #[str [],.int .i64 0,.slice none 0 0,.slice none 0 0]),4,72):=by kernel_rfl
def jI (L:Nat) (w:World) (o:Option (Bd×Bs)) (en:Ending) (w':World):Prop :=
 ∃ (s:Bs) (v:Int) (a2:Option Addr) (n2 k2:Nat) (a3:Option Addr) (n3 k3:Nat) (k:Int),en=.returned (.tuple #[.agg #[str s,.int .i64 v,.slice a2 n2 k2,.slice a3 n3 k3],.int .i64 k])/\Below w.heap.size w w'/\(o=none->k = -1) /\
   (∀ b rest,o=some (b,rest)->k=(L:Int)-rest.length/\zv (w.heap.size<=·) w' (qZ b) [str s,.int .i64 v,.slice a2 n2 k2,.slice a3 n3 k3])
theorem jI.no {L:Nat} {w w':World} {o:Option (Bd×Bs)} (ho:o=none) (hb:Below w.heap.size w w') :
 jI L w o (.returned (.tuple #[.agg #[str [],.int .i64 0,.slice none 0 0,.slice none 0 0],.int .i64 (-1)])) w' :=
 ⟨[],0,none,0,0,none,0,0,_,rfl,hb,fun _=>rfl,fun _ _ h=>by rw [ho] at h;simp at h⟩
theorem jI.yes {L:Nat} {w w':World} {o:Option (Bd×Bs)} {b:Bd} {rest:Bs} {s:Bs} {v:Int} {a2:Option Addr} {n2 k2:Nat} {a3:Option Addr} {n3 k3:Nat} {k:Int} (ho:o=some (b,rest)) (hk:k=(L:Int)-rest.length) (hb:Below w.heap.size w w') (hv:zv (w.heap.size<=·) w' (qZ b) [str s,.int .i64 v,.slice a2 n2 k2,.slice a3 n3 k3]) :
 jI L w o (.returned (.tuple #[.agg #[str s,.int .i64 v,.slice a2 n2 k2,.slice a3 n3 k3],.int .i64 k])) w' :=
 ⟨s,v,a2,n2,k2,a3,n3,k3,k,rfl,hb,fun h=>by rw [ho] at h;simp at h,fun _ _ h=>by rw [ho] at h;simp at h;obtain ⟨rfl,rfl⟩:=h;exact ⟨hk,hv⟩⟩
def NodeSaid (l:Bs) (e d:Nat):Prop:=∀ (F:Nat->Prop) (hand:List Ty) (hv:Value) (i:Nat) (w:World),i<=l.length->qK e hand ->
    Rep F w (.sl 61 1 hand.length (qr hand)) hv ->
    Calls Tryz.prog 64 #[str l,.int .i64 i,hv,.int .i64 d] w (jI l.length w (rdN e hand (l.drop i)))
theorem leaf_reps (F:Nat->Prop) (w:World) (c:UInt8):zv F w (qZ (.leaf c)) [str [c],.int .i64 0,.slice none 0 0,.slice none 0 0]:=by
 have hz:Rep F w (.sl 64 4 0 []) (.slice none 0 0):=qu.2 ⟨rfl,none,0,rfl,bw _,fun _=>rfl,.inl rfl⟩
 rw [qZ]
 exact zG.2 ⟨_,_,rfl,z8.2 rfl,zG.2 ⟨_,_,rfl,z8.2 rfl,zG.2 ⟨_,_,rfl,hz,zG.2 ⟨_,_,rfl,hz,zm.2 rfl⟩⟩⟩⟩
theorem rdN_leaf (e:Nat) (hand:List Ty) {l:Bs} {i:Nat} (h:i<l.length) (hc:l[i]=116\/l[i]=102\/l[i]=117):rdN (e+1) hand (l.drop i)=some (.leaf l[i],l.drop (i+1)):=by
 rw [List.drop_eq_getElem_cons h,rdN];simp only [if_pos hc]
theorem rdN_other (e:Nat) (hand:List Ty) {l:Bs} {i:Nat} (h:i<l.length) (hc:¬ (l[i]=116\/l[i]=102\/l[i]=117)) (eZ:¬ l[i]=40):rdN (e+1) hand (l.drop i)=none:=by
 rw [List.drop_eq_getElem_cons h,rdN];simp only [if_neg hc,if_pos eZ]
theorem rdN_40 (e:Nat) (hand:List Ty) {l:Bs} {i:Nat} (h:i<l.length) (eZ:l[i]=40):rdN (e+1) hand (l.drop i)=(match qN (l.drop (i+1)) with
 | none=>none
 | some (v,k)=>match hand[v]? with
   | none=>none
   | some t=>do
     let (ps,l1)<-zY (rdN e) (kT hand t) ((l.drop (i+1)).drop k)
     let l2<-cut [41] l1
     let b<-ur v t.args.length ps
     some (b,l2)):=by
 rw [List.drop_eq_getElem_cons h,rdN]
 rw [if_neg (by rw [eZ];decide),if_neg (by simpa using eZ)]
 try rfl
theorem xl (l:Bs) (hl:Lim l.length) (e d:Nat) (Cf:e+d=101) (F:Nat->Prop) (hand:List Ty) (hv:Value) (i:Nat) (w:World) (hi:i<=l.length)
 (hr:Rep F w (.sl 61 1 hand.length (qr hand)) hv) (du:∀ h:i<l.length,e=0\/¬ l[i]=40) :
 Calls Tryz.prog 64 #[str l,.int .i64 i,hv,.int .i64 d] w (jI l.length w (rdN e hand (l.drop i))):=by
 have dd:=hl.le
 obtain ⟨a0,c0,e0,_⟩:=zI hr
 subst e0
 rcases e with _ | e
 ·have hd1:(100:Int)<(d:Int):=by omega
  clear du
  go_enter Tryz.func64,Tryz.ntmps64
  go_wp2_with fail
  refine bodyPost_ret (v:=.tuple #[.agg #[str [],.int .i64 0,.slice none 0 0,.slice none 0 0],.int .i64 (-1)]) (by simp [results,Tryz.results64,go_sem]) rfl ?_
  exact jI.no (by rfl) (by repeat (first | exact bh _ _ | refine Below.alloc ?_ (bw _) _ | refine Below.setCell ?_ (by simp) _))
 have rA:¬ (100:Int)<(d:Int):=by omega
 by_cases cQ:i<l.length
 rotate_left
 ·clear du
  go_enter Tryz.func64,Tryz.ntmps64
  go_wp2_with fail
  refine bodyPost_ret (v:=.tuple #[.agg #[str [],.int .i64 0,.slice none 0 0,.slice none 0 0],.int .i64 (-1)]) (by simp [results,Tryz.results64,go_sem]) rfl ?_
  exact jI.no (by rw [List.drop_eq_nil_of_le (by omega)];rfl) (by repeat (first | exact bh _ _ | refine Below.alloc ?_ (bw _) _ | refine Below.setCell ?_ (by simp) _))
 have eZ:¬ l[i]=40:=(du cQ).resolve_left (by omega)
 clear du
 by_cases oA:l[i]=116\/l[i]=102\/l[i]=117
 ·have HM:=bz (rdN_leaf e hand cQ oA)
  have hx:((⟨l.toArray⟩:ByteArray).extract i (i+1))=⟨#[l[i]]⟩:=by
   rw [vE];congr 1
   rw [List.drop_take,List.drop_eq_getElem_cons cQ,show i+1-i=1 from by omega];rfl
  have HX:=bz hx;clear hx
  have fin:∀ w':World,Below w.heap.size w w'->jI l.length w (rdN (e+1) hand (l.drop i)) (.returned (.tuple #[.agg #[.string ((⟨l.toArray⟩:ByteArray).extract i (i+1)),.int .i64 0,.slice none 0 0,.slice none 0 0],.int .i64 ((i:Int)+1)])) w':=by
   intro w' hb
   rw [HX.out]
   exact jI.yes (s:=[l[i]]) HM.out (by simp;omega) hb (leaf_reps _ _ _)
  have FIN:=bz fin;clear fin
  have key:((((⟨l.toArray⟩:ByteArray)[i]'(kP cQ)).toNat:Int) == 116)=true\/((((((⟨l.toArray⟩:ByteArray)[i]'(kP cQ)).toNat:Int) == 116)=false/\((((⟨l.toArray⟩:ByteArray)[i]'(kP cQ)).toNat:Int) == 102)=true))\/((((((⟨l.toArray⟩:ByteArray)[i]'(kP cQ)).toNat:Int) == 116)=false/\((((⟨l.toArray⟩:ByteArray)[i]'(kP cQ)).toNat:Int) == 102)=false/\((((⟨l.toArray⟩:ByteArray)[i]'(kP cQ)).toNat:Int) == 117)=true)):=by
   rcases oA with h | h | h
   ·exact .inl (j_ cQ (n:=116) (by decide) h)
   ·exact .inr (.inl ⟨jC cQ (c:=116) (n:=116) (by decide) (by rw [h];decide),j_ cQ (n:=102) (by decide) h⟩)
   ·exact .inr (.inr ⟨jC cQ (c:=116) (n:=116) (by decide) (by rw [h];decide),jC cQ (c:=102) (n:=102) (by decide) (by rw [h];decide),j_ cQ (n:=117) (by decide) h⟩)
  clear oA eZ HM HX
  rcases key with f1 | ⟨f1,f2⟩ | ⟨f1,f2,f3⟩
  all_goals
   go_enter Tryz.func64,Tryz.ntmps64
   go_wp2_with fail
   refine bodyPost_ret (v:=.tuple #[.agg #[.string ((⟨l.toArray⟩:ByteArray).extract i (i+1)),.int .i64 0,.slice none 0 0,.slice none 0 0],.int .i64 ((i:Int)+1)]) (by simp [results,Tryz.results64,go_sem]) rfl ?_
   exact FIN.out _ (by repeat (first | exact bh _ _ | refine Below.alloc ?_ (bw _) _ | refine Below.setCell ?_ (by simp) _))
 have HM:=bz (rdN_other e hand cQ oA eZ)
 have f1:=jC cQ (n:=116) (by decide) (fun h=>oA (.inl h))
 have f2:=jC cQ (n:=102) (by decide) (fun h=>oA (.inr (.inl h)))
 have f3:=jC cQ (n:=117) (by decide) (fun h=>oA (.inr (.inr h)))
 have f4:=yT cQ (n:=40) (by decide) eZ
 clear oA eZ
 go_enter Tryz.func64,Tryz.ntmps64
 go_wp2_with fail
 refine bodyPost_ret (v:=.tuple #[.agg #[str [],.int .i64 0,.slice none 0 0,.slice none 0 0],.int .i64 (-1)]) (by simp [results,Tryz.results64,go_sem]) rfl ?_
 exact jI.no HM.out (by repeat (first | exact bh _ _ | refine Below.alloc ?_ (bw _) _ | refine Below.setCell ?_ (by simp) _))
def kM (ob:Nat) (v:Int) (kslv yslv:Value) (w:World):Prop:=w.heap[ob]? = some (.cells #[str [],.int .i64 v,kslv,yslv] 64 (0,0))
theorem kM.cells {ob:Nat} {v:Int} {ks ys:Value} {w:World} (h:kM ob v ks ys w):w.cell? ⟨ob,0,none⟩=some (str [])/\w.cell? ⟨ob,1,none⟩=some (.int .i64 v)/\w.cell? ⟨ob,2,none⟩=some ks/\w.cell? ⟨ob,3,none⟩=some ys/\ob<w.heap.size/\(∀ o,w.frozen? ⟨ob,o,none⟩=false):=by
 have hl:=zZ h
 unfold kM at h
 exact ⟨by simp [World.cell?,h],by simp [World.cell?,h],by simp [World.cell?,h],by simp [World.cell?,h],hl,fun o=>by simp [World.frozen?,h]⟩
theorem kM.put2 {ob:Nat} {v:Int} {ks ys u:Value} {w:World} (h:kM ob v ks ys w):kM ob v u ys (w.setCell ⟨ob,2,none⟩ u):=by
 unfold kM;rw [k8 h];rfl
theorem kM.put3 {ob:Nat} {v:Int} {ks ys u:Value} {w:World} (h:kM ob v ks ys w):kM ob v ks u (w.setCell ⟨ob,3,none⟩ u):=by
 unfold kM;rw [k8 h];rfl
theorem kM.but {ob:Nat} {v:Int} {ks ys:Value} {m:Nat->Prop} {w w':World} (h:kM ob v ks ys w) (hb:But m w w') (hm:¬ m ob):kM ob v ks ys w':=by
 unfold kM;rw [hb.block ob (zZ h) hm];exact h
theorem kM.below {ob:Nat} {v:Int} {ks ys:Value} {w w':World} {B:Nat} (h:kM ob v ks ys w) (hb:Below B w w') (hm:ob<B):kM ob v ks ys w':=by
 unfold kM;rw [hb.block ob hm];exact h
theorem kM.store {ob:Nat} {v:Int} {ks ys:Value} {w:World} (h:kM ob v ks ys w) (u0 u1 u2 u3:Value) :
 ∃ W,W=((((w.setCell ⟨ob,0,none⟩ u0).setCell ⟨ob,1,none⟩ u1).setCell ⟨ob,2,none⟩ u2).setCell ⟨ob,3,none⟩ u3) /\
   W.cell? ⟨ob,0,none⟩=some u0/\W.cell? ⟨ob,1,none⟩=some u1/\W.cell? ⟨ob,2,none⟩=some u2/\W.cell? ⟨ob,3,none⟩=some u3 /\
   (∀ B w0,Below B w0 w->B<=ob->Below B w0 W)/\(∀ i x,i≠ob->w.heap[i]? = some x->W.heap[i]? = some x):=by
 have hc:((((w.setCell ⟨ob,0,none⟩ u0).setCell ⟨ob,1,none⟩ u1).setCell ⟨ob,2,none⟩ u2).setCell ⟨ob,3,none⟩ u3).heap[ob]? = some (.cells #[u0,u1,u2,u3] 64 (0,0)):=by
  unfold kM at h
  rw [k8 (k8 (k8 (k8 h)))];rfl
 refine ⟨_,rfl,by simp only [World.cell?,hc];rfl,by simp only [World.cell?,hc];rfl,by simp only [World.cell?,hc];rfl,by simp only [World.cell?,hc];rfl,fun B w0 hb hB=>?_,fun i x hi hx=>?_⟩
 ·exact ((((hb.setCell (p:=⟨ob,0,none⟩) hB _).setCell (p:=⟨ob,1,none⟩) hB _).setCell (p:=⟨ob,2,none⟩) hB _).setCell (p:=⟨ob,3,none⟩) hB _)
 ·rw [bf _ _ _ _ (by simpa using hi),bf _ _ _ _ (by simpa using hi),bf _ _ _ _ (by simpa using hi),bf _ _ _ _ (by simpa using hi)];exact hx
structure xA (l:Bs) (w:World) (rd:RdS) (hs:List (List Ty)) (n i0 ob Z v:Nat) (k en:Nat) (wr:World) (ps:List Bd) (kv yv:List Value) (ks:Value) (nk:Nat) (ys:Value) (ny:Nat):Prop where
 hnk:nk=min k n
 hny:ny=k-n
 ksl:∃ a c,ks=.slice a nk c
 ysl:∃ a c,ys=.slice a ny c
 spec:zY rd (hs.take k) (l.drop i0)=some (ps,l.drop en)
 len:ps.length=k
 en:en<=l.length
 below:Below w.heap.size w wr
 res:kM w.heap.size 0 (.slice none 0 0) (.slice none 0 0) wr
 out:kM ob v ks ys wr
 ownK:Own wr 64 4 ks nk kv
 ownY:Own wr 64 4 ys ny yv
 blkK:∀ g,ks.ownBlock=some g->Z<=g/\ys.ownBlock≠some g
 blkY:∀ g,ys.ownBlock=some g->Z<=g
 repK:zv (fun b=>Z<=b/\ks.ownBlock≠some b/\ys.ownBlock≠some b) wr (kS (ps.take n)) kv
 repY:zv (fun b=>Z<=b/\ks.ownBlock≠some b/\ys.ownBlock≠some b) wr (kS (ps.drop n)) yv
 z:Z<=wr.heap.size
theorem xA.kid {l:Bs} {w:World} {rd:RdS} {hs:List (List Ty)} {n i0 ob Z v k en:Nat} {wr:World} {ps:List Bd} {kv yv:List Value} {ks ys:Value} {nk ny:Nat}
 (h:xA l w rd hs n i0 ob Z v k en wr ps kv yv ks nk ys ny) (hk:k<n) (oN:ob<Z) (hwo:w.heap.size<ob) {W w7:World} {b:Bd} {cs:List Value} {a':Option Addr} {c' nU:Nat}
 (cI:Below wr.heap.size wr W) (hcs:zv (wr.heap.size<=·) W (qZ b) cs) (cL:Own w7 64 4 (.slice a' (nk+1) c') (nk+1) (kv++cs)) (cP:But (fun i=>ks.ownBlock=some i) W w7)
 (ch:∀ g,(Value.slice a' (nk+1) c').ownBlock=some g->ks.ownBlock=some g\/g=W.heap.size)
 (tR:zY rd (hs.take (k+1)) (l.drop i0)=some (ps++[b],l.drop nU)) (m9:nU<=l.length) :
 xA l w rd hs n i0 ob Z v (k+1) nU (w7.setCell ⟨ob,2,none⟩ (.slice a' (nk+1) c')) (ps++[b]) (kv++cs) yv (.slice a' (nk+1) c') (nk+1) ys ny:=by
 have z6:=cI.size
 have z7:=cP.size
 have zr:=h.z
 have cU:=h.len
 have keep:∀ i x,wr.heap[i]? = some x->ks.ownBlock≠some i->i≠ob->(w7.setCell ⟨ob,2,none⟩ (.slice a' (nk+1) c')).heap[i]? = some x:=by
  intro i x hx h1 h2
  have:=zZ hx
  rw [bf _ _ _ _ (by simpa using h2),cP.block i (by omega) h1,cI.block i this];exact hx
 have fw:∀ i x,W.heap[i]? = some x->ks.ownBlock≠some i->i≠ob->(w7.setCell ⟨ob,2,none⟩ (.slice a' (nk+1) c')).heap[i]? = some x:=by
  intro i x hx h1 h2
  have:=zZ hx
  rw [bf _ _ _ _ (by simpa using h2),cP.block i (by omega) h1];exact hx
 have ltK:∀ g,ks.ownBlock=some g->g<wr.heap.size:=fun g hg=>h.ownK.lt hg
 have ltY:∀ g,ys.ownBlock=some g->g<wr.heap.size:=fun g hg=>h.ownY.lt hg
 have nK:∀ i,i<Z->ks.ownBlock≠some i:=fun i hi e=>by have:=(h.blkK i e).1;omega
 have newg:∀ g,(Value.slice a' (nk+1) c').ownBlock=some g->Z<=g:=fun g hg=>by
  rcases ch g hg with e | e
  ·exact (h.blkK g e).1
  ·omega
 refine ⟨by rw [h.hnk];omega,by rw [h.hny];omega,⟨_,_,rfl⟩,h.ysl,tR,by simp [cU],m9,?_,?_,?_,?_,?_,?_,h.blkY,?_,?_,by simp [World.setCell];omega⟩
 ·refine Below.setCell ?_ (show w.heap.size<=ob by omega) _
  exact (zzT h.below cI).trans (cP.toBelow (by have:=h.below.size;omega) fun i hi e=>nK i (by omega) e)
 ·exact keep _ _ h.res (nK _ (by omega)) (by omega)
 ·have h1:kM ob v ks ys w7:=by
   unfold kM;rw [cP.block ob (by omega) (nK _ oN),cI.block ob (by omega)];exact h.out
  exact h1.put2
 ·exact cL.keep fun g o hg ho=>by rw [bf _ _ _ _ (by have:=newg g hg;simp;omega)];exact ho
 ·exact h.ownY.keep fun g o hg ho=>keep g o ho (fun e=>(h.blkK g e).2 hg) (by have:=h.blkY g hg;omega)
 ·intro g hg
  refine ⟨newg g hg,fun e=>?_⟩
  rcases ch g hg with e' | e'
  ·exact (h.blkK g e').2 e
  ·have:=ltY g e;omega
 ·rw [List.take_of_length_le (by simp;omega),jH]
  have h1:=h.repK
  rw [List.take_of_length_le (by omega)] at h1
  refine zv.append ((Rep.keep fun i x hi hx=>⟨⟨hi.1,fun e=>(ch i e).elim (fun e'=>hi.2.1 e') (fun e'=>by have:=zZ hx;omega),hi.2.2⟩,keep i x hx hi.2.1 (by have:=hi.1;omega)⟩).2 _ _ h1) ?_
  ·have e1:kS [b]=qZ b:=by simp [kS]
   rw [e1]
   refine (Rep.keep fun i x hi hx=>?_).2 _ _ hcs
   have h2:=zZ hx
   have h3:wr.heap.size<=i:=hi
   refine ⟨⟨by omega,fun e=>?_,fun e=>by have:=ltY i e;omega⟩,fw i x hx (fun e=>by have:=ltK i e;omega) (by omega)⟩
   rcases ch i e with e' | e'
   ·have:=ltK i e';omega
   ·omega
 ·have h1:=h.repY
  rw [List.drop_eq_nil_of_le (by omega)] at h1
  rw [List.drop_eq_nil_of_le (by simp;omega)]
  have:yv=[]:=by simpa [kS,zm] using h1
  subst this;exact zm.2 rfl
theorem xA.yes {l:Bs} {w:World} {rd:RdS} {hs:List (List Ty)} {n i0 ob Z v k en:Nat} {wr:World} {ps:List Bd} {kv yv:List Value} {ks ys:Value} {nk ny:Nat}
 (h:xA l w rd hs n i0 ob Z v k en wr ps kv yv ks nk ys ny) (hk:n<=k) (oN:ob<Z) (hwo:w.heap.size<ob) {W w7:World} {b:Bd} {cs:List Value} {a':Option Addr} {c' nU:Nat}
 (cI:Below wr.heap.size wr W) (hcs:zv (wr.heap.size<=·) W (qZ b) cs) (cL:Own w7 64 4 (.slice a' (ny+1) c') (ny+1) (yv++cs)) (cP:But (fun i=>ys.ownBlock=some i) W w7)
 (ch:∀ g,(Value.slice a' (ny+1) c').ownBlock=some g->ys.ownBlock=some g\/g=W.heap.size)
 (tR:zY rd (hs.take (k+1)) (l.drop i0)=some (ps++[b],l.drop nU)) (m9:nU<=l.length) :
 xA l w rd hs n i0 ob Z v (k+1) nU (w7.setCell ⟨ob,3,none⟩ (.slice a' (ny+1) c')) (ps++[b]) kv (yv++cs) ks nk (.slice a' (ny+1) c') (ny+1):=by
 have z6:=cI.size
 have z7:=cP.size
 have zr:=h.z
 have cU:=h.len
 have keep:∀ i x,wr.heap[i]? = some x->ys.ownBlock≠some i->i≠ob->(w7.setCell ⟨ob,3,none⟩ (.slice a' (ny+1) c')).heap[i]? = some x:=by
  intro i x hx h1 h2
  have:=zZ hx
  rw [bf _ _ _ _ (by simpa using h2),cP.block i (by omega) h1,cI.block i this];exact hx
 have fw:∀ i x,W.heap[i]? = some x->ys.ownBlock≠some i->i≠ob->(w7.setCell ⟨ob,3,none⟩ (.slice a' (ny+1) c')).heap[i]? = some x:=by
  intro i x hx h1 h2
  have:=zZ hx
  rw [bf _ _ _ _ (by simpa using h2),cP.block i (by omega) h1];exact hx
 have ltK:∀ g,ks.ownBlock=some g->g<wr.heap.size:=fun g hg=>h.ownK.lt hg
 have ltY:∀ g,ys.ownBlock=some g->g<wr.heap.size:=fun g hg=>h.ownY.lt hg
 have nY:∀ i,i<Z->ys.ownBlock≠some i:=fun i hi e=>by have:=h.blkY i e;omega
 have newg:∀ g,(Value.slice a' (ny+1) c').ownBlock=some g->Z<=g:=fun g hg=>by
  rcases ch g hg with e | e
  ·exact h.blkY g e
  ·omega
 refine ⟨by rw [h.hnk];omega,by rw [h.hny];omega,h.ksl,⟨_,_,rfl⟩,tR,by simp [cU],m9,?_,?_,?_,?_,?_,?_,newg,?_,?_,by simp [World.setCell];omega⟩
 ·refine Below.setCell ?_ (show w.heap.size<=ob by omega) _
  exact (zzT h.below cI).trans (cP.toBelow (by have:=h.below.size;omega) fun i hi e=>nY i (by omega) e)
 ·exact keep _ _ h.res (nY _ (by omega)) (by omega)
 ·have h1:kM ob v ks ys w7:=by
   unfold kM;rw [cP.block ob (by omega) (nY _ oN),cI.block ob (by omega)];exact h.out
  exact h1.put3
 ·exact h.ownK.keep fun g o hg ho=>keep g o ho (h.blkK g hg).2 (by have:=(h.blkK g hg).1;omega)
 ·exact cL.keep fun g o hg ho=>by rw [bf _ _ _ _ (by have:=newg g hg;simp;omega)];exact ho
 ·intro g hg
  refine ⟨(h.blkK g hg).1,fun e=>?_⟩
  rcases ch g e with e' | e'
  ·exact (h.blkK g hg).2 e'
  ·have:=ltK g hg;omega
 ·rw [List.take_append_of_le_length (by omega)]
  refine (Rep.keep fun i x hi hx=>⟨⟨hi.1,hi.2.1,fun e=>?_⟩,keep i x hx hi.2.2 (by have:=hi.1;omega)⟩).2 _ _ h.repK
  rcases ch i e with e' | e'
  ·exact hi.2.2 e'
  ·have:=zZ hx;omega
 ·rw [List.drop_append_of_le_length (by omega),jH]
  refine zv.append ((Rep.keep fun i x hi hx=>⟨⟨hi.1,hi.2.1,fun e=>(ch i e).elim (fun e'=>hi.2.2 e') (fun e'=>by have:=zZ hx;omega)⟩,keep i x hx hi.2.2 (by have:=hi.1;omega)⟩).2 _ _ h.repY) ?_
  ·have e1:kS [b]=qZ b:=by simp [kS]
   rw [e1]
   refine (Rep.keep fun i x hi hx=>?_).2 _ _ hcs
   have h2:=zZ hx
   have h3:wr.heap.size<=i:=hi
   refine ⟨⟨by omega,fun e=>by have:=ltK i e;omega,fun e=>?_⟩,fw i x hx (fun e=>by have:=ltY i e;omega) (by omega)⟩
   rcases ch i e with e' | e'
   ·have:=ltY i e';omega
   ·omega
theorem zM.lit4 {w:World} {e:TypeId} (cs:Array Value) (hn:cs.size=4) (hc:∀ u∈cs.toList,u.oneCell'=true) (g:Nat) (hg:g=w.heap.size):zM 4 (.slice (some ⟨g,0,none⟩) 1 1) 1 cs.toList (w.alloc (.cells cs e)):=by
 subst hg
 refine ⟨by simp [hn],hc,.inl ⟨_,_,rfl,fun j u hu=>?_⟩⟩
 unfold Addr.add
 split
 ·subst j;simp;simpa using hu
 ·simp;simpa using hu
def NodeRel (l:Bs) (w:World) (rd:RdS) (hs:List (List Ty)) (n i0 ob Z v:Nat) (k en:Nat) (wr:World):Prop :=
 ∃ ps kv yv ks nk ys ny,xA l w rd hs n i0 ob Z v k en wr ps kv yv ks nk ys ny
set_option maxRecDepth 100000 in
theorem l3Read_ask (l:Bs) (hl:Lim l.length) (e d:Nat) (Cf:e+1+d=101) (ih:NodeSaid l e (d+1)) (F:Nat->Prop) (hand:List Ty) (hv:Value) (i:Nat) (w:World) (hi:i<l.length) (hh:qK (e+1) hand)
 (hr:Rep F w (.sl 61 1 hand.length (qr hand)) hv) (eZ:l[i]=40) :
 Calls Tryz.prog 64 #[str l,.int .i64 i,hv,.int .i64 d] w (jI l.length w (rdN (e+1) hand (l.drop i))):=by
 have dd:=hl.le
 have IH:=bz ih;clear ih
 have cU:hand.length<=10000:=by have:=hh.2;omega
 have rA:¬ (100:Int)<(d:Int):=by omega
 have HM:=bz (rdN_40 e hand hi eZ)
 have f1:=jC hi (c:=116) (n:=116) (by decide) (by rw [eZ];decide)
 have f2:=jC hi (c:=102) (n:=102) (by decide) (by rw [eZ];decide)
 have f3:=jC hi (c:=117) (n:=117) (by decide) (by rw [eZ];decide)
 have f4:=uE hi (n:=40) (by decide) eZ
 clear eZ
 obtain ⟨a0,k0,ehv,_,_,hat⟩:=zI hr
 subst ehv
 have Cw:=bz hat;clear hat
 go_enter Tryz.func64,Tryz.ntmps64
 go_wp2_with fail
 rw [show (i:Int)+1=((i+1:Nat):Int) from by omega]
 refine (l3Number_any l hl (i+1) hi _).mono ?_
 rintro en w1 ⟨v,k1,rfl,ew,dX,dx⟩
 obtain rfl:=ew
 cases hq:qN (l.drop (i+1)) with
 | none =>
   obtain rfl:=dX hq
   have hm:rdN (e+1) hand (l.drop i)=none:=by rw [HM.out,hq]
   have HM:=bz hm;clear hm hq dX dx
   go_wp2_with fail
   refine bodyPost_ret (v:=.tuple #[.agg #[str [],.int .i64 0,.slice none 0 0,.slice none 0 0],.int .i64 (-1)]) (by simp [results,Tryz.results64,go_sem]) rfl ?_
   exact jI.no HM.out (by repeat (first | exact bh _ _ | refine Below.alloc ?_ (bw _) _ | refine Below.setCell ?_ (by simp) _))
 | some x =>
 obtain ⟨v',c⟩:=x
 obtain ⟨rfl,rfl⟩:=dx _ _ hq
 have ik:i+1+c<=l.length/\v<=9999:=by
  unfold qN at hq
  split at hq
  ·simp at hq
  ·simp at hq
   obtain ⟨e1,e2⟩:=hq
   have h1:=yp (l.drop (i+1))
   have h2:=valOf_lt (kJ (l.drop (i+1))) (ji _)
   have h3:10 ^ (kJ (l.drop (i+1))).length<=10 ^ 4:=Nat.pow_le_pow_right (by omega) h1.1
   simp at h1;omega
 obtain ⟨ik,hv9⟩:=ik
 have HQ:=bz hq;clear hq dX dx
 by_cases fv:v<hand.length
 rotate_left
 ·have hm:rdN (e+1) hand (l.drop i)=none:=by
   rw [HM.out,HQ.out];simp only
   rw [List.getElem?_eq_none (by omega)]
  have HM:=bz hm;clear hm
  go_wp2_with fail
  refine bodyPost_ret (v:=.tuple #[.agg #[str [],.int .i64 0,.slice none 0 0,.slice none 0 0],.int .i64 (-1)]) (by simp [results,Tryz.results64,go_sem]) rfl ?_
  exact jI.no HM.out (by repeat (first | exact bh _ _ | refine Below.alloc ?_ (bw _) _ | refine Below.setCell ?_ (by simp) _))
 obtain ⟨bl,ol,u,dv,ea,hFl,eD,lT,EJ,nN⟩:=Cw.out v fv
 rw [vx,Option.map_eq_some_iff] at lT
 obtain ⟨t,ht,rfl⟩:=lT
 obtain ⟨sa,ks,rfl⟩:=zp nN
 have rH:=nN
 rw [qn] at rH
 obtain ⟨_,_,est,_,_,cO⟩:=zI rH
 simp only [Value.slice.injEq] at est
 obtain ⟨rfl,_,rfl⟩:=est
 subst ea
 have HT:=bz ht;have iW:=bz cO
 have hm : rdN (e+1) hand (l.drop i)=(do
         let (ps,l1)<-zY (rdN e) (kT hand t) ((l.drop (i+1)).drop c)
         let l2<-cut [41] l1
         let b<-ur v t.args.length ps
         some (b,l2)):=by rw [HM.out,HQ.out];simp only [ht]
 rw [List.drop_drop] at hm
 have HM:=bz hm
 have BZ:t.args.length<=15:=by
  have h1:=hh.1 t (List.mem_of_getElem? ht)
  have h2:=qE t
  have:=qi t.args;omega
 clear hm ht cO rH
 have gv:decide (hand.length<=v)=false:=by rw [decide_eq_false_iff_not];omega
 have gi:decide ((i:Int)+1+(c:Int)<0)=false:=by rw [decide_eq_false_iff_not];omega
 go_wp2_with fail
 have eF:NodeRel l w (rdN e) (kT hand t) t.args.length (i+1+c) (w.heap.size+1) (w.heap.size+2) v 0 (i+1+c)
  ((w.alloc (.cells #[str [],.int .i64 0,.slice none 0 0,.slice none 0 0] 64)).alloc (.cells #[str [],.int .i64 v,.slice none 0 0,.slice none 0 0] 64)):=by
  refine ⟨[],[],[],.slice none 0 0,0,.slice none 0 0,0,by simp,by simp,⟨_,_,rfl⟩,⟨_,_,rfl⟩,by simp [zY],rfl,ik,((bh _ _).alloc (bw _) _).alloc (by simp) _,?_,?_,World.ownsRow_nil _ _ _ _,World.ownsRow_nil _ _ _ _,fun g h=>by simp [Value.ownBlock] at h,fun g h=>by simp [Value.ownBlock] at h,by rw [List.take_nil];exact zm.2 rfl,by rw [List.drop_nil];exact zm.2 rfl,by simp⟩
  ·exact zD (zR _ _)
  ·have:=zR (w.alloc (.cells #[str [],.int .i64 0,.slice none 0 0,.slice none 0 0] 64)) (.cells #[str [],.int .i64 v,.slice none 0 0,.slice none 0 0] 64)
   rw [zK] at this;exact this
 generalize FB:i+1+c=i0 at *
 rw [show (i:Int)+1+(c:Int)=(i0:Int) from by omega]
 have HI0:=bz FB;clear FB
 go_loopw [11,14] (fun a b wr=>∃ k en:Nat,k<=t.args.length+2/\a=.int .i64 en/\b=.int .i64 k/\NodeRel l w (rdN e) (kT hand t) t.args.length i0 (w.heap.size+1) (w.heap.size+2) v k en wr)
  (fun _ b _=>t.args.length+2-(intOf b).toNat)
 case atStart=>exact ⟨0,i0,Nat.zero_le _,rfl,rfl,eF⟩
 case round =>
  clear eF
  rename_i wr
  obtain ⟨k,en,hk,rfl,rfl,hrel⟩:=hrel
  obtain ⟨ps,kv,yv,ks,nk,ys,ny,hrel⟩:=hrel
  have rJ:=hrel.res;have du:=hrel.out;have hb:=hrel.below;have tY:=hrel.en;have zr:=hrel.z
  have HP:=bz hrel.spec
  have nkl:nk<=17:=by have:=hrel.hnk;omega
  have nyl:ny<=2:=by have:=hrel.hny;omega
  obtain ⟨ka,kc,eks⟩:=hrel.ksl
  obtain ⟨ya,yc,eys⟩:=hrel.ysl
  subst eks;subst eys
  have HR:=bz hrel;clear hrel
  obtain ⟨r0,r1,r2,r3,rl,rf⟩:=rJ.cells
  obtain ⟨q0,q1,q2,q3,ql,qf⟩:=du.cells
  have s5:=rf 0;have ig:=rf 1;have BH:=rf 2;have BG:=rf 3;clear rf
  have im:=qf 2;have oV:=qf 3;clear qf
  by_cases cQ:k<t.args.length+2
  ·have mH:(k:Int)<(t.args.length:Int)+2:=by omega
   by_cases lw:∃ h:en<l.length,l[en]=32
   rotate_left
   ·have hm:rdN (e+1) hand (l.drop i)=none:=by
     have hs:=vI (rd:=rdN e) (show (kT hand t)[k]? = some _ from List.getElem?_eq_getElem (by rw [vX];exact cQ)) HP.out
     have hc:cut [32] (l.drop en)=none:=by
      by_cases h:en<l.length
      ·rw [j3 h,if_neg (fun h'=>lw ⟨h,h'⟩)]
      ·exact yg (by omega)
     rw [HM.out,jM (k+1) (by rw [hs];simp [kU,hc])];rfl
    have HM:=bz hm;clear hm
    have eT:(l.length<=en)\/∃ h:en<l.length,((((⟨l.toArray⟩:ByteArray)[en]'(kP h)).toNat:Int) != 32)=true:=by
     by_cases h:en<l.length
     ·exact .inr ⟨h,yT h (n:=32) (by decide) (fun h'=>lw ⟨h,h'⟩)⟩
     ·exact .inl (by omega)
    clear lw
    rcases eT with h | ⟨h,f5⟩
    ·have g1:(l.length:Int)<=(en:Int):=by omega
     go_wp2_with fail
     obtain ⟨W,hW,s0,s1,s2,s3,b9,_⟩:=rJ.store (.string ⟨#[]⟩) (.int .i64 0) (.slice none 0 0) (.slice none 0 0)
     rw [<- hW]
     refine bodyPost_ret (v:=.tuple #[.agg #[str [],.int .i64 0,.slice none 0 0,.slice none 0 0],.int .i64 (-1)]) (by simp [results,Tryz.results64,go_sem,s0,s1,s2,s3]) rfl ?_
     exact jI.no HM.out (b9 _ _ hb (bw _))
    ·go_wp2_with fail
     obtain ⟨W,hW,s0,s1,s2,s3,b9,_⟩:=rJ.store (.string ⟨#[]⟩) (.int .i64 0) (.slice none 0 0) (.slice none 0 0)
     rw [<- hW]
     refine bodyPost_ret (v:=.tuple #[.agg #[str [],.int .i64 0,.slice none 0 0,.slice none 0 0],.int .i64 (-1)]) (by simp [results,Tryz.results64,go_sem,s0,s1,s2,s3]) rfl ?_
     exact jI.no HM.out (b9 _ _ hb (bw _))
   obtain ⟨lR,lw⟩:=lw
   have f5:=uE lR (n:=32) (by decide) lw
   have g1:decide ((en:Int)<0)=false:=by rw [decide_eq_false_iff_not];omega
   have g2:decide (l.length<=en)=false:=by rw [decide_eq_false_iff_not];omega
   have HC:Hid (cut [32] (l.drop en)=some (l.drop (en+1))):=by show cut [32] (l.drop en)=_;rw [j3 lR,if_pos lw]
   clear lw
   by_cases tJ:k<t.args.length
   ·have AO:(k:Int)<(t.args.length:Int):=by omega
    obtain ⟨ba,oa,uk,dk,esa,hFa,hba,oy,lA,tO⟩:=iW.out k tJ
    subst esa
    rw [vx,Option.map_eq_some_iff] at oy
    obtain ⟨tk,mV,rfl⟩:=oy
    obtain ⟨ua,uc,rfl⟩:=zp tO
    have e1:wr.cell? ⟨ba,oa+k,none⟩=some (.slice ua tk.args.length uc):=by rw [hb.cell hba];exact lA
    have tI:=Rep.below (F':=F) hb (fun _ h=>h) tO
    have mS:=Rep.below (F':=F) hb (fun _ h=>h) hr
    have ov:qK e (hand++tk.args):=hh.next HT.out (List.mem_of_getElem? mV)
    have r_:Lim (hand.length+tk.args.length):=by have:=ov.2;simp at this;show _<=_;omega
    have HS:=bz (vI (rd:=rdN e) (allHands_kid (hand:=hand) mV) HP.out)
    clear mV lA tO
    go_wp2_with fail
    refine (hU F hand tk _ _ wr mS tI r_).mono ?_
    rintro en5 w5 ⟨a5,c5,rfl,cz,mG⟩
    have z5:=cz.size
    have HR5:=bz mG;clear mG mS tI r_
    have Q:=bz (bj rJ (bj du (bj hb cz)))
    have rl5:w.heap.size<w5.heap.size:=by omega
    have BI:w.heap.size+1<w5.heap.size:=by omega
    go_wp2_with fail
    rw [show (en:Int)+1=((en+1:Nat):Int) from by omega,show (d:Int)+1=((d+1:Nat):Int) from by omega,<- List.length_append]
    refine (IH.out (fun k=>F k\/wr.heap.size<=k) (hand++tk.args) _ (en+1) w5 lR ov (by rw [List.length_append] at HR5 ⊢;exact HR5.out)).mono ?_
    rintro en6 w6 ⟨s6,v6,a2,n2,k2,a3,n3,k3,k6,rfl,cI,td,tB⟩
    rw [List.length_append]
    obtain ⟨rJ,du,hb,cz⟩:=Q.out
    have z6:=cI.size
    have f_:=cz.trans (cI.mono z5)
    have rE:=rJ.below f_ rl
    have rF:=du.below f_ ql
    have aE:=zzT hb f_
    obtain ⟨r0,r1,r2,r3,rl6,rf⟩:=rE.cells
    obtain ⟨q0,q1,q2,q3,Da,qf⟩:=rF.cells
    have s5:=rf 0;have ig:=rf 1;have BH:=rf 2;have BG:=rf 3;clear rf
    have im:=qf 2;have oV:=qf 3;clear qf
    have Q2:=bz (bj f_ (bj rE rF));clear cz hb rJ du f_ rE rF cI Q
    cases hq:rdN e (hand++tk.args) (l.drop (en+1)) with
    | none =>
      obtain rfl:=td hq
      have hm:rdN (e+1) hand (l.drop i)=none:=by
       rw [HM.out,jM (k+1) (by rw [HS.out];simp [kU,HC.out,hq])];rfl
      have HM:=bz hm;clear hm hq td tB
      go_wp2_with fail
      obtain ⟨W,hW,s0,s1,s2,s3,b9,_⟩:=Q2.out.2.1.store (.string ⟨#[]⟩) (.int .i64 0) (.slice none 0 0) (.slice none 0 0)
      rw [<- hW]
      refine bodyPost_ret (v:=.tuple #[.agg #[str [],.int .i64 0,.slice none 0 0,.slice none 0 0],.int .i64 (-1)]) (by simp [results,Tryz.results64,go_sem,zH s0,zH s1,zH s2,zH s3]) rfl ?_
      exact jI.no HM.out ((b9 _ _ aE (bw _)).alloc (b9 _ _ aE (bw _)).size _)
    | some x =>
      obtain ⟨b,rest⟩:=x
      obtain ⟨rfl,m_⟩:=tB _ _ hq
      have nM:=vm (uz e hq)
      have B4:rest.length<=l.length:=by have:=(uz e hq).length_le;simp at this;omega
      obtain ⟨nU,sq⟩:=zzM (l.length-rest.length)
      rw [<- sq] at nM
      have iL:(l.length:Int)-(rest.length:Int)=(nU:Int):=by omega
      rw [iL]
      have HE2:=bz sq;clear sq iL
      have hs:zY (rdN e) ((kT hand t).take (k+1)) (l.drop i0)=some (ps++[b],l.drop nU):=by
       rw [HS.out];simp [kU,HC.out,hq,nM]
      have iV:=bz hs;have HC6:=bz m_;clear hs m_ hq td tB nM
      go_wp2_with (at_builtin;refine zC rfl _ _ 62 rfl 64 (.agg #[str [],.int .i64 0,.slice none 0 0,.slice none 0 0]) 4 72 Tryz.underlying62 Tryz.infoN rfl (by decide) (.slice ka nk kc) nk kv rfl ?c1 _ 1 [str s6,.int .i64 v6,.slice a2 n2 k2,.slice a3 n3 k3] rfl ?c2 ?c3 ?c4 ?_)
      case c1 =>
       refine (HR.out.ownK.keep fun g o hg ho=>?_).alloc _ |>.alloc _
       rw [Q2.out.1.block g (zZ ho)];exact ho
      case c2=>exact zM.lit4 #[str s6,.int .i64 v6,.slice a2 n2 k2,.slice a3 n3 k3] rfl (by simp [str,Value.oneCell']) _ (by simp)
      case c3=>unfold maxLen;omega
      case c4=>omega
      intro a' c' w7 dO cP ch
      have hW:Below wr.heap.size wr ((w6.alloc (.cells #[str s6,.int .i64 v6,.slice a2 n2 k2,.slice a3 n3 k3] 64)).alloc (.cells #[str s6,.int .i64 v6,.slice a2 n2 k2,.slice a3 n3 k3] 64)):=(Q2.out.1.alloc Q2.out.1.size _).alloc (by have:=Q2.out.1.size;simp;omega) _
      have hC:zv (wr.heap.size<=·) ((w6.alloc (.cells #[str s6,.int .i64 v6,.slice a2 n2 k2,.slice a3 n3 k3] 64)).alloc (.cells #[str s6,.int .i64 v6,.slice a2 n2 k2,.slice a3 n3 k3] 64)) (qZ b) [str s6,.int .i64 v6,.slice a2 n2 k2,.slice a3 n3 k3] :=
       (Rep.keep fun i o hi ho=>⟨br z5 hi,zD (zD ho)⟩).2 _ _ HC6.out
      have hA:=HR.out.kid tJ (by omega) (show w.heap.size<w.heap.size+1 by omega) hW hC dO cP (fun g hg=>by simpa only [zK] using ch g hg) iV.out (by have:=HE2.out;omega)
      have z7:=cP.size
      rw [zK,zK] at z7
      have AX:w7.cell? ⟨w.heap.size+1,2,none⟩=some (.slice ka nk kc):=by
       rw [cP.cell (by simp only [zK];omega) (fun e=>by have h:w.heap.size+2<=w.heap.size+1:=(HR.out.blkK _ e).1;omega)]
       exact zH (zH q2)
      have AU:w7.frozen? ⟨w.heap.size+1,2,none⟩=false:=by
       rw [World.frozen?_of_block (w:=w6) (by rw [cP.block _ (by simp only [zK];omega) (fun e=>by have h:w.heap.size+2<=w.heap.size+1:=(HR.out.blkK _ e).1;omega)];rw [Below.heap_alloc _ _ _ (by simp only [zK];omega),Below.heap_alloc _ _ _ (by omega)])]
       exact im
      have HA:=bz hA;clear hA hW hC dO cP ch
      go_wp2_with fail
      go_roundw
      case rel=>exact ⟨k+1,nU,by omega,rfl,by go_num,_,_,_,_,_,_,_,HA.out⟩
      case measure=>simp [intOf];omega
   ·have AO:t.args.length<=k:=by omega
    have hkn2:¬ (k:Int)<(t.args.length:Int):=by omega
    have mS:=Rep.below (F':=F) hb (fun _ h=>h) hr
    have HS:=bz (vI (rd:=rdN e) (allHands_yes (hand:=hand) (t:=t) AO cQ) HP.out)
    go_wp2_with fail
    refine (IH.out F hand _ (en+1) wr lR (by have:=hh.same;rwa [List.append_nil] at this) mS).mono ?_
    rintro en6 w6 ⟨s6,v6,a2,n2,k2,a3,n3,k3,k6,rfl,cI,td,tB⟩
    have z6:=cI.size
    have f_:=cI
    have rE:=rJ.below f_ rl
    have rF:=du.below f_ ql
    have aE:=zzT hb f_
    obtain ⟨r0,r1,r2,r3,rl6,rf⟩:=rE.cells
    obtain ⟨q0,q1,q2,q3,Da,qf⟩:=rF.cells
    have s5:=rf 0;have ig:=rf 1;have BH:=rf 2;have BG:=rf 3;clear rf
    have im:=qf 2;have oV:=qf 3;clear qf
    have Q2:=bz (bj f_ (bj rE rF));clear hb rJ du f_ rE rF cI
    cases hq:rdN e hand (l.drop (en+1)) with
    | none =>
      obtain rfl:=td hq
      have hm:rdN (e+1) hand (l.drop i)=none:=by
       rw [HM.out,jM (k+1) (by rw [HS.out];simp [kU,HC.out,hq])];rfl
      have HM:=bz hm;clear hm hq td tB
      go_wp2_with fail
      obtain ⟨W,hW,s0,s1,s2,s3,b9,_⟩:=Q2.out.2.1.store (.string ⟨#[]⟩) (.int .i64 0) (.slice none 0 0) (.slice none 0 0)
      rw [<- hW]
      refine bodyPost_ret (v:=.tuple #[.agg #[str [],.int .i64 0,.slice none 0 0,.slice none 0 0],.int .i64 (-1)]) (by simp [results,Tryz.results64,go_sem,zH s0,zH s1,zH s2,zH s3]) rfl ?_
      exact jI.no HM.out ((b9 _ _ aE (bw _)).alloc (b9 _ _ aE (bw _)).size _)
    | some x =>
      obtain ⟨b,rest⟩:=x
      obtain ⟨rfl,m_⟩:=tB _ _ hq
      have nM:=vm (uz e hq)
      have B4:rest.length<=l.length:=by have:=(uz e hq).length_le;simp at this;omega
      obtain ⟨nU,sq⟩:=zzM (l.length-rest.length)
      rw [<- sq] at nM
      have iL:(l.length:Int)-(rest.length:Int)=(nU:Int):=by omega
      rw [iL]
      have HE2:=bz sq;clear sq iL
      have hs:zY (rdN e) ((kT hand t).take (k+1)) (l.drop i0)=some (ps++[b],l.drop nU):=by
       rw [HS.out];simp [kU,HC.out,hq,nM]
      have iV:=bz hs;have HC6:=bz m_;clear hs m_ hq td tB nM
      go_wp2_with (at_builtin;refine zC rfl _ _ 62 rfl 64 (.agg #[str [],.int .i64 0,.slice none 0 0,.slice none 0 0]) 4 72 Tryz.underlying62 Tryz.infoN rfl (by decide) (.slice ya ny yc) ny yv rfl ?c1 _ 1 [str s6,.int .i64 v6,.slice a2 n2 k2,.slice a3 n3 k3] rfl ?c2 ?c3 ?c4 ?_)
      case c1 =>
       refine (HR.out.ownY.keep fun g o hg ho=>?_).alloc _ |>.alloc _
       rw [Q2.out.1.block g (zZ ho)];exact ho
      case c2=>exact zM.lit4 #[str s6,.int .i64 v6,.slice a2 n2 k2,.slice a3 n3 k3] rfl (by simp [str,Value.oneCell']) _ (by simp)
      case c3=>unfold maxLen;omega
      case c4=>omega
      intro a' c' w7 dO cP ch
      have hW:Below wr.heap.size wr ((w6.alloc (.cells #[str s6,.int .i64 v6,.slice a2 n2 k2,.slice a3 n3 k3] 64)).alloc (.cells #[str s6,.int .i64 v6,.slice a2 n2 k2,.slice a3 n3 k3] 64)):=(Q2.out.1.alloc Q2.out.1.size _).alloc (by have:=Q2.out.1.size;simp;omega) _
      have hC:zv (wr.heap.size<=·) ((w6.alloc (.cells #[str s6,.int .i64 v6,.slice a2 n2 k2,.slice a3 n3 k3] 64)).alloc (.cells #[str s6,.int .i64 v6,.slice a2 n2 k2,.slice a3 n3 k3] 64)) (qZ b) [str s6,.int .i64 v6,.slice a2 n2 k2,.slice a3 n3 k3] :=
       (Rep.keep fun i o hi ho=>⟨hi,zD (zD ho)⟩).2 _ _ HC6.out
      have hA:=HR.out.yes AO (by omega) (show w.heap.size<w.heap.size+1 by omega) hW hC dO cP (fun g hg=>by simpa only [zK] using ch g hg) iV.out (by have:=HE2.out;omega)
      have z7:=cP.size
      rw [zK,zK] at z7
      have AX:w7.cell? ⟨w.heap.size+1,3,none⟩=some (.slice ya ny yc):=by
       rw [cP.cell (by simp only [zK];omega) (fun e=>by have h:w.heap.size+2<=w.heap.size+1:=HR.out.blkY _ e;omega)]
       exact zH (zH q3)
      have AU:w7.frozen? ⟨w.heap.size+1,3,none⟩=false:=by
       rw [World.frozen?_of_block (w:=w6) (by rw [cP.block _ (by simp only [zK];omega) (fun e=>by have h:w.heap.size+2<=w.heap.size+1:=HR.out.blkY _ e;omega)];rw [Below.heap_alloc _ _ _ (by simp only [zK];omega),Below.heap_alloc _ _ _ (by omega)])]
       exact oV
      have HA:=bz hA;clear hA hW hC dO cP ch
      go_wp2_with fail
      go_roundw
      case rel=>exact ⟨k+1,nU,by omega,rfl,by go_num,_,_,_,_,_,_,_,HA.out⟩
      case measure=>simp [intOf];omega
  ·have tJ:k=t.args.length+2:=by omega
   have mH:¬ (k:Int)<(t.args.length:Int)+2:=by omega
   have hp:zY (rdN e) (kT hand t) (l.drop i0)=some (ps,l.drop en):=by
    have:=HP.out;rwa [tJ,List.take_of_length_le (by rw [vX];exact bw _)] at this
   have hm:rdN (e+1) hand (l.drop i)=(do
    let l2<-cut [41] (l.drop en)
    let b<-ur v t.args.length ps
    some (b,l2)):=by rw [HM.out,hp];rfl
   have HM:=bz hm
   have HKN:=bz tJ
   clear hm hp tJ
   by_cases lx:∃ h:en<l.length,l[en]=41
   rotate_left
   ·have hm:rdN (e+1) hand (l.drop i)=none:=by
     have hc:cut [41] (l.drop en)=none:=by
      by_cases h:en<l.length
      ·rw [j3 h,if_neg (fun h'=>lx ⟨h,h'⟩)]
      ·exact yg (by omega)
     rw [HM.out,hc];rfl
    have HM:=bz hm;clear hm
    have eT:(l.length<=en)\/∃ h:en<l.length,((((⟨l.toArray⟩:ByteArray)[en]'(kP h)).toNat:Int) != 41)=true:=by
     by_cases h:en<l.length
     ·exact .inr ⟨h,yT h (n:=41) (by decide) (fun h'=>lx ⟨h,h'⟩)⟩
     ·exact .inl (by omega)
    clear lx
    rcases eT with h | ⟨h,f5⟩
    ·have g1:(l.length:Int)<=(en:Int):=by omega
     go_wp2_with fail
     obtain ⟨W,hW,s0,s1,s2,s3,b9,_⟩:=rJ.store (.string ⟨#[]⟩) (.int .i64 0) (.slice none 0 0) (.slice none 0 0)
     rw [<- hW]
     refine bodyPost_ret (v:=.tuple #[.agg #[str [],.int .i64 0,.slice none 0 0,.slice none 0 0],.int .i64 (-1)]) (by simp [results,Tryz.results64,go_sem,s0,s1,s2,s3]) rfl ?_
     exact jI.no HM.out (b9 _ _ hb (bw _))
    ·go_wp2_with fail
     obtain ⟨W,hW,s0,s1,s2,s3,b9,_⟩:=rJ.store (.string ⟨#[]⟩) (.int .i64 0) (.slice none 0 0) (.slice none 0 0)
     rw [<- hW]
     refine bodyPost_ret (v:=.tuple #[.agg #[str [],.int .i64 0,.slice none 0 0,.slice none 0 0],.int .i64 (-1)]) (by simp [results,Tryz.results64,go_sem,s0,s1,s2,s3]) rfl ?_
     exact jI.no HM.out (b9 _ _ hb (bw _))
   obtain ⟨lR,lx⟩:=lx
   have f5:=uE lR (n:=41) (by decide) lx
   have g1:decide ((en:Int)<0)=false:=by rw [decide_eq_false_iff_not];omega
   have g2:decide (l.length<=en)=false:=by rw [decide_eq_false_iff_not];omega
   have HC:Hid (cut [41] (l.drop en)=some (l.drop (en+1))):=by show cut [41] (l.drop en)=_;rw [j3 lR,if_pos lx]
   clear lx
   go_wp2_with fail
   obtain ⟨W,hW,s0,s1,s2,s3,b9,dl⟩:=rJ.store (str []) (.int .i64 v) (.slice ka nk kc) (.slice ya ny yc)
   have ad:=HR.out
   have hps:=ad.len
   have hnk:=ad.hnk
   have hny:=ad.hny
   have tJ:=HKN.out
   obtain ⟨y1,y2,Di⟩:∃ y1 y2,ps.drop t.args.length=[y1,y2]:=by
    match hd:ps.drop t.args.length with
    | [a,b]=>exact ⟨a,b,rfl⟩
    | []=>have:=congrArg List.length hd;simp at this;omega
    | [a]=>have:=congrArg List.length hd;simp at this;omega
    | a::b::c::d=>have:=congrArg List.length hd;simp at this;omega
   have hm:rdN (e+1) hand (l.drop i)=some (.ask v (ps.take t.args.length) y1 y2,l.drop (en+1)):=by
    rw [HM.out,HC.out];simp [ur,Di]
   have AG:nk=(ps.take t.args.length).length:=by simp;omega
   have AD:ny=2:=by omega
   rw [<- hW]
   refine bodyPost_ret (v:=.tuple #[.agg #[str [],.int .i64 v,.slice ka nk kc,.slice ya ny yc],.int .i64 ((en:Int)+1)]) (by simp [results,Tryz.results64,go_sem,s0,s1,s2,s3]) rfl ?_
   refine jI.yes (s:=[]) hm (by simp;omega) (b9 _ _ hb (bw _)) ?_
   rw [bW]
   refine zG.2 ⟨_,_,rfl,z8.2 rfl,zG.2 ⟨_,_,rfl,z8.2 rfl,zG.2 ⟨_,_,rfl,?_,zG.2 ⟨_,_,rfl,?_,zm.2 rfl⟩⟩⟩⟩
   ·rw [<- AG]
    refine (ad.ownK.keep fun g o hg ho=>dl g o (by have:=(ad.blkK g hg).1;omega) ho).rep (fun g hg=>by have:=(ad.blkK g hg).1;omega) ?_
    exact (Rep.keep fun x o hx ho=>⟨by have:=hx.1;omega,dl x o (by have:=hx.1;omega) ho⟩).2 _ _ ad.repK
   ·have de:=ad.repY
    rw [Di] at de
    rw [<- AD]
    refine (ad.ownY.keep fun g o hg ho=>dl g o (by have:=ad.blkY g hg;omega) ho).rep (fun g hg=>by have:=ad.blkY g hg;omega) ?_
    exact (Rep.keep fun x o hx ho=>⟨by have:=hx.1;omega,dl x o (by have:=hx.1;omega) ho⟩).2 _ _ de
theorem l3Read_any (l:Bs) (hl:Lim l.length) (e:Nat):∀ d,e+d=101->NodeSaid l e d:=by
 induction e with
 | zero=>exact fun d Cf F hand hv i w hi _ hr=>xl l hl 0 d Cf F hand hv i w hi hr (fun _=>.inl rfl)
 | succ e ih =>
   intro d Cf F hand hv i w hi hh hr
   by_cases h:∃ h:i<l.length,l[i]=40
   ·obtain ⟨h,eZ⟩:=h
    exact l3Read_ask l hl e d Cf (ih (d+1) (by omega)) F hand hv i w h hh hr eZ
   ·exact xl l hl (e+1) d Cf F hand hv i w hi hr (fun h'=>.inr fun eZ=>h ⟨h',eZ⟩)
def qh:Bd->List Bd
 | .leaf _=>[]
 | .ask _ ss _ _=>ss
def jg:Bd->List Bd
 | .leaf _=>[]
 | .ask _ _ y n=>[y,n]
def jm:Bd->Bs
 | .leaf c=>[c]
 | .ask _ _ _ _=>[]
def AtN (F:Nat->Prop) (w:World) (bs:List Bd) (a:Option Addr) (k:Nat):Prop :=
 ∃ b o s v a2 n2 c2 a3 n3 c3 d,a=some ⟨b,o,none⟩/\b<w.heap.size/\bs[k]? = some d/\w.cell? ⟨b,o+k*4,none⟩=some (str s)/\w.cell? ⟨b,o+k*4+1,none⟩=some (.int .i64 v) /\
   w.cell? ⟨b,o+k*4+2,none⟩=some (.slice a2 n2 c2)/\w.cell? ⟨b,o+k*4+3,none⟩=some (.slice a3 n3 c3)/\zv F w (qZ d) [str s,.int .i64 v,.slice a2 n2 c2,.slice a3 n3 c3]
def bO (F:Nat->Prop) (w:World) (bs:List Bd) (a:Option Addr):Prop:=∀ k,k<bs.length->AtN F w bs a k
theorem jx {F:Nat->Prop} {w:World} {b:Bd} {vs:List Value} (h:zv F w (qZ b) vs) :
 ∃ v a2 c2 a3 c3,vs=[str (jm b),.int .i64 v,.slice a2 (qh b).length c2,.slice a3 (jg b).length c3] /\
   Rep F w (.sl 64 4 (qh b).length (kS (qh b))) (.slice a2 (qh b).length c2)/\Rep F w (.sl 64 4 (jg b).length (kS (jg b))) (.slice a3 (jg b).length c3):=by
 have key:∀ (s:Bs) (v:Int) (d2 d3:DV) (n2 n3:Nat) (k2 k3:List DV),d2=.sl 64 4 n2 k2->d3=.sl 64 4 n3 k3->zv F w [.val (str s),.val (.int .i64 v),d2,d3] vs ->
  ∃ a2 c2 a3 c3,vs=[str s,.int .i64 v,.slice a2 n2 c2,.slice a3 n3 c3]/\Rep F w d2 (.slice a2 n2 c2)/\Rep F w d3 (.slice a3 n3 c3):=by
  intro s v d2 d3 n2 n3 k2 k3 e2 e3 h
  obtain ⟨_,_,rfl,h0,h⟩:=zG.1 h
  obtain ⟨_,_,rfl,h1,h⟩:=zG.1 h
  obtain ⟨_,_,rfl,h2,h⟩:=zG.1 h
  obtain ⟨_,_,rfl,h3,h⟩:=zG.1 h
  rw [zm] at h;subst h
  rw [z8] at h0 h1
  subst h0;subst h1
  have h2':=h2;have h3':=h3
  rw [e2] at h2';rw [e3] at h3'
  obtain ⟨_,a2,c2,e2',_⟩:=qu.1 h2'
  obtain ⟨_,a3,c3,e3',_⟩:=qu.1 h3'
  subst e2';subst e3'
  exact ⟨a2,c2,a3,c3,rfl,h2,h3⟩
 cases b with
 | leaf c =>
   rw [qZ] at h
   obtain ⟨a2,c2,a3,c3,e,h2,h3⟩:=key _ _ _ _ 0 0 [] [] rfl rfl h
   exact ⟨_,a2,c2,a3,c3,e,h2,h3⟩
 | ask v ss y n =>
   rw [bW] at h
   obtain ⟨a2,c2,a3,c3,e,h2,h3⟩:=key _ _ _ _ _ _ _ _ rfl rfl h
   exact ⟨_,a2,c2,a3,c3,e,h2,h3⟩
theorem bO.of {F:Nat->Prop} {w:World} {bs:List Bd} {v:Value} (h:Rep F w (.sl 64 4 bs.length (kS bs)) v):∃ a c,v=.slice a bs.length c/\bO F w bs a:=by
 obtain ⟨hl,a,c,rfl,hn,hz,h⟩:=qu.1 h
 refine ⟨a,c,rfl,fun k hk=>?_⟩
 rcases h with h | ⟨b,o,cs,fr,rfl,hb,hc,hr⟩
 ·omega
 ·have hs:kS bs=kS (bs.take k)++(qZ bs[k]++kS (bs.drop (k+1))):=by
   have e1:qZ bs[k]=kS [bs[k]]:=by simp [kS]
   rw [e1,<- jH,<- jH]
   congr 1
   simp
  rw [hs] at hr
  obtain ⟨h1,h2⟩:=hr.split
  obtain ⟨h3,h4⟩:=h2.split
  have lB:(kS (bs.take k)).length=k*4:=by rw [encNs_length];simp;omega
  rw [lB,yR] at h3
  obtain ⟨v,a2,c2,a3,c3,e,_⟩:=jx h3
  have hat:∀ j u,([str (jm bs[k]),.int .i64 v,.slice a2 (qh bs[k]).length c2,.slice a3 (jg bs[k]).length c3]:List Value)[j]? = some u->w.cell? ⟨b,o+k*4+j,none⟩=some u:=by
   intro j u hu
   rw [<- e] at hu
   have hj:j<4:=by
    have:=(List.getElem?_eq_some_iff.1 hu).1
    simp at this;omega
   rw [List.getElem?_take,if_pos hj,List.getElem?_drop,List.getElem?_take] at hu
   split at hu
   ·rw [List.getElem?_drop] at hu
    simp only [World.cell?,hc]
    rw [Nat.add_assoc]
    simpa using hu
   ·simp at hu
  refine ⟨b,o,_,v,a2,_,c2,a3,_,c3,bs[k],rfl,zZ hc,by simp [hk],hat 0 _ rfl,hat 1 _ rfl,hat 2 _ rfl,hat 3 _ rfl,?_⟩
  rw [<- e];exact h3
theorem gr (b:Bd):v3 b=qh b++jg b:=by cases b <;> rfl
def BoxN (g:Nat) (s:Bs) (k y:Value) (w:World):Prop :=
 w.cell? ⟨g,0,none⟩=some (str s)/\w.cell? ⟨g,2,none⟩=some k/\w.cell? ⟨g,3,none⟩=some y
theorem BoxN.below {g:Nat} {s:Bs} {k y:Value} {w w':World} (h:BoxN g s k y w) (hb:Below w.heap.size w w'):BoxN g s k y w':=by
 obtain ⟨h1,h2,h3⟩:=h
 have:=bp w _ h1
 exact ⟨by rw [hb.cell (by exact this)];exact h1,by rw [hb.cell (by exact this)];exact h2,by rw [hb.cell (by exact this)];exact h3⟩
def pV (b:Bd):Prop:=∀ (F:Nat->Prop) (w:World) (s:Bs) (v:Int) (a2:Option Addr) (n2 c2:Nat) (a3:Option Addr) (n3 c3:Nat),zv F w (qZ b) [str s,.int .i64 v,.slice a2 n2 c2,.slice a3 n3 c3] ->
 Calls Tryz.prog 65 #[.agg #[str s,.int .i64 v,.slice a2 n2 c2,.slice a3 n3 c3]] w fun en w'=>en=.returned (.int .i64 (zg b))/\Below w.heap.size w w'
set_option maxRecDepth 100000 in
theorem l3Size_step (b:Bd) (hl:Lim (zg b)) (ih:∀ b',zg b'<zg b->pV b'):pV b:=by
 intro F w s v a2 n2 c2 a3 n3 c3 hv
 have nE:=jx hv
 obtain ⟨v',Cs,Cq,a3',c3',e,hk,hy⟩:=nE
 simp only [List.cons.injEq,Value.slice.injEq,and_true] at e
 obtain ⟨e0,e1,⟨rfl,e2,rfl⟩,⟨rfl,e3,rfl⟩⟩:=e
 clear e0 e1
 subst e2;subst e3
 obtain ⟨_,_,ek,Fh⟩:=bO.of hk
 obtain ⟨_,_,ey,Fg⟩:=bO.of hy
 simp only [Value.slice.injEq,true_and] at ek ey
 obtain ⟨rfl,rfl⟩:=ek
 obtain ⟨rfl,rfl⟩:=ey
 have IH:=bz ih;clear ih
 have dd:=hl.le
 have er:=yY b
 rw [gr,kw] at er
 have lB:=je (qh b)
 have hyl:=je (jg b)
 have E1:=bz er
 have kl:(qh b).length<=16777216:=by omega
 have yl:(jg b).length<=16777216:=by omega
 have ATK:=bz Fh;have ATY:=bz Fg
 clear Fh Fg hk hy hv er lB hyl
 generalize hK:qh b=kids at *
 generalize hY:jg b=yess at *
 clear hK hY
 go_enter Tryz.func65,Tryz.ntmps65
 go_wp2_with fail
 go_loopw [3,4] (fun n i wr=>∃ k:Nat,k<=kids.length/\i=.int .i64 k/\n=.int .i64 ((1+zL (kids.take k):Nat):Int)/\Below w.heap.size w wr/\BoxN w.heap.size s (.slice a2 kids.length c2) (.slice a3 yess.length c3) wr) (fun _ i _=>kids.length-(intOf i).toNat)
 case atStart=>exact ⟨0,Nat.zero_le _,rfl,by simp [zL],(bh _ _).alloc (bw _) _,by simp,by simp,by simp⟩
 case round =>
  rename_i wr
  obtain ⟨k,hk,rfl,rfl,hb,hc⟩:=hrel
  obtain ⟨mz,fQ,aD⟩:=id hc
  by_cases cQ:k<kids.length
  ·obtain ⟨bb,o,s',v',b2,m2,d2,b3,m3,d3,t,rfl,hbb,ht,u0,u1,u2,u3,hr⟩:=ATK.out k cQ
   have q0:=(hb.cell hbb).trans u0
   have q1:=(hb.cell hbb).trans u1
   have q2:=(hb.cell hbb).trans u2
   have q3:=(hb.cell hbb).trans u3
   have mS:=(zv.below (F':=F) hb (fun _ h=>h) hr)
   have hs:=yU ht
   have tQ:=vO kids (k+1)
   have rO:=E1.out
   have hp:=jW t
   have IH':=bz (IH.out t (by omega))
   have HS:=bz hs
   have b1:1+zL (kids.take k)+zg t<=16777216:=by omega
   have hz:=bp wr _ mz
   clear hs ht rO u0 u1 u2 u3 hr
   go_wp2_with fail
   refine (IH'.out _ _ _ _ _ _ _ _ _ _ mS).mono ?_
   rintro en w2 ⟨rfl,cK⟩
   have cH:=zzT hb cK
   obtain ⟨mz,fQ,aD⟩:=id (hc.below cK)
   have sJ:=bz (hc.below cK)
   go_wp2_with fail
   go_roundw
   case rel=>exact ⟨k+1,by omega,by go_num,by rw [HS.out] <;> go_num,cH,sJ.out⟩
   case measure=>simp [intOf];omega
  ·obtain rfl:k=kids.length:=by omega
   rw [List.take_length]
   have bK:1+zL kids<=16777216:=by have:=E1.out;omega
   clear hk cQ
   go_wp2_with fail
   have eI:=hb;have Ch:=hc
   clear hb hc mz fQ aD
   go_loopw [3,5] (fun n i wr=>∃ k:Nat,k<=yess.length/\i=.int .i64 k/\n=.int .i64 ((1+zL kids+zL (yess.take k):Nat):Int)/\Below w.heap.size w wr/\BoxN w.heap.size s (.slice a2 kids.length c2) (.slice a3 yess.length c3) wr) (fun _ i _=>yess.length-(intOf i).toNat)
   case atStart=>exact ⟨0,Nat.zero_le _,rfl,by simp [zL],eI,Ch⟩
   case round =>
    clear eI Ch
    obtain ⟨k,hk,rfl,rfl,hb,hc⟩:=hrel
    obtain ⟨mz,fQ,aD⟩:=id hc
    by_cases cQ:k<yess.length
    ·obtain ⟨bb,o,s',v',b2,m2,d2,b3,m3,d3,t,rfl,hbb,ht,u0,u1,u2,u3,hr⟩:=ATY.out k cQ
     have q0:=(hb.cell hbb).trans u0
     have q1:=(hb.cell hbb).trans u1
     have q2:=(hb.cell hbb).trans u2
     have q3:=(hb.cell hbb).trans u3
     have mS:=(zv.below (F':=F) hb (fun _ h=>h) hr)
     have hs:=yU ht
     have tQ:=vO yess (k+1)
     have rO:=E1.out
     have hp:=jW t
     have IH':=bz (IH.out t (by omega))
     have HS:=bz hs
     have b1:1+zL kids+zL (yess.take k)+zg t<=16777216:=by omega
     have hz:=bp _ _ mz
     clear hs ht rO u0 u1 u2 u3 hr
     go_wp2_with fail
     refine (IH'.out _ _ _ _ _ _ _ _ _ _ mS).mono ?_
     rintro en w2 ⟨rfl,cK⟩
     have cH:=zzT hb cK
     obtain ⟨mz,fQ,aD⟩:=id (hc.below cK)
     have sJ:=bz (hc.below cK)
     go_wp2_with fail
     go_roundw
     case rel=>exact ⟨k+1,by omega,by go_num,by rw [HS.out] <;> go_num,cH,sJ.out⟩
     case measure=>simp [intOf];omega
    ·obtain rfl:k=yess.length:=by omega
     go_wp2_with fail
     go_ret
     exact ⟨xw (by rw [E1.out,List.take_length];omega),hb⟩
theorem l3Size_any (n:Nat):∀ b,zg b<=n->Lim n->pV b:=by
 induction n with
 | zero=>intro b h _;have:=jW b;omega
 | succ n ih=>exact fun b h hn=>l3Size_step b (hn.mono h) (fun b' h'=>ih b' (by omega) (hn.mono (by omega)))
def zN (s text:Bs):Option Bd :=
 if (zV s).2=false\/2000<text.length then none else
 match rdN 101 (zV s).1.args text with
 | none=>none
 | some (b,rest)=>if rest=[]/\zg b<=200 then some b else none
theorem j6 {l:Bs} (h:(zV l).2=true):zP (zV l).1<=15:=by
 unfold zV at *
 split at h
 ·simp at h
 ·rename_i hl
  rw [if_neg hl]
  cases hq:rdS 21 l with
  | none=>rw [hq] at h;simp at h
  | some x=>rw [hq] at h;obtain ⟨t,rest⟩:=x;simp at h;exact h.2
theorem wK {t:Ty} (h:zP t<=15):qK 101 t.args:=by
 have hm:=qE t
 have key:∀ (ts:List Ty) (x:Ty),x∈ts->zP x<=zu ts:=by
  intro ts
  induction ts with
  | nil=>intro x hx;simp at hx
  | cons y ys ih =>
    intro x hx
    rcases List.mem_cons.1 hx with rfl | hx
    ·simp [zu];omega
    ·have:=ih x hx;simp [zu];omega
 refine ⟨fun x hx=>?_,?_⟩
 ·have:=key t.args x hx;omega
 ·have:=qi t.args;omega
theorem yS {w:World} {p a:Addr} {u v:Value} (h:w.cell? a=some v) (cE:a.block≠p.block):(w.setCell p u).cell? a=some v:=by
 rw [World.cell?_of_block (w:=w) (bf _ _ _ _ cE)];exact h
theorem ux {w w':World} {a:Addr} {v:Value} (h:w.cell? a=some v) (hk:∀ x,w.heap[a.block]? = some x->w'.heap[a.block]? = some x):w'.cell? a=some v:=by
 have cQ:=bp w a h
 rw [World.cell?_of_block (w:=w)]
 ·exact h
 ·rw [hk _ (Array.getElem?_eq_getElem cQ),Array.getElem?_eq_getElem cQ]
abbrev KeepS (g1 g2:Nat) (T u0 u1 u2 u3:Value) (w:World):Prop :=
 w.cell? ⟨g1,0,none⟩=some T/\w.cell? ⟨g2,0,none⟩=some u0/\w.cell? ⟨g2,1,none⟩=some u1/\w.cell? ⟨g2,2,none⟩=some u2/\w.cell? ⟨g2,3,none⟩=some u3
theorem KeepS.set {g1 g2:Nat} {T u0 u1 u2 u3:Value} {w:World} (h:KeepS g1 g2 T u0 u1 u2 u3 w) (b o:Nat) (u:Value) (h1:g1≠b) (h2:g2≠b):KeepS g1 g2 T u0 u1 u2 u3 (w.setCell ⟨b,o,none⟩ u) :=
 ⟨yS h.1 h1,yS h.2.1 h2,yS h.2.2.1 h2,yS h.2.2.2.1 h2,yS h.2.2.2.2 h2⟩
def qv (s text:Bs) (w:World) (en:Ending) (w':World):Prop :=
 ∃ (a:Option Addr) (c:Nat) (s':Bs) (v':Int) (a2:Option Addr) (n2 c2:Nat) (a3:Option Addr) (n3 c3:Nat),
   en=.returned (.tuple #[.agg #[.slice a (zV s).1.args.length c],.agg #[str s',.int .i64 v',.slice a2 n2 c2,.slice a3 n3 c3],.bool (zN s text).isSome])/\Below w.heap.size w w' /\
   Rep (w.heap.size<=·) w' (qP (zV s).1) (.slice a (zV s).1.args.length c) /\
   (∀ b,zN s text=some b->zv (w.heap.size<=·) w' (qZ b) [str s',.int .i64 v',.slice a2 n2 c2,.slice a3 n3 c3])
theorem qv.no {s text:Bs} {w w':World} {a:Option Addr} {c:Nat} {v:Value} (hv:v=.slice a (zV s).1.args.length c) {s':Bs} {v':Int} {a2:Option Addr} {n2 c2:Nat} {a3:Option Addr} {n3 c3:Nat} {f:Bool} (hf:f=false) (hn:zN s text=none) (hb:Below w.heap.size w w')
 (hr:Rep (w.heap.size<=·) w' (qP (zV s).1) v) :
 qv s text w (.returned (.tuple #[.agg #[v],.agg #[str s',.int .i64 v',.slice a2 n2 c2,.slice a3 n3 c3],.bool f])) w':=by
 subst hv;subst hf
 exact ⟨a,c,s',v',a2,n2,c2,a3,n3,c3,by rw [hn];rfl,hb,hr,fun b h=>by rw [hn] at h;simp at h⟩
theorem qv.yes {s text:Bs} {w w':World} {a:Option Addr} {c:Nat} {v:Value} (hv:v=.slice a (zV s).1.args.length c) {s':Bs} {v':Int} {a2:Option Addr} {n2 c2:Nat} {a3:Option Addr} {n3 c3:Nat} {f:Bool} {b:Bd} (hf:f=true) (hn:zN s text=some b) (hb:Below w.heap.size w w')
 (hr:Rep (w.heap.size<=·) w' (qP (zV s).1) v) (s7:zv (w.heap.size<=·) w' (qZ b) [str s',.int .i64 v',.slice a2 n2 c2,.slice a3 n3 c3]) :
 qv s text w (.returned (.tuple #[.agg #[v],.agg #[str s',.int .i64 v',.slice a2 n2 c2,.slice a3 n3 c3],.bool f])) w':=by
 subst hv;subst hf
 exact ⟨a,c,s',v',a2,n2,c2,a3,n3,c3,by rw [hn];rfl,hb,hr,fun b' h=>by rw [hn] at h;simp at h;subst h;exact s7⟩
set_option maxRecDepth 100000 in
theorem yE (s text:Bs) (hs:Lim s.length) (hl:Lim text.length) (w:World):Calls Tryz.prog 31 #[str s,str text] w (qv s text w):=by
 have mR:=hs.le
 have dd:=hl.le
 go_enter Tryz.func31,Tryz.ntmps31
 go_wp2_with fail
 refine (uq s hs _).mono ?_
 rintro en w1 ⟨v1,rfl,bi,mX⟩
 have z1:=bi.size
 rw [zK,zK] at z1
 obtain ⟨a1,c1,e1⟩:=zp mX
 have E1:=bz e1
 have dg:Below w.heap.size w w1:=(((bh w.heap.size w).alloc (bw _) _).alloc (by simp) _).trans (bi.mono (by simp;omega))
 have eQ:w.heap.size<w1.heap.size:=by omega
 have mp:w.heap.size+1<w1.heap.size:=by omega
 have r0:w1.cell? ⟨w.heap.size,0,none⟩=some (.slice none 0 0):=by rw [bi.cell (by simp only [zK];omega)];exact zH (by simp)
 have s5:w1.frozen? ⟨w.heap.size,0,none⟩=false:=by
  rw [bi.frozen (by simp only [zK];omega)]
  rw [World.frozen?_of_block (w:=w.alloc (.cells #[.slice none 0 0] 61)) (Below.heap_alloc _ _ _ (by simp))];simp
 have hN:kM (w.heap.size+1) 0 (.slice none 0 0) (.slice none 0 0) w1:=by
  unfold kM;rw [bi.block _ (by simp)]
  have:=zR (w.alloc (.cells #[.slice none 0 0] 61)) (.cells #[str [],.int .i64 0,.slice none 0 0,.slice none 0 0] 64)
  rw [zK] at this;exact this
 subst e1
 have sD:Rep (w.heap.size+1 < ·) w1 (qP (zV s).1) (.slice a1 (zV s).1.args.length c1):=(Rep.keep fun b o h ho=>⟨by have:=vT h;rw [zK] at this;omega,ho⟩).1 _ _ mX
 have HS:Hid (zN s text=if (zV s).2=false\/2000<text.length then none else
  match rdN 101 (zV s).1.args text with
  | none=>none
  | some (b,rest)=>if rest=[]/\zg b<=200 then some b else none):=rfl
 have sm:=bz (j6 (l:=s))
 generalize hT:(zV s).1=t at *
 generalize hO:(zV s).2=ok at *
 have HT:=bz hT;clear hT hO mX
 obtain ⟨q0,q1,q2,q3,ql,qf⟩:=hN.cells
 have BK:=qf 0;have BJ:=qf 1;have im:=qf 2;have oV:=qf 3;clear qf
 by_cases eT:ok=true/\text.length<=2000
 rotate_left
 ·have hn:zN s text=none:=by
   rw [HS.out,if_pos]
   cases ok with
   | false=>exact .inl rfl
   | true=>exact .inr (by simp at eT;omega)
  have HN:=bz hn;clear hn
  have eT:ok=false\/(ok=true/\(2000:Int)<(text.length:Int)):=by
   cases ok with
   | false=>exact .inl rfl
   | true=>exact .inr ⟨rfl,by simp at eT;omega⟩
  have h0:kM (w.heap.size+1) 0 (.slice none 0 0) (.slice none 0 0) (w1.setCell ⟨w.heap.size,0,none⟩ (.slice a1 t.args.length c1)):=by
   unfold kM;rw [bf _ _ _ _ (by simp)];exact hN
  obtain ⟨W,hW,s0,s1,s2,s3,b9,dl⟩:=h0.store (.string ⟨#[]⟩) (.int .i64 0) (.slice none 0 0) (.slice none 0 0)
  have t0:W.cell? ⟨w.heap.size,0,none⟩=some (.slice a1 t.args.length c1):=ux (qj r0 _) fun x hx=>dl _ x (by simp) hx
  have ef:=b9 _ _ (dg.setCell (p:=⟨w.heap.size,0,none⟩) (bw _) (.slice a1 t.args.length c1)) (by omega)
  have oE:Rep (w.heap.size<=·) W (qP t) (.slice a1 t.args.length c1):=(Rep.keep fun b o h ho=>⟨by omega,dl b o (by omega) (by rw [bf _ _ _ _ (by simp;omega)];exact ho)⟩).1 _ _ sD
  have FIN:Hid (∀ o,qv s text w (.returned (.tuple #[.agg #[.slice a1 t.args.length c1],.agg #[str [],.int .i64 0,.slice none 0 0,.slice none 0 0],.bool false])) (W.alloc o)):=fun o =>
   qv.no (a:=a1) (c:=c1) (by rw [HT.out]) rfl HN.out (ef.alloc ef.size o) (by rw [HT.out];exact (Rep.keep fun b o h ho=>⟨h,zD ho⟩).1 _ _ oE)
  have HW:=bz hW;clear h0 hW b9 dl ef oE
  rcases eT with rfl | ⟨rfl,h⟩
  all_goals
   go_wp2_with fail
   rw [<- HW.out]
   refine bodyPost_ret (v:=.tuple #[.agg #[.slice a1 t.args.length c1],.agg #[str [],.int .i64 0,.slice none 0 0,.slice none 0 0],.bool false]) (by simp [results,Tryz.results31,go_sem,zH t0,zH s0,zH s1,zH s2,zH s3]) rfl ?_
   exact FIN.out _
 obtain ⟨rfl,Am⟩:=eT
 have htl':¬ (2000:Int)<(text.length:Int):=by omega
 have hat:=sm.out rfl
 have hm:zN s text=(match rdN 101 t.args text with
  | none=>none
  | some (b,rest)=>if rest=[]/\zg b<=200 then some b else none):=by rw [HS.out,if_neg (by simp;omega)]
 have HM:=bz hm;clear hm HS sm
 have hvE:=sD
 rw [qn] at hvE
 have hho:=wK hat
 go_wp2_with fail
 refine (l3Read_any text hl 101 0 rfl (w.heap.size+1 < ·) t.args _ 0 _ (Nat.zero_le _) hho (by exact (Rep.keep fun b o h ho=>⟨h,zD ho⟩).1 _ _ hvE)).mono ?_
 rw [List.drop_zero]
 rintro en w2 ⟨s',v',a2,n2,c2,a3,n3,c3,k,rfl,cK,fP,fq⟩
 have z2:=cK.size
 rw [zK] at z2
 have fi:Below w.heap.size w w2:=(dg.alloc (by omega) _).trans (cK.mono (by rw [zK];omega))
 have r0':w2.cell? ⟨w.heap.size,0,none⟩=some (.slice none 0 0):=by rw [cK.cell (by rw [zK];simp only;omega)];exact zH r0
 have rf0':w2.frozen? ⟨w.heap.size,0,none⟩=false:=by rw [cK.frozen (by rw [zK];simp only;omega)];rw [World.frozen?_of_block (w:=w1) (Below.heap_alloc _ _ _ eQ)];exact s5
 have hN':kM (w.heap.size+1) 0 (.slice none 0 0) (.slice none 0 0) w2:=by
  unfold kM;rw [cK.block _ (by rw [zK];omega)];exact zD hN
 have hT2:w2.cell? ⟨w1.heap.size,0,none⟩=some (.slice a1 t.args.length c1):=by rw [cK.cell (by rw [zK];simp only;omega)];simp
 have oB:Rep (w.heap.size+1 < ·) w2 (qP t) (.slice a1 t.args.length c1):=(Rep.keep fun b o h ho=>⟨h,by rw [cK.block b (by have:=zZ ho;rw [zK];omega)];exact zD ho⟩).1 _ _ sD
 clear r0 s5 hN q0 q1 q2 q3 ql BK BJ im oV hvE sD hho
 obtain ⟨q0,q1,q2,q3,ql,qf⟩:=hN'.cells
 have BK:=qf 0;have BJ:=qf 1;have im:=qf 2;have oV:=qf 3;clear qf
 have y1:w.heap.size<w2.heap.size:=by omega
 have y2:w1.heap.size<w2.heap.size:=by omega
 have cj:=bz cK;clear cK
 by_cases hk:k=(text.length:Int)
 rotate_left
 ·have g1:(k == (text.length:Int))=false:=by rw [beq_eq_false_iff_ne];exact hk
  have hn:zN s text=none:=by
   rw [HM.out]
   cases hq:rdN 101 t.args text with
   | none=>rfl
   | some x =>
     obtain ⟨b,rest⟩:=x
     have h1:=(fq b rest hq).1
     simp only
     rw [if_neg]
     rintro ⟨rfl,_⟩
     exact hk (by rw [h1];simp)
  have HN:=bz hn
  clear hn hk fP fq
  have h0:kM (w.heap.size+1) 0 (.slice none 0 0) (.slice none 0 0) (w2.setCell ⟨w.heap.size,0,none⟩ (.slice a1 t.args.length c1)):=by
   unfold kM;rw [bf _ _ _ _ (by simp)];exact hN'
  obtain ⟨W,hW,s0,s1,s2,s3,b9,dl⟩:=h0.store (str s') (.int .i64 v') (.slice a2 n2 c2) (.slice a3 n3 c3)
  have t0:W.cell? ⟨w.heap.size,0,none⟩=some (.slice a1 t.args.length c1):=ux (qj r0' _) fun x hx=>dl _ x (by simp) hx
  have ef:=b9 _ _ (fi.setCell (p:=⟨w.heap.size,0,none⟩) (bw _) (.slice a1 t.args.length c1)) (by omega)
  have oE:Rep (w.heap.size<=·) W (qP t) (.slice a1 t.args.length c1):=(Rep.keep fun b o h ho=>⟨by omega,dl b o (by omega) (by rw [bf _ _ _ _ (by simp;omega)];exact ho)⟩).1 _ _ oB
  have FIN:Hid (∀ o,qv s text w (.returned (.tuple #[.agg #[.slice a1 t.args.length c1],.agg #[str s',.int .i64 v',.slice a2 n2 c2,.slice a3 n3 c3],.bool false])) (W.alloc o).drew):=fun o =>
   qv.no (a:=a1) (c:=c1) (by rw [HT.out]) rfl HN.out ((ef.alloc ef.size o).drew) (by rw [HT.out];exact ((Rep.keep fun b o h ho=>⟨h,zD ho⟩).1 _ _ oE).drew)
  have HW:=bz hW;clear h0 hW b9 dl ef oE
  go_wp2_with fail
  go_region
  go_wp2_with fail
  rw [<- HW.out]
  refine bodyPost_ret (v:=.tuple #[.agg #[.slice a1 t.args.length c1],.agg #[str s',.int .i64 v',.slice a2 n2 c2,.slice a3 n3 c3],.bool false]) (by simp [results,Tryz.results31,go_sem,zH t0,zH s0,zH s1,zH s2,zH s3]) rfl ?_
  exact FIN.out _
 obtain ⟨b,hqb⟩:∃ b,rdN 101 t.args text=some (b,[]):=by
  cases hq:rdN 101 t.args text with
  | none=>have:=fP hq;omega
  | some x =>
    obtain ⟨b,rest⟩:=x
    have h1:=(fq b rest hq).1
    have:rest.length=0:=by omega
    rw [List.eq_nil_of_length_eq_zero this];exact ⟨b,rfl⟩
 have hrB:=(fq b [] hqb).2
 have er:=rdN_size 101 hqb
 have hm:zN s text=if zg b<=200 then some b else none:=by
  rw [HM.out,hqb];simp
 have HM:=bz hm
 have hlB:Lim (zg b):=hl.mono (by simp at er;omega)
 have g1:(k == (text.length:Int))=true:=by rw [beq_iff_eq];exact hk
 clear hm hqb fP fq er
 have HK:=bz hk;clear hk
 have B6:zv (w.heap.size+1 < ·) (w2.alloc (.cells #[str s',.int .i64 v',.slice a2 n2 c2,.slice a3 n3 c3] 64)) (qZ b) [str s',.int .i64 v',.slice a2 n2 c2,.slice a3 n3 c3] :=
  (Rep.keep fun b o h ho=>⟨by have:=vT h;omega,zD ho⟩).2 _ _ hrB
 have hTA:(w2.alloc (.cells #[str s',.int .i64 v',.slice a2 n2 c2,.slice a3 n3 c3] 64)).cell? ⟨w1.heap.size,0,none⟩=some (.slice a1 t.args.length c1):=zH hT2
 have n0:(w2.alloc (.cells #[str s',.int .i64 v',.slice a2 n2 c2,.slice a3 n3 c3] 64)).cell? ⟨w2.heap.size,0,none⟩=some (str s'):=by simp
 have n1:(w2.alloc (.cells #[str s',.int .i64 v',.slice a2 n2 c2,.slice a3 n3 c3] 64)).cell? ⟨w2.heap.size,1,none⟩=some (.int .i64 v'):=by simp
 have n2':(w2.alloc (.cells #[str s',.int .i64 v',.slice a2 n2 c2,.slice a3 n3 c3] 64)).cell? ⟨w2.heap.size,2,none⟩=some (.slice a2 n2 c2):=by simp
 have n3':(w2.alloc (.cells #[str s',.int .i64 v',.slice a2 n2 c2,.slice a3 n3 c3] 64)).cell? ⟨w2.heap.size,3,none⟩=some (.slice a3 n3 c3):=by simp
 have ij:KeepS w1.heap.size w2.heap.size (.slice a1 t.args.length c1) (str s') (.int .i64 v') (.slice a2 n2 c2) (.slice a3 n3 c3) (w2.alloc (.cells #[str s',.int .i64 v',.slice a2 n2 c2,.slice a3 n3 c3] 64)):=⟨hTA,n0,n1,n2',n3'⟩
 have hK3d:KeepS w1.heap.size w2.heap.size (.slice a1 t.args.length c1) (str s') (.int .i64 v') (.slice a2 n2 c2) (.slice a3 n3 c3) (w2.alloc (.cells #[str s',.int .i64 v',.slice a2 n2 c2,.slice a3 n3 c3] 64)).drew:=ij
 have BQ:w1.heap.size≠w.heap.size:=by omega
 have BM:w2.heap.size≠w.heap.size:=by omega
 have fk:w1.heap.size≠w.heap.size+1:=by omega
 have fO:w2.heap.size≠w.heap.size+1:=by omega
 clear hTA n0 n1 n2' n3'
 go_wp2_with fail
 go_region_held3 (fun w'=>w'.cell? ⟨w1.heap.size,0,none⟩=some (.slice a1 t.args.length c1)/\w'.cell? ⟨w2.heap.size,0,none⟩=some (str s')/\w'.cell? ⟨w2.heap.size,1,none⟩=some (.int .i64 v')/\w'.cell? ⟨w2.heap.size,2,none⟩=some (.slice a2 n2 c2)/\w'.cell? ⟨w2.heap.size,3,none⟩=some (.slice a3 n3 c3))
  (first
   | with_reducible exact ij
   | with_reducible exact hK3d
   | with_reducible exact ah
   | with_reducible exact ah.set _ _ _ BQ BM
   | with_reducible exact (ah.set _ _ _ BQ BM).set _ _ _ fk fO
   | with_reducible exact ((ah.set _ _ _ BQ BM).set _ _ _ fk fO).set _ _ _ fk fO
   | with_reducible exact (((ah.set _ _ _ BQ BM).set _ _ _ fk fO).set _ _ _ fk fO).set _ _ _ fk fO
   | with_reducible exact ((((ah.set _ _ _ BQ BM).set _ _ _ fk fO).set _ _ _ fk fO).set _ _ _ fk fO).set _ _ _ fk fO
   | with_reducible exact ah.set _ _ _ fk fO
   | with_reducible exact (ah.set _ _ _ fk fO).set _ _ _ fk fO
   | with_reducible exact ((ah.set _ _ _ fk fO).set _ _ _ fk fO).set _ _ _ fk fO
   | with_reducible exact (((ah.set _ _ _ fk fO).set _ _ _ fk fO).set _ _ _ fk fO).set _ _ _ fk fO
   | with_reducible exact ((((ah.set _ _ _ fk fO).set _ _ _ fk fO).set _ _ _ fk fO).set _ _ _ fk fO).set _ _ _ BQ BM)
  (first
   | (go_at_call 65;refine (l3Size_any (zg b) b (bw _) hlB (w.heap.size+1 < ·) _ _ _ _ _ _ _ _ _ (by exact B6.drew)).mono ?_;rintro en w5 ⟨rfl,cz⟩;have ah:KeepS w1.heap.size w2.heap.size (.slice a1 t.args.length c1) (str s') (.int .i64 v') (.slice a2 n2 c2) (.slice a3 n3 c3) w5:=⟨(cz.cell (by simp;omega)).trans ij.1,(cz.cell (by simp)).trans ij.2.1,(cz.cell (by simp)).trans ij.2.2.1,(cz.cell (by simp)).trans ij.2.2.2.1,(cz.cell (by simp)).trans ij.2.2.2.2⟩;have z5:=cz.size;have hz5:w.heap.size<w5.heap.size:=(by simp at z5;omega);have r5:w5.cell? ⟨w.heap.size,0,none⟩=some (.slice none 0 0):=(cz.cell (by simp;omega)).trans (zH r0');have f5:w5.frozen? ⟨w.heap.size,0,none⟩=false:=(cz.frozen (by simp;omega)).trans ((World.frozen?_of_block (w:=w2) (Below.heap_alloc _ _ _ y1)).trans rf0');have tP:kM (w.heap.size+1) 0 (.slice none 0 0) (.slice none 0 0) w5:=(by unfold kM;rw [cz.block _ (by simp;omega)];exact zD hN');obtain ⟨p0,p1,p2,p3,pl,pf⟩:=tP.cells;have pf0:=pf 0;have pf1:=pf 1;have pf2:=pf 2;have pf3:=pf 3;clear pf))
 go_wp2_with fail
 have h0:kM (w.heap.size+1) 0 (.slice none 0 0) (.slice none 0 0) (w5.setCell ⟨w.heap.size,0,none⟩ (.slice a1 t.args.length c1)):=by
  unfold kM;rw [bf _ _ _ _ (by simp)];exact tP
 obtain ⟨W,hW,s0,s1,s2,s3,b9,dl⟩:=h0.store (str s') (.int .i64 v') (.slice a2 n2 c2) (.slice a3 n3 c3)
 have t0:W.cell? ⟨w.heap.size,0,none⟩=some (.slice a1 t.args.length c1):=ux (qj r5 _) fun x hx=>dl _ x (by simp) hx
 have fN:Below w2.heap.size w2 w5:=((((bh _ _).alloc (bw _) _).drew).trans (cz.mono (by simp)))
 have Cj:=zzT fi fN
 have ef:=b9 _ _ (Cj.setCell (p:=⟨w.heap.size,0,none⟩) (bw _) (.slice a1 t.args.length c1)) (by omega)
 have keepF:∀ i o,w.heap.size+1<i->w2.heap[i]? = some o->W.heap[i]? = some o:=fun i o h ho =>
  dl i o (by omega) (by rw [bf _ _ _ _ (by simp;omega),fN.block i (zZ ho)];exact ho)
 have oE:Rep (w.heap.size<=·) W (qP t) (.slice a1 t.args.length c1):=(Rep.keep fun b o h ho=>⟨by omega,keepF b o h ho⟩).1 _ _ oB
 have hrN:zv (w.heap.size<=·) W (qZ b) [str s',.int .i64 v',.slice a2 n2 c2,.slice a3 n3 c3]:=(Rep.keep fun b o h ho=>⟨by have:=vT h;omega,keepF b o (by have:=vT h;omega) ho⟩).2 _ _ hrB
 rw [<- hW]
 refine bodyPost_ret (v:=.tuple #[.agg #[.slice a1 t.args.length c1],.agg #[str s',.int .i64 v',.slice a2 n2 c2,.slice a3 n3 c3],.bool (decide ((zg b:Int)<=200))]) (by simp [results,Tryz.results31,go_sem,t0,s0,s1,s2,s3]) rfl ?_
 by_cases FK:zg b<=200
 ·refine qv.yes (a:=a1) (c:=c1) (by rw [HT.out]) (by rw [decide_eq_true_eq];omega) (by rw [HM.out,if_pos FK]) ef (by rw [HT.out];exact oE) hrN
 ·exact qv.no (a:=a1) (c:=c1) (by rw [HT.out]) (by rw [decide_eq_false_iff_not];omega) (by rw [HM.out,if_neg FK]) ef (by rw [HT.out];exact oE)
theorem uy (c:UInt8):dig c=true↔48<=c.toNat/\c.toNat<=57:=by
 simp [dig,UInt8.le_iff_toNat_le]
theorem jQ {k:Nat} (h:k<10):(UInt8.ofNat (48+k)).toNat=48+k:=by
 rw [UInt8.toNat_ofNat'];exact Nat.mod_eq_of_lt (by omega)
theorem decDigits_dig (u:Nat):∀ c∈Lib.decDigits u,dig c=true:=by
 induction u using Nat.strongRecOn with
 | _ u ih =>
   intro c hc
   rw [Lib.decDigits] at hc
   split at hc
   ·rename_i h
    rw [List.mem_singleton] at hc;subst hc
    rw [uy,jQ h];omega
   ·rename_i h
    rcases List.mem_append.1 hc with hc | hc
    ·exact ih _ (by omega) c hc
    ·simp only [List.mem_singleton] at hc;subst hc
     rw [uy,jQ (by omega)];omega
theorem decDigits_val (u:Nat):qU (Lib.decDigits u)=u:=by
 induction u using Nat.strongRecOn with
 | _ u ih =>
   rw [Lib.decDigits]
   split
   ·rename_i h
    show 10*0+((UInt8.ofNat (48+u)).toNat-48)=u
    rw [jQ h];omega
   ·rename_i h
    rw [xG,ih _ (by omega),jQ (by omega)];omega
theorem wY (u:Nat):Lib.decDigits u≠[]:=by
 intro h
 have:=Lib.decDigits_length u
 have:=Lib.nDigits_pos u
 rw [h] at *;simp at *;omega
theorem bG (u:Nat) (h1:1<=u):(Lib.decDigits u).head?≠some 48:=by
 induction u using Nat.strongRecOn with
 | _ u ih =>
   rw [Lib.decDigits]
   split
   ·rename_i h
    intro e
    rw [List.head?_cons,Option.some.injEq] at e
    have:=jQ h
    rw [e] at this
    have rv:(48:UInt8).toNat=48:=rfl
    omega
   ·rename_i h
    rw [List.head?_append]
    have:=ih (u / 10) (by omega) (by omega)
    have cE:=wY (u / 10)
    cases hd:Lib.decDigits (u / 10) with
    | nil=>exact absurd hd cE
    | cons x xs=>rw [hd] at this;simpa using this
theorem pm {u:Nat} (h:u<10000):(Lib.decDigits u).length<=4:=by
 rw [Lib.decDigits_length]
 by_cases h1:u<10
 ·rw [Lib.nDigits_small h1];omega
 rw [Lib.nDigits_big h1]
 by_cases h2:u / 10<10
 ·rw [Lib.nDigits_small h2];omega
 rw [Lib.nDigits_big h2]
 by_cases h3:u / 10 / 10<10
 ·rw [Lib.nDigits_small h3];omega
 rw [Lib.nDigits_big h3]
 rw [Lib.nDigits_small (by omega)];omega
theorem fold_ge (l:Bs):∀ a:Nat,a<=l.foldl (fun n c=>10*n+(c.toNat-48)) a:=by
 induction l with
 | nil=>intro a;simp
 | cons c cs ih=>intro a;simp only [List.foldl_cons];have:=ih (10*a+(c.toNat-48));omega
theorem valOf_pos {l:Bs} (hd:∀ c∈l,dig c=true) (hn:l≠[]) (rv:l.head?≠some 48):1<=qU l:=by
 cases l with
 | nil=>exact absurd rfl hn
 | cons c cs =>
   have h1:=(uy c).1 (hd c (by simp))
   have h2:c.toNat≠48:=fun e=>rv (by simp;exact UInt8.toNat_inj.1 (by simpa using e))
   have:=fold_ge cs (10*0+(c.toNat-48))
   show 1<=cs.foldl _ (10*0+(c.toNat-48))
   omega
theorem wU (n:Nat):∀ w:Bs,w.length=n->w≠[]->(∀ c∈w,dig c=true)->(1<w.length->w.head?≠some 48)->Lib.decDigits (qU w)=w:=by
 induction n with
 | zero=>intro w hl hn;exact absurd (List.eq_nil_of_length_eq_zero hl) hn
 | succ n ih =>
   intro w hl hn hd hh
   obtain ⟨ws,c,rfl⟩:∃ ws c,w=ws++[c]:=⟨w.dropLast,w.getLast hn,(List.dropLast_concat_getLast hn).symm⟩
   have hc:=(uy c).1 (hd c (by simp))
   have hof:UInt8.ofNat (48+(c.toNat-48))=c:=by
    apply UInt8.toNat_inj.1;rw [jQ (by omega)];omega
   rw [xG]
   by_cases Dl:ws=[]
   ·subst Dl
    show Lib.decDigits (10*0+(c.toNat-48))=[c]
    rw [Lib.decDigits_one (by omega),show 48+(10*0+(c.toNat-48))=48+(c.toNat-48) from by omega,hof]
   ·have oW:1<=ws.length:=by cases ws with
     | nil=>exact absurd rfl Dl
     | cons x xs=>simp
    have rv:ws.head?≠some 48:=by
     have:=hh (by simp;omega)
     rw [List.head?_append] at this
     cases ws with
     | nil=>exact absurd rfl Dl
     | cons x xs=>simpa using this
    have hdw:∀ x∈ws,dig x=true:=fun x hx=>hd x (by simp [hx])
    have hp:=valOf_pos hdw Dl rv
    have hi:=ih ws (by simpa using hl) Dl hdw (fun _=>rv)
    rw [Lib.decDigits,dif_neg (by omega),show (10*qU ws+(c.toNat-48)) / 10=qU ws from by omega,show (10*qU ws+(c.toNat-48)) % 10=c.toNat-48 from by omega,hi,hof]
theorem decFrom_of (l:Bs):∀ a:Nat,(∀ c∈l,dig c=true)->Lib.decFrom a l=some (l.foldl (fun n c=>10*n+(c.toNat-48)) a):=by
 induction l with
 | nil=>intro a _;rfl
 | cons c cs ih =>
   intro a hd
   have hc:=(uy c).1 (hd c (by simp))
   simp only [Lib.decFrom,Lib.digitVal,if_pos hc,List.foldl_cons]
   rw [Nat.mul_comm a 10]
   exact ih _ fun x hx=>hd x (by simp [hx])
theorem lvl_spec {w:Bs} {n v:Nat} (h:lvl w n=some v) (hn:n<=10000):w≠[]/\w.length<=4/\(∀ c∈w,dig c=true)/\(1<w.length->w.head?≠some 48)/\qU w=v/\v<n:=by
 obtain ⟨h1,_,h3⟩:=lvl_lt h
 have e:Lib.itoa (v:Int)=Lib.decDigits v:=by unfold Lib.itoa;rw [if_neg (by omega)];simp
 rw [e] at h3
 subst h3
 refine ⟨wY v,pm (by omega),decDigits_dig v,fun hl=>?_,decDigits_val v,h1⟩
 refine bG v ?_
 rcases Nat.eq_zero_or_pos v with h0 | h0
 ·subst h0;rw [Lib.decDigits_one (by omega)] at hl;simp at hl
 ·exact h0
theorem spec_lvl {w:Bs} {n:Nat} (h1:w≠[]) (h2:w.length<=4) (h3:∀ c∈w,dig c=true) (h4:1<w.length->w.head?≠some 48) (h5:qU w<n):lvl w n=some (qU w):=by
 have ha:Lib.atoiAll w=.ok (qU w:Int):=by
  rw [Lib.atoiAll_short w (by omega)]
  cases w with
  | nil=>exact absurd rfl h1
  | cons c cs =>
    have hc:=(uy c).1 (h3 c (by simp))
    have n45:(c == 45)=false:=by rw [beq_eq_false_iff_ne];rintro rfl;have:(45:UInt8).toNat=45:=rfl;omega
    have n43:(c == 43)=false:=by rw [beq_eq_false_iff_ne];rintro rfl;have:(43:UInt8).toNat=43:=rfl;omega
    simp only [Lib.atoi,n45,n43,Bool.false_eq_true,if_false,Lib.decNat,List.isEmpty_cons]
    rw [decFrom_of _ 0 h3];rfl
 have hi:Lib.itoa (qU w:Int)=w:=by
  have e:Lib.itoa (qU w:Int)=Lib.decDigits (qU w):=by unfold Lib.itoa;rw [if_neg (by omega)];simp
  rw [e,wU w.length w rfl h1 h3 h4]
 unfold lvl
 rw [ha]
 simp only
 rw [if_pos ⟨hi,by omega,by omega⟩];simp
def jS (l:Bs):Prop:=l=[]\/∃ c r,l=c::r/\sep c=true
theorem dig_sep {c:UInt8} (h:dig c=true):sep c=false:=by
 have:=(uy c).1 h
 rw [Bool.eq_false_iff];intro hs
 simp only [sep,Bool.or_eq_true,beq_iff_eq] at hs
 rcases hs with (rfl | rfl) | rfl
 ·have:(32:UInt8).toNat=32:=rfl;omega
 ·have:(40:UInt8).toNat=40:=rfl;omega
 ·have:(41:UInt8).toNat=41:=rfl;omega
theorem gW (l:Bs):l=zk l++zF l:=(List.takeWhile_append_dropWhile).symm
theorem wordDrop (l:Bs):l.drop (zk l).length=zF l:=by
 have h:=gW l
 generalize zk l=a at *
 generalize zF l=b at *
 subst h;simp
theorem gH (l:Bs):jS (zF l):=by
 unfold zF
 induction l with
 | nil=>exact .inl rfl
 | cons c cs ih =>
   rw [List.dropWhile_cons]
   split
   ·exact ih
   ·rename_i h;exact .inr ⟨c,cs,rfl,by simpa using h⟩
theorem word_of {w rest:Bs} (hw:∀ c∈w,sep c=false) (hr:jS rest):zk (w++rest)=w/\zF (w++rest)=rest:=by
 unfold zk zF
 induction w with
 | nil =>
   rcases hr with rfl | ⟨c,r,rfl,hc⟩
   ·exact ⟨rfl,rfl⟩
   ·simp [hc]
 | cons x xs ih =>
   have hx:=hw x (by simp)
   have:=ih fun c hc=>hw c (by simp [hc])
   simp [hx,this.1,this.2]
theorem digsOf_of {w rest:Bs} (hw:∀ c∈w,dig c=true) (hl:w.length<=4) (hr:jS rest):kJ (w++rest)=w:=by
 unfold kJ
 rw [List.take_append,List.take_of_length_le hl]
 have key:(rest.take (4-w.length)).takeWhile dig=[]:=by
  rcases hr with rfl | ⟨c,r,rfl,hc⟩
  ·simp
  ·cases 4-w.length with
   | zero=>rfl
   | succ k =>
     rw [List.take_succ_cons,List.takeWhile_cons,if_neg]
     intro h;rw [dig_sep h] at hc;simp at hc
 rw [List.takeWhile_append_of_pos (fun c hc=>hw c hc),key,List.append_nil]
theorem cut_is {c:UInt8} {r:Bs}:cut [c] (c::r)=some r:=by simp [cut,List.isPrefixOf]
theorem wS (rd:RdS) (hs gs:List (List Ty)):∀ {l:Bs} {bs:List Bd} {l1:Bs} {cs:List Bd} {l2:Bs},zY rd hs l=some (bs,l1)->zY rd gs l1=some (cs,l2)->zY rd (hs++gs) l=some (bs++cs,l2):=by
 induction hs with
 | nil=>intro l bs l1 cs l2 h k;simp [zY] at h;obtain ⟨rfl,rfl⟩:=h;simpa using k
 | cons h' hs ih =>
   intro l bs l1 cs l2 h k
   simp only [zY,Option.bind_eq_bind,Option.bind_eq_some_iff,Prod.exists] at h
   obtain ⟨b,m,h1,bs',m',h2,h3⟩:=h
   simp at h3;obtain ⟨rfl,rfl⟩:=h3
   simp only [List.cons_append,zY,Option.bind_eq_bind,h1,Option.bind_some,ih h2 k]
def RdFits (rd:Rd) (rs:RdS) (h:List Ty):Prop:=∀ (left:Nat) (l:Bs) (b:Bd) (r:Bs) (f:Nat),rd h left l=some (b,r,f)->rs h l=some (b,r)/\f+zg b=left/\l.length+1<=r.length+7*zg b
theorem parts_fit {rd:Rd} {rs:RdS} (hs:List (List Ty)) (hf:∀ h∈hs,RdFits rd rs h):∀ {left:Nat} {l:Bs} {bs:List Bd} {r:Bs} {f:Nat},zt rd hs left l=some (bs,r,f)->zY rs hs l=some (bs,r)/\f+zL bs=left/\l.length<=r.length+7*zL bs:=by
 induction hs with
 | nil=>intro left l bs r f h;simp [zt] at h;obtain ⟨rfl,rfl,rfl⟩:=h;simp [zY,zL]
 | cons h' hs ih =>
   intro left l bs r f h
   simp only [zt,Option.bind_eq_bind,Option.bind_eq_some_iff,Prod.exists] at h
   obtain ⟨l1,h1,b,l2,f2,h2,bs',l3,f3,h3,h4⟩:=h
   simp at h4;obtain ⟨rfl,rfl,rfl⟩:=h4
   obtain ⟨a1,a2,a3⟩:=hf h' (by simp) _ _ _ _ _ h2
   obtain ⟨b1,b2,b3⟩:=ih (fun x hx=>hf x (by simp [hx])) h3
   have hc:=jJ h1
   refine ⟨?_,by simp [zL];omega,by subst hc;simp [zL];omega⟩
   simp only [zY,kU,h1,Option.bind_eq_bind,Option.bind_some,a1,b1]
theorem gC {l:Bs} {c:UInt8} (h:zk l=[c]):l=c::zF l:=by
 have:=gW l
 rw [h] at this;simpa using this
theorem specNum_of {w rest:Bs} (h1:w≠[]) (h2:w.length<=4) (h3:∀ c∈w,dig c=true) (h4:1<w.length->w.head?≠some 48) (hr:jS rest):qN (w++rest)=some (qU w,w.length):=by
 unfold qN
 rw [digsOf_of h3 h2 hr,if_neg]
 rintro (h | ⟨h,h'⟩)
 ·exact h1 h
 ·apply h4 h
  cases w with
  | nil=>exact absurd rfl h1
  | cons x xs=>simpa using h'
theorem rdB_fits (d:Nat):∀ levels,qK d levels->RdFits (rdB d) (rdN (d+1)) levels:=by
 induction d with
 | zero =>
   intro levels hh left l b r f h
   rcases left with _ | left
   ·simp [rdB] at h
   rcases zo [40] l with h1 | ⟨r1,h1⟩
   ·rw [xd 0 levels left h1.out] at h
    have key:∀ c:UInt8,(c=116\/c=102\/c=117)->zk l=[c]->rdN 1 levels l=some (.leaf c,zF l)/\left+zg (.leaf c)=left+1/\l.length+1<=(zF l).length+7*zg (.leaf c):=by
     intro c hc hw
     have e:=gC hw
     refine ⟨?_,rfl,?_⟩
     ·conv=>lhs;rw [e]
      simp only [rdN,if_pos hc]
     ·have:=congrArg List.length e;simp at this;simp [zg];omega
    split at h
    ·rename_i hw;simp at h;obtain ⟨rfl,rfl,rfl⟩:=h;exact key _ (by decide) hw
    ·split at h
     ·rename_i hw;simp at h;obtain ⟨rfl,rfl,rfl⟩:=h;exact key _ (by decide) hw
     ·split at h
      ·rename_i hw;simp at h;obtain ⟨rfl,rfl,rfl⟩:=h;exact key _ (by decide) hw
      ·simp at h
   ·rw [xf 0 levels left h1.out] at h
    cases hv:lvl (zk r1) levels.length with
    | none=>rw [hv] at h;simp at h
    | some v=>rw [hv] at h;simp at h
 | succ d ih =>
   intro levels hh left l b r f h
   rcases left with _ | left
   ·simp [rdB] at h
   rcases zo [40] l with h1 | ⟨r1,h1⟩
   ·rw [xd (d+1) levels left h1.out] at h
    have key:∀ c:UInt8,(c=116\/c=102\/c=117)->zk l=[c]->rdN (d+1+1) levels l=some (.leaf c,zF l)/\left+zg (.leaf c)=left+1/\l.length+1<=(zF l).length+7*zg (.leaf c):=by
     intro c hc hw
     have e:=gC hw
     refine ⟨?_,rfl,?_⟩
     ·conv=>lhs;rw [e]
      simp only [rdN,if_pos hc]
     ·have:=congrArg List.length e;simp at this;simp [zg];omega
    split at h
    ·rename_i hw;simp at h;obtain ⟨rfl,rfl,rfl⟩:=h;exact key _ (by decide) hw
    ·split at h
     ·rename_i hw;simp at h;obtain ⟨rfl,rfl,rfl⟩:=h;exact key _ (by decide) hw
     ·split at h
      ·rename_i hw;simp at h;obtain ⟨rfl,rfl,rfl⟩:=h;exact key _ (by decide) hw
      ·simp at h
   ·rw [xf (d+1) levels left h1.out] at h
    cases hv:lvl (zk r1) levels.length with
    | none=>rw [hv] at h;simp at h
    | some v =>
      rw [hv] at h
      simp only at h
      cases ht:levels[v]? with
      | none=>rw [ht] at h;simp at h
      | some t =>
        rw [ht] at h
        simp only [gx,Option.bind_eq_bind,Option.bind_eq_some_iff,Prod.exists] at h
        obtain ⟨ss,l1,f1,h2,yn,l2,f2,h3,h4⟩:=h
        have hl:levels.length<=10000:=by have:=hh.2;omega
        obtain ⟨w1,w2,w3,w4,w5,w6⟩:=lvl_spec hv hl
        split at h4
        ·rename_i y n
         simp only [Option.bind_eq_some_iff] at h4
         obtain ⟨l3,h5,h6⟩:=h4
         simp at h6;obtain ⟨rfl,rfl,rfl⟩:=h6
         have k1:=parts_fit (rs:=rdN (d+1)) (t.args.map fun a=>levels++a.args) (fun x hx=>by
          obtain ⟨a,ha,rfl⟩:=List.mem_map.1 hx
          exact ih _ (hh.next ht ha)) h2
         have dz:qK d levels:=by have:=hh.same;rwa [List.append_nil] at this
         have k2:=parts_fit (rs:=rdN (d+1)) [levels,levels] (fun x hx=>by
          have:x=levels:=by simpa using hx
          subst this;exact ih _ dz) h3
         have hln:=(uO (gy d) _ h2).2.2
         rw [List.length_map] at hln
         have hc:=jJ h5
         have mz:=jJ h1.out
         have hw:=gW r1
         have DU:=specNum_of (rest:=zF r1) w1 w2 w3 w4 (gH r1)
         rw [<- hw,w5] at DU
         have cF:zY (rdN (d+1)) (kT levels t) (zF r1)=some (ss++[y,n],l2):=wS _ _ _ k1.1 k2.1
         refine ⟨?_,?_,?_⟩
         ·conv=>lhs;rw [mz]
          rw [rdN]
          rw [if_neg (by decide),if_neg (by decide),DU]
          simp only [ht]
          rw [wordDrop]
          simp only [cF,Option.bind_eq_bind,Option.bind_some,h5,ur]
          rw [List.drop_left' hln,List.take_left' hln];rfl
         ·have a1:=k1.2.1;have a2:=k2.2.1
          simp [zg,zL] at a1 a2 ⊢;omega
         ·have a1:=k1.2.2;have a2:=k2.2.2
          have oW:=congrArg List.length hw
          have ik:=congrArg List.length hc
          have hc1l:=congrArg List.length mz
          simp [zg,zL] at a1 a2 oW ik hc1l ⊢;omega
        ·simp at h4
theorem vJ {rs:RdS} {hs:List (List Ty)} {l:Bs} {ps:List Bd} {r:Bs} (h:zY rs hs l=some (ps,r)) (hr:jS r):jS l:=by
 cases hs with
 | nil=>simp [zY] at h;obtain ⟨_,rfl⟩:=h;exact hr
 | cons h' hs =>
   simp only [zY,kU,Option.bind_eq_bind,Option.bind_eq_some_iff,Prod.exists] at h
   obtain ⟨_,_,⟨l1,h1,_⟩,_⟩:=h
   have:=jJ h1
   exact .inr ⟨32,l1,this,rfl⟩
def RdBack (rd:Rd) (rs:RdS) (h:List Ty):Prop:=∀ (left:Nat) (l:Bs) (b:Bd) (r:Bs),rs h l=some (b,r)->jS r->zg b<=left->rd h left l=some (b,r,left-zg b)
theorem gf {rd:Rd} {rs:RdS} (hs:List (List Ty)) (hf:∀ h∈hs,RdBack rd rs h):∀ (left:Nat) (l:Bs) (ps:List Bd) (r:Bs),zY rs hs l=some (ps,r)->jS r->zL ps<=left->zt rd hs left l=some (ps,r,left-zL ps):=by
 induction hs with
 | nil=>intro left l ps r h _ _;simp [zY] at h;obtain ⟨rfl,rfl⟩:=h;simp [zt,zL]
 | cons h' hs ih =>
   intro left l ps r h hr er
   simp only [zY,kU,Option.bind_eq_bind,Option.bind_eq_some_iff,Prod.exists] at h
   obtain ⟨b,l2,⟨l1,h1,h2⟩,bs,l3,h3,h4⟩:=h
   simp at h4;obtain ⟨rfl,rfl⟩:=h4
   simp [zL] at er
   have hb:=hf h' (by simp) left l1 b l2 h2 (vJ h3 hr) (by omega)
   have hbs:=ih (fun x hx=>hf x (by simp [hx])) (left-zg b) l2 bs l3 h3 hr (by omega)
   simp only [zt,h1,Option.bind_eq_bind,Option.bind_some,hb,hbs]
   simp [zL];omega
theorem pv (rs:RdS) (hs gs:List (List Ty)):∀ {l:Bs} {ps:List Bd} {r:Bs},zY rs (hs++gs) l=some (ps,r)->∃ bs l1 cs,ps=bs++cs/\zY rs hs l=some (bs,l1)/\zY rs gs l1=some (cs,r):=by
 induction hs with
 | nil=>intro l ps r h;exact ⟨[],l,ps,rfl,rfl,h⟩
 | cons h' hs ih =>
   intro l ps r h
   simp only [List.cons_append,zY,Option.bind_eq_bind,Option.bind_eq_some_iff,Prod.exists] at h
   obtain ⟨b,m,h1,bs',m',h2,h3⟩:=h
   simp at h3;obtain ⟨rfl,rfl⟩:=h3
   obtain ⟨bs,l1,cs,rfl,a1,a2⟩:=ih h2
   refine ⟨b::bs,l1,cs,rfl,?_,a2⟩
   simp only [zY,Option.bind_eq_bind,h1,Option.bind_some,a1]
theorem xu {m:Bs} {v k:Nat} (h:qN m=some (v,k)):kJ m≠[]/\v=qU (kJ m)/\k=(kJ m).length/\(1<(kJ m).length->(kJ m).head?≠some 48):=by
 unfold qN at h
 split at h
 ·simp at h
 ·rename_i hc
  simp at h
  refine ⟨fun e=>hc (.inl e),h.1.symm,h.2.symm,fun h1 h2=>hc (.inr ⟨h1,?_⟩)⟩
  have hp:=j2 m
  obtain ⟨x,hx⟩:=hp
  cases hd:kJ m with
  | nil=>rw [hd] at h1;simp at h1
  | cons y ys=>rw [hd] at hx h2;rw [<- hx];simpa using h2
theorem rdN_back (d:Nat):∀ levels,qK d levels->RdBack (rdB d) (rdN (d+1)) levels:=by
 induction d with
 | zero =>
   intro levels hh left l b r h hr er
   obtain ⟨left,rfl⟩:∃ x,left=x+1:=⟨left-1,by have:=jW b;omega⟩
   cases l with
   | nil=>simp [rdN] at h
   | cons c m =>
     simp only [rdN] at h
     split at h
     ·rename_i hc
      simp at h;obtain ⟨rfl,rfl⟩:=h
      have eZ:cut [40] (c::m)=none:=by
       rcases hc with rfl | rfl | rfl <;> simp [cut,List.isPrefixOf]
      have hw:=word_of (w:=[c]) (rest:=m) (fun x hx=>by
       have:x=c:=by simpa using hx
       subst this;rcases hc with rfl | rfl | rfl <;> decide) hr
      rw [List.singleton_append] at hw
      rw [xd 0 levels left eZ,hw.1,hw.2]
      rcases hc with rfl | rfl | rfl <;> simp [zg]
     ·split at h
      ·simp at h
      ·split at h
       ·simp at h
       ·split at h
        ·simp at h
        ·exfalso
         simp only [Option.bind_eq_bind,Option.bind_eq_some_iff,Prod.exists] at h
         obtain ⟨ps,l1,h1,_⟩:=h
         rename_i t _ _
         cases ha:kT levels t with
         | nil=>have:=vX levels t;rw [ha] at this;simp at this
         | cons x xs=>rw [ha] at h1;simp [zY,kU] at h1
 | succ d ih =>
   intro levels hh left l b r h hr er
   obtain ⟨left,rfl⟩:∃ x,left=x+1:=⟨left-1,by have:=jW b;omega⟩
   cases l with
   | nil=>simp [rdN] at h
   | cons c m =>
     rw [rdN] at h
     simp only at h
     split at h
     ·rename_i hc
      simp at h;obtain ⟨rfl,rfl⟩:=h
      have eZ:cut [40] (c::m)=none:=by
       rcases hc with rfl | rfl | rfl <;> simp [cut,List.isPrefixOf]
      have hw:=word_of (w:=[c]) (rest:=m) (fun x hx=>by
       have:x=c:=by simpa using hx
       subst this;rcases hc with rfl | rfl | rfl <;> decide) hr
      rw [List.singleton_append] at hw
      rw [xd (d+1) levels left eZ,hw.1,hw.2]
      rcases hc with rfl | rfl | rfl <;> simp [zg]
     ·split at h
      ·simp at h
      ·rename_i eZ
       have eZ:c=40:=by simpa using eZ
       subst eZ
       cases hn:qN m with
       | none=>rw [hn] at h;simp at h
       | some x =>
         obtain ⟨v,k⟩:=x
         rw [hn] at h
         simp only at h
         cases ht:levels[v]? with
         | none=>rw [ht] at h;simp at h
         | some t =>
           rw [ht] at h
           simp only [Option.bind_eq_bind,Option.bind_eq_some_iff,Prod.exists] at h
           obtain ⟨ps,l2,h1,l3,h2,b',h3,h4⟩:=h
           simp at h4;obtain ⟨rfl,rfl⟩:=h4
           have hc:=jJ h2
           have Ap:jS l2:=.inr ⟨41,l3,hc,rfl⟩
           have dw:=vJ h1 Ap
           obtain ⟨n1,n2,n3,n4⟩:=xu hn
           obtain ⟨bs,l1,cs,e1,p1,p2⟩:=pv _ _ _ h1
           have eD:=uY _ p1
           have ik:=uY _ p2
           have mW:=bM h3
           have hw0:m=kJ m++m.drop k:=by
            obtain ⟨x,hx⟩:=j2 m
            have gen:∀ (a b c:Bs),a++b=c->c.drop a.length=b:=by rintro a b c rfl;simp
            rw [n3,gen _ _ _ hx,hx]
           have hw:=word_of (w:=kJ m) (rest:=m.drop k) (fun x hx=>dig_sep (ji m x hx)) dw
           rw [<- hw0] at hw
           have fv:v<levels.length:=(List.getElem?_eq_some_iff.1 ht).1
           have dT:=spec_lvl (n:=levels.length) n1 (yp m).1 (ji m) n4 (by rw [<- n2];exact fv)
           rw [<- n2] at dT
           have hsl1:jS l1:=vJ p2 Ap
           have hszs:zL ps=zL bs+zL cs:=by rw [e1,kw]
           have dz:qK d levels:=by have:=hh.same;rwa [List.append_nil] at this
           have k1:=gf (rd:=rdB d) (t.args.map fun a=>levels++a.args) (fun x hx=>by
            obtain ⟨a,ha,rfl⟩:=List.mem_map.1 hx
            exact ih _ (hh.next ht ha)) left (m.drop k) bs l1 p1 hsl1 (by omega)
           have k2:=gf (rd:=rdB d) [levels,levels] (fun x hx=>by
            have:x=levels:=by simpa using hx
            subst this;exact ih _ dz) (left-zL bs) l1 cs l2 p2 Ap (by omega)
           have lL:bs.length=t.args.length:=by simpa [kC] using eD
           obtain ⟨y,n,rfl⟩:∃ y n,cs=[y,n]:=by
            match cs,ik with
            | [a,b],_=>exact ⟨a,b,rfl⟩
           have hb:b'=.ask v bs y n:=by
            rw [e1] at h3
            unfold ur at h3
            rw [List.drop_left' lL,List.take_left' lL] at h3
            simpa using h3.symm
           subst hb
           rw [xf (d+1) levels left (l:=40::m) cut_is,hw.1,dT]
           simp only [ht]
           rw [hw.2]
           simp only [gx,k1,k2,Option.bind_eq_bind,Option.bind_some,h2]
           simp [zg,zL] at *;omega
theorem rdStrat_eq (t:Ty) (ht:zP t<=15) (l:Bs):jz t l=(if 2000<l.length then none else match rdN 101 t.args l with
 | none=>none
 | some (b,rest)=>if rest=[]/\zg b<=200 then some b else none):=by
 have hh:=handOk_of ht
 cases hq:jz t l with
 | some b =>
   have h1:∃ f,rdB 100 t.args 200 l=some (b,[],f):=by
    unfold jz at hq
    split at hq
    ·rename_i b' f he
     simp at hq;subst hq;exact ⟨f,he⟩
    ·simp at hq
   obtain ⟨f,h1⟩:=h1
   obtain ⟨a1,a2,a3⟩:=rdB_fits 100 t.args hh _ _ _ _ _ h1
   have:¬ 2000<l.length:=by simp at a3;omega
   rw [if_neg this,a1]
   simp only
   rw [if_pos ⟨by trivial,by omega⟩]
 | none =>
   symm
   split
   ·rfl
   ·cases hn:rdN 101 t.args l with
    | none=>rfl
    | some x =>
      obtain ⟨b,rest⟩:=x
      simp only
      split
      ·rename_i hc
       obtain ⟨rfl,hc⟩:=hc
       have:=rdN_back 100 t.args hh 200 l b [] hn (.inl rfl) hc
       unfold jz at hq
       rw [this] at hq;simp at hq
      ·rfl
theorem p_ (s l:Bs):xh s l=(zN s l).map fun b=>((zV s).1,b):=by
 unfold xh zN
 rw [yJ]
 cases cD:(zV s).2 with
 | false=>simp
 | true =>
   have cJ:=j6 cD
   simp only [if_true,Option.bind_eq_bind,Option.bind_some]
   rw [rdStrat_eq _ cJ]
   by_cases h2:2000<l.length
   ·simp [h2]
   ·simp only [h2,if_false,Bool.true_eq_false,false_or]
    cases rdN 101 (zV s).1.args l with
    | none=>rfl
    | some x =>
      obtain ⟨b,rest⟩:=x
      simp only
      split <;> rfl
mutual
def kE:List Ty->Bd->Prop
 | _,.leaf _=>True
 | hand,.ask v ss y n=>∃ t,hand[v]? = some t/\km (kC hand t.args) ss/\kE hand y/\kE hand n
def km:List (List Ty)->List Bd->Prop
 | hs,[]=>hs=[]
 | hs,b::bs=>∃ h mR,hs=h::mR/\kE h b/\km mR bs
end
mutual
def wn:Bd->Bd->Bool
 | .leaf c,.leaf d=>c == 117 || c == d
 | .leaf c,.ask _ _ _ _=>c == 117
 | .ask _ _ _ _,.leaf _=>false
 | .ask v ss y n,.ask v' ss' y' n'=>v == v' && (yd ss ss' && (wn y y' && wn n n'))
def yd:List Bd->List Bd->Bool
 | a::xs,b::bs=>wn a b && yd xs bs
 | [],_=>true
 | _::_,[]=>false
end
theorem vB (levels ts:List Ty):(kC levels ts).length=ts.length:=by simp [kC]
theorem uu:∀ (xs:List Bd) (bs:List Bd) (hs ks:List (List Ty)),km hs xs->km ks bs->km (hs++ks) (xs++bs)
 | [],bs,hs,ks,h1,h2=>by rw [km] at h1;subst h1;simpa using h2
 | a::xs,bs,hs,ks,h1,h2=>by
   rw [km] at h1
   obtain ⟨h,mR,rfl,e1,e2⟩:=h1
   exact ⟨h,mR++ks,rfl,e1,uu xs bs mR ks e2 h2⟩
theorem vD:∀ (xs:List Bd) (hs:List (List Ty)),km hs xs->hs.length=xs.length
 | [],hs,h=>by rw [km] at h;simp [h]
 | a::xs,hs,h=>by
   rw [km] at h
   obtain ⟨h',mR,rfl,e1,e2⟩:=h
   simp [vD xs mR e2]
theorem bY:∀ (xs:List Bd) (hs:List (List Ty)),km hs xs->∀ (k:Nat) (a:Bd),xs[k]? = some a->∃ h,hs[k]? = some h/\kE h a
 | [],hs,h,k,a,ha=>by simp at ha
 | a::xs,hs,h,k,a',ha=>by
   rw [km] at h
   obtain ⟨h',mR,rfl,e1,e2⟩:=h
   cases k with
   | zero=>simp at ha;subst ha;exact ⟨h',rfl,e1⟩
   | succ k=>simp at ha;simpa using bY xs mR e2 k a' ha
theorem bU (h k:List Ty) (y n:Bd):km [h,k] [y,n]↔kE h y/\kE k n:=by
 constructor
 ·intro hf
  rw [km] at hf
  obtain ⟨a,as',e,h1,h2⟩:=hf
  simp only [List.cons.injEq] at e
  obtain ⟨rfl,rfl⟩:=e
  rw [km] at h2
  obtain ⟨a,as',e,h3,h4⟩:=h2
  simp only [List.cons.injEq] at e
  obtain ⟨rfl,rfl⟩:=e
  exact ⟨h1,h3⟩
 ·rintro ⟨h1,h2⟩
  exact ⟨h,[k],rfl,h1,k,[],rfl,h2,by rw [km]⟩
theorem fit_parts {hand:List Ty} {v:Nat} {ss:List Bd} {y n:Bd} (h:kE hand (.ask v ss y n)):∃ t,hand[v]? = some t/\km (kT hand t) (v3 (.ask v ss y n))/\ss.length=t.args.length:=by
 rw [kE] at h
 obtain ⟨t,h1,h2,h3,h4⟩:=h
 refine ⟨t,h1,uu _ _ _ _ h2 ((bU _ _ _ _).2 ⟨h3,h4⟩),?_⟩
 have:=vD _ _ h2
 rw [vB] at this;exact this.symm
theorem pA:∀ (hs:List (List Ty)) (ks:List (List Ty)) (ps:List Bd),km (hs++ks) ps->km hs (ps.take hs.length)/\km ks (ps.drop hs.length)
 | [],ks,ps,h=>by
   constructor
   ·simp [km]
   ·simpa using h
 | x::hs,ks,[],h=>by simp [km] at h
 | x::hs,ks,p::ps,h=>by
   simp only [List.cons_append] at h
   rw [km] at h
   obtain ⟨h',mR,e,e1,e2⟩:=h
   simp only [List.cons.injEq] at e
   obtain ⟨rfl,rfl⟩:=e
   have:=pA hs ks ps e2
   simp only [List.length_cons,List.take_succ_cons,List.drop_succ_cons]
   exact ⟨⟨x,hs,rfl,e1,this.1⟩,this.2⟩
theorem specParts_fit {rd:RdS} (fK:∀ {h l b r},rd h l=some (b,r)->kE h b) (hs:List (List Ty)):∀ {l r:Bs} {ps:List Bd},zY rd hs l=some (ps,r)->km hs ps:=by
 induction hs with
 | nil=>intro l r ps h;simp [zY] at h;obtain ⟨rfl,rfl⟩:=h;simp [km]
 | cons h' hs ih =>
   intro l r ps h
   simp only [zY,Option.bind_eq_bind,Option.bind_eq_some_iff,Prod.exists] at h
   obtain ⟨b,l1,h1,bs,l2,h2,h3⟩:=h
   simp at h3;obtain ⟨rfl,rfl⟩:=h3
   unfold kU at h1
   simp only [Option.bind_eq_bind,Option.bind_eq_some_iff] at h1
   obtain ⟨l3,_,h4⟩:=h1
   exact ⟨h',hs,rfl,fK h4,ih h2⟩
theorem rdN_fit (e:Nat):∀ {h:List Ty} {l:Bs} {b:Bd} {r:Bs},rdN e h l=some (b,r)->kE h b:=by
 induction e with
 | zero=>intro h l b r hq;simp [rdN] at hq
 | succ e ih =>
   intro h l b r hq
   cases l with
   | nil=>simp [rdN] at hq
   | cons c m =>
     simp only [rdN] at hq
     split at hq
     ·simp at hq;obtain ⟨rfl,rfl⟩:=hq;simp [kE]
     ·split at hq
      ·simp at hq
      ·split at hq
       ·simp at hq
       ·rename_i v k hsn
        split at hq
        ·simp at hq
        ·rename_i t ht
         simp only [Option.bind_eq_bind,Option.bind_eq_some_iff,Prod.exists] at hq
         obtain ⟨ps,l1,h1,l2,h2,b',h3,h4⟩:=hq
         simp at h4;obtain ⟨rfl,rfl⟩:=h4
         have k1:=specParts_fit ih _ h1
         have k2:=pA _ _ _ k1
         rw [vB] at k2
         unfold ur at h3
         split at h3
         ·rename_i y no hd
          simp at h3;subst h3
          rw [hd,bU] at k2
          rw [kE]
          exact ⟨t,ht,k2.1,k2.2.1,k2.2.2⟩
         ·simp at h3
theorem wP:∀ (xs bs:List Bd),xs.length=bs.length->(yd xs bs=true↔∀ (k:Nat) (a b:Bd),xs[k]? = some a->bs[k]? = some b->wn a b=true)
 | [],[],_=>by simp [yd]
 | a::xs,b::bs,h=>by
   simp only [yd,Bool.and_eq_true]
   rw [wP xs bs (by simpa using h)]
   constructor
   ·rintro ⟨h1,h2⟩ k a' b' ha hb
    cases k with
    | zero=>simp at ha hb;subst ha;subst hb;exact h1
    | succ k=>simp at ha hb;exact h2 k a' b' ha hb
   ·intro h
    exact ⟨h 0 a b rfl rfl,fun k a' b' ha hb=>h (k+1) a' b' (by simpa using ha) (by simpa using hb)⟩
def uh (xs bs:List Bd) (k:Nat):Prop:=∀ (j:Nat) (a b:Bd),j<k->xs[j]? = some a->bs[j]? = some b->wn a b=true
theorem uh.zero (xs bs:List Bd):uh xs bs 0:=fun j a b h=>by omega
theorem uh.next {xs bs:List Bd} {k:Nat} (h:uh xs bs k) {a b:Bd} (ha:xs[k]? = some a) (hb:bs[k]? = some b) (hab:wn a b=true):uh xs bs (k+1):=by
 intro j a' b' hj h1 h2
 rcases Nat.lt_or_ge j k with h' | h'
 ·exact h j a' b' h' h1 h2
 ·obtain rfl:j=k:=by omega
  rw [ha] at h1;rw [hb] at h2;simp at h1 h2;subst h1;subst h2;exact hab
theorem uh.all {xs bs:List Bd} (hl:xs.length=bs.length) (h:uh xs bs xs.length):yd xs bs=true :=
 (wP xs bs hl).2 fun k a b ha hb=>h k a b (List.getElem?_eq_some_iff.1 ha).1 ha hb
def lvOf:Bd->Nat
 | .leaf _=>0
 | .ask v _ _ _=>v
theorem encN_lv {F:Nat->Prop} {w:World} {b:Bd} {s v k y:Value} (h:zv F w (qZ b) [s,v,k,y]):v=.int .i64 (lvOf b:Nat):=by
 cases b with
 | leaf c =>
   rw [qZ] at h
   obtain ⟨_,_,e,h0,h⟩:=zG.1 h
   simp only [List.cons.injEq] at e;obtain ⟨rfl,rfl⟩:=e
   obtain ⟨_,_,e,h1,h⟩:=zG.1 h
   simp only [List.cons.injEq] at e;obtain ⟨rfl,rfl⟩:=e
   exact z8.1 h1
 | ask lv ss yb nb =>
   rw [qZ] at h
   obtain ⟨_,_,e,h0,h⟩:=zG.1 h
   simp only [List.cons.injEq] at e;obtain ⟨rfl,rfl⟩:=e
   obtain ⟨_,_,e,h1,h⟩:=zG.1 h
   simp only [List.cons.injEq] at e;obtain ⟨rfl,rfl⟩:=e
   exact z8.1 h1
theorem yK (a b:Nat):((a:Int).tmod (b:Int))=((a % b:Nat):Int):=rfl
theorem gS (a b:Nat):((a:Int).tdiv (b:Int))=((a / b:Nat):Int):=rfl
theorem k_ (n:Nat) (h:n<9223372036854775808):IntKind.i64.wrap (n:Int)=(n:Int):=by
 simp [IntKind.wrap,IntKind.bits,IntKind.signed];omega
def qo (r:Nat):UInt8:=UInt8.ofNat (48+r)
def dec (n:Nat):Bs:=if n<10 then [qo n] else dec (n / 10)++[qo (n % 10)]
theorem qD {n:Nat} (h:n<10):dec n=[qo n]:=by rw [dec,if_pos h]
theorem uD {n:Nat} (h:¬ n<10):dec n=dec (n / 10)++[qo (n % 10)]:=by rw [dec,if_neg h]
theorem jl (k:Nat):∀ n,n<10 ^ (k+1)->(dec n).length<=k+1:=by
 induction k with
 | zero=>intro n h;rw [qD (by simpa using h)];simp
 | succ k ih =>
   intro n h
   by_cases h10:n<10
   ·rw [qD h10];simp
   ·rw [uD h10]
    have:=ih (n / 10) (by rw [Nat.div_lt_iff_lt_mul (by omega),<- Nat.pow_succ];exact h)
    simp;omega
theorem str_add (a b:Bs):(⟨a.toArray⟩:ByteArray)++(⟨b.toArray⟩:ByteArray)=⟨(a++b).toArray⟩:=by
 have h:((⟨a.toArray⟩:ByteArray)++(⟨b.toArray⟩:ByteArray)).data=(a++b).toArray:=by
  rw [ByteArray.data_append];simp
 cases hx:(⟨a.toArray⟩:ByteArray)++(⟨b.toArray⟩:ByteArray) with
 | mk d=>rw [hx] at h;simp at h;rw [h]
theorem k7 {P:Program} (a b:Bs) (h:a.length+b.length<=9223372036854775807) (w:World):(Op.stringOp .add ⟨a.toArray⟩ ⟨b.toArray⟩).run P w=.ok (str (a++b)) w:=by
 rw [run_string_add_sum w _ _ (by rw [xy,xy];exact h),str_add]
mutual
def qY:Bd->Bs
 | .leaf c=>[c]
 | .ask v ss y n=>(((([40]++dec v++kh ss++[32])++qY y)++[32])++qY n)++[41]
def kh:List Bd->Bs
 | []=>[]
 | b::bs=>[32]++qY b++kh bs
end
mutual
def lvB:Bd->Prop
 | .leaf _=>True
 | .ask v ss y n=>v<=10000/\uG ss/\lvB y/\lvB n
def uG:List Bd->Prop
 | []=>True
 | b::bs=>lvB b/\uG bs
end
theorem j0:∀ (xs ys:List Bd),kh (xs++ys)=kh xs++kh ys
 | [],ys=>by simp [kh]
 | x::xs,ys=>by simp [kh,j0 xs ys]
theorem textBs_take {ts:List Bd} {k:Nat} {t:Bd} (h:ts[k]? = some t):kh (ts.take (k+1))=kh (ts.take k)++[32]++qY t:=by
 rw [List.take_add_one,h,j0];simp [kh]
theorem lvBs_at:∀ (xs:List Bd),uG xs->∀ (k:Nat) (t:Bd),xs[k]? = some t->lvB t
 | [],_,k,t,h=>by simp at h
 | x::xs,hl,k,t,h=>by
   rw [uG] at hl
   cases k with
   | zero=>simp at h;subst h;exact hl.1
   | succ k=>simp at h;exact lvBs_at xs hl.2 k t h
mutual
theorem qx:∀ (b:Bd),lvB b->(qY b).length+1<=12*zg b
 | .leaf c,_=>by simp [qY,zg]
 | .ask v ss y n,h=>by
   rw [lvB] at h
   have h1:=v_ ss h.2.1
   have h2:=qx y h.2.2.1
   have h3:=qx n h.2.2.2
   have h4:(dec v).length<=5:=jl 4 v (by have:=h.1;omega)
   simp only [qY,zg,List.length_append,List.length_cons,List.length_nil]
   omega
theorem v_:∀ (bs:List Bd),uG bs->(kh bs).length<=12*zL bs
 | [],_=>by simp [kh]
 | b::bs,h=>by
   rw [uG] at h
   have h1:=qx b h.1
   have h2:=v_ bs h.2
   simp only [kh,zL,List.length_append,List.length_cons,List.length_nil]
   omega
end
theorem pj (xs:List Bd) (k:Nat):(kh (xs.take k)).length<=(kh xs).length:=by
 have:=congrArg List.length (j0 (xs.take k) (xs.drop k))
 rw [List.take_append_drop,List.length_append] at this
 omega
mutual
def xQ:Ty->Bs
 | .mk ts=>textTs ts
def textTs:List Ty->Bs
 | []=>[98]
 | a::ts=>[40,62,32]++(xQ a++([32]++(textTs ts++[41])))
end
theorem textT_nil:xQ (.mk [])=[98]:=by rw [xQ,textTs]
theorem textT_cons (a:Ty) (ts:List Ty):xQ (.mk (a::ts))=[40,62,32]++(xQ a++([32]++(xQ (.mk ts)++[41]))):=by
 rw [xQ,textTs,xQ]
inductive Clo where
 | mk (b:Bd) (env:List Clo) (begun:Nat) (path:Bs)
def Clo.body:Clo->Bd | .mk b _ _ _=>b
def Clo.env:Clo->List Clo | .mk _ e _ _=>e
def Clo.begun:Clo->Nat | .mk _ _ n _=>n
def Clo.path:Clo->Bs | .mk _ _ _ p=>p
mutual
def cloFit:Clo->Ty->Prop
 | .mk b e _ _,t=>∃ h,envFit e h/\kE (h++t.args) b
def envFit:List Clo->List Ty->Prop
 | [],h=>h=[]
 | c::cs,h=>∃ t ts,h=t::ts/\cloFit c t/\envFit cs ts
end
end Go.Proofs.YtfedjhgaeikjmaaGreatDoor

/- Walks of functions that the statement reaches, and plain words. No conditions. -/
import Derived.Lib.AtoiTie
import Derived.Laws.Concat
import Derived.Test.YtfedjhgaeikjmaaGreatDoorQ2
set_option linter.unusedVariables false
set_option linter.unusedSimpArgs false
set_option maxHeartbeats 10000000
namespace Go.Proofs.YtfedjhgaeikjmaaGreatDoor
open Go.RowKit
def xH (i:Nat) (o:Option (Nat×Nat)) (w:World) (en:Ending) (w':World):Prop :=
 ∃ (v:Nat) (k:Int),en=.returned (.tuple #[.int .i64 v,.int .i64 k])/\w=w'/\(o=none->k = -1)/\(∀ v' c,o=some (v',c)->v=v'/\k=((i+c:Nat):Int))
theorem l3Number_any (l:Bs) (hl:Lim l.length) (i:Nat) (hi:i<=l.length) (w:World) :
 Calls Tryz.prog 102 #[str l,.int .i64 i] w (xH i (ki (l.drop i)) w):=by
 have bC:=hl.le
 obtain ⟨ds,m_⟩:=zzM (za (l.drop i))
 have iy:=ur (l.drop i)
 rw [<- m_] at iy
 have h4:ds.length<=4:=iy.1
 have tA:i+ds.length<=l.length:=by have:=iy.2;simp at this;omega
 have HDS:=gZ m_;clear m_ iy
 go_enter Tryz.func102,Tryz.ntmps102
 go_wp2_with fail
 go_loop [6,7] (fun n k=>∃ j:Nat,j<=ds.length/\k=.int .i64 ((i+j:Nat):Int)/\n=.int .i64 (kg (ds.take j):Nat)) (fun _ k=>i+ds.length-(intOf k).toNat)
 case atStart=>exact ⟨0,Nat.zero_le _,by simp,by simp [kg]⟩
 case round =>
  obtain ⟨j,hj,rfl,rfl⟩:=hrel
  by_cases gH:j<ds.length
  ·have ml:i+j<l.length:=by omega
   have hat:l[i+j]=ds[j]/\dig l[i+j]=true:=by
    have h1:=HDS.out;subst h1
    obtain ⟨hm,e1,e2⟩:=digsOf_at gH
    rw [List.getElem_drop] at e1 e2
    exact ⟨e1,e2⟩
   have b1:(48:Int)<=((((⟨l.toArray⟩:ByteArray)[i+j]'(km ml)).toNat:Int))/\((((⟨l.toArray⟩:ByteArray)[i+j]'(km ml)).toNat:Int))<=57:=by
    have h2:=hat.2
    simp [dig,UInt8.le_iff_toNat_le] at h2
    rw [jk ml];omega
   obtain ⟨b1,b2⟩:=b1
   have hv:kg (ds.take j)<=9999:=by
    have h1:=valOf_lt (ds.take j) (fun c hc=>jH _ c (by have:=HDS.out;rw [<- this];exact List.mem_of_mem_take hc))
    have h2:10 ^ (ds.take j).length<=10 ^ 4:=Nat.pow_le_pow_right (by omega) (by simp;omega)
    omega
   have hs:=valOf_take gH
   have cz:(kg (ds.take (j+1)):Int)=10*(kg (ds.take j):Int)+(((((⟨l.toArray⟩:ByteArray)[i+j]'(km ml)).toNat:Int))-48):=by
    rw [jk ml] at b1 ⊢;rw [hs,hat.1] at *;omega
   have HS:=gZ cz
   have j4:j<4:=by omega
   clear hs cz hat
   go_wp2_with fail
   go_round
   case rel=>exact ⟨j+1,by omega,by go_num,by rw [HS.out]⟩
   case measure=>simp [intOf];omega
  ·obtain rfl:j=ds.length:=by omega
   have iv:ds.length=4\/i+ds.length=l.length\/∃ h:i+ds.length<l.length,dig l[i+ds.length]=false:=by
    have h1:=HDS.out;subst h1
    rcases digsOf_end (m:=l.drop i) with h | h | ⟨h,h2⟩
    ·exact .inl h
    ·right;left;simp at h;omega
    ·right;right;simp at h;refine ⟨by omega,?_⟩;rw [List.getElem_drop] at h2;exact h2
   have HV:ki (l.drop i)=(if ds=[]\/(1<ds.length/\(l.drop i).head? = some 48) then none else some (kg ds,ds.length)):=by
    unfold ki;rw [<- HDS.out]
   have dS:4<=ds.length\/l.length<=i+ds.length\/(∃ h:i+ds.length<l.length,((((⟨l.toArray⟩:ByteArray)[i+ds.length]'(km h)).toNat:Int))<48)\/(∃ h:i+ds.length<l.length,(57:Int)<((((⟨l.toArray⟩:ByteArray)[i+ds.length]'(km h)).toNat:Int))):=by
    rcases iv with h | h | ⟨h,h2⟩
    ·exact .inl (by omega)
    ·exact .inr (.inl (by omega))
    ·simp [dig,UInt8.le_iff_toNat_le] at h2
     by_cases hc:l[i+ds.length].toNat<48
     ·exact .inr (.inr (.inl ⟨h,by rw [jk h];omega⟩))
     ·exact .inr (.inr (.inr ⟨h,by rw [jk h];have:=h2 (by omega);omega⟩))
   clear iv
   rw [List.take_length]
   rcases (by omega:ds.length=0\/ds.length=1\/2<=ds.length) with hn | hn | hn
   ·have e0:((i:Int)+(ds.length:Int) == (i:Int))=true:=by rw [beq_iff_eq];omega
    have fin:xH i (ki (l.drop i)) w (.returned (.tuple #[.int .i64 0,.int .i64 (-1)])) w:=by
     have fa:ds=[]:=List.eq_nil_of_length_eq_zero hn
     refine ⟨0,-1,rfl,rfl,fun _=>rfl,fun v c h=>?_⟩
     rw [HV,if_pos (.inl fa)] at h;simp at h
    have HF:=gZ fin;have iX:(ds.length:Int)<=0:=by omega
    clear fin HV hn
    rcases dS with h | h | ⟨h,h2⟩ | ⟨h,h2⟩
    all_goals
     go_wp2_with fail
     all_goals (go_ret2;exact HF.out)
   ·have e0:((i:Int)+(ds.length:Int) == (i:Int))=false:=by rw [beq_eq_false_iff_ne];omega
    have n1:¬ 1<ds.length:=by omega
    have fin:xH i (ki (l.drop i)) w (.returned (.tuple #[.int .i64 (kg ds:Nat),.int .i64 ((i:Int)+(ds.length:Int))])) w:=by
     have fa:¬ (ds=[]\/(1<ds.length/\(l.drop i).head? = some 48)):=by
      rintro (h | h)
      ·rw [h] at hn;simp at hn
      ·omega
     refine ⟨_,_,rfl,rfl,fun h=>?_,fun v c h=>?_⟩
     ·rw [HV,if_neg fa] at h;simp at h
     ·rw [HV,if_neg fa] at h;simp at h;exact ⟨h.1,by omega⟩
    have HF:=gZ fin;have bR:1<=ds.length:=by omega
    clear fin HV hn
    rcases dS with h | h | ⟨h,h2⟩ | ⟨h,h2⟩
    all_goals
     go_wp2_with fail
     all_goals (go_ret2;exact HF.out)
   ·have e0:((i:Int)+(ds.length:Int) == (i:Int))=false:=by rw [beq_eq_false_iff_ne];omega
    have n1:1<ds.length:=by omega
    have tF:i<l.length:=by rcases dS with h | h | ⟨h,h2⟩ | ⟨h,h2⟩ <;> omega
    have hhd:(l.drop i).head? = some l[i]:=by rw [List.head?_drop];simp [tF]
    have hdn:ds≠[]:=by intro h;rw [h] at hn;simp at hn
    by_cases d7:l[i]=48
    ·have f1:=jz tF (n:=48) (by decide) d7
     have fin:xH i (ki (l.drop i)) w (.returned (.tuple #[.int .i64 0,.int .i64 (-1)])) w:=by
      refine ⟨0,-1,rfl,rfl,fun _=>rfl,fun v c h=>?_⟩
      rw [HV,if_pos (.inr ⟨n1,by rw [hhd,d7]⟩)] at h;simp at h
     have HF:=gZ fin;clear fin HV hhd d7
     rcases dS with h | h | ⟨h,h2⟩ | ⟨h,h2⟩
     all_goals
      go_wp2_with fail
      all_goals (go_ret2;exact HF.out)
    ·have f1:=qu tF (n:=48) (by decide) d7
     have fin:xH i (ki (l.drop i)) w (.returned (.tuple #[.int .i64 (kg ds:Nat),.int .i64 ((i:Int)+(ds.length:Int))])) w:=by
      have fa:¬ (ds=[]\/(1<ds.length/\(l.drop i).head? = some 48)):=by
       rintro (h | h)
       ·exact hdn h
       ·rw [hhd] at h;exact d7 (Option.some.inj h.2)
      refine ⟨_,_,rfl,rfl,fun h=>?_,fun v c h=>?_⟩
      ·rw [HV,if_neg fa] at h;simp at h
      ·rw [HV,if_neg fa] at h;simp at h;exact ⟨h.1,by omega⟩
     have HF:=gZ fin;clear fin HV hhd d7
     rcases dS with h | h | ⟨h,h2⟩ | ⟨h,h2⟩
     all_goals
      go_wp2_with fail
      all_goals (go_ret2;exact HF.out)
mutual
def kF:Bd->List DV
 | .leaf c=>[.val (str [c]),.val (.int .i64 (0:Nat)),.sl 64 4 0 [],.sl 64 4 0 []]
 | .ask v ss y n=>[.val (str []),.val (.int .i64 v),.sl 64 4 ss.length (kH ss),.sl 64 4 2 (kF y++(kF n++[]))]
def kH:List Bd->List DV
 | []=>[]
 | b::bs=>kF b++kH bs
end
theorem wZ (b:Bd):(kF b).length=4:=by cases b <;> simp [kF]
theorem encNs_length (bs:List Bd):(kH bs).length=bs.length*4:=by
 induction bs with
 | nil=>simp [kH]
 | cons b bs ih=>simp [kH,wZ,ih];omega
theorem k7 (a b:List Bd):kH (a++b)=kH a++kH b:=by
 induction a with
 | nil=>simp [kH]
 | cons t ts ih=>simp [kH,ih,List.append_assoc]
theorem xK (v:Nat) (ss:List Bd) (y n:Bd):kF (.ask v ss y n)=[.val (str []),.val (.int .i64 v),.sl 64 4 ss.length (kH ss),.sl 64 4 2 (kH [y,n])]:=by
 simp [kF,kH]
theorem Tryz.infoN:(Tryz.prog.info? 64).map (fun i=>(i.zero,i.size,i.bytes))=some (some (.agg #[str [],.int .i64 0,.slice none 0 0,.slice none 0 0]),4,72):=by kernel_rfl
def qe (L:Nat) (w:World) (o:Option (Bd×Bs)) (en:Ending) (w':World):Prop :=
 ∃ (s:Bs) (v:Int) (a2:Option Addr) (n2 k2:Nat) (a3:Option Addr) (n3 k3:Nat) (k:Int),en=.returned (.tuple #[.agg #[str s,.int .i64 v,.slice a2 n2 k2,.slice a3 n3 k3],.int .i64 k])/\Below w.heap.size w w'/\(o=none->k = -1) /\
   (∀ b rest,o=some (b,rest)->k=(L:Int)-rest.length/\zD (w.heap.size<=·) w' (kF b) [str s,.int .i64 v,.slice a2 n2 k2,.slice a3 n3 k3])
theorem qe.no {L:Nat} {w w':World} {o:Option (Bd×Bs)} (ho:o=none) (hb:Below w.heap.size w w') :
 qe L w o (.returned (.tuple #[.agg #[str [],.int .i64 0,.slice none 0 0,.slice none 0 0],.int .i64 (-1)])) w' :=
 ⟨[],0,none,0,0,none,0,0,_,rfl,hb,fun _=>rfl,fun _ _ h=>by rw [ho] at h;simp at h⟩
theorem qe.yes {L:Nat} {w w':World} {o:Option (Bd×Bs)} {b:Bd} {rest:Bs} {s:Bs} {v:Int} {a2:Option Addr} {n2 k2:Nat} {a3:Option Addr} {n3 k3:Nat} {k:Int} (ho:o=some (b,rest)) (hk:k=(L:Int)-rest.length) (hb:Below w.heap.size w w') (hv:zD (w.heap.size<=·) w' (kF b) [str s,.int .i64 v,.slice a2 n2 k2,.slice a3 n3 k3]) :
 qe L w o (.returned (.tuple #[.agg #[str s,.int .i64 v,.slice a2 n2 k2,.slice a3 n3 k3],.int .i64 k])) w' :=
 ⟨s,v,a2,n2,k2,a3,n3,k3,k,rfl,hb,fun h=>by rw [ho] at h;simp at h,fun _ _ h=>by rw [ho] at h;simp at h;obtain ⟨rfl,rfl⟩:=h;exact ⟨hk,hv⟩⟩
def NodeSaid (l:Bs) (e d:Nat):Prop:=∀ (F:Nat->Prop) (hand:List Ty) (hv:Value) (i:Nat) (w:World),i<=l.length->kj e hand ->
    Rep F w (.sl 61 1 hand.length (qQ hand)) hv ->
    Calls Tryz.prog 64 #[str l,.int .i64 i,hv,.int .i64 d] w (qe l.length w (rdN e hand (l.drop i)))
theorem leaf_reps (F:Nat->Prop) (w:World) (c:UInt8):zD F w (kF (.leaf c)) [str [c],.int .i64 0,.slice none 0 0,.slice none 0 0]:=by
 have hz:Rep F w (.sl 64 4 0 []) (.slice none 0 0):=qB.2 ⟨rfl,none,0,rfl,gQ _,fun _=>rfl,.inl rfl⟩
 rw [kF]
 exact zU.2 ⟨_,_,rfl,zf.2 rfl,zU.2 ⟨_,_,rfl,zf.2 rfl,zU.2 ⟨_,_,rfl,hz,zU.2 ⟨_,_,rfl,hz,zI.2 rfl⟩⟩⟩⟩
theorem rdN_leaf (e:Nat) (hand:List Ty) {l:Bs} {i:Nat} (h:i<l.length) (hc:l[i]=116\/l[i]=102\/l[i]=117):rdN (e+1) hand (l.drop i)=some (.leaf l[i],l.drop (i+1)):=by
 rw [List.drop_eq_getElem_cons h,rdN];simp only [if_pos hc]
theorem rdN_other (e:Nat) (hand:List Ty) {l:Bs} {i:Nat} (h:i<l.length) (hc:¬ (l[i]=116\/l[i]=102\/l[i]=117)) (hE:¬ l[i]=40):rdN (e+1) hand (l.drop i)=none:=by
 rw [List.drop_eq_getElem_cons h,rdN];simp only [if_neg hc,if_pos hE]
theorem rdN_40 (e:Nat) (hand:List Ty) {l:Bs} {i:Nat} (h:i<l.length) (hE:l[i]=40):rdN (e+1) hand (l.drop i)=(match ki (l.drop (i+1)) with
 | none=>none
 | some (v,k)=>match hand[v]? with
   | none=>none
   | some t=>do
     let (ps,l1)<-zJ (rdN e) (kC hand t) ((l.drop (i+1)).drop k)
     let l2<-cut [41] l1
     let b<-uG v t.args.length ps
     some (b,l2)):=by
 rw [List.drop_eq_getElem_cons h,rdN]
 rw [if_neg (by rw [hE];decide),if_neg (by simpa using hE)]
 try rfl
theorem y4 (l:Bs) (hl:Lim l.length) (e d:Nat) (tT:e+d=101) (F:Nat->Prop) (hand:List Ty) (hv:Value) (i:Nat) (w:World) (hi:i<=l.length)
 (hr:Rep F w (.sl 61 1 hand.length (qQ hand)) hv) (cj:∀ h:i<l.length,e=0\/¬ l[i]=40) :
 Calls Tryz.prog 64 #[str l,.int .i64 i,hv,.int .i64 d] w (qe l.length w (rdN e hand (l.drop i))):=by
 have bC:=hl.le
 obtain ⟨a0,c0,e0,_⟩:=zM hr
 subst e0
 rcases e with _ | e
 ·have hd1:(100:Int)<(d:Int):=by omega
  clear cj
  go_enter Tryz.func64,Tryz.ntmps64
  go_wp2_with fail
  refine bodyPost_ret (v:=.tuple #[.agg #[str [],.int .i64 0,.slice none 0 0,.slice none 0 0],.int .i64 (-1)]) (by simp [results,Tryz.results64,go_sem]) rfl ?_
  exact qe.no (by rfl) (by repeat (first | exact gV _ _ | refine Below.alloc ?_ (gQ _) _ | refine Below.setCell ?_ (by simp) _))
 have fa:¬ (100:Int)<(d:Int):=by omega
 by_cases gH:i<l.length
 rotate_left
 ·clear cj
  go_enter Tryz.func64,Tryz.ntmps64
  go_wp2_with fail
  refine bodyPost_ret (v:=.tuple #[.agg #[str [],.int .i64 0,.slice none 0 0,.slice none 0 0],.int .i64 (-1)]) (by simp [results,Tryz.results64,go_sem]) rfl ?_
  exact qe.no (by rw [List.drop_eq_nil_of_le (by omega)];rfl) (by repeat (first | exact gV _ _ | refine Below.alloc ?_ (gQ _) _ | refine Below.setCell ?_ (by simp) _))
 have hE:¬ l[i]=40:=(cj gH).resolve_left (by omega)
 clear cj
 by_cases nr:l[i]=116\/l[i]=102\/l[i]=117
 ·have HM:=gZ (rdN_leaf e hand gH nr)
  have hx:((⟨l.toArray⟩:ByteArray).extract i (i+1))=⟨#[l[i]]⟩:=by
   rw [vX];congr 1
   rw [List.drop_take,List.drop_eq_getElem_cons gH,show i+1-i=1 from by omega];rfl
  have HX:=gZ hx;clear hx
  have fin:∀ w':World,Below w.heap.size w w'->qe l.length w (rdN (e+1) hand (l.drop i)) (.returned (.tuple #[.agg #[.string ((⟨l.toArray⟩:ByteArray).extract i (i+1)),.int .i64 0,.slice none 0 0,.slice none 0 0],.int .i64 ((i:Int)+1)])) w':=by
   intro w' hb
   rw [HX.out]
   exact qe.yes (s:=[l[i]]) HM.out (by simp;omega) hb (leaf_reps _ _ _)
  have FIN:=gZ fin;clear fin
  have key:((((⟨l.toArray⟩:ByteArray)[i]'(km gH)).toNat:Int) == 116)=true\/((((((⟨l.toArray⟩:ByteArray)[i]'(km gH)).toNat:Int) == 116)=false/\((((⟨l.toArray⟩:ByteArray)[i]'(km gH)).toNat:Int) == 102)=true))\/((((((⟨l.toArray⟩:ByteArray)[i]'(km gH)).toNat:Int) == 116)=false/\((((⟨l.toArray⟩:ByteArray)[i]'(km gH)).toNat:Int) == 102)=false/\((((⟨l.toArray⟩:ByteArray)[i]'(km gH)).toNat:Int) == 117)=true)):=by
   rcases nr with h | h | h
   ·exact .inl (jz gH (n:=116) (by decide) h)
   ·exact .inr (.inl ⟨qu gH (c:=116) (n:=116) (by decide) (by rw [h];decide),jz gH (n:=102) (by decide) h⟩)
   ·exact .inr (.inr ⟨qu gH (c:=116) (n:=116) (by decide) (by rw [h];decide),qu gH (c:=102) (n:=102) (by decide) (by rw [h];decide),jz gH (n:=117) (by decide) h⟩)
  clear nr hE HM HX
  rcases key with f1 | ⟨f1,f2⟩ | ⟨f1,f2,f3⟩
  all_goals
   go_enter Tryz.func64,Tryz.ntmps64
   go_wp2_with fail
   refine bodyPost_ret (v:=.tuple #[.agg #[.string ((⟨l.toArray⟩:ByteArray).extract i (i+1)),.int .i64 0,.slice none 0 0,.slice none 0 0],.int .i64 ((i:Int)+1)]) (by simp [results,Tryz.results64,go_sem]) rfl ?_
   exact FIN.out _ (by repeat (first | exact gV _ _ | refine Below.alloc ?_ (gQ _) _ | refine Below.setCell ?_ (by simp) _))
 have HM:=gZ (rdN_other e hand gH nr hE)
 have f1:=qu gH (n:=116) (by decide) (fun h=>nr (.inl h))
 have f2:=qu gH (n:=102) (by decide) (fun h=>nr (.inr (.inl h)))
 have f3:=qu gH (n:=117) (by decide) (fun h=>nr (.inr (.inr h)))
 have f4:=up gH (n:=40) (by decide) hE
 clear nr hE
 go_enter Tryz.func64,Tryz.ntmps64
 go_wp2_with fail
 refine bodyPost_ret (v:=.tuple #[.agg #[str [],.int .i64 0,.slice none 0 0,.slice none 0 0],.int .i64 (-1)]) (by simp [results,Tryz.results64,go_sem]) rfl ?_
 exact qe.no HM.out (by repeat (first | exact gV _ _ | refine Below.alloc ?_ (gQ _) _ | refine Below.setCell ?_ (by simp) _))
def kY (ob:Nat) (v:Int) (kslv yslv:Value) (w:World):Prop:=w.heap[ob]? = some (.cells #[str [],.int .i64 v,kslv,yslv] 64 (0,0))
theorem kY.cells {ob:Nat} {v:Int} {ks ys:Value} {w:World} (h:kY ob v ks ys w):w.cell? ⟨ob,0,none⟩=some (str [])/\w.cell? ⟨ob,1,none⟩=some (.int .i64 v)/\w.cell? ⟨ob,2,none⟩=some ks/\w.cell? ⟨ob,3,none⟩=some ys/\ob<w.heap.size/\(∀ o,w.frozen? ⟨ob,o,none⟩=false):=by
 have hl:=zZ h
 unfold kY at h
 exact ⟨by simp [World.cell?,h],by simp [World.cell?,h],by simp [World.cell?,h],by simp [World.cell?,h],hl,fun o=>by simp [World.frozen?,h]⟩
theorem kY.put2 {ob:Nat} {v:Int} {ks ys u:Value} {w:World} (h:kY ob v ks ys w):kY ob v u ys (w.setCell ⟨ob,2,none⟩ u):=by
 unfold kY;rw [kO h];rfl
theorem kY.put3 {ob:Nat} {v:Int} {ks ys u:Value} {w:World} (h:kY ob v ks ys w):kY ob v ks u (w.setCell ⟨ob,3,none⟩ u):=by
 unfold kY;rw [kO h];rfl
theorem kY.but {ob:Nat} {v:Int} {ks ys:Value} {m:Nat->Prop} {w w':World} (h:kY ob v ks ys w) (hb:But m w w') (hm:¬ m ob):kY ob v ks ys w':=by
 unfold kY;rw [hb.block ob (zZ h) hm];exact h
theorem kY.below {ob:Nat} {v:Int} {ks ys:Value} {w w':World} {B:Nat} (h:kY ob v ks ys w) (hb:Below B w w') (hm:ob<B):kY ob v ks ys w':=by
 unfold kY;rw [hb.block ob hm];exact h
theorem kY.store {ob:Nat} {v:Int} {ks ys:Value} {w:World} (h:kY ob v ks ys w) (u0 u1 u2 u3:Value) :
 ∃ W,W=((((w.setCell ⟨ob,0,none⟩ u0).setCell ⟨ob,1,none⟩ u1).setCell ⟨ob,2,none⟩ u2).setCell ⟨ob,3,none⟩ u3) /\
   W.cell? ⟨ob,0,none⟩=some u0/\W.cell? ⟨ob,1,none⟩=some u1/\W.cell? ⟨ob,2,none⟩=some u2/\W.cell? ⟨ob,3,none⟩=some u3 /\
   (∀ B w0,Below B w0 w->B<=ob->Below B w0 W)/\(∀ i x,i≠ob->w.heap[i]? = some x->W.heap[i]? = some x):=by
 have hc:((((w.setCell ⟨ob,0,none⟩ u0).setCell ⟨ob,1,none⟩ u1).setCell ⟨ob,2,none⟩ u2).setCell ⟨ob,3,none⟩ u3).heap[ob]? = some (.cells #[u0,u1,u2,u3] 64 (0,0)):=by
  unfold kY at h
  rw [kO (kO (kO (kO h)))];rfl
 refine ⟨_,rfl,by simp only [World.cell?,hc];rfl,by simp only [World.cell?,hc];rfl,by simp only [World.cell?,hc];rfl,by simp only [World.cell?,hc];rfl,fun B w0 hb hB=>?_,fun i x hi hx=>?_⟩
 ·exact ((((hb.setCell (p:=⟨ob,0,none⟩) hB _).setCell (p:=⟨ob,1,none⟩) hB _).setCell (p:=⟨ob,2,none⟩) hB _).setCell (p:=⟨ob,3,none⟩) hB _)
 ·rw [gU _ _ _ _ (by simpa using hi),gU _ _ _ _ (by simpa using hi),gU _ _ _ _ (by simpa using hi),gU _ _ _ _ (by simpa using hi)];exact hx
structure yL (l:Bs) (w:World) (rd:RdS) (hs:List (List Ty)) (n i0 ob Z v:Nat) (k en:Nat) (wr:World) (ps:List Bd) (kv yv:List Value) (ks:Value) (nk:Nat) (ys:Value) (ny:Nat):Prop where
 hnk:nk=min k n
 hny:ny=k-n
 ksl:∃ a c,ks=.slice a nk c
 ysl:∃ a c,ys=.slice a ny c
 spec:zJ rd (hs.take k) (l.drop i0)=some (ps,l.drop en)
 len:ps.length=k
 en:en<=l.length
 below:Below w.heap.size w wr
 res:kY w.heap.size 0 (.slice none 0 0) (.slice none 0 0) wr
 out:kY ob v ks ys wr
 ownK:Own wr 64 4 ks nk kv
 ownY:Own wr 64 4 ys ny yv
 blkK:∀ g,ks.ownBlock=some g->Z<=g/\ys.ownBlock≠some g
 blkY:∀ g,ys.ownBlock=some g->Z<=g
 repK:zD (fun b=>Z<=b/\ks.ownBlock≠some b/\ys.ownBlock≠some b) wr (kH (ps.take n)) kv
 repY:zD (fun b=>Z<=b/\ks.ownBlock≠some b/\ys.ownBlock≠some b) wr (kH (ps.drop n)) yv
 z:Z<=wr.heap.size
theorem yL.kid {l:Bs} {w:World} {rd:RdS} {hs:List (List Ty)} {n i0 ob Z v k en:Nat} {wr:World} {ps:List Bd} {kv yv:List Value} {ks ys:Value} {nk ny:Nat}
 (h:yL l w rd hs n i0 ob Z v k en wr ps kv yv ks nk ys ny) (hk:k<n) (fY:ob<Z) (aG:w.heap.size<ob) {W w7:World} {b:Bd} {cs:List Value} {a':Option Addr} {c' dZ:Nat}
 (gB:Below wr.heap.size wr W) (hcs:zD (wr.heap.size<=·) W (kF b) cs) (gM:Own w7 64 4 (.slice a' (nk+1) c') (nk+1) (kv++cs)) (gD:But (fun i=>ks.ownBlock=some i) W w7)
 (gL:∀ g,(Value.slice a' (nk+1) c').ownBlock=some g->ks.ownBlock=some g\/g=W.heap.size)
 (fS:zJ rd (hs.take (k+1)) (l.drop i0)=some (ps++[b],l.drop dZ)) (sP:dZ<=l.length) :
 yL l w rd hs n i0 ob Z v (k+1) dZ (w7.setCell ⟨ob,2,none⟩ (.slice a' (nk+1) c')) (ps++[b]) (kv++cs) yv (.slice a' (nk+1) c') (nk+1) ys ny:=by
 have z6:=gB.size
 have z7:=gD.size
 have zr:=h.z
 have gC:=h.len
 have keep:∀ i x,wr.heap[i]? = some x->ks.ownBlock≠some i->i≠ob->(w7.setCell ⟨ob,2,none⟩ (.slice a' (nk+1) c')).heap[i]? = some x:=by
  intro i x hx h1 h2
  have:=zZ hx
  rw [gU _ _ _ _ (by simpa using h2),gD.block i (by omega) h1,gB.block i this];exact hx
 have gr:∀ i x,W.heap[i]? = some x->ks.ownBlock≠some i->i≠ob->(w7.setCell ⟨ob,2,none⟩ (.slice a' (nk+1) c')).heap[i]? = some x:=by
  intro i x hx h1 h2
  have:=zZ hx
  rw [gU _ _ _ _ (by simpa using h2),gD.block i (by omega) h1];exact hx
 have ltK:∀ g,ks.ownBlock=some g->g<wr.heap.size:=fun g hg=>h.ownK.lt hg
 have ltY:∀ g,ys.ownBlock=some g->g<wr.heap.size:=fun g hg=>h.ownY.lt hg
 have nK:∀ i,i<Z->ks.ownBlock≠some i:=fun i hi e=>by have:=(h.blkK i e).1;omega
 have newg:∀ g,(Value.slice a' (nk+1) c').ownBlock=some g->Z<=g:=fun g hg=>by
  rcases gL g hg with e | e
  ·exact (h.blkK g e).1
  ·omega
 refine ⟨by rw [h.hnk];omega,by rw [h.hny];omega,⟨_,_,rfl⟩,h.ysl,fS,by simp [gC],sP,?_,?_,?_,?_,?_,?_,h.blkY,?_,?_,by simp [World.setCell];omega⟩
 ·refine Below.setCell ?_ (show w.heap.size<=ob by omega) _
  exact (zzT h.below gB).trans (gD.toBelow (by have:=h.below.size;omega) fun i hi e=>nK i (by omega) e)
 ·exact keep _ _ h.res (nK _ (by omega)) (by omega)
 ·have h1:kY ob v ks ys w7:=by
   unfold kY;rw [gD.block ob (by omega) (nK _ fY),gB.block ob (by omega)];exact h.out
  exact h1.put2
 ·exact gM.keep fun g o hg ho=>by rw [gU _ _ _ _ (by have:=newg g hg;simp;omega)];exact ho
 ·exact h.ownY.keep fun g o hg ho=>keep g o ho (fun e=>(h.blkK g e).2 hg) (by have:=h.blkY g hg;omega)
 ·intro g hg
  refine ⟨newg g hg,fun e=>?_⟩
  rcases gL g hg with e' | e'
  ·exact (h.blkK g e').2 e
  ·have:=ltY g e;omega
 ·rw [List.take_of_length_le (by simp;omega),k7]
  have h1:=h.repK
  rw [List.take_of_length_le (by omega)] at h1
  refine zD.append ((Rep.keep fun i x hi hx=>⟨⟨hi.1,fun e=>(gL i e).elim (fun e'=>hi.2.1 e') (fun e'=>by have:=zZ hx;omega),hi.2.2⟩,keep i x hx hi.2.1 (by have:=hi.1;omega)⟩).2 _ _ h1) ?_
  ·have e1:kH [b]=kF b:=by simp [kH]
   rw [e1]
   refine (Rep.keep fun i x hi hx=>?_).2 _ _ hcs
   have h2:=zZ hx
   have h3:wr.heap.size<=i:=hi
   refine ⟨⟨by omega,fun e=>?_,fun e=>by have:=ltY i e;omega⟩,gr i x hx (fun e=>by have:=ltK i e;omega) (by omega)⟩
   rcases gL i e with e' | e'
   ·have:=ltK i e';omega
   ·omega
 ·have h1:=h.repY
  rw [List.drop_eq_nil_of_le (by omega)] at h1
  rw [List.drop_eq_nil_of_le (by simp;omega)]
  have:yv=[]:=by simpa [kH,zI] using h1
  subst this;exact zI.2 rfl
theorem yL.yes {l:Bs} {w:World} {rd:RdS} {hs:List (List Ty)} {n i0 ob Z v k en:Nat} {wr:World} {ps:List Bd} {kv yv:List Value} {ks ys:Value} {nk ny:Nat}
 (h:yL l w rd hs n i0 ob Z v k en wr ps kv yv ks nk ys ny) (hk:n<=k) (fY:ob<Z) (aG:w.heap.size<ob) {W w7:World} {b:Bd} {cs:List Value} {a':Option Addr} {c' dZ:Nat}
 (gB:Below wr.heap.size wr W) (hcs:zD (wr.heap.size<=·) W (kF b) cs) (gM:Own w7 64 4 (.slice a' (ny+1) c') (ny+1) (yv++cs)) (gD:But (fun i=>ys.ownBlock=some i) W w7)
 (gL:∀ g,(Value.slice a' (ny+1) c').ownBlock=some g->ys.ownBlock=some g\/g=W.heap.size)
 (fS:zJ rd (hs.take (k+1)) (l.drop i0)=some (ps++[b],l.drop dZ)) (sP:dZ<=l.length) :
 yL l w rd hs n i0 ob Z v (k+1) dZ (w7.setCell ⟨ob,3,none⟩ (.slice a' (ny+1) c')) (ps++[b]) kv (yv++cs) ks nk (.slice a' (ny+1) c') (ny+1):=by
 have z6:=gB.size
 have z7:=gD.size
 have zr:=h.z
 have gC:=h.len
 have keep:∀ i x,wr.heap[i]? = some x->ys.ownBlock≠some i->i≠ob->(w7.setCell ⟨ob,3,none⟩ (.slice a' (ny+1) c')).heap[i]? = some x:=by
  intro i x hx h1 h2
  have:=zZ hx
  rw [gU _ _ _ _ (by simpa using h2),gD.block i (by omega) h1,gB.block i this];exact hx
 have gr:∀ i x,W.heap[i]? = some x->ys.ownBlock≠some i->i≠ob->(w7.setCell ⟨ob,3,none⟩ (.slice a' (ny+1) c')).heap[i]? = some x:=by
  intro i x hx h1 h2
  have:=zZ hx
  rw [gU _ _ _ _ (by simpa using h2),gD.block i (by omega) h1];exact hx
 have ltK:∀ g,ks.ownBlock=some g->g<wr.heap.size:=fun g hg=>h.ownK.lt hg
 have ltY:∀ g,ys.ownBlock=some g->g<wr.heap.size:=fun g hg=>h.ownY.lt hg
 have nY:∀ i,i<Z->ys.ownBlock≠some i:=fun i hi e=>by have:=h.blkY i e;omega
 have newg:∀ g,(Value.slice a' (ny+1) c').ownBlock=some g->Z<=g:=fun g hg=>by
  rcases gL g hg with e | e
  ·exact h.blkY g e
  ·omega
 refine ⟨by rw [h.hnk];omega,by rw [h.hny];omega,h.ksl,⟨_,_,rfl⟩,fS,by simp [gC],sP,?_,?_,?_,?_,?_,?_,newg,?_,?_,by simp [World.setCell];omega⟩
 ·refine Below.setCell ?_ (show w.heap.size<=ob by omega) _
  exact (zzT h.below gB).trans (gD.toBelow (by have:=h.below.size;omega) fun i hi e=>nY i (by omega) e)
 ·exact keep _ _ h.res (nY _ (by omega)) (by omega)
 ·have h1:kY ob v ks ys w7:=by
   unfold kY;rw [gD.block ob (by omega) (nY _ fY),gB.block ob (by omega)];exact h.out
  exact h1.put3
 ·exact h.ownK.keep fun g o hg ho=>keep g o ho (h.blkK g hg).2 (by have:=(h.blkK g hg).1;omega)
 ·exact gM.keep fun g o hg ho=>by rw [gU _ _ _ _ (by have:=newg g hg;simp;omega)];exact ho
 ·intro g hg
  refine ⟨(h.blkK g hg).1,fun e=>?_⟩
  rcases gL g e with e' | e'
  ·exact (h.blkK g hg).2 e'
  ·have:=ltK g hg;omega
 ·rw [List.take_append_of_le_length (by omega)]
  refine (Rep.keep fun i x hi hx=>⟨⟨hi.1,hi.2.1,fun e=>?_⟩,keep i x hx hi.2.2 (by have:=hi.1;omega)⟩).2 _ _ h.repK
  rcases gL i e with e' | e'
  ·exact hi.2.2 e'
  ·have:=zZ hx;omega
 ·rw [List.drop_append_of_le_length (by omega),k7]
  refine zD.append ((Rep.keep fun i x hi hx=>⟨⟨hi.1,hi.2.1,fun e=>(gL i e).elim (fun e'=>hi.2.2 e') (fun e'=>by have:=zZ hx;omega)⟩,keep i x hx hi.2.2 (by have:=hi.1;omega)⟩).2 _ _ h.repY) ?_
  ·have e1:kH [b]=kF b:=by simp [kH]
   rw [e1]
   refine (Rep.keep fun i x hi hx=>?_).2 _ _ hcs
   have h2:=zZ hx
   have h3:wr.heap.size<=i:=hi
   refine ⟨⟨by omega,fun e=>by have:=ltK i e;omega,fun e=>?_⟩,gr i x hx (fun e=>by have:=ltY i e;omega) (by omega)⟩
   rcases gL i e with e' | e'
   ·have:=ltY i e';omega
   ·omega
theorem zN.lit4 {w:World} {e:TypeId} (cs:Array Value) (hn:cs.size=4) (hc:∀ u∈cs.toList,u.oneCell'=true) (g:Nat) (hg:g=w.heap.size):zN 4 (.slice (some ⟨g,0,none⟩) 1 1) 1 cs.toList (w.alloc (.cells cs e)):=by
 subst hg
 refine ⟨by simp [hn],hc,.inl ⟨_,_,rfl,fun j u hu=>?_⟩⟩
 unfold Addr.add
 split
 ·subst j;simp;simpa using hu
 ·simp;simpa using hu
def NodeRel (l:Bs) (w:World) (rd:RdS) (hs:List (List Ty)) (n i0 ob Z v:Nat) (k en:Nat) (wr:World):Prop :=
 ∃ ps kv yv ks nk ys ny,yL l w rd hs n i0 ob Z v k en wr ps kv yv ks nk ys ny
set_option maxRecDepth 100000 in
theorem l3Read_ask (l:Bs) (hl:Lim l.length) (e d:Nat) (tT:e+1+d=101) (ih:NodeSaid l e (d+1)) (F:Nat->Prop) (hand:List Ty) (hv:Value) (i:Nat) (w:World) (hi:i<l.length) (hh:kj (e+1) hand)
 (hr:Rep F w (.sl 61 1 hand.length (qQ hand)) hv) (hE:l[i]=40) :
 Calls Tryz.prog 64 #[str l,.int .i64 i,hv,.int .i64 d] w (qe l.length w (rdN (e+1) hand (l.drop i))):=by
 have bC:=hl.le
 have IH:=gZ ih;clear ih
 have gC:hand.length<=10000:=by have:=hh.2;omega
 have fa:¬ (100:Int)<(d:Int):=by omega
 have HM:=gZ (rdN_40 e hand hi hE)
 have f1:=qu hi (c:=116) (n:=116) (by decide) (by rw [hE];decide)
 have f2:=qu hi (c:=102) (n:=102) (by decide) (by rw [hE];decide)
 have f3:=qu hi (c:=117) (n:=117) (by decide) (by rw [hE];decide)
 have f4:=vu hi (n:=40) (by decide) hE
 clear hE
 obtain ⟨a0,k0,ehv,_,_,hat⟩:=zM hr
 subst ehv
 have HAT:=gZ hat;clear hat
 go_enter Tryz.func64,Tryz.ntmps64
 go_wp2_with fail
 rw [show (i:Int)+1=((i+1:Nat):Int) from by omega]
 refine (l3Number_any l hl (i+1) hi _).mono ?_
 rintro en w1 ⟨v,k1,rfl,ew,gq,gx⟩
 obtain rfl:=ew
 cases hq:ki (l.drop (i+1)) with
 | none =>
   obtain rfl:=gq hq
   have hm:rdN (e+1) hand (l.drop i)=none:=by rw [HM.out,hq]
   have HM:=gZ hm;clear hm hq gq gx
   go_wp2_with fail
   refine bodyPost_ret (v:=.tuple #[.agg #[str [],.int .i64 0,.slice none 0 0,.slice none 0 0],.int .i64 (-1)]) (by simp [results,Tryz.results64,go_sem]) rfl ?_
   exact qe.no HM.out (by repeat (first | exact gV _ _ | refine Below.alloc ?_ (gQ _) _ | refine Below.setCell ?_ (by simp) _))
 | some x =>
 obtain ⟨v',c⟩:=x
 obtain ⟨rfl,rfl⟩:=gx _ _ hq
 have mD:i+1+c<=l.length/\v<=9999:=by
  unfold ki at hq
  split at hq
  ·simp at hq
  ·simp at hq
   obtain ⟨e1,e2⟩:=hq
   have h1:=ur (l.drop (i+1))
   have h2:=valOf_lt (za (l.drop (i+1))) (jH _)
   have h3:10 ^ (za (l.drop (i+1))).length<=10 ^ 4:=Nat.pow_le_pow_right (by omega) h1.1
   simp at h1;omega
 obtain ⟨mD,hv9⟩:=mD
 have HQ:=gZ hq;clear hq gq gx
 by_cases eN:v<hand.length
 rotate_left
 ·have hm:rdN (e+1) hand (l.drop i)=none:=by
   rw [HM.out,HQ.out];simp only
   rw [List.getElem?_eq_none (by omega)]
  have HM:=gZ hm;clear hm
  go_wp2_with fail
  refine bodyPost_ret (v:=.tuple #[.agg #[str [],.int .i64 0,.slice none 0 0,.slice none 0 0],.int .i64 (-1)]) (by simp [results,Tryz.results64,go_sem]) rfl ?_
  exact qe.no HM.out (by repeat (first | exact gV _ _ | refine Below.alloc ?_ (gQ _) _ | refine Below.setCell ?_ (by simp) _))
 obtain ⟨bl,ol,u,dv,ea,hFl,c_,m9,ic,eI⟩:=HAT.out v eN
 rw [uy,Option.map_eq_some_iff] at m9
 obtain ⟨t,ht,rfl⟩:=m9
 obtain ⟨sa,ks,rfl⟩:=kq eI
 have dd:=eI
 rw [qj] at dd
 obtain ⟨_,_,est,_,_,gt⟩:=zM dd
 simp only [Value.slice.injEq] at est
 obtain ⟨rfl,_,rfl⟩:=est
 subst ea
 have HT:=gZ ht;have mX:=gZ gt
 have hm : rdN (e+1) hand (l.drop i)=(do
         let (ps,l1)<-zJ (rdN e) (kC hand t) ((l.drop (i+1)).drop c)
         let l2<-cut [41] l1
         let b<-uG v t.args.length ps
         some (b,l2)):=by rw [HM.out,HQ.out];simp only [ht]
 rw [List.drop_drop] at hm
 have HM:=gZ hm
 have hta:t.args.length<=15:=by
  have h1:=hh.1 t (List.mem_of_getElem? ht)
  have h2:=kw t
  have:=kn t.args;omega
 clear hm ht gt dd
 have gv:decide (hand.length<=v)=false:=by rw [decide_eq_false_iff_not];omega
 have gi:decide ((i:Int)+1+(c:Int)<0)=false:=by rw [decide_eq_false_iff_not];omega
 go_wp2_with fail
 have gl:NodeRel l w (rdN e) (kC hand t) t.args.length (i+1+c) (w.heap.size+1) (w.heap.size+2) v 0 (i+1+c)
  ((w.alloc (.cells #[str [],.int .i64 0,.slice none 0 0,.slice none 0 0] 64)).alloc (.cells #[str [],.int .i64 v,.slice none 0 0,.slice none 0 0] 64)):=by
  refine ⟨[],[],[],.slice none 0 0,0,.slice none 0 0,0,by simp,by simp,⟨_,_,rfl⟩,⟨_,_,rfl⟩,by simp [zJ],rfl,mD,((gV _ _).alloc (gQ _) _).alloc (by simp) _,?_,?_,World.ownsRow_nil _ _ _ _,World.ownsRow_nil _ _ _ _,fun g h=>by simp [Value.ownBlock] at h,fun g h=>by simp [Value.ownBlock] at h,by rw [List.take_nil];exact zI.2 rfl,by rw [List.drop_nil];exact zI.2 rfl,by simp⟩
  ·exact zG (kJ _ _)
  ·have:=kJ (w.alloc (.cells #[str [],.int .i64 0,.slice none 0 0,.slice none 0 0] 64)) (.cells #[str [],.int .i64 v,.slice none 0 0,.slice none 0 0] 64)
   rw [zK] at this;exact this
 generalize hI0:i+1+c=i0 at *
 rw [show (i:Int)+1+(c:Int)=(i0:Int) from by omega]
 have HI0:=gZ hI0;clear hI0
 go_loopw [11,14] (fun a b wr=>∃ k en:Nat,k<=t.args.length+2/\a=.int .i64 en/\b=.int .i64 k/\NodeRel l w (rdN e) (kC hand t) t.args.length i0 (w.heap.size+1) (w.heap.size+2) v k en wr)
  (fun _ b _=>t.args.length+2-(intOf b).toNat)
 case atStart=>exact ⟨0,i0,Nat.zero_le _,rfl,rfl,gl⟩
 case round =>
  clear gl
  rename_i wr
  obtain ⟨k,en,hk,rfl,rfl,hrel⟩:=hrel
  obtain ⟨ps,kv,yv,ks,nk,ys,ny,hrel⟩:=hrel
  have fX:=hrel.res;have cj:=hrel.out;have hb:=hrel.below;have tS:=hrel.en;have zr:=hrel.z
  have HP:=gZ hrel.spec
  have nkl:nk<=17:=by have:=hrel.hnk;omega
  have nyl:ny<=2:=by have:=hrel.hny;omega
  obtain ⟨ka,kc,eks⟩:=hrel.ksl
  obtain ⟨ya,yc,eys⟩:=hrel.ysl
  subst eks;subst eys
  have HR:=gZ hrel;clear hrel
  obtain ⟨r0,r1,r2,r3,rl,rf⟩:=fX.cells
  obtain ⟨q0,q1,q2,q3,ql,qf⟩:=cj.cells
  have fB:=rf 0;have nR:=rf 1;have nN:=rf 2;have nM:=rf 3;clear rf
  have eZ:=qf 2;have nS:=qf 3;clear qf
  by_cases gH:k<t.args.length+2
  ·have bA:(k:Int)<(t.args.length:Int)+2:=by omega
   by_cases nC:∃ h:en<l.length,l[en]=32
   rotate_left
   ·have hm:rdN (e+1) hand (l.drop i)=none:=by
     have hs:=jn (rd:=rdN e) (show (kC hand t)[k]? = some _ from List.getElem?_eq_getElem (by rw [jg];exact gH)) HP.out
     have hc:cut [32] (l.drop en)=none:=by
      by_cases h:en<l.length
      ·rw [jN h,if_neg (fun h'=>nC ⟨h,h'⟩)]
      ·exact ue (by omega)
     rw [HM.out,qg (k+1) (by rw [hs];simp [z8,hc])];rfl
    have HM:=gZ hm;clear hm
    have bD:(l.length<=en)\/∃ h:en<l.length,((((⟨l.toArray⟩:ByteArray)[en]'(km h)).toNat:Int) != 32)=true:=by
     by_cases h:en<l.length
     ·exact .inr ⟨h,up h (n:=32) (by decide) (fun h'=>nC ⟨h,h'⟩)⟩
     ·exact .inl (by omega)
    clear nC
    rcases bD with h | ⟨h,f5⟩
    ·have g1:(l.length:Int)<=(en:Int):=by omega
     go_wp2_with fail
     obtain ⟨W,hW,s0,s1,s2,s3,gG,_⟩:=fX.store (.string ⟨#[]⟩) (.int .i64 0) (.slice none 0 0) (.slice none 0 0)
     rw [<- hW]
     refine bodyPost_ret (v:=.tuple #[.agg #[str [],.int .i64 0,.slice none 0 0,.slice none 0 0],.int .i64 (-1)]) (by simp [results,Tryz.results64,go_sem,s0,s1,s2,s3]) rfl ?_
     exact qe.no HM.out (gG _ _ hb (gQ _))
    ·go_wp2_with fail
     obtain ⟨W,hW,s0,s1,s2,s3,gG,_⟩:=fX.store (.string ⟨#[]⟩) (.int .i64 0) (.slice none 0 0) (.slice none 0 0)
     rw [<- hW]
     refine bodyPost_ret (v:=.tuple #[.agg #[str [],.int .i64 0,.slice none 0 0,.slice none 0 0],.int .i64 (-1)]) (by simp [results,Tryz.results64,go_sem,s0,s1,s2,s3]) rfl ?_
     exact qe.no HM.out (gG _ _ hb (gQ _))
   obtain ⟨m7,nC⟩:=nC
   have f5:=vu m7 (n:=32) (by decide) nC
   have g1:decide ((en:Int)<0)=false:=by rw [decide_eq_false_iff_not];omega
   have g2:decide (l.length<=en)=false:=by rw [decide_eq_false_iff_not];omega
   have HC:Hid (cut [32] (l.drop en)=some (l.drop (en+1))):=by show cut [32] (l.drop en)=_;rw [jN m7,if_pos nC]
   clear nC
   by_cases bL:k<t.args.length
   ·have r_:(k:Int)<(t.args.length:Int):=by omega
    obtain ⟨ba,oa,uk,dk,esa,hFa,hba,n_,nZ,dH⟩:=mX.out k bL
    subst esa
    rw [uy,Option.map_eq_some_iff] at n_
    obtain ⟨tk,cO,rfl⟩:=n_
    obtain ⟨ua,uc,rfl⟩:=kq dH
    have e1:wr.cell? ⟨ba,oa+k,none⟩=some (.slice ua tk.args.length uc):=by rw [hb.cell hba];exact nZ
    have fA:=Rep.below (F':=F) hb (fun _ h=>h) dH
    have dV:=Rep.below (F':=F) hb (fun _ h=>h) hr
    have n6:kj e (hand++tk.args):=hh.next HT.out (List.mem_of_getElem? cO)
    have fw:Lim (hand.length+tk.args.length):=by have:=n6.2;simp at this;show _<=_;omega
    have HS:=gZ (jn (rd:=rdN e) (allHands_kid (hand:=hand) cO) HP.out)
    clear cO nZ dH
    go_wp2_with fail
    refine (pC F hand tk _ _ wr dV fA fw).mono ?_
    rintro en5 w5 ⟨a5,c5,rfl,gR,bj⟩
    have z5:=gR.size
    have HR5:=gZ bj;clear bj dV fA fw
    have Q:=gZ (gK fX (gK cj (gK hb gR)))
    have rl5:w.heap.size<w5.heap.size:=by omega
    have s8:w.heap.size+1<w5.heap.size:=by omega
    go_wp2_with fail
    rw [show (en:Int)+1=((en+1:Nat):Int) from by omega,show (d:Int)+1=((d+1:Nat):Int) from by omega,<- List.length_append]
    refine (IH.out (fun k=>F k\/wr.heap.size<=k) (hand++tk.args) _ (en+1) w5 m7 n6 (by rw [List.length_append] at HR5 ⊢;exact HR5.out)).mono ?_
    rintro tw w6 ⟨s6,v6,a2,n2,k2,a3,n3,k3,k6,rfl,gB,fj,fE⟩
    rw [List.length_append]
    obtain ⟨fX,cj,hb,gR⟩:=Q.out
    have z6:=gB.size
    have hU:=gR.trans (gB.mono z5)
    have dt:=fX.below hU rl
    have da:=cj.below hU ql
    have f7:=zzT hb hU
    obtain ⟨r0,r1,r2,r3,rl6,rf⟩:=dt.cells
    obtain ⟨q0,q1,q2,q3,mF,qf⟩:=da.cells
    have fB:=rf 0;have nR:=rf 1;have nN:=rf 2;have nM:=rf 3;clear rf
    have eZ:=qf 2;have nS:=qf 3;clear qf
    have Q2:=gZ (gK hU (gK dt da));clear gR hb fX cj hU dt da gB Q
    cases hq:rdN e (hand++tk.args) (l.drop (en+1)) with
    | none =>
      obtain rfl:=fj hq
      have hm:rdN (e+1) hand (l.drop i)=none:=by
       rw [HM.out,qg (k+1) (by rw [HS.out];simp [z8,HC.out,hq])];rfl
      have HM:=gZ hm;clear hm hq fj fE
      go_wp2_with fail
      obtain ⟨W,hW,s0,s1,s2,s3,gG,_⟩:=Q2.out.2.1.store (.string ⟨#[]⟩) (.int .i64 0) (.slice none 0 0) (.slice none 0 0)
      rw [<- hW]
      refine bodyPost_ret (v:=.tuple #[.agg #[str [],.int .i64 0,.slice none 0 0,.slice none 0 0],.int .i64 (-1)]) (by simp [results,Tryz.results64,go_sem,zV s0,zV s1,zV s2,zV s3]) rfl ?_
      exact qe.no HM.out ((gG _ _ f7 (gQ _)).alloc (gG _ _ f7 (gQ _)).size _)
    | some x =>
      obtain ⟨b,rest⟩:=x
      obtain ⟨rfl,b7⟩:=fE _ _ hq
      have dG:=vK (vt e hq)
      have hrl:rest.length<=l.length:=by have:=(vt e hq).length_le;simp at this;omega
      obtain ⟨dZ,ft⟩:=zzM (l.length-rest.length)
      rw [<- ft] at dG
      have dy:(l.length:Int)-(rest.length:Int)=(dZ:Int):=by omega
      rw [dy]
      have HE2:=gZ ft;clear ft dy
      have hs:zJ (rdN e) ((kC hand t).take (k+1)) (l.drop i0)=some (ps++[b],l.drop dZ):=by
       rw [HS.out];simp [z8,HC.out,hq,dG]
      have tp:=gZ hs;have HC6:=gZ b7;clear hs b7 hq fj fE dG
      go_wp2_with (at_builtin;refine zB rfl _ _ 62 rfl 64 (.agg #[str [],.int .i64 0,.slice none 0 0,.slice none 0 0]) 4 72 Tryz.underlying62 Tryz.infoN rfl (by decide) (.slice ka nk kc) nk kv rfl ?c1 _ 1 [str s6,.int .i64 v6,.slice a2 n2 k2,.slice a3 n3 k3] rfl ?c2 ?c3 ?c4 ?_)
      case c1 =>
       refine (HR.out.ownK.keep fun g o hg ho=>?_).alloc _ |>.alloc _
       rw [Q2.out.1.block g (zZ ho)];exact ho
      case c2=>exact zN.lit4 #[str s6,.int .i64 v6,.slice a2 n2 k2,.slice a3 n3 k3] rfl (by simp [str,Value.oneCell']) _ (by simp)
      case c3=>unfold maxLen;omega
      case c4=>omega
      intro a' c' w7 g8 gD gL
      have hW:Below wr.heap.size wr ((w6.alloc (.cells #[str s6,.int .i64 v6,.slice a2 n2 k2,.slice a3 n3 k3] 64)).alloc (.cells #[str s6,.int .i64 v6,.slice a2 n2 k2,.slice a3 n3 k3] 64)):=(Q2.out.1.alloc Q2.out.1.size _).alloc (by have:=Q2.out.1.size;simp;omega) _
      have hC:zD (wr.heap.size<=·) ((w6.alloc (.cells #[str s6,.int .i64 v6,.slice a2 n2 k2,.slice a3 n3 k3] 64)).alloc (.cells #[str s6,.int .i64 v6,.slice a2 n2 k2,.slice a3 n3 k3] 64)) (kF b) [str s6,.int .i64 v6,.slice a2 n2 k2,.slice a3 n3 k3] :=
       (Rep.keep fun i o hi ho=>⟨gX z5 hi,zG (zG ho)⟩).2 _ _ HC6.out
      have hA:=HR.out.kid bL (by omega) (show w.heap.size<w.heap.size+1 by omega) hW hC g8 gD (fun g hg=>by simpa only [zK] using gL g hg) tp.out (by have:=HE2.out;omega)
      have z7:=gD.size
      rw [zK,zK] at z7
      have sC:w7.cell? ⟨w.heap.size+1,2,none⟩=some (.slice ka nk kc):=by
       rw [gD.cell (by simp only [zK];omega) (fun e=>by have h:w.heap.size+2<=w.heap.size+1:=(HR.out.blkK _ e).1;omega)]
       exact zV (zV q2)
      have sQ:w7.frozen? ⟨w.heap.size+1,2,none⟩=false:=by
       rw [World.frozen?_of_block (w:=w6) (by rw [gD.block _ (by simp only [zK];omega) (fun e=>by have h:w.heap.size+2<=w.heap.size+1:=(HR.out.blkK _ e).1;omega)];rw [Below.heap_alloc _ _ _ (by simp only [zK];omega),Below.heap_alloc _ _ _ (by omega)])]
       exact eZ
      have HA:=gZ hA;clear hA hW hC g8 gD gL
      go_wp2_with fail
      go_roundw
      case rel=>exact ⟨k+1,dZ,by omega,rfl,by go_num,_,_,_,_,_,_,_,HA.out⟩
      case measure=>simp [intOf];omega
   ·have r_:t.args.length<=k:=by omega
    have hkn2:¬ (k:Int)<(t.args.length:Int):=by omega
    have dV:=Rep.below (F':=F) hb (fun _ h=>h) hr
    have HS:=gZ (jn (rd:=rdN e) (allHands_yes (hand:=hand) (t:=t) r_ gH) HP.out)
    go_wp2_with fail
    refine (IH.out F hand _ (en+1) wr m7 (by have:=hh.same;rwa [List.append_nil] at this) dV).mono ?_
    rintro tw w6 ⟨s6,v6,a2,n2,k2,a3,n3,k3,k6,rfl,gB,fj,fE⟩
    have z6:=gB.size
    have hU:=gB
    have dt:=fX.below hU rl
    have da:=cj.below hU ql
    have f7:=zzT hb hU
    obtain ⟨r0,r1,r2,r3,rl6,rf⟩:=dt.cells
    obtain ⟨q0,q1,q2,q3,mF,qf⟩:=da.cells
    have fB:=rf 0;have nR:=rf 1;have nN:=rf 2;have nM:=rf 3;clear rf
    have eZ:=qf 2;have nS:=qf 3;clear qf
    have Q2:=gZ (gK hU (gK dt da));clear hb fX cj hU dt da gB
    cases hq:rdN e hand (l.drop (en+1)) with
    | none =>
      obtain rfl:=fj hq
      have hm:rdN (e+1) hand (l.drop i)=none:=by
       rw [HM.out,qg (k+1) (by rw [HS.out];simp [z8,HC.out,hq])];rfl
      have HM:=gZ hm;clear hm hq fj fE
      go_wp2_with fail
      obtain ⟨W,hW,s0,s1,s2,s3,gG,_⟩:=Q2.out.2.1.store (.string ⟨#[]⟩) (.int .i64 0) (.slice none 0 0) (.slice none 0 0)
      rw [<- hW]
      refine bodyPost_ret (v:=.tuple #[.agg #[str [],.int .i64 0,.slice none 0 0,.slice none 0 0],.int .i64 (-1)]) (by simp [results,Tryz.results64,go_sem,zV s0,zV s1,zV s2,zV s3]) rfl ?_
      exact qe.no HM.out ((gG _ _ f7 (gQ _)).alloc (gG _ _ f7 (gQ _)).size _)
    | some x =>
      obtain ⟨b,rest⟩:=x
      obtain ⟨rfl,b7⟩:=fE _ _ hq
      have dG:=vK (vt e hq)
      have hrl:rest.length<=l.length:=by have:=(vt e hq).length_le;simp at this;omega
      obtain ⟨dZ,ft⟩:=zzM (l.length-rest.length)
      rw [<- ft] at dG
      have dy:(l.length:Int)-(rest.length:Int)=(dZ:Int):=by omega
      rw [dy]
      have HE2:=gZ ft;clear ft dy
      have hs:zJ (rdN e) ((kC hand t).take (k+1)) (l.drop i0)=some (ps++[b],l.drop dZ):=by
       rw [HS.out];simp [z8,HC.out,hq,dG]
      have tp:=gZ hs;have HC6:=gZ b7;clear hs b7 hq fj fE dG
      go_wp2_with (at_builtin;refine zB rfl _ _ 62 rfl 64 (.agg #[str [],.int .i64 0,.slice none 0 0,.slice none 0 0]) 4 72 Tryz.underlying62 Tryz.infoN rfl (by decide) (.slice ya ny yc) ny yv rfl ?c1 _ 1 [str s6,.int .i64 v6,.slice a2 n2 k2,.slice a3 n3 k3] rfl ?c2 ?c3 ?c4 ?_)
      case c1 =>
       refine (HR.out.ownY.keep fun g o hg ho=>?_).alloc _ |>.alloc _
       rw [Q2.out.1.block g (zZ ho)];exact ho
      case c2=>exact zN.lit4 #[str s6,.int .i64 v6,.slice a2 n2 k2,.slice a3 n3 k3] rfl (by simp [str,Value.oneCell']) _ (by simp)
      case c3=>unfold maxLen;omega
      case c4=>omega
      intro a' c' w7 g8 gD gL
      have hW:Below wr.heap.size wr ((w6.alloc (.cells #[str s6,.int .i64 v6,.slice a2 n2 k2,.slice a3 n3 k3] 64)).alloc (.cells #[str s6,.int .i64 v6,.slice a2 n2 k2,.slice a3 n3 k3] 64)):=(Q2.out.1.alloc Q2.out.1.size _).alloc (by have:=Q2.out.1.size;simp;omega) _
      have hC:zD (wr.heap.size<=·) ((w6.alloc (.cells #[str s6,.int .i64 v6,.slice a2 n2 k2,.slice a3 n3 k3] 64)).alloc (.cells #[str s6,.int .i64 v6,.slice a2 n2 k2,.slice a3 n3 k3] 64)) (kF b) [str s6,.int .i64 v6,.slice a2 n2 k2,.slice a3 n3 k3] :=
       (Rep.keep fun i o hi ho=>⟨hi,zG (zG ho)⟩).2 _ _ HC6.out
      have hA:=HR.out.yes r_ (by omega) (show w.heap.size<w.heap.size+1 by omega) hW hC g8 gD (fun g hg=>by simpa only [zK] using gL g hg) tp.out (by have:=HE2.out;omega)
      have z7:=gD.size
      rw [zK,zK] at z7
      have sC:w7.cell? ⟨w.heap.size+1,3,none⟩=some (.slice ya ny yc):=by
       rw [gD.cell (by simp only [zK];omega) (fun e=>by have h:w.heap.size+2<=w.heap.size+1:=HR.out.blkY _ e;omega)]
       exact zV (zV q3)
      have sQ:w7.frozen? ⟨w.heap.size+1,3,none⟩=false:=by
       rw [World.frozen?_of_block (w:=w6) (by rw [gD.block _ (by simp only [zK];omega) (fun e=>by have h:w.heap.size+2<=w.heap.size+1:=HR.out.blkY _ e;omega)];rw [Below.heap_alloc _ _ _ (by simp only [zK];omega),Below.heap_alloc _ _ _ (by omega)])]
       exact nS
      have HA:=gZ hA;clear hA hW hC g8 gD gL
      go_wp2_with fail
      go_roundw
      case rel=>exact ⟨k+1,dZ,by omega,rfl,by go_num,_,_,_,_,_,_,_,HA.out⟩
      case measure=>simp [intOf];omega
  ·have bL:k=t.args.length+2:=by omega
   have bA:¬ (k:Int)<(t.args.length:Int)+2:=by omega
   have hp:zJ (rdN e) (kC hand t) (l.drop i0)=some (ps,l.drop en):=by
    have:=HP.out;rwa [bL,List.take_of_length_le (by rw [jg];exact gQ _)] at this
   have hm:rdN (e+1) hand (l.drop i)=(do
    let l2<-cut [41] (l.drop en)
    let b<-uG v t.args.length ps
    some (b,l2)):=by rw [HM.out,hp];rfl
   have HM:=gZ hm
   have HKN:=gZ bL
   clear hm hp bL
   by_cases nH:∃ h:en<l.length,l[en]=41
   rotate_left
   ·have hm:rdN (e+1) hand (l.drop i)=none:=by
     have hc:cut [41] (l.drop en)=none:=by
      by_cases h:en<l.length
      ·rw [jN h,if_neg (fun h'=>nH ⟨h,h'⟩)]
      ·exact ue (by omega)
     rw [HM.out,hc];rfl
    have HM:=gZ hm;clear hm
    have bD:(l.length<=en)\/∃ h:en<l.length,((((⟨l.toArray⟩:ByteArray)[en]'(km h)).toNat:Int) != 41)=true:=by
     by_cases h:en<l.length
     ·exact .inr ⟨h,up h (n:=41) (by decide) (fun h'=>nH ⟨h,h'⟩)⟩
     ·exact .inl (by omega)
    clear nH
    rcases bD with h | ⟨h,f5⟩
    ·have g1:(l.length:Int)<=(en:Int):=by omega
     go_wp2_with fail
     obtain ⟨W,hW,s0,s1,s2,s3,gG,_⟩:=fX.store (.string ⟨#[]⟩) (.int .i64 0) (.slice none 0 0) (.slice none 0 0)
     rw [<- hW]
     refine bodyPost_ret (v:=.tuple #[.agg #[str [],.int .i64 0,.slice none 0 0,.slice none 0 0],.int .i64 (-1)]) (by simp [results,Tryz.results64,go_sem,s0,s1,s2,s3]) rfl ?_
     exact qe.no HM.out (gG _ _ hb (gQ _))
    ·go_wp2_with fail
     obtain ⟨W,hW,s0,s1,s2,s3,gG,_⟩:=fX.store (.string ⟨#[]⟩) (.int .i64 0) (.slice none 0 0) (.slice none 0 0)
     rw [<- hW]
     refine bodyPost_ret (v:=.tuple #[.agg #[str [],.int .i64 0,.slice none 0 0,.slice none 0 0],.int .i64 (-1)]) (by simp [results,Tryz.results64,go_sem,s0,s1,s2,s3]) rfl ?_
     exact qe.no HM.out (gG _ _ hb (gQ _))
   obtain ⟨m7,nH⟩:=nH
   have f5:=vu m7 (n:=41) (by decide) nH
   have g1:decide ((en:Int)<0)=false:=by rw [decide_eq_false_iff_not];omega
   have g2:decide (l.length<=en)=false:=by rw [decide_eq_false_iff_not];omega
   have HC:Hid (cut [41] (l.drop en)=some (l.drop (en+1))):=by show cut [41] (l.drop en)=_;rw [jN m7,if_pos nH]
   clear nH
   go_wp2_with fail
   obtain ⟨W,hW,s0,s1,s2,s3,gG,bW⟩:=fX.store (str []) (.int .i64 v) (.slice ka nk kc) (.slice ya ny yc)
   have mJ:=HR.out
   have hps:=mJ.len
   have hnk:=mJ.hnk
   have hny:=mJ.hny
   have bL:=HKN.out
   obtain ⟨y1,y2,aU⟩:∃ y1 y2,ps.drop t.args.length=[y1,y2]:=by
    match hd:ps.drop t.args.length with
    | [a,b]=>exact ⟨a,b,rfl⟩
    | []=>have:=congrArg List.length hd;simp at this;omega
    | [a]=>have:=congrArg List.length hd;simp at this;omega
    | a::b::c::d=>have:=congrArg List.length hd;simp at this;omega
   have hm:rdN (e+1) hand (l.drop i)=some (.ask v (ps.take t.args.length) y1 y2,l.drop (en+1)):=by
    rw [HM.out,HC.out];simp [uG,aU]
   have fq:nk=(ps.take t.args.length).length:=by simp;omega
   have fk:ny=2:=by omega
   rw [<- hW]
   refine bodyPost_ret (v:=.tuple #[.agg #[str [],.int .i64 v,.slice ka nk kc,.slice ya ny yc],.int .i64 ((en:Int)+1)]) (by simp [results,Tryz.results64,go_sem,s0,s1,s2,s3]) rfl ?_
   refine qe.yes (s:=[]) hm (by simp;omega) (gG _ _ hb (gQ _)) ?_
   rw [xK]
   refine zU.2 ⟨_,_,rfl,zf.2 rfl,zU.2 ⟨_,_,rfl,zf.2 rfl,zU.2 ⟨_,_,rfl,?_,zU.2 ⟨_,_,rfl,?_,zI.2 rfl⟩⟩⟩⟩
   ·rw [<- fq]
    refine (mJ.ownK.keep fun g o hg ho=>bW g o (by have:=(mJ.blkK g hg).1;omega) ho).rep (fun g hg=>by have:=(mJ.blkK g hg).1;omega) ?_
    exact (Rep.keep fun x o hx ho=>⟨by have:=hx.1;omega,bW x o (by have:=hx.1;omega) ho⟩).2 _ _ mJ.repK
   ·have gd:=mJ.repY
    rw [aU] at gd
    rw [<- fk]
    refine (mJ.ownY.keep fun g o hg ho=>bW g o (by have:=mJ.blkY g hg;omega) ho).rep (fun g hg=>by have:=mJ.blkY g hg;omega) ?_
    exact (Rep.keep fun x o hx ho=>⟨by have:=hx.1;omega,bW x o (by have:=hx.1;omega) ho⟩).2 _ _ gd
theorem l3Read_any (l:Bs) (hl:Lim l.length) (e:Nat):∀ d,e+d=101->NodeSaid l e d:=by
 induction e with
 | zero=>exact fun d tT F hand hv i w hi _ hr=>y4 l hl 0 d tT F hand hv i w hi hr (fun _=>.inl rfl)
 | succ e ih =>
   intro d tT F hand hv i w hi hh hr
   by_cases h:∃ h:i<l.length,l[i]=40
   ·obtain ⟨h,hE⟩:=h
    exact l3Read_ask l hl e d tT (ih (d+1) (by omega)) F hand hv i w h hh hr hE
   ·exact y4 l hl (e+1) d tT F hand hv i w hi hr (fun h'=>.inr fun hE=>h ⟨h',hE⟩)
def zL:Bd->List Bd
 | .leaf _=>[]
 | .ask _ ss _ _=>ss
def ze:Bd->List Bd
 | .leaf _=>[]
 | .ask _ _ y n=>[y,n]
def zH:Bd->Bs
 | .leaf c=>[c]
 | .ask _ _ _ _=>[]
def AtN (F:Nat->Prop) (w:World) (bs:List Bd) (a:Option Addr) (k:Nat):Prop :=
 ∃ b o s v a2 n2 c2 a3 n3 c3 d,a=some ⟨b,o,none⟩/\b<w.heap.size/\bs[k]? = some d/\w.cell? ⟨b,o+k*4,none⟩=some (str s)/\w.cell? ⟨b,o+k*4+1,none⟩=some (.int .i64 v) /\
   w.cell? ⟨b,o+k*4+2,none⟩=some (.slice a2 n2 c2)/\w.cell? ⟨b,o+k*4+3,none⟩=some (.slice a3 n3 c3)/\zD F w (kF d) [str s,.int .i64 v,.slice a2 n2 c2,.slice a3 n3 c3]
def xD (F:Nat->Prop) (w:World) (bs:List Bd) (a:Option Addr):Prop:=∀ k,k<bs.length->AtN F w bs a k
theorem jb {F:Nat->Prop} {w:World} {b:Bd} {vs:List Value} (h:zD F w (kF b) vs) :
 ∃ v a2 c2 a3 c3,vs=[str (zH b),.int .i64 v,.slice a2 (zL b).length c2,.slice a3 (ze b).length c3] /\
   Rep F w (.sl 64 4 (zL b).length (kH (zL b))) (.slice a2 (zL b).length c2)/\Rep F w (.sl 64 4 (ze b).length (kH (ze b))) (.slice a3 (ze b).length c3):=by
 have key:∀ (s:Bs) (v:Int) (d2 d3:DV) (n2 n3:Nat) (k2 k3:List DV),d2=.sl 64 4 n2 k2->d3=.sl 64 4 n3 k3->zD F w [.val (str s),.val (.int .i64 v),d2,d3] vs ->
  ∃ a2 c2 a3 c3,vs=[str s,.int .i64 v,.slice a2 n2 c2,.slice a3 n3 c3]/\Rep F w d2 (.slice a2 n2 c2)/\Rep F w d3 (.slice a3 n3 c3):=by
  intro s v d2 d3 n2 n3 k2 k3 e2 e3 h
  obtain ⟨_,_,rfl,h0,h⟩:=zU.1 h
  obtain ⟨_,_,rfl,h1,h⟩:=zU.1 h
  obtain ⟨_,_,rfl,h2,h⟩:=zU.1 h
  obtain ⟨_,_,rfl,h3,h⟩:=zU.1 h
  rw [zI] at h;subst h
  rw [zf] at h0 h1
  subst h0;subst h1
  have h2':=h2;have h3':=h3
  rw [e2] at h2';rw [e3] at h3'
  obtain ⟨_,a2,c2,e2',_⟩:=qB.1 h2'
  obtain ⟨_,a3,c3,e3',_⟩:=qB.1 h3'
  subst e2';subst e3'
  exact ⟨a2,c2,a3,c3,rfl,h2,h3⟩
 cases b with
 | leaf c =>
   rw [kF] at h
   obtain ⟨a2,c2,a3,c3,e,h2,h3⟩:=key _ _ _ _ 0 0 [] [] rfl rfl h
   exact ⟨_,a2,c2,a3,c3,e,h2,h3⟩
 | ask v ss y n =>
   rw [xK] at h
   obtain ⟨a2,c2,a3,c3,e,h2,h3⟩:=key _ _ _ _ _ _ _ _ rfl rfl h
   exact ⟨_,a2,c2,a3,c3,e,h2,h3⟩
theorem xD.of {F:Nat->Prop} {w:World} {bs:List Bd} {v:Value} (h:Rep F w (.sl 64 4 bs.length (kH bs)) v):∃ a c,v=.slice a bs.length c/\xD F w bs a:=by
 obtain ⟨hl,a,c,rfl,hn,hz,h⟩:=qB.1 h
 refine ⟨a,c,rfl,fun k hk=>?_⟩
 rcases h with h | ⟨b,o,cs,fr,rfl,hb,hc,hr⟩
 ·omega
 ·have hs:kH bs=kH (bs.take k)++(kF bs[k]++kH (bs.drop (k+1))):=by
   have e1:kF bs[k]=kH [bs[k]]:=by simp [kH]
   rw [e1,<- k7,<- k7]
   congr 1
   simp
  rw [hs] at hr
  obtain ⟨h1,h2⟩:=hr.split
  obtain ⟨h3,h4⟩:=h2.split
  have tE:(kH (bs.take k)).length=k*4:=by rw [encNs_length];simp;omega
  rw [tE,wZ] at h3
  obtain ⟨v,a2,c2,a3,c3,e,_⟩:=jb h3
  have hat:∀ j u,([str (zH bs[k]),.int .i64 v,.slice a2 (zL bs[k]).length c2,.slice a3 (ze bs[k]).length c3]:List Value)[j]? = some u->w.cell? ⟨b,o+k*4+j,none⟩=some u:=by
   intro j u hu
   rw [<- e] at hu
   have hj:j<4:=by
    have:=(List.getElem?_eq_some_iff.1 hu).1
    simp at this;omega
   rw [List.getElem?_take,if_pos hj,List.getElem?_drop,List.getElem?_take] at hu
   split at hu
   ·rw [List.getElem?_drop] at hu
    simp only [World.cell?,hc]
    rw [Nat.add_assoc]
    simpa using hu
   ·simp at hu
  refine ⟨b,o,_,v,a2,_,c2,a3,_,c3,bs[k],rfl,zZ hc,by simp [hk],hat 0 _ rfl,hat 1 _ rfl,hat 2 _ rfl,hat 3 _ rfl,?_⟩
  rw [<- e];exact h3
theorem j1 (b:Bd):zj b=zL b++ze b:=by cases b <;> rfl
def BoxN (g:Nat) (s:Bs) (k y:Value) (w:World):Prop :=
 w.cell? ⟨g,0,none⟩=some (str s)/\w.cell? ⟨g,2,none⟩=some k/\w.cell? ⟨g,3,none⟩=some y
theorem BoxN.below {g:Nat} {s:Bs} {k y:Value} {w w':World} (h:BoxN g s k y w) (hb:Below w.heap.size w w'):BoxN g s k y w':=by
 obtain ⟨h1,h2,h3⟩:=h
 have:=gJ w _ h1
 exact ⟨by rw [hb.cell (by exact this)];exact h1,by rw [hb.cell (by exact this)];exact h2,by rw [hb.cell (by exact this)];exact h3⟩
def xy (b:Bd):Prop:=∀ (F:Nat->Prop) (w:World) (s:Bs) (v:Int) (a2:Option Addr) (n2 c2:Nat) (a3:Option Addr) (n3 c3:Nat),zD F w (kF b) [str s,.int .i64 v,.slice a2 n2 c2,.slice a3 n3 c3] ->
 Calls Tryz.prog 65 #[.agg #[str s,.int .i64 v,.slice a2 n2 c2,.slice a3 n3 c3]] w fun en w'=>en=.returned (.int .i64 (zP b))/\Below w.heap.size w w'
set_option maxRecDepth 100000 in
theorem l3Size_step (b:Bd) (hl:Lim (zP b)) (ih:∀ b',zP b'<zP b->xy b'):xy b:=by
 intro F w s v a2 n2 c2 a3 n3 c3 hv
 have mG:=jb hv
 obtain ⟨v',a2',c2',a3',c3',e,hk,hy⟩:=mG
 simp only [List.cons.injEq,Value.slice.injEq,and_true] at e
 obtain ⟨e0,e1,⟨rfl,e2,rfl⟩,⟨rfl,e3,rfl⟩⟩:=e
 clear e0 e1
 subst e2;subst e3
 obtain ⟨_,_,ek,lU⟩:=xD.of hk
 obtain ⟨_,_,ey,lV⟩:=xD.of hy
 simp only [Value.slice.injEq,true_and] at ek ey
 obtain ⟨rfl,rfl⟩:=ek
 obtain ⟨rfl,rfl⟩:=ey
 have IH:=gZ ih;clear ih
 have bC:=hl.le
 have bG:=qN b
 rw [j1,kQ] at bG
 have tE:=zp (zL b)
 have hyl:=zp (ze b)
 have E1:=gZ bG
 have kl:(zL b).length<=16777216:=by omega
 have yl:(ze b).length<=16777216:=by omega
 have ATK:=gZ lU;have ATY:=gZ lV
 clear lU lV hk hy hv bG tE hyl
 generalize hK:zL b=kids at *
 generalize hY:ze b=yess at *
 clear hK hY
 go_enter Tryz.func65,Tryz.ntmps65
 go_wp2_with fail
 go_loopw [3,4] (fun n i wr=>∃ k:Nat,k<=kids.length/\i=.int .i64 k/\n=.int .i64 ((1+zW (kids.take k):Nat):Int)/\Below w.heap.size w wr/\BoxN w.heap.size s (.slice a2 kids.length c2) (.slice a3 yess.length c3) wr) (fun _ i _=>kids.length-(intOf i).toNat)
 case atStart=>exact ⟨0,Nat.zero_le _,rfl,by simp [zW],(gV _ _).alloc (gQ _) _,by simp,by simp,by simp⟩
 case round =>
  rename_i wr
  obtain ⟨k,hk,rfl,rfl,hb,hc⟩:=hrel
  obtain ⟨dT,cf,fi⟩:=id hc
  by_cases gH:k<kids.length
  ·obtain ⟨bb,o,s',v',b2,m2,d2,b3,m3,d3,t,rfl,hbb,ht,u0,u1,u2,u3,hr⟩:=ATK.out k gH
   have q0:=(hb.cell hbb).trans u0
   have q1:=(hb.cell hbb).trans u1
   have q2:=(hb.cell hbb).trans u2
   have q3:=(hb.cell hbb).trans u3
   have dV:=(zD.below (F':=F) hb (fun _ h=>h) hr)
   have hs:=kR ht
   have fg:=z9 kids (k+1)
   have dn:=E1.out
   have hp:=kX t
   have IH':=gZ (IH.out t (by omega))
   have HS:=gZ hs
   have b1:1+zW (kids.take k)+zP t<=16777216:=by omega
   have hz:=gJ wr _ dT
   clear hs ht dn u0 u1 u2 u3 hr
   go_wp2_with fail
   refine (IH'.out _ _ _ _ _ _ _ _ _ _ dV).mono ?_
   rintro en w2 ⟨rfl,gP⟩
   have gF:=zzT hb gP
   obtain ⟨dT,cf,fi⟩:=id (hc.below gP)
   have eP:=gZ (hc.below gP)
   go_wp2_with fail
   go_roundw
   case rel=>exact ⟨k+1,by omega,by go_num,by rw [HS.out] <;> go_num,gF,eP.out⟩
   case measure=>simp [intOf];omega
  ·obtain rfl:k=kids.length:=by omega
   rw [List.take_length]
   have bK:1+zW kids<=16777216:=by have:=E1.out;omega
   clear hk gH
   go_wp2_with fail
   have dq:=hb;have hc0:=hc
   clear hb hc dT cf fi
   go_loopw [3,5] (fun n i wr=>∃ k:Nat,k<=yess.length/\i=.int .i64 k/\n=.int .i64 ((1+zW kids+zW (yess.take k):Nat):Int)/\Below w.heap.size w wr/\BoxN w.heap.size s (.slice a2 kids.length c2) (.slice a3 yess.length c3) wr) (fun _ i _=>yess.length-(intOf i).toNat)
   case atStart=>exact ⟨0,Nat.zero_le _,rfl,by simp [zW],dq,hc0⟩
   case round =>
    clear dq hc0
    obtain ⟨k,hk,rfl,rfl,hb,hc⟩:=hrel
    obtain ⟨dT,cf,fi⟩:=id hc
    by_cases gH:k<yess.length
    ·obtain ⟨bb,o,s',v',b2,m2,d2,b3,m3,d3,t,rfl,hbb,ht,u0,u1,u2,u3,hr⟩:=ATY.out k gH
     have q0:=(hb.cell hbb).trans u0
     have q1:=(hb.cell hbb).trans u1
     have q2:=(hb.cell hbb).trans u2
     have q3:=(hb.cell hbb).trans u3
     have dV:=(zD.below (F':=F) hb (fun _ h=>h) hr)
     have hs:=kR ht
     have fg:=z9 yess (k+1)
     have dn:=E1.out
     have hp:=kX t
     have IH':=gZ (IH.out t (by omega))
     have HS:=gZ hs
     have b1:1+zW kids+zW (yess.take k)+zP t<=16777216:=by omega
     have hz:=gJ _ _ dT
     clear hs ht dn u0 u1 u2 u3 hr
     go_wp2_with fail
     refine (IH'.out _ _ _ _ _ _ _ _ _ _ dV).mono ?_
     rintro en w2 ⟨rfl,gP⟩
     have gF:=zzT hb gP
     obtain ⟨dT,cf,fi⟩:=id (hc.below gP)
     have eP:=gZ (hc.below gP)
     go_wp2_with fail
     go_roundw
     case rel=>exact ⟨k+1,by omega,by go_num,by rw [HS.out] <;> go_num,gF,eP.out⟩
     case measure=>simp [intOf];omega
    ·obtain rfl:k=yess.length:=by omega
     go_wp2_with fail
     go_ret
     exact ⟨yu (by rw [E1.out,List.take_length];omega),hb⟩
theorem l3Size_any (n:Nat):∀ b,zP b<=n->Lim n->xy b:=by
 induction n with
 | zero=>intro b h _;have:=kX b;omega
 | succ n ih=>exact fun b h hn=>l3Size_step b (hn.mono h) (fun b' h'=>ih b' (by omega) (hn.mono (by omega)))
def zX (s text:Bs):Option Bd :=
 if (zQ s).2=false\/2000<text.length then none else
 match rdN 101 (zQ s).1.args text with
 | none=>none
 | some (b,rest)=>if rest=[]/\zP b<=200 then some b else none
theorem jT {l:Bs} (h:(zQ l).2=true):zY (zQ l).1<=15:=by
 unfold zQ at *
 split at h
 ·simp at h
 ·rename_i hl
  rw [if_neg hl]
  cases hq:rdS 21 l with
  | none=>rw [hq] at h;simp at h
  | some x=>rw [hq] at h;obtain ⟨t,rest⟩:=x;simp at h;exact h.2
theorem y9 {t:Ty} (h:zY t<=15):kj 101 t.args:=by
 have hm:=kw t
 have key:∀ (ts:List Ty) (x:Ty),x∈ts->zY x<=zF ts:=by
  intro ts
  induction ts with
  | nil=>intro x hx;simp at hx
  | cons y ys ih =>
    intro x hx
    rcases List.mem_cons.1 hx with rfl | hx
    ·simp [zF];omega
    ·have:=ih x hx;simp [zF];omega
 refine ⟨fun x hx=>?_,?_⟩
 ·have:=key t.args x hx;omega
 ·have:=kn t.args;omega
theorem uw {w:World} {p a:Addr} {u v:Value} (h:w.cell? a=some v) (gN:a.block≠p.block):(w.setCell p u).cell? a=some v:=by
 rw [World.cell?_of_block (w:=w) (gU _ _ _ _ gN)];exact h
theorem uQ {w w':World} {a:Addr} {v:Value} (h:w.cell? a=some v) (hk:∀ x,w.heap[a.block]? = some x->w'.heap[a.block]? = some x):w'.cell? a=some v:=by
 have gH:=gJ w a h
 rw [World.cell?_of_block (w:=w)]
 ·exact h
 ·rw [hk _ (Array.getElem?_eq_getElem gH),Array.getElem?_eq_getElem gH]
abbrev KeepS (g1 g2:Nat) (T u0 u1 u2 u3:Value) (w:World):Prop :=
 w.cell? ⟨g1,0,none⟩=some T/\w.cell? ⟨g2,0,none⟩=some u0/\w.cell? ⟨g2,1,none⟩=some u1/\w.cell? ⟨g2,2,none⟩=some u2/\w.cell? ⟨g2,3,none⟩=some u3
theorem KeepS.set {g1 g2:Nat} {T u0 u1 u2 u3:Value} {w:World} (h:KeepS g1 g2 T u0 u1 u2 u3 w) (b o:Nat) (u:Value) (h1:g1≠b) (h2:g2≠b):KeepS g1 g2 T u0 u1 u2 u3 (w.setCell ⟨b,o,none⟩ u) :=
 ⟨uw h.1 h1,uw h.2.1 h2,uw h.2.2.1 h2,uw h.2.2.2.1 h2,uw h.2.2.2.2 h2⟩
def qW (s text:Bs) (w:World) (en:Ending) (w':World):Prop :=
 ∃ (a:Option Addr) (c:Nat) (s':Bs) (v':Int) (a2:Option Addr) (n2 c2:Nat) (a3:Option Addr) (n3 c3:Nat),
   en=.returned (.tuple #[.agg #[.slice a (zQ s).1.args.length c],.agg #[str s',.int .i64 v',.slice a2 n2 c2,.slice a3 n3 c3],.bool (zX s text).isSome])/\Below w.heap.size w w' /\
   Rep (w.heap.size<=·) w' (jx (zQ s).1) (.slice a (zQ s).1.args.length c) /\
   (∀ b,zX s text=some b->zD (w.heap.size<=·) w' (kF b) [str s',.int .i64 v',.slice a2 n2 c2,.slice a3 n3 c3])
theorem qW.no {s text:Bs} {w w':World} {a:Option Addr} {c:Nat} {v:Value} (hv:v=.slice a (zQ s).1.args.length c) {s':Bs} {v':Int} {a2:Option Addr} {n2 c2:Nat} {a3:Option Addr} {n3 c3:Nat} {f:Bool} (hf:f=false) (hn:zX s text=none) (hb:Below w.heap.size w w')
 (hr:Rep (w.heap.size<=·) w' (jx (zQ s).1) v) :
 qW s text w (.returned (.tuple #[.agg #[v],.agg #[str s',.int .i64 v',.slice a2 n2 c2,.slice a3 n3 c3],.bool f])) w':=by
 subst hv;subst hf
 exact ⟨a,c,s',v',a2,n2,c2,a3,n3,c3,by rw [hn];rfl,hb,hr,fun b h=>by rw [hn] at h;simp at h⟩
theorem qW.yes {s text:Bs} {w w':World} {a:Option Addr} {c:Nat} {v:Value} (hv:v=.slice a (zQ s).1.args.length c) {s':Bs} {v':Int} {a2:Option Addr} {n2 c2:Nat} {a3:Option Addr} {n3 c3:Nat} {f:Bool} {b:Bd} (hf:f=true) (hn:zX s text=some b) (hb:Below w.heap.size w w')
 (hr:Rep (w.heap.size<=·) w' (jx (zQ s).1) v) (cQ:zD (w.heap.size<=·) w' (kF b) [str s',.int .i64 v',.slice a2 n2 c2,.slice a3 n3 c3]) :
 qW s text w (.returned (.tuple #[.agg #[v],.agg #[str s',.int .i64 v',.slice a2 n2 c2,.slice a3 n3 c3],.bool f])) w':=by
 subst hv;subst hf
 exact ⟨a,c,s',v',a2,n2,c2,a3,n3,c3,by rw [hn];rfl,hb,hr,fun b' h=>by rw [hn] at h;simp at h;subst h;exact cQ⟩
set_option maxRecDepth 100000 in
theorem j3 (s text:Bs) (hs:Lim s.length) (hl:Lim text.length) (w:World):Calls Tryz.prog 31 #[str s,str text] w (qW s text w):=by
 have cz:=hs.le
 have bC:=hl.le
 go_enter Tryz.func31,Tryz.ntmps31
 go_wp2_with fail
 refine (pD s hs _).mono ?_
 rintro en w1 ⟨v1,rfl,gW,cI⟩
 have z1:=gW.size
 rw [zK,zK] at z1
 obtain ⟨a1,c1,e1⟩:=kq cI
 have E1:=gZ e1
 have cT:Below w.heap.size w w1:=(((gV w.heap.size w).alloc (gQ _) _).alloc (by simp) _).trans (gW.mono (by simp;omega))
 have bw:w.heap.size<w1.heap.size:=by omega
 have fD:w.heap.size+1<w1.heap.size:=by omega
 have r0:w1.cell? ⟨w.heap.size,0,none⟩=some (.slice none 0 0):=by rw [gW.cell (by simp only [zK];omega)];exact zV (by simp)
 have fB:w1.frozen? ⟨w.heap.size,0,none⟩=false:=by
  rw [gW.frozen (by simp only [zK];omega)]
  rw [World.frozen?_of_block (w:=w.alloc (.cells #[.slice none 0 0] 61)) (Below.heap_alloc _ _ _ (by simp))];simp
 have hN:kY (w.heap.size+1) 0 (.slice none 0 0) (.slice none 0 0) w1:=by
  unfold kY;rw [gW.block _ (by simp)]
  have:=kJ (w.alloc (.cells #[.slice none 0 0] 61)) (.cells #[str [],.int .i64 0,.slice none 0 0,.slice none 0 0] 64)
  rw [zK] at this;exact this
 subst e1
 have eS:Rep (w.heap.size+1 < ·) w1 (jx (zQ s).1) (.slice a1 (zQ s).1.args.length c1):=(Rep.keep fun b o h ho=>⟨by have:=ji h;rw [zK] at this;omega,ho⟩).1 _ _ cI
 have HS:Hid (zX s text=if (zQ s).2=false\/2000<text.length then none else
  match rdN 101 (zQ s).1.args text with
  | none=>none
  | some (b,rest)=>if rest=[]/\zP b<=200 then some b else none):=rfl
 have HOK:=gZ (jT (l:=s))
 generalize hT:(zQ s).1=t at *
 generalize hO:(zQ s).2=ok at *
 have HT:=gZ hT;clear hT hO cI
 obtain ⟨q0,q1,q2,q3,ql,qf⟩:=hN.cells
 have qf0:=qf 0;have qf1:=qf 1;have eZ:=qf 2;have nS:=qf 3;clear qf
 by_cases bD:ok=true/\text.length<=2000
 rotate_left
 ·have hn:zX s text=none:=by
   rw [HS.out,if_pos]
   cases ok with
   | false=>exact .inl rfl
   | true=>exact .inr (by simp at bD;omega)
  have HN:=gZ hn;clear hn
  have bD:ok=false\/(ok=true/\(2000:Int)<(text.length:Int)):=by
   cases ok with
   | false=>exact .inl rfl
   | true=>exact .inr ⟨rfl,by simp at bD;omega⟩
  have h0:kY (w.heap.size+1) 0 (.slice none 0 0) (.slice none 0 0) (w1.setCell ⟨w.heap.size,0,none⟩ (.slice a1 t.args.length c1)):=by
   unfold kY;rw [gU _ _ _ _ (by simp)];exact hN
  obtain ⟨W,hW,s0,s1,s2,s3,gG,bW⟩:=h0.store (.string ⟨#[]⟩) (.int .i64 0) (.slice none 0 0) (.slice none 0 0)
  have t0:W.cell? ⟨w.heap.size,0,none⟩=some (.slice a1 t.args.length c1):=uQ (qU r0 _) fun x hx=>bW _ x (by simp) hx
  have bz:=gG _ _ (cT.setCell (p:=⟨w.heap.size,0,none⟩) (gQ _) (.slice a1 t.args.length c1)) (by omega)
  have np:Rep (w.heap.size<=·) W (jx t) (.slice a1 t.args.length c1):=(Rep.keep fun b o h ho=>⟨by omega,bW b o (by omega) (by rw [gU _ _ _ _ (by simp;omega)];exact ho)⟩).1 _ _ eS
  have FIN:Hid (∀ o,qW s text w (.returned (.tuple #[.agg #[.slice a1 t.args.length c1],.agg #[str [],.int .i64 0,.slice none 0 0,.slice none 0 0],.bool false])) (W.alloc o)):=fun o =>
   qW.no (a:=a1) (c:=c1) (by rw [HT.out]) rfl HN.out (bz.alloc bz.size o) (by rw [HT.out];exact (Rep.keep fun b o h ho=>⟨h,zG ho⟩).1 _ _ np)
  have HW:=gZ hW;clear h0 hW gG bW bz np
  rcases bD with rfl | ⟨rfl,h⟩
  all_goals
   go_wp2_with fail
   rw [<- HW.out]
   refine bodyPost_ret (v:=.tuple #[.agg #[.slice a1 t.args.length c1],.agg #[str [],.int .i64 0,.slice none 0 0,.slice none 0 0],.bool false]) (by simp [results,Tryz.results31,go_sem,zV t0,zV s0,zV s1,zV s2,zV s3]) rfl ?_
   exact FIN.out _
 obtain ⟨rfl,htl⟩:=bD
 have htl':¬ (2000:Int)<(text.length:Int):=by omega
 have hat:=HOK.out rfl
 have hm:zX s text=(match rdN 101 t.args text with
  | none=>none
  | some (b,rest)=>if rest=[]/\zP b<=200 then some b else none):=by rw [HS.out,if_neg (by simp;omega)]
 have HM:=gZ hm;clear hm HS HOK
 have hvE:=eS
 rw [qj] at hvE
 have hho:=y9 hat
 go_wp2_with fail
 refine (l3Read_any text hl 101 0 rfl (w.heap.size+1 < ·) t.args _ 0 _ (Nat.zero_le _) hho (by exact (Rep.keep fun b o h ho=>⟨h,zG ho⟩).1 _ _ hvE)).mono ?_
 rw [List.drop_zero]
 rintro en w2 ⟨s',v',a2,n2,c2,a3,n3,c3,k,rfl,gP,bR,bJ⟩
 have z2:=gP.size
 rw [zK] at z2
 have eH:Below w.heap.size w w2:=(cT.alloc (by omega) _).trans (gP.mono (by rw [zK];omega))
 have r0':w2.cell? ⟨w.heap.size,0,none⟩=some (.slice none 0 0):=by rw [gP.cell (by rw [zK];simp only;omega)];exact zV r0
 have rf0':w2.frozen? ⟨w.heap.size,0,none⟩=false:=by rw [gP.frozen (by rw [zK];simp only;omega)];rw [World.frozen?_of_block (w:=w1) (Below.heap_alloc _ _ _ bw)];exact fB
 have hN':kY (w.heap.size+1) 0 (.slice none 0 0) (.slice none 0 0) w2:=by
  unfold kY;rw [gP.block _ (by rw [zK];omega)];exact zG hN
 have hT2:w2.cell? ⟨w1.heap.size,0,none⟩=some (.slice a1 t.args.length c1):=by rw [gP.cell (by rw [zK];simp only;omega)];simp
 have nj:Rep (w.heap.size+1 < ·) w2 (jx t) (.slice a1 t.args.length c1):=(Rep.keep fun b o h ho=>⟨h,by rw [gP.block b (by have:=zZ ho;rw [zK];omega)];exact zG ho⟩).1 _ _ eS
 clear r0 fB hN q0 q1 q2 q3 ql qf0 qf1 eZ nS hvE eS hho
 obtain ⟨q0,q1,q2,q3,ql,qf⟩:=hN'.cells
 have qf0:=qf 0;have qf1:=qf 1;have eZ:=qf 2;have nS:=qf 3;clear qf
 have y1:w.heap.size<w2.heap.size:=by omega
 have y2:w1.heap.size<w2.heap.size:=by omega
 have h_:=gZ gP;clear gP
 by_cases hk:k=(text.length:Int)
 rotate_left
 ·have g1:(k == (text.length:Int))=false:=by rw [beq_eq_false_iff_ne];exact hk
  have hn:zX s text=none:=by
   rw [HM.out]
   cases hq:rdN 101 t.args text with
   | none=>rfl
   | some x =>
     obtain ⟨b,rest⟩:=x
     have h1:=(bJ b rest hq).1
     simp only
     rw [if_neg]
     rintro ⟨rfl,_⟩
     exact hk (by rw [h1];simp)
  have HN:=gZ hn
  clear hn hk bR bJ
  have h0:kY (w.heap.size+1) 0 (.slice none 0 0) (.slice none 0 0) (w2.setCell ⟨w.heap.size,0,none⟩ (.slice a1 t.args.length c1)):=by
   unfold kY;rw [gU _ _ _ _ (by simp)];exact hN'
  obtain ⟨W,hW,s0,s1,s2,s3,gG,bW⟩:=h0.store (str s') (.int .i64 v') (.slice a2 n2 c2) (.slice a3 n3 c3)
  have t0:W.cell? ⟨w.heap.size,0,none⟩=some (.slice a1 t.args.length c1):=uQ (qU r0' _) fun x hx=>bW _ x (by simp) hx
  have bz:=gG _ _ (eH.setCell (p:=⟨w.heap.size,0,none⟩) (gQ _) (.slice a1 t.args.length c1)) (by omega)
  have np:Rep (w.heap.size<=·) W (jx t) (.slice a1 t.args.length c1):=(Rep.keep fun b o h ho=>⟨by omega,bW b o (by omega) (by rw [gU _ _ _ _ (by simp;omega)];exact ho)⟩).1 _ _ nj
  have FIN:Hid (∀ o,qW s text w (.returned (.tuple #[.agg #[.slice a1 t.args.length c1],.agg #[str s',.int .i64 v',.slice a2 n2 c2,.slice a3 n3 c3],.bool false])) (W.alloc o).drew):=fun o =>
   qW.no (a:=a1) (c:=c1) (by rw [HT.out]) rfl HN.out ((bz.alloc bz.size o).drew) (by rw [HT.out];exact ((Rep.keep fun b o h ho=>⟨h,zG ho⟩).1 _ _ np).drew)
  have HW:=gZ hW;clear h0 hW gG bW bz np
  go_wp2_with fail
  go_region
  go_wp2_with fail
  rw [<- HW.out]
  refine bodyPost_ret (v:=.tuple #[.agg #[.slice a1 t.args.length c1],.agg #[str s',.int .i64 v',.slice a2 n2 c2,.slice a3 n3 c3],.bool false]) (by simp [results,Tryz.results31,go_sem,zV t0,zV s0,zV s1,zV s2,zV s3]) rfl ?_
  exact FIN.out _
 obtain ⟨b,hqb⟩:∃ b,rdN 101 t.args text=some (b,[]):=by
  cases hq:rdN 101 t.args text with
  | none=>have:=bR hq;omega
  | some x =>
    obtain ⟨b,rest⟩:=x
    have h1:=(bJ b rest hq).1
    have:rest.length=0:=by omega
    rw [List.eq_nil_of_length_eq_zero this];exact ⟨b,rfl⟩
 have hrB:=(bJ b [] hqb).2
 have bG:=rdN_size 101 hqb
 have hm:zX s text=if zP b<=200 then some b else none:=by
  rw [HM.out,hqb];simp
 have HM:=gZ hm
 have hlB:Lim (zP b):=hl.mono (by simp at bG;omega)
 have g1:(k == (text.length:Int))=true:=by rw [beq_iff_eq];exact hk
 clear hm hqb bR bJ bG
 have HK:=gZ hk;clear hk
 have fJ:zD (w.heap.size+1 < ·) (w2.alloc (.cells #[str s',.int .i64 v',.slice a2 n2 c2,.slice a3 n3 c3] 64)) (kF b) [str s',.int .i64 v',.slice a2 n2 c2,.slice a3 n3 c3] :=
  (Rep.keep fun b o h ho=>⟨by have:=ji h;omega,zG ho⟩).2 _ _ hrB
 have hTA:(w2.alloc (.cells #[str s',.int .i64 v',.slice a2 n2 c2,.slice a3 n3 c3] 64)).cell? ⟨w1.heap.size,0,none⟩=some (.slice a1 t.args.length c1):=zV hT2
 have n0:(w2.alloc (.cells #[str s',.int .i64 v',.slice a2 n2 c2,.slice a3 n3 c3] 64)).cell? ⟨w2.heap.size,0,none⟩=some (str s'):=by simp
 have n1:(w2.alloc (.cells #[str s',.int .i64 v',.slice a2 n2 c2,.slice a3 n3 c3] 64)).cell? ⟨w2.heap.size,1,none⟩=some (.int .i64 v'):=by simp
 have n2':(w2.alloc (.cells #[str s',.int .i64 v',.slice a2 n2 c2,.slice a3 n3 c3] 64)).cell? ⟨w2.heap.size,2,none⟩=some (.slice a2 n2 c2):=by simp
 have n3':(w2.alloc (.cells #[str s',.int .i64 v',.slice a2 n2 c2,.slice a3 n3 c3] 64)).cell? ⟨w2.heap.size,3,none⟩=some (.slice a3 n3 c3):=by simp
 have eE:KeepS w1.heap.size w2.heap.size (.slice a1 t.args.length c1) (str s') (.int .i64 v') (.slice a2 n2 c2) (.slice a3 n3 c3) (w2.alloc (.cells #[str s',.int .i64 v',.slice a2 n2 c2,.slice a3 n3 c3] 64)):=⟨hTA,n0,n1,n2',n3'⟩
 have hK3d:KeepS w1.heap.size w2.heap.size (.slice a1 t.args.length c1) (str s') (.int .i64 v') (.slice a2 n2 c2) (.slice a3 n3 c3) (w2.alloc (.cells #[str s',.int .i64 v',.slice a2 n2 c2,.slice a3 n3 c3] 64)).drew:=eE
 have tZ:w1.heap.size≠w.heap.size:=by omega
 have s_:w2.heap.size≠w.heap.size:=by omega
 have cZ:w1.heap.size≠w.heap.size+1:=by omega
 have b_:w2.heap.size≠w.heap.size+1:=by omega
 clear hTA n0 n1 n2' n3'
 go_wp2_with fail
 go_region_held3 (fun w'=>w'.cell? ⟨w1.heap.size,0,none⟩=some (.slice a1 t.args.length c1)/\w'.cell? ⟨w2.heap.size,0,none⟩=some (str s')/\w'.cell? ⟨w2.heap.size,1,none⟩=some (.int .i64 v')/\w'.cell? ⟨w2.heap.size,2,none⟩=some (.slice a2 n2 c2)/\w'.cell? ⟨w2.heap.size,3,none⟩=some (.slice a3 n3 c3))
  (first
   | with_reducible exact eE
   | with_reducible exact hK3d
   | with_reducible exact mQ
   | with_reducible exact mQ.set _ _ _ tZ s_
   | with_reducible exact (mQ.set _ _ _ tZ s_).set _ _ _ cZ b_
   | with_reducible exact ((mQ.set _ _ _ tZ s_).set _ _ _ cZ b_).set _ _ _ cZ b_
   | with_reducible exact (((mQ.set _ _ _ tZ s_).set _ _ _ cZ b_).set _ _ _ cZ b_).set _ _ _ cZ b_
   | with_reducible exact ((((mQ.set _ _ _ tZ s_).set _ _ _ cZ b_).set _ _ _ cZ b_).set _ _ _ cZ b_).set _ _ _ cZ b_
   | with_reducible exact mQ.set _ _ _ cZ b_
   | with_reducible exact (mQ.set _ _ _ cZ b_).set _ _ _ cZ b_
   | with_reducible exact ((mQ.set _ _ _ cZ b_).set _ _ _ cZ b_).set _ _ _ cZ b_
   | with_reducible exact (((mQ.set _ _ _ cZ b_).set _ _ _ cZ b_).set _ _ _ cZ b_).set _ _ _ cZ b_
   | with_reducible exact ((((mQ.set _ _ _ cZ b_).set _ _ _ cZ b_).set _ _ _ cZ b_).set _ _ _ cZ b_).set _ _ _ tZ s_)
  (first
   | (go_at_call 65;refine (l3Size_any (zP b) b (gQ _) hlB (w.heap.size+1 < ·) _ _ _ _ _ _ _ _ _ (by exact fJ.drew)).mono ?_;rintro en w5 ⟨rfl,gR⟩;have mQ:KeepS w1.heap.size w2.heap.size (.slice a1 t.args.length c1) (str s') (.int .i64 v') (.slice a2 n2 c2) (.slice a3 n3 c3) w5:=⟨(gR.cell (by simp;omega)).trans eE.1,(gR.cell (by simp)).trans eE.2.1,(gR.cell (by simp)).trans eE.2.2.1,(gR.cell (by simp)).trans eE.2.2.2.1,(gR.cell (by simp)).trans eE.2.2.2.2⟩;have z5:=gR.size;have nO:w.heap.size<w5.heap.size:=(by simp at z5;omega);have r5:w5.cell? ⟨w.heap.size,0,none⟩=some (.slice none 0 0):=(gR.cell (by simp;omega)).trans (zV r0');have f5:w5.frozen? ⟨w.heap.size,0,none⟩=false:=(gR.frozen (by simp;omega)).trans ((World.frozen?_of_block (w:=w2) (Below.heap_alloc _ _ _ y1)).trans rf0');have hN5:kY (w.heap.size+1) 0 (.slice none 0 0) (.slice none 0 0) w5:=(by unfold kY;rw [gR.block _ (by simp;omega)];exact zG hN');obtain ⟨p0,p1,p2,p3,pl,pf⟩:=hN5.cells;have pf0:=pf 0;have pf1:=pf 1;have pf2:=pf 2;have pf3:=pf 3;clear pf))
 go_wp2_with fail
 have h0:kY (w.heap.size+1) 0 (.slice none 0 0) (.slice none 0 0) (w5.setCell ⟨w.heap.size,0,none⟩ (.slice a1 t.args.length c1)):=by
  unfold kY;rw [gU _ _ _ _ (by simp)];exact hN5
 obtain ⟨W,hW,s0,s1,s2,s3,gG,bW⟩:=h0.store (str s') (.int .i64 v') (.slice a2 n2 c2) (.slice a3 n3 c3)
 have t0:W.cell? ⟨w.heap.size,0,none⟩=some (.slice a1 t.args.length c1):=uQ (qU r5 _) fun x hx=>bW _ x (by simp) hx
 have b9:Below w2.heap.size w2 w5:=((((gV _ _).alloc (gQ _) _).drew).trans (gR.mono (by simp)))
 have tO:=zzT eH b9
 have bz:=gG _ _ (tO.setCell (p:=⟨w.heap.size,0,none⟩) (gQ _) (.slice a1 t.args.length c1)) (by omega)
 have keepF:∀ i o,w.heap.size+1<i->w2.heap[i]? = some o->W.heap[i]? = some o:=fun i o h ho =>
  bW i o (by omega) (by rw [gU _ _ _ _ (by simp;omega),b9.block i (zZ ho)];exact ho)
 have np:Rep (w.heap.size<=·) W (jx t) (.slice a1 t.args.length c1):=(Rep.keep fun b o h ho=>⟨by omega,keepF b o h ho⟩).1 _ _ nj
 have hrN:zD (w.heap.size<=·) W (kF b) [str s',.int .i64 v',.slice a2 n2 c2,.slice a3 n3 c3]:=(Rep.keep fun b o h ho=>⟨by have:=ji h;omega,keepF b o (by have:=ji h;omega) ho⟩).2 _ _ hrB
 rw [<- hW]
 refine bodyPost_ret (v:=.tuple #[.agg #[.slice a1 t.args.length c1],.agg #[str s',.int .i64 v',.slice a2 n2 c2,.slice a3 n3 c3],.bool (decide ((zP b:Int)<=200))]) (by simp [results,Tryz.results31,go_sem,t0,s0,s1,s2,s3]) rfl ?_
 by_cases lL:zP b<=200
 ·refine qW.yes (a:=a1) (c:=c1) (by rw [HT.out]) (by rw [decide_eq_true_eq];omega) (by rw [HM.out,if_pos lL]) bz (by rw [HT.out];exact np) hrN
 ·exact qW.no (a:=a1) (c:=c1) (by rw [HT.out]) (by rw [decide_eq_false_iff_not];omega) (by rw [HM.out,if_neg lL]) bz (by rw [HT.out];exact np)
theorem uK (c:UInt8):dig c=true↔48<=c.toNat/\c.toNat<=57:=by
 simp [dig,UInt8.le_iff_toNat_le]
theorem qT {k:Nat} (h:k<10):(UInt8.ofNat (48+k)).toNat=48+k:=by
 rw [UInt8.toNat_ofNat'];exact Nat.mod_eq_of_lt (by omega)
theorem decDigits_dig (u:Nat):∀ c∈Lib.decDigits u,dig c=true:=by
 induction u using Nat.strongRecOn with
 | _ u ih =>
   intro c hc
   rw [Lib.decDigits] at hc
   split at hc
   ·rename_i h
    rw [List.mem_singleton] at hc;subst hc
    rw [uK,qT h];omega
   ·rename_i h
    rcases List.mem_append.1 hc with hc | hc
    ·exact ih _ (by omega) c hc
    ·simp only [List.mem_singleton] at hc;subst hc
     rw [uK,qT (by omega)];omega
theorem decDigits_val (u:Nat):kg (Lib.decDigits u)=u:=by
 induction u using Nat.strongRecOn with
 | _ u ih =>
   rw [Lib.decDigits]
   split
   ·rename_i h
    show 10*0+((UInt8.ofNat (48+u)).toNat-48)=u
    rw [qT h];omega
   ·rename_i h
    rw [yW,ih _ (by omega),qT (by omega)];omega
theorem xV (u:Nat):Lib.decDigits u≠[]:=by
 intro h
 have:=Lib.decDigits_length u
 have:=Lib.nDigits_pos u
 rw [h] at *;simp at *;omega
theorem pz (u:Nat) (h1:1<=u):(Lib.decDigits u).head?≠some 48:=by
 induction u using Nat.strongRecOn with
 | _ u ih =>
   rw [Lib.decDigits]
   split
   ·rename_i h
    intro e
    rw [List.head?_cons,Option.some.injEq] at e
    have:=qT h
    rw [e] at this
    have d7:(48:UInt8).toNat=48:=rfl
    omega
   ·rename_i h
    rw [List.head?_append]
    have:=ih (u / 10) (by omega) (by omega)
    have gN:=xV (u / 10)
    cases hd:Lib.decDigits (u / 10) with
    | nil=>exact absurd hd gN
    | cons x xs=>rw [hd] at this;simpa using this
theorem wB {u:Nat} (h:u<10000):(Lib.decDigits u).length<=4:=by
 rw [Lib.decDigits_length]
 by_cases h1:u<10
 ·rw [Lib.nDigits_small h1];omega
 rw [Lib.nDigits_big h1]
 by_cases h2:u / 10<10
 ·rw [Lib.nDigits_small h2];omega
 rw [Lib.nDigits_big h2]
 by_cases h3:u / 10 / 10<10
 ·rw [Lib.nDigits_small h3];omega
 rw [Lib.nDigits_big h3]
 rw [Lib.nDigits_small (by omega)];omega
theorem fold_ge (l:Bs):∀ a:Nat,a<=l.foldl (fun n c=>10*n+(c.toNat-48)) a:=by
 induction l with
 | nil=>intro a;simp
 | cons c cs ih=>intro a;simp only [List.foldl_cons];have:=ih (10*a+(c.toNat-48));omega
theorem valOf_pos {l:Bs} (hd:∀ c∈l,dig c=true) (hn:l≠[]) (d7:l.head?≠some 48):1<=kg l:=by
 cases l with
 | nil=>exact absurd rfl hn
 | cons c cs =>
   have h1:=(uK c).1 (hd c (by simp))
   have h2:c.toNat≠48:=fun e=>d7 (by simp;exact UInt8.toNat_inj.1 (by simpa using e))
   have:=fold_ge cs (10*0+(c.toNat-48))
   show 1<=cs.foldl _ (10*0+(c.toNat-48))
   omega
theorem xJ (n:Nat):∀ w:Bs,w.length=n->w≠[]->(∀ c∈w,dig c=true)->(1<w.length->w.head?≠some 48)->Lib.decDigits (kg w)=w:=by
 induction n with
 | zero=>intro w hl hn;exact absurd (List.eq_nil_of_length_eq_zero hl) hn
 | succ n ih =>
   intro w hl hn hd hh
   obtain ⟨ws,c,rfl⟩:∃ ws c,w=ws++[c]:=⟨w.dropLast,w.getLast hn,(List.dropLast_concat_getLast hn).symm⟩
   have hc:=(uK c).1 (hd c (by simp))
   have hof:UInt8.ofNat (48+(c.toNat-48))=c:=by
    apply UInt8.toNat_inj.1;rw [qT (by omega)];omega
   rw [yW]
   by_cases aP:ws=[]
   ·subst aP
    show Lib.decDigits (10*0+(c.toNat-48))=[c]
    rw [Lib.decDigits_one (by omega),show 48+(10*0+(c.toNat-48))=48+(c.toNat-48) from by omega,hof]
   ·have nz:1<=ws.length:=by cases ws with
     | nil=>exact absurd rfl aP
     | cons x xs=>simp
    have d7:ws.head?≠some 48:=by
     have:=hh (by simp;omega)
     rw [List.head?_append] at this
     cases ws with
     | nil=>exact absurd rfl aP
     | cons x xs=>simpa using this
    have hdw:∀ x∈ws,dig x=true:=fun x hx=>hd x (by simp [hx])
    have hp:=valOf_pos hdw aP d7
    have hi:=ih ws (by simpa using hl) aP hdw (fun _=>d7)
    rw [Lib.decDigits,dif_neg (by omega),show (10*kg ws+(c.toNat-48)) / 10=kg ws from by omega,show (10*kg ws+(c.toNat-48)) % 10=c.toNat-48 from by omega,hi,hof]
theorem decFrom_of (l:Bs):∀ a:Nat,(∀ c∈l,dig c=true)->Lib.decFrom a l=some (l.foldl (fun n c=>10*n+(c.toNat-48)) a):=by
 induction l with
 | nil=>intro a _;rfl
 | cons c cs ih =>
   intro a hd
   have hc:=(uK c).1 (hd c (by simp))
   simp only [Lib.decFrom,Lib.digitVal,if_pos hc,List.foldl_cons]
   rw [Nat.mul_comm a 10]
   exact ih _ fun x hx=>hd x (by simp [hx])
theorem lvl_spec {w:Bs} {n v:Nat} (h:lvl w n=some v) (hn:n<=10000):w≠[]/\w.length<=4/\(∀ c∈w,dig c=true)/\(1<w.length->w.head?≠some 48)/\kg w=v/\v<n:=by
 obtain ⟨h1,_,h3⟩:=lvl_lt h
 have e:Lib.itoa (v:Int)=Lib.decDigits v:=by unfold Lib.itoa;rw [if_neg (by omega)];simp
 rw [e] at h3
 subst h3
 refine ⟨xV v,wB (by omega),decDigits_dig v,fun hl=>?_,decDigits_val v,h1⟩
 refine pz v ?_
 rcases Nat.eq_zero_or_pos v with h0 | h0
 ·subst h0;rw [Lib.decDigits_one (by omega)] at hl;simp at hl
 ·exact h0
theorem spec_lvl {w:Bs} {n:Nat} (h1:w≠[]) (h2:w.length<=4) (h3:∀ c∈w,dig c=true) (h4:1<w.length->w.head?≠some 48) (h5:kg w<n):lvl w n=some (kg w):=by
 have ha:Lib.atoiAll w=.ok (kg w:Int):=by
  rw [Lib.atoiAll_short w (by omega)]
  cases w with
  | nil=>exact absurd rfl h1
  | cons c cs =>
    have hc:=(uK c).1 (h3 c (by simp))
    have n45:(c == 45)=false:=by rw [beq_eq_false_iff_ne];rintro rfl;have:(45:UInt8).toNat=45:=rfl;omega
    have n43:(c == 43)=false:=by rw [beq_eq_false_iff_ne];rintro rfl;have:(43:UInt8).toNat=43:=rfl;omega
    simp only [Lib.atoi,n45,n43,Bool.false_eq_true,if_false,Lib.decNat,List.isEmpty_cons]
    rw [decFrom_of _ 0 h3];rfl
 have hi:Lib.itoa (kg w:Int)=w:=by
  have e:Lib.itoa (kg w:Int)=Lib.decDigits (kg w):=by unfold Lib.itoa;rw [if_neg (by omega)];simp
  rw [e,xJ w.length w rfl h1 h3 h4]
 unfold lvl
 rw [ha]
 simp only
 rw [if_pos ⟨hi,by omega,by omega⟩];simp
def qb (l:Bs):Prop:=l=[]\/∃ c r,l=c::r/\sep c=true
theorem dig_sep {c:UInt8} (h:dig c=true):sep c=false:=by
 have:=(uK c).1 h
 rw [Bool.eq_false_iff];intro hs
 simp only [sep,Bool.or_eq_true,beq_iff_eq] at hs
 rcases hs with (rfl | rfl) | rfl
 ·have:(32:UInt8).toNat=32:=rfl;omega
 ·have:(40:UInt8).toNat=40:=rfl;omega
 ·have:(41:UInt8).toNat=41:=rfl;omega
theorem wS (l:Bs):l=zE l++zC l:=(List.takeWhile_append_dropWhile).symm
theorem wordDrop (l:Bs):l.drop (zE l).length=zC l:=by
 have h:=wS l
 generalize zE l=a at *
 generalize zC l=b at *
 subst h;simp
theorem wA (l:Bs):qb (zC l):=by
 unfold zC
 induction l with
 | nil=>exact .inl rfl
 | cons c cs ih =>
   rw [List.dropWhile_cons]
   split
   ·exact ih
   ·rename_i h;exact .inr ⟨c,cs,rfl,by simpa using h⟩
theorem word_of {w rest:Bs} (hw:∀ c∈w,sep c=false) (hr:qb rest):zE (w++rest)=w/\zC (w++rest)=rest:=by
 unfold zE zC
 induction w with
 | nil =>
   rcases hr with rfl | ⟨c,r,rfl,hc⟩
   ·exact ⟨rfl,rfl⟩
   ·simp [hc]
 | cons x xs ih =>
   have hx:=hw x (by simp)
   have:=ih fun c hc=>hw c (by simp [hc])
   simp [hx,this.1,this.2]
theorem digsOf_of {w rest:Bs} (hw:∀ c∈w,dig c=true) (hl:w.length<=4) (hr:qb rest):za (w++rest)=w:=by
 unfold za
 rw [List.take_append,List.take_of_length_le hl]
 have key:(rest.take (4-w.length)).takeWhile dig=[]:=by
  rcases hr with rfl | ⟨c,r,rfl,hc⟩
  ·simp
  ·cases 4-w.length with
   | zero=>rfl
   | succ k =>
     rw [List.take_succ_cons,List.takeWhile_cons,if_neg]
     intro h;rw [dig_sep h] at hc;simp at hc
 rw [List.takeWhile_append_of_pos (fun c hc=>hw c hc),key,List.append_nil]
theorem cut_is {c:UInt8} {r:Bs}:cut [c] (c::r)=some r:=by simp [cut,List.isPrefixOf]
theorem xN (rd:RdS) (hs gs:List (List Ty)):∀ {l:Bs} {bs:List Bd} {l1:Bs} {cs:List Bd} {l2:Bs},zJ rd hs l=some (bs,l1)->zJ rd gs l1=some (cs,l2)->zJ rd (hs++gs) l=some (bs++cs,l2):=by
 induction hs with
 | nil=>intro l bs l1 cs l2 h k;simp [zJ] at h;obtain ⟨rfl,rfl⟩:=h;simpa using k
 | cons h' hs ih =>
   intro l bs l1 cs l2 h k
   simp only [zJ,Option.bind_eq_bind,Option.bind_eq_some_iff,Prod.exists] at h
   obtain ⟨b,m,h1,bs',m',h2,h3⟩:=h
   simp at h3;obtain ⟨rfl,rfl⟩:=h3
   simp only [List.cons_append,zJ,Option.bind_eq_bind,h1,Option.bind_some,ih h2 k]
def RdFits (rd:Rd) (rs:RdS) (h:List Ty):Prop:=∀ (left:Nat) (l:Bs) (b:Bd) (r:Bs) (f:Nat),rd h left l=some (b,r,f)->rs h l=some (b,r)/\f+zP b=left/\l.length+1<=r.length+7*zP b
theorem parts_fit {rd:Rd} {rs:RdS} (hs:List (List Ty)) (hf:∀ h∈hs,RdFits rd rs h):∀ {left:Nat} {l:Bs} {bs:List Bd} {r:Bs} {f:Nat},zv rd hs left l=some (bs,r,f)->zJ rs hs l=some (bs,r)/\f+zW bs=left/\l.length<=r.length+7*zW bs:=by
 induction hs with
 | nil=>intro left l bs r f h;simp [zv] at h;obtain ⟨rfl,rfl,rfl⟩:=h;simp [zJ,zW]
 | cons h' hs ih =>
   intro left l bs r f h
   simp only [zv,Option.bind_eq_bind,Option.bind_eq_some_iff,Prod.exists] at h
   obtain ⟨l1,h1,b,l2,f2,h2,bs',l3,f3,h3,h4⟩:=h
   simp at h4;obtain ⟨rfl,rfl,rfl⟩:=h4
   obtain ⟨a1,a2,a3⟩:=hf h' (by simp) _ _ _ _ _ h2
   obtain ⟨b1,b2,b3⟩:=ih (fun x hx=>hf x (by simp [hx])) h3
   have hc:=qA h1
   refine ⟨?_,by simp [zW];omega,by subst hc;simp [zW];omega⟩
   simp only [zJ,z8,h1,Option.bind_eq_bind,Option.bind_some,a1,b1]
theorem wL {l:Bs} {c:UInt8} (h:zE l=[c]):l=c::zC l:=by
 have:=wS l
 rw [h] at this;simpa using this
theorem specNum_of {w rest:Bs} (h1:w≠[]) (h2:w.length<=4) (h3:∀ c∈w,dig c=true) (h4:1<w.length->w.head?≠some 48) (hr:qb rest):ki (w++rest)=some (kg w,w.length):=by
 unfold ki
 rw [digsOf_of h3 h2 hr,if_neg]
 rintro (h | ⟨h,h'⟩)
 ·exact h1 h
 ·apply h4 h
  cases w with
  | nil=>exact absurd rfl h1
  | cons x xs=>simpa using h'
theorem rdB_fits (d:Nat):∀ levels,kj d levels->RdFits (rdB d) (rdN (d+1)) levels:=by
 induction d with
 | zero =>
   intro levels hh left l b r f h
   rcases left with _ | left
   ·simp [rdB] at h
   rcases zg [40] l with h1 | ⟨r1,h1⟩
   ·rw [yx 0 levels left h1.out] at h
    have key:∀ c:UInt8,(c=116\/c=102\/c=117)->zE l=[c]->rdN 1 levels l=some (.leaf c,zC l)/\left+zP (.leaf c)=left+1/\l.length+1<=(zC l).length+7*zP (.leaf c):=by
     intro c hc hw
     have e:=wL hw
     refine ⟨?_,rfl,?_⟩
     ·conv=>lhs;rw [e]
      simp only [rdN,if_pos hc]
     ·have:=congrArg List.length e;simp at this;simp [zP];omega
    split at h
    ·rename_i hw;simp at h;obtain ⟨rfl,rfl,rfl⟩:=h;exact key _ (by decide) hw
    ·split at h
     ·rename_i hw;simp at h;obtain ⟨rfl,rfl,rfl⟩:=h;exact key _ (by decide) hw
     ·split at h
      ·rename_i hw;simp at h;obtain ⟨rfl,rfl,rfl⟩:=h;exact key _ (by decide) hw
      ·simp at h
   ·rw [yw 0 levels left h1.out] at h
    cases hv:lvl (zE r1) levels.length with
    | none=>rw [hv] at h;simp at h
    | some v=>rw [hv] at h;simp at h
 | succ d ih =>
   intro levels hh left l b r f h
   rcases left with _ | left
   ·simp [rdB] at h
   rcases zg [40] l with h1 | ⟨r1,h1⟩
   ·rw [yx (d+1) levels left h1.out] at h
    have key:∀ c:UInt8,(c=116\/c=102\/c=117)->zE l=[c]->rdN (d+1+1) levels l=some (.leaf c,zC l)/\left+zP (.leaf c)=left+1/\l.length+1<=(zC l).length+7*zP (.leaf c):=by
     intro c hc hw
     have e:=wL hw
     refine ⟨?_,rfl,?_⟩
     ·conv=>lhs;rw [e]
      simp only [rdN,if_pos hc]
     ·have:=congrArg List.length e;simp at this;simp [zP];omega
    split at h
    ·rename_i hw;simp at h;obtain ⟨rfl,rfl,rfl⟩:=h;exact key _ (by decide) hw
    ·split at h
     ·rename_i hw;simp at h;obtain ⟨rfl,rfl,rfl⟩:=h;exact key _ (by decide) hw
     ·split at h
      ·rename_i hw;simp at h;obtain ⟨rfl,rfl,rfl⟩:=h;exact key _ (by decide) hw
      ·simp at h
   ·rw [yw (d+1) levels left h1.out] at h
    cases hv:lvl (zE r1) levels.length with
    | none=>rw [hv] at h;simp at h
    | some v =>
      rw [hv] at h
      simp only at h
      cases ht:levels[v]? with
      | none=>rw [ht] at h;simp at h
      | some t =>
        rw [ht] at h
        simp only [wn,Option.bind_eq_bind,Option.bind_eq_some_iff,Prod.exists] at h
        obtain ⟨ss,l1,f1,h2,yn,l2,f2,h3,h4⟩:=h
        have hl:levels.length<=10000:=by have:=hh.2;omega
        obtain ⟨w1,w2,w3,w4,w5,w6⟩:=lvl_spec hv hl
        split at h4
        ·rename_i y n
         simp only [Option.bind_eq_some_iff] at h4
         obtain ⟨l3,h5,h6⟩:=h4
         simp at h6;obtain ⟨rfl,rfl,rfl⟩:=h6
         have k1:=parts_fit (rs:=rdN (d+1)) (t.args.map fun a=>levels++a.args) (fun x hx=>by
          obtain ⟨a,ha,rfl⟩:=List.mem_map.1 hx
          exact ih _ (hh.next ht ha)) h2
         have bT:kj d levels:=by have:=hh.same;rwa [List.append_nil] at this
         have k2:=parts_fit (rs:=rdN (d+1)) [levels,levels] (fun x hx=>by
          have:x=levels:=by simpa using hx
          subst this;exact ih _ bT) h3
         have tC:=(vr (wl d) _ h2).2.2
         rw [List.length_map] at tC
         have hc:=qA h5
         have dT:=qA h1.out
         have hw:=wS r1
         have al:=specNum_of (rest:=zC r1) w1 w2 w3 w4 (wA r1)
         rw [<- hw,w5] at al
         have hH:zJ (rdN (d+1)) (kC levels t) (zC r1)=some (ss++[y,n],l2):=xN _ _ _ k1.1 k2.1
         refine ⟨?_,?_,?_⟩
         ·conv=>lhs;rw [dT]
          rw [rdN]
          rw [if_neg (by decide),if_neg (by decide),al]
          simp only [ht]
          rw [wordDrop]
          simp only [hH,Option.bind_eq_bind,Option.bind_some,h5,uG]
          rw [List.drop_left' tC,List.take_left' tC];rfl
         ·have a1:=k1.2.1;have a2:=k2.2.1
          simp [zP,zW] at a1 a2 ⊢;omega
         ·have a1:=k1.2.2;have a2:=k2.2.2
          have nz:=congrArg List.length hw
          have mD:=congrArg List.length hc
          have hc1l:=congrArg List.length dT
          simp [zP,zW] at a1 a2 nz mD hc1l ⊢;omega
        ·simp at h4
theorem jj {rs:RdS} {hs:List (List Ty)} {l:Bs} {ps:List Bd} {r:Bs} (h:zJ rs hs l=some (ps,r)) (hr:qb r):qb l:=by
 cases hs with
 | nil=>simp [zJ] at h;obtain ⟨_,rfl⟩:=h;exact hr
 | cons h' hs =>
   simp only [zJ,z8,Option.bind_eq_bind,Option.bind_eq_some_iff,Prod.exists] at h
   obtain ⟨_,_,⟨l1,h1,_⟩,_⟩:=h
   have:=qA h1
   exact .inr ⟨32,l1,this,rfl⟩
def RdBack (rd:Rd) (rs:RdS) (h:List Ty):Prop:=∀ (left:Nat) (l:Bs) (b:Bd) (r:Bs),rs h l=some (b,r)->qb r->zP b<=left->rd h left l=some (b,r,left-zP b)
theorem pV {rd:Rd} {rs:RdS} (hs:List (List Ty)) (hf:∀ h∈hs,RdBack rd rs h):∀ (left:Nat) (l:Bs) (ps:List Bd) (r:Bs),zJ rs hs l=some (ps,r)->qb r->zW ps<=left->zv rd hs left l=some (ps,r,left-zW ps):=by
 induction hs with
 | nil=>intro left l ps r h _ _;simp [zJ] at h;obtain ⟨rfl,rfl⟩:=h;simp [zv,zW]
 | cons h' hs ih =>
   intro left l ps r h hr bG
   simp only [zJ,z8,Option.bind_eq_bind,Option.bind_eq_some_iff,Prod.exists] at h
   obtain ⟨b,l2,⟨l1,h1,h2⟩,bs,l3,h3,h4⟩:=h
   simp at h4;obtain ⟨rfl,rfl⟩:=h4
   simp [zW] at bG
   have hb:=hf h' (by simp) left l1 b l2 h2 (jj h3 hr) (by omega)
   have hbs:=ih (fun x hx=>hf x (by simp [hx])) (left-zP b) l2 bs l3 h3 hr (by omega)
   simp only [zv,h1,Option.bind_eq_bind,Option.bind_some,hb,hbs]
   simp [zW];omega
theorem wP (rs:RdS) (hs gs:List (List Ty)):∀ {l:Bs} {ps:List Bd} {r:Bs},zJ rs (hs++gs) l=some (ps,r)->∃ bs l1 cs,ps=bs++cs/\zJ rs hs l=some (bs,l1)/\zJ rs gs l1=some (cs,r):=by
 induction hs with
 | nil=>intro l ps r h;exact ⟨[],l,ps,rfl,rfl,h⟩
 | cons h' hs ih =>
   intro l ps r h
   simp only [List.cons_append,zJ,Option.bind_eq_bind,Option.bind_eq_some_iff,Prod.exists] at h
   obtain ⟨b,m,h1,bs',m',h2,h3⟩:=h
   simp at h3;obtain ⟨rfl,rfl⟩:=h3
   obtain ⟨bs,l1,cs,rfl,a1,a2⟩:=ih h2
   refine ⟨b::bs,l1,cs,rfl,?_,a2⟩
   simp only [zJ,Option.bind_eq_bind,h1,Option.bind_some,a1]
theorem yz {m:Bs} {v k:Nat} (h:ki m=some (v,k)):za m≠[]/\v=kg (za m)/\k=(za m).length/\(1<(za m).length->(za m).head?≠some 48):=by
 unfold ki at h
 split at h
 ·simp at h
 ·rename_i hc
  simp at h
  refine ⟨fun e=>hc (.inl e),h.1.symm,h.2.symm,fun h1 h2=>hc (.inr ⟨h1,?_⟩)⟩
  have hp:=jM m
  obtain ⟨x,hx⟩:=hp
  cases hd:za m with
  | nil=>rw [hd] at h1;simp at h1
  | cons y ys=>rw [hd] at hx h2;rw [<- hx];simpa using h2
theorem rdN_back (d:Nat):∀ levels,kj d levels->RdBack (rdB d) (rdN (d+1)) levels:=by
 induction d with
 | zero =>
   intro levels hh left l b r h hr bG
   obtain ⟨left,rfl⟩:∃ x,left=x+1:=⟨left-1,by have:=kX b;omega⟩
   cases l with
   | nil=>simp [rdN] at h
   | cons c m =>
     simp only [rdN] at h
     split at h
     ·rename_i hc
      simp at h;obtain ⟨rfl,rfl⟩:=h
      have hE:cut [40] (c::m)=none:=by
       rcases hc with rfl | rfl | rfl <;> simp [cut,List.isPrefixOf]
      have hw:=word_of (w:=[c]) (rest:=m) (fun x hx=>by
       have:x=c:=by simpa using hx
       subst this;rcases hc with rfl | rfl | rfl <;> decide) hr
      rw [List.singleton_append] at hw
      rw [yx 0 levels left hE,hw.1,hw.2]
      rcases hc with rfl | rfl | rfl <;> simp [zP]
     ·split at h
      ·simp at h
      ·split at h
       ·simp at h
       ·split at h
        ·simp at h
        ·exfalso
         simp only [Option.bind_eq_bind,Option.bind_eq_some_iff,Prod.exists] at h
         obtain ⟨ps,l1,h1,_⟩:=h
         rename_i t _ _
         cases ha:kC levels t with
         | nil=>have:=jg levels t;rw [ha] at this;simp at this
         | cons x xs=>rw [ha] at h1;simp [zJ,z8] at h1
 | succ d ih =>
   intro levels hh left l b r h hr bG
   obtain ⟨left,rfl⟩:∃ x,left=x+1:=⟨left-1,by have:=kX b;omega⟩
   cases l with
   | nil=>simp [rdN] at h
   | cons c m =>
     rw [rdN] at h
     simp only at h
     split at h
     ·rename_i hc
      simp at h;obtain ⟨rfl,rfl⟩:=h
      have hE:cut [40] (c::m)=none:=by
       rcases hc with rfl | rfl | rfl <;> simp [cut,List.isPrefixOf]
      have hw:=word_of (w:=[c]) (rest:=m) (fun x hx=>by
       have:x=c:=by simpa using hx
       subst this;rcases hc with rfl | rfl | rfl <;> decide) hr
      rw [List.singleton_append] at hw
      rw [yx (d+1) levels left hE,hw.1,hw.2]
      rcases hc with rfl | rfl | rfl <;> simp [zP]
     ·split at h
      ·simp at h
      ·rename_i hE
       have hE:c=40:=by simpa using hE
       subst hE
       cases hn:ki m with
       | none=>rw [hn] at h;simp at h
       | some x =>
         obtain ⟨v,k⟩:=x
         rw [hn] at h
         simp only at h
         cases ht:levels[v]? with
         | none=>rw [ht] at h;simp at h
         | some t =>
           rw [ht] at h
           simp only [Option.bind_eq_bind,Option.bind_eq_some_iff,Prod.exists] at h
           obtain ⟨ps,l2,h1,l3,h2,b',h3,h4⟩:=h
           simp at h4;obtain ⟨rfl,rfl⟩:=h4
           have hc:=qA h2
           have ru:qb l2:=.inr ⟨41,l3,hc,rfl⟩
           have dp:=jj h1 ru
           obtain ⟨n1,n2,n3,n4⟩:=yz hn
           obtain ⟨bs,l1,cs,e1,p1,p2⟩:=wP _ _ _ h1
           have c_:=vI _ p1
           have mD:=vI _ p2
           have eL:=pm h3
           have hw0:m=za m++m.drop k:=by
            obtain ⟨x,hx⟩:=jM m
            have gen:∀ (a b c:Bs),a++b=c->c.drop a.length=b:=by rintro a b c rfl;simp
            rw [n3,gen _ _ _ hx,hx]
           have hw:=word_of (w:=za m) (rest:=m.drop k) (fun x hx=>dig_sep (jH m x hx)) dp
           rw [<- hw0] at hw
           have eN:v<levels.length:=(List.getElem?_eq_some_iff.1 ht).1
           have gj:=spec_lvl (n:=levels.length) n1 (ur m).1 (jH m) n4 (by rw [<- n2];exact eN)
           rw [<- n2] at gj
           have hsl1:qb l1:=jj p2 ru
           have hszs:zW ps=zW bs+zW cs:=by rw [e1,kQ]
           have bT:kj d levels:=by have:=hh.same;rwa [List.append_nil] at this
           have k1:=pV (rd:=rdB d) (t.args.map fun a=>levels++a.args) (fun x hx=>by
            obtain ⟨a,ha,rfl⟩:=List.mem_map.1 hx
            exact ih _ (hh.next ht ha)) left (m.drop k) bs l1 p1 hsl1 (by omega)
           have k2:=pV (rd:=rdB d) [levels,levels] (fun x hx=>by
            have:x=levels:=by simpa using hx
            subst this;exact ih _ bT) (left-zW bs) l1 cs l2 p2 ru (by omega)
           have i5:bs.length=t.args.length:=by simpa [kP] using c_
           obtain ⟨y,n,rfl⟩:∃ y n,cs=[y,n]:=by
            match cs,mD with
            | [a,b],_=>exact ⟨a,b,rfl⟩
           have hb:b'=.ask v bs y n:=by
            rw [e1] at h3
            unfold uG at h3
            rw [List.drop_left' i5,List.take_left' i5] at h3
            simpa using h3.symm
           subst hb
           rw [yw (d+1) levels left (l:=40::m) cut_is,hw.1,gj]
           simp only [ht]
           rw [hw.2]
           simp only [wn,k1,k2,Option.bind_eq_bind,Option.bind_some,h2]
           simp [zP,zW] at *;omega
theorem rdStrat_eq (t:Ty) (ht:zY t<=15) (l:Bs):qn t l=(if 2000<l.length then none else match rdN 101 t.args l with
 | none=>none
 | some (b,rest)=>if rest=[]/\zP b<=200 then some b else none):=by
 have hh:=handOk_of ht
 cases hq:qn t l with
 | some b =>
   have h1:∃ f,rdB 100 t.args 200 l=some (b,[],f):=by
    unfold qn at hq
    split at hq
    ·rename_i b' f he
     simp at hq;subst hq;exact ⟨f,he⟩
    ·simp at hq
   obtain ⟨f,h1⟩:=h1
   obtain ⟨a1,a2,a3⟩:=rdB_fits 100 t.args hh _ _ _ _ _ h1
   have:¬ 2000<l.length:=by simp at a3;omega
   rw [if_neg this,a1]
   simp only
   rw [if_pos ⟨by trivial,by omega⟩]
 | none =>
   symm
   split
   ·rfl
   ·cases hn:rdN 101 t.args l with
    | none=>rfl
    | some x =>
      obtain ⟨b,rest⟩:=x
      simp only
      split
      ·rename_i hc
       obtain ⟨rfl,hc⟩:=hc
       have:=rdN_back 100 t.args hh 200 l b [] hn (.inl rfl) hc
       unfold qn at hq
       rw [this] at hq;simp at hq
      ·rfl
theorem vm (s l:Bs):uD s l=(zX s l).map fun b=>((zQ s).1,b):=by
 unfold uD zX
 rw [uS]
 cases gy:(zQ s).2 with
 | false=>simp
 | true =>
   have gA:=jT gy
   simp only [if_true,Option.bind_eq_bind,Option.bind_some]
   rw [rdStrat_eq _ gA]
   by_cases h2:2000<l.length
   ·simp [h2]
   ·simp only [h2,if_false,Bool.true_eq_false,false_or]
    cases rdN 101 (zQ s).1.args l with
    | none=>rfl
    | some x =>
      obtain ⟨b,rest⟩:=x
      simp only
      split <;> rfl
theorem jl {s text:Bs} {b:Bd} (hq:zX s text=some b):zP b<=200:=by
 unfold zX at hq
 split at hq
 ·simp at hq
 ·split at hq
  ·simp at hq
  ·split at hq
   ·rename_i h;simp at hq;subst hq;exact h.2
   ·simp at hq
theorem rdTS_size {s text:Bs} {t:Ty} {b:Bd} (hq:uD s text=some (t,b)):zP b<=200:=by
 rw [vm,Option.map_eq_some_iff] at hq
 obtain ⟨b',h,e⟩:=hq
 simp at e;rw [<- e.2];exact jl h
mutual
def zm:List Ty->Bd->Prop
 | _,.leaf _=>True
 | hand,.ask v ss y n=>∃ t,hand[v]? = some t/\z_ (kP hand t.args) ss/\zm hand y/\zm hand n
def z_:List (List Ty)->List Bd->Prop
 | hs,[]=>hs=[]
 | hs,b::bs=>∃ h cz,hs=h::cz/\zm h b/\z_ cz bs
end
mutual
def zk:Bd->Bd->Bool
 | .leaf c,.leaf d=>c == 117 || c == d
 | .leaf c,.ask _ _ _ _=>c == 117
 | .ask _ _ _ _,.leaf _=>false
 | .ask v ss y n,.ask v' ss' y' n'=>v == v' && (zt ss ss' && (zk y y' && zk n n'))
def zt:List Bd->List Bd->Bool
 | a::xs,b::bs=>zk a b && zt xs bs
 | [],_=>true
 | _::_,[]=>false
end
theorem js (levels ts:List Ty):(kP levels ts).length=ts.length:=by simp [kP]
theorem uZ:∀ (xs:List Bd) (bs:List Bd) (hs ks:List (List Ty)),z_ hs xs->z_ ks bs->z_ (hs++ks) (xs++bs)
 | [],bs,hs,ks,h1,h2=>by rw [z_] at h1;subst h1;simpa using h2
 | a::xs,bs,hs,ks,h1,h2=>by
   rw [z_] at h1
   obtain ⟨h,cz,rfl,e1,e2⟩:=h1
   exact ⟨h,cz++ks,rfl,e1,uZ xs bs cz ks e2 h2⟩
theorem qq:∀ (xs:List Bd) (hs:List (List Ty)),z_ hs xs->hs.length=xs.length
 | [],hs,h=>by rw [z_] at h;simp [h]
 | a::xs,hs,h=>by
   rw [z_] at h
   obtain ⟨h',cz,rfl,e1,e2⟩:=h
   simp [qq xs cz e2]
theorem qa:∀ (xs:List Bd) (hs:List (List Ty)),z_ hs xs->∀ (k:Nat) (a:Bd),xs[k]? = some a->∃ h,hs[k]? = some h/\zm h a
 | [],hs,h,k,a,ha=>by simp at ha
 | a::xs,hs,h,k,a',ha=>by
   rw [z_] at h
   obtain ⟨h',cz,rfl,e1,e2⟩:=h
   cases k with
   | zero=>simp at ha;subst ha;exact ⟨h',rfl,e1⟩
   | succ k=>simp at ha;simpa using qa xs cz e2 k a' ha
theorem v_ (h k:List Ty) (y n:Bd):z_ [h,k] [y,n]↔zm h y/\zm k n:=by
 constructor
 ·intro hf
  rw [z_] at hf
  obtain ⟨a,as',e,h1,h2⟩:=hf
  simp only [List.cons.injEq] at e
  obtain ⟨rfl,rfl⟩:=e
  rw [z_] at h2
  obtain ⟨a,as',e,h3,h4⟩:=h2
  simp only [List.cons.injEq] at e
  obtain ⟨rfl,rfl⟩:=e
  exact ⟨h1,h3⟩
 ·rintro ⟨h1,h2⟩
  exact ⟨h,[k],rfl,h1,k,[],rfl,h2,by rw [z_]⟩
theorem vq {hand:List Ty} {v:Nat} {ss:List Bd} {y n:Bd} (h:zm hand (.ask v ss y n)):∃ t,hand[v]? = some t/\z_ (kC hand t) (zj (.ask v ss y n))/\ss.length=t.args.length:=by
 rw [zm] at h
 obtain ⟨t,h1,h2,h3,h4⟩:=h
 refine ⟨t,h1,uZ _ _ _ _ h2 ((v_ _ _ _ _).2 ⟨h3,h4⟩),?_⟩
 have:=qq _ _ h2
 rw [js] at this;exact this.symm
theorem x_:∀ (hs:List (List Ty)) (ks:List (List Ty)) (ps:List Bd),z_ (hs++ks) ps->z_ hs (ps.take hs.length)/\z_ ks (ps.drop hs.length)
 | [],ks,ps,h=>by
   constructor
   ·simp [z_]
   ·simpa using h
 | x::hs,ks,[],h=>by simp [z_] at h
 | x::hs,ks,p::ps,h=>by
   simp only [List.cons_append] at h
   rw [z_] at h
   obtain ⟨h',cz,e,e1,e2⟩:=h
   simp only [List.cons.injEq] at e
   obtain ⟨rfl,rfl⟩:=e
   have:=x_ hs ks ps e2
   simp only [List.length_cons,List.take_succ_cons,List.drop_succ_cons]
   exact ⟨⟨x,hs,rfl,e1,this.1⟩,this.2⟩
theorem specParts_fit {rd:RdS} (cJ:∀ {h l b r},rd h l=some (b,r)->zm h b) (hs:List (List Ty)):∀ {l r:Bs} {ps:List Bd},zJ rd hs l=some (ps,r)->z_ hs ps:=by
 induction hs with
 | nil=>intro l r ps h;simp [zJ] at h;obtain ⟨rfl,rfl⟩:=h;simp [z_]
 | cons h' hs ih =>
   intro l r ps h
   simp only [zJ,Option.bind_eq_bind,Option.bind_eq_some_iff,Prod.exists] at h
   obtain ⟨b,l1,h1,bs,l2,h2,h3⟩:=h
   simp at h3;obtain ⟨rfl,rfl⟩:=h3
   unfold z8 at h1
   simp only [Option.bind_eq_bind,Option.bind_eq_some_iff] at h1
   obtain ⟨l3,_,h4⟩:=h1
   exact ⟨h',hs,rfl,cJ h4,ih h2⟩
theorem rdN_fit (e:Nat):∀ {h:List Ty} {l:Bs} {b:Bd} {r:Bs},rdN e h l=some (b,r)->zm h b:=by
 induction e with
 | zero=>intro h l b r hq;simp [rdN] at hq
 | succ e ih =>
   intro h l b r hq
   cases l with
   | nil=>simp [rdN] at hq
   | cons c m =>
     simp only [rdN] at hq
     split at hq
     ·simp at hq;obtain ⟨rfl,rfl⟩:=hq;simp [zm]
     ·split at hq
      ·simp at hq
      ·split at hq
       ·simp at hq
       ·rename_i v k hsn
        split at hq
        ·simp at hq
        ·rename_i t ht
         simp only [Option.bind_eq_bind,Option.bind_eq_some_iff,Prod.exists] at hq
         obtain ⟨ps,l1,h1,l2,h2,b',h3,h4⟩:=hq
         simp at h4;obtain ⟨rfl,rfl⟩:=h4
         have k1:=specParts_fit ih _ h1
         have k2:=x_ _ _ _ k1
         rw [js] at k2
         unfold uG at h3
         split at h3
         ·rename_i y no hd
          simp at h3;subst h3
          rw [hd,v_] at k2
          rw [zm]
          exact ⟨t,ht,k2.1,k2.2.1,k2.2.2⟩
         ·simp at h3
theorem vD {s text:Bs} {b:Bd} (hq:zX s text=some b):zm (zQ s).1.args b:=by
 unfold zX at hq
 split at hq
 ·simp at hq
 ·split at hq
  ·simp at hq
  ·rename_i b' rest h
   split at hq
   ·simp at hq;subst hq;exact rdN_fit _ h
   ·simp at hq
theorem j7:∀ (xs bs cs ds:List Bd),xs.length=bs.length->zt (xs++cs) (bs++ds)=(zt xs bs && zt cs ds)
 | [],[],cs,ds,_=>by simp [zt]
 | a::xs,b::bs,cs,ds,h=>by
   simp only [List.cons_append,zt]
   rw [j7 xs bs cs ds (by simpa using h),Bool.and_assoc]
theorem uY:∀ (xs bs:List Bd),xs.length=bs.length->(zt xs bs=true↔∀ (k:Nat) (a b:Bd),xs[k]? = some a->bs[k]? = some b->zk a b=true)
 | [],[],_=>by simp [zt]
 | a::xs,b::bs,h=>by
   simp only [zt,Bool.and_eq_true]
   rw [uY xs bs (by simpa using h)]
   constructor
   ·rintro ⟨h1,h2⟩ k a' b' ha hb
    cases k with
    | zero=>simp at ha hb;subst ha;subst hb;exact h1
    | succ k=>simp at ha hb;exact h2 k a' b' ha hb
   ·intro h
    exact ⟨h 0 a b rfl rfl,fun k a' b' ha hb=>h (k+1) a' b' (by simpa using ha) (by simpa using hb)⟩
def qx (xs bs:List Bd) (k:Nat):Prop:=∀ (j:Nat) (a b:Bd),j<k->xs[j]? = some a->bs[j]? = some b->zk a b=true
theorem qx.zero (xs bs:List Bd):qx xs bs 0:=fun j a b h=>by omega
theorem qx.next {xs bs:List Bd} {k:Nat} (h:qx xs bs k) {a b:Bd} (ha:xs[k]? = some a) (hb:bs[k]? = some b) (hab:zk a b=true):qx xs bs (k+1):=by
 intro j a' b' hj h1 h2
 rcases Nat.lt_or_ge j k with h' | h'
 ·exact h j a' b' h' h1 h2
 ·obtain rfl:j=k:=by omega
  rw [ha] at h1;rw [hb] at h2;simp at h1 h2;subst h1;subst h2;exact hab
theorem qx.all {xs bs:List Bd} (hl:xs.length=bs.length) (h:qx xs bs xs.length):zt xs bs=true :=
 (uY xs bs hl).2 fun k a b ha hb=>h k a b (List.getElem?_eq_some_iff.1 ha).1 ha hb
theorem px {xs bs:List Bd} (hl:xs.length=bs.length) {k:Nat} {a b:Bd} (ha:xs[k]? = some a) (hb:bs[k]? = some b) (hab:zk a b=false):zt xs bs=false:=by
 cases hc:zt xs bs with
 | false=>rfl
 | true=>rw [(uY xs bs hl).1 hc k a b ha hb] at hab;simp at hab
def kf:Bd->Nat
 | .leaf _=>0
 | .ask v _ _ _=>v
def pM:Bd->Bool
 | .leaf _=>false
 | .ask _ _ _ _=>true
theorem fit_lengths {hand:List Ty} {b c:Bd} (hb:zm hand b) (hc:zm hand c) (ha:zH b=zH c) (hv:kf b=kf c) :
 ∃ hs,z_ hs (zj b)/\z_ hs (zj c):=by
 cases b with
 | leaf x=>cases c with
   | leaf y=>exact ⟨[],by simp [zj,z_],by simp [zj,z_]⟩
   | ask v ss y n=>simp [zH] at ha
 | ask v ss y n=>cases c with
   | leaf y=>simp [zH] at ha
   | ask v' ss' y' n' =>
     obtain ⟨t,h1,h2,_⟩:=vq hb
     obtain ⟨t',h3,h4,_⟩:=vq hc
     simp only [kf] at hv;subst hv
     rw [h1] at h3;simp at h3;subst h3
     exact ⟨_,h2,h4⟩
theorem pI {hand:List Ty} {b c:Bd} (hb:zm hand b) (hc:zm hand c) (ha:zH b=zH c) (hv:kf b=kf c) :
 (zL b).length=(zL c).length/\(ze b).length=(ze c).length:=by
 cases b with
 | leaf x=>cases c with
   | leaf y=>exact ⟨rfl,rfl⟩
   | ask v ss y n=>simp [zH] at ha
 | ask v ss y n=>cases c with
   | leaf y=>simp [zH] at ha
   | ask v' ss' y' n' =>
     obtain ⟨t,h1,_,h2⟩:=vq hb
     obtain ⟨t',h3,_,h4⟩:=vq hc
     simp only [kf] at hv;subst hv
     rw [h1] at h3;simp at h3;subst h3
     exact ⟨h2.trans h4.symm,rfl⟩
theorem belowB_u {b c:Bd} (h:zH b=[117]):zk b c=true:=by
 cases b with
 | leaf x=>simp [zH] at h;subst h;cases c <;> simp [zk]
 | ask v ss y n=>simp [zH] at h
theorem wQ {b c:Bd} (h:zH b≠[117]) (ha:zH b≠zH c):zk b c=false:=by
 cases b with
 | leaf x =>
   simp [zH] at h
   cases c with
   | leaf y=>simp [zH] at ha;simp [zk,h,ha]
   | ask v ss y n=>simp [zk,h]
 | ask v ss y n=>cases c with
   | leaf y=>simp [zk]
   | ask v' ss' y' n'=>simp [zH] at ha
theorem belowB_lv {b c:Bd} (ha:zH b=zH c) (hv:kf b≠kf c):zk b c=false:=by
 cases b with
 | leaf x=>cases c with
   | leaf y=>simp [kf] at hv
   | ask v ss y n=>simp [zH] at ha
 | ask v ss y n=>cases c with
   | leaf y=>simp [zk]
   | ask v' ss' y' n'=>simp [kf] at hv;simp [zk,hv]
theorem xW {hand:List Ty} {b c:Bd} (hb:zm hand b) (hc:zm hand c) (ha:zH b=zH c) (hv:kf b=kf c):zk b c=zt (zj b) (zj c):=by
 have hk:=(pI hb hc ha hv).1
 cases b with
 | leaf x=>cases c with
   | leaf y=>simp [zH] at ha;subst ha;simp [zk,zj,zt]
   | ask v ss y n=>simp [zH] at ha
 | ask v ss y n=>cases c with
   | leaf y=>simp [zH] at ha
   | ask v' ss' y' n' =>
     simp only [kf] at hv;subst hv
     simp only [zL] at hk
     simp only [zk,zj,j7 _ _ _ _ hk,zt,Bool.and_true];simp
theorem belowB_kids {hand:List Ty} {b c:Bd} (hb:zm hand b) (hc:zm hand c) (ha:zH b=zH c) (hv:kf b=kf c):zk b c=(zt (zL b) (zL c) && zt (ze b) (ze c)):=by
 rw [xW hb hc ha hv]
 have hk:=(pI hb hc ha hv).1
 rw [j1,j1,j7 _ _ _ _ hk]
theorem lv_leaf {b c:Bd} (ha:zH b=zH c) (hi:pM b=false):kf b=kf c:=by
 cases b <;> cases c <;> simp [zH,pM] at * <;> rfl
theorem wF {F:Nat->Prop} {w:World} {b:Bd} {s v k y:Value} (h:zD F w (kF b) [s,v,k,y]):v=.int .i64 (kf b:Nat):=by
 cases b with
 | leaf c =>
   rw [kF] at h
   obtain ⟨_,_,e,h0,h⟩:=zU.1 h
   simp only [List.cons.injEq] at e;obtain ⟨rfl,rfl⟩:=e
   obtain ⟨_,_,e,h1,h⟩:=zU.1 h
   simp only [List.cons.injEq] at e;obtain ⟨rfl,rfl⟩:=e
   exact zf.1 h1
 | ask lv ss yb nb =>
   rw [kF] at h
   obtain ⟨_,_,e,h0,h⟩:=zU.1 h
   simp only [List.cons.injEq] at e;obtain ⟨rfl,rfl⟩:=e
   obtain ⟨_,_,e,h1,h⟩:=zU.1 h
   simp only [List.cons.injEq] at e;obtain ⟨rfl,rfl⟩:=e
   exact zf.1 h1
theorem uN (a b:Nat):((a:Int).tmod (b:Int))=((a % b:Nat):Int):=rfl
theorem wu (a b:Nat):((a:Int).tdiv (b:Int))=((a / b:Nat):Int):=rfl
theorem jV (n:Nat) (h:n<9223372036854775808):IntKind.i64.wrap (n:Int)=(n:Int):=by
 simp [IntKind.wrap,IntKind.bits,IntKind.signed];omega
def qw (r:Nat):UInt8:=UInt8.ofNat (48+r)
def dec (n:Nat):Bs:=if n<10 then [qw n] else dec (n / 10)++[qw (n % 10)]
theorem qV {n:Nat} (h:n<10):dec n=[qw n]:=by rw [dec,if_pos h]
theorem vj {n:Nat} (h:¬ n<10):dec n=dec (n / 10)++[qw (n % 10)]:=by rw [dec,if_neg h]
theorem jB (k:Nat):∀ n,n<10 ^ (k+1)->(dec n).length<=k+1:=by
 induction k with
 | zero=>intro n h;rw [qV (by simpa using h)];simp
 | succ k ih =>
   intro n h
   by_cases h10:n<10
   ·rw [qV h10];simp
   ·rw [vj h10]
    have:=ih (n / 10) (by rw [Nat.div_lt_iff_lt_mul (by omega),<- Nat.pow_succ];exact h)
    simp;omega
theorem str_add (a b:Bs):(⟨a.toArray⟩:ByteArray)++(⟨b.toArray⟩:ByteArray)=⟨(a++b).toArray⟩:=by
 have h:((⟨a.toArray⟩:ByteArray)++(⟨b.toArray⟩:ByteArray)).data=(a++b).toArray:=by
  rw [ByteArray.data_append];simp
 cases hx:(⟨a.toArray⟩:ByteArray)++(⟨b.toArray⟩:ByteArray) with
 | mk d=>rw [hx] at h;simp at h;rw [h]
theorem k8 {P:Program} (a b:Bs) (h:a.length+b.length<=9223372036854775807) (w:World):(Op.stringOp .add ⟨a.toArray⟩ ⟨b.toArray⟩).run P w=.ok (str (a++b)) w:=by
 rw [run_string_add_sum w _ _ (by rw [yk,yk];exact h),str_add]
mutual
def kT:Bd->Bs
 | .leaf c=>[c]
 | .ask v ss y n=>(((([40]++dec v++kM ss++[32])++kT y)++[32])++kT n)++[41]
def kM:List Bd->Bs
 | []=>[]
 | b::bs=>[32]++kT b++kM bs
end
mutual
def lvB:Bd->Prop
 | .leaf _=>True
 | .ask v ss y n=>v<=10000/\qd ss/\lvB y/\lvB n
def qd:List Bd->Prop
 | []=>True
 | b::bs=>lvB b/\qd bs
end
theorem jF:∀ (xs ys:List Bd),kM (xs++ys)=kM xs++kM ys
 | [],ys=>by simp [kM]
 | x::xs,ys=>by simp [kM,jF xs ys]
theorem textBs_take {ts:List Bd} {k:Nat} {t:Bd} (h:ts[k]? = some t):kM (ts.take (k+1))=kM (ts.take k)++[32]++kT t:=by
 rw [List.take_add_one,h,jF];simp [kM]
theorem yr:∀ (xs:List Bd),qd xs->∀ (k:Nat) (t:Bd),xs[k]? = some t->lvB t
 | [],_,k,t,h=>by simp at h
 | x::xs,hl,k,t,h=>by
   rw [qd] at hl
   cases k with
   | zero=>simp at h;subst h;exact hl.1
   | succ k=>simp at h;exact yr xs hl.2 k t h
mutual
theorem kx:∀ (b:Bd),lvB b->(kT b).length+1<=12*zP b
 | .leaf c,_=>by simp [kT,zP]
 | .ask v ss y n,h=>by
   rw [lvB] at h
   have h1:=vB ss h.2.1
   have h2:=kx y h.2.2.1
   have h3:=kx n h.2.2.2
   have h4:(dec v).length<=5:=jB 4 v (by have:=h.1;omega)
   simp only [kT,zP,List.length_append,List.length_cons,List.length_nil]
   omega
theorem vB:∀ (bs:List Bd),qd bs->(kM bs).length<=12*zW bs
 | [],_=>by simp [kM]
 | b::bs,h=>by
   rw [qd] at h
   have h1:=kx b h.1
   have h2:=vB bs h.2
   simp only [kM,zW,List.length_append,List.length_cons,List.length_nil]
   omega
end
theorem wW (xs:List Bd) (k:Nat):(kM (xs.take k)).length<=(kM xs).length:=by
 have:=congrArg List.length (jF (xs.take k) (xs.drop k))
 rw [List.take_append_drop,List.length_append] at this
 omega
mutual
def yK:Ty->Bs
 | .mk ts=>textTs ts
def textTs:List Ty->Bs
 | []=>[98]
 | a::ts=>[40,62,32]++(yK a++([32]++(textTs ts++[41])))
end
theorem textT_nil:yK (.mk [])=[98]:=by rw [yK,textTs]
theorem textT_cons (a:Ty) (ts:List Ty):yK (.mk (a::ts))=[40,62,32]++(yK a++([32]++(yK (.mk ts)++[41]))):=by
 rw [yK,textTs,yK]
inductive Clo where
 | mk (b:Bd) (env:List Clo) (begun:Nat) (path:Bs)
def Clo.body:Clo->Bd | .mk b _ _ _=>b
def Clo.env:Clo->List Clo | .mk _ e _ _=>e
def Clo.begun:Clo->Nat | .mk _ _ n _=>n
def Clo.path:Clo->Bs | .mk _ _ _ p=>p
mutual
def cloFit:Clo->Ty->Prop
 | .mk b e _ _,t=>∃ h,envFit e h/\zm (h++t.args) b
def envFit:List Clo->List Ty->Prop
 | [],h=>h=[]
 | c::cs,h=>∃ t ts,h=t::ts/\cloFit c t/\envFit cs ts
end
end Go.Proofs.YtfedjhgaeikjmaaGreatDoor

/- Walks of functions that the statement reaches, and plain words. No conditions. -/
import Derived.Lib.AtoiTie
import Derived.Laws.Concat
import Derived.Test.YtdhaafoiokkbnaaGreatDoorQ2
set_option linter.unusedVariables false
set_option linter.unusedSimpArgs false
set_option maxHeartbeats 10000000
namespace Go.Proofs.YtdhaafoiokkbnaaGreatDoor
open Go.RowKit
def wl (i:Nat) (o:Option (Nat×Nat)) (w:World) (en:Ending) (w':World):Prop :=
 ∃ (v:Nat) (k:Int),en=.returned (.tuple #[.int .i64 v,.int .i64 k])/\w=w'/\(o=none->k = -1)/\(∀ v' c,o=some (v',c)->v=v'/\k=((i+c:Nat):Int))
theorem l3Number_any (l:Bs) (hl:Lim l.length) (i:Nat) (hi:i<=l.length) (w:World) :
 Calls Tryz.prog 73 #[str l,.int .i64 i] w (wl i (qG (l.drop i)) w):=by
 have fM:=hl.le
 obtain ⟨ds,iS⟩:=zzM (kY (l.drop i))
 have hd4:=xB (l.drop i)
 rw [<- iS] at hd4
 have h4:ds.length<=4:=hd4.1
 have AV:i+ds.length<=l.length:=by have:=hd4.2;simp at this;omega
 have HDS:=cH iS;clear iS hd4
 go_enter Tryz.func73,Tryz.ntmps73
 go_wp2_with fail
 go_loop [6,7] (fun n k=>∃ j:Nat,j<=ds.length/\k=.int .i64 ((i+j:Nat):Int)/\n=.int .i64 (qK (ds.take j):Nat)) (fun _ k=>i+ds.length-(intOf k).toNat)
 case atStart=>exact ⟨0,Nat.zero_le _,by simp,by simp [qK]⟩
 case round =>
  obtain ⟨j,hj,rfl,rfl⟩:=hrel
  by_cases cL:j<ds.length
  ·have tq:i+j<l.length:=by omega
   have hat:l[i+j]=ds[j]/\dig l[i+j]=true:=by
    have h1:=HDS.out;subst h1
    obtain ⟨hm,e1,e2⟩:=digsOf_at cL
    rw [List.getElem_drop] at e1 e2
    exact ⟨e1,e2⟩
   have b1:(48:Int)<=((((⟨l.toArray⟩:ByteArray)[i+j]'(qV tq)).toNat:Int))/\((((⟨l.toArray⟩:ByteArray)[i+j]'(qV tq)).toNat:Int))<=57:=by
    have h2:=hat.2
    simp [dig,UInt8.le_iff_toNat_le] at h2
    rw [vE tq];omega
   obtain ⟨b1,b2⟩:=b1
   have hv:qK (ds.take j)<=9999:=by
    have h1:=valOf_lt (ds.take j) (fun c hc=>j8 _ c (by have:=HDS.out;rw [<- this];exact List.mem_of_mem_take hc))
    have h2:10 ^ (ds.take j).length<=10 ^ 4:=Nat.pow_le_pow_right (by omega) (by simp;omega)
    omega
   have hs:=valOf_take cL
   have fE:(qK (ds.take (j+1)):Int)=10*(qK (ds.take j):Int)+(((((⟨l.toArray⟩:ByteArray)[i+j]'(qV tq)).toNat:Int))-48):=by
    rw [vE tq] at b1 ⊢;rw [hs,hat.1] at *;omega
   have HS:=cH fE
   have j4:j<4:=by omega
   clear hs fE hat
   go_wp2_with fail
   go_round
   case rel=>exact ⟨j+1,by omega,by go_num,by rw [HS.out]⟩
   case measure=>simp [intOf];omega
  ·obtain rfl:j=ds.length:=by omega
   have rX:ds.length=4\/i+ds.length=l.length\/∃ h:i+ds.length<l.length,dig l[i+ds.length]=false:=by
    have h1:=HDS.out;subst h1
    rcases digsOf_end (m:=l.drop i) with h | h | ⟨h,h2⟩
    ·exact .inl h
    ·right;left;simp at h;omega
    ·right;right;simp at h;refine ⟨by omega,?_⟩;rw [List.getElem_drop] at h2;exact h2
   have HV:qG (l.drop i)=(if ds=[]\/(1<ds.length/\(l.drop i).head? = some 48) then none else some (qK ds,ds.length)):=by
    unfold qG;rw [<- HDS.out]
   have nI:4<=ds.length\/l.length<=i+ds.length\/(∃ h:i+ds.length<l.length,((((⟨l.toArray⟩:ByteArray)[i+ds.length]'(qV h)).toNat:Int))<48)\/(∃ h:i+ds.length<l.length,(57:Int)<((((⟨l.toArray⟩:ByteArray)[i+ds.length]'(qV h)).toNat:Int))):=by
    rcases rX with h | h | ⟨h,h2⟩
    ·exact .inl (by omega)
    ·exact .inr (.inl (by omega))
    ·simp [dig,UInt8.le_iff_toNat_le] at h2
     by_cases hc:l[i+ds.length].toNat<48
     ·exact .inr (.inr (.inl ⟨h,by rw [vE h];omega⟩))
     ·exact .inr (.inr (.inr ⟨h,by rw [vE h];have:=h2 (by omega);omega⟩))
   clear rX
   rw [List.take_length]
   rcases (by omega:ds.length=0\/ds.length=1\/2<=ds.length) with hn | hn | hn
   ·have e0:((i:Int)+(ds.length:Int) == (i:Int))=true:=by rw [beq_iff_eq];omega
    have fin:wl i (qG (l.drop i)) w (.returned (.tuple #[.int .i64 0,.int .i64 (-1)])) w:=by
     have th:ds=[]:=List.eq_nil_of_length_eq_zero hn
     refine ⟨0,-1,rfl,rfl,fun _=>rfl,fun v c h=>?_⟩
     rw [HV,if_pos (.inl th)] at h;simp at h
    have HF:=cH fin;have hn0:(ds.length:Int)<=0:=by omega
    clear fin HV hn
    rcases nI with h | h | ⟨h,h2⟩ | ⟨h,h2⟩
    all_goals
     go_wp2_with fail
     all_goals (go_ret2;exact HF.out)
   ·have e0:((i:Int)+(ds.length:Int) == (i:Int))=false:=by rw [beq_eq_false_iff_ne];omega
    have n1:¬ 1<ds.length:=by omega
    have fin:wl i (qG (l.drop i)) w (.returned (.tuple #[.int .i64 (qK ds:Nat),.int .i64 ((i:Int)+(ds.length:Int))])) w:=by
     have th:¬ (ds=[]\/(1<ds.length/\(l.drop i).head? = some 48)):=by
      rintro (h | h)
      ·rw [h] at hn;simp at hn
      ·omega
     refine ⟨_,_,rfl,rfl,fun h=>?_,fun v c h=>?_⟩
     ·rw [HV,if_neg th] at h;simp at h
     ·rw [HV,if_neg th] at h;simp at h;exact ⟨h.1,by omega⟩
    have HF:=cH fin;have fQ:1<=ds.length:=by omega
    clear fin HV hn
    rcases nI with h | h | ⟨h,h2⟩ | ⟨h,h2⟩
    all_goals
     go_wp2_with fail
     all_goals (go_ret2;exact HF.out)
   ·have e0:((i:Int)+(ds.length:Int) == (i:Int))=false:=by rw [beq_eq_false_iff_ne];omega
    have n1:1<ds.length:=by omega
    have AN:i<l.length:=by rcases nI with h | h | ⟨h,h2⟩ | ⟨h,h2⟩ <;> omega
    have hhd:(l.drop i).head? = some l[i]:=by rw [List.head?_drop];simp [AN]
    have hdn:ds≠[]:=by intro h;rw [h] at hn;simp at hn
    by_cases rM:l[i]=48
    ·have f1:=vD AN (n:=48) (by decide) rM
     have fin:wl i (qG (l.drop i)) w (.returned (.tuple #[.int .i64 0,.int .i64 (-1)])) w:=by
      refine ⟨0,-1,rfl,rfl,fun _=>rfl,fun v c h=>?_⟩
      rw [HV,if_pos (.inr ⟨n1,by rw [hhd,rM]⟩)] at h;simp at h
     have HF:=cH fin;clear fin HV hhd rM
     rcases nI with h | h | ⟨h,h2⟩ | ⟨h,h2⟩
     all_goals
      go_wp2_with fail
      all_goals (go_ret2;exact HF.out)
    ·have f1:=jP AN (n:=48) (by decide) rM
     have fin:wl i (qG (l.drop i)) w (.returned (.tuple #[.int .i64 (qK ds:Nat),.int .i64 ((i:Int)+(ds.length:Int))])) w:=by
      have th:¬ (ds=[]\/(1<ds.length/\(l.drop i).head? = some 48)):=by
       rintro (h | h)
       ·exact hdn h
       ·rw [hhd] at h;exact rM (Option.some.inj h.2)
      refine ⟨_,_,rfl,rfl,fun h=>?_,fun v c h=>?_⟩
      ·rw [HV,if_neg th] at h;simp at h
      ·rw [HV,if_neg th] at h;simp at h;exact ⟨h.1,by omega⟩
     have HF:=cH fin;clear fin HV hhd rM
     rcases nI with h | h | ⟨h,h2⟩ | ⟨h,h2⟩
     all_goals
      go_wp2_with fail
      all_goals (go_ret2;exact HF.out)
mutual
def kT:Bd->List DV
 | .leaf c=>[.val (str [c]),.val (.int .i64 (0:Nat)),.sl 80 4 0 [],.sl 80 4 0 []]
 | .ask v ss y n=>[.val (str []),.val (.int .i64 v),.sl 80 4 ss.length (zl ss),.sl 80 4 2 (kT y++(kT n++[]))]
def zl:List Bd->List DV
 | []=>[]
 | b::bs=>kT b++zl bs
end
theorem qz (b:Bd):(kT b).length=4:=by cases b <;> simp [kT]
theorem wO (bs:List Bd):(zl bs).length=bs.length*4:=by
 induction bs with
 | nil=>simp [zl]
 | cons b bs ih=>simp [zl,qz,ih];omega
theorem k9 (a b:List Bd):zl (a++b)=zl a++zl b:=by
 induction a with
 | nil=>simp [zl]
 | cons t ts ih=>simp [zl,ih,List.append_assoc]
theorem wk (v:Nat) (ss:List Bd) (y n:Bd):kT (.ask v ss y n)=[.val (str []),.val (.int .i64 v),.sl 80 4 ss.length (zl ss),.sl 80 4 2 (zl [y,n])]:=by
 simp [kT,zl]
theorem Tryz.infoN:(Tryz.prog.info? 80).map (fun i=>(i.zero,i.size,i.bytes))=some (some (.agg #[str [],.int .i64 0,.slice none 0 0,.slice none 0 0]),4,72):=by kernel_rfl
def jL (L:Nat) (w:World) (o:Option (Bd×Bs)) (en:Ending) (w':World):Prop :=
 ∃ (s:Bs) (v:Int) (a2:Option Addr) (n2 k2:Nat) (a3:Option Addr) (n3 k3:Nat) (k:Int),en=.returned (.tuple #[.agg #[str s,.int .i64 v,.slice a2 n2 k2,.slice a3 n3 k3],.int .i64 k])/\Below w.heap.size w w'/\(o=none->k = -1) /\
   (∀ b rest,o=some (b,rest)->k=(L:Int)-rest.length/\zH (w.heap.size<=·) w' (kT b) [str s,.int .i64 v,.slice a2 n2 k2,.slice a3 n3 k3])
theorem jL.no {L:Nat} {w w':World} {o:Option (Bd×Bs)} (ho:o=none) (hb:Below w.heap.size w w') :
 jL L w o (.returned (.tuple #[.agg #[str [],.int .i64 0,.slice none 0 0,.slice none 0 0],.int .i64 (-1)])) w' :=
 ⟨[],0,none,0,0,none,0,0,_,rfl,hb,fun _=>rfl,fun _ _ h=>by rw [ho] at h;simp at h⟩
theorem jL.yes {L:Nat} {w w':World} {o:Option (Bd×Bs)} {b:Bd} {rest:Bs} {s:Bs} {v:Int} {a2:Option Addr} {n2 k2:Nat} {a3:Option Addr} {n3 k3:Nat} {k:Int} (ho:o=some (b,rest)) (hk:k=(L:Int)-rest.length) (hb:Below w.heap.size w w') (hv:zH (w.heap.size<=·) w' (kT b) [str s,.int .i64 v,.slice a2 n2 k2,.slice a3 n3 k3]) :
 jL L w o (.returned (.tuple #[.agg #[str s,.int .i64 v,.slice a2 n2 k2,.slice a3 n3 k3],.int .i64 k])) w' :=
 ⟨s,v,a2,n2,k2,a3,n3,k3,k,rfl,hb,fun h=>by rw [ho] at h;simp at h,fun _ _ h=>by rw [ho] at h;simp at h;obtain ⟨rfl,rfl⟩:=h;exact ⟨hk,hv⟩⟩
def NodeSaid (l:Bs) (e d:Nat):Prop:=∀ (F:Nat->Prop) (hand:List Ty) (hv:Value) (i:Nat) (w:World),i<=l.length->ke e hand ->
    Rep F w (.sl 77 1 hand.length (qx hand)) hv ->
    Calls Tryz.prog 51 #[str l,.int .i64 i,hv,.int .i64 d] w (jL l.length w (rdN e hand (l.drop i)))
theorem leaf_reps (F:Nat->Prop) (w:World) (c:UInt8):zH F w (kT (.leaf c)) [str [c],.int .i64 0,.slice none 0 0,.slice none 0 0]:=by
 have hz:Rep F w (.sl 80 4 0 []) (.slice none 0 0):=kM.2 ⟨rfl,none,0,rfl,cC _,fun _=>rfl,.inl rfl⟩
 rw [kT]
 exact zV.2 ⟨_,_,rfl,zj.2 rfl,zV.2 ⟨_,_,rfl,zj.2 rfl,zV.2 ⟨_,_,rfl,hz,zV.2 ⟨_,_,rfl,hz,zF.2 rfl⟩⟩⟩⟩
theorem rdN_leaf (e:Nat) (hand:List Ty) {l:Bs} {i:Nat} (h:i<l.length) (hc:l[i]=116\/l[i]=102\/l[i]=117):rdN (e+1) hand (l.drop i)=some (.leaf l[i],l.drop (i+1)):=by
 rw [List.drop_eq_getElem_cons h,rdN];simp only [if_pos hc]
theorem rdN_other (e:Nat) (hand:List Ty) {l:Bs} {i:Nat} (h:i<l.length) (hc:¬ (l[i]=116\/l[i]=102\/l[i]=117)) (d_:¬ l[i]=40):rdN (e+1) hand (l.drop i)=none:=by
 rw [List.drop_eq_getElem_cons h,rdN];simp only [if_neg hc,if_pos d_]
theorem rdN_40 (e:Nat) (hand:List Ty) {l:Bs} {i:Nat} (h:i<l.length) (d_:l[i]=40):rdN (e+1) hand (l.drop i)=(match qG (l.drop (i+1)) with
 | none=>none
 | some (v,k)=>match hand[v]? with
   | none=>none
   | some t=>do
     let (ps,l1)<-zW (rdN e) (kI hand t) ((l.drop (i+1)).drop k)
     let l2<-cut [41] l1
     let b<-yL v t.args.length ps
     some (b,l2)):=by
 rw [List.drop_eq_getElem_cons h,rdN]
 rw [if_neg (by rw [d_];decide),if_neg (by simpa using d_)]
 try rfl
theorem wS (l:Bs) (hl:Lim l.length) (e d:Nat) (AU:e+d=101) (F:Nat->Prop) (hand:List Ty) (hv:Value) (i:Nat) (w:World) (hi:i<=l.length)
 (hr:Rep F w (.sl 77 1 hand.length (qx hand)) hv) (mj:∀ h:i<l.length,e=0\/¬ l[i]=40) :
 Calls Tryz.prog 51 #[str l,.int .i64 i,hv,.int .i64 d] w (jL l.length w (rdN e hand (l.drop i))):=by
 have fM:=hl.le
 obtain ⟨a0,c0,e0,_⟩:=zC hr
 subst e0
 rcases e with _ | e
 ·have hd1:(100:Int)<(d:Int):=by omega
  clear mj
  go_enter Tryz.func51,Tryz.ntmps51
  go_wp2_with fail
  refine bodyPost_ret (v:=.tuple #[.agg #[str [],.int .i64 0,.slice none 0 0,.slice none 0 0],.int .i64 (-1)]) (by simp [results,Tryz.results51,go_sem]) rfl ?_
  exact jL.no (by rfl) (by repeat (first | exact cE _ _ | refine Below.alloc ?_ (cC _) _ | refine Below.setCell ?_ (by simp) _))
 have th:¬ (100:Int)<(d:Int):=by omega
 by_cases cL:i<l.length
 rotate_left
 ·clear mj
  go_enter Tryz.func51,Tryz.ntmps51
  go_wp2_with fail
  refine bodyPost_ret (v:=.tuple #[.agg #[str [],.int .i64 0,.slice none 0 0,.slice none 0 0],.int .i64 (-1)]) (by simp [results,Tryz.results51,go_sem]) rfl ?_
  exact jL.no (by rw [List.drop_eq_nil_of_le (by omega)];rfl) (by repeat (first | exact cE _ _ | refine Below.alloc ?_ (cC _) _ | refine Below.setCell ?_ (by simp) _))
 have d_:¬ l[i]=40:=(mj cL).resolve_left (by omega)
 clear mj
 by_cases lW:l[i]=116\/l[i]=102\/l[i]=117
 ·have HM:=cH (rdN_leaf e hand cL lW)
  have hx:((⟨l.toArray⟩:ByteArray).extract i (i+1))=⟨#[l[i]]⟩:=by
   rw [jr];congr 1
   rw [List.drop_take,List.drop_eq_getElem_cons cL,show i+1-i=1 from by omega];rfl
  have HX:=cH hx;clear hx
  have fin:∀ w':World,Below w.heap.size w w'->jL l.length w (rdN (e+1) hand (l.drop i)) (.returned (.tuple #[.agg #[.string ((⟨l.toArray⟩:ByteArray).extract i (i+1)),.int .i64 0,.slice none 0 0,.slice none 0 0],.int .i64 ((i:Int)+1)])) w':=by
   intro w' hb
   rw [HX.out]
   exact jL.yes (s:=[l[i]]) HM.out (by simp;omega) hb (leaf_reps _ _ _)
  have FIN:=cH fin;clear fin
  have key:((((⟨l.toArray⟩:ByteArray)[i]'(qV cL)).toNat:Int) == 116)=true\/((((((⟨l.toArray⟩:ByteArray)[i]'(qV cL)).toNat:Int) == 116)=false/\((((⟨l.toArray⟩:ByteArray)[i]'(qV cL)).toNat:Int) == 102)=true))\/((((((⟨l.toArray⟩:ByteArray)[i]'(qV cL)).toNat:Int) == 116)=false/\((((⟨l.toArray⟩:ByteArray)[i]'(qV cL)).toNat:Int) == 102)=false/\((((⟨l.toArray⟩:ByteArray)[i]'(qV cL)).toNat:Int) == 117)=true)):=by
   rcases lW with h | h | h
   ·exact .inl (vD cL (n:=116) (by decide) h)
   ·exact .inr (.inl ⟨jP cL (c:=116) (n:=116) (by decide) (by rw [h];decide),vD cL (n:=102) (by decide) h⟩)
   ·exact .inr (.inr ⟨jP cL (c:=116) (n:=116) (by decide) (by rw [h];decide),jP cL (c:=102) (n:=102) (by decide) (by rw [h];decide),vD cL (n:=117) (by decide) h⟩)
  clear lW d_ HM HX
  rcases key with f1 | ⟨f1,f2⟩ | ⟨f1,f2,f3⟩
  all_goals
   go_enter Tryz.func51,Tryz.ntmps51
   go_wp2_with fail
   refine bodyPost_ret (v:=.tuple #[.agg #[.string ((⟨l.toArray⟩:ByteArray).extract i (i+1)),.int .i64 0,.slice none 0 0,.slice none 0 0],.int .i64 ((i:Int)+1)]) (by simp [results,Tryz.results51,go_sem]) rfl ?_
   exact FIN.out _ (by repeat (first | exact cE _ _ | refine Below.alloc ?_ (cC _) _ | refine Below.setCell ?_ (by simp) _))
 have HM:=cH (rdN_other e hand cL lW d_)
 have f1:=jP cL (n:=116) (by decide) (fun h=>lW (.inl h))
 have f2:=jP cL (n:=102) (by decide) (fun h=>lW (.inr (.inl h)))
 have f3:=jP cL (n:=117) (by decide) (fun h=>lW (.inr (.inr h)))
 have f4:=xZ cL (n:=40) (by decide) d_
 clear lW d_
 go_enter Tryz.func51,Tryz.ntmps51
 go_wp2_with fail
 refine bodyPost_ret (v:=.tuple #[.agg #[str [],.int .i64 0,.slice none 0 0,.slice none 0 0],.int .i64 (-1)]) (by simp [results,Tryz.results51,go_sem]) rfl ?_
 exact jL.no HM.out (by repeat (first | exact cE _ _ | refine Below.alloc ?_ (cC _) _ | refine Below.setCell ?_ (by simp) _))
def kD (ob:Nat) (v:Int) (kslv yslv:Value) (w:World):Prop:=w.heap[ob]? = some (.cells #[str [],.int .i64 v,kslv,yslv] 80 (0,0))
theorem kD.cells {ob:Nat} {v:Int} {ks ys:Value} {w:World} (h:kD ob v ks ys w):w.cell? ⟨ob,0,none⟩=some (str [])/\w.cell? ⟨ob,1,none⟩=some (.int .i64 v)/\w.cell? ⟨ob,2,none⟩=some ks/\w.cell? ⟨ob,3,none⟩=some ys/\ob<w.heap.size/\(∀ o,w.frozen? ⟨ob,o,none⟩=false):=by
 have hl:=zZ h
 unfold kD at h
 exact ⟨by simp [World.cell?,h],by simp [World.cell?,h],by simp [World.cell?,h],by simp [World.cell?,h],hl,fun o=>by simp [World.frozen?,h]⟩
theorem kD.put2 {ob:Nat} {v:Int} {ks ys u:Value} {w:World} (h:kD ob v ks ys w):kD ob v u ys (w.setCell ⟨ob,2,none⟩ u):=by
 unfold kD;rw [zu h];rfl
theorem kD.put3 {ob:Nat} {v:Int} {ks ys u:Value} {w:World} (h:kD ob v ks ys w):kD ob v ks u (w.setCell ⟨ob,3,none⟩ u):=by
 unfold kD;rw [zu h];rfl
theorem kD.but {ob:Nat} {v:Int} {ks ys:Value} {m:Nat->Prop} {w w':World} (h:kD ob v ks ys w) (hb:But m w w') (hm:¬ m ob):kD ob v ks ys w':=by
 unfold kD;rw [hb.block ob (zZ h) hm];exact h
theorem kD.below {ob:Nat} {v:Int} {ks ys:Value} {w w':World} {B:Nat} (h:kD ob v ks ys w) (hb:Below B w w') (hm:ob<B):kD ob v ks ys w':=by
 unfold kD;rw [hb.block ob hm];exact h
theorem kD.store {ob:Nat} {v:Int} {ks ys:Value} {w:World} (h:kD ob v ks ys w) (u0 u1 u2 u3:Value) :
 ∃ W,W=((((w.setCell ⟨ob,0,none⟩ u0).setCell ⟨ob,1,none⟩ u1).setCell ⟨ob,2,none⟩ u2).setCell ⟨ob,3,none⟩ u3) /\
   W.cell? ⟨ob,0,none⟩=some u0/\W.cell? ⟨ob,1,none⟩=some u1/\W.cell? ⟨ob,2,none⟩=some u2/\W.cell? ⟨ob,3,none⟩=some u3 /\
   (∀ B w0,Below B w0 w->B<=ob->Below B w0 W)/\(∀ i x,i≠ob->w.heap[i]? = some x->W.heap[i]? = some x):=by
 have hc:((((w.setCell ⟨ob,0,none⟩ u0).setCell ⟨ob,1,none⟩ u1).setCell ⟨ob,2,none⟩ u2).setCell ⟨ob,3,none⟩ u3).heap[ob]? = some (.cells #[u0,u1,u2,u3] 80 (0,0)):=by
  unfold kD at h
  rw [zu (zu (zu (zu h)))];rfl
 refine ⟨_,rfl,by simp only [World.cell?,hc];rfl,by simp only [World.cell?,hc];rfl,by simp only [World.cell?,hc];rfl,by simp only [World.cell?,hc];rfl,fun B w0 hb hB=>?_,fun i x hi hx=>?_⟩
 ·exact ((((hb.setCell (p:=⟨ob,0,none⟩) hB _).setCell (p:=⟨ob,1,none⟩) hB _).setCell (p:=⟨ob,2,none⟩) hB _).setCell (p:=⟨ob,3,none⟩) hB _)
 ·rw [cF _ _ _ _ (by simpa using hi),cF _ _ _ _ (by simpa using hi),cF _ _ _ _ (by simpa using hi),cF _ _ _ _ (by simpa using hi)];exact hx
structure wK (l:Bs) (w:World) (rd:RdS) (hs:List (List Ty)) (n i0 ob Z v:Nat) (k en:Nat) (wr:World) (ps:List Bd) (kv yv:List Value) (ks:Value) (nk:Nat) (ys:Value) (ny:Nat):Prop where
 hnk:nk=min k n
 hny:ny=k-n
 ksl:∃ a c,ks=.slice a nk c
 ysl:∃ a c,ys=.slice a ny c
 spec:zW rd (hs.take k) (l.drop i0)=some (ps,l.drop en)
 len:ps.length=k
 en:en<=l.length
 below:Below w.heap.size w wr
 res:kD w.heap.size 0 (.slice none 0 0) (.slice none 0 0) wr
 out:kD ob v ks ys wr
 ownK:Own wr 80 4 ks nk kv
 ownY:Own wr 80 4 ys ny yv
 blkK:∀ g,ks.ownBlock=some g->Z<=g/\ys.ownBlock≠some g
 blkY:∀ g,ys.ownBlock=some g->Z<=g
 repK:zH (fun b=>Z<=b/\ks.ownBlock≠some b/\ys.ownBlock≠some b) wr (zl (ps.take n)) kv
 repY:zH (fun b=>Z<=b/\ks.ownBlock≠some b/\ys.ownBlock≠some b) wr (zl (ps.drop n)) yv
 z:Z<=wr.heap.size
theorem wK.kid {l:Bs} {w:World} {rd:RdS} {hs:List (List Ty)} {n i0 ob Z v k en:Nat} {wr:World} {ps:List Bd} {kv yv:List Value} {ks ys:Value} {nk ny:Nat}
 (h:wK l w rd hs n i0 ob Z v k en wr ps kv yv ks nk ys ny) (hk:k<n) (sj:ob<Z) (Bp:w.heap.size<ob) {W w7:World} {b:Bd} {cs:List Value} {a':Option Addr} {c' mn:Nat}
 (cd:Below wr.heap.size wr W) (hcs:zH (wr.heap.size<=·) W (kT b) cs) (cw:Own w7 80 4 (.slice a' (nk+1) c') (nk+1) (kv++cs)) (cq:But (fun i=>ks.ownBlock=some i) W w7)
 (ci:∀ g,(Value.slice a' (nk+1) c').ownBlock=some g->ks.ownBlock=some g\/g=W.heap.size)
 (tX:zW rd (hs.take (k+1)) (l.drop i0)=some (ps++[b],l.drop mn)) (od:mn<=l.length) :
 wK l w rd hs n i0 ob Z v (k+1) mn (w7.setCell ⟨ob,2,none⟩ (.slice a' (nk+1) c')) (ps++[b]) (kv++cs) yv (.slice a' (nk+1) c') (nk+1) ys ny:=by
 have z6:=cd.size
 have z7:=cq.size
 have zr:=h.z
 have cA:=h.len
 have keep:∀ i x,wr.heap[i]? = some x->ks.ownBlock≠some i->i≠ob->(w7.setCell ⟨ob,2,none⟩ (.slice a' (nk+1) c')).heap[i]? = some x:=by
  intro i x hx h1 h2
  have:=zZ hx
  rw [cF _ _ _ _ (by simpa using h2),cq.block i (by omega) h1,cd.block i this];exact hx
 have dq:∀ i x,W.heap[i]? = some x->ks.ownBlock≠some i->i≠ob->(w7.setCell ⟨ob,2,none⟩ (.slice a' (nk+1) c')).heap[i]? = some x:=by
  intro i x hx h1 h2
  have:=zZ hx
  rw [cF _ _ _ _ (by simpa using h2),cq.block i (by omega) h1];exact hx
 have ltK:∀ g,ks.ownBlock=some g->g<wr.heap.size:=fun g hg=>h.ownK.lt hg
 have ltY:∀ g,ys.ownBlock=some g->g<wr.heap.size:=fun g hg=>h.ownY.lt hg
 have nK:∀ i,i<Z->ks.ownBlock≠some i:=fun i hi e=>by have:=(h.blkK i e).1;omega
 have newg:∀ g,(Value.slice a' (nk+1) c').ownBlock=some g->Z<=g:=fun g hg=>by
  rcases ci g hg with e | e
  ·exact (h.blkK g e).1
  ·omega
 refine ⟨by rw [h.hnk];omega,by rw [h.hny];omega,⟨_,_,rfl⟩,h.ysl,tX,by simp [cA],od,?_,?_,?_,?_,?_,?_,h.blkY,?_,?_,by simp [World.setCell];omega⟩
 ·refine Below.setCell ?_ (show w.heap.size<=ob by omega) _
  exact (zzT h.below cd).trans (cq.toBelow (by have:=h.below.size;omega) fun i hi e=>nK i (by omega) e)
 ·exact keep _ _ h.res (nK _ (by omega)) (by omega)
 ·have h1:kD ob v ks ys w7:=by
   unfold kD;rw [cq.block ob (by omega) (nK _ sj),cd.block ob (by omega)];exact h.out
  exact h1.put2
 ·exact cw.keep fun g o hg ho=>by rw [cF _ _ _ _ (by have:=newg g hg;simp;omega)];exact ho
 ·exact h.ownY.keep fun g o hg ho=>keep g o ho (fun e=>(h.blkK g e).2 hg) (by have:=h.blkY g hg;omega)
 ·intro g hg
  refine ⟨newg g hg,fun e=>?_⟩
  rcases ci g hg with e' | e'
  ·exact (h.blkK g e').2 e
  ·have:=ltY g e;omega
 ·rw [List.take_of_length_le (by simp;omega),k9]
  have h1:=h.repK
  rw [List.take_of_length_le (by omega)] at h1
  refine zH.append ((Rep.keep fun i x hi hx=>⟨⟨hi.1,fun e=>(ci i e).elim (fun e'=>hi.2.1 e') (fun e'=>by have:=zZ hx;omega),hi.2.2⟩,keep i x hx hi.2.1 (by have:=hi.1;omega)⟩).2 _ _ h1) ?_
  ·have e1:zl [b]=kT b:=by simp [zl]
   rw [e1]
   refine (Rep.keep fun i x hi hx=>?_).2 _ _ hcs
   have h2:=zZ hx
   have h3:wr.heap.size<=i:=hi
   refine ⟨⟨by omega,fun e=>?_,fun e=>by have:=ltY i e;omega⟩,dq i x hx (fun e=>by have:=ltK i e;omega) (by omega)⟩
   rcases ci i e with e' | e'
   ·have:=ltK i e';omega
   ·omega
 ·have h1:=h.repY
  rw [List.drop_eq_nil_of_le (by omega)] at h1
  rw [List.drop_eq_nil_of_le (by simp;omega)]
  have:yv=[]:=by simpa [zl,zF] using h1
  subst this;exact zF.2 rfl
theorem wK.yes {l:Bs} {w:World} {rd:RdS} {hs:List (List Ty)} {n i0 ob Z v k en:Nat} {wr:World} {ps:List Bd} {kv yv:List Value} {ks ys:Value} {nk ny:Nat}
 (h:wK l w rd hs n i0 ob Z v k en wr ps kv yv ks nk ys ny) (hk:n<=k) (sj:ob<Z) (Bp:w.heap.size<ob) {W w7:World} {b:Bd} {cs:List Value} {a':Option Addr} {c' mn:Nat}
 (cd:Below wr.heap.size wr W) (hcs:zH (wr.heap.size<=·) W (kT b) cs) (cw:Own w7 80 4 (.slice a' (ny+1) c') (ny+1) (yv++cs)) (cq:But (fun i=>ys.ownBlock=some i) W w7)
 (ci:∀ g,(Value.slice a' (ny+1) c').ownBlock=some g->ys.ownBlock=some g\/g=W.heap.size)
 (tX:zW rd (hs.take (k+1)) (l.drop i0)=some (ps++[b],l.drop mn)) (od:mn<=l.length) :
 wK l w rd hs n i0 ob Z v (k+1) mn (w7.setCell ⟨ob,3,none⟩ (.slice a' (ny+1) c')) (ps++[b]) kv (yv++cs) ks nk (.slice a' (ny+1) c') (ny+1):=by
 have z6:=cd.size
 have z7:=cq.size
 have zr:=h.z
 have cA:=h.len
 have keep:∀ i x,wr.heap[i]? = some x->ys.ownBlock≠some i->i≠ob->(w7.setCell ⟨ob,3,none⟩ (.slice a' (ny+1) c')).heap[i]? = some x:=by
  intro i x hx h1 h2
  have:=zZ hx
  rw [cF _ _ _ _ (by simpa using h2),cq.block i (by omega) h1,cd.block i this];exact hx
 have dq:∀ i x,W.heap[i]? = some x->ys.ownBlock≠some i->i≠ob->(w7.setCell ⟨ob,3,none⟩ (.slice a' (ny+1) c')).heap[i]? = some x:=by
  intro i x hx h1 h2
  have:=zZ hx
  rw [cF _ _ _ _ (by simpa using h2),cq.block i (by omega) h1];exact hx
 have ltK:∀ g,ks.ownBlock=some g->g<wr.heap.size:=fun g hg=>h.ownK.lt hg
 have ltY:∀ g,ys.ownBlock=some g->g<wr.heap.size:=fun g hg=>h.ownY.lt hg
 have nY:∀ i,i<Z->ys.ownBlock≠some i:=fun i hi e=>by have:=h.blkY i e;omega
 have newg:∀ g,(Value.slice a' (ny+1) c').ownBlock=some g->Z<=g:=fun g hg=>by
  rcases ci g hg with e | e
  ·exact h.blkY g e
  ·omega
 refine ⟨by rw [h.hnk];omega,by rw [h.hny];omega,h.ksl,⟨_,_,rfl⟩,tX,by simp [cA],od,?_,?_,?_,?_,?_,?_,newg,?_,?_,by simp [World.setCell];omega⟩
 ·refine Below.setCell ?_ (show w.heap.size<=ob by omega) _
  exact (zzT h.below cd).trans (cq.toBelow (by have:=h.below.size;omega) fun i hi e=>nY i (by omega) e)
 ·exact keep _ _ h.res (nY _ (by omega)) (by omega)
 ·have h1:kD ob v ks ys w7:=by
   unfold kD;rw [cq.block ob (by omega) (nY _ sj),cd.block ob (by omega)];exact h.out
  exact h1.put3
 ·exact h.ownK.keep fun g o hg ho=>keep g o ho (h.blkK g hg).2 (by have:=(h.blkK g hg).1;omega)
 ·exact cw.keep fun g o hg ho=>by rw [cF _ _ _ _ (by have:=newg g hg;simp;omega)];exact ho
 ·intro g hg
  refine ⟨(h.blkK g hg).1,fun e=>?_⟩
  rcases ci g e with e' | e'
  ·exact (h.blkK g hg).2 e'
  ·have:=ltK g hg;omega
 ·rw [List.take_append_of_le_length (by omega)]
  refine (Rep.keep fun i x hi hx=>⟨⟨hi.1,hi.2.1,fun e=>?_⟩,keep i x hx hi.2.2 (by have:=hi.1;omega)⟩).2 _ _ h.repK
  rcases ci i e with e' | e'
  ·exact hi.2.2 e'
  ·have:=zZ hx;omega
 ·rw [List.drop_append_of_le_length (by omega),k9]
  refine zH.append ((Rep.keep fun i x hi hx=>⟨⟨hi.1,hi.2.1,fun e=>(ci i e).elim (fun e'=>hi.2.2 e') (fun e'=>by have:=zZ hx;omega)⟩,keep i x hx hi.2.2 (by have:=hi.1;omega)⟩).2 _ _ h.repY) ?_
  ·have e1:zl [b]=kT b:=by simp [zl]
   rw [e1]
   refine (Rep.keep fun i x hi hx=>?_).2 _ _ hcs
   have h2:=zZ hx
   have h3:wr.heap.size<=i:=hi
   refine ⟨⟨by omega,fun e=>by have:=ltK i e;omega,fun e=>?_⟩,dq i x hx (fun e=>by have:=ltY i e;omega) (by omega)⟩
   rcases ci i e with e' | e'
   ·have:=ltY i e';omega
   ·omega
theorem zM.lit4 {w:World} {e:TypeId} (cs:Array Value) (hn:cs.size=4) (hc:∀ u∈cs.toList,u.oneCell'=true) (g:Nat) (hg:g=w.heap.size):zM 4 (.slice (some ⟨g,0,none⟩) 1 1) 1 cs.toList (w.alloc (.cells cs e)):=by
 subst hg
 refine ⟨by simp [hn],hc,.inl ⟨_,_,rfl,fun j u hu=>?_⟩⟩
 unfold Addr.add
 split
 ·subst j;simp;simpa using hu
 ·simp;simpa using hu
def NodeRel (l:Bs) (w:World) (rd:RdS) (hs:List (List Ty)) (n i0 ob Z v:Nat) (k en:Nat) (wr:World):Prop :=
 ∃ ps kv yv ks nk ys ny,wK l w rd hs n i0 ob Z v k en wr ps kv yv ks nk ys ny
set_option maxRecDepth 100000 in
theorem l3Read_ask (l:Bs) (hl:Lim l.length) (e d:Nat) (AU:e+1+d=101) (ih:NodeSaid l e (d+1)) (F:Nat->Prop) (hand:List Ty) (hv:Value) (i:Nat) (w:World) (hi:i<l.length) (hh:ke (e+1) hand)
 (hr:Rep F w (.sl 77 1 hand.length (qx hand)) hv) (d_:l[i]=40) :
 Calls Tryz.prog 51 #[str l,.int .i64 i,hv,.int .i64 d] w (jL l.length w (rdN (e+1) hand (l.drop i))):=by
 have fM:=hl.le
 have IH:=cH ih;clear ih
 have cA:hand.length<=10000:=by have:=hh.2;omega
 have th:¬ (100:Int)<(d:Int):=by omega
 have HM:=cH (rdN_40 e hand hi d_)
 have f1:=jP hi (c:=116) (n:=116) (by decide) (by rw [d_];decide)
 have f2:=jP hi (c:=102) (n:=102) (by decide) (by rw [d_];decide)
 have f3:=jP hi (c:=117) (n:=117) (by decide) (by rw [d_];decide)
 have f4:=um hi (n:=40) (by decide) d_
 clear d_
 obtain ⟨a0,k0,ehv,_,_,hat⟩:=zC hr
 subst ehv
 have dE:=cH hat;clear hat
 go_enter Tryz.func51,Tryz.ntmps51
 go_wp2_with fail
 rw [show (i:Int)+1=((i+1:Nat):Int) from by omega]
 refine (l3Number_any l hl (i+1) hi _).mono ?_
 rintro en w1 ⟨v,k1,rfl,ew,dY,dp⟩
 obtain rfl:=ew
 cases hq:qG (l.drop (i+1)) with
 | none =>
   obtain rfl:=dY hq
   have hm:rdN (e+1) hand (l.drop i)=none:=by rw [HM.out,hq]
   have HM:=cH hm;clear hm hq dY dp
   go_wp2_with fail
   refine bodyPost_ret (v:=.tuple #[.agg #[str [],.int .i64 0,.slice none 0 0,.slice none 0 0],.int .i64 (-1)]) (by simp [results,Tryz.results51,go_sem]) rfl ?_
   exact jL.no HM.out (by repeat (first | exact cE _ _ | refine Below.alloc ?_ (cC _) _ | refine Below.setCell ?_ (by simp) _))
 | some x =>
 obtain ⟨v',c⟩:=x
 obtain ⟨rfl,rfl⟩:=dp _ _ hq
 have fv:i+1+c<=l.length/\v<=9999:=by
  unfold qG at hq
  split at hq
  ·simp at hq
  ·simp at hq
   obtain ⟨e1,e2⟩:=hq
   have h1:=xB (l.drop (i+1))
   have h2:=valOf_lt (kY (l.drop (i+1))) (j8 _)
   have h3:10 ^ (kY (l.drop (i+1))).length<=10 ^ 4:=Nat.pow_le_pow_right (by omega) h1.1
   simp at h1;omega
 obtain ⟨fv,hv9⟩:=fv
 have HQ:=cH hq;clear hq dY dp
 by_cases mY:v<hand.length
 rotate_left
 ·have hm:rdN (e+1) hand (l.drop i)=none:=by
   rw [HM.out,HQ.out];simp only
   rw [List.getElem?_eq_none (by omega)]
  have HM:=cH hm;clear hm
  go_wp2_with fail
  refine bodyPost_ret (v:=.tuple #[.agg #[str [],.int .i64 0,.slice none 0 0,.slice none 0 0],.int .i64 (-1)]) (by simp [results,Tryz.results51,go_sem]) rfl ?_
  exact jL.no HM.out (by repeat (first | exact cE _ _ | refine Below.alloc ?_ (cC _) _ | refine Below.setCell ?_ (by simp) _))
 obtain ⟨bl,ol,u,dv,ea,hFl,dr,iR,Db,fK⟩:=dE.out v mY
 rw [js,Option.map_eq_some_iff] at iR
 obtain ⟨t,ht,rfl⟩:=iR
 obtain ⟨sa,ks,rfl⟩:=kJ fK
 have rV:=fK
 rw [qE] at rV
 obtain ⟨_,_,est,_,_,dj⟩:=zC rV
 simp only [Value.slice.injEq] at est
 obtain ⟨rfl,_,rfl⟩:=est
 subst ea
 have HT:=cH ht;have aE:=cH dj
 have hm : rdN (e+1) hand (l.drop i)=(do
         let (ps,l1)<-zW (rdN e) (kI hand t) ((l.drop (i+1)).drop c)
         let l2<-cut [41] l1
         let b<-yL v t.args.length ps
         some (b,l2)):=by rw [HM.out,HQ.out];simp only [ht]
 rw [List.drop_drop] at hm
 have HM:=cH hm
 have mX:t.args.length<=15:=by
  have h1:=hh.1 t (List.mem_of_getElem? ht)
  have h2:=zg t
  have:=zd t.args;omega
 clear hm ht dj rV
 have gv:decide (hand.length<=v)=false:=by rw [decide_eq_false_iff_not];omega
 have gi:decide ((i:Int)+1+(c:Int)<0)=false:=by rw [decide_eq_false_iff_not];omega
 go_wp2_with fail
 have eD:NodeRel l w (rdN e) (kI hand t) t.args.length (i+1+c) (w.heap.size+1) (w.heap.size+2) v 0 (i+1+c)
  ((w.alloc (.cells #[str [],.int .i64 0,.slice none 0 0,.slice none 0 0] 80)).alloc (.cells #[str [],.int .i64 v,.slice none 0 0,.slice none 0 0] 80)):=by
  refine ⟨[],[],[],.slice none 0 0,0,.slice none 0 0,0,by simp,by simp,⟨_,_,rfl⟩,⟨_,_,rfl⟩,by simp [zW],rfl,fv,((cE _ _).alloc (cC _) _).alloc (by simp) _,?_,?_,World.ownsRow_nil _ _ _ _,World.ownsRow_nil _ _ _ _,fun g h=>by simp [Value.ownBlock] at h,fun g h=>by simp [Value.ownBlock] at h,by rw [List.take_nil];exact zF.2 rfl,by rw [List.drop_nil];exact zF.2 rfl,by simp⟩
  ·exact zY (zT _ _)
  ·have:=zT (w.alloc (.cells #[str [],.int .i64 0,.slice none 0 0,.slice none 0 0] 80)) (.cells #[str [],.int .i64 v,.slice none 0 0,.slice none 0 0] 80)
   rw [zK] at this;exact this
 generalize A1:i+1+c=i0 at *
 rw [show (i:Int)+1+(c:Int)=(i0:Int) from by omega]
 have HI0:=cH A1;clear A1
 go_loopw [11,14] (fun a b wr=>∃ k en:Nat,k<=t.args.length+2/\a=.int .i64 en/\b=.int .i64 k/\NodeRel l w (rdN e) (kI hand t) t.args.length i0 (w.heap.size+1) (w.heap.size+2) v k en wr)
  (fun _ b _=>t.args.length+2-(intOf b).toNat)
 case atStart=>exact ⟨0,i0,Nat.zero_le _,rfl,rfl,eD⟩
 case round =>
  clear eD
  rename_i wr
  obtain ⟨k,en,hk,rfl,rfl,hrel⟩:=hrel
  obtain ⟨ps,kv,yv,ks,nk,ys,ny,hrel⟩:=hrel
  have sy:=hrel.res;have mj:=hrel.out;have hb:=hrel.below;have az:=hrel.en;have zr:=hrel.z
  have HP:=cH hrel.spec
  have nkl:nk<=17:=by have:=hrel.hnk;omega
  have nyl:ny<=2:=by have:=hrel.hny;omega
  obtain ⟨ka,kc,eks⟩:=hrel.ksl
  obtain ⟨ya,yc,eys⟩:=hrel.ysl
  subst eks;subst eys
  have HR:=cH hrel;clear hrel
  obtain ⟨r0,r1,r2,r3,rl,rf⟩:=sy.cells
  obtain ⟨q0,q1,q2,q3,ql,qf⟩:=mj.cells
  have al:=rf 0;have Ax:=rf 1;have Aw:=rf 2;have Av:=rf 3;clear rf
  have ao:=qf 2;have im:=qf 3;clear qf
  by_cases cL:k<t.args.length+2
  ·have d8:(k:Int)<(t.args.length:Int)+2:=by omega
   by_cases iu:∃ h:en<l.length,l[en]=32
   rotate_left
   ·have hm:rdN (e+1) hand (l.drop i)=none:=by
     have hs:=ve (rd:=rdN e) (show (kI hand t)[k]? = some _ from List.getElem?_eq_getElem (by rw [vI];exact cL)) HP.out
     have hc:cut [32] (l.drop en)=none:=by
      by_cases h:en<l.length
      ·rw [vV h,if_neg (fun h'=>iu ⟨h,h'⟩)]
      ·exact xD (by omega)
     rw [HM.out,jE (k+1) (by rw [hs];simp [kW,hc])];rfl
    have HM:=cH hm;clear hm
    have eF:(l.length<=en)\/∃ h:en<l.length,((((⟨l.toArray⟩:ByteArray)[en]'(qV h)).toNat:Int) != 32)=true:=by
     by_cases h:en<l.length
     ·exact .inr ⟨h,xZ h (n:=32) (by decide) (fun h'=>iu ⟨h,h'⟩)⟩
     ·exact .inl (by omega)
    clear iu
    rcases eF with h | ⟨h,f5⟩
    ·have g1:(l.length:Int)<=(en:Int):=by omega
     go_wp2_with fail
     obtain ⟨W,hW,s0,s1,s2,s3,cO,_⟩:=sy.store (.string ⟨#[]⟩) (.int .i64 0) (.slice none 0 0) (.slice none 0 0)
     rw [<- hW]
     refine bodyPost_ret (v:=.tuple #[.agg #[str [],.int .i64 0,.slice none 0 0,.slice none 0 0],.int .i64 (-1)]) (by simp [results,Tryz.results51,go_sem,s0,s1,s2,s3]) rfl ?_
     exact jL.no HM.out (cO _ _ hb (cC _))
    ·go_wp2_with fail
     obtain ⟨W,hW,s0,s1,s2,s3,cO,_⟩:=sy.store (.string ⟨#[]⟩) (.int .i64 0) (.slice none 0 0) (.slice none 0 0)
     rw [<- hW]
     refine bodyPost_ret (v:=.tuple #[.agg #[str [],.int .i64 0,.slice none 0 0,.slice none 0 0],.int .i64 (-1)]) (by simp [results,Tryz.results51,go_sem,s0,s1,s2,s3]) rfl ?_
     exact jL.no HM.out (cO _ _ hb (cC _))
   obtain ⟨mw,iu⟩:=iu
   have f5:=um mw (n:=32) (by decide) iu
   have g1:decide ((en:Int)<0)=false:=by rw [decide_eq_false_iff_not];omega
   have g2:decide (l.length<=en)=false:=by rw [decide_eq_false_iff_not];omega
   have HC:Hid (cut [32] (l.drop en)=some (l.drop (en+1))):=by show cut [32] (l.drop en)=_;rw [vV mw,if_pos iu]
   clear iu
   by_cases iC:k<t.args.length
   ·have oq:(k:Int)<(t.args.length:Int):=by omega
    obtain ⟨ba,oa,uk,dk,esa,hFa,hba,rv,sE,mf⟩:=aE.out k iC
    subst esa
    rw [js,Option.map_eq_some_iff] at rv
    obtain ⟨tk,d6,rfl⟩:=rv
    obtain ⟨ua,uc,rfl⟩:=kJ mf
    have e1:wr.cell? ⟨ba,oa+k,none⟩=some (.slice ua tk.args.length uc):=by rw [hb.cell hba];exact sE
    have tG:=Rep.below (F':=F) hb (fun _ h=>h) mf
    have mz:=Rep.below (F':=F) hb (fun _ h=>h) hr
    have lD:ke e (hand++tk.args):=hh.next HT.out (List.mem_of_getElem? d6)
    have lY:Lim (hand.length+tk.args.length):=by have:=lD.2;simp at this;show _<=_;omega
    have HS:=cH (ve (rd:=rdN e) (allHands_kid (hand:=hand) d6) HP.out)
    clear d6 sE mf
    go_wp2_with fail
    refine (bS F hand tk _ _ wr mz tG lY).mono ?_
    rintro en5 w5 ⟨a5,c5,rfl,dK,mO⟩
    have z5:=dK.size
    have HR5:=cH mO;clear mO mz tG lY
    have Q:=cH (cB sy (cB mj (cB hb dK)))
    have rl5:w.heap.size<w5.heap.size:=by omega
    have Ay:w.heap.size+1<w5.heap.size:=by omega
    go_wp2_with fail
    rw [show (en:Int)+1=((en+1:Nat):Int) from by omega,show (d:Int)+1=((d+1:Nat):Int) from by omega,<- List.length_append]
    refine (IH.out (fun k=>F k\/wr.heap.size<=k) (hand++tk.args) _ (en+1) w5 mw lD (by rw [List.length_append] at HR5 ⊢;exact HR5.out)).mono ?_
    rintro en6 w6 ⟨s6,v6,a2,n2,k2,a3,n3,k3,k6,rfl,cd,rz,s_⟩
    rw [List.length_append]
    obtain ⟨sy,mj,hb,dK⟩:=Q.out
    have z6:=cd.size
    have mZ:=dK.trans (cd.mono z5)
    have rU:=sy.below mZ rl
    have rY:=mj.below mZ ql
    have tt:=zzT hb mZ
    obtain ⟨r0,r1,r2,r3,rl6,rf⟩:=rU.cells
    obtain ⟨q0,q1,q2,q3,Ba,qf⟩:=rY.cells
    have al:=rf 0;have Ax:=rf 1;have Aw:=rf 2;have Av:=rf 3;clear rf
    have ao:=qf 2;have im:=qf 3;clear qf
    have Q2:=cH (cB mZ (cB rU rY));clear dK hb sy mj mZ rU rY cd Q
    cases hq:rdN e (hand++tk.args) (l.drop (en+1)) with
    | none =>
      obtain rfl:=rz hq
      have hm:rdN (e+1) hand (l.drop i)=none:=by
       rw [HM.out,jE (k+1) (by rw [HS.out];simp [kW,HC.out,hq])];rfl
      have HM:=cH hm;clear hm hq rz s_
      go_wp2_with fail
      obtain ⟨W,hW,s0,s1,s2,s3,cO,_⟩:=Q2.out.2.1.store (.string ⟨#[]⟩) (.int .i64 0) (.slice none 0 0) (.slice none 0 0)
      rw [<- hW]
      refine bodyPost_ret (v:=.tuple #[.agg #[str [],.int .i64 0,.slice none 0 0,.slice none 0 0],.int .i64 (-1)]) (by simp [results,Tryz.results51,go_sem,zX s0,zX s1,zX s2,zX s3]) rfl ?_
      exact jL.no HM.out ((cO _ _ tt (cC _)).alloc (cO _ _ tt (cC _)).size _)
    | some x =>
      obtain ⟨b,rest⟩:=x
      obtain ⟨rfl,me⟩:=s_ _ _ hq
      have fp:=uP (yU e hq)
      have AF:rest.length<=l.length:=by have:=(yU e hq).length_le;simp at this;omega
      obtain ⟨mn,tg⟩:=zzM (l.length-rest.length)
      rw [<- tg] at fp
      have sh:(l.length:Int)-(rest.length:Int)=(mn:Int):=by omega
      rw [sh]
      have HE2:=cH tg;clear tg sh
      have hs:zW (rdN e) ((kI hand t).take (k+1)) (l.drop i0)=some (ps++[b],l.drop mn):=by
       rw [HS.out];simp [kW,HC.out,hq,fp]
      have A2:=cH hs;have HC6:=cH me;clear hs me hq rz s_ fp
      go_wp2_with (at_builtin;refine zG rfl _ _ 78 rfl 80 (.agg #[str [],.int .i64 0,.slice none 0 0,.slice none 0 0]) 4 72 Tryz.underlying78 Tryz.infoN rfl (by decide) (.slice ka nk kc) nk kv rfl ?c1 _ 1 [str s6,.int .i64 v6,.slice a2 n2 k2,.slice a3 n3 k3] rfl ?c2 ?c3 ?c4 ?_)
      case c1 =>
       refine (HR.out.ownK.keep fun g o hg ho=>?_).alloc _ |>.alloc _
       rw [Q2.out.1.block g (zZ ho)];exact ho
      case c2=>exact zM.lit4 #[str s6,.int .i64 v6,.slice a2 n2 k2,.slice a3 n3 k3] rfl (by simp [str,Value.oneCell']) _ (by simp)
      case c3=>unfold maxLen;omega
      case c4=>omega
      intro a' c' w7 dB cq ci
      have hW:Below wr.heap.size wr ((w6.alloc (.cells #[str s6,.int .i64 v6,.slice a2 n2 k2,.slice a3 n3 k3] 80)).alloc (.cells #[str s6,.int .i64 v6,.slice a2 n2 k2,.slice a3 n3 k3] 80)):=(Q2.out.1.alloc Q2.out.1.size _).alloc (by have:=Q2.out.1.size;simp;omega) _
      have hC:zH (wr.heap.size<=·) ((w6.alloc (.cells #[str s6,.int .i64 v6,.slice a2 n2 k2,.slice a3 n3 k3] 80)).alloc (.cells #[str s6,.int .i64 v6,.slice a2 n2 k2,.slice a3 n3 k3] 80)) (kT b) [str s6,.int .i64 v6,.slice a2 n2 k2,.slice a3 n3 k3] :=
       (Rep.keep fun i o hi ho=>⟨cR z5 hi,zY (zY ho)⟩).2 _ _ HC6.out
      have hA:=HR.out.kid iC (by omega) (show w.heap.size<w.heap.size+1 by omega) hW hC dB cq (fun g hg=>by simpa only [zK] using ci g hg) A2.out (by have:=HE2.out;omega)
      have z7:=cq.size
      rw [zK,zK] at z7
      have o3:w7.cell? ⟨w.heap.size+1,2,none⟩=some (.slice ka nk kc):=by
       rw [cq.cell (by simp only [zK];omega) (fun e=>by have h:w.heap.size+2<=w.heap.size+1:=(HR.out.blkK _ e).1;omega)]
       exact zX (zX q2)
      have oy:w7.frozen? ⟨w.heap.size+1,2,none⟩=false:=by
       rw [World.frozen?_of_block (w:=w6) (by rw [cq.block _ (by simp only [zK];omega) (fun e=>by have h:w.heap.size+2<=w.heap.size+1:=(HR.out.blkK _ e).1;omega)];rw [Below.heap_alloc _ _ _ (by simp only [zK];omega),Below.heap_alloc _ _ _ (by omega)])]
       exact ao
      have HA:=cH hA;clear hA hW hC dB cq ci
      go_wp2_with fail
      go_roundw
      case rel=>exact ⟨k+1,mn,by omega,rfl,by go_num,_,_,_,_,_,_,_,HA.out⟩
      case measure=>simp [intOf];omega
   ·have oq:t.args.length<=k:=by omega
    have hkn2:¬ (k:Int)<(t.args.length:Int):=by omega
    have mz:=Rep.below (F':=F) hb (fun _ h=>h) hr
    have HS:=cH (ve (rd:=rdN e) (allHands_yes (hand:=hand) (t:=t) oq cL) HP.out)
    go_wp2_with fail
    refine (IH.out F hand _ (en+1) wr mw (by have:=hh.same;rwa [List.append_nil] at this) mz).mono ?_
    rintro en6 w6 ⟨s6,v6,a2,n2,k2,a3,n3,k3,k6,rfl,cd,rz,s_⟩
    have z6:=cd.size
    have mZ:=cd
    have rU:=sy.below mZ rl
    have rY:=mj.below mZ ql
    have tt:=zzT hb mZ
    obtain ⟨r0,r1,r2,r3,rl6,rf⟩:=rU.cells
    obtain ⟨q0,q1,q2,q3,Ba,qf⟩:=rY.cells
    have al:=rf 0;have Ax:=rf 1;have Aw:=rf 2;have Av:=rf 3;clear rf
    have ao:=qf 2;have im:=qf 3;clear qf
    have Q2:=cH (cB mZ (cB rU rY));clear hb sy mj mZ rU rY cd
    cases hq:rdN e hand (l.drop (en+1)) with
    | none =>
      obtain rfl:=rz hq
      have hm:rdN (e+1) hand (l.drop i)=none:=by
       rw [HM.out,jE (k+1) (by rw [HS.out];simp [kW,HC.out,hq])];rfl
      have HM:=cH hm;clear hm hq rz s_
      go_wp2_with fail
      obtain ⟨W,hW,s0,s1,s2,s3,cO,_⟩:=Q2.out.2.1.store (.string ⟨#[]⟩) (.int .i64 0) (.slice none 0 0) (.slice none 0 0)
      rw [<- hW]
      refine bodyPost_ret (v:=.tuple #[.agg #[str [],.int .i64 0,.slice none 0 0,.slice none 0 0],.int .i64 (-1)]) (by simp [results,Tryz.results51,go_sem,zX s0,zX s1,zX s2,zX s3]) rfl ?_
      exact jL.no HM.out ((cO _ _ tt (cC _)).alloc (cO _ _ tt (cC _)).size _)
    | some x =>
      obtain ⟨b,rest⟩:=x
      obtain ⟨rfl,me⟩:=s_ _ _ hq
      have fp:=uP (yU e hq)
      have AF:rest.length<=l.length:=by have:=(yU e hq).length_le;simp at this;omega
      obtain ⟨mn,tg⟩:=zzM (l.length-rest.length)
      rw [<- tg] at fp
      have sh:(l.length:Int)-(rest.length:Int)=(mn:Int):=by omega
      rw [sh]
      have HE2:=cH tg;clear tg sh
      have hs:zW (rdN e) ((kI hand t).take (k+1)) (l.drop i0)=some (ps++[b],l.drop mn):=by
       rw [HS.out];simp [kW,HC.out,hq,fp]
      have A2:=cH hs;have HC6:=cH me;clear hs me hq rz s_ fp
      go_wp2_with (at_builtin;refine zG rfl _ _ 78 rfl 80 (.agg #[str [],.int .i64 0,.slice none 0 0,.slice none 0 0]) 4 72 Tryz.underlying78 Tryz.infoN rfl (by decide) (.slice ya ny yc) ny yv rfl ?c1 _ 1 [str s6,.int .i64 v6,.slice a2 n2 k2,.slice a3 n3 k3] rfl ?c2 ?c3 ?c4 ?_)
      case c1 =>
       refine (HR.out.ownY.keep fun g o hg ho=>?_).alloc _ |>.alloc _
       rw [Q2.out.1.block g (zZ ho)];exact ho
      case c2=>exact zM.lit4 #[str s6,.int .i64 v6,.slice a2 n2 k2,.slice a3 n3 k3] rfl (by simp [str,Value.oneCell']) _ (by simp)
      case c3=>unfold maxLen;omega
      case c4=>omega
      intro a' c' w7 dB cq ci
      have hW:Below wr.heap.size wr ((w6.alloc (.cells #[str s6,.int .i64 v6,.slice a2 n2 k2,.slice a3 n3 k3] 80)).alloc (.cells #[str s6,.int .i64 v6,.slice a2 n2 k2,.slice a3 n3 k3] 80)):=(Q2.out.1.alloc Q2.out.1.size _).alloc (by have:=Q2.out.1.size;simp;omega) _
      have hC:zH (wr.heap.size<=·) ((w6.alloc (.cells #[str s6,.int .i64 v6,.slice a2 n2 k2,.slice a3 n3 k3] 80)).alloc (.cells #[str s6,.int .i64 v6,.slice a2 n2 k2,.slice a3 n3 k3] 80)) (kT b) [str s6,.int .i64 v6,.slice a2 n2 k2,.slice a3 n3 k3] :=
       (Rep.keep fun i o hi ho=>⟨hi,zY (zY ho)⟩).2 _ _ HC6.out
      have hA:=HR.out.yes oq (by omega) (show w.heap.size<w.heap.size+1 by omega) hW hC dB cq (fun g hg=>by simpa only [zK] using ci g hg) A2.out (by have:=HE2.out;omega)
      have z7:=cq.size
      rw [zK,zK] at z7
      have o3:w7.cell? ⟨w.heap.size+1,3,none⟩=some (.slice ya ny yc):=by
       rw [cq.cell (by simp only [zK];omega) (fun e=>by have h:w.heap.size+2<=w.heap.size+1:=HR.out.blkY _ e;omega)]
       exact zX (zX q3)
      have oy:w7.frozen? ⟨w.heap.size+1,3,none⟩=false:=by
       rw [World.frozen?_of_block (w:=w6) (by rw [cq.block _ (by simp only [zK];omega) (fun e=>by have h:w.heap.size+2<=w.heap.size+1:=HR.out.blkY _ e;omega)];rw [Below.heap_alloc _ _ _ (by simp only [zK];omega),Below.heap_alloc _ _ _ (by omega)])]
       exact im
      have HA:=cH hA;clear hA hW hC dB cq ci
      go_wp2_with fail
      go_roundw
      case rel=>exact ⟨k+1,mn,by omega,rfl,by go_num,_,_,_,_,_,_,_,HA.out⟩
      case measure=>simp [intOf];omega
  ·have iC:k=t.args.length+2:=by omega
   have d8:¬ (k:Int)<(t.args.length:Int)+2:=by omega
   have hp:zW (rdN e) (kI hand t) (l.drop i0)=some (ps,l.drop en):=by
    have:=HP.out;rwa [iC,List.take_of_length_le (by rw [vI];exact cC _)] at this
   have hm:rdN (e+1) hand (l.drop i)=(do
    let l2<-cut [41] (l.drop en)
    let b<-yL v t.args.length ps
    some (b,l2)):=by rw [HM.out,hp];rfl
   have HM:=cH hm
   have HKN:=cH iC
   clear hm hp iC
   by_cases iv:∃ h:en<l.length,l[en]=41
   rotate_left
   ·have hm:rdN (e+1) hand (l.drop i)=none:=by
     have hc:cut [41] (l.drop en)=none:=by
      by_cases h:en<l.length
      ·rw [vV h,if_neg (fun h'=>iv ⟨h,h'⟩)]
      ·exact xD (by omega)
     rw [HM.out,hc];rfl
    have HM:=cH hm;clear hm
    have eF:(l.length<=en)\/∃ h:en<l.length,((((⟨l.toArray⟩:ByteArray)[en]'(qV h)).toNat:Int) != 41)=true:=by
     by_cases h:en<l.length
     ·exact .inr ⟨h,xZ h (n:=41) (by decide) (fun h'=>iv ⟨h,h'⟩)⟩
     ·exact .inl (by omega)
    clear iv
    rcases eF with h | ⟨h,f5⟩
    ·have g1:(l.length:Int)<=(en:Int):=by omega
     go_wp2_with fail
     obtain ⟨W,hW,s0,s1,s2,s3,cO,_⟩:=sy.store (.string ⟨#[]⟩) (.int .i64 0) (.slice none 0 0) (.slice none 0 0)
     rw [<- hW]
     refine bodyPost_ret (v:=.tuple #[.agg #[str [],.int .i64 0,.slice none 0 0,.slice none 0 0],.int .i64 (-1)]) (by simp [results,Tryz.results51,go_sem,s0,s1,s2,s3]) rfl ?_
     exact jL.no HM.out (cO _ _ hb (cC _))
    ·go_wp2_with fail
     obtain ⟨W,hW,s0,s1,s2,s3,cO,_⟩:=sy.store (.string ⟨#[]⟩) (.int .i64 0) (.slice none 0 0) (.slice none 0 0)
     rw [<- hW]
     refine bodyPost_ret (v:=.tuple #[.agg #[str [],.int .i64 0,.slice none 0 0,.slice none 0 0],.int .i64 (-1)]) (by simp [results,Tryz.results51,go_sem,s0,s1,s2,s3]) rfl ?_
     exact jL.no HM.out (cO _ _ hb (cC _))
   obtain ⟨mw,iv⟩:=iv
   have f5:=um mw (n:=41) (by decide) iv
   have g1:decide ((en:Int)<0)=false:=by rw [decide_eq_false_iff_not];omega
   have g2:decide (l.length<=en)=false:=by rw [decide_eq_false_iff_not];omega
   have HC:Hid (cut [41] (l.drop en)=some (l.drop (en+1))):=by show cut [41] (l.drop en)=_;rw [vV mw,if_pos iv]
   clear iv
   go_wp2_with fail
   obtain ⟨W,hW,s0,s1,s2,s3,cO,fJ⟩:=sy.store (str []) (.int .i64 v) (.slice ka nk kc) (.slice ya ny yc)
   have aG:=HR.out
   have hps:=aG.len
   have hnk:=aG.hnk
   have hny:=aG.hny
   have iC:=HKN.out
   obtain ⟨y1,y2,oK⟩:∃ y1 y2,ps.drop t.args.length=[y1,y2]:=by
    match hd:ps.drop t.args.length with
    | [a,b]=>exact ⟨a,b,rfl⟩
    | []=>have:=congrArg List.length hd;simp at this;omega
    | [a]=>have:=congrArg List.length hd;simp at this;omega
    | a::b::c::d=>have:=congrArg List.length hd;simp at this;omega
   have hm:rdN (e+1) hand (l.drop i)=some (.ask v (ps.take t.args.length) y1 y2,l.drop (en+1)):=by
    rw [HM.out,HC.out];simp [yL,oK]
   have oR:nk=(ps.take t.args.length).length:=by simp;omega
   have oM:ny=2:=by omega
   rw [<- hW]
   refine bodyPost_ret (v:=.tuple #[.agg #[str [],.int .i64 v,.slice ka nk kc,.slice ya ny yc],.int .i64 ((en:Int)+1)]) (by simp [results,Tryz.results51,go_sem,s0,s1,s2,s3]) rfl ?_
   refine jL.yes (s:=[]) hm (by simp;omega) (cO _ _ hb (cC _)) ?_
   rw [wk]
   refine zV.2 ⟨_,_,rfl,zj.2 rfl,zV.2 ⟨_,_,rfl,zj.2 rfl,zV.2 ⟨_,_,rfl,?_,zV.2 ⟨_,_,rfl,?_,zF.2 rfl⟩⟩⟩⟩
   ·rw [<- oR]
    refine (aG.ownK.keep fun g o hg ho=>fJ g o (by have:=(aG.blkK g hg).1;omega) ho).rep (fun g hg=>by have:=(aG.blkK g hg).1;omega) ?_
    exact (Rep.keep fun x o hx ho=>⟨by have:=hx.1;omega,fJ x o (by have:=hx.1;omega) ho⟩).2 _ _ aG.repK
   ·have de:=aG.repY
    rw [oK] at de
    rw [<- oM]
    refine (aG.ownY.keep fun g o hg ho=>fJ g o (by have:=aG.blkY g hg;omega) ho).rep (fun g hg=>by have:=aG.blkY g hg;omega) ?_
    exact (Rep.keep fun x o hx ho=>⟨by have:=hx.1;omega,fJ x o (by have:=hx.1;omega) ho⟩).2 _ _ de
theorem l3Read_any (l:Bs) (hl:Lim l.length) (e:Nat):∀ d,e+d=101->NodeSaid l e d:=by
 induction e with
 | zero=>exact fun d AU F hand hv i w hi _ hr=>wS l hl 0 d AU F hand hv i w hi hr (fun _=>.inl rfl)
 | succ e ih =>
   intro d AU F hand hv i w hi hh hr
   by_cases h:∃ h:i<l.length,l[i]=40
   ·obtain ⟨h,d_⟩:=h
    exact l3Read_ask l hl e d AU (ih (d+1) (by omega)) F hand hv i w h hh hr d_
   ·exact wS l hl (e+1) d AU F hand hv i w hi hr (fun h'=>.inr fun d_=>h ⟨h',d_⟩)
def qU:Bd->List Bd
 | .leaf _=>[]
 | .ask _ ss _ _=>ss
def qr:Bd->List Bd
 | .leaf _=>[]
 | .ask _ _ y n=>[y,n]
def z8:Bd->Bs
 | .leaf c=>[c]
 | .ask _ _ _ _=>[]
def AtN (F:Nat->Prop) (w:World) (bs:List Bd) (a:Option Addr) (k:Nat):Prop :=
 ∃ b o s v a2 n2 c2 a3 n3 c3 d,a=some ⟨b,o,none⟩/\b<w.heap.size/\bs[k]? = some d/\w.cell? ⟨b,o+k*4,none⟩=some (str s)/\w.cell? ⟨b,o+k*4+1,none⟩=some (.int .i64 v) /\
   w.cell? ⟨b,o+k*4+2,none⟩=some (.slice a2 n2 c2)/\w.cell? ⟨b,o+k*4+3,none⟩=some (.slice a3 n3 c3)/\zH F w (kT d) [str s,.int .i64 v,.slice a2 n2 c2,.slice a3 n3 c3]
def AtNs (F:Nat->Prop) (w:World) (bs:List Bd) (a:Option Addr):Prop:=∀ k,k<bs.length->AtN F w bs a k
theorem jw {F:Nat->Prop} {w:World} {b:Bd} {vs:List Value} (h:zH F w (kT b) vs) :
 ∃ v a2 c2 a3 c3,vs=[str (z8 b),.int .i64 v,.slice a2 (qU b).length c2,.slice a3 (qr b).length c3] /\
   Rep F w (.sl 80 4 (qU b).length (zl (qU b))) (.slice a2 (qU b).length c2)/\Rep F w (.sl 80 4 (qr b).length (zl (qr b))) (.slice a3 (qr b).length c3):=by
 have key:∀ (s:Bs) (v:Int) (d2 d3:DV) (n2 n3:Nat) (k2 k3:List DV),d2=.sl 80 4 n2 k2->d3=.sl 80 4 n3 k3->zH F w [.val (str s),.val (.int .i64 v),d2,d3] vs ->
  ∃ a2 c2 a3 c3,vs=[str s,.int .i64 v,.slice a2 n2 c2,.slice a3 n3 c3]/\Rep F w d2 (.slice a2 n2 c2)/\Rep F w d3 (.slice a3 n3 c3):=by
  intro s v d2 d3 n2 n3 k2 k3 e2 e3 h
  obtain ⟨_,_,rfl,h0,h⟩:=zV.1 h
  obtain ⟨_,_,rfl,h1,h⟩:=zV.1 h
  obtain ⟨_,_,rfl,h2,h⟩:=zV.1 h
  obtain ⟨_,_,rfl,h3,h⟩:=zV.1 h
  rw [zF] at h;subst h
  rw [zj] at h0 h1
  subst h0;subst h1
  have h2':=h2;have h3':=h3
  rw [e2] at h2';rw [e3] at h3'
  obtain ⟨_,a2,c2,e2',_⟩:=kM.1 h2'
  obtain ⟨_,a3,c3,e3',_⟩:=kM.1 h3'
  subst e2';subst e3'
  exact ⟨a2,c2,a3,c3,rfl,h2,h3⟩
 cases b with
 | leaf c =>
   rw [kT] at h
   obtain ⟨a2,c2,a3,c3,e,h2,h3⟩:=key _ _ _ _ 0 0 [] [] rfl rfl h
   exact ⟨_,a2,c2,a3,c3,e,h2,h3⟩
 | ask v ss y n =>
   rw [wk] at h
   obtain ⟨a2,c2,a3,c3,e,h2,h3⟩:=key _ _ _ _ _ _ _ _ rfl rfl h
   exact ⟨_,a2,c2,a3,c3,e,h2,h3⟩
theorem AtNs.of {F:Nat->Prop} {w:World} {bs:List Bd} {v:Value} (h:Rep F w (.sl 80 4 bs.length (zl bs)) v):∃ a c,v=.slice a bs.length c/\AtNs F w bs a:=by
 obtain ⟨hl,a,c,rfl,hn,hz,h⟩:=kM.1 h
 refine ⟨a,c,rfl,fun k hk=>?_⟩
 rcases h with h | ⟨b,o,cs,fr,rfl,hb,hc,hr⟩
 ·omega
 ·have hs:zl bs=zl (bs.take k)++(kT bs[k]++zl (bs.drop (k+1))):=by
   have e1:kT bs[k]=zl [bs[k]]:=by simp [zl]
   rw [e1,<- k9,<- k9]
   congr 1
   simp
  rw [hs] at hr
  obtain ⟨h1,h2⟩:=hr.split
  obtain ⟨h3,h4⟩:=h2.split
  have aI:(zl (bs.take k)).length=k*4:=by rw [wO];simp;omega
  rw [aI,qz] at h3
  obtain ⟨v,a2,c2,a3,c3,e,_⟩:=jw h3
  have hat:∀ j u,([str (z8 bs[k]),.int .i64 v,.slice a2 (qU bs[k]).length c2,.slice a3 (qr bs[k]).length c3]:List Value)[j]? = some u->w.cell? ⟨b,o+k*4+j,none⟩=some u:=by
   intro j u hu
   rw [<- e] at hu
   have hj:j<4:=by
    have:=(List.getElem?_eq_some_iff.1 hu).1
    simp at this;omega
   rw [List.getElem?_take,if_pos hj,List.getElem?_drop,List.getElem?_take] at hu
   split at hu
   ·rw [List.getElem?_drop] at hu
    simp only [World.cell?,hc]
    rw [Nat.add_assoc]
    simpa using hu
   ·simp at hu
  refine ⟨b,o,_,v,a2,_,c2,a3,_,c3,bs[k],rfl,zZ hc,by simp [hk],hat 0 _ rfl,hat 1 _ rfl,hat 2 _ rfl,hat 3 _ rfl,?_⟩
  rw [<- e];exact h3
theorem bG (b:Bd):uH b=qU b++qr b:=by cases b <;> rfl
def BoxN (g:Nat) (s:Bs) (k y:Value) (w:World):Prop :=
 w.cell? ⟨g,0,none⟩=some (str s)/\w.cell? ⟨g,2,none⟩=some k/\w.cell? ⟨g,3,none⟩=some y
theorem BoxN.below {g:Nat} {s:Bs} {k y:Value} {w w':World} (h:BoxN g s k y w) (hb:Below w.heap.size w w'):BoxN g s k y w':=by
 obtain ⟨h1,h2,h3⟩:=h
 have:=cD w _ h1
 exact ⟨by rw [hb.cell (by exact this)];exact h1,by rw [hb.cell (by exact this)];exact h2,by rw [hb.cell (by exact this)];exact h3⟩
def pL (b:Bd):Prop:=∀ (F:Nat->Prop) (w:World) (s:Bs) (v:Int) (a2:Option Addr) (n2 c2:Nat) (a3:Option Addr) (n3 c3:Nat),zH F w (kT b) [str s,.int .i64 v,.slice a2 n2 c2,.slice a3 n3 c3] ->
 Calls Tryz.prog 52 #[.agg #[str s,.int .i64 v,.slice a2 n2 c2,.slice a3 n3 c3]] w fun en w'=>en=.returned (.int .i64 (zk b))/\Below w.heap.size w w'
set_option maxRecDepth 100000 in
theorem l3Size_step (b:Bd) (hl:Lim (zk b)) (ih:∀ b',zk b'<zk b->pL b'):pL b:=by
 intro F w s v a2 n2 c2 a3 n3 c3 hv
 have io:=jw hv
 obtain ⟨v',D4,DY,a3',c3',e,hk,hy⟩:=io
 simp only [List.cons.injEq,Value.slice.injEq,and_true] at e
 obtain ⟨e0,e1,⟨rfl,e2,rfl⟩,⟨rfl,e3,rfl⟩⟩:=e
 clear e0 e1
 subst e2;subst e3
 obtain ⟨_,_,ek,Dy⟩:=AtNs.of hk
 obtain ⟨_,_,ey,Dx⟩:=AtNs.of hy
 simp only [Value.slice.injEq,true_and] at ek ey
 obtain ⟨rfl,rfl⟩:=ek
 obtain ⟨rfl,rfl⟩:=ey
 have IH:=cH ih;clear ih
 have fM:=hl.le
 have hsz:=yd b
 rw [bG,kx] at hsz
 have aI:=j7 (qU b)
 have hyl:=j7 (qr b)
 have E1:=cH hsz
 have kl:(qU b).length<=16777216:=by omega
 have yl:(qr b).length<=16777216:=by omega
 have ATK:=cH Dy;have ATY:=cH Dx
 clear Dy Dx hk hy hv hsz aI hyl
 generalize hK:qU b=kids at *
 generalize hY:qr b=yess at *
 clear hK hY
 go_enter Tryz.func52,Tryz.ntmps52
 go_wp2_with fail
 go_loopw [3,4] (fun n i wr=>∃ k:Nat,k<=kids.length/\i=.int .i64 k/\n=.int .i64 ((1+zN (kids.take k):Nat):Int)/\Below w.heap.size w wr/\BoxN w.heap.size s (.slice a2 kids.length c2) (.slice a3 yess.length c3) wr) (fun _ i _=>kids.length-(intOf i).toNat)
 case atStart=>exact ⟨0,Nat.zero_le _,rfl,by simp [zN],(cE _ _).alloc (cC _) _,by simp,by simp,by simp⟩
 case round =>
  rename_i wr
  obtain ⟨k,hk,rfl,rfl,hb,hc⟩:=hrel
  obtain ⟨nO,fV,rx⟩:=id hc
  by_cases cL:k<kids.length
  ·obtain ⟨bb,o,s',v',b2,m2,d2,b3,m3,d3,t,rfl,hbb,ht,u0,u1,u2,u3,hr⟩:=ATK.out k cL
   have q0:=(hb.cell hbb).trans u0
   have q1:=(hb.cell hbb).trans u1
   have q2:=(hb.cell hbb).trans u2
   have q3:=(hb.cell hbb).trans u3
   have mz:=(zH.below (F':=F) hb (fun _ h=>h) hr)
   have hs:=yh ht
   have eX:=vi kids (k+1)
   have ml:=E1.out
   have hp:=jY t
   have IH':=cH (IH.out t (by omega))
   have HS:=cH hs
   have b1:1+zN (kids.take k)+zk t<=16777216:=by omega
   have hz:=cD wr _ nO
   clear hs ht ml u0 u1 u2 u3 hr
   go_wp2_with fail
   refine (IH'.out _ _ _ _ _ _ _ _ _ _ mz).mono ?_
   rintro en w2 ⟨rfl,cS⟩
   have cr:=zzT hb cS
   obtain ⟨nO,fV,rx⟩:=id (hc.below cS)
   have si:=cH (hc.below cS)
   go_wp2_with fail
   go_roundw
   case rel=>exact ⟨k+1,by omega,by go_num,by rw [HS.out] <;> go_num,cr,si.out⟩
   case measure=>simp [intOf];omega
  ·obtain rfl:k=kids.length:=by omega
   rw [List.take_length]
   have bK:1+zN kids<=16777216:=by have:=E1.out;omega
   clear hk cL
   go_wp2_with fail
   have mM:=hb;have rW:=hc
   clear hb hc nO fV rx
   go_loopw [3,5] (fun n i wr=>∃ k:Nat,k<=yess.length/\i=.int .i64 k/\n=.int .i64 ((1+zN kids+zN (yess.take k):Nat):Int)/\Below w.heap.size w wr/\BoxN w.heap.size s (.slice a2 kids.length c2) (.slice a3 yess.length c3) wr) (fun _ i _=>yess.length-(intOf i).toNat)
   case atStart=>exact ⟨0,Nat.zero_le _,rfl,by simp [zN],mM,rW⟩
   case round =>
    clear mM rW
    obtain ⟨k,hk,rfl,rfl,hb,hc⟩:=hrel
    obtain ⟨nO,fV,rx⟩:=id hc
    by_cases cL:k<yess.length
    ·obtain ⟨bb,o,s',v',b2,m2,d2,b3,m3,d3,t,rfl,hbb,ht,u0,u1,u2,u3,hr⟩:=ATY.out k cL
     have q0:=(hb.cell hbb).trans u0
     have q1:=(hb.cell hbb).trans u1
     have q2:=(hb.cell hbb).trans u2
     have q3:=(hb.cell hbb).trans u3
     have mz:=(zH.below (F':=F) hb (fun _ h=>h) hr)
     have hs:=yh ht
     have eX:=vi yess (k+1)
     have ml:=E1.out
     have hp:=jY t
     have IH':=cH (IH.out t (by omega))
     have HS:=cH hs
     have b1:1+zN kids+zN (yess.take k)+zk t<=16777216:=by omega
     have hz:=cD _ _ nO
     clear hs ht ml u0 u1 u2 u3 hr
     go_wp2_with fail
     refine (IH'.out _ _ _ _ _ _ _ _ _ _ mz).mono ?_
     rintro en w2 ⟨rfl,cS⟩
     have cr:=zzT hb cS
     obtain ⟨nO,fV,rx⟩:=id (hc.below cS)
     have si:=cH (hc.below cS)
     go_wp2_with fail
     go_roundw
     case rel=>exact ⟨k+1,by omega,by go_num,by rw [HS.out] <;> go_num,cr,si.out⟩
     case measure=>simp [intOf];omega
    ·obtain rfl:k=yess.length:=by omega
     go_wp2_with fail
     go_ret
     exact ⟨u_ (by rw [E1.out,List.take_length];omega),hb⟩
theorem l3Size_any (n:Nat):∀ b,zk b<=n->Lim n->pL b:=by
 induction n with
 | zero=>intro b h _;have:=jY b;omega
 | succ n ih=>exact fun b h hn=>l3Size_step b (hn.mono h) (fun b' h'=>ih b' (by omega) (hn.mono (by omega)))
theorem str_inj {a b:Bs} (h:str a=str b):a=b:=by
 simp only [str,Value.string.injEq,ByteArray.mk.injEq] at h
 simpa using congrArg Array.toList h
theorem oneCell_encN {F:Nat->Prop} {w:World} {b:Bd} {us:List Value} (h:zH F w (kT b) us):∀ u∈us,u.oneCell'=true:=by
 obtain ⟨v,a2,c2,a3,c3,rfl,_⟩:=jw h
 simp [str,Value.oneCell']
theorem Tryz.infoBo:(Tryz.prog.info? 136).map (fun i=>(i.zero,i.size,i.bytes))=some (some (.agg #[.int .i64 0,str [],.int .i64 0,.slice none 0 0,.slice none 0 0,.slice none 0 0,.slice none 0 0,.int .i64 0,.int .i64 0]),9,144):=by kernel_rfl
def zI (s text:Bs):Option Bd :=
 if (zQ s).2=false\/2000<text.length then none else
 match rdN 101 (zQ s).1.args text with
 | none=>none
 | some (b,rest)=>if rest=[]/\zk b<=200 then some b else none
theorem qI {l:Bs} (h:(zQ l).2=true):zU (zQ l).1<=15:=by
 unfold zQ at *
 split at h
 ·simp at h
 ·rename_i hl
  rw [if_neg hl]
  cases hq:rdS 21 l with
  | none=>rw [hq] at h;simp at h
  | some x=>rw [hq] at h;obtain ⟨t,rest⟩:=x;simp at h;exact h.2
theorem yB {t:Ty} (h:zU t<=15):ke 101 t.args:=by
 have hm:=zg t
 have key:∀ (ts:List Ty) (x:Ty),x∈ts->zU x<=zR ts:=by
  intro ts
  induction ts with
  | nil=>intro x hx;simp at hx
  | cons y ys ih =>
    intro x hx
    rcases List.mem_cons.1 hx with rfl | hx
    ·simp [zR];omega
    ·have:=ih x hx;simp [zR];omega
 refine ⟨fun x hx=>?_,?_⟩
 ·have:=key t.args x hx;omega
 ·have:=zd t.args;omega
theorem y_ {w:World} {p a:Addr} {u v:Value} (h:w.cell? a=some v) (hne:a.block≠p.block):(w.setCell p u).cell? a=some v:=by
 rw [World.cell?_of_block (w:=w) (cF _ _ _ _ hne)];exact h
theorem yM {w w':World} {a:Addr} {v:Value} (h:w.cell? a=some v) (hk:∀ x,w.heap[a.block]? = some x->w'.heap[a.block]? = some x):w'.cell? a=some v:=by
 have cL:=cD w a h
 rw [World.cell?_of_block (w:=w)]
 ·exact h
 ·rw [hk _ (Array.getElem?_eq_getElem cL),Array.getElem?_eq_getElem cL]
abbrev KeepS (g1 g2:Nat) (T u0 u1 u2 u3:Value) (w:World):Prop :=
 w.cell? ⟨g1,0,none⟩=some T/\w.cell? ⟨g2,0,none⟩=some u0/\w.cell? ⟨g2,1,none⟩=some u1/\w.cell? ⟨g2,2,none⟩=some u2/\w.cell? ⟨g2,3,none⟩=some u3
theorem KeepS.set {g1 g2:Nat} {T u0 u1 u2 u3:Value} {w:World} (h:KeepS g1 g2 T u0 u1 u2 u3 w) (b o:Nat) (u:Value) (h1:g1≠b) (h2:g2≠b):KeepS g1 g2 T u0 u1 u2 u3 (w.setCell ⟨b,o,none⟩ u) :=
 ⟨y_ h.1 h1,y_ h.2.1 h2,y_ h.2.2.1 h2,y_ h.2.2.2.1 h2,y_ h.2.2.2.2 h2⟩
def qT (s text:Bs) (w:World) (en:Ending) (w':World):Prop :=
 ∃ (a:Option Addr) (c:Nat) (s':Bs) (v':Int) (a2:Option Addr) (n2 c2:Nat) (a3:Option Addr) (n3 c3:Nat),
   en=.returned (.tuple #[.agg #[.slice a (zQ s).1.args.length c],.agg #[str s',.int .i64 v',.slice a2 n2 c2,.slice a3 n3 c3],.bool (zI s text).isSome])/\Below w.heap.size w w' /\
   Rep (w.heap.size<=·) w' (jA (zQ s).1) (.slice a (zQ s).1.args.length c) /\
   (∀ b,zI s text=some b->zH (w.heap.size<=·) w' (kT b) [str s',.int .i64 v',.slice a2 n2 c2,.slice a3 n3 c3])
theorem qT.no {s text:Bs} {w w':World} {a:Option Addr} {c:Nat} {v:Value} (hv:v=.slice a (zQ s).1.args.length c) {s':Bs} {v':Int} {a2:Option Addr} {n2 c2:Nat} {a3:Option Addr} {n3 c3:Nat} {f:Bool} (hf:f=false) (hn:zI s text=none) (hb:Below w.heap.size w w')
 (hr:Rep (w.heap.size<=·) w' (jA (zQ s).1) v) :
 qT s text w (.returned (.tuple #[.agg #[v],.agg #[str s',.int .i64 v',.slice a2 n2 c2,.slice a3 n3 c3],.bool f])) w':=by
 subst hv;subst hf
 exact ⟨a,c,s',v',a2,n2,c2,a3,n3,c3,by rw [hn];rfl,hb,hr,fun b h=>by rw [hn] at h;simp at h⟩
theorem qT.yes {s text:Bs} {w w':World} {a:Option Addr} {c:Nat} {v:Value} (hv:v=.slice a (zQ s).1.args.length c) {s':Bs} {v':Int} {a2:Option Addr} {n2 c2:Nat} {a3:Option Addr} {n3 c3:Nat} {f:Bool} {b:Bd} (hf:f=true) (hn:zI s text=some b) (hb:Below w.heap.size w w')
 (hr:Rep (w.heap.size<=·) w' (jA (zQ s).1) v) (dX:zH (w.heap.size<=·) w' (kT b) [str s',.int .i64 v',.slice a2 n2 c2,.slice a3 n3 c3]) :
 qT s text w (.returned (.tuple #[.agg #[v],.agg #[str s',.int .i64 v',.slice a2 n2 c2,.slice a3 n3 c3],.bool f])) w':=by
 subst hv;subst hf
 exact ⟨a,c,s',v',a2,n2,c2,a3,n3,c3,by rw [hn];rfl,hb,hr,fun b' h=>by rw [hn] at h;simp at h;subst h;exact dX⟩
set_option maxRecDepth 100000 in
theorem y7 (s text:Bs) (hs:Lim s.length) (hl:Lim text.length) (w:World):Calls Tryz.prog 30 #[str s,str text] w (qT s text w):=by
 have fE:=hs.le
 have fM:=hl.le
 go_enter Tryz.func30,Tryz.ntmps30
 go_wp2_with fail
 refine (xl s hs _).mono ?_
 rintro en w1 ⟨v1,rfl,cT,m8⟩
 have z1:=cT.size
 rw [zK,zK] at z1
 obtain ⟨a1,c1,e1⟩:=kJ m8
 have E1:=cH e1
 have dm:Below w.heap.size w w1:=(((cE w.heap.size w).alloc (cC _) _).alloc (by simp) _).trans (cT.mono (by simp;omega))
 have eK:w.heap.size<w1.heap.size:=by omega
 have rS:w.heap.size+1<w1.heap.size:=by omega
 have r0:w1.cell? ⟨w.heap.size,0,none⟩=some (.slice none 0 0):=by rw [cT.cell (by simp only [zK];omega)];exact zX (by simp)
 have al:w1.frozen? ⟨w.heap.size,0,none⟩=false:=by
  rw [cT.frozen (by simp only [zK];omega)]
  rw [World.frozen?_of_block (w:=w.alloc (.cells #[.slice none 0 0] 77)) (Below.heap_alloc _ _ _ (by simp))];simp
 have hN:kD (w.heap.size+1) 0 (.slice none 0 0) (.slice none 0 0) w1:=by
  unfold kD;rw [cT.block _ (by simp)]
  have:=zT (w.alloc (.cells #[.slice none 0 0] 77)) (.cells #[str [],.int .i64 0,.slice none 0 0,.slice none 0 0] 80)
  rw [zK] at this;exact this
 subst e1
 have sZ:Rep (w.heap.size+1 < ·) w1 (jA (zQ s).1) (.slice a1 (zQ s).1.args.length c1):=(Rep.keep fun b o h ho=>⟨by have:=vr h;rw [zK] at this;omega,ho⟩).1 _ _ m8
 have HS:Hid (zI s text=if (zQ s).2=false\/2000<text.length then none else
  match rdN 101 (zQ s).1.args text with
  | none=>none
  | some (b,rest)=>if rest=[]/\zk b<=200 then some b else none):=rfl
 have ip:=cH (qI (l:=s))
 generalize hT:(zQ s).1=t at *
 generalize hO:(zQ s).2=ok at *
 have HT:=cH hT;clear hT hO m8
 obtain ⟨q0,q1,q2,q3,ql,qf⟩:=hN.cells
 have qf0:=qf 0;have qf1:=qf 1;have ao:=qf 2;have im:=qf 3;clear qf
 by_cases eF:ok=true/\text.length<=2000
 rotate_left
 ·have hn:zI s text=none:=by
   rw [HS.out,if_pos]
   cases ok with
   | false=>exact .inl rfl
   | true=>exact .inr (by simp at eF;omega)
  have HN:=cH hn;clear hn
  have eF:ok=false\/(ok=true/\(2000:Int)<(text.length:Int)):=by
   cases ok with
   | false=>exact .inl rfl
   | true=>exact .inr ⟨rfl,by simp at eF;omega⟩
  have h0:kD (w.heap.size+1) 0 (.slice none 0 0) (.slice none 0 0) (w1.setCell ⟨w.heap.size,0,none⟩ (.slice a1 t.args.length c1)):=by
   unfold kD;rw [cF _ _ _ _ (by simp)];exact hN
  obtain ⟨W,hW,s0,s1,s2,s3,cO,fJ⟩:=h0.store (.string ⟨#[]⟩) (.int .i64 0) (.slice none 0 0) (.slice none 0 0)
  have t0:W.cell? ⟨w.heap.size,0,none⟩=some (.slice a1 t.args.length c1):=yM (qS r0 _) fun x hx=>fJ _ x (by simp) hx
  have fY:=cO _ _ (dm.setCell (p:=⟨w.heap.size,0,none⟩) (cC _) (.slice a1 t.args.length c1)) (by omega)
  have lZ:Rep (w.heap.size<=·) W (jA t) (.slice a1 t.args.length c1):=(Rep.keep fun b o h ho=>⟨by omega,fJ b o (by omega) (by rw [cF _ _ _ _ (by simp;omega)];exact ho)⟩).1 _ _ sZ
  have FIN:Hid (∀ o,qT s text w (.returned (.tuple #[.agg #[.slice a1 t.args.length c1],.agg #[str [],.int .i64 0,.slice none 0 0,.slice none 0 0],.bool false])) (W.alloc o)):=fun o =>
   qT.no (a:=a1) (c:=c1) (by rw [HT.out]) rfl HN.out (fY.alloc fY.size o) (by rw [HT.out];exact (Rep.keep fun b o h ho=>⟨h,zY ho⟩).1 _ _ lZ)
  have HW:=cH hW;clear h0 hW cO fJ fY lZ
  rcases eF with rfl | ⟨rfl,h⟩
  all_goals
   go_wp2_with fail
   rw [<- HW.out]
   refine bodyPost_ret (v:=.tuple #[.agg #[.slice a1 t.args.length c1],.agg #[str [],.int .i64 0,.slice none 0 0,.slice none 0 0],.bool false]) (by simp [results,Tryz.results30,go_sem,zX t0,zX s0,zX s1,zX s2,zX s3]) rfl ?_
   exact FIN.out _
 obtain ⟨rfl,oW⟩:=eF
 have htl':¬ (2000:Int)<(text.length:Int):=by omega
 have hat:=ip.out rfl
 have hm:zI s text=(match rdN 101 t.args text with
  | none=>none
  | some (b,rest)=>if rest=[]/\zk b<=200 then some b else none):=by rw [HS.out,if_neg (by simp;omega)]
 have HM:=cH hm;clear hm HS ip
 have hvE:=sZ
 rw [qE] at hvE
 have hho:=yB hat
 go_wp2_with fail
 refine (l3Read_any text hl 101 0 rfl (w.heap.size+1 < ·) t.args _ 0 _ (Nat.zero_le _) hho (by exact (Rep.keep fun b o h ho=>⟨h,zY ho⟩).1 _ _ hvE)).mono ?_
 rw [List.drop_zero]
 rintro en w2 ⟨s',v',a2,n2,c2,a3,n3,c3,k,rfl,cS,fQ,fC⟩
 have z2:=cS.size
 rw [zK] at z2
 have rD:Below w.heap.size w w2:=(dm.alloc (by omega) _).trans (cS.mono (by rw [zK];omega))
 have r0':w2.cell? ⟨w.heap.size,0,none⟩=some (.slice none 0 0):=by rw [cS.cell (by rw [zK];simp only;omega)];exact zX r0
 have rf0':w2.frozen? ⟨w.heap.size,0,none⟩=false:=by rw [cS.frozen (by rw [zK];simp only;omega)];rw [World.frozen?_of_block (w:=w1) (Below.heap_alloc _ _ _ eK)];exact al
 have hN':kD (w.heap.size+1) 0 (.slice none 0 0) (.slice none 0 0) w2:=by
  unfold kD;rw [cS.block _ (by rw [zK];omega)];exact zY hN
 have hT2:w2.cell? ⟨w1.heap.size,0,none⟩=some (.slice a1 t.args.length c1):=by rw [cS.cell (by rw [zK];simp only;omega)];simp
 have il:Rep (w.heap.size+1 < ·) w2 (jA t) (.slice a1 t.args.length c1):=(Rep.keep fun b o h ho=>⟨h,by rw [cS.block b (by have:=zZ ho;rw [zK];omega)];exact zY ho⟩).1 _ _ sZ
 clear r0 al hN q0 q1 q2 q3 ql qf0 qf1 ao im hvE sZ hho
 obtain ⟨q0,q1,q2,q3,ql,qf⟩:=hN'.cells
 have qf0:=qf 0;have qf1:=qf 1;have ao:=qf 2;have im:=qf 3;clear qf
 have y1:w.heap.size<w2.heap.size:=by omega
 have y2:w1.heap.size<w2.heap.size:=by omega
 have dS:=cH cS;clear cS
 by_cases hk:k=(text.length:Int)
 rotate_left
 ·have g1:(k == (text.length:Int))=false:=by rw [beq_eq_false_iff_ne];exact hk
  have hn:zI s text=none:=by
   rw [HM.out]
   cases hq:rdN 101 t.args text with
   | none=>rfl
   | some x =>
     obtain ⟨b,rest⟩:=x
     have h1:=(fC b rest hq).1
     simp only
     rw [if_neg]
     rintro ⟨rfl,_⟩
     exact hk (by rw [h1];simp)
  have HN:=cH hn
  clear hn hk fQ fC
  have h0:kD (w.heap.size+1) 0 (.slice none 0 0) (.slice none 0 0) (w2.setCell ⟨w.heap.size,0,none⟩ (.slice a1 t.args.length c1)):=by
   unfold kD;rw [cF _ _ _ _ (by simp)];exact hN'
  obtain ⟨W,hW,s0,s1,s2,s3,cO,fJ⟩:=h0.store (str s') (.int .i64 v') (.slice a2 n2 c2) (.slice a3 n3 c3)
  have t0:W.cell? ⟨w.heap.size,0,none⟩=some (.slice a1 t.args.length c1):=yM (qS r0' _) fun x hx=>fJ _ x (by simp) hx
  have fY:=cO _ _ (rD.setCell (p:=⟨w.heap.size,0,none⟩) (cC _) (.slice a1 t.args.length c1)) (by omega)
  have lZ:Rep (w.heap.size<=·) W (jA t) (.slice a1 t.args.length c1):=(Rep.keep fun b o h ho=>⟨by omega,fJ b o (by omega) (by rw [cF _ _ _ _ (by simp;omega)];exact ho)⟩).1 _ _ il
  have FIN:Hid (∀ o,qT s text w (.returned (.tuple #[.agg #[.slice a1 t.args.length c1],.agg #[str s',.int .i64 v',.slice a2 n2 c2,.slice a3 n3 c3],.bool false])) (W.alloc o).drew):=fun o =>
   qT.no (a:=a1) (c:=c1) (by rw [HT.out]) rfl HN.out ((fY.alloc fY.size o).drew) (by rw [HT.out];exact ((Rep.keep fun b o h ho=>⟨h,zY ho⟩).1 _ _ lZ).drew)
  have HW:=cH hW;clear h0 hW cO fJ fY lZ
  go_wp2_with fail
  go_region
  go_wp2_with fail
  rw [<- HW.out]
  refine bodyPost_ret (v:=.tuple #[.agg #[.slice a1 t.args.length c1],.agg #[str s',.int .i64 v',.slice a2 n2 c2,.slice a3 n3 c3],.bool false]) (by simp [results,Tryz.results30,go_sem,zX t0,zX s0,zX s1,zX s2,zX s3]) rfl ?_
  exact FIN.out _
 obtain ⟨b,hqb⟩:∃ b,rdN 101 t.args text=some (b,[]):=by
  cases hq:rdN 101 t.args text with
  | none=>have:=fQ hq;omega
  | some x =>
    obtain ⟨b,rest⟩:=x
    have h1:=(fC b rest hq).1
    have:rest.length=0:=by omega
    rw [List.eq_nil_of_length_eq_zero this];exact ⟨b,rfl⟩
 have hrB:=(fC b [] hqb).2
 have hsz:=rdN_size 101 hqb
 have hm:zI s text=if zk b<=200 then some b else none:=by
  rw [HM.out,hqb];simp
 have HM:=cH hm
 have hlB:Lim (zk b):=hl.mono (by simp at hsz;omega)
 have g1:(k == (text.length:Int))=true:=by rw [beq_iff_eq];exact hk
 clear hm hqb fQ fC hsz
 have HK:=cH hk;clear hk
 have AG:zH (w.heap.size+1 < ·) (w2.alloc (.cells #[str s',.int .i64 v',.slice a2 n2 c2,.slice a3 n3 c3] 80)) (kT b) [str s',.int .i64 v',.slice a2 n2 c2,.slice a3 n3 c3] :=
  (Rep.keep fun b o h ho=>⟨by have:=vr h;omega,zY ho⟩).2 _ _ hrB
 have hTA:(w2.alloc (.cells #[str s',.int .i64 v',.slice a2 n2 c2,.slice a3 n3 c3] 80)).cell? ⟨w1.heap.size,0,none⟩=some (.slice a1 t.args.length c1):=zX hT2
 have n0:(w2.alloc (.cells #[str s',.int .i64 v',.slice a2 n2 c2,.slice a3 n3 c3] 80)).cell? ⟨w2.heap.size,0,none⟩=some (str s'):=by simp
 have n1:(w2.alloc (.cells #[str s',.int .i64 v',.slice a2 n2 c2,.slice a3 n3 c3] 80)).cell? ⟨w2.heap.size,1,none⟩=some (.int .i64 v'):=by simp
 have Bg:(w2.alloc (.cells #[str s',.int .i64 v',.slice a2 n2 c2,.slice a3 n3 c3] 80)).cell? ⟨w2.heap.size,2,none⟩=some (.slice a2 n2 c2):=by simp
 have Bf:(w2.alloc (.cells #[str s',.int .i64 v',.slice a2 n2 c2,.slice a3 n3 c3] 80)).cell? ⟨w2.heap.size,3,none⟩=some (.slice a3 n3 c3):=by simp
 have aw:KeepS w1.heap.size w2.heap.size (.slice a1 t.args.length c1) (str s') (.int .i64 v') (.slice a2 n2 c2) (.slice a3 n3 c3) (w2.alloc (.cells #[str s',.int .i64 v',.slice a2 n2 c2,.slice a3 n3 c3] 80)):=⟨hTA,n0,n1,Bg,Bf⟩
 have hK3d:KeepS w1.heap.size w2.heap.size (.slice a1 t.args.length c1) (str s') (.int .i64 v') (.slice a2 n2 c2) (.slice a3 n3 c3) (w2.alloc (.cells #[str s',.int .i64 v',.slice a2 n2 c2,.slice a3 n3 c3] 80)).drew:=aw
 have r9:w1.heap.size≠w.heap.size:=by omega
 have ro:w2.heap.size≠w.heap.size:=by omega
 have fO:w1.heap.size≠w.heap.size+1:=by omega
 have fI:w2.heap.size≠w.heap.size+1:=by omega
 clear hTA n0 n1 Bg Bf
 go_wp2_with fail
 go_region_held3 (fun w'=>w'.cell? ⟨w1.heap.size,0,none⟩=some (.slice a1 t.args.length c1)/\w'.cell? ⟨w2.heap.size,0,none⟩=some (str s')/\w'.cell? ⟨w2.heap.size,1,none⟩=some (.int .i64 v')/\w'.cell? ⟨w2.heap.size,2,none⟩=some (.slice a2 n2 c2)/\w'.cell? ⟨w2.heap.size,3,none⟩=some (.slice a3 n3 c3))
  (first
   | with_reducible exact aw
   | with_reducible exact hK3d
   | with_reducible exact aP
   | with_reducible exact aP.set _ _ _ r9 ro
   | with_reducible exact (aP.set _ _ _ r9 ro).set _ _ _ fO fI
   | with_reducible exact ((aP.set _ _ _ r9 ro).set _ _ _ fO fI).set _ _ _ fO fI
   | with_reducible exact (((aP.set _ _ _ r9 ro).set _ _ _ fO fI).set _ _ _ fO fI).set _ _ _ fO fI
   | with_reducible exact ((((aP.set _ _ _ r9 ro).set _ _ _ fO fI).set _ _ _ fO fI).set _ _ _ fO fI).set _ _ _ fO fI
   | with_reducible exact aP.set _ _ _ fO fI
   | with_reducible exact (aP.set _ _ _ fO fI).set _ _ _ fO fI
   | with_reducible exact ((aP.set _ _ _ fO fI).set _ _ _ fO fI).set _ _ _ fO fI
   | with_reducible exact (((aP.set _ _ _ fO fI).set _ _ _ fO fI).set _ _ _ fO fI).set _ _ _ fO fI
   | with_reducible exact ((((aP.set _ _ _ fO fI).set _ _ _ fO fI).set _ _ _ fO fI).set _ _ _ fO fI).set _ _ _ r9 ro)
  (first
   | (go_at_call 52;refine (l3Size_any (zk b) b (cC _) hlB (w.heap.size+1 < ·) _ _ _ _ _ _ _ _ _ (by exact AG.drew)).mono ?_;rintro en w5 ⟨rfl,dK⟩;have aP:KeepS w1.heap.size w2.heap.size (.slice a1 t.args.length c1) (str s') (.int .i64 v') (.slice a2 n2 c2) (.slice a3 n3 c3) w5:=⟨(dK.cell (by simp;omega)).trans aw.1,(dK.cell (by simp)).trans aw.2.1,(dK.cell (by simp)).trans aw.2.2.1,(dK.cell (by simp)).trans aw.2.2.2.1,(dK.cell (by simp)).trans aw.2.2.2.2⟩;have z5:=dK.size;have hz5:w.heap.size<w5.heap.size:=(by simp at z5;omega);have r5:w5.cell? ⟨w.heap.size,0,none⟩=some (.slice none 0 0):=(dK.cell (by simp;omega)).trans (zX r0');have f5:w5.frozen? ⟨w.heap.size,0,none⟩=false:=(dK.frozen (by simp;omega)).trans ((World.frozen?_of_block (w:=w2) (Below.heap_alloc _ _ _ y1)).trans rf0');have hN5:kD (w.heap.size+1) 0 (.slice none 0 0) (.slice none 0 0) w5:=(by unfold kD;rw [dK.block _ (by simp;omega)];exact zY hN');obtain ⟨p0,p1,p2,p3,pl,pf⟩:=hN5.cells;have pf0:=pf 0;have pf1:=pf 1;have pf2:=pf 2;have pf3:=pf 3;clear pf))
 go_wp2_with fail
 have h0:kD (w.heap.size+1) 0 (.slice none 0 0) (.slice none 0 0) (w5.setCell ⟨w.heap.size,0,none⟩ (.slice a1 t.args.length c1)):=by
  unfold kD;rw [cF _ _ _ _ (by simp)];exact hN5
 obtain ⟨W,hW,s0,s1,s2,s3,cO,fJ⟩:=h0.store (str s') (.int .i64 v') (.slice a2 n2 c2) (.slice a3 n3 c3)
 have t0:W.cell? ⟨w.heap.size,0,none⟩=some (.slice a1 t.args.length c1):=yM (qS r5 _) fun x hx=>fJ _ x (by simp) hx
 have fR:Below w2.heap.size w2 w5:=((((cE _ _).alloc (cC _) _).drew).trans (dK.mono (by simp)))
 have n9:=zzT rD fR
 have fY:=cO _ _ (n9.setCell (p:=⟨w.heap.size,0,none⟩) (cC _) (.slice a1 t.args.length c1)) (by omega)
 have keepF:∀ i o,w.heap.size+1<i->w2.heap[i]? = some o->W.heap[i]? = some o:=fun i o h ho =>
  fJ i o (by omega) (by rw [cF _ _ _ _ (by simp;omega),fR.block i (zZ ho)];exact ho)
 have lZ:Rep (w.heap.size<=·) W (jA t) (.slice a1 t.args.length c1):=(Rep.keep fun b o h ho=>⟨by omega,keepF b o h ho⟩).1 _ _ il
 have hrN:zH (w.heap.size<=·) W (kT b) [str s',.int .i64 v',.slice a2 n2 c2,.slice a3 n3 c3]:=(Rep.keep fun b o h ho=>⟨by have:=vr h;omega,keepF b o (by have:=vr h;omega) ho⟩).2 _ _ hrB
 rw [<- hW]
 refine bodyPost_ret (v:=.tuple #[.agg #[.slice a1 t.args.length c1],.agg #[str s',.int .i64 v',.slice a2 n2 c2,.slice a3 n3 c3],.bool (decide ((zk b:Int)<=200))]) (by simp [results,Tryz.results30,go_sem,t0,s0,s1,s2,s3]) rfl ?_
 by_cases DP:zk b<=200
 ·refine qT.yes (a:=a1) (c:=c1) (by rw [HT.out]) (by rw [decide_eq_true_eq];omega) (by rw [HM.out,if_pos DP]) fY (by rw [HT.out];exact lZ) hrN
 ·exact qT.no (a:=a1) (c:=c1) (by rw [HT.out]) (by rw [decide_eq_false_iff_not];omega) (by rw [HM.out,if_neg DP]) fY (by rw [HT.out];exact lZ)
theorem yF (c:UInt8):dig c=true↔48<=c.toNat/\c.toNat<=57:=by
 simp [dig,UInt8.le_iff_toNat_le]
theorem qi {k:Nat} (h:k<10):(UInt8.ofNat (48+k)).toNat=48+k:=by
 rw [UInt8.toNat_ofNat'];exact Nat.mod_eq_of_lt (by omega)
theorem decDigits_dig (u:Nat):∀ c∈Lib.decDigits u,dig c=true:=by
 induction u using Nat.strongRecOn with
 | _ u ih =>
   intro c hc
   rw [Lib.decDigits] at hc
   split at hc
   ·rename_i h
    rw [List.mem_singleton] at hc;subst hc
    rw [yF,qi h];omega
   ·rename_i h
    rcases List.mem_append.1 hc with hc | hc
    ·exact ih _ (by omega) c hc
    ·simp only [List.mem_singleton] at hc;subst hc
     rw [yF,qi (by omega)];omega
theorem decDigits_val (u:Nat):qK (Lib.decDigits u)=u:=by
 induction u using Nat.strongRecOn with
 | _ u ih =>
   rw [Lib.decDigits]
   split
   ·rename_i h
    show 10*0+((UInt8.ofNat (48+u)).toNat-48)=u
    rw [qi h];omega
   ·rename_i h
    rw [xg,ih _ (by omega),qi (by omega)];omega
theorem ww (u:Nat):Lib.decDigits u≠[]:=by
 intro h
 have:=Lib.decDigits_length u
 have:=Lib.nDigits_pos u
 rw [h] at *;simp at *;omega
theorem b5 (u:Nat) (h1:1<=u):(Lib.decDigits u).head?≠some 48:=by
 induction u using Nat.strongRecOn with
 | _ u ih =>
   rw [Lib.decDigits]
   split
   ·rename_i h
    intro e
    rw [List.head?_cons,Option.some.injEq] at e
    have:=qi h
    rw [e] at this
    have rM:(48:UInt8).toNat=48:=rfl
    omega
   ·rename_i h
    rw [List.head?_append]
    have:=ih (u / 10) (by omega) (by omega)
    have hne:=ww (u / 10)
    cases hd:Lib.decDigits (u / 10) with
    | nil=>exact absurd hd hne
    | cons x xs=>rw [hd] at this;simpa using this
theorem gE {u:Nat} (h:u<10000):(Lib.decDigits u).length<=4:=by
 rw [Lib.decDigits_length]
 by_cases h1:u<10
 ·rw [Lib.nDigits_small h1];omega
 rw [Lib.nDigits_big h1]
 by_cases h2:u / 10<10
 ·rw [Lib.nDigits_small h2];omega
 rw [Lib.nDigits_big h2]
 by_cases h3:u / 10 / 10<10
 ·rw [Lib.nDigits_small h3];omega
 rw [Lib.nDigits_big h3]
 rw [Lib.nDigits_small (by omega)];omega
theorem fold_ge (l:Bs):∀ a:Nat,a<=l.foldl (fun n c=>10*n+(c.toNat-48)) a:=by
 induction l with
 | nil=>intro a;simp
 | cons c cs ih=>intro a;simp only [List.foldl_cons];have:=ih (10*a+(c.toNat-48));omega
theorem valOf_pos {l:Bs} (hd:∀ c∈l,dig c=true) (hn:l≠[]) (rM:l.head?≠some 48):1<=qK l:=by
 cases l with
 | nil=>exact absurd rfl hn
 | cons c cs =>
   have h1:=(yF c).1 (hd c (by simp))
   have h2:c.toNat≠48:=fun e=>rM (by simp;exact UInt8.toNat_inj.1 (by simpa using e))
   have:=fold_ge cs (10*0+(c.toNat-48))
   show 1<=cs.foldl _ (10*0+(c.toNat-48))
   omega
theorem wu (n:Nat):∀ w:Bs,w.length=n->w≠[]->(∀ c∈w,dig c=true)->(1<w.length->w.head?≠some 48)->Lib.decDigits (qK w)=w:=by
 induction n with
 | zero=>intro w hl hn;exact absurd (List.eq_nil_of_length_eq_zero hl) hn
 | succ n ih =>
   intro w hl hn hd hh
   obtain ⟨ws,c,rfl⟩:∃ ws c,w=ws++[c]:=⟨w.dropLast,w.getLast hn,(List.dropLast_concat_getLast hn).symm⟩
   have hc:=(yF c).1 (hd c (by simp))
   have hof:UInt8.ofNat (48+(c.toNat-48))=c:=by
    apply UInt8.toNat_inj.1;rw [qi (by omega)];omega
   rw [xg]
   by_cases oV:ws=[]
   ·subst oV
    show Lib.decDigits (10*0+(c.toNat-48))=[c]
    rw [Lib.decDigits_one (by omega),show 48+(10*0+(c.toNat-48))=48+(c.toNat-48) from by omega,hof]
   ·have a9:1<=ws.length:=by cases ws with
     | nil=>exact absurd rfl oV
     | cons x xs=>simp
    have rM:ws.head?≠some 48:=by
     have:=hh (by simp;omega)
     rw [List.head?_append] at this
     cases ws with
     | nil=>exact absurd rfl oV
     | cons x xs=>simpa using this
    have hdw:∀ x∈ws,dig x=true:=fun x hx=>hd x (by simp [hx])
    have hp:=valOf_pos hdw oV rM
    have hi:=ih ws (by simpa using hl) oV hdw (fun _=>rM)
    rw [Lib.decDigits,dif_neg (by omega),show (10*qK ws+(c.toNat-48)) / 10=qK ws from by omega,show (10*qK ws+(c.toNat-48)) % 10=c.toNat-48 from by omega,hi,hof]
theorem decFrom_of (l:Bs):∀ a:Nat,(∀ c∈l,dig c=true)->Lib.decFrom a l=some (l.foldl (fun n c=>10*n+(c.toNat-48)) a):=by
 induction l with
 | nil=>intro a _;rfl
 | cons c cs ih =>
   intro a hd
   have hc:=(yF c).1 (hd c (by simp))
   simp only [Lib.decFrom,Lib.digitVal,if_pos hc,List.foldl_cons]
   rw [Nat.mul_comm a 10]
   exact ih _ fun x hx=>hd x (by simp [hx])
theorem lvl_spec {w:Bs} {n v:Nat} (h:lvl w n=some v) (hn:n<=10000):w≠[]/\w.length<=4/\(∀ c∈w,dig c=true)/\(1<w.length->w.head?≠some 48)/\qK w=v/\v<n:=by
 obtain ⟨h1,_,h3⟩:=lvl_lt h
 have e:Lib.itoa (v:Int)=Lib.decDigits v:=by unfold Lib.itoa;rw [if_neg (by omega)];simp
 rw [e] at h3
 subst h3
 refine ⟨ww v,gE (by omega),decDigits_dig v,fun hl=>?_,decDigits_val v,h1⟩
 refine b5 v ?_
 rcases Nat.eq_zero_or_pos v with h0 | h0
 ·subst h0;rw [Lib.decDigits_one (by omega)] at hl;simp at hl
 ·exact h0
theorem spec_lvl {w:Bs} {n:Nat} (h1:w≠[]) (h2:w.length<=4) (h3:∀ c∈w,dig c=true) (h4:1<w.length->w.head?≠some 48) (h5:qK w<n):lvl w n=some (qK w):=by
 have ha:Lib.atoiAll w=.ok (qK w:Int):=by
  rw [Lib.atoiAll_short w (by omega)]
  cases w with
  | nil=>exact absurd rfl h1
  | cons c cs =>
    have hc:=(yF c).1 (h3 c (by simp))
    have n45:(c == 45)=false:=by rw [beq_eq_false_iff_ne];rintro rfl;have:(45:UInt8).toNat=45:=rfl;omega
    have n43:(c == 43)=false:=by rw [beq_eq_false_iff_ne];rintro rfl;have:(43:UInt8).toNat=43:=rfl;omega
    simp only [Lib.atoi,n45,n43,Bool.false_eq_true,if_false,Lib.decNat,List.isEmpty_cons]
    rw [decFrom_of _ 0 h3];rfl
 have hi:Lib.itoa (qK w:Int)=w:=by
  have e:Lib.itoa (qK w:Int)=Lib.decDigits (qK w):=by unfold Lib.itoa;rw [if_neg (by omega)];simp
  rw [e,wu w.length w rfl h1 h3 h4]
 unfold lvl
 rw [ha]
 simp only
 rw [if_pos ⟨hi,by omega,by omega⟩];simp
def jT (l:Bs):Prop:=l=[]\/∃ c r,l=c::r/\sep c=true
theorem dig_sep {c:UInt8} (h:dig c=true):sep c=false:=by
 have:=(yF c).1 h
 rw [Bool.eq_false_iff];intro hs
 simp only [sep,Bool.or_eq_true,beq_iff_eq] at hs
 rcases hs with (rfl | rfl) | rfl
 ·have:(32:UInt8).toNat=32:=rfl;omega
 ·have:(40:UInt8).toNat=40:=rfl;omega
 ·have:(41:UInt8).toNat=41:=rfl;omega
theorem gy (l:Bs):l=zS l++zE l:=(List.takeWhile_append_dropWhile).symm
theorem wordDrop (l:Bs):l.drop (zS l).length=zE l:=by
 have h:=gy l
 generalize zS l=a at *
 generalize zE l=b at *
 subst h;simp
theorem gp (l:Bs):jT (zE l):=by
 unfold zE
 induction l with
 | nil=>exact .inl rfl
 | cons c cs ih =>
   rw [List.dropWhile_cons]
   split
   ·exact ih
   ·rename_i h;exact .inr ⟨c,cs,rfl,by simpa using h⟩
theorem word_of {w rest:Bs} (hw:∀ c∈w,sep c=false) (hr:jT rest):zS (w++rest)=w/\zE (w++rest)=rest:=by
 unfold zS zE
 induction w with
 | nil =>
   rcases hr with rfl | ⟨c,r,rfl,hc⟩
   ·exact ⟨rfl,rfl⟩
   ·simp [hc]
 | cons x xs ih =>
   have hx:=hw x (by simp)
   have:=ih fun c hc=>hw c (by simp [hc])
   simp [hx,this.1,this.2]
theorem digsOf_of {w rest:Bs} (hw:∀ c∈w,dig c=true) (hl:w.length<=4) (hr:jT rest):kY (w++rest)=w:=by
 unfold kY
 rw [List.take_append,List.take_of_length_le hl]
 have key:(rest.take (4-w.length)).takeWhile dig=[]:=by
  rcases hr with rfl | ⟨c,r,rfl,hc⟩
  ·simp
  ·cases 4-w.length with
   | zero=>rfl
   | succ k =>
     rw [List.take_succ_cons,List.takeWhile_cons,if_neg]
     intro h;rw [dig_sep h] at hc;simp at hc
 rw [List.takeWhile_append_of_pos (fun c hc=>hw c hc),key,List.append_nil]
theorem cut_is {c:UInt8} {r:Bs}:cut [c] (c::r)=some r:=by simp [cut,List.isPrefixOf]
theorem pY (rd:RdS) (hs gs:List (List Ty)):∀ {l:Bs} {bs:List Bd} {l1:Bs} {cs:List Bd} {l2:Bs},zW rd hs l=some (bs,l1)->zW rd gs l1=some (cs,l2)->zW rd (hs++gs) l=some (bs++cs,l2):=by
 induction hs with
 | nil=>intro l bs l1 cs l2 h k;simp [zW] at h;obtain ⟨rfl,rfl⟩:=h;simpa using k
 | cons h' hs ih =>
   intro l bs l1 cs l2 h k
   simp only [zW,Option.bind_eq_bind,Option.bind_eq_some_iff,Prod.exists] at h
   obtain ⟨b,m,h1,bs',m',h2,h3⟩:=h
   simp at h3;obtain ⟨rfl,rfl⟩:=h3
   simp only [List.cons_append,zW,Option.bind_eq_bind,h1,Option.bind_some,ih h2 k]
def RdFits (rd:Rd) (rs:RdS) (h:List Ty):Prop:=∀ (left:Nat) (l:Bs) (b:Bd) (r:Bs) (f:Nat),rd h left l=some (b,r,f)->rs h l=some (b,r)/\f+zk b=left/\l.length+1<=r.length+7*zk b
theorem parts_fit {rd:Rd} {rs:RdS} (hs:List (List Ty)) (hf:∀ h∈hs,RdFits rd rs h):∀ {left:Nat} {l:Bs} {bs:List Bd} {r:Bs} {f:Nat},ze rd hs left l=some (bs,r,f)->zW rs hs l=some (bs,r)/\f+zN bs=left/\l.length<=r.length+7*zN bs:=by
 induction hs with
 | nil=>intro left l bs r f h;simp [ze] at h;obtain ⟨rfl,rfl,rfl⟩:=h;simp [zW,zN]
 | cons h' hs ih =>
   intro left l bs r f h
   simp only [ze,Option.bind_eq_bind,Option.bind_eq_some_iff,Prod.exists] at h
   obtain ⟨l1,h1,b,l2,f2,h2,bs',l3,f3,h3,h4⟩:=h
   simp at h4;obtain ⟨rfl,rfl,rfl⟩:=h4
   obtain ⟨a1,a2,a3⟩:=hf h' (by simp) _ _ _ _ _ h2
   obtain ⟨b1,b2,b3⟩:=ih (fun x hx=>hf x (by simp [hx])) h3
   have hc:=qo h1
   refine ⟨?_,by simp [zN];omega,by subst hc;simp [zN];omega⟩
   simp only [zW,kW,h1,Option.bind_eq_bind,Option.bind_some,a1,b1]
theorem gg {l:Bs} {c:UInt8} (h:zS l=[c]):l=c::zE l:=by
 have:=gy l
 rw [h] at this;simpa using this
theorem specNum_of {w rest:Bs} (h1:w≠[]) (h2:w.length<=4) (h3:∀ c∈w,dig c=true) (h4:1<w.length->w.head?≠some 48) (hr:jT rest):qG (w++rest)=some (qK w,w.length):=by
 unfold qG
 rw [digsOf_of h3 h2 hr,if_neg]
 rintro (h | ⟨h,h'⟩)
 ·exact h1 h
 ·apply h4 h
  cases w with
  | nil=>exact absurd rfl h1
  | cons x xs=>simpa using h'
theorem rdB_fits (d:Nat):∀ levels,ke d levels->RdFits (rdB d) (rdN (d+1)) levels:=by
 induction d with
 | zero =>
   intro levels hh left l b r f h
   rcases left with _ | left
   ·simp [rdB] at h
   rcases z_ [40] l with h1 | ⟨r1,h1⟩
   ·rw [wB 0 levels left h1.out] at h
    have key:∀ c:UInt8,(c=116\/c=102\/c=117)->zS l=[c]->rdN 1 levels l=some (.leaf c,zE l)/\left+zk (.leaf c)=left+1/\l.length+1<=(zE l).length+7*zk (.leaf c):=by
     intro c hc hw
     have e:=gg hw
     refine ⟨?_,rfl,?_⟩
     ·conv=>lhs;rw [e]
      simp only [rdN,if_pos hc]
     ·have:=congrArg List.length e;simp at this;simp [zk];omega
    split at h
    ·rename_i hw;simp at h;obtain ⟨rfl,rfl,rfl⟩:=h;exact key _ (by decide) hw
    ·split at h
     ·rename_i hw;simp at h;obtain ⟨rfl,rfl,rfl⟩:=h;exact key _ (by decide) hw
     ·split at h
      ·rename_i hw;simp at h;obtain ⟨rfl,rfl,rfl⟩:=h;exact key _ (by decide) hw
      ·simp at h
   ·rw [wC 0 levels left h1.out] at h
    cases hv:lvl (zS r1) levels.length with
    | none=>rw [hv] at h;simp at h
    | some v=>rw [hv] at h;simp at h
 | succ d ih =>
   intro levels hh left l b r f h
   rcases left with _ | left
   ·simp [rdB] at h
   rcases z_ [40] l with h1 | ⟨r1,h1⟩
   ·rw [wB (d+1) levels left h1.out] at h
    have key:∀ c:UInt8,(c=116\/c=102\/c=117)->zS l=[c]->rdN (d+1+1) levels l=some (.leaf c,zE l)/\left+zk (.leaf c)=left+1/\l.length+1<=(zE l).length+7*zk (.leaf c):=by
     intro c hc hw
     have e:=gg hw
     refine ⟨?_,rfl,?_⟩
     ·conv=>lhs;rw [e]
      simp only [rdN,if_pos hc]
     ·have:=congrArg List.length e;simp at this;simp [zk];omega
    split at h
    ·rename_i hw;simp at h;obtain ⟨rfl,rfl,rfl⟩:=h;exact key _ (by decide) hw
    ·split at h
     ·rename_i hw;simp at h;obtain ⟨rfl,rfl,rfl⟩:=h;exact key _ (by decide) hw
     ·split at h
      ·rename_i hw;simp at h;obtain ⟨rfl,rfl,rfl⟩:=h;exact key _ (by decide) hw
      ·simp at h
   ·rw [wC (d+1) levels left h1.out] at h
    cases hv:lvl (zS r1) levels.length with
    | none=>rw [hv] at h;simp at h
    | some v =>
      rw [hv] at h
      simp only at h
      cases ht:levels[v]? with
      | none=>rw [ht] at h;simp at h
      | some t =>
        rw [ht] at h
        simp only [bJ,Option.bind_eq_bind,Option.bind_eq_some_iff,Prod.exists] at h
        obtain ⟨ss,l1,f1,h2,yn,l2,f2,h3,h4⟩:=h
        have hl:levels.length<=10000:=by have:=hh.2;omega
        obtain ⟨w1,w2,w3,w4,w5,w6⟩:=lvl_spec hv hl
        split at h4
        ·rename_i y n
         simp only [Option.bind_eq_some_iff] at h4
         obtain ⟨l3,h5,h6⟩:=h4
         simp at h6;obtain ⟨rfl,rfl,rfl⟩:=h6
         have k1:=parts_fit (rs:=rdN (d+1)) (t.args.map fun a=>levels++a.args) (fun x hx=>by
          obtain ⟨a,ha,rfl⟩:=List.mem_map.1 hx
          exact ih _ (hh.next ht ha)) h2
         have eC:ke d levels:=by have:=hh.same;rwa [List.append_nil] at this
         have k2:=parts_fit (rs:=rdN (d+1)) [levels,levels] (fun x hx=>by
          have:x=levels:=by simpa using hx
          subst this;exact ih _ eC) h3
         have lU:=(yV (bQ d) _ h2).2.2
         rw [List.length_map] at lU
         have hc:=qo h5
         have nO:=qo h1.out
         have hw:=gy r1
         have B6:=specNum_of (rest:=zE r1) w1 w2 w3 w4 (gp r1)
         rw [<- hw,w5] at B6
         have dC:zW (rdN (d+1)) (kI levels t) (zE r1)=some (ss++[y,n],l2):=pY _ _ _ k1.1 k2.1
         refine ⟨?_,?_,?_⟩
         ·conv=>lhs;rw [nO]
          rw [rdN]
          rw [if_neg (by decide),if_neg (by decide),B6]
          simp only [ht]
          rw [wordDrop]
          simp only [dC,Option.bind_eq_bind,Option.bind_some,h5,yL]
          rw [List.drop_left' lU,List.take_left' lU];rfl
         ·have a1:=k1.2.1;have a2:=k2.2.1
          simp [zk,zN] at a1 a2 ⊢;omega
         ·have a1:=k1.2.2;have a2:=k2.2.2
          have a9:=congrArg List.length hw
          have fv:=congrArg List.length hc
          have hc1l:=congrArg List.length nO
          simp [zk,zN] at a1 a2 a9 fv hc1l ⊢;omega
        ·simp at h4
theorem vS {rs:RdS} {hs:List (List Ty)} {l:Bs} {ps:List Bd} {r:Bs} (h:zW rs hs l=some (ps,r)) (hr:jT r):jT l:=by
 cases hs with
 | nil=>simp [zW] at h;obtain ⟨_,rfl⟩:=h;exact hr
 | cons h' hs =>
   simp only [zW,kW,Option.bind_eq_bind,Option.bind_eq_some_iff,Prod.exists] at h
   obtain ⟨_,_,⟨l1,h1,_⟩,_⟩:=h
   have:=qo h1
   exact .inr ⟨32,l1,this,rfl⟩
def RdBack (rd:Rd) (rs:RdS) (h:List Ty):Prop:=∀ (left:Nat) (l:Bs) (b:Bd) (r:Bs),rs h l=some (b,r)->jT r->zk b<=left->rd h left l=some (b,r,left-zk b)
theorem bP {rd:Rd} {rs:RdS} (hs:List (List Ty)) (hf:∀ h∈hs,RdBack rd rs h):∀ (left:Nat) (l:Bs) (ps:List Bd) (r:Bs),zW rs hs l=some (ps,r)->jT r->zN ps<=left->ze rd hs left l=some (ps,r,left-zN ps):=by
 induction hs with
 | nil=>intro left l ps r h _ _;simp [zW] at h;obtain ⟨rfl,rfl⟩:=h;simp [ze,zN]
 | cons h' hs ih =>
   intro left l ps r h hr hsz
   simp only [zW,kW,Option.bind_eq_bind,Option.bind_eq_some_iff,Prod.exists] at h
   obtain ⟨b,l2,⟨l1,h1,h2⟩,bs,l3,h3,h4⟩:=h
   simp at h4;obtain ⟨rfl,rfl⟩:=h4
   simp [zN] at hsz
   have hb:=hf h' (by simp) left l1 b l2 h2 (vS h3 hr) (by omega)
   have nj:=ih (fun x hx=>hf x (by simp [hx])) (left-zk b) l2 bs l3 h3 hr (by omega)
   simp only [ze,h1,Option.bind_eq_bind,Option.bind_some,hb,nj]
   simp [zN];omega
theorem gB (rs:RdS) (hs gs:List (List Ty)):∀ {l:Bs} {ps:List Bd} {r:Bs},zW rs (hs++gs) l=some (ps,r)->∃ bs l1 cs,ps=bs++cs/\zW rs hs l=some (bs,l1)/\zW rs gs l1=some (cs,r):=by
 induction hs with
 | nil=>intro l ps r h;exact ⟨[],l,ps,rfl,rfl,h⟩
 | cons h' hs ih =>
   intro l ps r h
   simp only [List.cons_append,zW,Option.bind_eq_bind,Option.bind_eq_some_iff,Prod.exists] at h
   obtain ⟨b,m,h1,bs',m',h2,h3⟩:=h
   simp at h3;obtain ⟨rfl,rfl⟩:=h3
   obtain ⟨bs,l1,cs,rfl,a1,a2⟩:=ih h2
   refine ⟨b::bs,l1,cs,rfl,?_,a2⟩
   simp only [zW,Option.bind_eq_bind,h1,Option.bind_some,a1]
theorem wW {m:Bs} {v k:Nat} (h:qG m=some (v,k)):kY m≠[]/\v=qK (kY m)/\k=(kY m).length/\(1<(kY m).length->(kY m).head?≠some 48):=by
 unfold qG at h
 split at h
 ·simp at h
 ·rename_i hc
  simp at h
  refine ⟨fun e=>hc (.inl e),h.1.symm,h.2.symm,fun h1 h2=>hc (.inr ⟨h1,?_⟩)⟩
  have hp:=vJ m
  obtain ⟨x,hx⟩:=hp
  cases hd:kY m with
  | nil=>rw [hd] at h1;simp at h1
  | cons y ys=>rw [hd] at hx h2;rw [<- hx];simpa using h2
theorem rdN_back (d:Nat):∀ levels,ke d levels->RdBack (rdB d) (rdN (d+1)) levels:=by
 induction d with
 | zero =>
   intro levels hh left l b r h hr hsz
   obtain ⟨left,rfl⟩:∃ x,left=x+1:=⟨left-1,by have:=jY b;omega⟩
   cases l with
   | nil=>simp [rdN] at h
   | cons c m =>
     simp only [rdN] at h
     split at h
     ·rename_i hc
      simp at h;obtain ⟨rfl,rfl⟩:=h
      have d_:cut [40] (c::m)=none:=by
       rcases hc with rfl | rfl | rfl <;> simp [cut,List.isPrefixOf]
      have hw:=word_of (w:=[c]) (rest:=m) (fun x hx=>by
       have:x=c:=by simpa using hx
       subst this;rcases hc with rfl | rfl | rfl <;> decide) hr
      rw [List.singleton_append] at hw
      rw [wB 0 levels left d_,hw.1,hw.2]
      rcases hc with rfl | rfl | rfl <;> simp [zk]
     ·split at h
      ·simp at h
      ·split at h
       ·simp at h
       ·split at h
        ·simp at h
        ·exfalso
         simp only [Option.bind_eq_bind,Option.bind_eq_some_iff,Prod.exists] at h
         obtain ⟨ps,l1,h1,_⟩:=h
         rename_i t _ _
         cases ha:kI levels t with
         | nil=>have:=vI levels t;rw [ha] at this;simp at this
         | cons x xs=>rw [ha] at h1;simp [zW,kW] at h1
 | succ d ih =>
   intro levels hh left l b r h hr hsz
   obtain ⟨left,rfl⟩:∃ x,left=x+1:=⟨left-1,by have:=jY b;omega⟩
   cases l with
   | nil=>simp [rdN] at h
   | cons c m =>
     rw [rdN] at h
     simp only at h
     split at h
     ·rename_i hc
      simp at h;obtain ⟨rfl,rfl⟩:=h
      have d_:cut [40] (c::m)=none:=by
       rcases hc with rfl | rfl | rfl <;> simp [cut,List.isPrefixOf]
      have hw:=word_of (w:=[c]) (rest:=m) (fun x hx=>by
       have:x=c:=by simpa using hx
       subst this;rcases hc with rfl | rfl | rfl <;> decide) hr
      rw [List.singleton_append] at hw
      rw [wB (d+1) levels left d_,hw.1,hw.2]
      rcases hc with rfl | rfl | rfl <;> simp [zk]
     ·split at h
      ·simp at h
      ·rename_i d_
       have d_:c=40:=by simpa using d_
       subst d_
       cases hn:qG m with
       | none=>rw [hn] at h;simp at h
       | some x =>
         obtain ⟨v,k⟩:=x
         rw [hn] at h
         simp only at h
         cases ht:levels[v]? with
         | none=>rw [ht] at h;simp at h
         | some t =>
           rw [ht] at h
           simp only [Option.bind_eq_bind,Option.bind_eq_some_iff,Prod.exists] at h
           obtain ⟨ps,l2,h1,l3,h2,b',h3,h4⟩:=h
           simp at h4;obtain ⟨rfl,rfl⟩:=h4
           have hc:=qo h2
           have sK:jT l2:=.inr ⟨41,l3,hc,rfl⟩
           have dI:=vS h1 sK
           obtain ⟨n1,n2,n3,n4⟩:=wW hn
           obtain ⟨bs,l1,cs,e1,p1,p2⟩:=gB _ _ _ h1
           have dr:=uv _ p1
           have fv:=uv _ p2
           have sq:=cK h3
           have hw0:m=kY m++m.drop k:=by
            obtain ⟨x,hx⟩:=vJ m
            have gen:∀ (a b c:Bs),a++b=c->c.drop a.length=b:=by rintro a b c rfl;simp
            rw [n3,gen _ _ _ hx,hx]
           have hw:=word_of (w:=kY m) (rest:=m.drop k) (fun x hx=>dig_sep (j8 m x hx)) dI
           rw [<- hw0] at hw
           have mY:v<levels.length:=(List.getElem?_eq_some_iff.1 ht).1
           have eJ:=spec_lvl (n:=levels.length) n1 (xB m).1 (j8 m) n4 (by rw [<- n2];exact mY)
           rw [<- n2] at eJ
           have hsl1:jT l1:=vS p2 sK
           have hszs:zN ps=zN bs+zN cs:=by rw [e1,kx]
           have eC:ke d levels:=by have:=hh.same;rwa [List.append_nil] at this
           have k1:=bP (rd:=rdB d) (t.args.map fun a=>levels++a.args) (fun x hx=>by
            obtain ⟨a,ha,rfl⟩:=List.mem_map.1 hx
            exact ih _ (hh.next ht ha)) left (m.drop k) bs l1 p1 hsl1 (by omega)
           have k2:=bP (rd:=rdB d) [levels,levels] (fun x hx=>by
            have:x=levels:=by simpa using hx
            subst this;exact ih _ eC) (left-zN bs) l1 cs l2 p2 sK (by omega)
           have Dm:bs.length=t.args.length:=by simpa [zp] using dr
           obtain ⟨y,n,rfl⟩:∃ y n,cs=[y,n]:=by
            match cs,fv with
            | [a,b],_=>exact ⟨a,b,rfl⟩
           have hb:b'=.ask v bs y n:=by
            rw [e1] at h3
            unfold yL at h3
            rw [List.drop_left' Dm,List.take_left' Dm] at h3
            simpa using h3.symm
           subst hb
           rw [wC (d+1) levels left (l:=40::m) cut_is,hw.1,eJ]
           simp only [ht]
           rw [hw.2]
           simp only [bJ,k1,k2,Option.bind_eq_bind,Option.bind_some,h2]
           simp [zk,zN] at *;omega
theorem rdStrat_eq (t:Ty) (ht:zU t<=15) (l:Bs):kE t l=(if 2000<l.length then none else match rdN 101 t.args l with
 | none=>none
 | some (b,rest)=>if rest=[]/\zk b<=200 then some b else none):=by
 have hh:=handOk_of ht
 cases hq:kE t l with
 | some b =>
   have h1:∃ f,rdB 100 t.args 200 l=some (b,[],f):=by
    unfold kE at hq
    split at hq
    ·rename_i b' f he
     simp at hq;subst hq;exact ⟨f,he⟩
    ·simp at hq
   obtain ⟨f,h1⟩:=h1
   obtain ⟨a1,a2,a3⟩:=rdB_fits 100 t.args hh _ _ _ _ _ h1
   have:¬ 2000<l.length:=by simp at a3;omega
   rw [if_neg this,a1]
   simp only
   rw [if_pos ⟨by trivial,by omega⟩]
 | none =>
   symm
   split
   ·rfl
   ·cases hn:rdN 101 t.args l with
    | none=>rfl
    | some x =>
      obtain ⟨b,rest⟩:=x
      simp only
      split
      ·rename_i hc
       obtain ⟨rfl,hc⟩:=hc
       have:=rdN_back 100 t.args hh 200 l b [] hn (.inl rfl) hc
       unfold kE at hq
       rw [this] at hq;simp at hq
      ·rfl
theorem vj (s l:Bs):xf s l=(zI s l).map fun b=>((zQ s).1,b):=by
 unfold xf zI
 rw [yw]
 cases co:(zQ s).2 with
 | false=>simp
 | true =>
   have cj:=qI co
   simp only [if_true,Option.bind_eq_bind,Option.bind_some]
   rw [rdStrat_eq _ cj]
   by_cases h2:2000<l.length
   ·simp [h2]
   ·simp only [h2,if_false,Bool.true_eq_false,false_or]
    cases rdN 101 (zQ s).1.args l with
    | none=>rfl
    | some x =>
      obtain ⟨b,rest⟩:=x
      simp only
      split <;> rfl
mutual
def kX:List Ty->Bd->Prop
 | _,.leaf _=>True
 | hand,.ask v ss y n=>∃ t,hand[v]? = some t/\za (zp hand t.args) ss/\kX hand y/\kX hand n
def za:List (List Ty)->List Bd->Prop
 | hs,[]=>hs=[]
 | hs,b::bs=>∃ h fE,hs=h::fE/\kX h b/\za fE bs
end
mutual
def pM:Bd->Bd->Bool
 | .leaf c,.leaf d=>c == 117 || c == d
 | .leaf c,.ask _ _ _ _=>c == 117
 | .ask _ _ _ _,.leaf _=>false
 | .ask v ss y n,.ask v' ss' y' n'=>v == v' && (xF ss ss' && (pM y y' && pM n n'))
def xF:List Bd->List Bd->Bool
 | a::xs,b::bs=>pM a b && xF xs bs
 | [],_=>true
 | _::_,[]=>false
end
theorem qH (levels ts:List Ty):(zp levels ts).length=ts.length:=by simp [zp]
theorem yD:∀ (xs:List Bd) (bs:List Bd) (hs ks:List (List Ty)),za hs xs->za ks bs->za (hs++ks) (xs++bs)
 | [],bs,hs,ks,h1,h2=>by rw [za] at h1;subst h1;simpa using h2
 | a::xs,bs,hs,ks,h1,h2=>by
   rw [za] at h1
   obtain ⟨h,fE,rfl,e1,e2⟩:=h1
   exact ⟨h,fE++ks,rfl,e1,yD xs bs fE ks e2 h2⟩
theorem qB:∀ (xs:List Bd) (hs:List (List Ty)),za hs xs->hs.length=xs.length
 | [],hs,h=>by rw [za] at h;simp [h]
 | a::xs,hs,h=>by
   rw [za] at h
   obtain ⟨h',fE,rfl,e1,e2⟩:=h
   simp [qB xs fE e2]
theorem bm:∀ (xs:List Bd) (hs:List (List Ty)),za hs xs->∀ (k:Nat) (a:Bd),xs[k]? = some a->∃ h,hs[k]? = some h/\kX h a
 | [],hs,h,k,a,ha=>by simp at ha
 | a::xs,hs,h,k,a',ha=>by
   rw [za] at h
   obtain ⟨h',fE,rfl,e1,e2⟩:=h
   cases k with
   | zero=>simp at ha;subst ha;exact ⟨h',rfl,e1⟩
   | succ k=>simp at ha;simpa using bm xs fE e2 k a' ha
theorem bc (h k:List Ty) (y n:Bd):za [h,k] [y,n]↔kX h y/\kX k n:=by
 constructor
 ·intro hf
  rw [za] at hf
  obtain ⟨a,as',e,h1,h2⟩:=hf
  simp only [List.cons.injEq] at e
  obtain ⟨rfl,rfl⟩:=e
  rw [za] at h2
  obtain ⟨a,as',e,h3,h4⟩:=h2
  simp only [List.cons.injEq] at e
  obtain ⟨rfl,rfl⟩:=e
  exact ⟨h1,h3⟩
 ·rintro ⟨h1,h2⟩
  exact ⟨h,[k],rfl,h1,k,[],rfl,h2,by rw [za]⟩
theorem fit_parts {hand:List Ty} {v:Nat} {ss:List Bd} {y n:Bd} (h:kX hand (.ask v ss y n)):∃ t,hand[v]? = some t/\za (kI hand t) (uH (.ask v ss y n))/\ss.length=t.args.length:=by
 rw [kX] at h
 obtain ⟨t,h1,h2,h3,h4⟩:=h
 refine ⟨t,h1,yD _ _ _ _ h2 ((bc _ _ _ _).2 ⟨h3,h4⟩),?_⟩
 have:=qB _ _ h2
 rw [qH] at this;exact this.symm
theorem gQ:∀ (hs:List (List Ty)) (ks:List (List Ty)) (ps:List Bd),za (hs++ks) ps->za hs (ps.take hs.length)/\za ks (ps.drop hs.length)
 | [],ks,ps,h=>by
   constructor
   ·simp [za]
   ·simpa using h
 | x::hs,ks,[],h=>by simp [za] at h
 | x::hs,ks,p::ps,h=>by
   simp only [List.cons_append] at h
   rw [za] at h
   obtain ⟨h',fE,e,e1,e2⟩:=h
   simp only [List.cons.injEq] at e
   obtain ⟨rfl,rfl⟩:=e
   have:=gQ hs ks ps e2
   simp only [List.length_cons,List.take_succ_cons,List.drop_succ_cons]
   exact ⟨⟨x,hs,rfl,e1,this.1⟩,this.2⟩
theorem specParts_fit {rd:RdS} (dT:∀ {h l b r},rd h l=some (b,r)->kX h b) (hs:List (List Ty)):∀ {l r:Bs} {ps:List Bd},zW rd hs l=some (ps,r)->za hs ps:=by
 induction hs with
 | nil=>intro l r ps h;simp [zW] at h;obtain ⟨rfl,rfl⟩:=h;simp [za]
 | cons h' hs ih =>
   intro l r ps h
   simp only [zW,Option.bind_eq_bind,Option.bind_eq_some_iff,Prod.exists] at h
   obtain ⟨b,l1,h1,bs,l2,h2,h3⟩:=h
   simp at h3;obtain ⟨rfl,rfl⟩:=h3
   unfold kW at h1
   simp only [Option.bind_eq_bind,Option.bind_eq_some_iff] at h1
   obtain ⟨l3,_,h4⟩:=h1
   exact ⟨h',hs,rfl,dT h4,ih h2⟩
theorem rdN_fit (e:Nat):∀ {h:List Ty} {l:Bs} {b:Bd} {r:Bs},rdN e h l=some (b,r)->kX h b:=by
 induction e with
 | zero=>intro h l b r hq;simp [rdN] at hq
 | succ e ih =>
   intro h l b r hq
   cases l with
   | nil=>simp [rdN] at hq
   | cons c m =>
     simp only [rdN] at hq
     split at hq
     ·simp at hq;obtain ⟨rfl,rfl⟩:=hq;simp [kX]
     ·split at hq
      ·simp at hq
      ·split at hq
       ·simp at hq
       ·rename_i v k hsn
        split at hq
        ·simp at hq
        ·rename_i t ht
         simp only [Option.bind_eq_bind,Option.bind_eq_some_iff,Prod.exists] at hq
         obtain ⟨ps,l1,h1,l2,h2,b',h3,h4⟩:=hq
         simp at h4;obtain ⟨rfl,rfl⟩:=h4
         have k1:=specParts_fit ih _ h1
         have k2:=gQ _ _ _ k1
         rw [qH] at k2
         unfold yL at h3
         split at h3
         ·rename_i y no hd
          simp at h3;subst h3
          rw [hd,bc] at k2
          rw [kX]
          exact ⟨t,ht,k2.1,k2.2.1,k2.2.2⟩
         ·simp at h3
theorem specStrat_fit {s text:Bs} {b:Bd} (hq:zI s text=some b):kX (zQ s).1.args b:=by
 unfold zI at hq
 split at hq
 ·simp at hq
 ·split at hq
  ·simp at hq
  ·rename_i b' rest h
   split at hq
   ·simp at hq;subst hq;exact rdN_fit _ h
   ·simp at hq
theorem wt:∀ (xs bs:List Bd),xs.length=bs.length->(xF xs bs=true↔∀ (k:Nat) (a b:Bd),xs[k]? = some a->bs[k]? = some b->pM a b=true)
 | [],[],_=>by simp [xF]
 | a::xs,b::bs,h=>by
   simp only [xF,Bool.and_eq_true]
   rw [wt xs bs (by simpa using h)]
   constructor
   ·rintro ⟨h1,h2⟩ k a' b' ha hb
    cases k with
    | zero=>simp at ha hb;subst ha;subst hb;exact h1
    | succ k=>simp at ha hb;exact h2 k a' b' ha hb
   ·intro h
    exact ⟨h 0 a b rfl rfl,fun k a' b' ha hb=>h (k+1) a' b' (by simpa using ha) (by simpa using hb)⟩
def yS (xs bs:List Bd) (k:Nat):Prop:=∀ (j:Nat) (a b:Bd),j<k->xs[j]? = some a->bs[j]? = some b->pM a b=true
theorem yS.zero (xs bs:List Bd):yS xs bs 0:=fun j a b h=>by omega
theorem yS.next {xs bs:List Bd} {k:Nat} (h:yS xs bs k) {a b:Bd} (ha:xs[k]? = some a) (hb:bs[k]? = some b) (hab:pM a b=true):yS xs bs (k+1):=by
 intro j a' b' hj h1 h2
 rcases Nat.lt_or_ge j k with h' | h'
 ·exact h j a' b' h' h1 h2
 ·obtain rfl:j=k:=by omega
  rw [ha] at h1;rw [hb] at h2;simp at h1 h2;subst h1;subst h2;exact hab
theorem yS.all {xs bs:List Bd} (hl:xs.length=bs.length) (h:yS xs bs xs.length):xF xs bs=true :=
 (wt xs bs hl).2 fun k a b ha hb=>h k a b (List.getElem?_eq_some_iff.1 ha).1 ha hb
def lvOf:Bd->Nat
 | .leaf _=>0
 | .ask v _ _ _=>v
theorem encN_lv {F:Nat->Prop} {w:World} {b:Bd} {s v k y:Value} (h:zH F w (kT b) [s,v,k,y]):v=.int .i64 (lvOf b:Nat):=by
 cases b with
 | leaf c =>
   rw [kT] at h
   obtain ⟨_,_,e,h0,h⟩:=zV.1 h
   simp only [List.cons.injEq] at e;obtain ⟨rfl,rfl⟩:=e
   obtain ⟨_,_,e,h1,h⟩:=zV.1 h
   simp only [List.cons.injEq] at e;obtain ⟨rfl,rfl⟩:=e
   exact zj.1 h1
 | ask lv ss yb nb =>
   rw [kT] at h
   obtain ⟨_,_,e,h0,h⟩:=zV.1 h
   simp only [List.cons.injEq] at e;obtain ⟨rfl,rfl⟩:=e
   obtain ⟨_,_,e,h1,h⟩:=zV.1 h
   simp only [List.cons.injEq] at e;obtain ⟨rfl,rfl⟩:=e
   exact zj.1 h1
theorem yu (a b:Nat):((a:Int).tmod (b:Int))=((a % b:Nat):Int):=rfl
theorem ge (a b:Nat):((a:Int).tdiv (b:Int))=((a / b:Nat):Int):=rfl
theorem qt (n:Nat) (h:n<9223372036854775808):IntKind.i64.wrap (n:Int)=(n:Int):=by
 simp [IntKind.wrap,IntKind.bits,IntKind.signed];omega
def jC (r:Nat):UInt8:=UInt8.ofNat (48+r)
def dec (n:Nat):Bs:=if n<10 then [jC n] else dec (n / 10)++[jC (n % 10)]
theorem jW {n:Nat} (h:n<10):dec n=[jC n]:=by rw [dec,if_pos h]
theorem ud {n:Nat} (h:¬ n<10):dec n=dec (n / 10)++[jC (n % 10)]:=by rw [dec,if_neg h]
theorem qn (k:Nat):∀ n,n<10 ^ (k+1)->(dec n).length<=k+1:=by
 induction k with
 | zero=>intro n h;rw [jW (by simpa using h)];simp
 | succ k ih =>
   intro n h
   by_cases mQ:n<10
   ·rw [jW mQ];simp
   ·rw [ud mQ]
    have:=ih (n / 10) (by rw [Nat.div_lt_iff_lt_mul (by omega),<- Nat.pow_succ];exact h)
    simp;omega
theorem str_add (a b:Bs):(⟨a.toArray⟩:ByteArray)++(⟨b.toArray⟩:ByteArray)=⟨(a++b).toArray⟩:=by
 have h:((⟨a.toArray⟩:ByteArray)++(⟨b.toArray⟩:ByteArray)).data=(a++b).toArray:=by
  rw [ByteArray.data_append];simp
 cases hx:(⟨a.toArray⟩:ByteArray)++(⟨b.toArray⟩:ByteArray) with
 | mk d=>rw [hx] at h;simp at h;rw [h]
theorem kG {P:Program} (a b:Bs) (h:a.length+b.length<=9223372036854775807) (w:World):(Op.stringOp .add ⟨a.toArray⟩ ⟨b.toArray⟩).run P w=.ok (str (a++b)) w:=by
 rw [run_string_add_sum w _ _ (by rw [wP,wP];exact h),str_add]
mutual
def k_:Bd->Bs
 | .leaf c=>[c]
 | .ask v ss y n=>(((([40]++dec v++kh ss++[32])++k_ y)++[32])++k_ n)++[41]
def kh:List Bd->Bs
 | []=>[]
 | b::bs=>[32]++k_ b++kh bs
end
mutual
def lvB:Bd->Prop
 | .leaf _=>True
 | .ask v ss y n=>v<=10000/\ug ss/\lvB y/\lvB n
def ug:List Bd->Prop
 | []=>True
 | b::bs=>lvB b/\ug bs
end
theorem vK:∀ (xs ys:List Bd),kh (xs++ys)=kh xs++kh ys
 | [],ys=>by simp [kh]
 | x::xs,ys=>by simp [kh,vK xs ys]
theorem textBs_take {ts:List Bd} {k:Nat} {t:Bd} (h:ts[k]? = some t):kh (ts.take (k+1))=kh (ts.take k)++[32]++k_ t:=by
 rw [List.take_add_one,h,vK];simp [kh]
theorem lvBs_at:∀ (xs:List Bd),ug xs->∀ (k:Nat) (t:Bd),xs[k]? = some t->lvB t
 | [],_,k,t,h=>by simp at h
 | x::xs,hl,k,t,h=>by
   rw [ug] at hl
   cases k with
   | zero=>simp at h;subst h;exact hl.1
   | succ k=>simp at h;exact lvBs_at xs hl.2 k t h
mutual
theorem qP:∀ (b:Bd),lvB b->(k_ b).length+1<=12*zk b
 | .leaf c,_=>by simp [k_,zk]
 | .ask v ss y n,h=>by
   rw [lvB] at h
   have h1:=uE ss h.2.1
   have h2:=qP y h.2.2.1
   have h3:=qP n h.2.2.2
   have h4:(dec v).length<=5:=qn 4 v (by have:=h.1;omega)
   simp only [k_,zk,List.length_append,List.length_cons,List.length_nil]
   omega
theorem uE:∀ (bs:List Bd),ug bs->(kh bs).length<=12*zN bs
 | [],_=>by simp [kh]
 | b::bs,h=>by
   rw [ug] at h
   have h1:=qP b h.1
   have h2:=uE bs h.2
   simp only [kh,zN,List.length_append,List.length_cons,List.length_nil]
   omega
end
theorem gH (xs:List Bd) (k:Nat):(kh (xs.take k)).length<=(kh xs).length:=by
 have:=congrArg List.length (vK (xs.take k) (xs.drop k))
 rw [List.take_append_drop,List.length_append] at this
 omega
mutual
def zq:Ty->Bs
 | .mk ts=>textTs ts
def textTs:List Ty->Bs
 | []=>[98]
 | a::ts=>[40,62,32]++(zq a++([32]++(textTs ts++[41])))
end
theorem vg:zq (.mk [])=[98]:=by rw [zq,textTs]
theorem vm (a:Ty) (ts:List Ty):zq (.mk (a::ts))=[40,62,32]++(zq a++([32]++(zq (.mk ts)++[41]))):=by
 rw [zq,textTs,zq]
theorem xQ (a:Ty) (ts:List Ty):zU (.mk (a::ts))=1+zU a+zU (.mk ts):=by
 simp only [zU,zR];omega
theorem cut_app (p r:Bs):cut p (p++r)=some r:=by
 unfold cut
 have h:p.isPrefixOf (p++r)=true:=List.isPrefixOf_iff_prefix.2 (List.prefix_append _ _)
 rw [if_pos h];simp
theorem noCut_b (r:Bs):xy [98] ([40,62,32]++r):=by
 show cut [98] ([40,62,32]++r)=none
 rfl
theorem rdK_text (d:Nat):∀ (t:Ty) (r:Bs),zU t<=2*d+1->rdK d (zq t++r)=some (t,r):=by
 have hb:∀ (d:Nat) (r:Bs),rdK d (zq (.mk [])++r)=some (.mk [],r):=fun d r=>by
  rw [vg];exact vz (cut_app [98] r)
 induction d with
 | zero =>
   intro t r h
   obtain ⟨ts⟩:=t
   cases ts with
   | nil=>exact hb 0 r
   | cons a ts=>rw [xQ] at h;have:=kR a;have:=kR (.mk ts);omega
 | succ d ih =>
   intro t r h
   obtain ⟨ts⟩:=t
   cases ts with
   | nil=>exact hb _ r
   | cons a ts =>
     rw [xQ] at h
     have h1:=kR a;have h2:=kR (.mk ts)
     rw [vm]
     have e:([40,62,32]++(zq a++([32]++(zq (.mk ts)++[41]))))++r=[40,62,32]++(zq a++([32]++(zq (.mk ts)++([41]++r)))):=by simp
     rw [e,ki (noCut_b _)]
     simp only [cut_app,Option.bind_eq_bind,Option.bind_some,ih a _ (by omega:zU a<=2*d+1),ih (.mk ts) _ (by omega:zU (.mk ts)<=2*d+1)]
     rfl
theorem kn:∀ (n:Nat) (t:Ty),zU t<=n->(zq t).length+2=3*zU t:=by
 intro n
 induction n with
 | zero=>intro t h;have:=kR t;omega
 | succ n ih =>
   intro t h
   obtain ⟨ts⟩:=t
   cases ts with
   | nil=>rw [vg];simp [zU,zR]
   | cons a ts =>
     rw [xQ] at h ⊢
     have h1:=kR a;have h2:=kR (.mk ts)
     have k1:=ih a (by omega)
     have k2:=ih (.mk ts) (by omega)
     rw [vm]
     simp only [List.length_append,List.length_cons,List.length_nil]
     omega
theorem jS {t:Ty} (h:zU t<=15):zQ (zq t)=(t,true):=by
 have hl:=kn 15 t h
 unfold zQ
 rw [if_neg (by omega)]
 have:=rdK_text 20 t [] (by omega)
 rw [List.append_nil] at this
 have h2:rdS 21 (zq t)=some (t,[]):=this
 rw [h2]
 simp [h]
theorem pw {t:Ty} (h:zU t<=15):qv (zq t)=some t:=by
 unfold qv
 have:=rdK_text 15 t [] (by omega)
 rw [List.append_nil] at this
 rw [this]
 simp [h]
theorem vu {t:Ty} (h:zU t<=15) (l:Bs):kE t l=zI (zq t) l:=by
 have h1:=vj (zq t) l
 unfold xf at h1
 rw [pw h] at h1
 simp only [Option.bind_eq_bind,Option.bind_some] at h1
 rw [jS h] at h1
 cases ha:kE t l <;> cases hb:zI (zq t) l <;> rw [ha,hb] at h1 <;> simp at h1 ⊢
 exact h1
inductive Clo where
 | mk (b:Bd) (env:List Clo) (begun:Nat) (path:Bs)
def Clo.body:Clo->Bd | .mk b _ _ _=>b
def Clo.env:Clo->List Clo | .mk _ e _ _=>e
def Clo.begun:Clo->Nat | .mk _ _ n _=>n
def Clo.path:Clo->Bs | .mk _ _ _ p=>p
mutual
def b7:Clo->Ty->Prop
 | .mk b e _ _,t=>∃ h,km e h/\kX (h++t.args) b
def km:List Clo->List Ty->Prop
 | [],h=>h=[]
 | c::cs,h=>∃ t ts,h=t::ts/\b7 c t/\km cs ts
end
theorem xL:∀ (cs:List Clo) (h:List Ty),km cs h->cs.length=h.length
 | [],h,k=>by rw [km] at k;simp [k]
 | c::cs,h,k=>by
   rw [km] at k
   obtain ⟨t,ts,rfl,_,k2⟩:=k
   simp [xL cs ts k2]
theorem envFit_at:∀ (cs:List Clo) (h:List Ty),km cs h->∀ (i:Nat) (c:Clo),cs[i]? = some c->∃ t,h[i]? = some t/\b7 c t
 | [],h,k,i,c,hc=>by simp at hc
 | c::cs,h,k,i,c',hc=>by
   rw [km] at k
   obtain ⟨t,ts,rfl,k1,k2⟩:=k
   cases i with
   | zero=>simp at hc;subst hc;exact ⟨t,rfl,k1⟩
   | succ i=>simp at hc;simpa using envFit_at cs ts k2 i c' hc
theorem xI:∀ (xs bs:List Clo) (h k:List Ty),km xs h->km bs k->km (xs++bs) (h++k)
 | [],bs,h,k,h1,h2=>by rw [km] at h1;subst h1;simpa using h2
 | a::xs,bs,h,k,h1,h2=>by
   rw [km] at h1
   obtain ⟨t,ts,rfl,k1,k2⟩:=h1
   simp only [List.cons_append]
   rw [km]
   exact ⟨t,ts++k,rfl,k1,xI xs bs ts k k2 h2⟩
end Go.Proofs.YtdhaafoiokkbnaaGreatDoor

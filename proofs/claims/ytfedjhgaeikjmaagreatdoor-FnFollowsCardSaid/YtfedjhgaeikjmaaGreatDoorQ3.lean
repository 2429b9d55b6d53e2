/- Walks of functions that the statement reaches, and plain words. No conditions. -/
import Derived.Lib.AtoiTie
import Derived.Laws.Concat
import Derived.Test.YtfedjhgaeikjmaaGreatDoorQ2
set_option linter.unusedVariables false
set_option linter.unusedSimpArgs false
set_option maxHeartbeats 10000000
namespace Go.Proofs.YtfedjhgaeikjmaaGreatDoor
open Go.RowKit
def x_ (i:Nat) (o:Option (Nat×Nat)) (w:World) (en:Ending) (w':World):Prop :=
 ∃ (v:Nat) (k:Int),en=.returned (.tuple #[.int .i64 v,.int .i64 k])/\w=w'/\(o=none->k = -1)/\(∀ v' c,o=some (v',c)->v=v'/\k=((i+c:Nat):Int))
theorem l3Number_any (l:Bs) (hl:Lim l.length) (i:Nat) (hi:i<=l.length) (w:World) :
 Calls Tryz.prog 102 #[str l,.int .i64 i] w (x_ i (qF (l.drop i)) w):=by
 have dz:=hl.le
 obtain ⟨ds,nx⟩:=zzM (z_ (l.drop i))
 have hd4:=yT (l.drop i)
 rw [<- nx] at hd4
 have h4:ds.length<=4:=hd4.1
 have aF:i+ds.length<=l.length:=by have:=hd4.2;simp at this;omega
 have HDS:=bU nx;clear nx hd4
 go_enter Tryz.func102,Tryz.ntmps102
 go_wp2_with fail
 go_loop [6,7] (fun n k=>∃ j:Nat,j<=ds.length/\k=.int .i64 ((i+j:Nat):Int)/\n=.int .i64 (qQ (ds.take j):Nat)) (fun _ k=>i+ds.length-(intOf k).toNat)
 case atStart=>exact ⟨0,Nat.zero_le _,by simp,by simp [qQ]⟩
 case round =>
  obtain ⟨j,hj,rfl,rfl⟩:=hrel
  by_cases bA:j<ds.length
  ·have rh:i+j<l.length:=by omega
   have hat:l[i+j]=ds[j]/\dig l[i+j]=true:=by
    have h1:=HDS.out;subst h1
    obtain ⟨hm,e1,e2⟩:=digsOf_at bA
    rw [List.getElem_drop] at e1 e2
    exact ⟨e1,e2⟩
   have b1:(48:Int)<=((((⟨l.toArray⟩:ByteArray)[i+j]'(kY rh)).toNat:Int))/\((((⟨l.toArray⟩:ByteArray)[i+j]'(kY rh)).toNat:Int))<=57:=by
    have h2:=hat.2
    simp [dig,UInt8.le_iff_toNat_le] at h2
    rw [kh rh];omega
   obtain ⟨b1,b2⟩:=b1
   have hv:qQ (ds.take j)<=9999:=by
    have h1:=valOf_lt (ds.take j) (fun c hc=>jh _ c (by have:=HDS.out;rw [<- this];exact List.mem_of_mem_take hc))
    have h2:10 ^ (ds.take j).length<=10 ^ 4:=Nat.pow_le_pow_right (by omega) (by simp;omega)
    omega
   have hs:=valOf_take bA
   have fj:(qQ (ds.take (j+1)):Int)=10*(qQ (ds.take j):Int)+(((((⟨l.toArray⟩:ByteArray)[i+j]'(kY rh)).toNat:Int))-48):=by
    rw [kh rh] at b1 ⊢;rw [hs,hat.1] at *;omega
   have HS:=bU fj
   have j4:j<4:=by omega
   clear hs fj hat
   go_wp2_with fail
   go_round
   case rel=>exact ⟨j+1,by omega,by go_num,by rw [HS.out]⟩
   case measure=>simp [intOf];omega
  ·obtain rfl:j=ds.length:=by omega
   have Du:ds.length=4\/i+ds.length=l.length\/∃ h:i+ds.length<l.length,dig l[i+ds.length]=false:=by
    have h1:=HDS.out;subst h1
    rcases digsOf_end (m:=l.drop i) with h | h | ⟨h,h2⟩
    ·exact .inl h
    ·right;left;simp at h;omega
    ·right;right;simp at h;refine ⟨by omega,?_⟩;rw [List.getElem_drop] at h2;exact h2
   have HV:qF (l.drop i)=(if ds=[]\/(1<ds.length/\(l.drop i).head? = some 48) then none else some (qQ ds,ds.length)):=by
    unfold qF;rw [<- HDS.out]
   have me:4<=ds.length\/l.length<=i+ds.length\/(∃ h:i+ds.length<l.length,((((⟨l.toArray⟩:ByteArray)[i+ds.length]'(kY h)).toNat:Int))<48)\/(∃ h:i+ds.length<l.length,(57:Int)<((((⟨l.toArray⟩:ByteArray)[i+ds.length]'(kY h)).toNat:Int))):=by
    rcases Du with h | h | ⟨h,h2⟩
    ·exact .inl (by omega)
    ·exact .inr (.inl (by omega))
    ·simp [dig,UInt8.le_iff_toNat_le] at h2
     by_cases hc:l[i+ds.length].toNat<48
     ·exact .inr (.inr (.inl ⟨h,by rw [kh h];omega⟩))
     ·exact .inr (.inr (.inr ⟨h,by rw [kh h];have:=h2 (by omega);omega⟩))
   clear Du
   rw [List.take_length]
   rcases (by omega:ds.length=0\/ds.length=1\/2<=ds.length) with hn | hn | hn
   ·have e0:((i:Int)+(ds.length:Int) == (i:Int))=true:=by rw [beq_iff_eq];omega
    have fin:x_ i (qF (l.drop i)) w (.returned (.tuple #[.int .i64 0,.int .i64 (-1)])) w:=by
     have nw:ds=[]:=List.eq_nil_of_length_eq_zero hn
     refine ⟨0,-1,rfl,rfl,fun _=>rfl,fun v c h=>?_⟩
     rw [HV,if_pos (.inl nw)] at h;simp at h
    have HF:=bU fin;have A8:(ds.length:Int)<=0:=by omega
    clear fin HV hn
    rcases me with h | h | ⟨h,h2⟩ | ⟨h,h2⟩
    all_goals
     go_wp2_with fail
     all_goals (go_ret2;exact HF.out)
   ·have e0:((i:Int)+(ds.length:Int) == (i:Int))=false:=by rw [beq_eq_false_iff_ne];omega
    have n1:¬ 1<ds.length:=by omega
    have fin:x_ i (qF (l.drop i)) w (.returned (.tuple #[.int .i64 (qQ ds:Nat),.int .i64 ((i:Int)+(ds.length:Int))])) w:=by
     have nw:¬ (ds=[]\/(1<ds.length/\(l.drop i).head? = some 48)):=by
      rintro (h | h)
      ·rw [h] at hn;simp at hn
      ·omega
     refine ⟨_,_,rfl,rfl,fun h=>?_,fun v c h=>?_⟩
     ·rw [HV,if_neg nw] at h;simp at h
     ·rw [HV,if_neg nw] at h;simp at h;exact ⟨h.1,by omega⟩
    have HF:=bU fin;have di:1<=ds.length:=by omega
    clear fin HV hn
    rcases me with h | h | ⟨h,h2⟩ | ⟨h,h2⟩
    all_goals
     go_wp2_with fail
     all_goals (go_ret2;exact HF.out)
   ·have e0:((i:Int)+(ds.length:Int) == (i:Int))=false:=by rw [beq_eq_false_iff_ne];omega
    have n1:1<ds.length:=by omega
    have Aa:i<l.length:=by rcases me with h | h | ⟨h,h2⟩ | ⟨h,h2⟩ <;> omega
    have hhd:(l.drop i).head? = some l[i]:=by rw [List.head?_drop];simp [Aa]
    have hdn:ds≠[]:=by intro h;rw [h] at hn;simp at hn
    by_cases ni:l[i]=48
    ·have f1:=jl Aa (n:=48) (by decide) ni
     have fin:x_ i (qF (l.drop i)) w (.returned (.tuple #[.int .i64 0,.int .i64 (-1)])) w:=by
      refine ⟨0,-1,rfl,rfl,fun _=>rfl,fun v c h=>?_⟩
      rw [HV,if_pos (.inr ⟨n1,by rw [hhd,ni]⟩)] at h;simp at h
     have HF:=bU fin;clear fin HV hhd ni
     rcases me with h | h | ⟨h,h2⟩ | ⟨h,h2⟩
     all_goals
      go_wp2_with fail
      all_goals (go_ret2;exact HF.out)
    ·have f1:=jY Aa (n:=48) (by decide) ni
     have fin:x_ i (qF (l.drop i)) w (.returned (.tuple #[.int .i64 (qQ ds:Nat),.int .i64 ((i:Int)+(ds.length:Int))])) w:=by
      have nw:¬ (ds=[]\/(1<ds.length/\(l.drop i).head? = some 48)):=by
       rintro (h | h)
       ·exact hdn h
       ·rw [hhd] at h;exact ni (Option.some.inj h.2)
      refine ⟨_,_,rfl,rfl,fun h=>?_,fun v c h=>?_⟩
      ·rw [HV,if_neg nw] at h;simp at h
      ·rw [HV,if_neg nw] at h;simp at h;exact ⟨h.1,by omega⟩
     have HF:=bU fin;clear fin HV hhd ni
     rcases me with h | h | ⟨h,h2⟩ | ⟨h,h2⟩
     all_goals
      go_wp2_with fail
      all_goals (go_ret2;exact HF.out)
mutual
def ke:Bd->List DV
 | .leaf c=>[.val (str [c]),.val (.int .i64 (0:Nat)),.sl 64 4 0 [],.sl 64 4 0 []]
 | .ask v ss y n=>[.val (str []),.val (.int .i64 v),.sl 64 4 ss.length (kF ss),.sl 64 4 2 (ke y++(ke n++[]))]
def kF:List Bd->List DV
 | []=>[]
 | b::bs=>ke b++kF bs
end
theorem yY (b:Bd):(ke b).length=4:=by cases b <;> simp [ke]
theorem encNs_length (bs:List Bd):(kF bs).length=bs.length*4:=by
 induction bs with
 | nil=>simp [kF]
 | cons b bs ih=>simp [kF,yY,ih];omega
theorem jV (a b:List Bd):kF (a++b)=kF a++kF b:=by
 induction a with
 | nil=>simp [kF]
 | cons t ts ih=>simp [kF,ih,List.append_assoc]
theorem gt (v:Nat) (ss:List Bd) (y n:Bd):ke (.ask v ss y n)=[.val (str []),.val (.int .i64 v),.sl 64 4 ss.length (kF ss),.sl 64 4 2 (kF [y,n])]:=by
 simp [ke,kF]
theorem Tryz.infoN:(Tryz.prog.info? 64).map (fun i=>(i.zero,i.size,i.bytes))=some (some (.agg #[str [],.int .i64 0,.slice none 0 0,.slice none 0 0]),4,72):=by kernel_rfl
def jF (L:Nat) (w:World) (o:Option (Bd×Bs)) (en:Ending) (w':World):Prop :=
 ∃ (s:Bs) (v:Int) (a2:Option Addr) (n2 k2:Nat) (a3:Option Addr) (n3 k3:Nat) (k:Int),en=.returned (.tuple #[.agg #[str s,.int .i64 v,.slice a2 n2 k2,.slice a3 n3 k3],.int .i64 k])/\Below w.heap.size w w'/\(o=none->k = -1) /\
   (∀ b rest,o=some (b,rest)->k=(L:Int)-rest.length/\zq (w.heap.size<=·) w' (ke b) [str s,.int .i64 v,.slice a2 n2 k2,.slice a3 n3 k3])
theorem jF.no {L:Nat} {w w':World} {o:Option (Bd×Bs)} (ho:o=none) (hb:Below w.heap.size w w') :
 jF L w o (.returned (.tuple #[.agg #[str [],.int .i64 0,.slice none 0 0,.slice none 0 0],.int .i64 (-1)])) w' :=
 ⟨[],0,none,0,0,none,0,0,_,rfl,hb,fun _=>rfl,fun _ _ h=>by rw [ho] at h;simp at h⟩
theorem jF.yes {L:Nat} {w w':World} {o:Option (Bd×Bs)} {b:Bd} {rest:Bs} {s:Bs} {v:Int} {a2:Option Addr} {n2 k2:Nat} {a3:Option Addr} {n3 k3:Nat} {k:Int} (ho:o=some (b,rest)) (hk:k=(L:Int)-rest.length) (hb:Below w.heap.size w w') (hv:zq (w.heap.size<=·) w' (ke b) [str s,.int .i64 v,.slice a2 n2 k2,.slice a3 n3 k3]) :
 jF L w o (.returned (.tuple #[.agg #[str s,.int .i64 v,.slice a2 n2 k2,.slice a3 n3 k3],.int .i64 k])) w' :=
 ⟨s,v,a2,n2,k2,a3,n3,k3,k,rfl,hb,fun h=>by rw [ho] at h;simp at h,fun _ _ h=>by rw [ho] at h;simp at h;obtain ⟨rfl,rfl⟩:=h;exact ⟨hk,hv⟩⟩
def NodeSaid (l:Bs) (e d:Nat):Prop:=∀ (F:Nat->Prop) (hand:List Ty) (hv:Value) (i:Nat) (w:World),i<=l.length->k8 e hand ->
    Rep F w (.sl 61 1 hand.length (qc hand)) hv ->
    Calls Tryz.prog 64 #[str l,.int .i64 i,hv,.int .i64 d] w (jF l.length w (rdN e hand (l.drop i)))
theorem leaf_reps (F:Nat->Prop) (w:World) (c:UInt8):zq F w (ke (.leaf c)) [str [c],.int .i64 0,.slice none 0 0,.slice none 0 0]:=by
 have hz:Rep F w (.sl 64 4 0 []) (.slice none 0 0):=qk.2 ⟨rfl,none,0,rfl,bX _,fun _=>rfl,.inl rfl⟩
 rw [ke]
 exact zP.2 ⟨_,_,rfl,zo.2 rfl,zP.2 ⟨_,_,rfl,zo.2 rfl,zP.2 ⟨_,_,rfl,hz,zP.2 ⟨_,_,rfl,hz,zd.2 rfl⟩⟩⟩⟩
theorem rdN_leaf (e:Nat) (hand:List Ty) {l:Bs} {i:Nat} (h:i<l.length) (hc:l[i]=116\/l[i]=102\/l[i]=117):rdN (e+1) hand (l.drop i)=some (.leaf l[i],l.drop (i+1)):=by
 rw [List.drop_eq_getElem_cons h,rdN];simp only [if_pos hc]
theorem rdN_other (e:Nat) (hand:List Ty) {l:Bs} {i:Nat} (h:i<l.length) (hc:¬ (l[i]=116\/l[i]=102\/l[i]=117)) (dL:¬ l[i]=40):rdN (e+1) hand (l.drop i)=none:=by
 rw [List.drop_eq_getElem_cons h,rdN];simp only [if_neg hc,if_pos dL]
theorem rdN_40 (e:Nat) (hand:List Ty) {l:Bs} {i:Nat} (h:i<l.length) (dL:l[i]=40):rdN (e+1) hand (l.drop i)=(match qF (l.drop (i+1)) with
 | none=>none
 | some (v,k)=>match hand[v]? with
   | none=>none
   | some t=>do
     let (ps,l1)<-zY (rdN e) (kM hand t) ((l.drop (i+1)).drop k)
     let l2<-cut [41] l1
     let b<-uz v t.args.length ps
     some (b,l2)):=by
 rw [List.drop_eq_getElem_cons h,rdN]
 rw [if_neg (by rw [dL];decide),if_neg (by simpa using dL)]
 try rfl
theorem xz (l:Bs) (hl:Lim l.length) (e d:Nat) (Bg:e+d=101) (F:Nat->Prop) (hand:List Ty) (hv:Value) (i:Nat) (w:World) (hi:i<=l.length)
 (hr:Rep F w (.sl 61 1 hand.length (qc hand)) hv) (dU:∀ h:i<l.length,e=0\/¬ l[i]=40) :
 Calls Tryz.prog 64 #[str l,.int .i64 i,hv,.int .i64 d] w (jF l.length w (rdN e hand (l.drop i))):=by
 have dz:=hl.le
 obtain ⟨a0,c0,e0,_⟩:=zO hr
 subst e0
 rcases e with _ | e
 ·have hd1:(100:Int)<(d:Int):=by omega
  clear dU
  go_enter Tryz.func64,Tryz.ntmps64
  go_wp2_with fail
  refine bodyPost_ret (v:=.tuple #[.agg #[str [],.int .i64 0,.slice none 0 0,.slice none 0 0],.int .i64 (-1)]) (by simp [results,Tryz.results64,go_sem]) rfl ?_
  exact jF.no (by rfl) (by repeat (first | exact bP _ _ | refine Below.alloc ?_ (bX _) _ | refine Below.setCell ?_ (by simp) _))
 have nw:¬ (100:Int)<(d:Int):=by omega
 by_cases bA:i<l.length
 rotate_left
 ·clear dU
  go_enter Tryz.func64,Tryz.ntmps64
  go_wp2_with fail
  refine bodyPost_ret (v:=.tuple #[.agg #[str [],.int .i64 0,.slice none 0 0,.slice none 0 0],.int .i64 (-1)]) (by simp [results,Tryz.results64,go_sem]) rfl ?_
  exact jF.no (by rw [List.drop_eq_nil_of_le (by omega)];rfl) (by repeat (first | exact bP _ _ | refine Below.alloc ?_ (bX _) _ | refine Below.setCell ?_ (by simp) _))
 have dL:¬ l[i]=40:=(dU bA).resolve_left (by omega)
 clear dU
 by_cases lF:l[i]=116\/l[i]=102\/l[i]=117
 ·have HM:=bU (rdN_leaf e hand bA lF)
  have hx:((⟨l.toArray⟩:ByteArray).extract i (i+1))=⟨#[l[i]]⟩:=by
   rw [vJ];congr 1
   rw [List.drop_take,List.drop_eq_getElem_cons bA,show i+1-i=1 from by omega];rfl
  have HX:=bU hx;clear hx
  have fin:∀ w':World,Below w.heap.size w w'->jF l.length w (rdN (e+1) hand (l.drop i)) (.returned (.tuple #[.agg #[.string ((⟨l.toArray⟩:ByteArray).extract i (i+1)),.int .i64 0,.slice none 0 0,.slice none 0 0],.int .i64 ((i:Int)+1)])) w':=by
   intro w' hb
   rw [HX.out]
   exact jF.yes (s:=[l[i]]) HM.out (by simp;omega) hb (leaf_reps _ _ _)
  have FIN:=bU fin;clear fin
  have key:((((⟨l.toArray⟩:ByteArray)[i]'(kY bA)).toNat:Int) == 116)=true\/((((((⟨l.toArray⟩:ByteArray)[i]'(kY bA)).toNat:Int) == 116)=false/\((((⟨l.toArray⟩:ByteArray)[i]'(kY bA)).toNat:Int) == 102)=true))\/((((((⟨l.toArray⟩:ByteArray)[i]'(kY bA)).toNat:Int) == 116)=false/\((((⟨l.toArray⟩:ByteArray)[i]'(kY bA)).toNat:Int) == 102)=false/\((((⟨l.toArray⟩:ByteArray)[i]'(kY bA)).toNat:Int) == 117)=true)):=by
   rcases lF with h | h | h
   ·exact .inl (jl bA (n:=116) (by decide) h)
   ·exact .inr (.inl ⟨jY bA (c:=116) (n:=116) (by decide) (by rw [h];decide),jl bA (n:=102) (by decide) h⟩)
   ·exact .inr (.inr ⟨jY bA (c:=116) (n:=116) (by decide) (by rw [h];decide),jY bA (c:=102) (n:=102) (by decide) (by rw [h];decide),jl bA (n:=117) (by decide) h⟩)
  clear lF dL HM HX
  rcases key with f1 | ⟨f1,f2⟩ | ⟨f1,f2,f3⟩
  all_goals
   go_enter Tryz.func64,Tryz.ntmps64
   go_wp2_with fail
   refine bodyPost_ret (v:=.tuple #[.agg #[.string ((⟨l.toArray⟩:ByteArray).extract i (i+1)),.int .i64 0,.slice none 0 0,.slice none 0 0],.int .i64 ((i:Int)+1)]) (by simp [results,Tryz.results64,go_sem]) rfl ?_
   exact FIN.out _ (by repeat (first | exact bP _ _ | refine Below.alloc ?_ (bX _) _ | refine Below.setCell ?_ (by simp) _))
 have HM:=bU (rdN_other e hand bA lF dL)
 have f1:=jY bA (n:=116) (by decide) (fun h=>lF (.inl h))
 have f2:=jY bA (n:=102) (by decide) (fun h=>lF (.inr (.inl h)))
 have f3:=jY bA (n:=117) (by decide) (fun h=>lF (.inr (.inr h)))
 have f4:=yW bA (n:=40) (by decide) dL
 clear lF dL
 go_enter Tryz.func64,Tryz.ntmps64
 go_wp2_with fail
 refine bodyPost_ret (v:=.tuple #[.agg #[str [],.int .i64 0,.slice none 0 0,.slice none 0 0],.int .i64 (-1)]) (by simp [results,Tryz.results64,go_sem]) rfl ?_
 exact jF.no HM.out (by repeat (first | exact bP _ _ | refine Below.alloc ?_ (bX _) _ | refine Below.setCell ?_ (by simp) _))
def kD (ob:Nat) (v:Int) (kslv yslv:Value) (w:World):Prop:=w.heap[ob]? = some (.cells #[str [],.int .i64 v,kslv,yslv] 64 (0,0))
theorem kD.cells {ob:Nat} {v:Int} {ks ys:Value} {w:World} (h:kD ob v ks ys w):w.cell? ⟨ob,0,none⟩=some (str [])/\w.cell? ⟨ob,1,none⟩=some (.int .i64 v)/\w.cell? ⟨ob,2,none⟩=some ks/\w.cell? ⟨ob,3,none⟩=some ys/\ob<w.heap.size/\(∀ o,w.frozen? ⟨ob,o,none⟩=false):=by
 have hl:=zZ h
 unfold kD at h
 exact ⟨by simp [World.cell?,h],by simp [World.cell?,h],by simp [World.cell?,h],by simp [World.cell?,h],hl,fun o=>by simp [World.frozen?,h]⟩
theorem kD.put2 {ob:Nat} {v:Int} {ks ys u:Value} {w:World} (h:kD ob v ks ys w):kD ob v u ys (w.setCell ⟨ob,2,none⟩ u):=by
 unfold kD;rw [kr h];rfl
theorem kD.put3 {ob:Nat} {v:Int} {ks ys u:Value} {w:World} (h:kD ob v ks ys w):kD ob v ks u (w.setCell ⟨ob,3,none⟩ u):=by
 unfold kD;rw [kr h];rfl
theorem kD.but {ob:Nat} {v:Int} {ks ys:Value} {m:Nat->Prop} {w w':World} (h:kD ob v ks ys w) (hb:But m w w') (hm:¬ m ob):kD ob v ks ys w':=by
 unfold kD;rw [hb.block ob (zZ h) hm];exact h
theorem kD.below {ob:Nat} {v:Int} {ks ys:Value} {w w':World} {B:Nat} (h:kD ob v ks ys w) (hb:Below B w w') (hm:ob<B):kD ob v ks ys w':=by
 unfold kD;rw [hb.block ob hm];exact h
theorem kD.store {ob:Nat} {v:Int} {ks ys:Value} {w:World} (h:kD ob v ks ys w) (u0 u1 u2 u3:Value) :
 ∃ W,W=((((w.setCell ⟨ob,0,none⟩ u0).setCell ⟨ob,1,none⟩ u1).setCell ⟨ob,2,none⟩ u2).setCell ⟨ob,3,none⟩ u3) /\
   W.cell? ⟨ob,0,none⟩=some u0/\W.cell? ⟨ob,1,none⟩=some u1/\W.cell? ⟨ob,2,none⟩=some u2/\W.cell? ⟨ob,3,none⟩=some u3 /\
   (∀ B w0,Below B w0 w->B<=ob->Below B w0 W)/\(∀ i x,i≠ob->w.heap[i]? = some x->W.heap[i]? = some x):=by
 have hc:((((w.setCell ⟨ob,0,none⟩ u0).setCell ⟨ob,1,none⟩ u1).setCell ⟨ob,2,none⟩ u2).setCell ⟨ob,3,none⟩ u3).heap[ob]? = some (.cells #[u0,u1,u2,u3] 64 (0,0)):=by
  unfold kD at h
  rw [kr (kr (kr (kr h)))];rfl
 refine ⟨_,rfl,by simp only [World.cell?,hc];rfl,by simp only [World.cell?,hc];rfl,by simp only [World.cell?,hc];rfl,by simp only [World.cell?,hc];rfl,fun B w0 hb hB=>?_,fun i x hi hx=>?_⟩
 ·exact ((((hb.setCell (p:=⟨ob,0,none⟩) hB _).setCell (p:=⟨ob,1,none⟩) hB _).setCell (p:=⟨ob,2,none⟩) hB _).setCell (p:=⟨ob,3,none⟩) hB _)
 ·rw [bG _ _ _ _ (by simpa using hi),bG _ _ _ _ (by simpa using hi),bG _ _ _ _ (by simpa using hi),bG _ _ _ _ (by simpa using hi)];exact hx
structure xJ (l:Bs) (w:World) (rd:RdS) (hs:List (List Ty)) (n i0 ob Z v:Nat) (k en:Nat) (wr:World) (ps:List Bd) (kv yv:List Value) (ks:Value) (nk:Nat) (ys:Value) (ny:Nat):Prop where
 hnk:nk=min k n
 hny:ny=k-n
 ksl:∃ a c,ks=.slice a nk c
 ysl:∃ a c,ys=.slice a ny c
 spec:zY rd (hs.take k) (l.drop i0)=some (ps,l.drop en)
 len:ps.length=k
 en:en<=l.length
 below:Below w.heap.size w wr
 res:kD w.heap.size 0 (.slice none 0 0) (.slice none 0 0) wr
 out:kD ob v ks ys wr
 ownK:Own wr 64 4 ks nk kv
 ownY:Own wr 64 4 ys ny yv
 blkK:∀ g,ks.ownBlock=some g->Z<=g/\ys.ownBlock≠some g
 blkY:∀ g,ys.ownBlock=some g->Z<=g
 repK:zq (fun b=>Z<=b/\ks.ownBlock≠some b/\ys.ownBlock≠some b) wr (kF (ps.take n)) kv
 repY:zq (fun b=>Z<=b/\ks.ownBlock≠some b/\ys.ownBlock≠some b) wr (kF (ps.drop n)) yv
 z:Z<=wr.heap.size
theorem xJ.kid {l:Bs} {w:World} {rd:RdS} {hs:List (List Ty)} {n i0 ob Z v k en:Nat} {wr:World} {ps:List Bd} {kv yv:List Value} {ks ys:Value} {nk ny:Nat}
 (h:xJ l w rd hs n i0 ob Z v k en wr ps kv yv ks nk ys ny) (hk:k<n) (lH:ob<Z) (hwo:w.heap.size<ob) {W w7:World} {b:Bd} {cs:List Value} {a':Option Addr} {c' mP:Nat}
 (b9:Below wr.heap.size wr W) (hcs:zq (wr.heap.size<=·) W (ke b) cs) (b5:Own w7 64 4 (.slice a' (nk+1) c') (nk+1) (kv++cs)) (bh:But (fun i=>ks.ownBlock=some i) W w7)
 (cU:∀ g,(Value.slice a' (nk+1) c').ownBlock=some g->ks.ownBlock=some g\/g=W.heap.size)
 (sy:zY rd (hs.take (k+1)) (l.drop i0)=some (ps++[b],l.drop mP)) (mV:mP<=l.length) :
 xJ l w rd hs n i0 ob Z v (k+1) mP (w7.setCell ⟨ob,2,none⟩ (.slice a' (nk+1) c')) (ps++[b]) (kv++cs) yv (.slice a' (nk+1) c') (nk+1) ys ny:=by
 have z6:=b9.size
 have z7:=bh.size
 have zr:=h.z
 have bI:=h.len
 have keep:∀ i x,wr.heap[i]? = some x->ks.ownBlock≠some i->i≠ob->(w7.setCell ⟨ob,2,none⟩ (.slice a' (nk+1) c')).heap[i]? = some x:=by
  intro i x hx h1 h2
  have:=zZ hx
  rw [bG _ _ _ _ (by simpa using h2),bh.block i (by omega) h1,b9.block i this];exact hx
 have fK:∀ i x,W.heap[i]? = some x->ks.ownBlock≠some i->i≠ob->(w7.setCell ⟨ob,2,none⟩ (.slice a' (nk+1) c')).heap[i]? = some x:=by
  intro i x hx h1 h2
  have:=zZ hx
  rw [bG _ _ _ _ (by simpa using h2),bh.block i (by omega) h1];exact hx
 have ltK:∀ g,ks.ownBlock=some g->g<wr.heap.size:=fun g hg=>h.ownK.lt hg
 have ltY:∀ g,ys.ownBlock=some g->g<wr.heap.size:=fun g hg=>h.ownY.lt hg
 have nK:∀ i,i<Z->ks.ownBlock≠some i:=fun i hi e=>by have:=(h.blkK i e).1;omega
 have newg:∀ g,(Value.slice a' (nk+1) c').ownBlock=some g->Z<=g:=fun g hg=>by
  rcases cU g hg with e | e
  ·exact (h.blkK g e).1
  ·omega
 refine ⟨by rw [h.hnk];omega,by rw [h.hny];omega,⟨_,_,rfl⟩,h.ysl,sy,by simp [bI],mV,?_,?_,?_,?_,?_,?_,h.blkY,?_,?_,by simp [World.setCell];omega⟩
 ·refine Below.setCell ?_ (show w.heap.size<=ob by omega) _
  exact (zzT h.below b9).trans (bh.toBelow (by have:=h.below.size;omega) fun i hi e=>nK i (by omega) e)
 ·exact keep _ _ h.res (nK _ (by omega)) (by omega)
 ·have h1:kD ob v ks ys w7:=by
   unfold kD;rw [bh.block ob (by omega) (nK _ lH),b9.block ob (by omega)];exact h.out
  exact h1.put2
 ·exact b5.keep fun g o hg ho=>by rw [bG _ _ _ _ (by have:=newg g hg;simp;omega)];exact ho
 ·exact h.ownY.keep fun g o hg ho=>keep g o ho (fun e=>(h.blkK g e).2 hg) (by have:=h.blkY g hg;omega)
 ·intro g hg
  refine ⟨newg g hg,fun e=>?_⟩
  rcases cU g hg with e' | e'
  ·exact (h.blkK g e').2 e
  ·have:=ltY g e;omega
 ·rw [List.take_of_length_le (by simp;omega),jV]
  have h1:=h.repK
  rw [List.take_of_length_le (by omega)] at h1
  refine zq.append ((Rep.keep fun i x hi hx=>⟨⟨hi.1,fun e=>(cU i e).elim (fun e'=>hi.2.1 e') (fun e'=>by have:=zZ hx;omega),hi.2.2⟩,keep i x hx hi.2.1 (by have:=hi.1;omega)⟩).2 _ _ h1) ?_
  ·have e1:kF [b]=ke b:=by simp [kF]
   rw [e1]
   refine (Rep.keep fun i x hi hx=>?_).2 _ _ hcs
   have h2:=zZ hx
   have h3:wr.heap.size<=i:=hi
   refine ⟨⟨by omega,fun e=>?_,fun e=>by have:=ltY i e;omega⟩,fK i x hx (fun e=>by have:=ltK i e;omega) (by omega)⟩
   rcases cU i e with e' | e'
   ·have:=ltK i e';omega
   ·omega
 ·have h1:=h.repY
  rw [List.drop_eq_nil_of_le (by omega)] at h1
  rw [List.drop_eq_nil_of_le (by simp;omega)]
  have:yv=[]:=by simpa [kF,zd] using h1
  subst this;exact zd.2 rfl
theorem xJ.yes {l:Bs} {w:World} {rd:RdS} {hs:List (List Ty)} {n i0 ob Z v k en:Nat} {wr:World} {ps:List Bd} {kv yv:List Value} {ks ys:Value} {nk ny:Nat}
 (h:xJ l w rd hs n i0 ob Z v k en wr ps kv yv ks nk ys ny) (hk:n<=k) (lH:ob<Z) (hwo:w.heap.size<ob) {W w7:World} {b:Bd} {cs:List Value} {a':Option Addr} {c' mP:Nat}
 (b9:Below wr.heap.size wr W) (hcs:zq (wr.heap.size<=·) W (ke b) cs) (b5:Own w7 64 4 (.slice a' (ny+1) c') (ny+1) (yv++cs)) (bh:But (fun i=>ys.ownBlock=some i) W w7)
 (cU:∀ g,(Value.slice a' (ny+1) c').ownBlock=some g->ys.ownBlock=some g\/g=W.heap.size)
 (sy:zY rd (hs.take (k+1)) (l.drop i0)=some (ps++[b],l.drop mP)) (mV:mP<=l.length) :
 xJ l w rd hs n i0 ob Z v (k+1) mP (w7.setCell ⟨ob,3,none⟩ (.slice a' (ny+1) c')) (ps++[b]) kv (yv++cs) ks nk (.slice a' (ny+1) c') (ny+1):=by
 have z6:=b9.size
 have z7:=bh.size
 have zr:=h.z
 have bI:=h.len
 have keep:∀ i x,wr.heap[i]? = some x->ys.ownBlock≠some i->i≠ob->(w7.setCell ⟨ob,3,none⟩ (.slice a' (ny+1) c')).heap[i]? = some x:=by
  intro i x hx h1 h2
  have:=zZ hx
  rw [bG _ _ _ _ (by simpa using h2),bh.block i (by omega) h1,b9.block i this];exact hx
 have fK:∀ i x,W.heap[i]? = some x->ys.ownBlock≠some i->i≠ob->(w7.setCell ⟨ob,3,none⟩ (.slice a' (ny+1) c')).heap[i]? = some x:=by
  intro i x hx h1 h2
  have:=zZ hx
  rw [bG _ _ _ _ (by simpa using h2),bh.block i (by omega) h1];exact hx
 have ltK:∀ g,ks.ownBlock=some g->g<wr.heap.size:=fun g hg=>h.ownK.lt hg
 have ltY:∀ g,ys.ownBlock=some g->g<wr.heap.size:=fun g hg=>h.ownY.lt hg
 have nY:∀ i,i<Z->ys.ownBlock≠some i:=fun i hi e=>by have:=h.blkY i e;omega
 have newg:∀ g,(Value.slice a' (ny+1) c').ownBlock=some g->Z<=g:=fun g hg=>by
  rcases cU g hg with e | e
  ·exact h.blkY g e
  ·omega
 refine ⟨by rw [h.hnk];omega,by rw [h.hny];omega,h.ksl,⟨_,_,rfl⟩,sy,by simp [bI],mV,?_,?_,?_,?_,?_,?_,newg,?_,?_,by simp [World.setCell];omega⟩
 ·refine Below.setCell ?_ (show w.heap.size<=ob by omega) _
  exact (zzT h.below b9).trans (bh.toBelow (by have:=h.below.size;omega) fun i hi e=>nY i (by omega) e)
 ·exact keep _ _ h.res (nY _ (by omega)) (by omega)
 ·have h1:kD ob v ks ys w7:=by
   unfold kD;rw [bh.block ob (by omega) (nY _ lH),b9.block ob (by omega)];exact h.out
  exact h1.put3
 ·exact h.ownK.keep fun g o hg ho=>keep g o ho (h.blkK g hg).2 (by have:=(h.blkK g hg).1;omega)
 ·exact b5.keep fun g o hg ho=>by rw [bG _ _ _ _ (by have:=newg g hg;simp;omega)];exact ho
 ·intro g hg
  refine ⟨(h.blkK g hg).1,fun e=>?_⟩
  rcases cU g e with e' | e'
  ·exact (h.blkK g hg).2 e'
  ·have:=ltK g hg;omega
 ·rw [List.take_append_of_le_length (by omega)]
  refine (Rep.keep fun i x hi hx=>⟨⟨hi.1,hi.2.1,fun e=>?_⟩,keep i x hx hi.2.2 (by have:=hi.1;omega)⟩).2 _ _ h.repK
  rcases cU i e with e' | e'
  ·exact hi.2.2 e'
  ·have:=zZ hx;omega
 ·rw [List.drop_append_of_le_length (by omega),jV]
  refine zq.append ((Rep.keep fun i x hi hx=>⟨⟨hi.1,hi.2.1,fun e=>(cU i e).elim (fun e'=>hi.2.2 e') (fun e'=>by have:=zZ hx;omega)⟩,keep i x hx hi.2.2 (by have:=hi.1;omega)⟩).2 _ _ h.repY) ?_
  ·have e1:kF [b]=ke b:=by simp [kF]
   rw [e1]
   refine (Rep.keep fun i x hi hx=>?_).2 _ _ hcs
   have h2:=zZ hx
   have h3:wr.heap.size<=i:=hi
   refine ⟨⟨by omega,fun e=>by have:=ltK i e;omega,fun e=>?_⟩,fK i x hx (fun e=>by have:=ltY i e;omega) (by omega)⟩
   rcases cU i e with e' | e'
   ·have:=ltY i e';omega
   ·omega
theorem zR.lit4 {w:World} {e:TypeId} (cs:Array Value) (hn:cs.size=4) (hc:∀ u∈cs.toList,u.oneCell'=true) (g:Nat) (hg:g=w.heap.size):zR 4 (.slice (some ⟨g,0,none⟩) 1 1) 1 cs.toList (w.alloc (.cells cs e)):=by
 subst hg
 refine ⟨by simp [hn],hc,.inl ⟨_,_,rfl,fun j u hu=>?_⟩⟩
 unfold Addr.add
 split
 ·subst j;simp;simpa using hu
 ·simp;simpa using hu
def NodeRel (l:Bs) (w:World) (rd:RdS) (hs:List (List Ty)) (n i0 ob Z v:Nat) (k en:Nat) (wr:World):Prop :=
 ∃ ps kv yv ks nk ys ny,xJ l w rd hs n i0 ob Z v k en wr ps kv yv ks nk ys ny
set_option maxRecDepth 100000 in
theorem l3Read_ask (l:Bs) (hl:Lim l.length) (e d:Nat) (Bg:e+1+d=101) (ih:NodeSaid l e (d+1)) (F:Nat->Prop) (hand:List Ty) (hv:Value) (i:Nat) (w:World) (hi:i<l.length) (hh:k8 (e+1) hand)
 (hr:Rep F w (.sl 61 1 hand.length (qc hand)) hv) (dL:l[i]=40) :
 Calls Tryz.prog 64 #[str l,.int .i64 i,hv,.int .i64 d] w (jF l.length w (rdN (e+1) hand (l.drop i))):=by
 have dz:=hl.le
 have IH:=bU ih;clear ih
 have bI:hand.length<=10000:=by have:=hh.2;omega
 have nw:¬ (100:Int)<(d:Int):=by omega
 have HM:=bU (rdN_40 e hand hi dL)
 have f1:=jY hi (c:=116) (n:=116) (by decide) (by rw [dL];decide)
 have f2:=jY hi (c:=102) (n:=102) (by decide) (by rw [dL];decide)
 have f3:=jY hi (c:=117) (n:=117) (by decide) (by rw [dL];decide)
 have f4:=uV hi (n:=40) (by decide) dL
 clear dL
 obtain ⟨a0,k0,ehv,_,_,hat⟩:=zO hr
 subst ehv
 have Bx:=bU hat;clear hat
 go_enter Tryz.func64,Tryz.ntmps64
 go_wp2_with fail
 rw [show (i:Int)+1=((i+1:Nat):Int) from by omega]
 refine (l3Number_any l hl (i+1) hi _).mono ?_
 rintro en w1 ⟨v,k1,rfl,ew,cS,dW⟩
 obtain rfl:=ew
 cases hq:qF (l.drop (i+1)) with
 | none =>
   obtain rfl:=cS hq
   have hm:rdN (e+1) hand (l.drop i)=none:=by rw [HM.out,hq]
   have HM:=bU hm;clear hm hq cS dW
   go_wp2_with fail
   refine bodyPost_ret (v:=.tuple #[.agg #[str [],.int .i64 0,.slice none 0 0,.slice none 0 0],.int .i64 (-1)]) (by simp [results,Tryz.results64,go_sem]) rfl ?_
   exact jF.no HM.out (by repeat (first | exact bP _ _ | refine Below.alloc ?_ (bX _) _ | refine Below.setCell ?_ (by simp) _))
 | some x =>
 obtain ⟨v',c⟩:=x
 obtain ⟨rfl,rfl⟩:=dW _ _ hq
 have aM:i+1+c<=l.length/\v<=9999:=by
  unfold qF at hq
  split at hq
  ·simp at hq
  ·simp at hq
   obtain ⟨e1,e2⟩:=hq
   have h1:=yT (l.drop (i+1))
   have h2:=valOf_lt (z_ (l.drop (i+1))) (jh _)
   have h3:10 ^ (z_ (l.drop (i+1))).length<=10 ^ 4:=Nat.pow_le_pow_right (by omega) h1.1
   simp at h1;omega
 obtain ⟨aM,hv9⟩:=aM
 have HQ:=bU hq;clear hq cS dW
 by_cases mS:v<hand.length
 rotate_left
 ·have hm:rdN (e+1) hand (l.drop i)=none:=by
   rw [HM.out,HQ.out];simp only
   rw [List.getElem?_eq_none (by omega)]
  have HM:=bU hm;clear hm
  go_wp2_with fail
  refine bodyPost_ret (v:=.tuple #[.agg #[str [],.int .i64 0,.slice none 0 0,.slice none 0 0],.int .i64 (-1)]) (by simp [results,Tryz.results64,go_sem]) rfl ?_
  exact jF.no HM.out (by repeat (first | exact bP _ _ | refine Below.alloc ?_ (bX _) _ | refine Below.setCell ?_ (by simp) _))
 obtain ⟨bl,ol,u,dv,ea,hFl,fT,iA,DB,mI⟩:=Bx.out v mS
 rw [vS,Option.map_eq_some_iff] at iA
 obtain ⟨t,ht,rfl⟩:=iA
 obtain ⟨sa,ks,rfl⟩:=zu mI
 have nL:=mI
 rw [qb] at nL
 obtain ⟨_,_,est,_,_,b8⟩:=zO nL
 simp only [Value.slice.injEq] at est
 obtain ⟨rfl,_,rfl⟩:=est
 subst ea
 have HT:=bU ht;have aZ:=bU b8
 have hm : rdN (e+1) hand (l.drop i)=(do
         let (ps,l1)<-zY (rdN e) (kM hand t) ((l.drop (i+1)).drop c)
         let l2<-cut [41] l1
         let b<-uz v t.args.length ps
         some (b,l2)):=by rw [HM.out,HQ.out];simp only [ht]
 rw [List.drop_drop] at hm
 have HM:=bU hm
 have A4:t.args.length<=15:=by
  have h1:=hh.1 t (List.mem_of_getElem? ht)
  have h2:=qC t
  have:=qt t.args;omega
 clear hm ht b8 nL
 have gv:decide (hand.length<=v)=false:=by rw [decide_eq_false_iff_not];omega
 have gi:decide ((i:Int)+1+(c:Int)<0)=false:=by rw [decide_eq_false_iff_not];omega
 go_wp2_with fail
 have de:NodeRel l w (rdN e) (kM hand t) t.args.length (i+1+c) (w.heap.size+1) (w.heap.size+2) v 0 (i+1+c)
  ((w.alloc (.cells #[str [],.int .i64 0,.slice none 0 0,.slice none 0 0] 64)).alloc (.cells #[str [],.int .i64 v,.slice none 0 0,.slice none 0 0] 64)):=by
  refine ⟨[],[],[],.slice none 0 0,0,.slice none 0 0,0,by simp,by simp,⟨_,_,rfl⟩,⟨_,_,rfl⟩,by simp [zY],rfl,aM,((bP _ _).alloc (bX _) _).alloc (by simp) _,?_,?_,World.ownsRow_nil _ _ _ _,World.ownsRow_nil _ _ _ _,fun g h=>by simp [Value.ownBlock] at h,fun g h=>by simp [Value.ownBlock] at h,by rw [List.take_nil];exact zd.2 rfl,by rw [List.drop_nil];exact zd.2 rfl,by simp⟩
  ·exact zD (zS _ _)
  ·have:=zS (w.alloc (.cells #[str [],.int .i64 0,.slice none 0 0,.slice none 0 0] 64)) (.cells #[str [],.int .i64 v,.slice none 0 0,.slice none 0 0] 64)
   rw [zQ] at this;exact this
 generalize Eo:i+1+c=i0 at *
 rw [show (i:Int)+1+(c:Int)=(i0:Int) from by omega]
 have HI0:=bU Eo;clear Eo
 go_loopw [11,14] (fun a b wr=>∃ k en:Nat,k<=t.args.length+2/\a=.int .i64 en/\b=.int .i64 k/\NodeRel l w (rdN e) (kM hand t) t.args.length i0 (w.heap.size+1) (w.heap.size+2) v k en wr)
  (fun _ b _=>t.args.length+2-(intOf b).toNat)
 case atStart=>exact ⟨0,i0,Nat.zero_le _,rfl,rfl,de⟩
 case round =>
  clear de
  rename_i wr
  obtain ⟨k,en,hk,rfl,rfl,hrel⟩:=hrel
  obtain ⟨ps,kv,yv,ks,nk,ys,ny,hrel⟩:=hrel
  have nD:=hrel.res;have dU:=hrel.out;have hb:=hrel.below;have sD:=hrel.en;have zr:=hrel.z
  have HP:=bU hrel.spec
  have nkl:nk<=17:=by have:=hrel.hnk;omega
  have nyl:ny<=2:=by have:=hrel.hny;omega
  obtain ⟨ka,kc,eks⟩:=hrel.ksl
  obtain ⟨ya,yc,eys⟩:=hrel.ysl
  subst eks;subst eys
  have HR:=bU hrel;clear hrel
  obtain ⟨r0,r1,r2,r3,rl,rf⟩:=nD.cells
  obtain ⟨q0,q1,q2,q3,ql,qf⟩:=dU.cells
  have aO:=rf 0;have AV:=rf 1;have AU:=rf 2;have AS:=rf 3;clear rf
  have az:=qf 2;have il:=qf 3;clear qf
  by_cases bA:k<t.args.length+2
  ·have fS:(k:Int)<(t.args.length:Int)+2:=by omega
   by_cases iy:∃ h:en<l.length,l[en]=32
   rotate_left
   ·have hm:rdN (e+1) hand (l.drop i)=none:=by
     have hs:=vG (rd:=rdN e) (show (kM hand t)[k]? = some _ from List.getElem?_eq_getElem (by rw [j5];exact bA)) HP.out
     have hc:cut [32] (l.drop en)=none:=by
      by_cases h:en<l.length
      ·rw [jt h,if_neg (fun h'=>iy ⟨h,h'⟩)]
      ·exact yA (by omega)
     rw [HM.out,jP (k+1) (by rw [hs];simp [kQ,hc])];rfl
    have HM:=bU hm;clear hm
    have d7:(l.length<=en)\/∃ h:en<l.length,((((⟨l.toArray⟩:ByteArray)[en]'(kY h)).toNat:Int) != 32)=true:=by
     by_cases h:en<l.length
     ·exact .inr ⟨h,yW h (n:=32) (by decide) (fun h'=>iy ⟨h,h'⟩)⟩
     ·exact .inl (by omega)
    clear iy
    rcases d7 with h | ⟨h,f5⟩
    ·have g1:(l.length:Int)<=(en:Int):=by omega
     go_wp2_with fail
     obtain ⟨W,hW,s0,s1,s2,s3,bM,_⟩:=nD.store (.string ⟨#[]⟩) (.int .i64 0) (.slice none 0 0) (.slice none 0 0)
     rw [<- hW]
     refine bodyPost_ret (v:=.tuple #[.agg #[str [],.int .i64 0,.slice none 0 0,.slice none 0 0],.int .i64 (-1)]) (by simp [results,Tryz.results64,go_sem,s0,s1,s2,s3]) rfl ?_
     exact jF.no HM.out (bM _ _ hb (bX _))
    ·go_wp2_with fail
     obtain ⟨W,hW,s0,s1,s2,s3,bM,_⟩:=nD.store (.string ⟨#[]⟩) (.int .i64 0) (.slice none 0 0) (.slice none 0 0)
     rw [<- hW]
     refine bodyPost_ret (v:=.tuple #[.agg #[str [],.int .i64 0,.slice none 0 0,.slice none 0 0],.int .i64 (-1)]) (by simp [results,Tryz.results64,go_sem,s0,s1,s2,s3]) rfl ?_
     exact jF.no HM.out (bM _ _ hb (bX _))
   obtain ⟨iS,iy⟩:=iy
   have f5:=uV iS (n:=32) (by decide) iy
   have g1:decide ((en:Int)<0)=false:=by rw [decide_eq_false_iff_not];omega
   have g2:decide (l.length<=en)=false:=by rw [decide_eq_false_iff_not];omega
   have HC:Hid (cut [32] (l.drop en)=some (l.drop (en+1))):=by show cut [32] (l.drop en)=_;rw [jt iS,if_pos iy]
   clear iy
   by_cases aC:k<t.args.length
   ·have om:(k:Int)<(t.args.length:Int):=by omega
    obtain ⟨ba,oa,uk,dk,esa,hFa,DX,lL,iL,sf⟩:=aZ.out k aC
    subst esa
    rw [vS,Option.map_eq_some_iff] at lL
    obtain ⟨tk,fl,rfl⟩:=lL
    obtain ⟨ua,uc,rfl⟩:=zu sf
    have e1:wr.cell? ⟨ba,oa+k,none⟩=some (.slice ua tk.args.length uc):=by rw [hb.cell DX];exact iL
    have sh:=Rep.below (F':=F) hb (fun _ h=>h) sf
    have fu:=Rep.below (F':=F) hb (fun _ h=>h) hr
    have lA:k8 e (hand++tk.args):=hh.next HT.out (List.mem_of_getElem? fl)
    have lE:Lim (hand.length+tk.args.length):=by have:=lA.2;simp at this;show _<=_;omega
    have HS:=bU (vG (rd:=rdN e) (allHands_kid (hand:=hand) fl) HP.out)
    clear fl iL sf
    go_wp2_with fail
    refine (gu F hand tk _ _ wr fu sh lE).mono ?_
    rintro en5 w5 ⟨a5,c5,rfl,b_,fR⟩
    have z5:=b_.size
    have HR5:=bU fR;clear fR fu sh lE
    have Q:=bU (bY nD (bY dU (bY hb b_)))
    have rl5:w.heap.size<w5.heap.size:=by omega
    have AW:w.heap.size+1<w5.heap.size:=by omega
    go_wp2_with fail
    rw [show (en:Int)+1=((en+1:Nat):Int) from by omega,show (d:Int)+1=((d+1:Nat):Int) from by omega,<- List.length_append]
    refine (IH.out (fun k=>F k\/wr.heap.size<=k) (hand++tk.args) _ (en+1) w5 iS lA (by rw [List.length_append] at HR5 ⊢;exact HR5.out)).mono ?_
    rintro en6 w6 ⟨s6,v6,a2,n2,k2,a3,n3,k3,k6,rfl,b9,s7,sS⟩
    rw [List.length_append]
    obtain ⟨nD,dU,hb,b_⟩:=Q.out
    have z6:=b9.size
    have fG:=b_.trans (b9.mono z5)
    have nO:=nD.below fG rl
    have nz:=dU.below fG ql
    have tD:=zzT hb fG
    obtain ⟨r0,r1,r2,r3,rl6,rf⟩:=nO.cells
    obtain ⟨q0,q1,q2,q3,BJ,qf⟩:=nz.cells
    have aO:=rf 0;have AV:=rf 1;have AU:=rf 2;have AS:=rf 3;clear rf
    have az:=qf 2;have il:=qf 3;clear qf
    have Q2:=bU (bY fG (bY nO nz));clear b_ hb nD dU fG nO nz b9 Q
    cases hq:rdN e (hand++tk.args) (l.drop (en+1)) with
    | none =>
      obtain rfl:=s7 hq
      have hm:rdN (e+1) hand (l.drop i)=none:=by
       rw [HM.out,jP (k+1) (by rw [HS.out];simp [kQ,HC.out,hq])];rfl
      have HM:=bU hm;clear hm hq s7 sS
      go_wp2_with fail
      obtain ⟨W,hW,s0,s1,s2,s3,bM,_⟩:=Q2.out.2.1.store (.string ⟨#[]⟩) (.int .i64 0) (.slice none 0 0) (.slice none 0 0)
      rw [<- hW]
      refine bodyPost_ret (v:=.tuple #[.agg #[str [],.int .i64 0,.slice none 0 0,.slice none 0 0],.int .i64 (-1)]) (by simp [results,Tryz.results64,go_sem,zG s0,zG s1,zG s2,zG s3]) rfl ?_
      exact jF.no HM.out ((bM _ _ tD (bX _)).alloc (bM _ _ tD (bX _)).size _)
    | some x =>
      obtain ⟨b,rest⟩:=x
      obtain ⟨rfl,mU⟩:=sS _ _ hq
      have mL:=vq (uD e hq)
      have hrl:rest.length<=l.length:=by have:=(uD e hq).length_le;simp at this;omega
      obtain ⟨mP,rr⟩:=zzM (l.length-rest.length)
      rw [<- rr] at mL
      have aD:(l.length:Int)-(rest.length:Int)=(mP:Int):=by omega
      rw [aD]
      have HE2:=bU rr;clear rr aD
      have hs:zY (rdN e) ((kM hand t).take (k+1)) (l.drop i0)=some (ps++[b],l.drop mP):=by
       rw [HS.out];simp [kQ,HC.out,hq,mL]
      have tf:=bU hs;have HC6:=bU mU;clear hs mU hq s7 sS mL
      go_wp2_with (at_builtin;refine zB rfl _ _ 62 rfl 64 (.agg #[str [],.int .i64 0,.slice none 0 0,.slice none 0 0]) 4 72 Tryz.underlying62 Tryz.infoN rfl (by decide) (.slice ka nk kc) nk kv rfl ?c1 _ 1 [str s6,.int .i64 v6,.slice a2 n2 k2,.slice a3 n3 k3] rfl ?c2 ?c3 ?c4 ?_)
      case c1 =>
       refine (HR.out.ownK.keep fun g o hg ho=>?_).alloc _ |>.alloc _
       rw [Q2.out.1.block g (zZ ho)];exact ho
      case c2=>exact zR.lit4 #[str s6,.int .i64 v6,.slice a2 n2 k2,.slice a3 n3 k3] rfl (by simp [str,Value.oneCell']) _ (by simp)
      case c3=>unfold maxLen;omega
      case c4=>omega
      intro a' c' w7 dD bh cU
      have hW:Below wr.heap.size wr ((w6.alloc (.cells #[str s6,.int .i64 v6,.slice a2 n2 k2,.slice a3 n3 k3] 64)).alloc (.cells #[str s6,.int .i64 v6,.slice a2 n2 k2,.slice a3 n3 k3] 64)):=(Q2.out.1.alloc Q2.out.1.size _).alloc (by have:=Q2.out.1.size;simp;omega) _
      have hC:zq (wr.heap.size<=·) ((w6.alloc (.cells #[str s6,.int .i64 v6,.slice a2 n2 k2,.slice a3 n3 k3] 64)).alloc (.cells #[str s6,.int .i64 v6,.slice a2 n2 k2,.slice a3 n3 k3] 64)) (ke b) [str s6,.int .i64 v6,.slice a2 n2 k2,.slice a3 n3 k3] :=
       (Rep.keep fun i o hi ho=>⟨bC z5 hi,zD (zD ho)⟩).2 _ _ HC6.out
      have hA:=HR.out.kid aC (by omega) (show w.heap.size<w.heap.size+1 by omega) hW hC dD bh (fun g hg=>by simpa only [zQ] using cU g hg) tf.out (by have:=HE2.out;omega)
      have z7:=bh.size
      rw [zQ,zQ] at z7
      have Ai:w7.cell? ⟨w.heap.size+1,2,none⟩=some (.slice ka nk kc):=by
       rw [bh.cell (by simp only [zQ];omega) (fun e=>by have h:w.heap.size+2<=w.heap.size+1:=(HR.out.blkK _ e).1;omega)]
       exact zG (zG q2)
      have Ad:w7.frozen? ⟨w.heap.size+1,2,none⟩=false:=by
       rw [World.frozen?_of_block (w:=w6) (by rw [bh.block _ (by simp only [zQ];omega) (fun e=>by have h:w.heap.size+2<=w.heap.size+1:=(HR.out.blkK _ e).1;omega)];rw [Below.heap_alloc _ _ _ (by simp only [zQ];omega),Below.heap_alloc _ _ _ (by omega)])]
       exact az
      have HA:=bU hA;clear hA hW hC dD bh cU
      go_wp2_with fail
      go_roundw
      case rel=>exact ⟨k+1,mP,by omega,rfl,by go_num,_,_,_,_,_,_,_,HA.out⟩
      case measure=>simp [intOf];omega
   ·have om:t.args.length<=k:=by omega
    have hkn2:¬ (k:Int)<(t.args.length:Int):=by omega
    have fu:=Rep.below (F':=F) hb (fun _ h=>h) hr
    have HS:=bU (vG (rd:=rdN e) (allHands_yes (hand:=hand) (t:=t) om bA) HP.out)
    go_wp2_with fail
    refine (IH.out F hand _ (en+1) wr iS (by have:=hh.same;rwa [List.append_nil] at this) fu).mono ?_
    rintro en6 w6 ⟨s6,v6,a2,n2,k2,a3,n3,k3,k6,rfl,b9,s7,sS⟩
    have z6:=b9.size
    have fG:=b9
    have nO:=nD.below fG rl
    have nz:=dU.below fG ql
    have tD:=zzT hb fG
    obtain ⟨r0,r1,r2,r3,rl6,rf⟩:=nO.cells
    obtain ⟨q0,q1,q2,q3,BJ,qf⟩:=nz.cells
    have aO:=rf 0;have AV:=rf 1;have AU:=rf 2;have AS:=rf 3;clear rf
    have az:=qf 2;have il:=qf 3;clear qf
    have Q2:=bU (bY fG (bY nO nz));clear hb nD dU fG nO nz b9
    cases hq:rdN e hand (l.drop (en+1)) with
    | none =>
      obtain rfl:=s7 hq
      have hm:rdN (e+1) hand (l.drop i)=none:=by
       rw [HM.out,jP (k+1) (by rw [HS.out];simp [kQ,HC.out,hq])];rfl
      have HM:=bU hm;clear hm hq s7 sS
      go_wp2_with fail
      obtain ⟨W,hW,s0,s1,s2,s3,bM,_⟩:=Q2.out.2.1.store (.string ⟨#[]⟩) (.int .i64 0) (.slice none 0 0) (.slice none 0 0)
      rw [<- hW]
      refine bodyPost_ret (v:=.tuple #[.agg #[str [],.int .i64 0,.slice none 0 0,.slice none 0 0],.int .i64 (-1)]) (by simp [results,Tryz.results64,go_sem,zG s0,zG s1,zG s2,zG s3]) rfl ?_
      exact jF.no HM.out ((bM _ _ tD (bX _)).alloc (bM _ _ tD (bX _)).size _)
    | some x =>
      obtain ⟨b,rest⟩:=x
      obtain ⟨rfl,mU⟩:=sS _ _ hq
      have mL:=vq (uD e hq)
      have hrl:rest.length<=l.length:=by have:=(uD e hq).length_le;simp at this;omega
      obtain ⟨mP,rr⟩:=zzM (l.length-rest.length)
      rw [<- rr] at mL
      have aD:(l.length:Int)-(rest.length:Int)=(mP:Int):=by omega
      rw [aD]
      have HE2:=bU rr;clear rr aD
      have hs:zY (rdN e) ((kM hand t).take (k+1)) (l.drop i0)=some (ps++[b],l.drop mP):=by
       rw [HS.out];simp [kQ,HC.out,hq,mL]
      have tf:=bU hs;have HC6:=bU mU;clear hs mU hq s7 sS mL
      go_wp2_with (at_builtin;refine zB rfl _ _ 62 rfl 64 (.agg #[str [],.int .i64 0,.slice none 0 0,.slice none 0 0]) 4 72 Tryz.underlying62 Tryz.infoN rfl (by decide) (.slice ya ny yc) ny yv rfl ?c1 _ 1 [str s6,.int .i64 v6,.slice a2 n2 k2,.slice a3 n3 k3] rfl ?c2 ?c3 ?c4 ?_)
      case c1 =>
       refine (HR.out.ownY.keep fun g o hg ho=>?_).alloc _ |>.alloc _
       rw [Q2.out.1.block g (zZ ho)];exact ho
      case c2=>exact zR.lit4 #[str s6,.int .i64 v6,.slice a2 n2 k2,.slice a3 n3 k3] rfl (by simp [str,Value.oneCell']) _ (by simp)
      case c3=>unfold maxLen;omega
      case c4=>omega
      intro a' c' w7 dD bh cU
      have hW:Below wr.heap.size wr ((w6.alloc (.cells #[str s6,.int .i64 v6,.slice a2 n2 k2,.slice a3 n3 k3] 64)).alloc (.cells #[str s6,.int .i64 v6,.slice a2 n2 k2,.slice a3 n3 k3] 64)):=(Q2.out.1.alloc Q2.out.1.size _).alloc (by have:=Q2.out.1.size;simp;omega) _
      have hC:zq (wr.heap.size<=·) ((w6.alloc (.cells #[str s6,.int .i64 v6,.slice a2 n2 k2,.slice a3 n3 k3] 64)).alloc (.cells #[str s6,.int .i64 v6,.slice a2 n2 k2,.slice a3 n3 k3] 64)) (ke b) [str s6,.int .i64 v6,.slice a2 n2 k2,.slice a3 n3 k3] :=
       (Rep.keep fun i o hi ho=>⟨hi,zD (zD ho)⟩).2 _ _ HC6.out
      have hA:=HR.out.yes om (by omega) (show w.heap.size<w.heap.size+1 by omega) hW hC dD bh (fun g hg=>by simpa only [zQ] using cU g hg) tf.out (by have:=HE2.out;omega)
      have z7:=bh.size
      rw [zQ,zQ] at z7
      have Ai:w7.cell? ⟨w.heap.size+1,3,none⟩=some (.slice ya ny yc):=by
       rw [bh.cell (by simp only [zQ];omega) (fun e=>by have h:w.heap.size+2<=w.heap.size+1:=HR.out.blkY _ e;omega)]
       exact zG (zG q3)
      have Ad:w7.frozen? ⟨w.heap.size+1,3,none⟩=false:=by
       rw [World.frozen?_of_block (w:=w6) (by rw [bh.block _ (by simp only [zQ];omega) (fun e=>by have h:w.heap.size+2<=w.heap.size+1:=HR.out.blkY _ e;omega)];rw [Below.heap_alloc _ _ _ (by simp only [zQ];omega),Below.heap_alloc _ _ _ (by omega)])]
       exact il
      have HA:=bU hA;clear hA hW hC dD bh cU
      go_wp2_with fail
      go_roundw
      case rel=>exact ⟨k+1,mP,by omega,rfl,by go_num,_,_,_,_,_,_,_,HA.out⟩
      case measure=>simp [intOf];omega
  ·have aC:k=t.args.length+2:=by omega
   have fS:¬ (k:Int)<(t.args.length:Int)+2:=by omega
   have hp:zY (rdN e) (kM hand t) (l.drop i0)=some (ps,l.drop en):=by
    have:=HP.out;rwa [aC,List.take_of_length_le (by rw [j5];exact bX _)] at this
   have hm:rdN (e+1) hand (l.drop i)=(do
    let l2<-cut [41] (l.drop en)
    let b<-uz v t.args.length ps
    some (b,l2)):=by rw [HM.out,hp];rfl
   have HM:=bU hm
   have HKN:=bU aC
   clear hm hp aC
   by_cases iu:∃ h:en<l.length,l[en]=41
   rotate_left
   ·have hm:rdN (e+1) hand (l.drop i)=none:=by
     have hc:cut [41] (l.drop en)=none:=by
      by_cases h:en<l.length
      ·rw [jt h,if_neg (fun h'=>iu ⟨h,h'⟩)]
      ·exact yA (by omega)
     rw [HM.out,hc];rfl
    have HM:=bU hm;clear hm
    have d7:(l.length<=en)\/∃ h:en<l.length,((((⟨l.toArray⟩:ByteArray)[en]'(kY h)).toNat:Int) != 41)=true:=by
     by_cases h:en<l.length
     ·exact .inr ⟨h,yW h (n:=41) (by decide) (fun h'=>iu ⟨h,h'⟩)⟩
     ·exact .inl (by omega)
    clear iu
    rcases d7 with h | ⟨h,f5⟩
    ·have g1:(l.length:Int)<=(en:Int):=by omega
     go_wp2_with fail
     obtain ⟨W,hW,s0,s1,s2,s3,bM,_⟩:=nD.store (.string ⟨#[]⟩) (.int .i64 0) (.slice none 0 0) (.slice none 0 0)
     rw [<- hW]
     refine bodyPost_ret (v:=.tuple #[.agg #[str [],.int .i64 0,.slice none 0 0,.slice none 0 0],.int .i64 (-1)]) (by simp [results,Tryz.results64,go_sem,s0,s1,s2,s3]) rfl ?_
     exact jF.no HM.out (bM _ _ hb (bX _))
    ·go_wp2_with fail
     obtain ⟨W,hW,s0,s1,s2,s3,bM,_⟩:=nD.store (.string ⟨#[]⟩) (.int .i64 0) (.slice none 0 0) (.slice none 0 0)
     rw [<- hW]
     refine bodyPost_ret (v:=.tuple #[.agg #[str [],.int .i64 0,.slice none 0 0,.slice none 0 0],.int .i64 (-1)]) (by simp [results,Tryz.results64,go_sem,s0,s1,s2,s3]) rfl ?_
     exact jF.no HM.out (bM _ _ hb (bX _))
   obtain ⟨iS,iu⟩:=iu
   have f5:=uV iS (n:=41) (by decide) iu
   have g1:decide ((en:Int)<0)=false:=by rw [decide_eq_false_iff_not];omega
   have g2:decide (l.length<=en)=false:=by rw [decide_eq_false_iff_not];omega
   have HC:Hid (cut [41] (l.drop en)=some (l.drop (en+1))):=by show cut [41] (l.drop en)=_;rw [jt iS,if_pos iu]
   clear iu
   go_wp2_with fail
   obtain ⟨W,hW,s0,s1,s2,s3,bM,dM⟩:=nD.store (str []) (.int .i64 v) (.slice ka nk kc) (.slice ya ny yc)
   have tI:=HR.out
   have hps:=tI.len
   have hnk:=tI.hnk
   have hny:=tI.hny
   have aC:=HKN.out
   obtain ⟨y1,y2,BQ⟩:∃ y1 y2,ps.drop t.args.length=[y1,y2]:=by
    match hd:ps.drop t.args.length with
    | [a,b]=>exact ⟨a,b,rfl⟩
    | []=>have:=congrArg List.length hd;simp at this;omega
    | [a]=>have:=congrArg List.length hd;simp at this;omega
    | a::b::c::d=>have:=congrArg List.length hd;simp at this;omega
   have hm:rdN (e+1) hand (l.drop i)=some (.ask v (ps.take t.args.length) y1 y2,l.drop (en+1)):=by
    rw [HM.out,HC.out];simp [uz,BQ]
   have ov:nk=(ps.take t.args.length).length:=by simp;omega
   have oz:ny=2:=by omega
   rw [<- hW]
   refine bodyPost_ret (v:=.tuple #[.agg #[str [],.int .i64 v,.slice ka nk kc,.slice ya ny yc],.int .i64 ((en:Int)+1)]) (by simp [results,Tryz.results64,go_sem,s0,s1,s2,s3]) rfl ?_
   refine jF.yes (s:=[]) hm (by simp;omega) (bM _ _ hb (bX _)) ?_
   rw [gt]
   refine zP.2 ⟨_,_,rfl,zo.2 rfl,zP.2 ⟨_,_,rfl,zo.2 rfl,zP.2 ⟨_,_,rfl,?_,zP.2 ⟨_,_,rfl,?_,zd.2 rfl⟩⟩⟩⟩
   ·rw [<- ov]
    refine (tI.ownK.keep fun g o hg ho=>dM g o (by have:=(tI.blkK g hg).1;omega) ho).rep (fun g hg=>by have:=(tI.blkK g hg).1;omega) ?_
    exact (Rep.keep fun x o hx ho=>⟨by have:=hx.1;omega,dM x o (by have:=hx.1;omega) ho⟩).2 _ _ tI.repK
   ·have dJ:=tI.repY
    rw [BQ] at dJ
    rw [<- oz]
    refine (tI.ownY.keep fun g o hg ho=>dM g o (by have:=tI.blkY g hg;omega) ho).rep (fun g hg=>by have:=tI.blkY g hg;omega) ?_
    exact (Rep.keep fun x o hx ho=>⟨by have:=hx.1;omega,dM x o (by have:=hx.1;omega) ho⟩).2 _ _ dJ
theorem l3Read_any (l:Bs) (hl:Lim l.length) (e:Nat):∀ d,e+d=101->NodeSaid l e d:=by
 induction e with
 | zero=>exact fun d Bg F hand hv i w hi _ hr=>xz l hl 0 d Bg F hand hv i w hi hr (fun _=>.inl rfl)
 | succ e ih =>
   intro d Bg F hand hv i w hi hh hr
   by_cases h:∃ h:i<l.length,l[i]=40
   ·obtain ⟨h,dL⟩:=h
    exact l3Read_ask l hl e d Bg (ih (d+1) (by omega)) F hand hv i w h hh hr dL
   ·exact xz l hl (e+1) d Bg F hand hv i w hi hr (fun h'=>.inr fun dL=>h ⟨h',dL⟩)
def qg:Bd->List Bd
 | .leaf _=>[]
 | .ask _ ss _ _=>ss
def jk:Bd->List Bd
 | .leaf _=>[]
 | .ask _ _ y n=>[y,n]
def jx:Bd->Bs
 | .leaf c=>[c]
 | .ask _ _ _ _=>[]
def AtN (F:Nat->Prop) (w:World) (bs:List Bd) (a:Option Addr) (k:Nat):Prop :=
 ∃ b o s v a2 n2 c2 a3 n3 c3 d,a=some ⟨b,o,none⟩/\b<w.heap.size/\bs[k]? = some d/\w.cell? ⟨b,o+k*4,none⟩=some (str s)/\w.cell? ⟨b,o+k*4+1,none⟩=some (.int .i64 v) /\
   w.cell? ⟨b,o+k*4+2,none⟩=some (.slice a2 n2 c2)/\w.cell? ⟨b,o+k*4+3,none⟩=some (.slice a3 n3 c3)/\zq F w (ke d) [str s,.int .i64 v,.slice a2 n2 c2,.slice a3 n3 c3]
def bJ (F:Nat->Prop) (w:World) (bs:List Bd) (a:Option Addr):Prop:=∀ k,k<bs.length->AtN F w bs a k
theorem jI {F:Nat->Prop} {w:World} {b:Bd} {vs:List Value} (h:zq F w (ke b) vs) :
 ∃ v a2 c2 a3 c3,vs=[str (jx b),.int .i64 v,.slice a2 (qg b).length c2,.slice a3 (jk b).length c3] /\
   Rep F w (.sl 64 4 (qg b).length (kF (qg b))) (.slice a2 (qg b).length c2)/\Rep F w (.sl 64 4 (jk b).length (kF (jk b))) (.slice a3 (jk b).length c3):=by
 have key:∀ (s:Bs) (v:Int) (d2 d3:DV) (n2 n3:Nat) (k2 k3:List DV),d2=.sl 64 4 n2 k2->d3=.sl 64 4 n3 k3->zq F w [.val (str s),.val (.int .i64 v),d2,d3] vs ->
  ∃ a2 c2 a3 c3,vs=[str s,.int .i64 v,.slice a2 n2 c2,.slice a3 n3 c3]/\Rep F w d2 (.slice a2 n2 c2)/\Rep F w d3 (.slice a3 n3 c3):=by
  intro s v d2 d3 n2 n3 k2 k3 e2 e3 h
  obtain ⟨_,_,rfl,h0,h⟩:=zP.1 h
  obtain ⟨_,_,rfl,h1,h⟩:=zP.1 h
  obtain ⟨_,_,rfl,h2,h⟩:=zP.1 h
  obtain ⟨_,_,rfl,h3,h⟩:=zP.1 h
  rw [zd] at h;subst h
  rw [zo] at h0 h1
  subst h0;subst h1
  have h2':=h2;have h3':=h3
  rw [e2] at h2';rw [e3] at h3'
  obtain ⟨_,a2,c2,e2',_⟩:=qk.1 h2'
  obtain ⟨_,a3,c3,e3',_⟩:=qk.1 h3'
  subst e2';subst e3'
  exact ⟨a2,c2,a3,c3,rfl,h2,h3⟩
 cases b with
 | leaf c =>
   rw [ke] at h
   obtain ⟨a2,c2,a3,c3,e,h2,h3⟩:=key _ _ _ _ 0 0 [] [] rfl rfl h
   exact ⟨_,a2,c2,a3,c3,e,h2,h3⟩
 | ask v ss y n =>
   rw [gt] at h
   obtain ⟨a2,c2,a3,c3,e,h2,h3⟩:=key _ _ _ _ _ _ _ _ rfl rfl h
   exact ⟨_,a2,c2,a3,c3,e,h2,h3⟩
theorem bJ.of {F:Nat->Prop} {w:World} {bs:List Bd} {v:Value} (h:Rep F w (.sl 64 4 bs.length (kF bs)) v):∃ a c,v=.slice a bs.length c/\bJ F w bs a:=by
 obtain ⟨hl,a,c,rfl,hn,hz,h⟩:=qk.1 h
 refine ⟨a,c,rfl,fun k hk=>?_⟩
 rcases h with h | ⟨b,o,cs,fr,rfl,hb,hc,hr⟩
 ·omega
 ·have hs:kF bs=kF (bs.take k)++(ke bs[k]++kF (bs.drop (k+1))):=by
   have e1:ke bs[k]=kF [bs[k]]:=by simp [kF]
   rw [e1,<- jV,<- jV]
   congr 1
   simp
  rw [hs] at hr
  obtain ⟨h1,h2⟩:=hr.split
  obtain ⟨h3,h4⟩:=h2.split
  have iE:(kF (bs.take k)).length=k*4:=by rw [encNs_length];simp;omega
  rw [iE,yY] at h3
  obtain ⟨v,a2,c2,a3,c3,e,_⟩:=jI h3
  have hat:∀ j u,([str (jx bs[k]),.int .i64 v,.slice a2 (qg bs[k]).length c2,.slice a3 (jk bs[k]).length c3]:List Value)[j]? = some u->w.cell? ⟨b,o+k*4+j,none⟩=some u:=by
   intro j u hu
   rw [<- e] at hu
   have hj:j<4:=by
    have:=(List.getElem?_eq_some_iff.1 hu).1
    simp at this;omega
   rw [List.getElem?_take,if_pos hj,List.getElem?_drop,List.getElem?_take] at hu
   split at hu
   ·rw [List.getElem?_drop] at hu
    simp only [World.cell?,hc]
    rw [Nat.add_assoc]
    simpa using hu
   ·simp at hu
  refine ⟨b,o,_,v,a2,_,c2,a3,_,c3,bs[k],rfl,zZ hc,by simp [hk],hat 0 _ rfl,hat 1 _ rfl,hat 2 _ rfl,hat 3 _ rfl,?_⟩
  rw [<- e];exact h3
theorem gM (b:Bd):vx b=qg b++jk b:=by cases b <;> rfl
def BoxN (g:Nat) (s:Bs) (k y:Value) (w:World):Prop :=
 w.cell? ⟨g,0,none⟩=some (str s)/\w.cell? ⟨g,2,none⟩=some k/\w.cell? ⟨g,3,none⟩=some y
theorem BoxN.below {g:Nat} {s:Bs} {k y:Value} {w w':World} (h:BoxN g s k y w) (hb:Below w.heap.size w w'):BoxN g s k y w':=by
 obtain ⟨h1,h2,h3⟩:=h
 have:=bW w _ h1
 exact ⟨by rw [hb.cell (by exact this)];exact h1,by rw [hb.cell (by exact this)];exact h2,by rw [hb.cell (by exact this)];exact h3⟩
def wj (b:Bd):Prop:=∀ (F:Nat->Prop) (w:World) (s:Bs) (v:Int) (a2:Option Addr) (n2 c2:Nat) (a3:Option Addr) (n3 c3:Nat),zq F w (ke b) [str s,.int .i64 v,.slice a2 n2 c2,.slice a3 n3 c3] ->
 Calls Tryz.prog 65 #[.agg #[str s,.int .i64 v,.slice a2 n2 c2,.slice a3 n3 c3]] w fun en w'=>en=.returned (.int .i64 (zp b))/\Below w.heap.size w w'
set_option maxRecDepth 100000 in
theorem l3Size_step (b:Bd) (hl:Lim (zp b)) (ih:∀ b',zp b'<zp b->wj b'):wj b:=by
 intro F w s v a2 n2 c2 a3 n3 c3 hv
 have nS:=jI hv
 obtain ⟨v',Bu,Br,a3',c3',e,hk,hy⟩:=nS
 simp only [List.cons.injEq,Value.slice.injEq,and_true] at e
 obtain ⟨e0,e1,⟨rfl,e2,rfl⟩,⟨rfl,e3,rfl⟩⟩:=e
 clear e0 e1
 subst e2;subst e3
 obtain ⟨_,_,ek,D8⟩:=bJ.of hk
 obtain ⟨_,_,ey,D7⟩:=bJ.of hy
 simp only [Value.slice.injEq,true_and] at ek ey
 obtain ⟨rfl,rfl⟩:=ek
 obtain ⟨rfl,rfl⟩:=ey
 have IH:=bU ih;clear ih
 have dz:=hl.le
 have eG:=ut b
 rw [gM,kI] at eG
 have iE:=jg (qg b)
 have hyl:=jg (jk b)
 have E1:=bU eG
 have kl:(qg b).length<=16777216:=by omega
 have yl:(jk b).length<=16777216:=by omega
 have ATK:=bU D8;have ATY:=bU D7
 clear D8 D7 hk hy hv eG iE hyl
 generalize hK:qg b=kids at *
 generalize hY:jk b=yess at *
 clear hK hY
 go_enter Tryz.func65,Tryz.ntmps65
 go_wp2_with fail
 go_loopw [3,4] (fun n i wr=>∃ k:Nat,k<=kids.length/\i=.int .i64 k/\n=.int .i64 ((1+zL (kids.take k):Nat):Int)/\Below w.heap.size w wr/\BoxN w.heap.size s (.slice a2 kids.length c2) (.slice a3 yess.length c3) wr) (fun _ i _=>kids.length-(intOf i).toNat)
 case atStart=>exact ⟨0,Nat.zero_le _,rfl,by simp [zL],(bP _ _).alloc (bX _) _,by simp,by simp,by simp⟩
 case round =>
  rename_i wr
  obtain ⟨k,hk,rfl,rfl,hb,hc⟩:=hrel
  obtain ⟨fc,eB,tB⟩:=id hc
  by_cases bA:k<kids.length
  ·obtain ⟨bb,o,s',v',b2,m2,d2,b3,m3,d3,t,rfl,hbb,ht,u0,u1,u2,u3,hr⟩:=ATK.out k bA
   have q0:=(hb.cell hbb).trans u0
   have q1:=(hb.cell hbb).trans u1
   have q2:=(hb.cell hbb).trans u2
   have q3:=(hb.cell hbb).trans u3
   have fu:=(zq.below (F':=F) hb (fun _ h=>h) hr)
   have hs:=ur ht
   have sG:=vH kids (k+1)
   have nc:=E1.out
   have hp:=jQ t
   have IH':=bU (IH.out t (by omega))
   have HS:=bU hs
   have b1:1+zL (kids.take k)+zp t<=16777216:=by omega
   have hz:=bW wr _ fc
   clear hs ht nc u0 u1 u2 u3 hr
   go_wp2_with fail
   refine (IH'.out _ _ _ _ _ _ _ _ _ _ fu).mono ?_
   rintro en w2 ⟨rfl,bN⟩
   have bp:=zzT hb bN
   obtain ⟨fc,eB,tB⟩:=id (hc.below bN)
   have rG:=bU (hc.below bN)
   go_wp2_with fail
   go_roundw
   case rel=>exact ⟨k+1,by omega,by go_num,by rw [HS.out] <;> go_num,bp,rG.out⟩
   case measure=>simp [intOf];omega
  ·obtain rfl:k=kids.length:=by omega
   rw [List.take_length]
   have bK:1+zL kids<=16777216:=by have:=E1.out;omega
   clear hk bA
   go_wp2_with fail
   have d9:=hb;have Bh:=hc
   clear hb hc fc eB tB
   go_loopw [3,5] (fun n i wr=>∃ k:Nat,k<=yess.length/\i=.int .i64 k/\n=.int .i64 ((1+zL kids+zL (yess.take k):Nat):Int)/\Below w.heap.size w wr/\BoxN w.heap.size s (.slice a2 kids.length c2) (.slice a3 yess.length c3) wr) (fun _ i _=>yess.length-(intOf i).toNat)
   case atStart=>exact ⟨0,Nat.zero_le _,rfl,by simp [zL],d9,Bh⟩
   case round =>
    clear d9 Bh
    obtain ⟨k,hk,rfl,rfl,hb,hc⟩:=hrel
    obtain ⟨fc,eB,tB⟩:=id hc
    by_cases bA:k<yess.length
    ·obtain ⟨bb,o,s',v',b2,m2,d2,b3,m3,d3,t,rfl,hbb,ht,u0,u1,u2,u3,hr⟩:=ATY.out k bA
     have q0:=(hb.cell hbb).trans u0
     have q1:=(hb.cell hbb).trans u1
     have q2:=(hb.cell hbb).trans u2
     have q3:=(hb.cell hbb).trans u3
     have fu:=(zq.below (F':=F) hb (fun _ h=>h) hr)
     have hs:=ur ht
     have sG:=vH yess (k+1)
     have nc:=E1.out
     have hp:=jQ t
     have IH':=bU (IH.out t (by omega))
     have HS:=bU hs
     have b1:1+zL kids+zL (yess.take k)+zp t<=16777216:=by omega
     have hz:=bW _ _ fc
     clear hs ht nc u0 u1 u2 u3 hr
     go_wp2_with fail
     refine (IH'.out _ _ _ _ _ _ _ _ _ _ fu).mono ?_
     rintro en w2 ⟨rfl,bN⟩
     have bp:=zzT hb bN
     obtain ⟨fc,eB,tB⟩:=id (hc.below bN)
     have rG:=bU (hc.below bN)
     go_wp2_with fail
     go_roundw
     case rel=>exact ⟨k+1,by omega,by go_num,by rw [HS.out] <;> go_num,bp,rG.out⟩
     case measure=>simp [intOf];omega
    ·obtain rfl:k=yess.length:=by omega
     go_wp2_with fail
     go_ret
     exact ⟨xE (by rw [E1.out,List.take_length];omega),hb⟩
theorem l3Size_any (n:Nat):∀ b,zp b<=n->Lim n->wj b:=by
 induction n with
 | zero=>intro b h _;have:=jQ b;omega
 | succ n ih=>exact fun b h hn=>l3Size_step b (hn.mono h) (fun b' h'=>ih b' (by omega) (hn.mono (by omega)))
def zM (s text:Bs):Option Bd :=
 if (zV s).2=false\/2000<text.length then none else
 match rdN 101 (zV s).1.args text with
 | none=>none
 | some (b,rest)=>if rest=[]/\zp b<=200 then some b else none
theorem ja {l:Bs} (h:(zV l).2=true):zW (zV l).1<=15:=by
 unfold zV at *
 split at h
 ·simp at h
 ·rename_i hl
  rw [if_neg hl]
  cases hq:rdS 21 l with
  | none=>rw [hq] at h;simp at h
  | some x=>rw [hq] at h;obtain ⟨t,rest⟩:=x;simp at h;exact h.2
theorem xw {t:Ty} (h:zW t<=15):k8 101 t.args:=by
 have hm:=qC t
 have key:∀ (ts:List Ty) (x:Ty),x∈ts->zW x<=zj ts:=by
  intro ts
  induction ts with
  | nil=>intro x hx;simp at hx
  | cons y ys ih =>
    intro x hx
    rcases List.mem_cons.1 hx with rfl | hx
    ·simp [zj];omega
    ·have:=ih x hx;simp [zj];omega
 refine ⟨fun x hx=>?_,?_⟩
 ·have:=key t.args x hx;omega
 ·have:=qt t.args;omega
theorem yX {w:World} {p a:Addr} {u v:Value} (h:w.cell? a=some v) (bm:a.block≠p.block):(w.setCell p u).cell? a=some v:=by
 rw [World.cell?_of_block (w:=w) (bG _ _ _ _ bm)];exact h
theorem uR {w w':World} {a:Addr} {v:Value} (h:w.cell? a=some v) (hk:∀ x,w.heap[a.block]? = some x->w'.heap[a.block]? = some x):w'.cell? a=some v:=by
 have bA:=bW w a h
 rw [World.cell?_of_block (w:=w)]
 ·exact h
 ·rw [hk _ (Array.getElem?_eq_getElem bA),Array.getElem?_eq_getElem bA]
abbrev KeepS (g1 g2:Nat) (T u0 u1 u2 u3:Value) (w:World):Prop :=
 w.cell? ⟨g1,0,none⟩=some T/\w.cell? ⟨g2,0,none⟩=some u0/\w.cell? ⟨g2,1,none⟩=some u1/\w.cell? ⟨g2,2,none⟩=some u2/\w.cell? ⟨g2,3,none⟩=some u3
theorem KeepS.set {g1 g2:Nat} {T u0 u1 u2 u3:Value} {w:World} (h:KeepS g1 g2 T u0 u1 u2 u3 w) (b o:Nat) (u:Value) (h1:g1≠b) (h2:g2≠b):KeepS g1 g2 T u0 u1 u2 u3 (w.setCell ⟨b,o,none⟩ u) :=
 ⟨yX h.1 h1,yX h.2.1 h2,yX h.2.2.1 h2,yX h.2.2.2.1 h2,yX h.2.2.2.2 h2⟩
def qz (s text:Bs) (w:World) (en:Ending) (w':World):Prop :=
 ∃ (a:Option Addr) (c:Nat) (s':Bs) (v':Int) (a2:Option Addr) (n2 c2:Nat) (a3:Option Addr) (n3 c3:Nat),
   en=.returned (.tuple #[.agg #[.slice a (zV s).1.args.length c],.agg #[str s',.int .i64 v',.slice a2 n2 c2,.slice a3 n3 c3],.bool (zM s text).isSome])/\Below w.heap.size w w' /\
   Rep (w.heap.size<=·) w' (qZ (zV s).1) (.slice a (zV s).1.args.length c) /\
   (∀ b,zM s text=some b->zq (w.heap.size<=·) w' (ke b) [str s',.int .i64 v',.slice a2 n2 c2,.slice a3 n3 c3])
theorem qz.no {s text:Bs} {w w':World} {a:Option Addr} {c:Nat} {v:Value} (hv:v=.slice a (zV s).1.args.length c) {s':Bs} {v':Int} {a2:Option Addr} {n2 c2:Nat} {a3:Option Addr} {n3 c3:Nat} {f:Bool} (hf:f=false) (hn:zM s text=none) (hb:Below w.heap.size w w')
 (hr:Rep (w.heap.size<=·) w' (qZ (zV s).1) v) :
 qz s text w (.returned (.tuple #[.agg #[v],.agg #[str s',.int .i64 v',.slice a2 n2 c2,.slice a3 n3 c3],.bool f])) w':=by
 subst hv;subst hf
 exact ⟨a,c,s',v',a2,n2,c2,a3,n3,c3,by rw [hn];rfl,hb,hr,fun b h=>by rw [hn] at h;simp at h⟩
theorem qz.yes {s text:Bs} {w w':World} {a:Option Addr} {c:Nat} {v:Value} (hv:v=.slice a (zV s).1.args.length c) {s':Bs} {v':Int} {a2:Option Addr} {n2 c2:Nat} {a3:Option Addr} {n3 c3:Nat} {f:Bool} {b:Bd} (hf:f=true) (hn:zM s text=some b) (hb:Below w.heap.size w w')
 (hr:Rep (w.heap.size<=·) w' (qZ (zV s).1) v) (sY:zq (w.heap.size<=·) w' (ke b) [str s',.int .i64 v',.slice a2 n2 c2,.slice a3 n3 c3]) :
 qz s text w (.returned (.tuple #[.agg #[v],.agg #[str s',.int .i64 v',.slice a2 n2 c2,.slice a3 n3 c3],.bool f])) w':=by
 subst hv;subst hf
 exact ⟨a,c,s',v',a2,n2,c2,a3,n3,c3,by rw [hn];rfl,hb,hr,fun b' h=>by rw [hn] at h;simp at h;subst h;exact sY⟩
set_option maxRecDepth 100000 in
theorem vR (s text:Bs) (hs:Lim s.length) (hl:Lim text.length) (w:World):Calls Tryz.prog 31 #[str s,str text] w (qz s text w):=by
 have fj:=hs.le
 have dz:=hl.le
 go_enter Tryz.func31,Tryz.ntmps31
 go_wp2_with fail
 refine (uE s hs _).mono ?_
 rintro en w1 ⟨v1,rfl,bE,mT⟩
 have z1:=bE.size
 rw [zQ,zQ] at z1
 obtain ⟨a1,c1,e1⟩:=zu mT
 have E1:=bU e1
 have cz:Below w.heap.size w w1:=(((bP w.heap.size w).alloc (bX _) _).alloc (by simp) _).trans (bE.mono (by simp;omega))
 have dO:w.heap.size<w1.heap.size:=by omega
 have mG:w.heap.size+1<w1.heap.size:=by omega
 have r0:w1.cell? ⟨w.heap.size,0,none⟩=some (.slice none 0 0):=by rw [bE.cell (by simp only [zQ];omega)];exact zG (by simp)
 have aO:w1.frozen? ⟨w.heap.size,0,none⟩=false:=by
  rw [bE.frozen (by simp only [zQ];omega)]
  rw [World.frozen?_of_block (w:=w.alloc (.cells #[.slice none 0 0] 61)) (Below.heap_alloc _ _ _ (by simp))];simp
 have hN:kD (w.heap.size+1) 0 (.slice none 0 0) (.slice none 0 0) w1:=by
  unfold kD;rw [bE.block _ (by simp)]
  have:=zS (w.alloc (.cells #[.slice none 0 0] 61)) (.cells #[str [],.int .i64 0,.slice none 0 0,.slice none 0 0] 64)
  rw [zQ] at this;exact this
 subst e1
 have rI:Rep (w.heap.size+1 < ·) w1 (qZ (zV s).1) (.slice a1 (zV s).1.args.length c1):=(Rep.keep fun b o h ho=>⟨by have:=vP h;rw [zQ] at this;omega,ho⟩).1 _ _ mT
 have HS:Hid (zM s text=if (zV s).2=false\/2000<text.length then none else
  match rdN 101 (zV s).1.args text with
  | none=>none
  | some (b,rest)=>if rest=[]/\zp b<=200 then some b else none):=rfl
 have n5:=bU (ja (l:=s))
 generalize hT:(zV s).1=t at *
 generalize hO:(zV s).2=ok at *
 have HT:=bU hT;clear hT hO mT
 obtain ⟨q0,q1,q2,q3,ql,qf⟩:=hN.cells
 have qf0:=qf 0;have qf1:=qf 1;have az:=qf 2;have il:=qf 3;clear qf
 by_cases d7:ok=true/\text.length<=2000
 rotate_left
 ·have hn:zM s text=none:=by
   rw [HS.out,if_pos]
   cases ok with
   | false=>exact .inl rfl
   | true=>exact .inr (by simp at d7;omega)
  have HN:=bU hn;clear hn
  have d7:ok=false\/(ok=true/\(2000:Int)<(text.length:Int)):=by
   cases ok with
   | false=>exact .inl rfl
   | true=>exact .inr ⟨rfl,by simp at d7;omega⟩
  have h0:kD (w.heap.size+1) 0 (.slice none 0 0) (.slice none 0 0) (w1.setCell ⟨w.heap.size,0,none⟩ (.slice a1 t.args.length c1)):=by
   unfold kD;rw [bG _ _ _ _ (by simp)];exact hN
  obtain ⟨W,hW,s0,s1,s2,s3,bM,dM⟩:=h0.store (.string ⟨#[]⟩) (.int .i64 0) (.slice none 0 0) (.slice none 0 0)
  have t0:W.cell? ⟨w.heap.size,0,none⟩=some (.slice a1 t.args.length c1):=uR (qO r0 _) fun x hx=>dM _ x (by simp) hx
  have eQ:=bM _ _ (cz.setCell (p:=⟨w.heap.size,0,none⟩) (bX _) (.slice a1 t.args.length c1)) (by omega)
  have lY:Rep (w.heap.size<=·) W (qZ t) (.slice a1 t.args.length c1):=(Rep.keep fun b o h ho=>⟨by omega,dM b o (by omega) (by rw [bG _ _ _ _ (by simp;omega)];exact ho)⟩).1 _ _ rI
  have FIN:Hid (∀ o,qz s text w (.returned (.tuple #[.agg #[.slice a1 t.args.length c1],.agg #[str [],.int .i64 0,.slice none 0 0,.slice none 0 0],.bool false])) (W.alloc o)):=fun o =>
   qz.no (a:=a1) (c:=c1) (by rw [HT.out]) rfl HN.out (eQ.alloc eQ.size o) (by rw [HT.out];exact (Rep.keep fun b o h ho=>⟨h,zD ho⟩).1 _ _ lY)
  have HW:=bU hW;clear h0 hW bM dM eQ lY
  rcases d7 with rfl | ⟨rfl,h⟩
  all_goals
   go_wp2_with fail
   rw [<- HW.out]
   refine bodyPost_ret (v:=.tuple #[.agg #[.slice a1 t.args.length c1],.agg #[str [],.int .i64 0,.slice none 0 0,.slice none 0 0],.bool false]) (by simp [results,Tryz.results31,go_sem,zG t0,zG s0,zG s1,zG s2,zG s3]) rfl ?_
   exact FIN.out _
 obtain ⟨rfl,oG⟩:=d7
 have htl':¬ (2000:Int)<(text.length:Int):=by omega
 have hat:=n5.out rfl
 have hm:zM s text=(match rdN 101 t.args text with
  | none=>none
  | some (b,rest)=>if rest=[]/\zp b<=200 then some b else none):=by rw [HS.out,if_neg (by simp;omega)]
 have HM:=bU hm;clear hm HS n5
 have hvE:=rI
 rw [qb] at hvE
 have hho:=xw hat
 go_wp2_with fail
 refine (l3Read_any text hl 101 0 rfl (w.heap.size+1 < ·) t.args _ 0 _ (Nat.zero_le _) hho (by exact (Rep.keep fun b o h ho=>⟨h,zD ho⟩).1 _ _ hvE)).mono ?_
 rw [List.drop_zero]
 rintro en w2 ⟨s',v',a2,n2,c2,a3,n3,c3,k,rfl,bN,di,ee⟩
 have z2:=bN.size
 rw [zQ] at z2
 have dN:Below w.heap.size w w2:=(cz.alloc (by omega) _).trans (bN.mono (by rw [zQ];omega))
 have r0':w2.cell? ⟨w.heap.size,0,none⟩=some (.slice none 0 0):=by rw [bN.cell (by rw [zQ];simp only;omega)];exact zG r0
 have rf0':w2.frozen? ⟨w.heap.size,0,none⟩=false:=by rw [bN.frozen (by rw [zQ];simp only;omega)];rw [World.frozen?_of_block (w:=w1) (Below.heap_alloc _ _ _ dO)];exact aO
 have hN':kD (w.heap.size+1) 0 (.slice none 0 0) (.slice none 0 0) w2:=by
  unfold kD;rw [bN.block _ (by rw [zQ];omega)];exact zD hN
 have hT2:w2.cell? ⟨w1.heap.size,0,none⟩=some (.slice a1 t.args.length c1):=by rw [bN.cell (by rw [zQ];simp only;omega)];simp
 have lQ:Rep (w.heap.size+1 < ·) w2 (qZ t) (.slice a1 t.args.length c1):=(Rep.keep fun b o h ho=>⟨h,by rw [bN.block b (by have:=zZ ho;rw [zQ];omega)];exact zD ho⟩).1 _ _ rI
 clear r0 aO hN q0 q1 q2 q3 ql qf0 qf1 az il hvE rI hho
 obtain ⟨q0,q1,q2,q3,ql,qf⟩:=hN'.cells
 have qf0:=qf 0;have qf1:=qf 1;have az:=qf 2;have il:=qf 3;clear qf
 have y1:w.heap.size<w2.heap.size:=by omega
 have y2:w1.heap.size<w2.heap.size:=by omega
 have b6:=bU bN;clear bN
 by_cases hk:k=(text.length:Int)
 rotate_left
 ·have g1:(k == (text.length:Int))=false:=by rw [beq_eq_false_iff_ne];exact hk
  have hn:zM s text=none:=by
   rw [HM.out]
   cases hq:rdN 101 t.args text with
   | none=>rfl
   | some x =>
     obtain ⟨b,rest⟩:=x
     have h1:=(ee b rest hq).1
     simp only
     rw [if_neg]
     rintro ⟨rfl,_⟩
     exact hk (by rw [h1];simp)
  have HN:=bU hn
  clear hn hk di ee
  have h0:kD (w.heap.size+1) 0 (.slice none 0 0) (.slice none 0 0) (w2.setCell ⟨w.heap.size,0,none⟩ (.slice a1 t.args.length c1)):=by
   unfold kD;rw [bG _ _ _ _ (by simp)];exact hN'
  obtain ⟨W,hW,s0,s1,s2,s3,bM,dM⟩:=h0.store (str s') (.int .i64 v') (.slice a2 n2 c2) (.slice a3 n3 c3)
  have t0:W.cell? ⟨w.heap.size,0,none⟩=some (.slice a1 t.args.length c1):=uR (qO r0' _) fun x hx=>dM _ x (by simp) hx
  have eQ:=bM _ _ (dN.setCell (p:=⟨w.heap.size,0,none⟩) (bX _) (.slice a1 t.args.length c1)) (by omega)
  have lY:Rep (w.heap.size<=·) W (qZ t) (.slice a1 t.args.length c1):=(Rep.keep fun b o h ho=>⟨by omega,dM b o (by omega) (by rw [bG _ _ _ _ (by simp;omega)];exact ho)⟩).1 _ _ lQ
  have FIN:Hid (∀ o,qz s text w (.returned (.tuple #[.agg #[.slice a1 t.args.length c1],.agg #[str s',.int .i64 v',.slice a2 n2 c2,.slice a3 n3 c3],.bool false])) (W.alloc o).drew):=fun o =>
   qz.no (a:=a1) (c:=c1) (by rw [HT.out]) rfl HN.out ((eQ.alloc eQ.size o).drew) (by rw [HT.out];exact ((Rep.keep fun b o h ho=>⟨h,zD ho⟩).1 _ _ lY).drew)
  have HW:=bU hW;clear h0 hW bM dM eQ lY
  go_wp2_with fail
  go_region
  go_wp2_with fail
  rw [<- HW.out]
  refine bodyPost_ret (v:=.tuple #[.agg #[.slice a1 t.args.length c1],.agg #[str s',.int .i64 v',.slice a2 n2 c2,.slice a3 n3 c3],.bool false]) (by simp [results,Tryz.results31,go_sem,zG t0,zG s0,zG s1,zG s2,zG s3]) rfl ?_
  exact FIN.out _
 obtain ⟨b,hqb⟩:∃ b,rdN 101 t.args text=some (b,[]):=by
  cases hq:rdN 101 t.args text with
  | none=>have:=di hq;omega
  | some x =>
    obtain ⟨b,rest⟩:=x
    have h1:=(ee b rest hq).1
    have:rest.length=0:=by omega
    rw [List.eq_nil_of_length_eq_zero this];exact ⟨b,rfl⟩
 have hrB:=(ee b [] hqb).2
 have eG:=rdN_size 101 hqb
 have hm:zM s text=if zp b<=200 then some b else none:=by
  rw [HM.out,hqb];simp
 have HM:=bU hm
 have hlB:Lim (zp b):=hl.mono (by simp at eG;omega)
 have g1:(k == (text.length:Int))=true:=by rw [beq_iff_eq];exact hk
 clear hm hqb di ee eG
 have HK:=bU hk;clear hk
 have A6:zq (w.heap.size+1 < ·) (w2.alloc (.cells #[str s',.int .i64 v',.slice a2 n2 c2,.slice a3 n3 c3] 64)) (ke b) [str s',.int .i64 v',.slice a2 n2 c2,.slice a3 n3 c3] :=
  (Rep.keep fun b o h ho=>⟨by have:=vP h;omega,zD ho⟩).2 _ _ hrB
 have hTA:(w2.alloc (.cells #[str s',.int .i64 v',.slice a2 n2 c2,.slice a3 n3 c3] 64)).cell? ⟨w1.heap.size,0,none⟩=some (.slice a1 t.args.length c1):=zG hT2
 have n0:(w2.alloc (.cells #[str s',.int .i64 v',.slice a2 n2 c2,.slice a3 n3 c3] 64)).cell? ⟨w2.heap.size,0,none⟩=some (str s'):=by simp
 have n1:(w2.alloc (.cells #[str s',.int .i64 v',.slice a2 n2 c2,.slice a3 n3 c3] 64)).cell? ⟨w2.heap.size,1,none⟩=some (.int .i64 v'):=by simp
 have i4:(w2.alloc (.cells #[str s',.int .i64 v',.slice a2 n2 c2,.slice a3 n3 c3] 64)).cell? ⟨w2.heap.size,2,none⟩=some (.slice a2 n2 c2):=by simp
 have io:(w2.alloc (.cells #[str s',.int .i64 v',.slice a2 n2 c2,.slice a3 n3 c3] 64)).cell? ⟨w2.heap.size,3,none⟩=some (.slice a3 n3 c3):=by simp
 have aR:KeepS w1.heap.size w2.heap.size (.slice a1 t.args.length c1) (str s') (.int .i64 v') (.slice a2 n2 c2) (.slice a3 n3 c3) (w2.alloc (.cells #[str s',.int .i64 v',.slice a2 n2 c2,.slice a3 n3 c3] 64)):=⟨hTA,n0,n1,i4,io⟩
 have hK3d:KeepS w1.heap.size w2.heap.size (.slice a1 t.args.length c1) (str s') (.int .i64 v') (.slice a2 n2 c2) (.slice a3 n3 c3) (w2.alloc (.cells #[str s',.int .i64 v',.slice a2 n2 c2,.slice a3 n3 c3] 64)).drew:=aR
 have AZ:w1.heap.size≠w.heap.size:=by omega
 have AY:w2.heap.size≠w.heap.size:=by omega
 have er:w1.heap.size≠w.heap.size+1:=by omega
 have em:w2.heap.size≠w.heap.size+1:=by omega
 clear hTA n0 n1 i4 io
 go_wp2_with fail
 go_region_held3 (fun w'=>w'.cell? ⟨w1.heap.size,0,none⟩=some (.slice a1 t.args.length c1)/\w'.cell? ⟨w2.heap.size,0,none⟩=some (str s')/\w'.cell? ⟨w2.heap.size,1,none⟩=some (.int .i64 v')/\w'.cell? ⟨w2.heap.size,2,none⟩=some (.slice a2 n2 c2)/\w'.cell? ⟨w2.heap.size,3,none⟩=some (.slice a3 n3 c3))
  (first
   | with_reducible exact aR
   | with_reducible exact hK3d
   | with_reducible exact tL
   | with_reducible exact tL.set _ _ _ AZ AY
   | with_reducible exact (tL.set _ _ _ AZ AY).set _ _ _ er em
   | with_reducible exact ((tL.set _ _ _ AZ AY).set _ _ _ er em).set _ _ _ er em
   | with_reducible exact (((tL.set _ _ _ AZ AY).set _ _ _ er em).set _ _ _ er em).set _ _ _ er em
   | with_reducible exact ((((tL.set _ _ _ AZ AY).set _ _ _ er em).set _ _ _ er em).set _ _ _ er em).set _ _ _ er em
   | with_reducible exact tL.set _ _ _ er em
   | with_reducible exact (tL.set _ _ _ er em).set _ _ _ er em
   | with_reducible exact ((tL.set _ _ _ er em).set _ _ _ er em).set _ _ _ er em
   | with_reducible exact (((tL.set _ _ _ er em).set _ _ _ er em).set _ _ _ er em).set _ _ _ er em
   | with_reducible exact ((((tL.set _ _ _ er em).set _ _ _ er em).set _ _ _ er em).set _ _ _ er em).set _ _ _ AZ AY)
  (first
   | (go_at_call 65;refine (l3Size_any (zp b) b (bX _) hlB (w.heap.size+1 < ·) _ _ _ _ _ _ _ _ _ (by exact A6.drew)).mono ?_;rintro en w5 ⟨rfl,b_⟩;have tL:KeepS w1.heap.size w2.heap.size (.slice a1 t.args.length c1) (str s') (.int .i64 v') (.slice a2 n2 c2) (.slice a3 n3 c3) w5:=⟨(b_.cell (by simp;omega)).trans aR.1,(b_.cell (by simp)).trans aR.2.1,(b_.cell (by simp)).trans aR.2.2.1,(b_.cell (by simp)).trans aR.2.2.2.1,(b_.cell (by simp)).trans aR.2.2.2.2⟩;have z5:=b_.size;have hz5:w.heap.size<w5.heap.size:=(by simp at z5;omega);have r5:w5.cell? ⟨w.heap.size,0,none⟩=some (.slice none 0 0):=(b_.cell (by simp;omega)).trans (zG r0');have f5:w5.frozen? ⟨w.heap.size,0,none⟩=false:=(b_.frozen (by simp;omega)).trans ((World.frozen?_of_block (w:=w2) (Below.heap_alloc _ _ _ y1)).trans rf0');have sF:kD (w.heap.size+1) 0 (.slice none 0 0) (.slice none 0 0) w5:=(by unfold kD;rw [b_.block _ (by simp;omega)];exact zD hN');obtain ⟨p0,p1,p2,p3,pl,pf⟩:=sF.cells;have pf0:=pf 0;have pf1:=pf 1;have pf2:=pf 2;have pf3:=pf 3;clear pf))
 go_wp2_with fail
 have h0:kD (w.heap.size+1) 0 (.slice none 0 0) (.slice none 0 0) (w5.setCell ⟨w.heap.size,0,none⟩ (.slice a1 t.args.length c1)):=by
  unfold kD;rw [bG _ _ _ _ (by simp)];exact sF
 obtain ⟨W,hW,s0,s1,s2,s3,bM,dM⟩:=h0.store (str s') (.int .i64 v') (.slice a2 n2 c2) (.slice a3 n3 c3)
 have t0:W.cell? ⟨w.heap.size,0,none⟩=some (.slice a1 t.args.length c1):=uR (qO r5 _) fun x hx=>dM _ x (by simp) hx
 have ej:Below w2.heap.size w2 w5:=((((bP _ _).alloc (bX _) _).drew).trans (b_.mono (by simp)))
 have Bj:=zzT dN ej
 have eQ:=bM _ _ (Bj.setCell (p:=⟨w.heap.size,0,none⟩) (bX _) (.slice a1 t.args.length c1)) (by omega)
 have keepF:∀ i o,w.heap.size+1<i->w2.heap[i]? = some o->W.heap[i]? = some o:=fun i o h ho =>
  dM i o (by omega) (by rw [bG _ _ _ _ (by simp;omega),ej.block i (zZ ho)];exact ho)
 have lY:Rep (w.heap.size<=·) W (qZ t) (.slice a1 t.args.length c1):=(Rep.keep fun b o h ho=>⟨by omega,keepF b o h ho⟩).1 _ _ lQ
 have hrN:zq (w.heap.size<=·) W (ke b) [str s',.int .i64 v',.slice a2 n2 c2,.slice a3 n3 c3]:=(Rep.keep fun b o h ho=>⟨by have:=vP h;omega,keepF b o (by have:=vP h;omega) ho⟩).2 _ _ hrB
 rw [<- hW]
 refine bodyPost_ret (v:=.tuple #[.agg #[.slice a1 t.args.length c1],.agg #[str s',.int .i64 v',.slice a2 n2 c2,.slice a3 n3 c3],.bool (decide ((zp b:Int)<=200))]) (by simp [results,Tryz.results31,go_sem,t0,s0,s1,s2,s3]) rfl ?_
 by_cases Ey:zp b<=200
 ·refine qz.yes (a:=a1) (c:=c1) (by rw [HT.out]) (by rw [decide_eq_true_eq];omega) (by rw [HM.out,if_pos Ey]) eQ (by rw [HT.out];exact lY) hrN
 ·exact qz.no (a:=a1) (c:=c1) (by rw [HT.out]) (by rw [decide_eq_false_iff_not];omega) (by rw [HM.out,if_neg Ey]) eQ (by rw [HT.out];exact lY)
theorem uN (c:UInt8):dig c=true↔48<=c.toNat/\c.toNat<=57:=by
 simp [dig,UInt8.le_iff_toNat_le]
theorem qi {k:Nat} (h:k<10):(UInt8.ofNat (48+k)).toNat=48+k:=by
 rw [UInt8.toNat_ofNat'];exact Nat.mod_eq_of_lt (by omega)
theorem decDigits_dig (u:Nat):∀ c∈Lib.decDigits u,dig c=true:=by
 induction u using Nat.strongRecOn with
 | _ u ih =>
   intro c hc
   rw [Lib.decDigits] at hc
   split at hc
   ·rename_i h
    rw [List.mem_singleton] at hc;subst hc
    rw [uN,qi h];omega
   ·rename_i h
    rcases List.mem_append.1 hc with hc | hc
    ·exact ih _ (by omega) c hc
    ·simp only [List.mem_singleton] at hc;subst hc
     rw [uN,qi (by omega)];omega
theorem decDigits_val (u:Nat):qQ (Lib.decDigits u)=u:=by
 induction u using Nat.strongRecOn with
 | _ u ih =>
   rw [Lib.decDigits]
   split
   ·rename_i h
    show 10*0+((UInt8.ofNat (48+u)).toNat-48)=u
    rw [qi h];omega
   ·rename_i h
    rw [yd,ih _ (by omega),qi (by omega)];omega
theorem xf (u:Nat):Lib.decDigits u≠[]:=by
 intro h
 have:=Lib.decDigits_length u
 have:=Lib.nDigits_pos u
 rw [h] at *;simp at *;omega
theorem ge (u:Nat) (h1:1<=u):(Lib.decDigits u).head?≠some 48:=by
 induction u using Nat.strongRecOn with
 | _ u ih =>
   rw [Lib.decDigits]
   split
   ·rename_i h
    intro e
    rw [List.head?_cons,Option.some.injEq] at e
    have:=qi h
    rw [e] at this
    have ni:(48:UInt8).toNat=48:=rfl
    omega
   ·rename_i h
    rw [List.head?_append]
    have:=ih (u / 10) (by omega) (by omega)
    have bm:=xf (u / 10)
    cases hd:Lib.decDigits (u / 10) with
    | nil=>exact absurd hd bm
    | cons x xs=>rw [hd] at this;simpa using this
theorem pF {u:Nat} (h:u<10000):(Lib.decDigits u).length<=4:=by
 rw [Lib.decDigits_length]
 by_cases h1:u<10
 ·rw [Lib.nDigits_small h1];omega
 rw [Lib.nDigits_big h1]
 by_cases h2:u / 10<10
 ·rw [Lib.nDigits_small h2];omega
 rw [Lib.nDigits_big h2]
 by_cases h3:u / 10 / 10<10
 ·rw [Lib.nDigits_small h3];omega
 rw [Lib.nDigits_big h3]
 rw [Lib.nDigits_small (by omega)];omega
theorem fold_ge (l:Bs):∀ a:Nat,a<=l.foldl (fun n c=>10*n+(c.toNat-48)) a:=by
 induction l with
 | nil=>intro a;simp
 | cons c cs ih=>intro a;simp only [List.foldl_cons];have:=ih (10*a+(c.toNat-48));omega
theorem valOf_pos {l:Bs} (hd:∀ c∈l,dig c=true) (hn:l≠[]) (ni:l.head?≠some 48):1<=qQ l:=by
 cases l with
 | nil=>exact absurd rfl hn
 | cons c cs =>
   have h1:=(uN c).1 (hd c (by simp))
   have h2:c.toNat≠48:=fun e=>ni (by simp;exact UInt8.toNat_inj.1 (by simpa using e))
   have:=fold_ge cs (10*0+(c.toNat-48))
   show 1<=cs.foldl _ (10*0+(c.toNat-48))
   omega
theorem xd (n:Nat):∀ w:Bs,w.length=n->w≠[]->(∀ c∈w,dig c=true)->(1<w.length->w.head?≠some 48)->Lib.decDigits (qQ w)=w:=by
 induction n with
 | zero=>intro w hl hn;exact absurd (List.eq_nil_of_length_eq_zero hl) hn
 | succ n ih =>
   intro w hl hn hd hh
   obtain ⟨ws,c,rfl⟩:∃ ws c,w=ws++[c]:=⟨w.dropLast,w.getLast hn,(List.dropLast_concat_getLast hn).symm⟩
   have hc:=(uN c).1 (hd c (by simp))
   have hof:UInt8.ofNat (48+(c.toNat-48))=c:=by
    apply UInt8.toNat_inj.1;rw [qi (by omega)];omega
   rw [yd]
   by_cases oY:ws=[]
   ·subst oY
    show Lib.decDigits (10*0+(c.toNat-48))=[c]
    rw [Lib.decDigits_one (by omega),show 48+(10*0+(c.toNat-48))=48+(c.toNat-48) from by omega,hof]
   ·have i9:1<=ws.length:=by cases ws with
     | nil=>exact absurd rfl oY
     | cons x xs=>simp
    have ni:ws.head?≠some 48:=by
     have:=hh (by simp;omega)
     rw [List.head?_append] at this
     cases ws with
     | nil=>exact absurd rfl oY
     | cons x xs=>simpa using this
    have hdw:∀ x∈ws,dig x=true:=fun x hx=>hd x (by simp [hx])
    have hp:=valOf_pos hdw oY ni
    have hi:=ih ws (by simpa using hl) oY hdw (fun _=>ni)
    rw [Lib.decDigits,dif_neg (by omega),show (10*qQ ws+(c.toNat-48)) / 10=qQ ws from by omega,show (10*qQ ws+(c.toNat-48)) % 10=c.toNat-48 from by omega,hi,hof]
theorem decFrom_of (l:Bs):∀ a:Nat,(∀ c∈l,dig c=true)->Lib.decFrom a l=some (l.foldl (fun n c=>10*n+(c.toNat-48)) a):=by
 induction l with
 | nil=>intro a _;rfl
 | cons c cs ih =>
   intro a hd
   have hc:=(uN c).1 (hd c (by simp))
   simp only [Lib.decFrom,Lib.digitVal,if_pos hc,List.foldl_cons]
   rw [Nat.mul_comm a 10]
   exact ih _ fun x hx=>hd x (by simp [hx])
theorem lvl_spec {w:Bs} {n v:Nat} (h:lvl w n=some v) (hn:n<=10000):w≠[]/\w.length<=4/\(∀ c∈w,dig c=true)/\(1<w.length->w.head?≠some 48)/\qQ w=v/\v<n:=by
 obtain ⟨h1,_,h3⟩:=lvl_lt h
 have e:Lib.itoa (v:Int)=Lib.decDigits v:=by unfold Lib.itoa;rw [if_neg (by omega)];simp
 rw [e] at h3
 subst h3
 refine ⟨xf v,pF (by omega),decDigits_dig v,fun hl=>?_,decDigits_val v,h1⟩
 refine ge v ?_
 rcases Nat.eq_zero_or_pos v with h0 | h0
 ·subst h0;rw [Lib.decDigits_one (by omega)] at hl;simp at hl
 ·exact h0
theorem spec_lvl {w:Bs} {n:Nat} (h1:w≠[]) (h2:w.length<=4) (h3:∀ c∈w,dig c=true) (h4:1<w.length->w.head?≠some 48) (h5:qQ w<n):lvl w n=some (qQ w):=by
 have ha:Lib.atoiAll w=.ok (qQ w:Int):=by
  rw [Lib.atoiAll_short w (by omega)]
  cases w with
  | nil=>exact absurd rfl h1
  | cons c cs =>
    have hc:=(uN c).1 (h3 c (by simp))
    have n45:(c == 45)=false:=by rw [beq_eq_false_iff_ne];rintro rfl;have:(45:UInt8).toNat=45:=rfl;omega
    have n43:(c == 43)=false:=by rw [beq_eq_false_iff_ne];rintro rfl;have:(43:UInt8).toNat=43:=rfl;omega
    simp only [Lib.atoi,n45,n43,Bool.false_eq_true,if_false,Lib.decNat,List.isEmpty_cons]
    rw [decFrom_of _ 0 h3];rfl
 have hi:Lib.itoa (qQ w:Int)=w:=by
  have e:Lib.itoa (qQ w:Int)=Lib.decDigits (qQ w):=by unfold Lib.itoa;rw [if_neg (by omega)];simp
  rw [e,xd w.length w rfl h1 h3 h4]
 unfold lvl
 rw [ha]
 simp only
 rw [if_pos ⟨hi,by omega,by omega⟩];simp
def jC (l:Bs):Prop:=l=[]\/∃ c r,l=c::r/\sep c=true
theorem dig_sep {c:UInt8} (h:dig c=true):sep c=false:=by
 have:=(uN c).1 h
 rw [Bool.eq_false_iff];intro hs
 simp only [sep,Bool.or_eq_true,beq_iff_eq] at hs
 rcases hs with (rfl | rfl) | rfl
 ·have:(32:UInt8).toNat=32:=rfl;omega
 ·have:(40:UInt8).toNat=40:=rfl;omega
 ·have:(41:UInt8).toNat=41:=rfl;omega
theorem pu (l:Bs):l=zk l++zN l:=(List.takeWhile_append_dropWhile).symm
theorem wordDrop (l:Bs):l.drop (zk l).length=zN l:=by
 have h:=pu l
 generalize zk l=a at *
 generalize zN l=b at *
 subst h;simp
theorem pw (l:Bs):jC (zN l):=by
 unfold zN
 induction l with
 | nil=>exact .inl rfl
 | cons c cs ih =>
   rw [List.dropWhile_cons]
   split
   ·exact ih
   ·rename_i h;exact .inr ⟨c,cs,rfl,by simpa using h⟩
theorem word_of {w rest:Bs} (hw:∀ c∈w,sep c=false) (hr:jC rest):zk (w++rest)=w/\zN (w++rest)=rest:=by
 unfold zk zN
 induction w with
 | nil =>
   rcases hr with rfl | ⟨c,r,rfl,hc⟩
   ·exact ⟨rfl,rfl⟩
   ·simp [hc]
 | cons x xs ih =>
   have hx:=hw x (by simp)
   have:=ih fun c hc=>hw c (by simp [hc])
   simp [hx,this.1,this.2]
theorem digsOf_of {w rest:Bs} (hw:∀ c∈w,dig c=true) (hl:w.length<=4) (hr:jC rest):z_ (w++rest)=w:=by
 unfold z_
 rw [List.take_append,List.take_of_length_le hl]
 have key:(rest.take (4-w.length)).takeWhile dig=[]:=by
  rcases hr with rfl | ⟨c,r,rfl,hc⟩
  ·simp
  ·cases 4-w.length with
   | zero=>rfl
   | succ k =>
     rw [List.take_succ_cons,List.takeWhile_cons,if_neg]
     intro h;rw [dig_sep h] at hc;simp at hc
 rw [List.takeWhile_append_of_pos (fun c hc=>hw c hc),key,List.append_nil]
theorem cut_is {c:UInt8} {r:Bs}:cut [c] (c::r)=some r:=by simp [cut,List.isPrefixOf]
theorem wU (rd:RdS) (hs gs:List (List Ty)):∀ {l:Bs} {bs:List Bd} {l1:Bs} {cs:List Bd} {l2:Bs},zY rd hs l=some (bs,l1)->zY rd gs l1=some (cs,l2)->zY rd (hs++gs) l=some (bs++cs,l2):=by
 induction hs with
 | nil=>intro l bs l1 cs l2 h k;simp [zY] at h;obtain ⟨rfl,rfl⟩:=h;simpa using k
 | cons h' hs ih =>
   intro l bs l1 cs l2 h k
   simp only [zY,Option.bind_eq_bind,Option.bind_eq_some_iff,Prod.exists] at h
   obtain ⟨b,m,h1,bs',m',h2,h3⟩:=h
   simp at h3;obtain ⟨rfl,rfl⟩:=h3
   simp only [List.cons_append,zY,Option.bind_eq_bind,h1,Option.bind_some,ih h2 k]
def RdFits (rd:Rd) (rs:RdS) (h:List Ty):Prop:=∀ (left:Nat) (l:Bs) (b:Bd) (r:Bs) (f:Nat),rd h left l=some (b,r,f)->rs h l=some (b,r)/\f+zp b=left/\l.length+1<=r.length+7*zp b
theorem parts_fit {rd:Rd} {rs:RdS} (hs:List (List Ty)) (hf:∀ h∈hs,RdFits rd rs h):∀ {left:Nat} {l:Bs} {bs:List Bd} {r:Bs} {f:Nat},zf rd hs left l=some (bs,r,f)->zY rs hs l=some (bs,r)/\f+zL bs=left/\l.length<=r.length+7*zL bs:=by
 induction hs with
 | nil=>intro left l bs r f h;simp [zf] at h;obtain ⟨rfl,rfl,rfl⟩:=h;simp [zY,zL]
 | cons h' hs ih =>
   intro left l bs r f h
   simp only [zf,Option.bind_eq_bind,Option.bind_eq_some_iff,Prod.exists] at h
   obtain ⟨l1,h1,b,l2,f2,h2,bs',l3,f3,h3,h4⟩:=h
   simp at h4;obtain ⟨rfl,rfl,rfl⟩:=h4
   obtain ⟨a1,a2,a3⟩:=hf h' (by simp) _ _ _ _ _ h2
   obtain ⟨b1,b2,b3⟩:=ih (fun x hx=>hf x (by simp [hx])) h3
   have hc:=qn h1
   refine ⟨?_,by simp [zL];omega,by subst hc;simp [zL];omega⟩
   simp only [zY,kQ,h1,Option.bind_eq_bind,Option.bind_some,a1,b1]
theorem ph {l:Bs} {c:UInt8} (h:zk l=[c]):l=c::zN l:=by
 have:=pu l
 rw [h] at this;simpa using this
theorem specNum_of {w rest:Bs} (h1:w≠[]) (h2:w.length<=4) (h3:∀ c∈w,dig c=true) (h4:1<w.length->w.head?≠some 48) (hr:jC rest):qF (w++rest)=some (qQ w,w.length):=by
 unfold qF
 rw [digsOf_of h3 h2 hr,if_neg]
 rintro (h | ⟨h,h'⟩)
 ·exact h1 h
 ·apply h4 h
  cases w with
  | nil=>exact absurd rfl h1
  | cons x xs=>simpa using h'
theorem rdB_fits (d:Nat):∀ levels,k8 d levels->RdFits (rdB d) (rdN (d+1)) levels:=by
 induction d with
 | zero =>
   intro levels hh left l b r f h
   rcases left with _ | left
   ·simp [rdB] at h
   rcases za [40] l with h1 | ⟨r1,h1⟩
   ·rw [xR 0 levels left h1.out] at h
    have key:∀ c:UInt8,(c=116\/c=102\/c=117)->zk l=[c]->rdN 1 levels l=some (.leaf c,zN l)/\left+zp (.leaf c)=left+1/\l.length+1<=(zN l).length+7*zp (.leaf c):=by
     intro c hc hw
     have e:=ph hw
     refine ⟨?_,rfl,?_⟩
     ·conv=>lhs;rw [e]
      simp only [rdN,if_pos hc]
     ·have:=congrArg List.length e;simp at this;simp [zp];omega
    split at h
    ·rename_i hw;simp at h;obtain ⟨rfl,rfl,rfl⟩:=h;exact key _ (by decide) hw
    ·split at h
     ·rename_i hw;simp at h;obtain ⟨rfl,rfl,rfl⟩:=h;exact key _ (by decide) hw
     ·split at h
      ·rename_i hw;simp at h;obtain ⟨rfl,rfl,rfl⟩:=h;exact key _ (by decide) hw
      ·simp at h
   ·rw [xS 0 levels left h1.out] at h
    cases hv:lvl (zk r1) levels.length with
    | none=>rw [hv] at h;simp at h
    | some v=>rw [hv] at h;simp at h
 | succ d ih =>
   intro levels hh left l b r f h
   rcases left with _ | left
   ·simp [rdB] at h
   rcases za [40] l with h1 | ⟨r1,h1⟩
   ·rw [xR (d+1) levels left h1.out] at h
    have key:∀ c:UInt8,(c=116\/c=102\/c=117)->zk l=[c]->rdN (d+1+1) levels l=some (.leaf c,zN l)/\left+zp (.leaf c)=left+1/\l.length+1<=(zN l).length+7*zp (.leaf c):=by
     intro c hc hw
     have e:=ph hw
     refine ⟨?_,rfl,?_⟩
     ·conv=>lhs;rw [e]
      simp only [rdN,if_pos hc]
     ·have:=congrArg List.length e;simp at this;simp [zp];omega
    split at h
    ·rename_i hw;simp at h;obtain ⟨rfl,rfl,rfl⟩:=h;exact key _ (by decide) hw
    ·split at h
     ·rename_i hw;simp at h;obtain ⟨rfl,rfl,rfl⟩:=h;exact key _ (by decide) hw
     ·split at h
      ·rename_i hw;simp at h;obtain ⟨rfl,rfl,rfl⟩:=h;exact key _ (by decide) hw
      ·simp at h
   ·rw [xS (d+1) levels left h1.out] at h
    cases hv:lvl (zk r1) levels.length with
    | none=>rw [hv] at h;simp at h
    | some v =>
      rw [hv] at h
      simp only at h
      cases ht:levels[v]? with
      | none=>rw [ht] at h;simp at h
      | some t =>
        rw [ht] at h
        simp only [gH,Option.bind_eq_bind,Option.bind_eq_some_iff,Prod.exists] at h
        obtain ⟨ss,l1,f1,h2,yn,l2,f2,h3,h4⟩:=h
        have hl:levels.length<=10000:=by have:=hh.2;omega
        obtain ⟨w1,w2,w3,w4,w5,w6⟩:=lvl_spec hv hl
        split at h4
        ·rename_i y n
         simp only [Option.bind_eq_some_iff] at h4
         obtain ⟨l3,h5,h6⟩:=h4
         simp at h6;obtain ⟨rfl,rfl,rfl⟩:=h6
         have k1:=parts_fit (rs:=rdN (d+1)) (t.args.map fun a=>levels++a.args) (fun x hx=>by
          obtain ⟨a,ha,rfl⟩:=List.mem_map.1 hx
          exact ih _ (hh.next ht ha)) h2
         have c_:k8 d levels:=by have:=hh.same;rwa [List.append_nil] at this
         have k2:=parts_fit (rs:=rdN (d+1)) [levels,levels] (fun x hx=>by
          have:x=levels:=by simpa using hx
          subst this;exact ih _ c_) h3
         have hln:=(uC (gG d) _ h2).2.2
         rw [List.length_map] at hln
         have hc:=qn h5
         have fc:=qn h1.out
         have hw:=pu r1
         have Ct:=specNum_of (rest:=zN r1) w1 w2 w3 w4 (pw r1)
         rw [<- hw,w5] at Ct
         have be:zY (rdN (d+1)) (kM levels t) (zN r1)=some (ss++[y,n],l2):=wU _ _ _ k1.1 k2.1
         refine ⟨?_,?_,?_⟩
         ·conv=>lhs;rw [fc]
          rw [rdN]
          rw [if_neg (by decide),if_neg (by decide),Ct]
          simp only [ht]
          rw [wordDrop]
          simp only [be,Option.bind_eq_bind,Option.bind_some,h5,uz]
          rw [List.drop_left' hln,List.take_left' hln];rfl
         ·have a1:=k1.2.1;have a2:=k2.2.1
          simp [zp,zL] at a1 a2 ⊢;omega
         ·have a1:=k1.2.2;have a2:=k2.2.2
          have i9:=congrArg List.length hw
          have aM:=congrArg List.length hc
          have hc1l:=congrArg List.length fc
          simp [zp,zL] at a1 a2 i9 aM hc1l ⊢;omega
        ·simp at h4
theorem j0 {rs:RdS} {hs:List (List Ty)} {l:Bs} {ps:List Bd} {r:Bs} (h:zY rs hs l=some (ps,r)) (hr:jC r):jC l:=by
 cases hs with
 | nil=>simp [zY] at h;obtain ⟨_,rfl⟩:=h;exact hr
 | cons h' hs =>
   simp only [zY,kQ,Option.bind_eq_bind,Option.bind_eq_some_iff,Prod.exists] at h
   obtain ⟨_,_,⟨l1,h1,_⟩,_⟩:=h
   have:=qn h1
   exact .inr ⟨32,l1,this,rfl⟩
def RdBack (rd:Rd) (rs:RdS) (h:List Ty):Prop:=∀ (left:Nat) (l:Bs) (b:Bd) (r:Bs),rs h l=some (b,r)->jC r->zp b<=left->rd h left l=some (b,r,left-zp b)
theorem gF {rd:Rd} {rs:RdS} (hs:List (List Ty)) (hf:∀ h∈hs,RdBack rd rs h):∀ (left:Nat) (l:Bs) (ps:List Bd) (r:Bs),zY rs hs l=some (ps,r)->jC r->zL ps<=left->zf rd hs left l=some (ps,r,left-zL ps):=by
 induction hs with
 | nil=>intro left l ps r h _ _;simp [zY] at h;obtain ⟨rfl,rfl⟩:=h;simp [zf,zL]
 | cons h' hs ih =>
   intro left l ps r h hr eG
   simp only [zY,kQ,Option.bind_eq_bind,Option.bind_eq_some_iff,Prod.exists] at h
   obtain ⟨b,l2,⟨l1,h1,h2⟩,bs,l3,h3,h4⟩:=h
   simp at h4;obtain ⟨rfl,rfl⟩:=h4
   simp [zL] at eG
   have hb:=hf h' (by simp) left l1 b l2 h2 (j0 h3 hr) (by omega)
   have hbs:=ih (fun x hx=>hf x (by simp [hx])) (left-zp b) l2 bs l3 h3 hr (by omega)
   simp only [zf,h1,Option.bind_eq_bind,Option.bind_some,hb,hbs]
   simp [zL];omega
theorem pP (rs:RdS) (hs gs:List (List Ty)):∀ {l:Bs} {ps:List Bd} {r:Bs},zY rs (hs++gs) l=some (ps,r)->∃ bs l1 cs,ps=bs++cs/\zY rs hs l=some (bs,l1)/\zY rs gs l1=some (cs,r):=by
 induction hs with
 | nil=>intro l ps r h;exact ⟨[],l,ps,rfl,rfl,h⟩
 | cons h' hs ih =>
   intro l ps r h
   simp only [List.cons_append,zY,Option.bind_eq_bind,Option.bind_eq_some_iff,Prod.exists] at h
   obtain ⟨b,m,h1,bs',m',h2,h3⟩:=h
   simp at h3;obtain ⟨rfl,rfl⟩:=h3
   obtain ⟨bs,l1,cs,rfl,a1,a2⟩:=ih h2
   refine ⟨b::bs,l1,cs,rfl,?_,a2⟩
   simp only [zY,Option.bind_eq_bind,h1,Option.bind_some,a1]
theorem xC {m:Bs} {v k:Nat} (h:qF m=some (v,k)):z_ m≠[]/\v=qQ (z_ m)/\k=(z_ m).length/\(1<(z_ m).length->(z_ m).head?≠some 48):=by
 unfold qF at h
 split at h
 ·simp at h
 ·rename_i hc
  simp at h
  refine ⟨fun e=>hc (.inl e),h.1.symm,h.2.symm,fun h1 h2=>hc (.inr ⟨h1,?_⟩)⟩
  have hp:=js m
  obtain ⟨x,hx⟩:=hp
  cases hd:z_ m with
  | nil=>rw [hd] at h1;simp at h1
  | cons y ys=>rw [hd] at hx h2;rw [<- hx];simpa using h2
theorem rdN_back (d:Nat):∀ levels,k8 d levels->RdBack (rdB d) (rdN (d+1)) levels:=by
 induction d with
 | zero =>
   intro levels hh left l b r h hr eG
   obtain ⟨left,rfl⟩:∃ x,left=x+1:=⟨left-1,by have:=jQ b;omega⟩
   cases l with
   | nil=>simp [rdN] at h
   | cons c m =>
     simp only [rdN] at h
     split at h
     ·rename_i hc
      simp at h;obtain ⟨rfl,rfl⟩:=h
      have dL:cut [40] (c::m)=none:=by
       rcases hc with rfl | rfl | rfl <;> simp [cut,List.isPrefixOf]
      have hw:=word_of (w:=[c]) (rest:=m) (fun x hx=>by
       have:x=c:=by simpa using hx
       subst this;rcases hc with rfl | rfl | rfl <;> decide) hr
      rw [List.singleton_append] at hw
      rw [xR 0 levels left dL,hw.1,hw.2]
      rcases hc with rfl | rfl | rfl <;> simp [zp]
     ·split at h
      ·simp at h
      ·split at h
       ·simp at h
       ·split at h
        ·simp at h
        ·exfalso
         simp only [Option.bind_eq_bind,Option.bind_eq_some_iff,Prod.exists] at h
         obtain ⟨ps,l1,h1,_⟩:=h
         rename_i t _ _
         cases ha:kM levels t with
         | nil=>have:=j5 levels t;rw [ha] at this;simp at this
         | cons x xs=>rw [ha] at h1;simp [zY,kQ] at h1
 | succ d ih =>
   intro levels hh left l b r h hr eG
   obtain ⟨left,rfl⟩:∃ x,left=x+1:=⟨left-1,by have:=jQ b;omega⟩
   cases l with
   | nil=>simp [rdN] at h
   | cons c m =>
     rw [rdN] at h
     simp only at h
     split at h
     ·rename_i hc
      simp at h;obtain ⟨rfl,rfl⟩:=h
      have dL:cut [40] (c::m)=none:=by
       rcases hc with rfl | rfl | rfl <;> simp [cut,List.isPrefixOf]
      have hw:=word_of (w:=[c]) (rest:=m) (fun x hx=>by
       have:x=c:=by simpa using hx
       subst this;rcases hc with rfl | rfl | rfl <;> decide) hr
      rw [List.singleton_append] at hw
      rw [xR (d+1) levels left dL,hw.1,hw.2]
      rcases hc with rfl | rfl | rfl <;> simp [zp]
     ·split at h
      ·simp at h
      ·rename_i dL
       have dL:c=40:=by simpa using dL
       subst dL
       cases hn:qF m with
       | none=>rw [hn] at h;simp at h
       | some x =>
         obtain ⟨v,k⟩:=x
         rw [hn] at h
         simp only at h
         cases ht:levels[v]? with
         | none=>rw [ht] at h;simp at h
         | some t =>
           rw [ht] at h
           simp only [Option.bind_eq_bind,Option.bind_eq_some_iff,Prod.exists] at h
           obtain ⟨ps,l2,h1,l3,h2,b',h3,h4⟩:=h
           simp at h4;obtain ⟨rfl,rfl⟩:=h4
           have hc:=qn h2
           have oC:jC l2:=.inr ⟨41,l3,hc,rfl⟩
           have dB:=j0 h1 oC
           obtain ⟨n1,n2,n3,n4⟩:=xC hn
           obtain ⟨bs,l1,cs,e1,p1,p2⟩:=pP _ _ _ h1
           have fT:=v5 _ p1
           have aM:=v5 _ p2
           have fM:=g_ h3
           have hw0:m=z_ m++m.drop k:=by
            obtain ⟨x,hx⟩:=js m
            have gen:∀ (a b c:Bs),a++b=c->c.drop a.length=b:=by rintro a b c rfl;simp
            rw [n3,gen _ _ _ hx,hx]
           have hw:=word_of (w:=z_ m) (rest:=m.drop k) (fun x hx=>dig_sep (jh m x hx)) dB
           rw [<- hw0] at hw
           have mS:v<levels.length:=(List.getElem?_eq_some_iff.1 ht).1
           have dy:=spec_lvl (n:=levels.length) n1 (yT m).1 (jh m) n4 (by rw [<- n2];exact mS)
           rw [<- n2] at dy
           have hsl1:jC l1:=j0 p2 oC
           have hszs:zL ps=zL bs+zL cs:=by rw [e1,kI]
           have c_:k8 d levels:=by have:=hh.same;rwa [List.append_nil] at this
           have k1:=gF (rd:=rdB d) (t.args.map fun a=>levels++a.args) (fun x hx=>by
            obtain ⟨a,ha,rfl⟩:=List.mem_map.1 hx
            exact ih _ (hh.next ht ha)) left (m.drop k) bs l1 p1 hsl1 (by omega)
           have k2:=gF (rd:=rdB d) [levels,levels] (fun x hx=>by
            have:x=levels:=by simpa using hx
            subst this;exact ih _ c_) (left-zL bs) l1 cs l2 p2 oC (by omega)
           have iI:bs.length=t.args.length:=by simpa [kG] using fT
           obtain ⟨y,n,rfl⟩:∃ y n,cs=[y,n]:=by
            match cs,aM with
            | [a,b],_=>exact ⟨a,b,rfl⟩
           have hb:b'=.ask v bs y n:=by
            rw [e1] at h3
            unfold uz at h3
            rw [List.drop_left' iI,List.take_left' iI] at h3
            simpa using h3.symm
           subst hb
           rw [xS (d+1) levels left (l:=40::m) cut_is,hw.1,dy]
           simp only [ht]
           rw [hw.2]
           simp only [gH,k1,k2,Option.bind_eq_bind,Option.bind_some,h2]
           simp [zp,zL] at *;omega
theorem rdStrat_eq (t:Ty) (ht:zW t<=15) (l:Bs):jN t l=(if 2000<l.length then none else match rdN 101 t.args l with
 | none=>none
 | some (b,rest)=>if rest=[]/\zp b<=200 then some b else none):=by
 have hh:=handOk_of ht
 cases hq:jN t l with
 | some b =>
   have h1:∃ f,rdB 100 t.args 200 l=some (b,[],f):=by
    unfold jN at hq
    split at hq
    ·rename_i b' f he
     simp at hq;subst hq;exact ⟨f,he⟩
    ·simp at hq
   obtain ⟨f,h1⟩:=h1
   obtain ⟨a1,a2,a3⟩:=rdB_fits 100 t.args hh _ _ _ _ _ h1
   have:¬ 2000<l.length:=by simp at a3;omega
   rw [if_neg this,a1]
   simp only
   rw [if_pos ⟨by trivial,by omega⟩]
 | none =>
   symm
   split
   ·rfl
   ·cases hn:rdN 101 t.args l with
    | none=>rfl
    | some x =>
      obtain ⟨b,rest⟩:=x
      simp only
      split
      ·rename_i hc
       obtain ⟨rfl,hc⟩:=hc
       have:=rdN_back 100 t.args hh 200 l b [] hn (.inl rfl) hc
       unfold jN at hq
       rw [this] at hq;simp at hq
      ·rfl
theorem pL (s l:Bs):xN s l=(zM s l).map fun b=>((zV s).1,b):=by
 unfold xN zM
 rw [uf]
 cases b4:(zV s).2 with
 | false=>simp
 | true =>
   have bL:=ja b4
   simp only [if_true,Option.bind_eq_bind,Option.bind_some]
   rw [rdStrat_eq _ bL]
   by_cases h2:2000<l.length
   ·simp [h2]
   ·simp only [h2,if_false,Bool.true_eq_false,false_or]
    cases rdN 101 (zV s).1.args l with
    | none=>rfl
    | some x =>
      obtain ⟨b,rest⟩:=x
      simp only
      split <;> rfl
mutual
def kB:List Ty->Bd->Prop
 | _,.leaf _=>True
 | hand,.ask v ss y n=>∃ t,hand[v]? = some t/\kg (kG hand t.args) ss/\kB hand y/\kB hand n
def kg:List (List Ty)->List Bd->Prop
 | hs,[]=>hs=[]
 | hs,b::bs=>∃ h fj,hs=h::fj/\kB h b/\kg fj bs
end
mutual
def wS:Bd->Bd->Bool
 | .leaf c,.leaf d=>c == 117 || c == d
 | .leaf c,.ask _ _ _ _=>c == 117
 | .ask _ _ _ _,.leaf _=>false
 | .ask v ss y n,.ask v' ss' y' n'=>v == v' && (yL ss ss' && (wS y y' && wS n n'))
def yL:List Bd->List Bd->Bool
 | a::xs,b::bs=>wS a b && yL xs bs
 | [],_=>true
 | _::_,[]=>false
end
theorem vK (levels ts:List Ty):(kG levels ts).length=ts.length:=by simp [kG]
theorem uM:∀ (xs:List Bd) (bs:List Bd) (hs ks:List (List Ty)),kg hs xs->kg ks bs->kg (hs++ks) (xs++bs)
 | [],bs,hs,ks,h1,h2=>by rw [kg] at h1;subst h1;simpa using h2
 | a::xs,bs,hs,ks,h1,h2=>by
   rw [kg] at h1
   obtain ⟨h,fj,rfl,e1,e2⟩:=h1
   exact ⟨h,fj++ks,rfl,e1,uM xs bs fj ks e2 h2⟩
theorem vQ:∀ (xs:List Bd) (hs:List (List Ty)),kg hs xs->hs.length=xs.length
 | [],hs,h=>by rw [kg] at h;simp [h]
 | a::xs,hs,h=>by
   rw [kg] at h
   obtain ⟨h',fj,rfl,e1,e2⟩:=h
   simp [vQ xs fj e2]
theorem gf:∀ (xs:List Bd) (hs:List (List Ty)),kg hs xs->∀ (k:Nat) (a:Bd),xs[k]? = some a->∃ h,hs[k]? = some h/\kB h a
 | [],hs,h,k,a,ha=>by simp at ha
 | a::xs,hs,h,k,a',ha=>by
   rw [kg] at h
   obtain ⟨h',fj,rfl,e1,e2⟩:=h
   cases k with
   | zero=>simp at ha;subst ha;exact ⟨h',rfl,e1⟩
   | succ k=>simp at ha;simpa using gf xs fj e2 k a' ha
theorem gd (h k:List Ty) (y n:Bd):kg [h,k] [y,n]↔kB h y/\kB k n:=by
 constructor
 ·intro hf
  rw [kg] at hf
  obtain ⟨a,as',e,h1,h2⟩:=hf
  simp only [List.cons.injEq] at e
  obtain ⟨rfl,rfl⟩:=e
  rw [kg] at h2
  obtain ⟨a,as',e,h3,h4⟩:=h2
  simp only [List.cons.injEq] at e
  obtain ⟨rfl,rfl⟩:=e
  exact ⟨h1,h3⟩
 ·rintro ⟨h1,h2⟩
  exact ⟨h,[k],rfl,h1,k,[],rfl,h2,by rw [kg]⟩
theorem fit_parts {hand:List Ty} {v:Nat} {ss:List Bd} {y n:Bd} (h:kB hand (.ask v ss y n)):∃ t,hand[v]? = some t/\kg (kM hand t) (vx (.ask v ss y n))/\ss.length=t.args.length:=by
 rw [kB] at h
 obtain ⟨t,h1,h2,h3,h4⟩:=h
 refine ⟨t,h1,uM _ _ _ _ h2 ((gd _ _ _ _).2 ⟨h3,h4⟩),?_⟩
 have:=vQ _ _ h2
 rw [vK] at this;exact this.symm
theorem pJ:∀ (hs:List (List Ty)) (ks:List (List Ty)) (ps:List Bd),kg (hs++ks) ps->kg hs (ps.take hs.length)/\kg ks (ps.drop hs.length)
 | [],ks,ps,h=>by
   constructor
   ·simp [kg]
   ·simpa using h
 | x::hs,ks,[],h=>by simp [kg] at h
 | x::hs,ks,p::ps,h=>by
   simp only [List.cons_append] at h
   rw [kg] at h
   obtain ⟨h',fj,e,e1,e2⟩:=h
   simp only [List.cons.injEq] at e
   obtain ⟨rfl,rfl⟩:=e
   have:=pJ hs ks ps e2
   simp only [List.length_cons,List.take_succ_cons,List.drop_succ_cons]
   exact ⟨⟨x,hs,rfl,e1,this.1⟩,this.2⟩
theorem specParts_fit {rd:RdS} (eH:∀ {h l b r},rd h l=some (b,r)->kB h b) (hs:List (List Ty)):∀ {l r:Bs} {ps:List Bd},zY rd hs l=some (ps,r)->kg hs ps:=by
 induction hs with
 | nil=>intro l r ps h;simp [zY] at h;obtain ⟨rfl,rfl⟩:=h;simp [kg]
 | cons h' hs ih =>
   intro l r ps h
   simp only [zY,Option.bind_eq_bind,Option.bind_eq_some_iff,Prod.exists] at h
   obtain ⟨b,l1,h1,bs,l2,h2,h3⟩:=h
   simp at h3;obtain ⟨rfl,rfl⟩:=h3
   unfold kQ at h1
   simp only [Option.bind_eq_bind,Option.bind_eq_some_iff] at h1
   obtain ⟨l3,_,h4⟩:=h1
   exact ⟨h',hs,rfl,eH h4,ih h2⟩
theorem rdN_fit (e:Nat):∀ {h:List Ty} {l:Bs} {b:Bd} {r:Bs},rdN e h l=some (b,r)->kB h b:=by
 induction e with
 | zero=>intro h l b r hq;simp [rdN] at hq
 | succ e ih =>
   intro h l b r hq
   cases l with
   | nil=>simp [rdN] at hq
   | cons c m =>
     simp only [rdN] at hq
     split at hq
     ·simp at hq;obtain ⟨rfl,rfl⟩:=hq;simp [kB]
     ·split at hq
      ·simp at hq
      ·split at hq
       ·simp at hq
       ·rename_i v k hsn
        split at hq
        ·simp at hq
        ·rename_i t ht
         simp only [Option.bind_eq_bind,Option.bind_eq_some_iff,Prod.exists] at hq
         obtain ⟨ps,l1,h1,l2,h2,b',h3,h4⟩:=hq
         simp at h4;obtain ⟨rfl,rfl⟩:=h4
         have k1:=specParts_fit ih _ h1
         have k2:=pJ _ _ _ k1
         rw [vK] at k2
         unfold uz at h3
         split at h3
         ·rename_i y no hd
          simp at h3;subst h3
          rw [hd,gd] at k2
          rw [kB]
          exact ⟨t,ht,k2.1,k2.2.1,k2.2.2⟩
         ·simp at h3
theorem xb:∀ (xs bs:List Bd),xs.length=bs.length->(yL xs bs=true↔∀ (k:Nat) (a b:Bd),xs[k]? = some a->bs[k]? = some b->wS a b=true)
 | [],[],_=>by simp [yL]
 | a::xs,b::bs,h=>by
   simp only [yL,Bool.and_eq_true]
   rw [xb xs bs (by simpa using h)]
   constructor
   ·rintro ⟨h1,h2⟩ k a' b' ha hb
    cases k with
    | zero=>simp at ha hb;subst ha;subst hb;exact h1
    | succ k=>simp at ha hb;exact h2 k a' b' ha hb
   ·intro h
    exact ⟨h 0 a b rfl rfl,fun k a' b' ha hb=>h (k+1) a' b' (by simpa using ha) (by simpa using hb)⟩
def uA (xs bs:List Bd) (k:Nat):Prop:=∀ (j:Nat) (a b:Bd),j<k->xs[j]? = some a->bs[j]? = some b->wS a b=true
theorem uA.zero (xs bs:List Bd):uA xs bs 0:=fun j a b h=>by omega
theorem uA.next {xs bs:List Bd} {k:Nat} (h:uA xs bs k) {a b:Bd} (ha:xs[k]? = some a) (hb:bs[k]? = some b) (hab:wS a b=true):uA xs bs (k+1):=by
 intro j a' b' hj h1 h2
 rcases Nat.lt_or_ge j k with h' | h'
 ·exact h j a' b' h' h1 h2
 ·obtain rfl:j=k:=by omega
  rw [ha] at h1;rw [hb] at h2;simp at h1 h2;subst h1;subst h2;exact hab
theorem uA.all {xs bs:List Bd} (hl:xs.length=bs.length) (h:uA xs bs xs.length):yL xs bs=true :=
 (xb xs bs hl).2 fun k a b ha hb=>h k a b (List.getElem?_eq_some_iff.1 ha).1 ha hb
def lvOf:Bd->Nat
 | .leaf _=>0
 | .ask v _ _ _=>v
theorem encN_lv {F:Nat->Prop} {w:World} {b:Bd} {s v k y:Value} (h:zq F w (ke b) [s,v,k,y]):v=.int .i64 (lvOf b:Nat):=by
 cases b with
 | leaf c =>
   rw [ke] at h
   obtain ⟨_,_,e,h0,h⟩:=zP.1 h
   simp only [List.cons.injEq] at e;obtain ⟨rfl,rfl⟩:=e
   obtain ⟨_,_,e,h1,h⟩:=zP.1 h
   simp only [List.cons.injEq] at e;obtain ⟨rfl,rfl⟩:=e
   exact zo.1 h1
 | ask lv ss yb nb =>
   rw [ke] at h
   obtain ⟨_,_,e,h0,h⟩:=zP.1 h
   simp only [List.cons.injEq] at e;obtain ⟨rfl,rfl⟩:=e
   obtain ⟨_,_,e,h1,h⟩:=zP.1 h
   simp only [List.cons.injEq] at e;obtain ⟨rfl,rfl⟩:=e
   exact zo.1 h1
theorem uh (a b:Nat):((a:Int).tmod (b:Int))=((a % b:Nat):Int):=rfl
theorem p_ (a b:Nat):((a:Int).tdiv (b:Int))=((a / b:Nat):Int):=rfl
theorem ki (n:Nat) (h:n<9223372036854775808):IntKind.i64.wrap (n:Int)=(n:Int):=by
 simp [IntKind.wrap,IntKind.bits,IntKind.signed];omega
def qa (r:Nat):UInt8:=UInt8.ofNat (48+r)
def dec (n:Nat):Bs:=if n<10 then [qa n] else dec (n / 10)++[qa (n % 10)]
theorem qB {n:Nat} (h:n<10):dec n=[qa n]:=by rw [dec,if_pos h]
theorem uJ {n:Nat} (h:¬ n<10):dec n=dec (n / 10)++[qa (n % 10)]:=by rw [dec,if_neg h]
theorem jc (k:Nat):∀ n,n<10 ^ (k+1)->(dec n).length<=k+1:=by
 induction k with
 | zero=>intro n h;rw [qB (by simpa using h)];simp
 | succ k ih =>
   intro n h
   by_cases h10:n<10
   ·rw [qB h10];simp
   ·rw [uJ h10]
    have:=ih (n / 10) (by rw [Nat.div_lt_iff_lt_mul (by omega),<- Nat.pow_succ];exact h)
    simp;omega
theorem str_add (a b:Bs):(⟨a.toArray⟩:ByteArray)++(⟨b.toArray⟩:ByteArray)=⟨(a++b).toArray⟩:=by
 have h:((⟨a.toArray⟩:ByteArray)++(⟨b.toArray⟩:ByteArray)).data=(a++b).toArray:=by
  rw [ByteArray.data_append];simp
 cases hx:(⟨a.toArray⟩:ByteArray)++(⟨b.toArray⟩:ByteArray) with
 | mk d=>rw [hx] at h;simp at h;rw [h]
theorem km {P:Program} (a b:Bs) (h:a.length+b.length<=9223372036854775807) (w:World):(Op.stringOp .add ⟨a.toArray⟩ ⟨b.toArray⟩).run P w=.ok (str (a++b)) w:=by
 rw [run_string_add_sum w _ _ (by rw [xD,xD];exact h),str_add]
mutual
def qJ:Bd->Bs
 | .leaf c=>[c]
 | .ask v ss y n=>(((([40]++dec v++kj ss++[32])++qJ y)++[32])++qJ n)++[41]
def kj:List Bd->Bs
 | []=>[]
 | b::bs=>[32]++qJ b++kj bs
end
mutual
def lvB:Bd->Prop
 | .leaf _=>True
 | .ask v ss y n=>v<=10000/\v_ ss/\lvB y/\lvB n
def v_:List Bd->Prop
 | []=>True
 | b::bs=>lvB b/\v_ bs
end
theorem jm:∀ (xs ys:List Bd),kj (xs++ys)=kj xs++kj ys
 | [],ys=>by simp [kj]
 | x::xs,ys=>by simp [kj,jm xs ys]
theorem textBs_take {ts:List Bd} {k:Nat} {t:Bd} (h:ts[k]? = some t):kj (ts.take (k+1))=kj (ts.take k)++[32]++qJ t:=by
 rw [List.take_add_one,h,jm];simp [kj]
theorem lvBs_at:∀ (xs:List Bd),v_ xs->∀ (k:Nat) (t:Bd),xs[k]? = some t->lvB t
 | [],_,k,t,h=>by simp at h
 | x::xs,hl,k,t,h=>by
   rw [v_] at hl
   cases k with
   | zero=>simp at h;subst h;exact hl.1
   | succ k=>simp at h;exact lvBs_at xs hl.2 k t h
mutual
theorem qu:∀ (b:Bd),lvB b->(qJ b).length+1<=12*zp b
 | .leaf c,_=>by simp [qJ,zp]
 | .ask v ss y n,h=>by
   rw [lvB] at h
   have h1:=vd ss h.2.1
   have h2:=qu y h.2.2.1
   have h3:=qu n h.2.2.2
   have h4:(dec v).length<=5:=jc 4 v (by have:=h.1;omega)
   simp only [qJ,zp,List.length_append,List.length_cons,List.length_nil]
   omega
theorem vd:∀ (bs:List Bd),v_ bs->(kj bs).length<=12*zL bs
 | [],_=>by simp [kj]
 | b::bs,h=>by
   rw [v_] at h
   have h1:=qu b h.1
   have h2:=vd bs h.2
   simp only [kj,zL,List.length_append,List.length_cons,List.length_nil]
   omega
end
theorem pW (xs:List Bd) (k:Nat):(kj (xs.take k)).length<=(kj xs).length:=by
 have:=congrArg List.length (jm (xs.take k) (xs.drop k))
 rw [List.take_append_drop,List.length_append] at this
 omega
mutual
def yy:Ty->Bs
 | .mk ts=>textTs ts
def textTs:List Ty->Bs
 | []=>[98]
 | a::ts=>[40,62,32]++(yy a++([32]++(textTs ts++[41])))
end
theorem textT_nil:yy (.mk [])=[98]:=by rw [yy,textTs]
theorem textT_cons (a:Ty) (ts:List Ty):yy (.mk (a::ts))=[40,62,32]++(yy a++([32]++(yy (.mk ts)++[41]))):=by
 rw [yy,textTs,yy]
inductive Clo where
 | mk (b:Bd) (env:List Clo) (begun:Nat) (path:Bs)
def Clo.body:Clo->Bd | .mk b _ _ _=>b
def Clo.env:Clo->List Clo | .mk _ e _ _=>e
def Clo.begun:Clo->Nat | .mk _ _ n _=>n
def Clo.path:Clo->Bs | .mk _ _ _ p=>p
mutual
def cloFit:Clo->Ty->Prop
 | .mk b e _ _,t=>∃ h,envFit e h/\kB (h++t.args) b
def envFit:List Clo->List Ty->Prop
 | [],h=>h=[]
 | c::cs,h=>∃ t ts,h=t::ts/\cloFit c t/\envFit cs ts
end
end Go.Proofs.YtfedjhgaeikjmaaGreatDoor

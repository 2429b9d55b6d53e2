/- Walks of functions that the statement reaches, and plain words. No conditions. -/
import Derived.Lib.AtoiTie
import Derived.Laws.Concat
import Derived.Test.YtepgfdhkkjfmhabGreatDoorQ2
set_option linter.unusedVariables false
set_option linter.unusedSimpArgs false
set_option maxHeartbeats 10000000
namespace Go.Proofs.YtepgfdhkkjfmhabGreatDoor
open Go.RowKit
def xg (i:Nat) (o:Option (Nat×Nat)) (w:World) (en:Ending) (w':World):Prop :=
 ∃ (v:Nat) (k:Int),en=.returned (.tuple #[.int .i64 v,.int .i64 k])/\w=w'/\(o=none->k = -1)/\(∀ v' c,o=some (v',c)->v=v'/\k=((i+c:Nat):Int))
theorem l3Number_any (l:Bs) (hl:Lim l.length) (i:Nat) (hi:i<=l.length) (w:World) :
 Calls Tryz.prog 67 #[str l,.int .i64 i] w (xg i (qM (l.drop i)) w):=by
 have ct:=hl.le
 obtain ⟨ds,hds⟩:=zzM (kZ (l.drop i))
 have hd4:=yE (l.drop i)
 rw [<- hds] at hd4
 have h4:ds.length<=4:=hd4.1
 have hdl:i+ds.length<=l.length:=by have:=hd4.2;simp at this;omega
 have HDS:=g_ hds;clear hds hd4
 go_enter Tryz.func67,Tryz.ntmps67
 go_wp2_with fail
 go_loop [6,7] (fun n k=>∃ j:Nat,j<=ds.length/\k=.int .i64 ((i+j:Nat):Int)/\n=.int .i64 (qY (ds.take j):Nat)) (fun _ k=>i+ds.length-(intOf k).toNat)
 case atStart=>exact ⟨0,Nat.zero_le _,by simp,by simp [qY]⟩
 case round =>
  obtain ⟨j,hj,rfl,rfl⟩:=hrel
  by_cases bX:j<ds.length
  ·have mt:i+j<l.length:=by omega
   have bL:l[i+j]=ds[j]/\dig l[i+j]=true:=by
    have h1:=HDS.out;subst h1
    obtain ⟨hm,e1,e2⟩:=digsOf_at bX
    rw [List.getElem_drop] at e1 e2
    exact ⟨e1,e2⟩
   have b1:(48:Int)<=((((⟨l.toArray⟩:ByteArray)[i+j]'(zy mt)).toNat:Int))/\((((⟨l.toArray⟩:ByteArray)[i+j]'(zy mt)).toNat:Int))<=57:=by
    have h2:=bL.2
    simp [dig,UInt8.le_iff_toNat_le] at h2
    rw [vX mt];omega
   obtain ⟨b1,b2⟩:=b1
   have hv:qY (ds.take j)<=9999:=by
    have h1:=valOf_lt (ds.take j) (fun c hc=>j1 _ c (by have:=HDS.out;rw [<- this];exact List.mem_of_mem_take hc))
    have h2:10 ^ (ds.take j).length<=10 ^ 4:=Nat.pow_le_pow_right (by omega) (by simp;omega)
    omega
   have hs:=valOf_take bX
   have dD:(qY (ds.take (j+1)):Int)=10*(qY (ds.take j):Int)+(((((⟨l.toArray⟩:ByteArray)[i+j]'(zy mt)).toNat:Int))-48):=by
    rw [vX mt] at b1 ⊢;rw [hs,bL.1] at *;omega
   have HS:=g_ dD
   have j4:j<4:=by omega
   clear hs dD bL
   go_wp2_with fail
   go_round
   case rel=>exact ⟨j+1,by omega,by go_num,by rw [HS.out]⟩
   case measure=>simp [intOf];omega
  ·obtain rfl:j=ds.length:=by omega
   have ez:ds.length=4\/i+ds.length=l.length\/∃ h:i+ds.length<l.length,dig l[i+ds.length]=false:=by
    have h1:=HDS.out;subst h1
    rcases digsOf_end (m:=l.drop i) with h | h | ⟨h,h2⟩
    ·exact .inl h
    ·right;left;simp at h;omega
    ·right;right;simp at h;refine ⟨by omega,?_⟩;rw [List.getElem_drop] at h2;exact h2
   have HV:qM (l.drop i)=(if ds=[]\/(1<ds.length/\(l.drop i).head? = some 48) then none else some (qY ds,ds.length)):=by
    unfold qM;rw [<- HDS.out]
   have eJ:4<=ds.length\/l.length<=i+ds.length\/(∃ h:i+ds.length<l.length,((((⟨l.toArray⟩:ByteArray)[i+ds.length]'(zy h)).toNat:Int))<48)\/(∃ h:i+ds.length<l.length,(57:Int)<((((⟨l.toArray⟩:ByteArray)[i+ds.length]'(zy h)).toNat:Int))):=by
    rcases ez with h | h | ⟨h,h2⟩
    ·exact .inl (by omega)
    ·exact .inr (.inl (by omega))
    ·simp [dig,UInt8.le_iff_toNat_le] at h2
     by_cases hc:l[i+ds.length].toNat<48
     ·exact .inr (.inr (.inl ⟨h,by rw [vX h];omega⟩))
     ·exact .inr (.inr (.inr ⟨h,by rw [vX h];have:=h2 (by omega);omega⟩))
   clear ez
   rw [List.take_length]
   rcases (by omega:ds.length=0\/ds.length=1\/2<=ds.length) with hn | hn | hn
   ·have e0:((i:Int)+(ds.length:Int) == (i:Int))=true:=by rw [beq_iff_eq];omega
    have fin:xg i (qM (l.drop i)) w (.returned (.tuple #[.int .i64 0,.int .i64 (-1)])) w:=by
     have eV:ds=[]:=List.eq_nil_of_length_eq_zero hn
     refine ⟨0,-1,rfl,rfl,fun _=>rfl,fun v c h=>?_⟩
     rw [HV,if_pos (.inl eV)] at h;simp at h
    have HF:=g_ fin;have rh:(ds.length:Int)<=0:=by omega
    clear fin HV hn
    rcases eJ with h | h | ⟨h,h2⟩ | ⟨h,h2⟩
    all_goals
     go_wp2_with fail
     all_goals (go_ret2;exact HF.out)
   ·have e0:((i:Int)+(ds.length:Int) == (i:Int))=false:=by rw [beq_eq_false_iff_ne];omega
    have n1:¬ 1<ds.length:=by omega
    have fin:xg i (qM (l.drop i)) w (.returned (.tuple #[.int .i64 (qY ds:Nat),.int .i64 ((i:Int)+(ds.length:Int))])) w:=by
     have eV:¬ (ds=[]\/(1<ds.length/\(l.drop i).head? = some 48)):=by
      rintro (h | h)
      ·rw [h] at hn;simp at hn
      ·omega
     refine ⟨_,_,rfl,rfl,fun h=>?_,fun v c h=>?_⟩
     ·rw [HV,if_neg eV] at h;simp at h
     ·rw [HV,if_neg eV] at h;simp at h;exact ⟨h.1,by omega⟩
    have HF:=g_ fin;have cr:1<=ds.length:=by omega
    clear fin HV hn
    rcases eJ with h | h | ⟨h,h2⟩ | ⟨h,h2⟩
    all_goals
     go_wp2_with fail
     all_goals (go_ret2;exact HF.out)
   ·have e0:((i:Int)+(ds.length:Int) == (i:Int))=false:=by rw [beq_eq_false_iff_ne];omega
    have n1:1<ds.length:=by omega
    have ro:i<l.length:=by rcases eJ with h | h | ⟨h,h2⟩ | ⟨h,h2⟩ <;> omega
    have nd:(l.drop i).head? = some l[i]:=by rw [List.head?_drop];simp [ro]
    have hdn:ds≠[]:=by intro h;rw [h] at hn;simp at hn
    by_cases fK:l[i]=48
    ·have f1:=vy ro (n:=48) (by decide) fK
     have fin:xg i (qM (l.drop i)) w (.returned (.tuple #[.int .i64 0,.int .i64 (-1)])) w:=by
      refine ⟨0,-1,rfl,rfl,fun _=>rfl,fun v c h=>?_⟩
      rw [HV,if_pos (.inr ⟨n1,by rw [nd,fK]⟩)] at h;simp at h
     have HF:=g_ fin;clear fin HV nd fK
     rcases eJ with h | h | ⟨h,h2⟩ | ⟨h,h2⟩
     all_goals
      go_wp2_with fail
      all_goals (go_ret2;exact HF.out)
    ·have f1:=jU ro (n:=48) (by decide) fK
     have fin:xg i (qM (l.drop i)) w (.returned (.tuple #[.int .i64 (qY ds:Nat),.int .i64 ((i:Int)+(ds.length:Int))])) w:=by
      have eV:¬ (ds=[]\/(1<ds.length/\(l.drop i).head? = some 48)):=by
       rintro (h | h)
       ·exact hdn h
       ·rw [nd] at h;exact fK (Option.some.inj h.2)
      refine ⟨_,_,rfl,rfl,fun h=>?_,fun v c h=>?_⟩
      ·rw [HV,if_neg eV] at h;simp at h
      ·rw [HV,if_neg eV] at h;simp at h;exact ⟨h.1,by omega⟩
     have HF:=g_ fin;clear fin HV nd fK
     rcases eJ with h | h | ⟨h,h2⟩ | ⟨h,h2⟩
     all_goals
      go_wp2_with fail
      all_goals (go_ret2;exact HF.out)
mutual
def qk:Bd->List DV
 | .leaf c=>[.val (str [c]),.val (.int .i64 (0:Nat)),.sl 43 4 0 [],.sl 43 4 0 []]
 | .ask v ss y n=>[.val (str []),.val (.int .i64 v),.sl 43 4 ss.length (kt ss),.sl 43 4 2 (qk y++(qk n++[]))]
def kt:List Bd->List DV
 | []=>[]
 | b::bs=>qk b++kt bs
end
theorem wo (b:Bd):(qk b).length=4:=by cases b <;> simp [qk]
theorem encNs_length (bs:List Bd):(kt bs).length=bs.length*4:=by
 induction bs with
 | nil=>simp [kt]
 | cons b bs ih=>simp [kt,wo,ih];omega
theorem jJ (a b:List Bd):kt (a++b)=kt a++kt b:=by
 induction a with
 | nil=>simp [kt]
 | cons t ts ih=>simp [kt,ih,List.append_assoc]
theorem gz (v:Nat) (ss:List Bd) (y n:Bd):qk (.ask v ss y n)=[.val (str []),.val (.int .i64 v),.sl 43 4 ss.length (kt ss),.sl 43 4 2 (kt [y,n])]:=by
 simp [qk,kt]
theorem Tryz.infoN:(Tryz.prog.info? 43).map (fun i=>(i.zero,i.size,i.bytes))=some (some (.agg #[str [],.int .i64 0,.slice none 0 0,.slice none 0 0]),4,72):=by kernel_rfl
def jG (L:Nat) (w:World) (o:Option (Bd×Bs)) (en:Ending) (w':World):Prop :=
 ∃ (s:Bs) (v:Int) (a2:Option Addr) (n2 k2:Nat) (a3:Option Addr) (n3 k3:Nat) (k:Int),en=.returned (.tuple #[.agg #[str s,.int .i64 v,.slice a2 n2 k2,.slice a3 n3 k3],.int .i64 k])/\Below w.heap.size w w'/\(o=none->k = -1) /\
   (∀ b rest,o=some (b,rest)->k=(L:Int)-rest.length/\zC (w.heap.size<=·) w' (qk b) [str s,.int .i64 v,.slice a2 n2 k2,.slice a3 n3 k3])
theorem jG.no {L:Nat} {w w':World} {o:Option (Bd×Bs)} (ho:o=none) (hb:Below w.heap.size w w') :
 jG L w o (.returned (.tuple #[.agg #[str [],.int .i64 0,.slice none 0 0,.slice none 0 0],.int .i64 (-1)])) w' :=
 ⟨[],0,none,0,0,none,0,0,_,rfl,hb,fun _=>rfl,fun _ _ h=>by rw [ho] at h;simp at h⟩
theorem jG.yes {L:Nat} {w w':World} {o:Option (Bd×Bs)} {b:Bd} {rest:Bs} {s:Bs} {v:Int} {a2:Option Addr} {n2 k2:Nat} {a3:Option Addr} {n3 k3:Nat} {k:Int} (ho:o=some (b,rest)) (hk:k=(L:Int)-rest.length) (hb:Below w.heap.size w w') (hv:zC (w.heap.size<=·) w' (qk b) [str s,.int .i64 v,.slice a2 n2 k2,.slice a3 n3 k3]) :
 jG L w o (.returned (.tuple #[.agg #[str s,.int .i64 v,.slice a2 n2 k2,.slice a3 n3 k3],.int .i64 k])) w' :=
 ⟨s,v,a2,n2,k2,a3,n3,k3,k,rfl,hb,fun h=>by rw [ho] at h;simp at h,fun _ _ h=>by rw [ho] at h;simp at h;obtain ⟨rfl,rfl⟩:=h;exact ⟨hk,hv⟩⟩
def NodeSaid (l:Bs) (e d:Nat):Prop:=∀ (F:Nat->Prop) (hand:List Ty) (hv:Value) (i:Nat) (w:World),i<=l.length->qV e hand ->
    Rep F w (.sl 35 1 hand.length (qT hand)) hv ->
    Calls Tryz.prog 44 #[str l,.int .i64 i,hv,.int .i64 d] w (jG l.length w (rdN e hand (l.drop i)))
theorem leaf_reps (F:Nat->Prop) (w:World) (c:UInt8):zC F w (qk (.leaf c)) [str [c],.int .i64 0,.slice none 0 0,.slice none 0 0]:=by
 have hz:Rep F w (.sl 43 4 0 []) (.slice none 0 0):=kD.2 ⟨rfl,none,0,rfl,hG _,fun _=>rfl,.inl rfl⟩
 rw [qk]
 exact zJ.2 ⟨_,_,rfl,zj.2 rfl,zJ.2 ⟨_,_,rfl,zj.2 rfl,zJ.2 ⟨_,_,rfl,hz,zJ.2 ⟨_,_,rfl,hz,zM.2 rfl⟩⟩⟩⟩
theorem rdN_leaf (e:Nat) (hand:List Ty) {l:Bs} {i:Nat} (h:i<l.length) (hc:l[i]=116\/l[i]=102\/l[i]=117):rdN (e+1) hand (l.drop i)=some (.leaf l[i],l.drop (i+1)):=by
 rw [List.drop_eq_getElem_cons h,rdN];simp only [if_pos hc]
theorem rdN_other (e:Nat) (hand:List Ty) {l:Bs} {i:Nat} (h:i<l.length) (hc:¬ (l[i]=116\/l[i]=102\/l[i]=117)) (bf:¬ l[i]=40):rdN (e+1) hand (l.drop i)=none:=by
 rw [List.drop_eq_getElem_cons h,rdN];simp only [if_neg hc,if_pos bf]
theorem rdN_40 (e:Nat) (hand:List Ty) {l:Bs} {i:Nat} (h:i<l.length) (bf:l[i]=40):rdN (e+1) hand (l.drop i)=(match qM (l.drop (i+1)) with
 | none=>none
 | some (v,k)=>match hand[v]? with
   | none=>none
   | some t=>do
     let (ps,l1)<-zP (rdN e) (k_ hand t) ((l.drop (i+1)).drop k)
     let l2<-cut [41] l1
     let b<-uv v t.args.length ps
     some (b,l2)):=by
 rw [List.drop_eq_getElem_cons h,rdN]
 rw [if_neg (by rw [bf];decide),if_neg (by simpa using bf)]
 try rfl
theorem xD (l:Bs) (hl:Lim l.length) (e d:Nat) (fD:e+d=101) (F:Nat->Prop) (hand:List Ty) (hv:Value) (i:Nat) (w:World) (hi:i<=l.length)
 (hr:Rep F w (.sl 35 1 hand.length (qT hand)) hv) (cB:∀ h:i<l.length,e=0\/¬ l[i]=40) :
 Calls Tryz.prog 44 #[str l,.int .i64 i,hv,.int .i64 d] w (jG l.length w (rdN e hand (l.drop i))):=by
 have ct:=hl.le
 obtain ⟨a0,c0,e0,_⟩:=zF hr
 subst e0
 rcases e with _ | e
 ·have hd1:(100:Int)<(d:Int):=by omega
  clear cB
  go_enter Tryz.func44,Tryz.ntmps44
  go_wp2_with fail
  refine bodyPost_ret (v:=.tuple #[.agg #[str [],.int .i64 0,.slice none 0 0,.slice none 0 0],.int .i64 (-1)]) (by simp [results,Tryz.results44,go_sem]) rfl ?_
  exact jG.no (by rfl) (by repeat (first | exact bZ _ _ | refine Below.alloc ?_ (hG _) _ | refine Below.setCell ?_ (by simp) _))
 have eV:¬ (100:Int)<(d:Int):=by omega
 by_cases bX:i<l.length
 rotate_left
 ·clear cB
  go_enter Tryz.func44,Tryz.ntmps44
  go_wp2_with fail
  refine bodyPost_ret (v:=.tuple #[.agg #[str [],.int .i64 0,.slice none 0 0,.slice none 0 0],.int .i64 (-1)]) (by simp [results,Tryz.results44,go_sem]) rfl ?_
  exact jG.no (by rw [List.drop_eq_nil_of_le (by omega)];rfl) (by repeat (first | exact bZ _ _ | refine Below.alloc ?_ (hG _) _ | refine Below.setCell ?_ (by simp) _))
 have bf:¬ l[i]=40:=(cB bX).resolve_left (by omega)
 clear cB
 by_cases mM:l[i]=116\/l[i]=102\/l[i]=117
 ·have HM:=g_ (rdN_leaf e hand bX mM)
  have hx:((⟨l.toArray⟩:ByteArray).extract i (i+1))=⟨#[l[i]]⟩:=by
   rw [yD];congr 1
   rw [List.drop_take,List.drop_eq_getElem_cons bX,show i+1-i=1 from by omega];rfl
  have HX:=g_ hx;clear hx
  have fin:∀ w':World,Below w.heap.size w w'->jG l.length w (rdN (e+1) hand (l.drop i)) (.returned (.tuple #[.agg #[.string ((⟨l.toArray⟩:ByteArray).extract i (i+1)),.int .i64 0,.slice none 0 0,.slice none 0 0],.int .i64 ((i:Int)+1)])) w':=by
   intro w' hb
   rw [HX.out]
   exact jG.yes (s:=[l[i]]) HM.out (by simp;omega) hb (leaf_reps _ _ _)
  have FIN:=g_ fin;clear fin
  have key:((((⟨l.toArray⟩:ByteArray)[i]'(zy bX)).toNat:Int) == 116)=true\/((((((⟨l.toArray⟩:ByteArray)[i]'(zy bX)).toNat:Int) == 116)=false/\((((⟨l.toArray⟩:ByteArray)[i]'(zy bX)).toNat:Int) == 102)=true))\/((((((⟨l.toArray⟩:ByteArray)[i]'(zy bX)).toNat:Int) == 116)=false/\((((⟨l.toArray⟩:ByteArray)[i]'(zy bX)).toNat:Int) == 102)=false/\((((⟨l.toArray⟩:ByteArray)[i]'(zy bX)).toNat:Int) == 117)=true)):=by
   rcases mM with h | h | h
   ·exact .inl (vy bX (n:=116) (by decide) h)
   ·exact .inr (.inl ⟨jU bX (c:=116) (n:=116) (by decide) (by rw [h];decide),vy bX (n:=102) (by decide) h⟩)
   ·exact .inr (.inr ⟨jU bX (c:=116) (n:=116) (by decide) (by rw [h];decide),jU bX (c:=102) (n:=102) (by decide) (by rw [h];decide),vy bX (n:=117) (by decide) h⟩)
  clear mM bf HM HX
  rcases key with f1 | ⟨f1,f2⟩ | ⟨f1,f2,f3⟩
  all_goals
   go_enter Tryz.func44,Tryz.ntmps44
   go_wp2_with fail
   refine bodyPost_ret (v:=.tuple #[.agg #[.string ((⟨l.toArray⟩:ByteArray).extract i (i+1)),.int .i64 0,.slice none 0 0,.slice none 0 0],.int .i64 ((i:Int)+1)]) (by simp [results,Tryz.results44,go_sem]) rfl ?_
   exact FIN.out _ (by repeat (first | exact bZ _ _ | refine Below.alloc ?_ (hG _) _ | refine Below.setCell ?_ (by simp) _))
 have HM:=g_ (rdN_other e hand bX mM bf)
 have f1:=jU bX (n:=116) (by decide) (fun h=>mM (.inl h))
 have f2:=jU bX (n:=102) (by decide) (fun h=>mM (.inr (.inl h)))
 have f3:=jU bX (n:=117) (by decide) (fun h=>mM (.inr (.inr h)))
 have f4:=qv bX (n:=40) (by decide) bf
 clear mM bf
 go_enter Tryz.func44,Tryz.ntmps44
 go_wp2_with fail
 refine bodyPost_ret (v:=.tuple #[.agg #[str [],.int .i64 0,.slice none 0 0,.slice none 0 0],.int .i64 (-1)]) (by simp [results,Tryz.results44,go_sem]) rfl ?_
 exact jG.no HM.out (by repeat (first | exact bZ _ _ | refine Below.alloc ?_ (hG _) _ | refine Below.setCell ?_ (by simp) _))
def kR (ob:Nat) (v:Int) (kslv yslv:Value) (w:World):Prop:=w.heap[ob]? = some (.cells #[str [],.int .i64 v,kslv,yslv] 43 (0,0))
theorem kR.cells {ob:Nat} {v:Int} {ks ys:Value} {w:World} (h:kR ob v ks ys w):w.cell? ⟨ob,0,none⟩=some (str [])/\w.cell? ⟨ob,1,none⟩=some (.int .i64 v)/\w.cell? ⟨ob,2,none⟩=some ks/\w.cell? ⟨ob,3,none⟩=some ys/\ob<w.heap.size/\(∀ o,w.frozen? ⟨ob,o,none⟩=false):=by
 have hl:=zZ h
 unfold kR at h
 exact ⟨by simp [World.cell?,h],by simp [World.cell?,h],by simp [World.cell?,h],by simp [World.cell?,h],hl,fun o=>by simp [World.frozen?,h]⟩
theorem kR.put2 {ob:Nat} {v:Int} {ks ys u:Value} {w:World} (h:kR ob v ks ys w):kR ob v u ys (w.setCell ⟨ob,2,none⟩ u):=by
 unfold kR;rw [zh h];rfl
theorem kR.put3 {ob:Nat} {v:Int} {ks ys u:Value} {w:World} (h:kR ob v ks ys w):kR ob v ks u (w.setCell ⟨ob,3,none⟩ u):=by
 unfold kR;rw [zh h];rfl
theorem kR.but {ob:Nat} {v:Int} {ks ys:Value} {m:Nat->Prop} {w w':World} (h:kR ob v ks ys w) (hb:But m w w') (hm:¬ m ob):kR ob v ks ys w':=by
 unfold kR;rw [hb.block ob (zZ h) hm];exact h
theorem kR.below {ob:Nat} {v:Int} {ks ys:Value} {w w':World} {B:Nat} (h:kR ob v ks ys w) (hb:Below B w w') (hm:ob<B):kR ob v ks ys w':=by
 unfold kR;rw [hb.block ob hm];exact h
theorem kR.store {ob:Nat} {v:Int} {ks ys:Value} {w:World} (h:kR ob v ks ys w) (u0 u1 u2 u3:Value) :
 ∃ W,W=((((w.setCell ⟨ob,0,none⟩ u0).setCell ⟨ob,1,none⟩ u1).setCell ⟨ob,2,none⟩ u2).setCell ⟨ob,3,none⟩ u3) /\
   W.cell? ⟨ob,0,none⟩=some u0/\W.cell? ⟨ob,1,none⟩=some u1/\W.cell? ⟨ob,2,none⟩=some u2/\W.cell? ⟨ob,3,none⟩=some u3 /\
   (∀ B w0,Below B w0 w->B<=ob->Below B w0 W)/\(∀ i x,i≠ob->w.heap[i]? = some x->W.heap[i]? = some x):=by
 have hc:((((w.setCell ⟨ob,0,none⟩ u0).setCell ⟨ob,1,none⟩ u1).setCell ⟨ob,2,none⟩ u2).setCell ⟨ob,3,none⟩ u3).heap[ob]? = some (.cells #[u0,u1,u2,u3] 43 (0,0)):=by
  unfold kR at h
  rw [zh (zh (zh (zh h)))];rfl
 refine ⟨_,rfl,by simp only [World.cell?,hc];rfl,by simp only [World.cell?,hc];rfl,by simp only [World.cell?,hc];rfl,by simp only [World.cell?,hc];rfl,fun B w0 hb hB=>?_,fun i x hi hx=>?_⟩
 ·exact ((((hb.setCell (p:=⟨ob,0,none⟩) hB _).setCell (p:=⟨ob,1,none⟩) hB _).setCell (p:=⟨ob,2,none⟩) hB _).setCell (p:=⟨ob,3,none⟩) hB _)
 ·rw [bQ _ _ _ _ (by simpa using hi),bQ _ _ _ _ (by simpa using hi),bQ _ _ _ _ (by simpa using hi),bQ _ _ _ _ (by simpa using hi)];exact hx
structure yi (l:Bs) (w:World) (rd:RdS) (hs:List (List Ty)) (n i0 ob Z v:Nat) (k en:Nat) (wr:World) (ps:List Bd) (kv yv:List Value) (ks:Value) (nk:Nat) (ys:Value) (ny:Nat):Prop where
 hnk:nk=min k n
 hny:ny=k-n
 ksl:∃ a c,ks=.slice a nk c
 ysl:∃ a c,ys=.slice a ny c
 spec:zP rd (hs.take k) (l.drop i0)=some (ps,l.drop en)
 len:ps.length=k
 en:en<=l.length
 below:Below w.heap.size w wr
 res:kR w.heap.size 0 (.slice none 0 0) (.slice none 0 0) wr
 out:kR ob v ks ys wr
 ownK:Own wr 43 4 ks nk kv
 ownY:Own wr 43 4 ys ny yv
 blkK:∀ g,ks.ownBlock=some g->Z<=g/\ys.ownBlock≠some g
 blkY:∀ g,ys.ownBlock=some g->Z<=g
 repK:zC (fun b=>Z<=b/\ks.ownBlock≠some b/\ys.ownBlock≠some b) wr (kt (ps.take n)) kv
 repY:zC (fun b=>Z<=b/\ks.ownBlock≠some b/\ys.ownBlock≠some b) wr (kt (ps.drop n)) yv
 z:Z<=wr.heap.size
theorem yi.kid {l:Bs} {w:World} {rd:RdS} {hs:List (List Ty)} {n i0 ob Z v k en:Nat} {wr:World} {ps:List Bd} {kv yv:List Value} {ks ys:Value} {nk ny:Nat}
 (h:yi l w rd hs n i0 ob Z v k en wr ps kv yv ks nk ys ny) (hk:k<n) (d7:ob<Z) (hwo:w.heap.size<ob) {W w7:World} {b:Bd} {cs:List Value} {a':Option Addr} {c' cV:Nat}
 (bW:Below wr.heap.size wr W) (hcs:zC (wr.heap.size<=·) W (qk b) cs) (bG:Own w7 43 4 (.slice a' (nk+1) c') (nk+1) (kv++cs)) (bB:But (fun i=>ks.ownBlock=some i) W w7)
 (b9:∀ g,(Value.slice a' (nk+1) c').ownBlock=some g->ks.ownBlock=some g\/g=W.heap.size)
 (fO:zP rd (hs.take (k+1)) (l.drop i0)=some (ps++[b],l.drop cV)) (mi:cV<=l.length) :
 yi l w rd hs n i0 ob Z v (k+1) cV (w7.setCell ⟨ob,2,none⟩ (.slice a' (nk+1) c')) (ps++[b]) (kv++cs) yv (.slice a' (nk+1) c') (nk+1) ys ny:=by
 have z6:=bW.size
 have z7:=bB.size
 have zr:=h.z
 have bP:=h.len
 have keep:∀ i x,wr.heap[i]? = some x->ks.ownBlock≠some i->i≠ob->(w7.setCell ⟨ob,2,none⟩ (.slice a' (nk+1) c')).heap[i]? = some x:=by
  intro i x hx h1 h2
  have:=zZ hx
  rw [bQ _ _ _ _ (by simpa using h2),bB.block i (by omega) h1,bW.block i this];exact hx
 have cI:∀ i x,W.heap[i]? = some x->ks.ownBlock≠some i->i≠ob->(w7.setCell ⟨ob,2,none⟩ (.slice a' (nk+1) c')).heap[i]? = some x:=by
  intro i x hx h1 h2
  have:=zZ hx
  rw [bQ _ _ _ _ (by simpa using h2),bB.block i (by omega) h1];exact hx
 have ltK:∀ g,ks.ownBlock=some g->g<wr.heap.size:=fun g hg=>h.ownK.lt hg
 have ltY:∀ g,ys.ownBlock=some g->g<wr.heap.size:=fun g hg=>h.ownY.lt hg
 have nK:∀ i,i<Z->ks.ownBlock≠some i:=fun i hi e=>by have:=(h.blkK i e).1;omega
 have newg:∀ g,(Value.slice a' (nk+1) c').ownBlock=some g->Z<=g:=fun g hg=>by
  rcases b9 g hg with e | e
  ·exact (h.blkK g e).1
  ·omega
 refine ⟨by rw [h.hnk];omega,by rw [h.hny];omega,⟨_,_,rfl⟩,h.ysl,fO,by simp [bP],mi,?_,?_,?_,?_,?_,?_,h.blkY,?_,?_,by simp [World.setCell];omega⟩
 ·refine Below.setCell ?_ (show w.heap.size<=ob by omega) _
  exact (zzT h.below bW).trans (bB.toBelow (by have:=h.below.size;omega) fun i hi e=>nK i (by omega) e)
 ·exact keep _ _ h.res (nK _ (by omega)) (by omega)
 ·have h1:kR ob v ks ys w7:=by
   unfold kR;rw [bB.block ob (by omega) (nK _ d7),bW.block ob (by omega)];exact h.out
  exact h1.put2
 ·exact bG.keep fun g o hg ho=>by rw [bQ _ _ _ _ (by have:=newg g hg;simp;omega)];exact ho
 ·exact h.ownY.keep fun g o hg ho=>keep g o ho (fun e=>(h.blkK g e).2 hg) (by have:=h.blkY g hg;omega)
 ·intro g hg
  refine ⟨newg g hg,fun e=>?_⟩
  rcases b9 g hg with e' | e'
  ·exact (h.blkK g e').2 e
  ·have:=ltY g e;omega
 ·rw [List.take_of_length_le (by simp;omega),jJ]
  have h1:=h.repK
  rw [List.take_of_length_le (by omega)] at h1
  refine zC.append ((Rep.keep fun i x hi hx=>⟨⟨hi.1,fun e=>(b9 i e).elim (fun e'=>hi.2.1 e') (fun e'=>by have:=zZ hx;omega),hi.2.2⟩,keep i x hx hi.2.1 (by have:=hi.1;omega)⟩).2 _ _ h1) ?_
  ·have e1:kt [b]=qk b:=by simp [kt]
   rw [e1]
   refine (Rep.keep fun i x hi hx=>?_).2 _ _ hcs
   have h2:=zZ hx
   have h3:wr.heap.size<=i:=hi
   refine ⟨⟨by omega,fun e=>?_,fun e=>by have:=ltY i e;omega⟩,cI i x hx (fun e=>by have:=ltK i e;omega) (by omega)⟩
   rcases b9 i e with e' | e'
   ·have:=ltK i e';omega
   ·omega
 ·have h1:=h.repY
  rw [List.drop_eq_nil_of_le (by omega)] at h1
  rw [List.drop_eq_nil_of_le (by simp;omega)]
  have:yv=[]:=by simpa [kt,zM] using h1
  subst this;exact zM.2 rfl
theorem yi.yes {l:Bs} {w:World} {rd:RdS} {hs:List (List Ty)} {n i0 ob Z v k en:Nat} {wr:World} {ps:List Bd} {kv yv:List Value} {ks ys:Value} {nk ny:Nat}
 (h:yi l w rd hs n i0 ob Z v k en wr ps kv yv ks nk ys ny) (hk:n<=k) (d7:ob<Z) (hwo:w.heap.size<ob) {W w7:World} {b:Bd} {cs:List Value} {a':Option Addr} {c' cV:Nat}
 (bW:Below wr.heap.size wr W) (hcs:zC (wr.heap.size<=·) W (qk b) cs) (bG:Own w7 43 4 (.slice a' (ny+1) c') (ny+1) (yv++cs)) (bB:But (fun i=>ys.ownBlock=some i) W w7)
 (b9:∀ g,(Value.slice a' (ny+1) c').ownBlock=some g->ys.ownBlock=some g\/g=W.heap.size)
 (fO:zP rd (hs.take (k+1)) (l.drop i0)=some (ps++[b],l.drop cV)) (mi:cV<=l.length) :
 yi l w rd hs n i0 ob Z v (k+1) cV (w7.setCell ⟨ob,3,none⟩ (.slice a' (ny+1) c')) (ps++[b]) kv (yv++cs) ks nk (.slice a' (ny+1) c') (ny+1):=by
 have z6:=bW.size
 have z7:=bB.size
 have zr:=h.z
 have bP:=h.len
 have keep:∀ i x,wr.heap[i]? = some x->ys.ownBlock≠some i->i≠ob->(w7.setCell ⟨ob,3,none⟩ (.slice a' (ny+1) c')).heap[i]? = some x:=by
  intro i x hx h1 h2
  have:=zZ hx
  rw [bQ _ _ _ _ (by simpa using h2),bB.block i (by omega) h1,bW.block i this];exact hx
 have cI:∀ i x,W.heap[i]? = some x->ys.ownBlock≠some i->i≠ob->(w7.setCell ⟨ob,3,none⟩ (.slice a' (ny+1) c')).heap[i]? = some x:=by
  intro i x hx h1 h2
  have:=zZ hx
  rw [bQ _ _ _ _ (by simpa using h2),bB.block i (by omega) h1];exact hx
 have ltK:∀ g,ks.ownBlock=some g->g<wr.heap.size:=fun g hg=>h.ownK.lt hg
 have ltY:∀ g,ys.ownBlock=some g->g<wr.heap.size:=fun g hg=>h.ownY.lt hg
 have nY:∀ i,i<Z->ys.ownBlock≠some i:=fun i hi e=>by have:=h.blkY i e;omega
 have newg:∀ g,(Value.slice a' (ny+1) c').ownBlock=some g->Z<=g:=fun g hg=>by
  rcases b9 g hg with e | e
  ·exact h.blkY g e
  ·omega
 refine ⟨by rw [h.hnk];omega,by rw [h.hny];omega,h.ksl,⟨_,_,rfl⟩,fO,by simp [bP],mi,?_,?_,?_,?_,?_,?_,newg,?_,?_,by simp [World.setCell];omega⟩
 ·refine Below.setCell ?_ (show w.heap.size<=ob by omega) _
  exact (zzT h.below bW).trans (bB.toBelow (by have:=h.below.size;omega) fun i hi e=>nY i (by omega) e)
 ·exact keep _ _ h.res (nY _ (by omega)) (by omega)
 ·have h1:kR ob v ks ys w7:=by
   unfold kR;rw [bB.block ob (by omega) (nY _ d7),bW.block ob (by omega)];exact h.out
  exact h1.put3
 ·exact h.ownK.keep fun g o hg ho=>keep g o ho (h.blkK g hg).2 (by have:=(h.blkK g hg).1;omega)
 ·exact bG.keep fun g o hg ho=>by rw [bQ _ _ _ _ (by have:=newg g hg;simp;omega)];exact ho
 ·intro g hg
  refine ⟨(h.blkK g hg).1,fun e=>?_⟩
  rcases b9 g e with e' | e'
  ·exact (h.blkK g hg).2 e'
  ·have:=ltK g hg;omega
 ·rw [List.take_append_of_le_length (by omega)]
  refine (Rep.keep fun i x hi hx=>⟨⟨hi.1,hi.2.1,fun e=>?_⟩,keep i x hx hi.2.2 (by have:=hi.1;omega)⟩).2 _ _ h.repK
  rcases b9 i e with e' | e'
  ·exact hi.2.2 e'
  ·have:=zZ hx;omega
 ·rw [List.drop_append_of_le_length (by omega),jJ]
  refine zC.append ((Rep.keep fun i x hi hx=>⟨⟨hi.1,hi.2.1,fun e=>(b9 i e).elim (fun e'=>hi.2.2 e') (fun e'=>by have:=zZ hx;omega)⟩,keep i x hx hi.2.2 (by have:=hi.1;omega)⟩).2 _ _ h.repY) ?_
  ·have e1:kt [b]=qk b:=by simp [kt]
   rw [e1]
   refine (Rep.keep fun i x hi hx=>?_).2 _ _ hcs
   have h2:=zZ hx
   have h3:wr.heap.size<=i:=hi
   refine ⟨⟨by omega,fun e=>by have:=ltK i e;omega,fun e=>?_⟩,cI i x hx (fun e=>by have:=ltY i e;omega) (by omega)⟩
   rcases b9 i e with e' | e'
   ·have:=ltY i e';omega
   ·omega
theorem zp.lit4 {w:World} {e:TypeId} (cs:Array Value) (hn:cs.size=4) (hc:∀ u∈cs.toList,u.oneCell'=true) (g:Nat) (hg:g=w.heap.size):zp 4 (.slice (some ⟨g,0,none⟩) 1 1) 1 cs.toList (w.alloc (.cells cs e)):=by
 subst hg
 refine ⟨by simp [hn],hc,.inl ⟨_,_,rfl,fun j u hu=>?_⟩⟩
 unfold Addr.add
 split
 ·subst j;simp;simpa using hu
 ·simp;simpa using hu
def NodeRel (l:Bs) (w:World) (rd:RdS) (hs:List (List Ty)) (n i0 ob Z v:Nat) (k en:Nat) (wr:World):Prop :=
 ∃ ps kv yv ks nk ys ny,yi l w rd hs n i0 ob Z v k en wr ps kv yv ks nk ys ny
set_option maxRecDepth 100000 in
theorem l3Read_ask (l:Bs) (hl:Lim l.length) (e d:Nat) (fD:e+1+d=101) (ih:NodeSaid l e (d+1)) (F:Nat->Prop) (hand:List Ty) (hv:Value) (i:Nat) (w:World) (hi:i<l.length) (hh:qV (e+1) hand)
 (hr:Rep F w (.sl 35 1 hand.length (qT hand)) hv) (bf:l[i]=40) :
 Calls Tryz.prog 44 #[str l,.int .i64 i,hv,.int .i64 d] w (jG l.length w (rdN (e+1) hand (l.drop i))):=by
 have ct:=hl.le
 have IH:=g_ ih;clear ih
 have bP:hand.length<=10000:=by have:=hh.2;omega
 have eV:¬ (100:Int)<(d:Int):=by omega
 have HM:=g_ (rdN_40 e hand hi bf)
 have f1:=jU hi (c:=116) (n:=116) (by decide) (by rw [bf];decide)
 have f2:=jU hi (c:=102) (n:=102) (by decide) (by rw [bf];decide)
 have f3:=jU hi (c:=117) (n:=117) (by decide) (by rw [bf];decide)
 have f4:=qg hi (n:=40) (by decide) bf
 clear bf
 obtain ⟨a0,k0,ehv,_,_,bL⟩:=zF hr
 subst ehv
 have HAT:=g_ bL;clear bL
 go_enter Tryz.func44,Tryz.ntmps44
 go_wp2_with fail
 rw [show (i:Int)+1=((i+1:Nat):Int) from by omega]
 refine (l3Number_any l hl (i+1) hi _).mono ?_
 rintro en w1 ⟨v,k1,rfl,ew,bz,b6⟩
 obtain rfl:=ew
 cases hq:qM (l.drop (i+1)) with
 | none =>
   obtain rfl:=bz hq
   have hm:rdN (e+1) hand (l.drop i)=none:=by rw [HM.out,hq]
   have HM:=g_ hm;clear hm hq bz b6
   go_wp2_with fail
   refine bodyPost_ret (v:=.tuple #[.agg #[str [],.int .i64 0,.slice none 0 0,.slice none 0 0],.int .i64 (-1)]) (by simp [results,Tryz.results44,go_sem]) rfl ?_
   exact jG.no HM.out (by repeat (first | exact bZ _ _ | refine Below.alloc ?_ (hG _) _ | refine Below.setCell ?_ (by simp) _))
 | some x =>
 obtain ⟨v',c⟩:=x
 obtain ⟨rfl,rfl⟩:=b6 _ _ hq
 have mS:i+1+c<=l.length/\v<=9999:=by
  unfold qM at hq
  split at hq
  ·simp at hq
  ·simp at hq
   obtain ⟨e1,e2⟩:=hq
   have h1:=yE (l.drop (i+1))
   have h2:=valOf_lt (kZ (l.drop (i+1))) (j1 _)
   have h3:10 ^ (kZ (l.drop (i+1))).length<=10 ^ 4:=Nat.pow_le_pow_right (by omega) h1.1
   simp at h1;omega
 obtain ⟨mS,hv9⟩:=mS
 have HQ:=g_ hq;clear hq bz b6
 by_cases fI:v<hand.length
 rotate_left
 ·have hm:rdN (e+1) hand (l.drop i)=none:=by
   rw [HM.out,HQ.out];simp only
   rw [List.getElem?_eq_none (by omega)]
  have HM:=g_ hm;clear hm
  go_wp2_with fail
  refine bodyPost_ret (v:=.tuple #[.agg #[str [],.int .i64 0,.slice none 0 0,.slice none 0 0],.int .i64 (-1)]) (by simp [results,Tryz.results44,go_sem]) rfl ?_
  exact jG.no HM.out (by repeat (first | exact bZ _ _ | refine Below.alloc ?_ (hG _) _ | refine Below.setCell ?_ (by simp) _))
 obtain ⟨bl,ol,u,dv,ea,hFl,ni,mo,aA,d6⟩:=HAT.out v fI
 rw [jh,Option.map_eq_some_iff] at mo
 obtain ⟨t,ht,rfl⟩:=mo
 obtain ⟨sa,ks,rfl⟩:=zt d6
 have eN:=d6
 rw [qA] at eN
 obtain ⟨_,_,est,_,_,cG⟩:=zF eN
 simp only [Value.slice.injEq] at est
 obtain ⟨rfl,_,rfl⟩:=est
 subst ea
 have HT:=g_ ht;have mG:=g_ cG
 have hm : rdN (e+1) hand (l.drop i)=(do
         let (ps,l1)<-zP (rdN e) (k_ hand t) ((l.drop (i+1)).drop c)
         let l2<-cut [41] l1
         let b<-uv v t.args.length ps
         some (b,l2)):=by rw [HM.out,HQ.out];simp only [ht]
 rw [List.drop_drop] at hm
 have HM:=g_ hm
 have hta:t.args.length<=15:=by
  have h1:=hh.1 t (List.mem_of_getElem? ht)
  have h2:=kw t
  have:=kF t.args;omega
 clear hm ht cG eN
 have gv:decide (hand.length<=v)=false:=by rw [decide_eq_false_iff_not];omega
 have gi:decide ((i:Int)+1+(c:Int)<0)=false:=by rw [decide_eq_false_iff_not];omega
 go_wp2_with fail
 have bT:NodeRel l w (rdN e) (k_ hand t) t.args.length (i+1+c) (w.heap.size+1) (w.heap.size+2) v 0 (i+1+c)
  ((w.alloc (.cells #[str [],.int .i64 0,.slice none 0 0,.slice none 0 0] 43)).alloc (.cells #[str [],.int .i64 v,.slice none 0 0,.slice none 0 0] 43)):=by
  refine ⟨[],[],[],.slice none 0 0,0,.slice none 0 0,0,by simp,by simp,⟨_,_,rfl⟩,⟨_,_,rfl⟩,by simp [zP],rfl,mS,((bZ _ _).alloc (hG _) _).alloc (by simp) _,?_,?_,World.ownsRow_nil _ _ _ _,World.ownsRow_nil _ _ _ _,fun g h=>by simp [Value.ownBlock] at h,fun g h=>by simp [Value.ownBlock] at h,by rw [List.take_nil];exact zM.2 rfl,by rw [List.drop_nil];exact zM.2 rfl,by simp⟩
  ·exact zH (zO _ _)
  ·have:=zO (w.alloc (.cells #[str [],.int .i64 0,.slice none 0 0,.slice none 0 0] 43)) (.cells #[str [],.int .i64 v,.slice none 0 0,.slice none 0 0] 43)
   rw [zQ] at this;exact this
 generalize s_:i+1+c=i0 at *
 rw [show (i:Int)+1+(c:Int)=(i0:Int) from by omega]
 have HI0:=g_ s_;clear s_
 go_loopw [11,14] (fun a b wr=>∃ k en:Nat,k<=t.args.length+2/\a=.int .i64 en/\b=.int .i64 k/\NodeRel l w (rdN e) (k_ hand t) t.args.length i0 (w.heap.size+1) (w.heap.size+2) v k en wr)
  (fun _ b _=>t.args.length+2-(intOf b).toNat)
 case atStart=>exact ⟨0,i0,Nat.zero_le _,rfl,rfl,bT⟩
 case round =>
  clear bT
  rename_i wr
  obtain ⟨k,en,hk,rfl,rfl,hrel⟩:=hrel
  obtain ⟨ps,kv,yv,ks,nk,ys,ny,hrel⟩:=hrel
  have fR:=hrel.res;have cB:=hrel.out;have hb:=hrel.below;have hen:=hrel.en;have zr:=hrel.z
  have HP:=g_ hrel.spec
  have nkl:nk<=17:=by have:=hrel.hnk;omega
  have nyl:ny<=2:=by have:=hrel.hny;omega
  obtain ⟨ka,kc,eks⟩:=hrel.ksl
  obtain ⟨ya,yc,eys⟩:=hrel.ysl
  subst eks;subst eys
  have HR:=g_ hrel;clear hrel
  obtain ⟨r0,r1,r2,r3,rl,rf⟩:=fR.cells
  obtain ⟨q0,q1,q2,q3,ql,qf⟩:=cB.cells
  have dH:=rf 0;have dx:=rf 1;have sT:=rf 2;have sS:=rf 3;clear rf
  have mq:=qf 2;have nD:=qf 3;clear qf
  by_cases bX:k<t.args.length+2
  ·have dc:(k:Int)<(t.args.length:Int)+2:=by omega
   by_cases eB:∃ h:en<l.length,l[en]=32
   rotate_left
   ·have hm:rdN (e+1) hand (l.drop i)=none:=by
     have hs:=vq (rd:=rdN e) (show (k_ hand t)[k]? = some _ from List.getElem?_eq_getElem (by rw [vC];exact bX)) HP.out
     have hc:cut [32] (l.drop en)=none:=by
      by_cases h:en<l.length
      ·rw [j_ h,if_neg (fun h'=>eB ⟨h,h'⟩)]
      ·exact yF (by omega)
     rw [HM.out,jX (k+1) (by rw [hs];simp [kK,hc])];rfl
    have HM:=g_ hm;clear hm
    have b_:(l.length<=en)\/∃ h:en<l.length,((((⟨l.toArray⟩:ByteArray)[en]'(zy h)).toNat:Int) != 32)=true:=by
     by_cases h:en<l.length
     ·exact .inr ⟨h,qv h (n:=32) (by decide) (fun h'=>eB ⟨h,h'⟩)⟩
     ·exact .inl (by omega)
    clear eB
    rcases b_ with h | ⟨h,f5⟩
    ·have g1:(l.length:Int)<=(en:Int):=by omega
     go_wp2_with fail
     obtain ⟨W,hW,s0,s1,s2,s3,bE,_⟩:=fR.store (.string ⟨#[]⟩) (.int .i64 0) (.slice none 0 0) (.slice none 0 0)
     rw [<- hW]
     refine bodyPost_ret (v:=.tuple #[.agg #[str [],.int .i64 0,.slice none 0 0,.slice none 0 0],.int .i64 (-1)]) (by simp [results,Tryz.results44,go_sem,s0,s1,s2,s3]) rfl ?_
     exact jG.no HM.out (bE _ _ hb (hG _))
    ·go_wp2_with fail
     obtain ⟨W,hW,s0,s1,s2,s3,bE,_⟩:=fR.store (.string ⟨#[]⟩) (.int .i64 0) (.slice none 0 0) (.slice none 0 0)
     rw [<- hW]
     refine bodyPost_ret (v:=.tuple #[.agg #[str [],.int .i64 0,.slice none 0 0,.slice none 0 0],.int .i64 (-1)]) (by simp [results,Tryz.results44,go_sem,s0,s1,s2,s3]) rfl ?_
     exact jG.no HM.out (bE _ _ hb (hG _))
   obtain ⟨ml,eB⟩:=eB
   have f5:=qg ml (n:=32) (by decide) eB
   have g1:decide ((en:Int)<0)=false:=by rw [decide_eq_false_iff_not];omega
   have g2:decide (l.length<=en)=false:=by rw [decide_eq_false_iff_not];omega
   have HC:Hid (cut [32] (l.drop en)=some (l.drop (en+1))):=by show cut [32] (l.drop en)=_;rw [j_ ml,if_pos eB]
   clear eB
   by_cases fT:k<t.args.length
   ·have re:(k:Int)<(t.args.length:Int):=by omega
    obtain ⟨ba,oa,uk,dk,esa,hFa,hba,nr,eU,db⟩:=mG.out k fT
    subst esa
    rw [jh,Option.map_eq_some_iff] at nr
    obtain ⟨tk,dn,rfl⟩:=nr
    obtain ⟨ua,uc,rfl⟩:=zt db
    have e1:wr.cell? ⟨ba,oa+k,none⟩=some (.slice ua tk.args.length uc):=by rw [hb.cell hba];exact eU
    have dg:=Rep.below (F':=F) hb (fun _ h=>h) db
    have dJ:=Rep.below (F':=F) hb (fun _ h=>h) hr
    have nc:qV e (hand++tk.args):=hh.next HT.out (List.mem_of_getElem? dn)
    have fS:Lim (hand.length+tk.args.length):=by have:=nc.2;simp at this;show _<=_;omega
    have HS:=g_ (vq (rd:=rdN e) (allHands_kid (hand:=hand) dn) HP.out)
    clear dn eU db
    go_wp2_with fail
    refine (yr F hand tk _ _ wr dJ dg fS).mono ?_
    rintro tK w5 ⟨a5,c5,rfl,bF,dq⟩
    have z5:=bF.size
    have HR5:=g_ dq;clear dq dJ dg fS
    have Q:=g_ (hU fR (hU cB (hU hb bF)))
    have rl5:w.heap.size<w5.heap.size:=by omega
    have sA:w.heap.size+1<w5.heap.size:=by omega
    go_wp2_with fail
    rw [show (en:Int)+1=((en+1:Nat):Int) from by omega,show (d:Int)+1=((d+1:Nat):Int) from by omega,<- List.length_append]
    refine (IH.out (fun k=>F k\/wr.heap.size<=k) (hand++tk.args) _ (en+1) w5 ml nc (by rw [List.length_append] at HR5 ⊢;exact HR5.out)).mono ?_
    rintro mU w6 ⟨s6,v6,a2,n2,k2,a3,n3,k3,k6,rfl,bW,eL,eD⟩
    rw [List.length_append]
    obtain ⟨fR,cB,hb,bF⟩:=Q.out
    have z6:=bW.size
    have dP:=bF.trans (bW.mono z5)
    have eT:=fR.below dP rl
    have eA:=cB.below dP ql
    have eY:=zzT hb dP
    obtain ⟨r0,r1,r2,r3,rl6,rf⟩:=eT.cells
    obtain ⟨q0,q1,q2,q3,rX,qf⟩:=eA.cells
    have dH:=rf 0;have dx:=rf 1;have sT:=rf 2;have sS:=rf 3;clear rf
    have mq:=qf 2;have nD:=qf 3;clear qf
    have Q2:=g_ (hU dP (hU eT eA));clear bF hb fR cB dP eT eA bW Q
    cases hq:rdN e (hand++tk.args) (l.drop (en+1)) with
    | none =>
      obtain rfl:=eL hq
      have hm:rdN (e+1) hand (l.drop i)=none:=by
       rw [HM.out,jX (k+1) (by rw [HS.out];simp [kK,HC.out,hq])];rfl
      have HM:=g_ hm;clear hm hq eL eD
      go_wp2_with fail
      obtain ⟨W,hW,s0,s1,s2,s3,bE,_⟩:=Q2.out.2.1.store (.string ⟨#[]⟩) (.int .i64 0) (.slice none 0 0) (.slice none 0 0)
      rw [<- hW]
      refine bodyPost_ret (v:=.tuple #[.agg #[str [],.int .i64 0,.slice none 0 0,.slice none 0 0],.int .i64 (-1)]) (by simp [results,Tryz.results44,go_sem,zK s0,zK s1,zK s2,zK s3]) rfl ?_
      exact jG.no HM.out ((bE _ _ eY (hG _)).alloc (bE _ _ eY (hG _)).size _)
    | some x =>
      obtain ⟨b,rest⟩:=x
      obtain ⟨rfl,co⟩:=eD _ _ hq
      have dI:=vK (uC e hq)
      have hrl:rest.length<=l.length:=by have:=(uC e hq).length_le;simp at this;omega
      obtain ⟨cV,mR⟩:=zzM (l.length-rest.length)
      rw [<- mR] at dI
      have ng:(l.length:Int)-(rest.length:Int)=(cV:Int):=by omega
      rw [ng]
      have HE2:=g_ mR;clear mR ng
      have hs:zP (rdN e) ((k_ hand t).take (k+1)) (l.drop i0)=some (ps++[b],l.drop cV):=by
       rw [HS.out];simp [kK,HC.out,hq,dI]
      have HS2:=g_ hs;have iq:=g_ co;clear hs co hq eL eD dI
      go_wp2_with (at_builtin;refine zu rfl _ _ 41 rfl 43 (.agg #[str [],.int .i64 0,.slice none 0 0,.slice none 0 0]) 4 72 Tryz.underlying41 Tryz.infoN rfl (by decide) (.slice ka nk kc) nk kv rfl ?c1 _ 1 [str s6,.int .i64 v6,.slice a2 n2 k2,.slice a3 n3 k3] rfl ?c2 ?c3 ?c4 ?_)
      case c1 =>
       refine (HR.out.ownK.keep fun g o hg ho=>?_).alloc _ |>.alloc _
       rw [Q2.out.1.block g (zZ ho)];exact ho
      case c2=>exact zp.lit4 #[str s6,.int .i64 v6,.slice a2 n2 k2,.slice a3 n3 k3] rfl (by simp [str,Value.oneCell']) _ (by simp)
      case c3=>unfold maxLen;omega
      case c4=>omega
      intro a' c' w7 d8 bB b9
      have hW:Below wr.heap.size wr ((w6.alloc (.cells #[str s6,.int .i64 v6,.slice a2 n2 k2,.slice a3 n3 k3] 43)).alloc (.cells #[str s6,.int .i64 v6,.slice a2 n2 k2,.slice a3 n3 k3] 43)):=(Q2.out.1.alloc Q2.out.1.size _).alloc (by have:=Q2.out.1.size;simp;omega) _
      have hC:zC (wr.heap.size<=·) ((w6.alloc (.cells #[str s6,.int .i64 v6,.slice a2 n2 k2,.slice a3 n3 k3] 43)).alloc (.cells #[str s6,.int .i64 v6,.slice a2 n2 k2,.slice a3 n3 k3] 43)) (qk b) [str s6,.int .i64 v6,.slice a2 n2 k2,.slice a3 n3 k3] :=
       (Rep.keep fun i o hi ho=>⟨bV z5 hi,zH (zH ho)⟩).2 _ _ iq.out
      have hA:=HR.out.kid fT (by omega) (show w.heap.size<w.heap.size+1 by omega) hW hC d8 bB (fun g hg=>by simpa only [zQ] using b9 g hg) HS2.out (by have:=HE2.out;omega)
      have z7:=bB.size
      rw [zQ,zQ] at z7
      have ep:w7.cell? ⟨w.heap.size+1,2,none⟩=some (.slice ka nk kc):=by
       rw [bB.cell (by simp only [zQ];omega) (fun e=>by have h:w.heap.size+2<=w.heap.size+1:=(HR.out.blkK _ e).1;omega)]
       exact zK (zK q2)
      have sQ:w7.frozen? ⟨w.heap.size+1,2,none⟩=false:=by
       rw [World.frozen?_of_block (w:=w6) (by rw [bB.block _ (by simp only [zQ];omega) (fun e=>by have h:w.heap.size+2<=w.heap.size+1:=(HR.out.blkK _ e).1;omega)];rw [Below.heap_alloc _ _ _ (by simp only [zQ];omega),Below.heap_alloc _ _ _ (by omega)])]
       exact mq
      have HA:=g_ hA;clear hA hW hC d8 bB b9
      go_wp2_with fail
      go_roundw
      case rel=>exact ⟨k+1,cV,by omega,rfl,by go_num,_,_,_,_,_,_,_,HA.out⟩
      case measure=>simp [intOf];omega
   ·have re:t.args.length<=k:=by omega
    have hkn2:¬ (k:Int)<(t.args.length:Int):=by omega
    have dJ:=Rep.below (F':=F) hb (fun _ h=>h) hr
    have HS:=g_ (vq (rd:=rdN e) (allHands_yes (hand:=hand) (t:=t) re bX) HP.out)
    go_wp2_with fail
    refine (IH.out F hand _ (en+1) wr ml (by have:=hh.same;rwa [List.append_nil] at this) dJ).mono ?_
    rintro mU w6 ⟨s6,v6,a2,n2,k2,a3,n3,k3,k6,rfl,bW,eL,eD⟩
    have z6:=bW.size
    have dP:=bW
    have eT:=fR.below dP rl
    have eA:=cB.below dP ql
    have eY:=zzT hb dP
    obtain ⟨r0,r1,r2,r3,rl6,rf⟩:=eT.cells
    obtain ⟨q0,q1,q2,q3,rX,qf⟩:=eA.cells
    have dH:=rf 0;have dx:=rf 1;have sT:=rf 2;have sS:=rf 3;clear rf
    have mq:=qf 2;have nD:=qf 3;clear qf
    have Q2:=g_ (hU dP (hU eT eA));clear hb fR cB dP eT eA bW
    cases hq:rdN e hand (l.drop (en+1)) with
    | none =>
      obtain rfl:=eL hq
      have hm:rdN (e+1) hand (l.drop i)=none:=by
       rw [HM.out,jX (k+1) (by rw [HS.out];simp [kK,HC.out,hq])];rfl
      have HM:=g_ hm;clear hm hq eL eD
      go_wp2_with fail
      obtain ⟨W,hW,s0,s1,s2,s3,bE,_⟩:=Q2.out.2.1.store (.string ⟨#[]⟩) (.int .i64 0) (.slice none 0 0) (.slice none 0 0)
      rw [<- hW]
      refine bodyPost_ret (v:=.tuple #[.agg #[str [],.int .i64 0,.slice none 0 0,.slice none 0 0],.int .i64 (-1)]) (by simp [results,Tryz.results44,go_sem,zK s0,zK s1,zK s2,zK s3]) rfl ?_
      exact jG.no HM.out ((bE _ _ eY (hG _)).alloc (bE _ _ eY (hG _)).size _)
    | some x =>
      obtain ⟨b,rest⟩:=x
      obtain ⟨rfl,co⟩:=eD _ _ hq
      have dI:=vK (uC e hq)
      have hrl:rest.length<=l.length:=by have:=(uC e hq).length_le;simp at this;omega
      obtain ⟨cV,mR⟩:=zzM (l.length-rest.length)
      rw [<- mR] at dI
      have ng:(l.length:Int)-(rest.length:Int)=(cV:Int):=by omega
      rw [ng]
      have HE2:=g_ mR;clear mR ng
      have hs:zP (rdN e) ((k_ hand t).take (k+1)) (l.drop i0)=some (ps++[b],l.drop cV):=by
       rw [HS.out];simp [kK,HC.out,hq,dI]
      have HS2:=g_ hs;have iq:=g_ co;clear hs co hq eL eD dI
      go_wp2_with (at_builtin;refine zu rfl _ _ 41 rfl 43 (.agg #[str [],.int .i64 0,.slice none 0 0,.slice none 0 0]) 4 72 Tryz.underlying41 Tryz.infoN rfl (by decide) (.slice ya ny yc) ny yv rfl ?c1 _ 1 [str s6,.int .i64 v6,.slice a2 n2 k2,.slice a3 n3 k3] rfl ?c2 ?c3 ?c4 ?_)
      case c1 =>
       refine (HR.out.ownY.keep fun g o hg ho=>?_).alloc _ |>.alloc _
       rw [Q2.out.1.block g (zZ ho)];exact ho
      case c2=>exact zp.lit4 #[str s6,.int .i64 v6,.slice a2 n2 k2,.slice a3 n3 k3] rfl (by simp [str,Value.oneCell']) _ (by simp)
      case c3=>unfold maxLen;omega
      case c4=>omega
      intro a' c' w7 d8 bB b9
      have hW:Below wr.heap.size wr ((w6.alloc (.cells #[str s6,.int .i64 v6,.slice a2 n2 k2,.slice a3 n3 k3] 43)).alloc (.cells #[str s6,.int .i64 v6,.slice a2 n2 k2,.slice a3 n3 k3] 43)):=(Q2.out.1.alloc Q2.out.1.size _).alloc (by have:=Q2.out.1.size;simp;omega) _
      have hC:zC (wr.heap.size<=·) ((w6.alloc (.cells #[str s6,.int .i64 v6,.slice a2 n2 k2,.slice a3 n3 k3] 43)).alloc (.cells #[str s6,.int .i64 v6,.slice a2 n2 k2,.slice a3 n3 k3] 43)) (qk b) [str s6,.int .i64 v6,.slice a2 n2 k2,.slice a3 n3 k3] :=
       (Rep.keep fun i o hi ho=>⟨hi,zH (zH ho)⟩).2 _ _ iq.out
      have hA:=HR.out.yes re (by omega) (show w.heap.size<w.heap.size+1 by omega) hW hC d8 bB (fun g hg=>by simpa only [zQ] using b9 g hg) HS2.out (by have:=HE2.out;omega)
      have z7:=bB.size
      rw [zQ,zQ] at z7
      have ep:w7.cell? ⟨w.heap.size+1,3,none⟩=some (.slice ya ny yc):=by
       rw [bB.cell (by simp only [zQ];omega) (fun e=>by have h:w.heap.size+2<=w.heap.size+1:=HR.out.blkY _ e;omega)]
       exact zK (zK q3)
      have sQ:w7.frozen? ⟨w.heap.size+1,3,none⟩=false:=by
       rw [World.frozen?_of_block (w:=w6) (by rw [bB.block _ (by simp only [zQ];omega) (fun e=>by have h:w.heap.size+2<=w.heap.size+1:=HR.out.blkY _ e;omega)];rw [Below.heap_alloc _ _ _ (by simp only [zQ];omega),Below.heap_alloc _ _ _ (by omega)])]
       exact nD
      have HA:=g_ hA;clear hA hW hC d8 bB b9
      go_wp2_with fail
      go_roundw
      case rel=>exact ⟨k+1,cV,by omega,rfl,by go_num,_,_,_,_,_,_,_,HA.out⟩
      case measure=>simp [intOf];omega
  ·have fT:k=t.args.length+2:=by omega
   have dc:¬ (k:Int)<(t.args.length:Int)+2:=by omega
   have hp:zP (rdN e) (k_ hand t) (l.drop i0)=some (ps,l.drop en):=by
    have:=HP.out;rwa [fT,List.take_of_length_le (by rw [vC];exact hG _)] at this
   have hm:rdN (e+1) hand (l.drop i)=(do
    let l2<-cut [41] (l.drop en)
    let b<-uv v t.args.length ps
    some (b,l2)):=by rw [HM.out,hp];rfl
   have HM:=g_ hm
   have HKN:=g_ fT
   clear hm hp fT
   by_cases di:∃ h:en<l.length,l[en]=41
   rotate_left
   ·have hm:rdN (e+1) hand (l.drop i)=none:=by
     have hc:cut [41] (l.drop en)=none:=by
      by_cases h:en<l.length
      ·rw [j_ h,if_neg (fun h'=>di ⟨h,h'⟩)]
      ·exact yF (by omega)
     rw [HM.out,hc];rfl
    have HM:=g_ hm;clear hm
    have b_:(l.length<=en)\/∃ h:en<l.length,((((⟨l.toArray⟩:ByteArray)[en]'(zy h)).toNat:Int) != 41)=true:=by
     by_cases h:en<l.length
     ·exact .inr ⟨h,qv h (n:=41) (by decide) (fun h'=>di ⟨h,h'⟩)⟩
     ·exact .inl (by omega)
    clear di
    rcases b_ with h | ⟨h,f5⟩
    ·have g1:(l.length:Int)<=(en:Int):=by omega
     go_wp2_with fail
     obtain ⟨W,hW,s0,s1,s2,s3,bE,_⟩:=fR.store (.string ⟨#[]⟩) (.int .i64 0) (.slice none 0 0) (.slice none 0 0)
     rw [<- hW]
     refine bodyPost_ret (v:=.tuple #[.agg #[str [],.int .i64 0,.slice none 0 0,.slice none 0 0],.int .i64 (-1)]) (by simp [results,Tryz.results44,go_sem,s0,s1,s2,s3]) rfl ?_
     exact jG.no HM.out (bE _ _ hb (hG _))
    ·go_wp2_with fail
     obtain ⟨W,hW,s0,s1,s2,s3,bE,_⟩:=fR.store (.string ⟨#[]⟩) (.int .i64 0) (.slice none 0 0) (.slice none 0 0)
     rw [<- hW]
     refine bodyPost_ret (v:=.tuple #[.agg #[str [],.int .i64 0,.slice none 0 0,.slice none 0 0],.int .i64 (-1)]) (by simp [results,Tryz.results44,go_sem,s0,s1,s2,s3]) rfl ?_
     exact jG.no HM.out (bE _ _ hb (hG _))
   obtain ⟨ml,di⟩:=di
   have f5:=qg ml (n:=41) (by decide) di
   have g1:decide ((en:Int)<0)=false:=by rw [decide_eq_false_iff_not];omega
   have g2:decide (l.length<=en)=false:=by rw [decide_eq_false_iff_not];omega
   have HC:Hid (cut [41] (l.drop en)=some (l.drop (en+1))):=by show cut [41] (l.drop en)=_;rw [j_ ml,if_pos di]
   clear di
   go_wp2_with fail
   obtain ⟨W,hW,s0,s1,s2,s3,bE,bg⟩:=fR.store (str []) (.int .i64 v) (.slice ka nk kc) (.slice ya ny yc)
   have mK:=HR.out
   have hps:=mK.len
   have hnk:=mK.hnk
   have hny:=mK.hny
   have fT:=HKN.out
   obtain ⟨y1,y2,tH⟩:∃ y1 y2,ps.drop t.args.length=[y1,y2]:=by
    match hd:ps.drop t.args.length with
    | [a,b]=>exact ⟨a,b,rfl⟩
    | []=>have:=congrArg List.length hd;simp at this;omega
    | [a]=>have:=congrArg List.length hd;simp at this;omega
    | a::b::c::d=>have:=congrArg List.length hd;simp at this;omega
   have hm:rdN (e+1) hand (l.drop i)=some (.ask v (ps.take t.args.length) y1 y2,l.drop (en+1)):=by
    rw [HM.out,HC.out];simp [uv,tH]
   have ry:nk=(ps.take t.args.length).length:=by simp;omega
   have rj:ny=2:=by omega
   rw [<- hW]
   refine bodyPost_ret (v:=.tuple #[.agg #[str [],.int .i64 v,.slice ka nk kc,.slice ya ny yc],.int .i64 ((en:Int)+1)]) (by simp [results,Tryz.results44,go_sem,s0,s1,s2,s3]) rfl ?_
   refine jG.yes (s:=[]) hm (by simp;omega) (bE _ _ hb (hG _)) ?_
   rw [gz]
   refine zJ.2 ⟨_,_,rfl,zj.2 rfl,zJ.2 ⟨_,_,rfl,zj.2 rfl,zJ.2 ⟨_,_,rfl,?_,zJ.2 ⟨_,_,rfl,?_,zM.2 rfl⟩⟩⟩⟩
   ·rw [<- ry]
    refine (mK.ownK.keep fun g o hg ho=>bg g o (by have:=(mK.blkK g hg).1;omega) ho).rep (fun g hg=>by have:=(mK.blkK g hg).1;omega) ?_
    exact (Rep.keep fun x o hx ho=>⟨by have:=hx.1;omega,bg x o (by have:=hx.1;omega) ho⟩).2 _ _ mK.repK
   ·have cJ:=mK.repY
    rw [tH] at cJ
    rw [<- rj]
    refine (mK.ownY.keep fun g o hg ho=>bg g o (by have:=mK.blkY g hg;omega) ho).rep (fun g hg=>by have:=mK.blkY g hg;omega) ?_
    exact (Rep.keep fun x o hx ho=>⟨by have:=hx.1;omega,bg x o (by have:=hx.1;omega) ho⟩).2 _ _ cJ
theorem l3Read_any (l:Bs) (hl:Lim l.length) (e:Nat):∀ d,e+d=101->NodeSaid l e d:=by
 induction e with
 | zero=>exact fun d fD F hand hv i w hi _ hr=>xD l hl 0 d fD F hand hv i w hi hr (fun _=>.inl rfl)
 | succ e ih =>
   intro d fD F hand hv i w hi hh hr
   by_cases h:∃ h:i<l.length,l[i]=40
   ·obtain ⟨h,bf⟩:=h
    exact l3Read_ask l hl e d fD (ih (d+1) (by omega)) F hand hv i w h hh hr bf
   ·exact xD l hl (e+1) d fD F hand hv i w hi hr (fun h'=>.inr fun bf=>h ⟨h',bf⟩)
def jn:Bd->List Bd
 | .leaf _=>[]
 | .ask _ ss _ _=>ss
def vo:Bd->List Bd
 | .leaf _=>[]
 | .ask _ _ y n=>[y,n]
def wC:Bd->Bs
 | .leaf c=>[c]
 | .ask _ _ _ _=>[]
def AtN (F:Nat->Prop) (w:World) (bs:List Bd) (a:Option Addr) (k:Nat):Prop :=
 ∃ b o s v a2 n2 c2 a3 n3 c3 d,a=some ⟨b,o,none⟩/\b<w.heap.size/\bs[k]? = some d/\w.cell? ⟨b,o+k*4,none⟩=some (str s)/\w.cell? ⟨b,o+k*4+1,none⟩=some (.int .i64 v) /\
   w.cell? ⟨b,o+k*4+2,none⟩=some (.slice a2 n2 c2)/\w.cell? ⟨b,o+k*4+3,none⟩=some (.slice a3 n3 c3)/\zC F w (qk d) [str s,.int .i64 v,.slice a2 n2 c2,.slice a3 n3 c3]
def pF (F:Nat->Prop) (w:World) (bs:List Bd) (a:Option Addr):Prop:=∀ k,k<bs.length->AtN F w bs a k
theorem uY {F:Nat->Prop} {w:World} {b:Bd} {vs:List Value} (h:zC F w (qk b) vs) :
 ∃ v a2 c2 a3 c3,vs=[str (wC b),.int .i64 v,.slice a2 (jn b).length c2,.slice a3 (vo b).length c3] /\
   Rep F w (.sl 43 4 (jn b).length (kt (jn b))) (.slice a2 (jn b).length c2)/\Rep F w (.sl 43 4 (vo b).length (kt (vo b))) (.slice a3 (vo b).length c3):=by
 have key:∀ (s:Bs) (v:Int) (d2 d3:DV) (n2 n3:Nat) (k2 k3:List DV),d2=.sl 43 4 n2 k2->d3=.sl 43 4 n3 k3->zC F w [.val (str s),.val (.int .i64 v),d2,d3] vs ->
  ∃ a2 c2 a3 c3,vs=[str s,.int .i64 v,.slice a2 n2 c2,.slice a3 n3 c3]/\Rep F w d2 (.slice a2 n2 c2)/\Rep F w d3 (.slice a3 n3 c3):=by
  intro s v d2 d3 n2 n3 k2 k3 e2 e3 h
  obtain ⟨_,_,rfl,h0,h⟩:=zJ.1 h
  obtain ⟨_,_,rfl,h1,h⟩:=zJ.1 h
  obtain ⟨_,_,rfl,h2,h⟩:=zJ.1 h
  obtain ⟨_,_,rfl,h3,h⟩:=zJ.1 h
  rw [zM] at h;subst h
  rw [zj] at h0 h1
  subst h0;subst h1
  have h2':=h2;have h3':=h3
  rw [e2] at h2';rw [e3] at h3'
  obtain ⟨_,a2,c2,e2',_⟩:=kD.1 h2'
  obtain ⟨_,a3,c3,e3',_⟩:=kD.1 h3'
  subst e2';subst e3'
  exact ⟨a2,c2,a3,c3,rfl,h2,h3⟩
 cases b with
 | leaf c =>
   rw [qk] at h
   obtain ⟨a2,c2,a3,c3,e,h2,h3⟩:=key _ _ _ _ 0 0 [] [] rfl rfl h
   exact ⟨_,a2,c2,a3,c3,e,h2,h3⟩
 | ask v ss y n =>
   rw [gz] at h
   obtain ⟨a2,c2,a3,c3,e,h2,h3⟩:=key _ _ _ _ _ _ _ _ rfl rfl h
   exact ⟨_,a2,c2,a3,c3,e,h2,h3⟩
theorem pF.of {F:Nat->Prop} {w:World} {bs:List Bd} {v:Value} (h:Rep F w (.sl 43 4 bs.length (kt bs)) v):∃ a c,v=.slice a bs.length c/\pF F w bs a:=by
 obtain ⟨hl,a,c,rfl,hn,hz,h⟩:=kD.1 h
 refine ⟨a,c,rfl,fun k hk=>?_⟩
 rcases h with h | ⟨b,o,cs,fr,rfl,hb,hc,hr⟩
 ·omega
 ·have hs:kt bs=kt (bs.take k)++(qk bs[k]++kt (bs.drop (k+1))):=by
   have e1:qk bs[k]=kt [bs[k]]:=by simp [kt]
   rw [e1,<- jJ,<- jJ]
   congr 1
   simp
  rw [hs] at hr
  obtain ⟨h1,h2⟩:=hr.split
  obtain ⟨h3,h4⟩:=h2.split
  have fs:(kt (bs.take k)).length=k*4:=by rw [encNs_length];simp;omega
  rw [fs,wo] at h3
  obtain ⟨v,a2,c2,a3,c3,e,_⟩:=uY h3
  have bL:∀ j u,([str (wC bs[k]),.int .i64 v,.slice a2 (jn bs[k]).length c2,.slice a3 (vo bs[k]).length c3]:List Value)[j]? = some u->w.cell? ⟨b,o+k*4+j,none⟩=some u:=by
   intro j u hu
   rw [<- e] at hu
   have hj:j<4:=by
    have:=(List.getElem?_eq_some_iff.1 hu).1
    simp at this;omega
   rw [List.getElem?_take,if_pos hj,List.getElem?_drop,List.getElem?_take] at hu
   split at hu
   ·rw [List.getElem?_drop] at hu
    simp only [World.cell?,hc]
    rw [Nat.add_assoc]
    simpa using hu
   ·simp at hu
  refine ⟨b,o,_,v,a2,_,c2,a3,_,c3,bs[k],rfl,zZ hc,by simp [hk],bL 0 _ rfl,bL 1 _ rfl,bL 2 _ rfl,bL 3 _ rfl,?_⟩
  rw [<- e];exact h3
theorem gJ (b:Bd):kj b=jn b++vo b:=by cases b <;> rfl
def BoxN (g:Nat) (s:Bs) (k y:Value) (w:World):Prop :=
 w.cell? ⟨g,0,none⟩=some (str s)/\w.cell? ⟨g,2,none⟩=some k/\w.cell? ⟨g,3,none⟩=some y
theorem BoxN.below {g:Nat} {s:Bs} {k y:Value} {w w':World} (h:BoxN g s k y w) (hb:Below w.heap.size w w'):BoxN g s k y w':=by
 obtain ⟨h1,h2,h3⟩:=h
 have:=h_ w _ h1
 exact ⟨by rw [hb.cell (by exact this)];exact h1,by rw [hb.cell (by exact this)];exact h2,by rw [hb.cell (by exact this)];exact h3⟩
def wF (b:Bd):Prop:=∀ (F:Nat->Prop) (w:World) (s:Bs) (v:Int) (a2:Option Addr) (n2 c2:Nat) (a3:Option Addr) (n3 c3:Nat),zC F w (qk b) [str s,.int .i64 v,.slice a2 n2 c2,.slice a3 n3 c3] ->
 Calls Tryz.prog 45 #[.agg #[str s,.int .i64 v,.slice a2 n2 c2,.slice a3 n3 c3]] w fun en w'=>en=.returned (.int .i64 (zD b))/\Below w.heap.size w w'
set_option maxRecDepth 100000 in
theorem l3Size_step (b:Bd) (hl:Lim (zD b)) (ih:∀ b',zD b'<zD b->wF b'):wF b:=by
 intro F w s v a2 n2 c2 a3 n3 c3 hv
 have nN:=uY hv
 obtain ⟨v',a2',c2',a3',c3',e,hk,hy⟩:=nN
 simp only [List.cons.injEq,Value.slice.injEq,and_true] at e
 obtain ⟨e0,e1,⟨rfl,e2,rfl⟩,⟨rfl,e3,rfl⟩⟩:=e
 clear e0 e1
 subst e2;subst e3
 obtain ⟨_,_,ek,cS⟩:=pF.of hk
 obtain ⟨_,_,ey,iJ⟩:=pF.of hy
 simp only [Value.slice.injEq,true_and] at ek ey
 obtain ⟨rfl,rfl⟩:=ek
 obtain ⟨rfl,rfl⟩:=ey
 have IH:=g_ ih;clear ih
 have ct:=hl.le
 have bN:=vg b
 rw [gJ,kf] at bN
 have fs:=qz (jn b)
 have hyl:=qz (vo b)
 have E1:=g_ bN
 have kl:(jn b).length<=16777216:=by omega
 have yl:(vo b).length<=16777216:=by omega
 have ATK:=g_ cS;have ATY:=g_ iJ
 clear cS iJ hk hy hv bN fs hyl
 generalize hK:jn b=kids at *
 generalize hY:vo b=yess at *
 clear hK hY
 go_enter Tryz.func45,Tryz.ntmps45
 go_wp2_with fail
 go_loopw [3,4] (fun n i wr=>∃ k:Nat,k<=kids.length/\i=.int .i64 k/\n=.int .i64 ((1+zE (kids.take k):Nat):Int)/\Below w.heap.size w wr/\BoxN w.heap.size s (.slice a2 kids.length c2) (.slice a3 yess.length c3) wr) (fun _ i _=>kids.length-(intOf i).toNat)
 case atStart=>exact ⟨0,Nat.zero_le _,rfl,by simp [zE],(bZ _ _).alloc (hG _) _,by simp,by simp,by simp⟩
 case round =>
  rename_i wr
  obtain ⟨k,hk,rfl,rfl,hb,hc⟩:=hrel
  obtain ⟨c_,da,sm⟩:=id hc
  by_cases bX:k<kids.length
  ·obtain ⟨bb,o,s',v',b2,m2,d2,b3,m3,d3,t,rfl,hbb,ht,u0,u1,u2,u3,hr⟩:=ATK.out k bX
   have q0:=(hb.cell hbb).trans u0
   have q1:=(hb.cell hbb).trans u1
   have q2:=(hb.cell hbb).trans u2
   have q3:=(hb.cell hbb).trans u3
   have dJ:=(zC.below (F':=F) hb (fun _ h=>h) hr)
   have hs:=vp ht
   have cN:=qI kids (k+1)
   have cw:=E1.out
   have hp:=zf t
   have IH':=g_ (IH.out t (by omega))
   have HS:=g_ hs
   have b1:1+zE (kids.take k)+zD t<=16777216:=by omega
   have hz:=h_ wr _ c_
   clear hs ht cw u0 u1 u2 u3 hr
   go_wp2_with fail
   refine (IH'.out _ _ _ _ _ _ _ _ _ _ dJ).mono ?_
   rintro en w2 ⟨rfl,bY⟩
   have bH:=zzT hb bY
   obtain ⟨c_,da,sm⟩:=id (hc.below bY)
   have el:=g_ (hc.below bY)
   go_wp2_with fail
   go_roundw
   case rel=>exact ⟨k+1,by omega,by go_num,by rw [HS.out] <;> go_num,bH,el.out⟩
   case measure=>simp [intOf];omega
  ·obtain rfl:k=kids.length:=by omega
   rw [List.take_length]
   have bK:1+zE kids<=16777216:=by have:=E1.out;omega
   clear hk bX
   go_wp2_with fail
   have fM:=hb;have aj:=hc
   clear hb hc c_ da sm
   go_loopw [3,5] (fun n i wr=>∃ k:Nat,k<=yess.length/\i=.int .i64 k/\n=.int .i64 ((1+zE kids+zE (yess.take k):Nat):Int)/\Below w.heap.size w wr/\BoxN w.heap.size s (.slice a2 kids.length c2) (.slice a3 yess.length c3) wr) (fun _ i _=>yess.length-(intOf i).toNat)
   case atStart=>exact ⟨0,Nat.zero_le _,rfl,by simp [zE],fM,aj⟩
   case round =>
    clear fM aj
    obtain ⟨k,hk,rfl,rfl,hb,hc⟩:=hrel
    obtain ⟨c_,da,sm⟩:=id hc
    by_cases bX:k<yess.length
    ·obtain ⟨bb,o,s',v',b2,m2,d2,b3,m3,d3,t,rfl,hbb,ht,u0,u1,u2,u3,hr⟩:=ATY.out k bX
     have q0:=(hb.cell hbb).trans u0
     have q1:=(hb.cell hbb).trans u1
     have q2:=(hb.cell hbb).trans u2
     have q3:=(hb.cell hbb).trans u3
     have dJ:=(zC.below (F':=F) hb (fun _ h=>h) hr)
     have hs:=vp ht
     have cN:=qI yess (k+1)
     have cw:=E1.out
     have hp:=zf t
     have IH':=g_ (IH.out t (by omega))
     have HS:=g_ hs
     have b1:1+zE kids+zE (yess.take k)+zD t<=16777216:=by omega
     have hz:=h_ _ _ c_
     clear hs ht cw u0 u1 u2 u3 hr
     go_wp2_with fail
     refine (IH'.out _ _ _ _ _ _ _ _ _ _ dJ).mono ?_
     rintro en w2 ⟨rfl,bY⟩
     have bH:=zzT hb bY
     obtain ⟨c_,da,sm⟩:=id (hc.below bY)
     have el:=g_ (hc.below bY)
     go_wp2_with fail
     go_roundw
     case rel=>exact ⟨k+1,by omega,by go_num,by rw [HS.out] <;> go_num,bH,el.out⟩
     case measure=>simp [intOf];omega
    ·obtain rfl:k=yess.length:=by omega
     go_wp2_with fail
     go_ret
     exact ⟨j8 (by rw [E1.out,List.take_length];omega),hb⟩
theorem l3Size_any (n:Nat):∀ b,zD b<=n->Lim n->wF b:=by
 induction n with
 | zero=>intro b h _;have:=zf b;omega
 | succ n ih=>exact fun b h hn=>l3Size_step b (hn.mono h) (fun b' h'=>ih b' (by omega) (hn.mono (by omega)))
def zI (s text:Bs):Option Bd :=
 if (zU s).2=false\/2000<text.length then none else
 match rdN 101 (zU s).1.args text with
 | none=>none
 | some (b,rest)=>if rest=[]/\zD b<=200 then some b else none
theorem vQ {l:Bs} (h:(zU l).2=true):zX (zU l).1<=15:=by
 unfold zU at *
 split at h
 ·simp at h
 ·rename_i hl
  rw [if_neg hl]
  cases hq:rdS 21 l with
  | none=>rw [hq] at h;simp at h
  | some x=>rw [hq] at h;obtain ⟨t,rest⟩:=x;simp at h;exact h.2
theorem uR {t:Ty} (h:zX t<=15):qV 101 t.args:=by
 have hm:=kw t
 have key:∀ (ts:List Ty) (x:Ty),x∈ts->zX x<=zR ts:=by
  intro ts
  induction ts with
  | nil=>intro x hx;simp at hx
  | cons y ys ih =>
    intro x hx
    rcases List.mem_cons.1 hx with rfl | hx
    ·simp [zR];omega
    ·have:=ih x hx;simp [zR];omega
 refine ⟨fun x hx=>?_,?_⟩
 ·have:=key t.args x hx;omega
 ·have:=kF t.args;omega
theorem yQ {w:World} {p a:Addr} {u v:Value} (h:w.cell? a=some v) (hne:a.block≠p.block):(w.setCell p u).cell? a=some v:=by
 rw [World.cell?_of_block (w:=w) (bQ _ _ _ _ hne)];exact h
theorem vR {w w':World} {a:Addr} {v:Value} (h:w.cell? a=some v) (hk:∀ x,w.heap[a.block]? = some x->w'.heap[a.block]? = some x):w'.cell? a=some v:=by
 have bX:=h_ w a h
 rw [World.cell?_of_block (w:=w)]
 ·exact h
 ·rw [hk _ (Array.getElem?_eq_getElem bX),Array.getElem?_eq_getElem bX]
abbrev KeepS (g1 g2:Nat) (T u0 u1 u2 u3:Value) (w:World):Prop :=
 w.cell? ⟨g1,0,none⟩=some T/\w.cell? ⟨g2,0,none⟩=some u0/\w.cell? ⟨g2,1,none⟩=some u1/\w.cell? ⟨g2,2,none⟩=some u2/\w.cell? ⟨g2,3,none⟩=some u3
theorem KeepS.set {g1 g2:Nat} {T u0 u1 u2 u3:Value} {w:World} (h:KeepS g1 g2 T u0 u1 u2 u3 w) (b o:Nat) (u:Value) (h1:g1≠b) (h2:g2≠b):KeepS g1 g2 T u0 u1 u2 u3 (w.setCell ⟨b,o,none⟩ u) :=
 ⟨yQ h.1 h1,yQ h.2.1 h2,yQ h.2.2.1 h2,yQ h.2.2.2.1 h2,yQ h.2.2.2.2 h2⟩
def qu (s text:Bs) (w:World) (en:Ending) (w':World):Prop :=
 ∃ (a:Option Addr) (c:Nat) (s':Bs) (v':Int) (a2:Option Addr) (n2 c2:Nat) (a3:Option Addr) (n3 c3:Nat),
   en=.returned (.tuple #[.agg #[.slice a (zU s).1.args.length c],.agg #[str s',.int .i64 v',.slice a2 n2 c2,.slice a3 n3 c3],.bool (zI s text).isSome])/\Below w.heap.size w w' /\
   Rep (w.heap.size<=·) w' (j0 (zU s).1) (.slice a (zU s).1.args.length c) /\
   (∀ b,zI s text=some b->zC (w.heap.size<=·) w' (qk b) [str s',.int .i64 v',.slice a2 n2 c2,.slice a3 n3 c3])
theorem qu.no {s text:Bs} {w w':World} {a:Option Addr} {c:Nat} {v:Value} (hv:v=.slice a (zU s).1.args.length c) {s':Bs} {v':Int} {a2:Option Addr} {n2 c2:Nat} {a3:Option Addr} {n3 c3:Nat} {f:Bool} (hf:f=false) (hn:zI s text=none) (hb:Below w.heap.size w w')
 (hr:Rep (w.heap.size<=·) w' (j0 (zU s).1) v) :
 qu s text w (.returned (.tuple #[.agg #[v],.agg #[str s',.int .i64 v',.slice a2 n2 c2,.slice a3 n3 c3],.bool f])) w':=by
 subst hv;subst hf
 exact ⟨a,c,s',v',a2,n2,c2,a3,n3,c3,by rw [hn];rfl,hb,hr,fun b h=>by rw [hn] at h;simp at h⟩
theorem qu.yes {s text:Bs} {w w':World} {a:Option Addr} {c:Nat} {v:Value} (hv:v=.slice a (zU s).1.args.length c) {s':Bs} {v':Int} {a2:Option Addr} {n2 c2:Nat} {a3:Option Addr} {n3 c3:Nat} {f:Bool} {b:Bd} (hf:f=true) (hn:zI s text=some b) (hb:Below w.heap.size w w')
 (hr:Rep (w.heap.size<=·) w' (j0 (zU s).1) v) (dt:zC (w.heap.size<=·) w' (qk b) [str s',.int .i64 v',.slice a2 n2 c2,.slice a3 n3 c3]) :
 qu s text w (.returned (.tuple #[.agg #[v],.agg #[str s',.int .i64 v',.slice a2 n2 c2,.slice a3 n3 c3],.bool f])) w':=by
 subst hv;subst hf
 exact ⟨a,c,s',v',a2,n2,c2,a3,n3,c3,by rw [hn];rfl,hb,hr,fun b' h=>by rw [hn] at h;simp at h;subst h;exact dt⟩
set_option maxRecDepth 100000 in
theorem gF (s text:Bs) (hs:Lim s.length) (hl:Lim text.length) (w:World):Calls Tryz.prog 19 #[str s,str text] w (qu s text w):=by
 have dD:=hs.le
 have ct:=hl.le
 go_enter Tryz.func19,Tryz.ntmps19
 go_wp2_with fail
 refine (uE s hs _).mono ?_
 rintro en w1 ⟨v1,rfl,bU,dm⟩
 have z1:=bU.size
 rw [zQ,zQ] at z1
 obtain ⟨a1,c1,e1⟩:=zt dm
 have E1:=g_ e1
 have dS:Below w.heap.size w w1:=(((bZ w.heap.size w).alloc (hG _) _).alloc (by simp) _).trans (bU.mono (by simp;omega))
 have mH:w.heap.size<w1.heap.size:=by omega
 have rW:w.heap.size+1<w1.heap.size:=by omega
 have r0:w1.cell? ⟨w.heap.size,0,none⟩=some (.slice none 0 0):=by rw [bU.cell (by simp only [zQ];omega)];exact zK (by simp)
 have dH:w1.frozen? ⟨w.heap.size,0,none⟩=false:=by
  rw [bU.frozen (by simp only [zQ];omega)]
  rw [World.frozen?_of_block (w:=w.alloc (.cells #[.slice none 0 0] 35)) (Below.heap_alloc _ _ _ (by simp))];simp
 have hN:kR (w.heap.size+1) 0 (.slice none 0 0) (.slice none 0 0) w1:=by
  unfold kR;rw [bU.block _ (by simp)]
  have:=zO (w.alloc (.cells #[.slice none 0 0] 35)) (.cells #[str [],.int .i64 0,.slice none 0 0,.slice none 0 0] 43)
  rw [zQ] at this;exact this
 subst e1
 have fJ:Rep (w.heap.size+1 < ·) w1 (j0 (zU s).1) (.slice a1 (zU s).1.args.length c1):=(Rep.keep fun b o h ho=>⟨by have:=vz h;rw [zQ] at this;omega,ho⟩).1 _ _ dm
 have HS:Hid (zI s text=if (zU s).2=false\/2000<text.length then none else
  match rdN 101 (zU s).1.args text with
  | none=>none
  | some (b,rest)=>if rest=[]/\zD b<=200 then some b else none):=rfl
 have mI:=g_ (vQ (l:=s))
 generalize hT:(zU s).1=t at *
 generalize hO:(zU s).2=ok at *
 have HT:=g_ hT;clear hT hO dm
 obtain ⟨q0,q1,q2,q3,ql,qf⟩:=hN.cells
 have qf0:=qf 0;have qf1:=qf 1;have mq:=qf 2;have nD:=qf 3;clear qf
 by_cases b_:ok=true/\text.length<=2000
 rotate_left
 ·have hn:zI s text=none:=by
   rw [HS.out,if_pos]
   cases ok with
   | false=>exact .inl rfl
   | true=>exact .inr (by simp at b_;omega)
  have HN:=g_ hn;clear hn
  have b_:ok=false\/(ok=true/\(2000:Int)<(text.length:Int)):=by
   cases ok with
   | false=>exact .inl rfl
   | true=>exact .inr ⟨rfl,by simp at b_;omega⟩
  have h0:kR (w.heap.size+1) 0 (.slice none 0 0) (.slice none 0 0) (w1.setCell ⟨w.heap.size,0,none⟩ (.slice a1 t.args.length c1)):=by
   unfold kR;rw [bQ _ _ _ _ (by simp)];exact hN
  obtain ⟨W,hW,s0,s1,s2,s3,bE,bg⟩:=h0.store (.string ⟨#[]⟩) (.int .i64 0) (.slice none 0 0) (.slice none 0 0)
  have t0:W.cell? ⟨w.heap.size,0,none⟩=some (.slice a1 t.args.length c1):=vR (qj r0 _) fun x hx=>bg _ x (by simp) hx
  have mT:=bE _ _ (dS.setCell (p:=⟨w.heap.size,0,none⟩) (hG _) (.slice a1 t.args.length c1)) (by omega)
  have nx:Rep (w.heap.size<=·) W (j0 t) (.slice a1 t.args.length c1):=(Rep.keep fun b o h ho=>⟨by omega,bg b o (by omega) (by rw [bQ _ _ _ _ (by simp;omega)];exact ho)⟩).1 _ _ fJ
  have FIN:Hid (∀ o,qu s text w (.returned (.tuple #[.agg #[.slice a1 t.args.length c1],.agg #[str [],.int .i64 0,.slice none 0 0,.slice none 0 0],.bool false])) (W.alloc o)):=fun o =>
   qu.no (a:=a1) (c:=c1) (by rw [HT.out]) rfl HN.out (mT.alloc mT.size o) (by rw [HT.out];exact (Rep.keep fun b o h ho=>⟨h,zH ho⟩).1 _ _ nx)
  have HW:=g_ hW;clear h0 hW bE bg mT nx
  rcases b_ with rfl | ⟨rfl,h⟩
  all_goals
   go_wp2_with fail
   rw [<- HW.out]
   refine bodyPost_ret (v:=.tuple #[.agg #[.slice a1 t.args.length c1],.agg #[str [],.int .i64 0,.slice none 0 0,.slice none 0 0],.bool false]) (by simp [results,Tryz.results19,go_sem,zK t0,zK s0,zK s1,zK s2,zK s3]) rfl ?_
   exact FIN.out _
 obtain ⟨rfl,rF⟩:=b_
 have htl':¬ (2000:Int)<(text.length:Int):=by omega
 have bL:=mI.out rfl
 have hm:zI s text=(match rdN 101 t.args text with
  | none=>none
  | some (b,rest)=>if rest=[]/\zD b<=200 then some b else none):=by rw [HS.out,if_neg (by simp;omega)]
 have HM:=g_ hm;clear hm HS mI
 have hvE:=fJ
 rw [qA] at hvE
 have hho:=uR bL
 go_wp2_with fail
 refine (l3Read_any text hl 101 0 rfl (w.heap.size+1 < ·) t.args _ 0 _ (Nat.zero_le _) hho (by exact (Rep.keep fun b o h ho=>⟨h,zH ho⟩).1 _ _ hvE)).mono ?_
 rw [List.drop_zero]
 rintro en w2 ⟨s',v',a2,n2,c2,a3,n3,c3,k,rfl,bY,cr,ef⟩
 have z2:=bY.size
 rw [zQ] at z2
 have eo:Below w.heap.size w w2:=(dS.alloc (by omega) _).trans (bY.mono (by rw [zQ];omega))
 have r0':w2.cell? ⟨w.heap.size,0,none⟩=some (.slice none 0 0):=by rw [bY.cell (by rw [zQ];simp only;omega)];exact zK r0
 have rf0':w2.frozen? ⟨w.heap.size,0,none⟩=false:=by rw [bY.frozen (by rw [zQ];simp only;omega)];rw [World.frozen?_of_block (w:=w1) (Below.heap_alloc _ _ _ mH)];exact dH
 have hN':kR (w.heap.size+1) 0 (.slice none 0 0) (.slice none 0 0) w2:=by
  unfold kR;rw [bY.block _ (by rw [zQ];omega)];exact zH hN
 have hT2:w2.cell? ⟨w1.heap.size,0,none⟩=some (.slice a1 t.args.length c1):=by rw [bY.cell (by rw [zQ];simp only;omega)];simp
 have nM:Rep (w.heap.size+1 < ·) w2 (j0 t) (.slice a1 t.args.length c1):=(Rep.keep fun b o h ho=>⟨h,by rw [bY.block b (by have:=zZ ho;rw [zQ];omega)];exact zH ho⟩).1 _ _ fJ
 clear r0 dH hN q0 q1 q2 q3 ql qf0 qf1 mq nD hvE fJ hho
 obtain ⟨q0,q1,q2,q3,ql,qf⟩:=hN'.cells
 have qf0:=qf 0;have qf1:=qf 1;have mq:=qf 2;have nD:=qf 3;clear qf
 have y1:w.heap.size<w2.heap.size:=by omega
 have y2:w1.heap.size<w2.heap.size:=by omega
 have cX:=g_ bY;clear bY
 by_cases hk:k=(text.length:Int)
 rotate_left
 ·have g1:(k == (text.length:Int))=false:=by rw [beq_eq_false_iff_ne];exact hk
  have hn:zI s text=none:=by
   rw [HM.out]
   cases hq:rdN 101 t.args text with
   | none=>rfl
   | some x =>
     obtain ⟨b,rest⟩:=x
     have h1:=(ef b rest hq).1
     simp only
     rw [if_neg]
     rintro ⟨rfl,_⟩
     exact hk (by rw [h1];simp)
  have HN:=g_ hn
  clear hn hk cr ef
  have h0:kR (w.heap.size+1) 0 (.slice none 0 0) (.slice none 0 0) (w2.setCell ⟨w.heap.size,0,none⟩ (.slice a1 t.args.length c1)):=by
   unfold kR;rw [bQ _ _ _ _ (by simp)];exact hN'
  obtain ⟨W,hW,s0,s1,s2,s3,bE,bg⟩:=h0.store (str s') (.int .i64 v') (.slice a2 n2 c2) (.slice a3 n3 c3)
  have t0:W.cell? ⟨w.heap.size,0,none⟩=some (.slice a1 t.args.length c1):=vR (qj r0' _) fun x hx=>bg _ x (by simp) hx
  have mT:=bE _ _ (eo.setCell (p:=⟨w.heap.size,0,none⟩) (hG _) (.slice a1 t.args.length c1)) (by omega)
  have nx:Rep (w.heap.size<=·) W (j0 t) (.slice a1 t.args.length c1):=(Rep.keep fun b o h ho=>⟨by omega,bg b o (by omega) (by rw [bQ _ _ _ _ (by simp;omega)];exact ho)⟩).1 _ _ nM
  have FIN:Hid (∀ o,qu s text w (.returned (.tuple #[.agg #[.slice a1 t.args.length c1],.agg #[str s',.int .i64 v',.slice a2 n2 c2,.slice a3 n3 c3],.bool false])) (W.alloc o).drew):=fun o =>
   qu.no (a:=a1) (c:=c1) (by rw [HT.out]) rfl HN.out ((mT.alloc mT.size o).drew) (by rw [HT.out];exact ((Rep.keep fun b o h ho=>⟨h,zH ho⟩).1 _ _ nx).drew)
  have HW:=g_ hW;clear h0 hW bE bg mT nx
  go_wp2_with fail
  go_region
  go_wp2_with fail
  rw [<- HW.out]
  refine bodyPost_ret (v:=.tuple #[.agg #[.slice a1 t.args.length c1],.agg #[str s',.int .i64 v',.slice a2 n2 c2,.slice a3 n3 c3],.bool false]) (by simp [results,Tryz.results19,go_sem,zK t0,zK s0,zK s1,zK s2,zK s3]) rfl ?_
  exact FIN.out _
 obtain ⟨b,hqb⟩:∃ b,rdN 101 t.args text=some (b,[]):=by
  cases hq:rdN 101 t.args text with
  | none=>have:=cr hq;omega
  | some x =>
    obtain ⟨b,rest⟩:=x
    have h1:=(ef b rest hq).1
    have:rest.length=0:=by omega
    rw [List.eq_nil_of_length_eq_zero this];exact ⟨b,rfl⟩
 have hrB:=(ef b [] hqb).2
 have bN:=rdN_size 101 hqb
 have hm:zI s text=if zD b<=200 then some b else none:=by
  rw [HM.out,hqb];simp
 have HM:=g_ hm
 have hlB:Lim (zD b):=hl.mono (by simp at bN;omega)
 have g1:(k == (text.length:Int))=true:=by rw [beq_iff_eq];exact hk
 clear hm hqb cr ef bN
 have HK:=g_ hk;clear hk
 have mg:zC (w.heap.size+1 < ·) (w2.alloc (.cells #[str s',.int .i64 v',.slice a2 n2 c2,.slice a3 n3 c3] 43)) (qk b) [str s',.int .i64 v',.slice a2 n2 c2,.slice a3 n3 c3] :=
  (Rep.keep fun b o h ho=>⟨by have:=vz h;omega,zH ho⟩).2 _ _ hrB
 have hTA:(w2.alloc (.cells #[str s',.int .i64 v',.slice a2 n2 c2,.slice a3 n3 c3] 43)).cell? ⟨w1.heap.size,0,none⟩=some (.slice a1 t.args.length c1):=zK hT2
 have n0:(w2.alloc (.cells #[str s',.int .i64 v',.slice a2 n2 c2,.slice a3 n3 c3] 43)).cell? ⟨w2.heap.size,0,none⟩=some (str s'):=by simp
 have n1:(w2.alloc (.cells #[str s',.int .i64 v',.slice a2 n2 c2,.slice a3 n3 c3] 43)).cell? ⟨w2.heap.size,1,none⟩=some (.int .i64 v'):=by simp
 have n2':(w2.alloc (.cells #[str s',.int .i64 v',.slice a2 n2 c2,.slice a3 n3 c3] 43)).cell? ⟨w2.heap.size,2,none⟩=some (.slice a2 n2 c2):=by simp
 have n3':(w2.alloc (.cells #[str s',.int .i64 v',.slice a2 n2 c2,.slice a3 n3 c3] 43)).cell? ⟨w2.heap.size,3,none⟩=some (.slice a3 n3 c3):=by simp
 have mA:KeepS w1.heap.size w2.heap.size (.slice a1 t.args.length c1) (str s') (.int .i64 v') (.slice a2 n2 c2) (.slice a3 n3 c3) (w2.alloc (.cells #[str s',.int .i64 v',.slice a2 n2 c2,.slice a3 n3 c3] 43)):=⟨hTA,n0,n1,n2',n3'⟩
 have hK3d:KeepS w1.heap.size w2.heap.size (.slice a1 t.args.length c1) (str s') (.int .i64 v') (.slice a2 n2 c2) (.slice a3 n3 c3) (w2.alloc (.cells #[str s',.int .i64 v',.slice a2 n2 c2,.slice a3 n3 c3] 43)).drew:=mA
 have eC:w1.heap.size≠w.heap.size:=by omega
 have sL:w2.heap.size≠w.heap.size:=by omega
 have cn:w1.heap.size≠w.heap.size+1:=by omega
 have cl:w2.heap.size≠w.heap.size+1:=by omega
 clear hTA n0 n1 n2' n3'
 go_wp2_with fail
 go_region_held3 (fun w'=>w'.cell? ⟨w1.heap.size,0,none⟩=some (.slice a1 t.args.length c1)/\w'.cell? ⟨w2.heap.size,0,none⟩=some (str s')/\w'.cell? ⟨w2.heap.size,1,none⟩=some (.int .i64 v')/\w'.cell? ⟨w2.heap.size,2,none⟩=some (.slice a2 n2 c2)/\w'.cell? ⟨w2.heap.size,3,none⟩=some (.slice a3 n3 c3))
  (first
   | with_reducible exact mA
   | with_reducible exact hK3d
   | with_reducible exact du
   | with_reducible exact du.set _ _ _ eC sL
   | with_reducible exact (du.set _ _ _ eC sL).set _ _ _ cn cl
   | with_reducible exact ((du.set _ _ _ eC sL).set _ _ _ cn cl).set _ _ _ cn cl
   | with_reducible exact (((du.set _ _ _ eC sL).set _ _ _ cn cl).set _ _ _ cn cl).set _ _ _ cn cl
   | with_reducible exact ((((du.set _ _ _ eC sL).set _ _ _ cn cl).set _ _ _ cn cl).set _ _ _ cn cl).set _ _ _ cn cl
   | with_reducible exact du.set _ _ _ cn cl
   | with_reducible exact (du.set _ _ _ cn cl).set _ _ _ cn cl
   | with_reducible exact ((du.set _ _ _ cn cl).set _ _ _ cn cl).set _ _ _ cn cl
   | with_reducible exact (((du.set _ _ _ cn cl).set _ _ _ cn cl).set _ _ _ cn cl).set _ _ _ cn cl
   | with_reducible exact ((((du.set _ _ _ cn cl).set _ _ _ cn cl).set _ _ _ cn cl).set _ _ _ cn cl).set _ _ _ eC sL)
  (first
   | (go_at_call 45;refine (l3Size_any (zD b) b (hG _) hlB (w.heap.size+1 < ·) _ _ _ _ _ _ _ _ _ (by exact mg.drew)).mono ?_;rintro en w5 ⟨rfl,bF⟩;have du:KeepS w1.heap.size w2.heap.size (.slice a1 t.args.length c1) (str s') (.int .i64 v') (.slice a2 n2 c2) (.slice a3 n3 c3) w5:=⟨(bF.cell (by simp;omega)).trans mA.1,(bF.cell (by simp)).trans mA.2.1,(bF.cell (by simp)).trans mA.2.2.1,(bF.cell (by simp)).trans mA.2.2.2.1,(bF.cell (by simp)).trans mA.2.2.2.2⟩;have z5:=bF.size;have hz5:w.heap.size<w5.heap.size:=(by simp at z5;omega);have r5:w5.cell? ⟨w.heap.size,0,none⟩=some (.slice none 0 0):=(bF.cell (by simp;omega)).trans (zK r0');have f5:w5.frozen? ⟨w.heap.size,0,none⟩=false:=(bF.frozen (by simp;omega)).trans ((World.frozen?_of_block (w:=w2) (Below.heap_alloc _ _ _ y1)).trans rf0');have hN5:kR (w.heap.size+1) 0 (.slice none 0 0) (.slice none 0 0) w5:=(by unfold kR;rw [bF.block _ (by simp;omega)];exact zH hN');obtain ⟨p0,p1,p2,p3,pl,pf⟩:=hN5.cells;have pf0:=pf 0;have tY:=pf 1;have pf2:=pf 2;have pf3:=pf 3;clear pf))
 go_wp2_with fail
 have h0:kR (w.heap.size+1) 0 (.slice none 0 0) (.slice none 0 0) (w5.setCell ⟨w.heap.size,0,none⟩ (.slice a1 t.args.length c1)):=by
  unfold kR;rw [bQ _ _ _ _ (by simp)];exact hN5
 obtain ⟨W,hW,s0,s1,s2,s3,bE,bg⟩:=h0.store (str s') (.int .i64 v') (.slice a2 n2 c2) (.slice a3 n3 c3)
 have t0:W.cell? ⟨w.heap.size,0,none⟩=some (.slice a1 t.args.length c1):=vR (qj r5 _) fun x hx=>bg _ x (by simp) hx
 have ca:Below w2.heap.size w2 w5:=((((bZ _ _).alloc (hG _) _).drew).trans (bF.mono (by simp)))
 have si:=zzT eo ca
 have mT:=bE _ _ (si.setCell (p:=⟨w.heap.size,0,none⟩) (hG _) (.slice a1 t.args.length c1)) (by omega)
 have keepF:∀ i o,w.heap.size+1<i->w2.heap[i]? = some o->W.heap[i]? = some o:=fun i o h ho =>
  bg i o (by omega) (by rw [bQ _ _ _ _ (by simp;omega),ca.block i (zZ ho)];exact ho)
 have nx:Rep (w.heap.size<=·) W (j0 t) (.slice a1 t.args.length c1):=(Rep.keep fun b o h ho=>⟨by omega,keepF b o h ho⟩).1 _ _ nM
 have hrN:zC (w.heap.size<=·) W (qk b) [str s',.int .i64 v',.slice a2 n2 c2,.slice a3 n3 c3]:=(Rep.keep fun b o h ho=>⟨by have:=vz h;omega,keepF b o (by have:=vz h;omega) ho⟩).2 _ _ hrB
 rw [<- hW]
 refine bodyPost_ret (v:=.tuple #[.agg #[.slice a1 t.args.length c1],.agg #[str s',.int .i64 v',.slice a2 n2 c2,.slice a3 n3 c3],.bool (decide ((zD b:Int)<=200))]) (by simp [results,Tryz.results19,go_sem,t0,s0,s1,s2,s3]) rfl ?_
 by_cases iD:zD b<=200
 ·refine qu.yes (a:=a1) (c:=c1) (by rw [HT.out]) (by rw [decide_eq_true_eq];omega) (by rw [HM.out,if_pos iD]) mT (by rw [HT.out];exact nx) hrN
 ·exact qu.no (a:=a1) (c:=c1) (by rw [HT.out]) (by rw [decide_eq_false_iff_not];omega) (by rw [HM.out,if_neg iD]) mT (by rw [HT.out];exact nx)
theorem uS (c:UInt8):dig c=true↔48<=c.toNat/\c.toNat<=57:=by
 simp [dig,UInt8.le_iff_toNat_le]
theorem qa {k:Nat} (h:k<10):(UInt8.ofNat (48+k)).toNat=48+k:=by
 rw [UInt8.toNat_ofNat'];exact Nat.mod_eq_of_lt (by omega)
theorem decDigits_dig (u:Nat):∀ c∈Lib.decDigits u,dig c=true:=by
 induction u using Nat.strongRecOn with
 | _ u ih =>
   intro c hc
   rw [Lib.decDigits] at hc
   split at hc
   ·rename_i h
    rw [List.mem_singleton] at hc;subst hc
    rw [uS,qa h];omega
   ·rename_i h
    rcases List.mem_append.1 hc with hc | hc
    ·exact ih _ (by omega) c hc
    ·simp only [List.mem_singleton] at hc;subst hc
     rw [uS,qa (by omega)];omega
theorem decDigits_val (u:Nat):qY (Lib.decDigits u)=u:=by
 induction u using Nat.strongRecOn with
 | _ u ih =>
   rw [Lib.decDigits]
   split
   ·rename_i h
    show 10*0+((UInt8.ofNat (48+u)).toNat-48)=u
    rw [qa h];omega
   ·rename_i h
    rw [yu,ih _ (by omega),qa (by omega)];omega
theorem xk (u:Nat):Lib.decDigits u≠[]:=by
 intro h
 have:=Lib.decDigits_length u
 have:=Lib.nDigits_pos u
 rw [h] at *;simp at *;omega
theorem gj (u:Nat) (h1:1<=u):(Lib.decDigits u).head?≠some 48:=by
 induction u using Nat.strongRecOn with
 | _ u ih =>
   rw [Lib.decDigits]
   split
   ·rename_i h
    intro e
    rw [List.head?_cons,Option.some.injEq] at e
    have:=qa h
    rw [e] at this
    have fK:(48:UInt8).toNat=48:=rfl
    omega
   ·rename_i h
    rw [List.head?_append]
    have:=ih (u / 10) (by omega) (by omega)
    have hne:=xk (u / 10)
    cases hd:Lib.decDigits (u / 10) with
    | nil=>exact absurd hd hne
    | cons x xs=>rw [hd] at this;simpa using this
theorem pE {u:Nat} (h:u<10000):(Lib.decDigits u).length<=4:=by
 rw [Lib.decDigits_length]
 by_cases h1:u<10
 ·rw [Lib.nDigits_small h1];omega
 rw [Lib.nDigits_big h1]
 by_cases h2:u / 10<10
 ·rw [Lib.nDigits_small h2];omega
 rw [Lib.nDigits_big h2]
 by_cases h3:u / 10 / 10<10
 ·rw [Lib.nDigits_small h3];omega
 rw [Lib.nDigits_big h3]
 rw [Lib.nDigits_small (by omega)];omega
theorem fold_ge (l:Bs):∀ a:Nat,a<=l.foldl (fun n c=>10*n+(c.toNat-48)) a:=by
 induction l with
 | nil=>intro a;simp
 | cons c cs ih=>intro a;simp only [List.foldl_cons];have:=ih (10*a+(c.toNat-48));omega
theorem valOf_pos {l:Bs} (hd:∀ c∈l,dig c=true) (hn:l≠[]) (fK:l.head?≠some 48):1<=qY l:=by
 cases l with
 | nil=>exact absurd rfl hn
 | cons c cs =>
   have h1:=(uS c).1 (hd c (by simp))
   have h2:c.toNat≠48:=fun e=>fK (by simp;exact UInt8.toNat_inj.1 (by simpa using e))
   have:=fold_ge cs (10*0+(c.toNat-48))
   show 1<=cs.foldl _ (10*0+(c.toNat-48))
   omega
theorem xz (n:Nat):∀ w:Bs,w.length=n->w≠[]->(∀ c∈w,dig c=true)->(1<w.length->w.head?≠some 48)->Lib.decDigits (qY w)=w:=by
 induction n with
 | zero=>intro w hl hn;exact absurd (List.eq_nil_of_length_eq_zero hl) hn
 | succ n ih =>
   intro w hl hn hd hh
   obtain ⟨ws,c,rfl⟩:∃ ws c,w=ws++[c]:=⟨w.dropLast,w.getLast hn,(List.dropLast_concat_getLast hn).symm⟩
   have hc:=(uS c).1 (hd c (by simp))
   have hof:UInt8.ofNat (48+(c.toNat-48))=c:=by
    apply UInt8.toNat_inj.1;rw [qa (by omega)];omega
   rw [yu]
   by_cases tE:ws=[]
   ·subst tE
    show Lib.decDigits (10*0+(c.toNat-48))=[c]
    rw [Lib.decDigits_one (by omega),show 48+(10*0+(c.toNat-48))=48+(c.toNat-48) from by omega,hof]
   ·have dZ:1<=ws.length:=by cases ws with
     | nil=>exact absurd rfl tE
     | cons x xs=>simp
    have fK:ws.head?≠some 48:=by
     have:=hh (by simp;omega)
     rw [List.head?_append] at this
     cases ws with
     | nil=>exact absurd rfl tE
     | cons x xs=>simpa using this
    have hdw:∀ x∈ws,dig x=true:=fun x hx=>hd x (by simp [hx])
    have hp:=valOf_pos hdw tE fK
    have hi:=ih ws (by simpa using hl) tE hdw (fun _=>fK)
    rw [Lib.decDigits,dif_neg (by omega),show (10*qY ws+(c.toNat-48)) / 10=qY ws from by omega,show (10*qY ws+(c.toNat-48)) % 10=c.toNat-48 from by omega,hi,hof]
theorem decFrom_of (l:Bs):∀ a:Nat,(∀ c∈l,dig c=true)->Lib.decFrom a l=some (l.foldl (fun n c=>10*n+(c.toNat-48)) a):=by
 induction l with
 | nil=>intro a _;rfl
 | cons c cs ih =>
   intro a hd
   have hc:=(uS c).1 (hd c (by simp))
   simp only [Lib.decFrom,Lib.digitVal,if_pos hc,List.foldl_cons]
   rw [Nat.mul_comm a 10]
   exact ih _ fun x hx=>hd x (by simp [hx])
theorem lvl_spec {w:Bs} {n v:Nat} (h:lvl w n=some v) (hn:n<=10000):w≠[]/\w.length<=4/\(∀ c∈w,dig c=true)/\(1<w.length->w.head?≠some 48)/\qY w=v/\v<n:=by
 obtain ⟨h1,_,h3⟩:=lvl_lt h
 have e:Lib.itoa (v:Int)=Lib.decDigits v:=by unfold Lib.itoa;rw [if_neg (by omega)];simp
 rw [e] at h3
 subst h3
 refine ⟨xk v,pE (by omega),decDigits_dig v,fun hl=>?_,decDigits_val v,h1⟩
 refine gj v ?_
 rcases Nat.eq_zero_or_pos v with h0 | h0
 ·subst h0;rw [Lib.decDigits_one (by omega)] at hl;simp at hl
 ·exact h0
theorem spec_lvl {w:Bs} {n:Nat} (h1:w≠[]) (h2:w.length<=4) (h3:∀ c∈w,dig c=true) (h4:1<w.length->w.head?≠some 48) (h5:qY w<n):lvl w n=some (qY w):=by
 have ha:Lib.atoiAll w=.ok (qY w:Int):=by
  rw [Lib.atoiAll_short w (by omega)]
  cases w with
  | nil=>exact absurd rfl h1
  | cons c cs =>
    have hc:=(uS c).1 (h3 c (by simp))
    have n45:(c == 45)=false:=by rw [beq_eq_false_iff_ne];rintro rfl;have:(45:UInt8).toNat=45:=rfl;omega
    have n43:(c == 43)=false:=by rw [beq_eq_false_iff_ne];rintro rfl;have:(43:UInt8).toNat=43:=rfl;omega
    simp only [Lib.atoi,n45,n43,Bool.false_eq_true,if_false,Lib.decNat,List.isEmpty_cons]
    rw [decFrom_of _ 0 h3];rfl
 have hi:Lib.itoa (qY w:Int)=w:=by
  have e:Lib.itoa (qY w:Int)=Lib.decDigits (qY w):=by unfold Lib.itoa;rw [if_neg (by omega)];simp
  rw [e,xz w.length w rfl h1 h3 h4]
 unfold lvl
 rw [ha]
 simp only
 rw [if_pos ⟨hi,by omega,by omega⟩];simp
def km (l:Bs):Prop:=l=[]\/∃ c r,l=c::r/\sep c=true
theorem pT {c:UInt8} (h:dig c=true):sep c=false:=by
 have:=(uS c).1 h
 rw [Bool.eq_false_iff];intro hs
 simp only [sep,Bool.or_eq_true,beq_iff_eq] at hs
 rcases hs with (rfl | rfl) | rfl
 ·have:(32:UInt8).toNat=32:=rfl;omega
 ·have:(40:UInt8).toNat=40:=rfl;omega
 ·have:(41:UInt8).toNat=41:=rfl;omega
theorem qr (l:Bs):l=zY l++zV l:=(List.takeWhile_append_dropWhile).symm
theorem wordDrop (l:Bs):l.drop (zY l).length=zV l:=by
 have h:=qr l
 generalize zY l=a at *
 generalize zV l=b at *
 subst h;simp
theorem up (l:Bs):km (zV l):=by
 unfold zV
 induction l with
 | nil=>exact .inl rfl
 | cons c cs ih =>
   rw [List.dropWhile_cons]
   split
   ·exact ih
   ·rename_i h;exact .inr ⟨c,cs,rfl,by simpa using h⟩
theorem yP {w rest:Bs} (hw:∀ c∈w,sep c=false) (hr:km rest):zY (w++rest)=w/\zV (w++rest)=rest:=by
 unfold zY zV
 induction w with
 | nil =>
   rcases hr with rfl | ⟨c,r,rfl,hc⟩
   ·exact ⟨rfl,rfl⟩
   ·simp [hc]
 | cons x xs ih =>
   have hx:=hw x (by simp)
   have:=ih fun c hc=>hw c (by simp [hc])
   simp [hx,this.1,this.2]
theorem digsOf_of {w rest:Bs} (hw:∀ c∈w,dig c=true) (hl:w.length<=4) (hr:km rest):kZ (w++rest)=w:=by
 unfold kZ
 rw [List.take_append,List.take_of_length_le hl]
 have key:(rest.take (4-w.length)).takeWhile dig=[]:=by
  rcases hr with rfl | ⟨c,r,rfl,hc⟩
  ·simp
  ·cases 4-w.length with
   | zero=>rfl
   | succ k =>
     rw [List.take_succ_cons,List.takeWhile_cons,if_neg]
     intro h;rw [pT h] at hc;simp at hc
 rw [List.takeWhile_append_of_pos (fun c hc=>hw c hc),key,List.append_nil]
theorem jc {c:UInt8} {r:Bs}:cut [c] (c::r)=some r:=by simp [cut,List.isPrefixOf]
theorem x_ (rd:RdS) (hs gs:List (List Ty)):∀ {l:Bs} {bs:List Bd} {l1:Bs} {cs:List Bd} {l2:Bs},zP rd hs l=some (bs,l1)->zP rd gs l1=some (cs,l2)->zP rd (hs++gs) l=some (bs++cs,l2):=by
 induction hs with
 | nil=>intro l bs l1 cs l2 h k;simp [zP] at h;obtain ⟨rfl,rfl⟩:=h;simpa using k
 | cons h' hs ih =>
   intro l bs l1 cs l2 h k
   simp only [zP,Option.bind_eq_bind,Option.bind_eq_some_iff,Prod.exists] at h
   obtain ⟨b,m,h1,bs',m',h2,h3⟩:=h
   simp at h3;obtain ⟨rfl,rfl⟩:=h3
   simp only [List.cons_append,zP,Option.bind_eq_bind,h1,Option.bind_some,ih h2 k]
def RdFits (rd:Rd) (rs:RdS) (h:List Ty):Prop:=∀ (left:Nat) (l:Bs) (b:Bd) (r:Bs) (f:Nat),rd h left l=some (b,r,f)->rs h l=some (b,r)/\f+zD b=left/\l.length+1<=r.length+7*zD b
theorem parts_fit {rd:Rd} {rs:RdS} (hs:List (List Ty)) (hf:∀ h∈hs,RdFits rd rs h):∀ {left:Nat} {l:Bs} {bs:List Bd} {r:Bs} {f:Nat},zx rd hs left l=some (bs,r,f)->zP rs hs l=some (bs,r)/\f+zE bs=left/\l.length<=r.length+7*zE bs:=by
 induction hs with
 | nil=>intro left l bs r f h;simp [zx] at h;obtain ⟨rfl,rfl,rfl⟩:=h;simp [zP,zE]
 | cons h' hs ih =>
   intro left l bs r f h
   simp only [zx,Option.bind_eq_bind,Option.bind_eq_some_iff,Prod.exists] at h
   obtain ⟨l1,h1,b,l2,f2,h2,bs',l3,f3,h3,h4⟩:=h
   simp at h4;obtain ⟨rfl,rfl,rfl⟩:=h4
   obtain ⟨a1,a2,a3⟩:=hf h' (by simp) _ _ _ _ _ h2
   obtain ⟨b1,b2,b3⟩:=ih (fun x hx=>hf x (by simp [hx])) h3
   have hc:=qi h1
   refine ⟨?_,by simp [zE];omega,by subst hc;simp [zE];omega⟩
   simp only [zP,kK,h1,Option.bind_eq_bind,Option.bind_some,a1,b1]
theorem pI {l:Bs} {c:UInt8} (h:zY l=[c]):l=c::zV l:=by
 have:=qr l
 rw [h] at this;simpa using this
theorem specNum_of {w rest:Bs} (h1:w≠[]) (h2:w.length<=4) (h3:∀ c∈w,dig c=true) (h4:1<w.length->w.head?≠some 48) (hr:km rest):qM (w++rest)=some (qY w,w.length):=by
 unfold qM
 rw [digsOf_of h3 h2 hr,if_neg]
 rintro (h | ⟨h,h'⟩)
 ·exact h1 h
 ·apply h4 h
  cases w with
  | nil=>exact absurd rfl h1
  | cons x xs=>simpa using h'
theorem rdB_fits (d:Nat):∀ levels,qV d levels->RdFits (rdB d) (rdN (d+1)) levels:=by
 induction d with
 | zero =>
   intro levels hh left l b r f h
   rcases left with _ | left
   ·simp [rdB] at h
   rcases zq [40] l with h1 | ⟨r1,h1⟩
   ·rw [xJ 0 levels left h1.out] at h
    have key:∀ c:UInt8,(c=116\/c=102\/c=117)->zY l=[c]->rdN 1 levels l=some (.leaf c,zV l)/\left+zD (.leaf c)=left+1/\l.length+1<=(zV l).length+7*zD (.leaf c):=by
     intro c hc hw
     have e:=pI hw
     refine ⟨?_,rfl,?_⟩
     ·conv=>lhs;rw [e]
      simp only [rdN,if_pos hc]
     ·have:=congrArg List.length e;simp at this;simp [zD];omega
    split at h
    ·rename_i hw;simp at h;obtain ⟨rfl,rfl,rfl⟩:=h;exact key _ (by decide) hw
    ·split at h
     ·rename_i hw;simp at h;obtain ⟨rfl,rfl,rfl⟩:=h;exact key _ (by decide) hw
     ·split at h
      ·rename_i hw;simp at h;obtain ⟨rfl,rfl,rfl⟩:=h;exact key _ (by decide) hw
      ·simp at h
   ·rw [xV 0 levels left h1.out] at h
    cases hv:lvl (zY r1) levels.length with
    | none=>rw [hv] at h;simp at h
    | some v=>rw [hv] at h;simp at h
 | succ d ih =>
   intro levels hh left l b r f h
   rcases left with _ | left
   ·simp [rdB] at h
   rcases zq [40] l with h1 | ⟨r1,h1⟩
   ·rw [xJ (d+1) levels left h1.out] at h
    have key:∀ c:UInt8,(c=116\/c=102\/c=117)->zY l=[c]->rdN (d+1+1) levels l=some (.leaf c,zV l)/\left+zD (.leaf c)=left+1/\l.length+1<=(zV l).length+7*zD (.leaf c):=by
     intro c hc hw
     have e:=pI hw
     refine ⟨?_,rfl,?_⟩
     ·conv=>lhs;rw [e]
      simp only [rdN,if_pos hc]
     ·have:=congrArg List.length e;simp at this;simp [zD];omega
    split at h
    ·rename_i hw;simp at h;obtain ⟨rfl,rfl,rfl⟩:=h;exact key _ (by decide) hw
    ·split at h
     ·rename_i hw;simp at h;obtain ⟨rfl,rfl,rfl⟩:=h;exact key _ (by decide) hw
     ·split at h
      ·rename_i hw;simp at h;obtain ⟨rfl,rfl,rfl⟩:=h;exact key _ (by decide) hw
      ·simp at h
   ·rw [xV (d+1) levels left h1.out] at h
    cases hv:lvl (zY r1) levels.length with
    | none=>rw [hv] at h;simp at h
    | some v =>
      rw [hv] at h
      simp only at h
      cases ht:levels[v]? with
      | none=>rw [ht] at h;simp at h
      | some t =>
        rw [ht] at h
        simp only [gK,Option.bind_eq_bind,Option.bind_eq_some_iff,Prod.exists] at h
        obtain ⟨ss,l1,f1,h2,yn,l2,f2,h3,h4⟩:=h
        have hl:levels.length<=10000:=by have:=hh.2;omega
        obtain ⟨w1,w2,w3,w4,w5,w6⟩:=lvl_spec hv hl
        split at h4
        ·rename_i y n
         simp only [Option.bind_eq_some_iff] at h4
         obtain ⟨l3,h5,h6⟩:=h4
         simp at h6;obtain ⟨rfl,rfl,rfl⟩:=h6
         have k1:=parts_fit (rs:=rdN (d+1)) (t.args.map fun a=>levels++a.args) (fun x hx=>by
          obtain ⟨a,ha,rfl⟩:=List.mem_map.1 hx
          exact ih _ (hh.next ht ha)) h2
         have dO:qV d levels:=by have:=hh.same;rwa [List.append_nil] at this
         have k2:=parts_fit (rs:=rdN (d+1)) [levels,levels] (fun x hx=>by
          have:x=levels:=by simpa using hx
          subst this;exact ih _ dO) h3
         have hln:=(uH (gZ d) _ h2).2.2
         rw [List.length_map] at hln
         have hc:=qi h5
         have c_:=qi h1.out
         have hw:=qr r1
         have th:=specNum_of (rest:=zV r1) w1 w2 w3 w4 (up r1)
         rw [<- hw,w5] at th
         have ce:zP (rdN (d+1)) (k_ levels t) (zV r1)=some (ss++[y,n],l2):=x_ _ _ _ k1.1 k2.1
         refine ⟨?_,?_,?_⟩
         ·conv=>lhs;rw [c_]
          rw [rdN]
          rw [if_neg (by decide),if_neg (by decide),th]
          simp only [ht]
          rw [wordDrop]
          simp only [ce,Option.bind_eq_bind,Option.bind_some,h5,uv]
          rw [List.drop_left' hln,List.take_left' hln];rfl
         ·have a1:=k1.2.1;have a2:=k2.2.1
          simp [zD,zE] at a1 a2 ⊢;omega
         ·have a1:=k1.2.2;have a2:=k2.2.2
          have dZ:=congrArg List.length hw
          have mS:=congrArg List.length hc
          have hc1l:=congrArg List.length c_
          simp [zD,zE] at a1 a2 dZ mS hc1l ⊢;omega
        ·simp at h4
theorem vG {rs:RdS} {hs:List (List Ty)} {l:Bs} {ps:List Bd} {r:Bs} (h:zP rs hs l=some (ps,r)) (hr:km r):km l:=by
 cases hs with
 | nil=>simp [zP] at h;obtain ⟨_,rfl⟩:=h;exact hr
 | cons h' hs =>
   simp only [zP,kK,Option.bind_eq_bind,Option.bind_eq_some_iff,Prod.exists] at h
   obtain ⟨_,_,⟨l1,h1,_⟩,_⟩:=h
   have:=qi h1
   exact .inr ⟨32,l1,this,rfl⟩
def RdBack (rd:Rd) (rs:RdS) (h:List Ty):Prop:=∀ (left:Nat) (l:Bs) (b:Bd) (r:Bs),rs h l=some (b,r)->km r->zD b<=left->rd h left l=some (b,r,left-zD b)
theorem gQ {rd:Rd} {rs:RdS} (hs:List (List Ty)) (hf:∀ h∈hs,RdBack rd rs h):∀ (left:Nat) (l:Bs) (ps:List Bd) (r:Bs),zP rs hs l=some (ps,r)->km r->zE ps<=left->zx rd hs left l=some (ps,r,left-zE ps):=by
 induction hs with
 | nil=>intro left l ps r h _ _;simp [zP] at h;obtain ⟨rfl,rfl⟩:=h;simp [zx,zE]
 | cons h' hs ih =>
   intro left l ps r h hr bN
   simp only [zP,kK,Option.bind_eq_bind,Option.bind_eq_some_iff,Prod.exists] at h
   obtain ⟨b,l2,⟨l1,h1,h2⟩,bs,l3,h3,h4⟩:=h
   simp at h4;obtain ⟨rfl,rfl⟩:=h4
   simp [zE] at bN
   have hb:=hf h' (by simp) left l1 b l2 h2 (vG h3 hr) (by omega)
   have hbs:=ih (fun x hx=>hf x (by simp [hx])) (left-zD b) l2 bs l3 h3 hr (by omega)
   simp only [zx,h1,Option.bind_eq_bind,Option.bind_some,hb,hbs]
   simp [zE];omega
theorem pW (rs:RdS) (hs gs:List (List Ty)):∀ {l:Bs} {ps:List Bd} {r:Bs},zP rs (hs++gs) l=some (ps,r)->∃ bs l1 cs,ps=bs++cs/\zP rs hs l=some (bs,l1)/\zP rs gs l1=some (cs,r):=by
 induction hs with
 | nil=>intro l ps r h;exact ⟨[],l,ps,rfl,rfl,h⟩
 | cons h' hs ih =>
   intro l ps r h
   simp only [List.cons_append,zP,Option.bind_eq_bind,Option.bind_eq_some_iff,Prod.exists] at h
   obtain ⟨b,m,h1,bs',m',h2,h3⟩:=h
   simp at h3;obtain ⟨rfl,rfl⟩:=h3
   obtain ⟨bs,l1,cs,rfl,a1,a2⟩:=ih h2
   refine ⟨b::bs,l1,cs,rfl,?_,a2⟩
   simp only [zP,Option.bind_eq_bind,h1,Option.bind_some,a1]
theorem xZ {m:Bs} {v k:Nat} (h:qM m=some (v,k)):kZ m≠[]/\v=qY (kZ m)/\k=(kZ m).length/\(1<(kZ m).length->(kZ m).head?≠some 48):=by
 unfold qM at h
 split at h
 ·simp at h
 ·rename_i hc
  simp at h
  refine ⟨fun e=>hc (.inl e),h.1.symm,h.2.symm,fun h1 h2=>hc (.inr ⟨h1,?_⟩)⟩
  have hp:=j9 m
  obtain ⟨x,hx⟩:=hp
  cases hd:kZ m with
  | nil=>rw [hd] at h1;simp at h1
  | cons y ys=>rw [hd] at hx h2;rw [<- hx];simpa using h2
theorem rdN_back (d:Nat):∀ levels,qV d levels->RdBack (rdB d) (rdN (d+1)) levels:=by
 induction d with
 | zero =>
   intro levels hh left l b r h hr bN
   obtain ⟨left,rfl⟩:∃ x,left=x+1:=⟨left-1,by have:=zf b;omega⟩
   cases l with
   | nil=>simp [rdN] at h
   | cons c m =>
     simp only [rdN] at h
     split at h
     ·rename_i hc
      simp at h;obtain ⟨rfl,rfl⟩:=h
      have bf:cut [40] (c::m)=none:=by
       rcases hc with rfl | rfl | rfl <;> simp [cut,List.isPrefixOf]
      have hw:=yP (w:=[c]) (rest:=m) (fun x hx=>by
       have:x=c:=by simpa using hx
       subst this;rcases hc with rfl | rfl | rfl <;> decide) hr
      rw [List.singleton_append] at hw
      rw [xJ 0 levels left bf,hw.1,hw.2]
      rcases hc with rfl | rfl | rfl <;> simp [zD]
     ·split at h
      ·simp at h
      ·split at h
       ·simp at h
       ·split at h
        ·simp at h
        ·exfalso
         simp only [Option.bind_eq_bind,Option.bind_eq_some_iff,Prod.exists] at h
         obtain ⟨ps,l1,h1,_⟩:=h
         rename_i t _ _
         cases ha:k_ levels t with
         | nil=>have:=vC levels t;rw [ha] at this;simp at this
         | cons x xs=>rw [ha] at h1;simp [zP,kK] at h1
 | succ d ih =>
   intro levels hh left l b r h hr bN
   obtain ⟨left,rfl⟩:∃ x,left=x+1:=⟨left-1,by have:=zf b;omega⟩
   cases l with
   | nil=>simp [rdN] at h
   | cons c m =>
     rw [rdN] at h
     simp only at h
     split at h
     ·rename_i hc
      simp at h;obtain ⟨rfl,rfl⟩:=h
      have bf:cut [40] (c::m)=none:=by
       rcases hc with rfl | rfl | rfl <;> simp [cut,List.isPrefixOf]
      have hw:=yP (w:=[c]) (rest:=m) (fun x hx=>by
       have:x=c:=by simpa using hx
       subst this;rcases hc with rfl | rfl | rfl <;> decide) hr
      rw [List.singleton_append] at hw
      rw [xJ (d+1) levels left bf,hw.1,hw.2]
      rcases hc with rfl | rfl | rfl <;> simp [zD]
     ·split at h
      ·simp at h
      ·rename_i bf
       have bf:c=40:=by simpa using bf
       subst bf
       cases hn:qM m with
       | none=>rw [hn] at h;simp at h
       | some x =>
         obtain ⟨v,k⟩:=x
         rw [hn] at h
         simp only at h
         cases ht:levels[v]? with
         | none=>rw [ht] at h;simp at h
         | some t =>
           rw [ht] at h
           simp only [Option.bind_eq_bind,Option.bind_eq_some_iff,Prod.exists] at h
           obtain ⟨ps,l2,h1,l3,h2,b',h3,h4⟩:=h
           simp at h4;obtain ⟨rfl,rfl⟩:=h4
           have hc:=qi h2
           have rT:km l2:=.inr ⟨41,l3,hc,rfl⟩
           have dF:=vG h1 rT
           obtain ⟨n1,n2,n3,n4⟩:=xZ hn
           obtain ⟨bs,l1,cs,e1,p1,p2⟩:=pW _ _ _ h1
           have ni:=uK _ p1
           have mS:=uK _ p2
           have tL:=gb h3
           have hw0:m=kZ m++m.drop k:=by
            obtain ⟨x,hx⟩:=j9 m
            have gen:∀ (a b c:Bs),a++b=c->c.drop a.length=b:=by rintro a b c rfl;simp
            rw [n3,gen _ _ _ hx,hx]
           have hw:=yP (w:=kZ m) (rest:=m.drop k) (fun x hx=>pT (j1 m x hx)) dF
           rw [<- hw0] at hw
           have fI:v<levels.length:=(List.getElem?_eq_some_iff.1 ht).1
           have cT:=spec_lvl (n:=levels.length) n1 (yE m).1 (j1 m) n4 (by rw [<- n2];exact fI)
           rw [<- n2] at cT
           have hsl1:km l1:=vG p2 rT
           have mp:zE ps=zE bs+zE cs:=by rw [e1,kf]
           have dO:qV d levels:=by have:=hh.same;rwa [List.append_nil] at this
           have k1:=gQ (rd:=rdB d) (t.args.map fun a=>levels++a.args) (fun x hx=>by
            obtain ⟨a,ha,rfl⟩:=List.mem_map.1 hx
            exact ih _ (hh.next ht ha)) left (m.drop k) bs l1 p1 hsl1 (by omega)
           have k2:=gQ (rd:=rdB d) [levels,levels] (fun x hx=>by
            have:x=levels:=by simpa using hx
            subst this;exact ih _ dO) (left-zE bs) l1 cs l2 p2 rT (by omega)
           have ae:bs.length=t.args.length:=by simpa [zi] using ni
           obtain ⟨y,n,rfl⟩:∃ y n,cs=[y,n]:=by
            match cs,mS with
            | [a,b],_=>exact ⟨a,b,rfl⟩
           have hb:b'=.ask v bs y n:=by
            rw [e1] at h3
            unfold uv at h3
            rw [List.drop_left' ae,List.take_left' ae] at h3
            simpa using h3.symm
           subst hb
           rw [xV (d+1) levels left (l:=40::m) jc,hw.1,cT]
           simp only [ht]
           rw [hw.2]
           simp only [gK,k1,k2,Option.bind_eq_bind,Option.bind_some,h2]
           simp [zD,zE] at *;omega
theorem rdStrat_eq (t:Ty) (ht:zX t<=15) (l:Bs):jH t l=(if 2000<l.length then none else match rdN 101 t.args l with
 | none=>none
 | some (b,rest)=>if rest=[]/\zD b<=200 then some b else none):=by
 have hh:=handOk_of ht
 cases hq:jH t l with
 | some b =>
   have h1:∃ f,rdB 100 t.args 200 l=some (b,[],f):=by
    unfold jH at hq
    split at hq
    ·rename_i b' f he
     simp at hq;subst hq;exact ⟨f,he⟩
    ·simp at hq
   obtain ⟨f,h1⟩:=h1
   obtain ⟨a1,a2,a3⟩:=rdB_fits 100 t.args hh _ _ _ _ _ h1
   have:¬ 2000<l.length:=by simp at a3;omega
   rw [if_neg this,a1]
   simp only
   rw [if_pos ⟨by trivial,by omega⟩]
 | none =>
   symm
   split
   ·rfl
   ·cases hn:rdN 101 t.args l with
    | none=>rfl
    | some x =>
      obtain ⟨b,rest⟩:=x
      simp only
      split
      ·rename_i hc
       obtain ⟨rfl,hc⟩:=hc
       have:=rdN_back 100 t.args hh 200 l b [] hn (.inl rfl) hc
       unfold jH at hq
       rw [this] at hq;simp at hq
      ·rfl
theorem xQ (s l:Bs):yg s l=(zI s l).map fun b=>((zU s).1,b):=by
 unfold yg zI
 rw [wI]
 cases cK:(zU s).2 with
 | false=>simp
 | true =>
   have dL:=vQ cK
   simp only [if_true,Option.bind_eq_bind,Option.bind_some]
   rw [rdStrat_eq _ dL]
   by_cases h2:2000<l.length
   ·simp [h2]
   ·simp only [h2,if_false,Bool.true_eq_false,false_or]
    cases rdN 101 (zU s).1.args l with
    | none=>rfl
    | some x =>
      obtain ⟨b,rest⟩:=x
      simp only
      split <;> rfl
theorem pg {s text:Bs} {b:Bd} (hq:zI s text=some b):zD b<=200:=by
 unfold zI at hq
 split at hq
 ·simp at hq
 ·split at hq
  ·simp at hq
  ·split at hq
   ·rename_i h;simp at hq;subst hq;exact h.2
   ·simp at hq
theorem rdTS_size {s text:Bs} {t:Ty} {b:Bd} (hq:yg s text=some (t,b)):zD b<=200:=by
 rw [xQ,Option.map_eq_some_iff] at hq
 obtain ⟨b',h,e⟩:=hq
 simp at e;rw [<- e.2];exact pg h
mutual
def qb:List Ty->Bd->Prop
 | _,.leaf _=>True
 | hand,.ask v ss y n=>∃ t,hand[v]? = some t/\kN (zi hand t.args) ss/\qb hand y/\qb hand n
def kN:List (List Ty)->List Bd->Prop
 | hs,[]=>hs=[]
 | hs,b::bs=>∃ h dD,hs=h::dD/\qb h b/\kN dD bs
end
mutual
def wB:Bd->Bd->Bool
 | .leaf c,.leaf d=>c == 117 || c == d
 | .leaf c,.ask _ _ _ _=>c == 117
 | .ask _ _ _ _,.leaf _=>false
 | .ask v ss y n,.ask v' ss' y' n'=>v == v' && (yM ss ss' && (wB y y' && wB n n'))
def yM:List Bd->List Bd->Bool
 | a::xs,b::bs=>wB a b && yM xs bs
 | [],_=>true
 | _::_,[]=>false
end
theorem qx (levels ts:List Ty):(zi levels ts).length=ts.length:=by simp [zi]
theorem xA:∀ (xs:List Bd) (bs:List Bd) (hs ks:List (List Ty)),kN hs xs->kN ks bs->kN (hs++ks) (xs++bs)
 | [],bs,hs,ks,h1,h2=>by rw [kN] at h1;subst h1;simpa using h2
 | a::xs,bs,hs,ks,h1,h2=>by
   rw [kN] at h1
   obtain ⟨h,dD,rfl,e1,e2⟩:=h1
   exact ⟨h,dD++ks,rfl,e1,xA xs bs dD ks e2 h2⟩
theorem jQ:∀ (xs:List Bd) (hs:List (List Ty)),kN hs xs->hs.length=xs.length
 | [],hs,h=>by rw [kN] at h;simp [h]
 | a::xs,hs,h=>by
   rw [kN] at h
   obtain ⟨h',dD,rfl,e1,e2⟩:=h
   simp [jQ xs dD e2]
theorem xT:∀ (xs:List Bd) (hs:List (List Ty)),kN hs xs->∀ (k:Nat) (a:Bd),xs[k]? = some a->∃ h,hs[k]? = some h/\qb h a
 | [],hs,h,k,a,ha=>by simp at ha
 | a::xs,hs,h,k,a',ha=>by
   rw [kN] at h
   obtain ⟨h',dD,rfl,e1,e2⟩:=h
   cases k with
   | zero=>simp at ha;subst ha;exact ⟨h',rfl,e1⟩
   | succ k=>simp at ha;simpa using xT xs dD e2 k a' ha
theorem fitBs_pair (h k:List Ty) (y n:Bd):kN [h,k] [y,n]↔qb h y/\qb k n:=by
 constructor
 ·intro hf
  rw [kN] at hf
  obtain ⟨a,as',e,h1,h2⟩:=hf
  simp only [List.cons.injEq] at e
  obtain ⟨rfl,rfl⟩:=e
  rw [kN] at h2
  obtain ⟨a,as',e,h3,h4⟩:=h2
  simp only [List.cons.injEq] at e
  obtain ⟨rfl,rfl⟩:=e
  exact ⟨h1,h3⟩
 ·rintro ⟨h1,h2⟩
  exact ⟨h,[k],rfl,h1,k,[],rfl,h2,by rw [kN]⟩
theorem yZ:∀ (hs:List (List Ty)) (ks:List (List Ty)) (ps:List Bd),kN (hs++ks) ps->kN hs (ps.take hs.length)/\kN ks (ps.drop hs.length)
 | [],ks,ps,h=>by
   constructor
   ·simp [kN]
   ·simpa using h
 | x::hs,ks,[],h=>by simp [kN] at h
 | x::hs,ks,p::ps,h=>by
   simp only [List.cons_append] at h
   rw [kN] at h
   obtain ⟨h',dD,e,e1,e2⟩:=h
   simp only [List.cons.injEq] at e
   obtain ⟨rfl,rfl⟩:=e
   have:=yZ hs ks ps e2
   simp only [List.length_cons,List.take_succ_cons,List.drop_succ_cons]
   exact ⟨⟨x,hs,rfl,e1,this.1⟩,this.2⟩
theorem specParts_fit {rd:RdS} (cf:∀ {h l b r},rd h l=some (b,r)->qb h b) (hs:List (List Ty)):∀ {l r:Bs} {ps:List Bd},zP rd hs l=some (ps,r)->kN hs ps:=by
 induction hs with
 | nil=>intro l r ps h;simp [zP] at h;obtain ⟨rfl,rfl⟩:=h;simp [kN]
 | cons h' hs ih =>
   intro l r ps h
   simp only [zP,Option.bind_eq_bind,Option.bind_eq_some_iff,Prod.exists] at h
   obtain ⟨b,l1,h1,bs,l2,h2,h3⟩:=h
   simp at h3;obtain ⟨rfl,rfl⟩:=h3
   unfold kK at h1
   simp only [Option.bind_eq_bind,Option.bind_eq_some_iff] at h1
   obtain ⟨l3,_,h4⟩:=h1
   exact ⟨h',hs,rfl,cf h4,ih h2⟩
theorem rdN_fit (e:Nat):∀ {h:List Ty} {l:Bs} {b:Bd} {r:Bs},rdN e h l=some (b,r)->qb h b:=by
 induction e with
 | zero=>intro h l b r hq;simp [rdN] at hq
 | succ e ih =>
   intro h l b r hq
   cases l with
   | nil=>simp [rdN] at hq
   | cons c m =>
     simp only [rdN] at hq
     split at hq
     ·simp at hq;obtain ⟨rfl,rfl⟩:=hq;simp [qb]
     ·split at hq
      ·simp at hq
      ·split at hq
       ·simp at hq
       ·rename_i v k hsn
        split at hq
        ·simp at hq
        ·rename_i t ht
         simp only [Option.bind_eq_bind,Option.bind_eq_some_iff,Prod.exists] at hq
         obtain ⟨ps,l1,h1,l2,h2,b',h3,h4⟩:=hq
         simp at h4;obtain ⟨rfl,rfl⟩:=h4
         have k1:=specParts_fit ih _ h1
         have k2:=yZ _ _ _ k1
         rw [qx] at k2
         unfold uv at h3
         split at h3
         ·rename_i y no hd
          simp at h3;subst h3
          rw [hd,fitBs_pair] at k2
          rw [qb]
          exact ⟨t,ht,k2.1,k2.2.1,k2.2.2⟩
         ·simp at h3
theorem xx:∀ (xs bs:List Bd),xs.length=bs.length->(yM xs bs=true↔∀ (k:Nat) (a b:Bd),xs[k]? = some a->bs[k]? = some b->wB a b=true)
 | [],[],_=>by simp [yM]
 | a::xs,b::bs,h=>by
   simp only [yM,Bool.and_eq_true]
   rw [xx xs bs (by simpa using h)]
   constructor
   ·rintro ⟨h1,h2⟩ k a' b' ha hb
    cases k with
    | zero=>simp at ha hb;subst ha;subst hb;exact h1
    | succ k=>simp at ha hb;exact h2 k a' b' ha hb
   ·intro h
    exact ⟨h 0 a b rfl rfl,fun k a' b' ha hb=>h (k+1) a' b' (by simpa using ha) (by simpa using hb)⟩
def uz (xs bs:List Bd) (k:Nat):Prop:=∀ (j:Nat) (a b:Bd),j<k->xs[j]? = some a->bs[j]? = some b->wB a b=true
theorem uz.zero (xs bs:List Bd):uz xs bs 0:=fun j a b h=>by omega
theorem uz.next {xs bs:List Bd} {k:Nat} (h:uz xs bs k) {a b:Bd} (ha:xs[k]? = some a) (hb:bs[k]? = some b) (hab:wB a b=true):uz xs bs (k+1):=by
 intro j a' b' hj h1 h2
 rcases Nat.lt_or_ge j k with h' | h'
 ·exact h j a' b' h' h1 h2
 ·obtain rfl:j=k:=by omega
  rw [ha] at h1;rw [hb] at h2;simp at h1 h2;subst h1;subst h2;exact hab
theorem uz.all {xs bs:List Bd} (hl:xs.length=bs.length) (h:uz xs bs xs.length):yM xs bs=true :=
 (xx xs bs hl).2 fun k a b ha hb=>h k a b (List.getElem?_eq_some_iff.1 ha).1 ha hb
def lvOf:Bd->Nat
 | .leaf _=>0
 | .ask v _ _ _=>v
theorem encN_lv {F:Nat->Prop} {w:World} {b:Bd} {s v k y:Value} (h:zC F w (qk b) [s,v,k,y]):v=.int .i64 (lvOf b:Nat):=by
 cases b with
 | leaf c =>
   rw [qk] at h
   obtain ⟨_,_,e,h0,h⟩:=zJ.1 h
   simp only [List.cons.injEq] at e;obtain ⟨rfl,rfl⟩:=e
   obtain ⟨_,_,e,h1,h⟩:=zJ.1 h
   simp only [List.cons.injEq] at e;obtain ⟨rfl,rfl⟩:=e
   exact zj.1 h1
 | ask lv ss yb nb =>
   rw [qk] at h
   obtain ⟨_,_,e,h0,h⟩:=zJ.1 h
   simp only [List.cons.injEq] at e;obtain ⟨rfl,rfl⟩:=e
   obtain ⟨_,_,e,h1,h⟩:=zJ.1 h
   simp only [List.cons.injEq] at e;obtain ⟨rfl,rfl⟩:=e
   exact zj.1 h1
theorem uZ (a b:Nat):((a:Int).tmod (b:Int))=((a % b:Nat):Int):=rfl
theorem y9 (a b:Nat):((a:Int).tdiv (b:Int))=((a / b:Nat):Int):=rfl
theorem vL (n:Nat) (h:n<9223372036854775808):IntKind.i64.wrap (n:Int)=(n:Int):=by
 simp [IntKind.wrap,IntKind.bits,IntKind.signed];omega
def vY (r:Nat):UInt8:=UInt8.ofNat (48+r)
def dec (n:Nat):Bs:=if n<10 then [vY n] else dec (n / 10)++[vY (n % 10)]
theorem jk {n:Nat} (h:n<10):dec n=[vY n]:=by rw [dec,if_pos h]
theorem j3 {n:Nat} (h:¬ n<10):dec n=dec (n / 10)++[vY (n % 10)]:=by rw [dec,if_neg h]
theorem qN (k:Nat):∀ n,n<10 ^ (k+1)->(dec n).length<=k+1:=by
 induction k with
 | zero=>intro n h;rw [jk (by simpa using h)];simp
 | succ k ih =>
   intro n h
   by_cases iF:n<10
   ·rw [jk iF];simp
   ·rw [j3 iF]
    have:=ih (n / 10) (by rw [Nat.div_lt_iff_lt_mul (by omega),<- Nat.pow_succ];exact h)
    simp;omega
theorem str_add (a b:Bs):(⟨a.toArray⟩:ByteArray)++(⟨b.toArray⟩:ByteArray)=⟨(a++b).toArray⟩:=by
 have h:((⟨a.toArray⟩:ByteArray)++(⟨b.toArray⟩:ByteArray)).data=(a++b).toArray:=by
  rw [ByteArray.data_append];simp
 cases hx:(⟨a.toArray⟩:ByteArray)++(⟨b.toArray⟩:ByteArray) with
 | mk d=>rw [hx] at h;simp at h;rw [h]
theorem zN {P:Program} (a b:Bs) (h:a.length+b.length<=9223372036854775807) (w:World):(Op.stringOp .add ⟨a.toArray⟩ ⟨b.toArray⟩).run P w=.ok (str (a++b)) w:=by
 rw [run_string_add_sum w _ _ (by rw [jv,jv];exact h),str_add]
mutual
def kg:Bd->Bs
 | .leaf c=>[c]
 | .ask v ss y n=>(((([40]++dec v++kE ss++[32])++kg y)++[32])++kg n)++[41]
def kE:List Bd->Bs
 | []=>[]
 | b::bs=>[32]++kg b++kE bs
end
mutual
def lvB:Bd->Prop
 | .leaf _=>True
 | .ask v ss y n=>v<=10000/\uV ss/\lvB y/\lvB n
def uV:List Bd->Prop
 | []=>True
 | b::bs=>lvB b/\uV bs
end
theorem j7:∀ (xs ys:List Bd),kE (xs++ys)=kE xs++kE ys
 | [],ys=>by simp [kE]
 | x::xs,ys=>by simp [kE,j7 xs ys]
theorem textBs_take {ts:List Bd} {k:Nat} {t:Bd} (h:ts[k]? = some t):kE (ts.take (k+1))=kE (ts.take k)++[32]++kg t:=by
 rw [List.take_add_one,h,j7];simp [kE]
theorem lvBs_at:∀ (xs:List Bd),uV xs->∀ (k:Nat) (t:Bd),xs[k]? = some t->lvB t
 | [],_,k,t,h=>by simp at h
 | x::xs,hl,k,t,h=>by
   rw [uV] at hl
   cases k with
   | zero=>simp at h;subst h;exact hl.1
   | succ k=>simp at h;exact lvBs_at xs hl.2 k t h
mutual
theorem qF:∀ (b:Bd),lvB b->(kg b).length+1<=12*zD b
 | .leaf c,_=>by simp [kg,zD]
 | .ask v ss y n,h=>by
   rw [lvB] at h
   have h1:=vf ss h.2.1
   have h2:=qF y h.2.2.1
   have h3:=qF n h.2.2.2
   have h4:(dec v).length<=5:=qN 4 v (by have:=h.1;omega)
   simp only [kg,zD,List.length_append,List.length_cons,List.length_nil]
   omega
theorem vf:∀ (bs:List Bd),uV bs->(kE bs).length<=12*zE bs
 | [],_=>by simp [kE]
 | b::bs,h=>by
   rw [uV] at h
   have h1:=qF b h.1
   have h2:=vf bs h.2
   simp only [kE,zE,List.length_append,List.length_cons,List.length_nil]
   omega
end
theorem pU (xs:List Bd) (k:Nat):(kE (xs.take k)).length<=(kE xs).length:=by
 have:=congrArg List.length (j7 (xs.take k) (xs.drop k))
 rw [List.take_append_drop,List.length_append] at this
 omega
mutual
def zl:Ty->Bs
 | .mk ts=>yy ts
def yy:List Ty->Bs
 | []=>[98]
 | a::ts=>[40,62,32]++(zl a++([32]++(yy ts++[41])))
end
theorem vS:zl (.mk [])=[98]:=by rw [zl,yy]
theorem vO (a:Ty) (ts:List Ty):zl (.mk (a::ts))=[40,62,32]++(zl a++([32]++(zl (.mk ts)++[41]))):=by
 rw [zl,yy,zl]
theorem vW (a:Ty) (ts:List Ty):zX (.mk (a::ts))=1+zX a+zX (.mk ts):=by
 simp only [zX,zR];omega
theorem cut_app (p r:Bs):cut p (p++r)=some r:=by
 unfold cut
 have h:p.isPrefixOf (p++r)=true:=List.isPrefixOf_iff_prefix.2 (List.prefix_append _ _)
 rw [if_pos h];simp
theorem noCut_b (r:Bs):yY [98] ([40,62,32]++r):=by
 show cut [98] ([40,62,32]++r)=none
 rfl
theorem p9 (d:Nat):∀ (t:Ty) (r:Bs),zX t<=2*d+1->rdK d (zl t++r)=some (t,r):=by
 have hb:∀ (d:Nat) (r:Bs),rdK d (zl (.mk [])++r)=some (.mk [],r):=fun d r=>by
  rw [vS];exact vE (cut_app [98] r)
 induction d with
 | zero =>
   intro t r h
   obtain ⟨ts⟩:=t
   cases ts with
   | nil=>exact hb 0 r
   | cons a ts=>rw [vW] at h;have:=kx a;have:=kx (.mk ts);omega
 | succ d ih =>
   intro t r h
   obtain ⟨ts⟩:=t
   cases ts with
   | nil=>exact hb _ r
   | cons a ts =>
     rw [vW] at h
     have h1:=kx a;have h2:=kx (.mk ts)
     rw [vO]
     have e:([40,62,32]++(zl a++([32]++(zl (.mk ts)++[41]))))++r=[40,62,32]++(zl a++([32]++(zl (.mk ts)++([41]++r)))):=by simp
     rw [e,qK (noCut_b _)]
     simp only [cut_app,Option.bind_eq_bind,Option.bind_some,ih a _ (by omega:zX a<=2*d+1),ih (.mk ts) _ (by omega:zX (.mk ts)<=2*d+1)]
     rfl
theorem jq:∀ (n:Nat) (t:Ty),zX t<=n->(zl t).length+2=3*zX t:=by
 intro n
 induction n with
 | zero=>intro t h;have:=kx t;omega
 | succ n ih =>
   intro t h
   obtain ⟨ts⟩:=t
   cases ts with
   | nil=>rw [vS];simp [zX,zR]
   | cons a ts =>
     rw [vW] at h ⊢
     have h1:=kx a;have h2:=kx (.mk ts)
     have k1:=ih a (by omega)
     have k2:=ih (.mk ts) (by omega)
     rw [vO]
     simp only [List.length_append,List.length_cons,List.length_nil]
     omega
theorem specType_text {t:Ty} (h:zX t<=15):zU (zl t)=(t,true):=by
 have hl:=jq 15 t h
 unfold zU
 rw [if_neg (by omega)]
 have:=p9 20 t [] (by omega)
 rw [List.append_nil] at this
 have h2:rdS 21 (zl t)=some (t,[]):=this
 rw [h2]
 simp [h]
inductive Clo where
 | mk (b:Bd) (env:List Clo) (begun:Nat) (path:Bs)
def Clo.body:Clo->Bd | .mk b _ _ _=>b
def Clo.env:Clo->List Clo | .mk _ e _ _=>e
def Clo.begun:Clo->Nat | .mk _ _ n _=>n
def Clo.path:Clo->Bs | .mk _ _ _ p=>p
end Go.Proofs.YtepgfdhkkjfmhabGreatDoor

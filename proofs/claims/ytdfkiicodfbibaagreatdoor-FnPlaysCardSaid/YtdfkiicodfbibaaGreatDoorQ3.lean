/- Walks of functions that the statement reaches, and plain words. No conditions. -/
import Derived.Test.YtdfkiicodfbibaaGreatDoorQ2
set_option linter.unusedVariables false
set_option linter.unusedSimpArgs false
set_option maxHeartbeats 10000000
namespace Go.Proofs.YtdfkiicodfbibaaGreatDoor
open Go.RowKit
def NumPost (i:Nat) (o:Option (Nat×Nat)) (w:World) (en:Ending) (w':World):Prop :=
 ∃ (v:Nat) (k:Int),en=.returned (.tuple #[.int .i64 v,.int .i64 k])/\w=w'/\(o=none->k = -1)/\(∀ v' c,o=some (v',c)->v=v'/\k=((i+c:Nat):Int))
theorem l3Number_any (l:Bs) (hl:Lim l.length) (i:Nat) (hi:i<=l.length) (w:World) :
 Calls Tryz.prog 158 #[str l,.int .i64 i] w (NumPost i (specNum (l.drop i)) w):=by
 have hl':=hl.le
 obtain ⟨ds,hds⟩:=zzM (digsOf (l.drop i))
 have hd4:=digsOf_le (l.drop i)
 rw [<- hds] at hd4
 have h4:ds.length<=4:=hd4.1
 have hdl:i+ds.length<=l.length:=by have:=hd4.2;simp at this;omega
 have HDS:=Lib.hid hds;clear hds hd4
 go_enter Tryz.func158,Tryz.ntmps158
 go_wp2_with fail
 go_loop [6,7] (fun n k=>∃ j:Nat,j<=ds.length/\k=.int .i64 ((i+j:Nat):Int)/\n=.int .i64 (valOf (ds.take j):Nat)) (fun _ k=>i+ds.length-(intOf k).toNat)
 case atStart=>exact ⟨0,Nat.zero_le _,by simp,by simp [valOf]⟩
 case round =>
  obtain ⟨j,hj,rfl,rfl⟩:=hrel
  by_cases hlt:j<ds.length
  ·have hij:i+j<l.length:=by omega
   have hat:l[i+j]=ds[j]/\dig l[i+j]=true:=by
    have h1:=HDS.out;subst h1
    obtain ⟨hm,e1,e2⟩:=digsOf_at hlt
    rw [List.getElem_drop] at e1 e2
    exact ⟨e1,e2⟩
   have b1:(48:Int)<=((((⟨l.toArray⟩:ByteArray)[i+j]'(lt_str hij)).toNat:Int))/\((((⟨l.toArray⟩:ByteArray)[i+j]'(lt_str hij)).toNat:Int))<=57:=by
    have h2:=hat.2
    simp [dig,UInt8.le_iff_toNat_le] at h2
    rw [byte_int hij];omega
   obtain ⟨b1,b2⟩:=b1
   have hv:valOf (ds.take j)<=9999:=by
    have h1:=valOf_lt (ds.take j) (fun c hc=>digsOf_all _ c (by have:=HDS.out;rw [<- this];exact List.mem_of_mem_take hc))
    have h2:10 ^ (ds.take j).length<=10 ^ 4:=Nat.pow_le_pow_right (by omega) (by simp;omega)
    omega
   have hs:=valOf_take hlt
   have hs':(valOf (ds.take (j+1)):Int)=10*(valOf (ds.take j):Int)+(((((⟨l.toArray⟩:ByteArray)[i+j]'(lt_str hij)).toNat:Int))-48):=by
    rw [byte_int hij] at b1 ⊢;rw [hs,hat.1] at *;omega
   have HS:=Lib.hid hs'
   have j4:j<4:=by omega
   clear hs hs' hat
   go_wp2_with fail
   go_round
   case rel=>exact ⟨j+1,by omega,by go_num,by rw [HS.out]⟩
   case measure=>simp [intOf];omega
  ·obtain rfl:j=ds.length:=by omega
   have hend:ds.length=4\/i+ds.length=l.length\/∃ h:i+ds.length<l.length,dig l[i+ds.length]=false:=by
    have h1:=HDS.out;subst h1
    rcases digsOf_end (m:=l.drop i) with h | h | ⟨h,h2⟩
    ·exact .inl h
    ·right;left;simp at h;omega
    ·right;right;simp at h;refine ⟨by omega,?_⟩;rw [List.getElem_drop] at h2;exact h2
   have HV:specNum (l.drop i)=(if ds=[]\/(1<ds.length/\(l.drop i).head? = some 48) then none else some (valOf ds,ds.length)):=by
    unfold specNum;rw [<- HDS.out]
   have hend4:4<=ds.length\/l.length<=i+ds.length\/(∃ h:i+ds.length<l.length,((((⟨l.toArray⟩:ByteArray)[i+ds.length]'(lt_str h)).toNat:Int))<48)\/(∃ h:i+ds.length<l.length,(57:Int)<((((⟨l.toArray⟩:ByteArray)[i+ds.length]'(lt_str h)).toNat:Int))):=by
    rcases hend with h | h | ⟨h,h2⟩
    ·exact .inl (by omega)
    ·exact .inr (.inl (by omega))
    ·simp [dig,UInt8.le_iff_toNat_le] at h2
     by_cases hc:l[i+ds.length].toNat<48
     ·exact .inr (.inr (.inl ⟨h,by rw [byte_int h];omega⟩))
     ·exact .inr (.inr (.inr ⟨h,by rw [byte_int h];have:=h2 (by omega);omega⟩))
   clear hend
   rw [List.take_length]
   rcases (by omega:ds.length=0\/ds.length=1\/2<=ds.length) with hn | hn | hn
   ·have e0:((i:Int)+(ds.length:Int) == (i:Int))=true:=by rw [beq_iff_eq];omega
    have fin:NumPost i (specNum (l.drop i)) w (.returned (.tuple #[.int .i64 0,.int .i64 (-1)])) w:=by
     have hd0:ds=[]:=List.eq_nil_of_length_eq_zero hn
     refine ⟨0,-1,rfl,rfl,fun _=>rfl,fun v c h=>?_⟩
     rw [HV,if_pos (.inl hd0)] at h;simp at h
    have HF:=Lib.hid fin;have hn0:(ds.length:Int)<=0:=by omega
    clear fin HV hn
    rcases hend4 with h | h | ⟨h,h2⟩ | ⟨h,h2⟩
    all_goals
     go_wp2_with fail
     all_goals (go_ret2;exact HF.out)
   ·have e0:((i:Int)+(ds.length:Int) == (i:Int))=false:=by rw [beq_eq_false_iff_ne];omega
    have n1:¬ 1<ds.length:=by omega
    have fin:NumPost i (specNum (l.drop i)) w (.returned (.tuple #[.int .i64 (valOf ds:Nat),.int .i64 ((i:Int)+(ds.length:Int))])) w:=by
     have hd0:¬ (ds=[]\/(1<ds.length/\(l.drop i).head? = some 48)):=by
      rintro (h | h)
      ·rw [h] at hn;simp at hn
      ·omega
     refine ⟨_,_,rfl,rfl,fun h=>?_,fun v c h=>?_⟩
     ·rw [HV,if_neg hd0] at h;simp at h
     ·rw [HV,if_neg hd0] at h;simp at h;exact ⟨h.1,by omega⟩
    have HF:=Lib.hid fin;have hn2:1<=ds.length:=by omega
    clear fin HV hn
    rcases hend4 with h | h | ⟨h,h2⟩ | ⟨h,h2⟩
    all_goals
     go_wp2_with fail
     all_goals (go_ret2;exact HF.out)
   ·have e0:((i:Int)+(ds.length:Int) == (i:Int))=false:=by rw [beq_eq_false_iff_ne];omega
    have n1:1<ds.length:=by omega
    have hil:i<l.length:=by rcases hend4 with h | h | ⟨h,h2⟩ | ⟨h,h2⟩ <;> omega
    have hhd:(l.drop i).head? = some l[i]:=by rw [List.head?_drop];simp [hil]
    have hdn:ds≠[]:=by intro h;rw [h] at hn;simp at hn
    by_cases h48:l[i]=48
    ·have f1:=byte_yes hil (n:=48) (by decide) h48
     have fin:NumPost i (specNum (l.drop i)) w (.returned (.tuple #[.int .i64 0,.int .i64 (-1)])) w:=by
      refine ⟨0,-1,rfl,rfl,fun _=>rfl,fun v c h=>?_⟩
      rw [HV,if_pos (.inr ⟨n1,by rw [hhd,h48]⟩)] at h;simp at h
     have HF:=Lib.hid fin;clear fin HV hhd h48
     rcases hend4 with h | h | ⟨h,h2⟩ | ⟨h,h2⟩
     all_goals
      go_wp2_with fail
      all_goals (go_ret2;exact HF.out)
    ·have f1:=byte_no hil (n:=48) (by decide) h48
     have fin:NumPost i (specNum (l.drop i)) w (.returned (.tuple #[.int .i64 (valOf ds:Nat),.int .i64 ((i:Int)+(ds.length:Int))])) w:=by
      have hd0:¬ (ds=[]\/(1<ds.length/\(l.drop i).head? = some 48)):=by
       rintro (h | h)
       ·exact hdn h
       ·rw [hhd] at h;exact h48 (Option.some.inj h.2)
      refine ⟨_,_,rfl,rfl,fun h=>?_,fun v c h=>?_⟩
      ·rw [HV,if_neg hd0] at h;simp at h
      ·rw [HV,if_neg hd0] at h;simp at h;exact ⟨h.1,by omega⟩
     have HF:=Lib.hid fin;clear fin HV hhd h48
     rcases hend4 with h | h | ⟨h,h2⟩ | ⟨h,h2⟩
     all_goals
      go_wp2_with fail
      all_goals (go_ret2;exact HF.out)
mutual
def encN:Bd->List DV
 | .leaf c=>[.val (str [c]),.val (.int .i64 (0:Nat)),.sl 81 4 0 [],.sl 81 4 0 []]
 | .ask v ss y n=>[.val (str []),.val (.int .i64 v),.sl 81 4 ss.length (encNs ss),.sl 81 4 2 (encN y++(encN n++[]))]
def encNs:List Bd->List DV
 | []=>[]
 | b::bs=>encN b++encNs bs
end
theorem encN_length (b:Bd):(encN b).length=4:=by cases b <;> simp [encN]
theorem encNs_length (bs:List Bd):(encNs bs).length=bs.length*4:=by
 induction bs with
 | nil=>simp [encNs]
 | cons b bs ih=>simp [encNs,encN_length,ih];omega
theorem encNs_append (a b:List Bd):encNs (a++b)=encNs a++encNs b:=by
 induction a with
 | nil=>simp [encNs]
 | cons t ts ih=>simp [encNs,ih,List.append_assoc]
theorem encN_ask (v:Nat) (ss:List Bd) (y n:Bd):encN (.ask v ss y n)=[.val (str []),.val (.int .i64 v),.sl 81 4 ss.length (encNs ss),.sl 81 4 2 (encNs [y,n])]:=by
 simp [encN,encNs]
theorem Tryz.infoN:(Tryz.prog.info? 81).map (fun i=>(i.zero,i.size,i.bytes))=some (some (.agg #[str [],.int .i64 0,.slice none 0 0,.slice none 0 0]),4,72):=by kernel_rfl
def NPost (L:Nat) (w:World) (o:Option (Bd×Bs)) (en:Ending) (w':World):Prop :=
 ∃ (s:Bs) (v:Int) (a2:Option Addr) (n2 k2:Nat) (a3:Option Addr) (n3 k3:Nat) (k:Int),en=.returned (.tuple #[.agg #[str s,.int .i64 v,.slice a2 n2 k2,.slice a3 n3 k3],.int .i64 k])/\Below w.heap.size w w'/\(o=none->k = -1) /\
   (∀ b rest,o=some (b,rest)->k=(L:Int)-rest.length/\Reps (w.heap.size<=·) w' (encN b) [str s,.int .i64 v,.slice a2 n2 k2,.slice a3 n3 k3])
theorem NPost.no {L:Nat} {w w':World} {o:Option (Bd×Bs)} (ho:o=none) (hb:Below w.heap.size w w') :
 NPost L w o (.returned (.tuple #[.agg #[str [],.int .i64 0,.slice none 0 0,.slice none 0 0],.int .i64 (-1)])) w' :=
 ⟨[],0,none,0,0,none,0,0,_,rfl,hb,fun _=>rfl,fun _ _ h=>by rw [ho] at h;simp at h⟩
theorem NPost.yes {L:Nat} {w w':World} {o:Option (Bd×Bs)} {b:Bd} {rest:Bs} {s:Bs} {v:Int} {a2:Option Addr} {n2 k2:Nat} {a3:Option Addr} {n3 k3:Nat} {k:Int} (ho:o=some (b,rest)) (hk:k=(L:Int)-rest.length) (hb:Below w.heap.size w w') (hv:Reps (w.heap.size<=·) w' (encN b) [str s,.int .i64 v,.slice a2 n2 k2,.slice a3 n3 k3]) :
 NPost L w o (.returned (.tuple #[.agg #[str s,.int .i64 v,.slice a2 n2 k2,.slice a3 n3 k3],.int .i64 k])) w' :=
 ⟨s,v,a2,n2,k2,a3,n3,k3,k,rfl,hb,fun h=>by rw [ho] at h;simp at h,fun _ _ h=>by rw [ho] at h;simp at h;obtain ⟨rfl,rfl⟩:=h;exact ⟨hk,hv⟩⟩
def NodeSaid (l:Bs) (e d:Nat):Prop:=∀ (F:Nat->Prop) (hand:List Ty) (hv:Value) (i:Nat) (w:World),i<=l.length->HandOk e hand ->
    Rep F w (.sl 78 1 hand.length (encSs hand)) hv ->
    Calls Tryz.prog 106 #[str l,.int .i64 i,hv,.int .i64 d] w (NPost l.length w (rdN e hand (l.drop i)))
theorem leaf_reps (F:Nat->Prop) (w:World) (c:UInt8):Reps F w (encN (.leaf c)) [str [c],.int .i64 0,.slice none 0 0,.slice none 0 0]:=by
 have hz:Rep F w (.sl 81 4 0 []) (.slice none 0 0):=Rep_sl.2 ⟨rfl,none,0,rfl,Nat.le_refl _,fun _=>rfl,.inl rfl⟩
 rw [encN]
 exact Reps_cons.2 ⟨_,_,rfl,Rep_val.2 rfl,Reps_cons.2 ⟨_,_,rfl,Rep_val.2 rfl,Reps_cons.2 ⟨_,_,rfl,hz,Reps_cons.2 ⟨_,_,rfl,hz,Reps_nil.2 rfl⟩⟩⟩⟩
theorem rdN_leaf (e:Nat) (hand:List Ty) {l:Bs} {i:Nat} (h:i<l.length) (hc:l[i]=116\/l[i]=102\/l[i]=117):rdN (e+1) hand (l.drop i)=some (.leaf l[i],l.drop (i+1)):=by
 rw [List.drop_eq_getElem_cons h,rdN];simp only [if_pos hc]
theorem rdN_other (e:Nat) (hand:List Ty) {l:Bs} {i:Nat} (h:i<l.length) (hc:¬ (l[i]=116\/l[i]=102\/l[i]=117)) (h40:¬ l[i]=40):rdN (e+1) hand (l.drop i)=none:=by
 rw [List.drop_eq_getElem_cons h,rdN];simp only [if_neg hc,if_pos h40]
theorem rdN_40 (e:Nat) (hand:List Ty) {l:Bs} {i:Nat} (h:i<l.length) (h40:l[i]=40):rdN (e+1) hand (l.drop i)=(match specNum (l.drop (i+1)) with
 | none=>none
 | some (v,k)=>match hand[v]? with
   | none=>none
   | some t=>do
     let (ps,l1)<-specParts (rdN e) (allHands hand t) ((l.drop (i+1)).drop k)
     let l2<-cut [41] l1
     let b<-askOf v t.args.length ps
     some (b,l2)):=by
 rw [List.drop_eq_getElem_cons h,rdN]
 rw [if_neg (by rw [h40];decide),if_neg (by simpa using h40)]
 try rfl
theorem l3Read_plain (l:Bs) (hl:Lim l.length) (e d:Nat) (hed:e+d=101) (F:Nat->Prop) (hand:List Ty) (hv:Value) (i:Nat) (w:World) (hi:i<=l.length)
 (hr:Rep F w (.sl 78 1 hand.length (encSs hand)) hv) (hno:∀ h:i<l.length,e=0\/¬ l[i]=40) :
 Calls Tryz.prog 106 #[str l,.int .i64 i,hv,.int .i64 d] w (NPost l.length w (rdN e hand (l.drop i))):=by
 have hl':=hl.le
 obtain ⟨a0,c0,e0,_⟩:=Rep_sl1_open hr
 subst e0
 rcases e with _ | e
 ·have hd1:(100:Int)<(d:Int):=by omega
  clear hno
  go_enter Tryz.func106,Tryz.ntmps106
  go_wp2_with fail
  refine bodyPost_ret (v:=.tuple #[.agg #[str [],.int .i64 0,.slice none 0 0,.slice none 0 0],.int .i64 (-1)]) (by simp [results,Tryz.results106,go_sem]) rfl ?_
  exact NPost.no (by rfl) (by repeat (first | exact Below.refl _ _ | refine Below.alloc ?_ (Nat.le_refl _) _ | refine Below.setCell ?_ (by simp) _))
 have hd0:¬ (100:Int)<(d:Int):=by omega
 by_cases hlt:i<l.length
 rotate_left
 ·clear hno
  go_enter Tryz.func106,Tryz.ntmps106
  go_wp2_with fail
  refine bodyPost_ret (v:=.tuple #[.agg #[str [],.int .i64 0,.slice none 0 0,.slice none 0 0],.int .i64 (-1)]) (by simp [results,Tryz.results106,go_sem]) rfl ?_
  exact NPost.no (by rw [List.drop_eq_nil_of_le (by omega)];rfl) (by repeat (first | exact Below.refl _ _ | refine Below.alloc ?_ (Nat.le_refl _) _ | refine Below.setCell ?_ (by simp) _))
 have h40:¬ l[i]=40:=(hno hlt).resolve_left (by omega)
 clear hno
 by_cases hlf:l[i]=116\/l[i]=102\/l[i]=117
 ·have HM:=Lib.hid (rdN_leaf e hand hlt hlf)
  have hx:((⟨l.toArray⟩:ByteArray).extract i (i+1))=⟨#[l[i]]⟩:=by
   rw [ext_str];congr 1
   rw [List.drop_take,List.drop_eq_getElem_cons hlt,show i+1-i=1 from by omega];rfl
  have HX:=Lib.hid hx;clear hx
  have fin:∀ w':World,Below w.heap.size w w'->NPost l.length w (rdN (e+1) hand (l.drop i)) (.returned (.tuple #[.agg #[.string ((⟨l.toArray⟩:ByteArray).extract i (i+1)),.int .i64 0,.slice none 0 0,.slice none 0 0],.int .i64 ((i:Int)+1)])) w':=by
   intro w' hb
   rw [HX.out]
   exact NPost.yes (s:=[l[i]]) HM.out (by simp;omega) hb (leaf_reps _ _ _)
  have FIN:=Lib.hid fin;clear fin
  have key:((((⟨l.toArray⟩:ByteArray)[i]'(lt_str hlt)).toNat:Int) == 116)=true\/((((((⟨l.toArray⟩:ByteArray)[i]'(lt_str hlt)).toNat:Int) == 116)=false/\((((⟨l.toArray⟩:ByteArray)[i]'(lt_str hlt)).toNat:Int) == 102)=true))\/((((((⟨l.toArray⟩:ByteArray)[i]'(lt_str hlt)).toNat:Int) == 116)=false/\((((⟨l.toArray⟩:ByteArray)[i]'(lt_str hlt)).toNat:Int) == 102)=false/\((((⟨l.toArray⟩:ByteArray)[i]'(lt_str hlt)).toNat:Int) == 117)=true)):=by
   rcases hlf with h | h | h
   ·exact .inl (byte_yes hlt (n:=116) (by decide) h)
   ·exact .inr (.inl ⟨byte_no hlt (c:=116) (n:=116) (by decide) (by rw [h];decide),byte_yes hlt (n:=102) (by decide) h⟩)
   ·exact .inr (.inr ⟨byte_no hlt (c:=116) (n:=116) (by decide) (by rw [h];decide),byte_no hlt (c:=102) (n:=102) (by decide) (by rw [h];decide),byte_yes hlt (n:=117) (by decide) h⟩)
  clear hlf h40 HM HX
  rcases key with f1 | ⟨f1,f2⟩ | ⟨f1,f2,f3⟩
  all_goals
   go_enter Tryz.func106,Tryz.ntmps106
   go_wp2_with fail
   refine bodyPost_ret (v:=.tuple #[.agg #[.string ((⟨l.toArray⟩:ByteArray).extract i (i+1)),.int .i64 0,.slice none 0 0,.slice none 0 0],.int .i64 ((i:Int)+1)]) (by simp [results,Tryz.results106,go_sem]) rfl ?_
   exact FIN.out _ (by repeat (first | exact Below.refl _ _ | refine Below.alloc ?_ (Nat.le_refl _) _ | refine Below.setCell ?_ (by simp) _))
 have HM:=Lib.hid (rdN_other e hand hlt hlf h40)
 have f1:=byte_no hlt (n:=116) (by decide) (fun h=>hlf (.inl h))
 have f2:=byte_no hlt (n:=102) (by decide) (fun h=>hlf (.inr (.inl h)))
 have f3:=byte_no hlt (n:=117) (by decide) (fun h=>hlf (.inr (.inr h)))
 have f4:=byte_no2 hlt (n:=40) (by decide) h40
 clear hlf h40
 go_enter Tryz.func106,Tryz.ntmps106
 go_wp2_with fail
 refine bodyPost_ret (v:=.tuple #[.agg #[str [],.int .i64 0,.slice none 0 0,.slice none 0 0],.int .i64 (-1)]) (by simp [results,Tryz.results106,go_sem]) rfl ?_
 exact NPost.no HM.out (by repeat (first | exact Below.refl _ _ | refine Below.alloc ?_ (Nat.le_refl _) _ | refine Below.setCell ?_ (by simp) _))
def NewN (ob:Nat) (v:Int) (kslv yslv:Value) (w:World):Prop:=w.heap[ob]? = some (.cells #[str [],.int .i64 v,kslv,yslv] 81 (0,0))
theorem NewN.cells {ob:Nat} {v:Int} {ks ys:Value} {w:World} (h:NewN ob v ks ys w):w.cell? ⟨ob,0,none⟩=some (str [])/\w.cell? ⟨ob,1,none⟩=some (.int .i64 v)/\w.cell? ⟨ob,2,none⟩=some ks/\w.cell? ⟨ob,3,none⟩=some ys/\ob<w.heap.size/\(∀ o,w.frozen? ⟨ob,o,none⟩=false):=by
 have hl:=lt_of_heap h
 unfold NewN at h
 exact ⟨by simp [World.cell?,h],by simp [World.cell?,h],by simp [World.cell?,h],by simp [World.cell?,h],hl,fun o=>by simp [World.frozen?,h]⟩
theorem NewN.put2 {ob:Nat} {v:Int} {ks ys u:Value} {w:World} (h:NewN ob v ks ys w):NewN ob v u ys (w.setCell ⟨ob,2,none⟩ u):=by
 unfold NewN;rw [setCell_at h];rfl
theorem NewN.put3 {ob:Nat} {v:Int} {ks ys u:Value} {w:World} (h:NewN ob v ks ys w):NewN ob v ks u (w.setCell ⟨ob,3,none⟩ u):=by
 unfold NewN;rw [setCell_at h];rfl
theorem NewN.but {ob:Nat} {v:Int} {ks ys:Value} {m:Nat->Prop} {w w':World} (h:NewN ob v ks ys w) (hb:But m w w') (hm:¬ m ob):NewN ob v ks ys w':=by
 unfold NewN;rw [hb.block ob (lt_of_heap h) hm];exact h
theorem NewN.below {ob:Nat} {v:Int} {ks ys:Value} {w w':World} {B:Nat} (h:NewN ob v ks ys w) (hb:Below B w w') (hm:ob<B):NewN ob v ks ys w':=by
 unfold NewN;rw [hb.block ob hm];exact h
theorem NewN.store {ob:Nat} {v:Int} {ks ys:Value} {w:World} (h:NewN ob v ks ys w) (u0 u1 u2 u3:Value) :
 ∃ W,W=((((w.setCell ⟨ob,0,none⟩ u0).setCell ⟨ob,1,none⟩ u1).setCell ⟨ob,2,none⟩ u2).setCell ⟨ob,3,none⟩ u3) /\
   W.cell? ⟨ob,0,none⟩=some u0/\W.cell? ⟨ob,1,none⟩=some u1/\W.cell? ⟨ob,2,none⟩=some u2/\W.cell? ⟨ob,3,none⟩=some u3 /\
   (∀ B w0,Below B w0 w->B<=ob->Below B w0 W)/\(∀ i x,i≠ob->w.heap[i]? = some x->W.heap[i]? = some x):=by
 have hc:((((w.setCell ⟨ob,0,none⟩ u0).setCell ⟨ob,1,none⟩ u1).setCell ⟨ob,2,none⟩ u2).setCell ⟨ob,3,none⟩ u3).heap[ob]? = some (.cells #[u0,u1,u2,u3] 81 (0,0)):=by
  unfold NewN at h
  rw [setCell_at (setCell_at (setCell_at (setCell_at h)))];rfl
 refine ⟨_,rfl,by simp only [World.cell?,hc];rfl,by simp only [World.cell?,hc];rfl,by simp only [World.cell?,hc];rfl,by simp only [World.cell?,hc];rfl,fun B w0 hb hB=>?_,fun i x hi hx=>?_⟩
 ·exact ((((hb.setCell (p:=⟨ob,0,none⟩) hB _).setCell (p:=⟨ob,1,none⟩) hB _).setCell (p:=⟨ob,2,none⟩) hB _).setCell (p:=⟨ob,3,none⟩) hB _)
 ·rw [Below.heap_setCell _ _ _ _ (by simpa using hi),Below.heap_setCell _ _ _ _ (by simpa using hi),Below.heap_setCell _ _ _ _ (by simpa using hi),Below.heap_setCell _ _ _ _ (by simpa using hi)];exact hx
structure NodeAt (l:Bs) (w:World) (rd:RdS) (hs:List (List Ty)) (n i0 ob Z v:Nat) (k en:Nat) (wr:World) (ps:List Bd) (kv yv:List Value) (ks:Value) (nk:Nat) (ys:Value) (ny:Nat):Prop where
 hnk:nk=min k n
 hny:ny=k-n
 ksl:∃ a c,ks=.slice a nk c
 ysl:∃ a c,ys=.slice a ny c
 spec:specParts rd (hs.take k) (l.drop i0)=some (ps,l.drop en)
 len:ps.length=k
 en:en<=l.length
 below:Below w.heap.size w wr
 res:NewN w.heap.size 0 (.slice none 0 0) (.slice none 0 0) wr
 out:NewN ob v ks ys wr
 ownK:Own wr 81 4 ks nk kv
 ownY:Own wr 81 4 ys ny yv
 blkK:∀ g,ks.ownBlock=some g->Z<=g/\ys.ownBlock≠some g
 blkY:∀ g,ys.ownBlock=some g->Z<=g
 repK:Reps (fun b=>Z<=b/\ks.ownBlock≠some b/\ys.ownBlock≠some b) wr (encNs (ps.take n)) kv
 repY:Reps (fun b=>Z<=b/\ks.ownBlock≠some b/\ys.ownBlock≠some b) wr (encNs (ps.drop n)) yv
 z:Z<=wr.heap.size
theorem NodeAt.kid {l:Bs} {w:World} {rd:RdS} {hs:List (List Ty)} {n i0 ob Z v k en:Nat} {wr:World} {ps:List Bd} {kv yv:List Value} {ks ys:Value} {nk ny:Nat}
 (h:NodeAt l w rd hs n i0 ob Z v k en wr ps kv yv ks nk ys ny) (hk:k<n) (hob:ob<Z) (hwo:w.heap.size<ob) {W w7:World} {b:Bd} {cs:List Value} {a':Option Addr} {c' en2:Nat}
 (hb6:Below wr.heap.size wr W) (hcs:Reps (wr.heap.size<=·) W (encN b) cs) (hown:Own w7 81 4 (.slice a' (nk+1) c') (nk+1) (kv++cs)) (hb7:But (fun i=>ks.ownBlock=some i) W w7)
 (hg7:∀ g,(Value.slice a' (nk+1) c').ownBlock=some g->ks.ownBlock=some g\/g=W.heap.size)
 (hspec:specParts rd (hs.take (k+1)) (l.drop i0)=some (ps++[b],l.drop en2)) (hen2:en2<=l.length) :
 NodeAt l w rd hs n i0 ob Z v (k+1) en2 (w7.setCell ⟨ob,2,none⟩ (.slice a' (nk+1) c')) (ps++[b]) (kv++cs) yv (.slice a' (nk+1) c') (nk+1) ys ny:=by
 have z6:=hb6.size
 have z7:=hb7.size
 have zr:=h.z
 have hlen:=h.len
 have keep:∀ i x,wr.heap[i]? = some x->ks.ownBlock≠some i->i≠ob->(w7.setCell ⟨ob,2,none⟩ (.slice a' (nk+1) c')).heap[i]? = some x:=by
  intro i x hx h1 h2
  have:=lt_of_heap hx
  rw [Below.heap_setCell _ _ _ _ (by simpa using h2),hb7.block i (by omega) h1,hb6.block i this];exact hx
 have keep6:∀ i x,W.heap[i]? = some x->ks.ownBlock≠some i->i≠ob->(w7.setCell ⟨ob,2,none⟩ (.slice a' (nk+1) c')).heap[i]? = some x:=by
  intro i x hx h1 h2
  have:=lt_of_heap hx
  rw [Below.heap_setCell _ _ _ _ (by simpa using h2),hb7.block i (by omega) h1];exact hx
 have ltK:∀ g,ks.ownBlock=some g->g<wr.heap.size:=fun g hg=>h.ownK.lt hg
 have ltY:∀ g,ys.ownBlock=some g->g<wr.heap.size:=fun g hg=>h.ownY.lt hg
 have nK:∀ i,i<Z->ks.ownBlock≠some i:=fun i hi e=>by have:=(h.blkK i e).1;omega
 have newg:∀ g,(Value.slice a' (nk+1) c').ownBlock=some g->Z<=g:=fun g hg=>by
  rcases hg7 g hg with e | e
  ·exact (h.blkK g e).1
  ·omega
 refine ⟨by rw [h.hnk];omega,by rw [h.hny];omega,⟨_,_,rfl⟩,h.ysl,hspec,by simp [hlen],hen2,?_,?_,?_,?_,?_,?_,h.blkY,?_,?_,by simp [World.setCell];omega⟩
 ·refine Below.setCell ?_ (show w.heap.size<=ob by omega) _
  exact (zzT h.below hb6).trans (hb7.toBelow (by have:=h.below.size;omega) fun i hi e=>nK i (by omega) e)
 ·exact keep _ _ h.res (nK _ (by omega)) (by omega)
 ·have h1:NewN ob v ks ys w7:=by
   unfold NewN;rw [hb7.block ob (by omega) (nK _ hob),hb6.block ob (by omega)];exact h.out
  exact h1.put2
 ·exact hown.keep fun g o hg ho=>by rw [Below.heap_setCell _ _ _ _ (by have:=newg g hg;simp;omega)];exact ho
 ·exact h.ownY.keep fun g o hg ho=>keep g o ho (fun e=>(h.blkK g e).2 hg) (by have:=h.blkY g hg;omega)
 ·intro g hg
  refine ⟨newg g hg,fun e=>?_⟩
  rcases hg7 g hg with e' | e'
  ·exact (h.blkK g e').2 e
  ·have:=ltY g e;omega
 ·rw [List.take_of_length_le (by simp;omega),encNs_append]
  have h1:=h.repK
  rw [List.take_of_length_le (by omega)] at h1
  refine Reps.append ((Rep.keep fun i x hi hx=>⟨⟨hi.1,fun e=>(hg7 i e).elim (fun e'=>hi.2.1 e') (fun e'=>by have:=lt_of_heap hx;omega),hi.2.2⟩,keep i x hx hi.2.1 (by have:=hi.1;omega)⟩).2 _ _ h1) ?_
  ·have e1:encNs [b]=encN b:=by simp [encNs]
   rw [e1]
   refine (Rep.keep fun i x hi hx=>?_).2 _ _ hcs
   have h2:=lt_of_heap hx
   have h3:wr.heap.size<=i:=hi
   refine ⟨⟨by omega,fun e=>?_,fun e=>by have:=ltY i e;omega⟩,keep6 i x hx (fun e=>by have:=ltK i e;omega) (by omega)⟩
   rcases hg7 i e with e' | e'
   ·have:=ltK i e';omega
   ·omega
 ·have h1:=h.repY
  rw [List.drop_eq_nil_of_le (by omega)] at h1
  rw [List.drop_eq_nil_of_le (by simp;omega)]
  have:yv=[]:=by simpa [encNs,Reps_nil] using h1
  subst this;exact Reps_nil.2 rfl
theorem NodeAt.yes {l:Bs} {w:World} {rd:RdS} {hs:List (List Ty)} {n i0 ob Z v k en:Nat} {wr:World} {ps:List Bd} {kv yv:List Value} {ks ys:Value} {nk ny:Nat}
 (h:NodeAt l w rd hs n i0 ob Z v k en wr ps kv yv ks nk ys ny) (hk:n<=k) (hob:ob<Z) (hwo:w.heap.size<ob) {W w7:World} {b:Bd} {cs:List Value} {a':Option Addr} {c' en2:Nat}
 (hb6:Below wr.heap.size wr W) (hcs:Reps (wr.heap.size<=·) W (encN b) cs) (hown:Own w7 81 4 (.slice a' (ny+1) c') (ny+1) (yv++cs)) (hb7:But (fun i=>ys.ownBlock=some i) W w7)
 (hg7:∀ g,(Value.slice a' (ny+1) c').ownBlock=some g->ys.ownBlock=some g\/g=W.heap.size)
 (hspec:specParts rd (hs.take (k+1)) (l.drop i0)=some (ps++[b],l.drop en2)) (hen2:en2<=l.length) :
 NodeAt l w rd hs n i0 ob Z v (k+1) en2 (w7.setCell ⟨ob,3,none⟩ (.slice a' (ny+1) c')) (ps++[b]) kv (yv++cs) ks nk (.slice a' (ny+1) c') (ny+1):=by
 have z6:=hb6.size
 have z7:=hb7.size
 have zr:=h.z
 have hlen:=h.len
 have keep:∀ i x,wr.heap[i]? = some x->ys.ownBlock≠some i->i≠ob->(w7.setCell ⟨ob,3,none⟩ (.slice a' (ny+1) c')).heap[i]? = some x:=by
  intro i x hx h1 h2
  have:=lt_of_heap hx
  rw [Below.heap_setCell _ _ _ _ (by simpa using h2),hb7.block i (by omega) h1,hb6.block i this];exact hx
 have keep6:∀ i x,W.heap[i]? = some x->ys.ownBlock≠some i->i≠ob->(w7.setCell ⟨ob,3,none⟩ (.slice a' (ny+1) c')).heap[i]? = some x:=by
  intro i x hx h1 h2
  have:=lt_of_heap hx
  rw [Below.heap_setCell _ _ _ _ (by simpa using h2),hb7.block i (by omega) h1];exact hx
 have ltK:∀ g,ks.ownBlock=some g->g<wr.heap.size:=fun g hg=>h.ownK.lt hg
 have ltY:∀ g,ys.ownBlock=some g->g<wr.heap.size:=fun g hg=>h.ownY.lt hg
 have nY:∀ i,i<Z->ys.ownBlock≠some i:=fun i hi e=>by have:=h.blkY i e;omega
 have newg:∀ g,(Value.slice a' (ny+1) c').ownBlock=some g->Z<=g:=fun g hg=>by
  rcases hg7 g hg with e | e
  ·exact h.blkY g e
  ·omega
 refine ⟨by rw [h.hnk];omega,by rw [h.hny];omega,h.ksl,⟨_,_,rfl⟩,hspec,by simp [hlen],hen2,?_,?_,?_,?_,?_,?_,newg,?_,?_,by simp [World.setCell];omega⟩
 ·refine Below.setCell ?_ (show w.heap.size<=ob by omega) _
  exact (zzT h.below hb6).trans (hb7.toBelow (by have:=h.below.size;omega) fun i hi e=>nY i (by omega) e)
 ·exact keep _ _ h.res (nY _ (by omega)) (by omega)
 ·have h1:NewN ob v ks ys w7:=by
   unfold NewN;rw [hb7.block ob (by omega) (nY _ hob),hb6.block ob (by omega)];exact h.out
  exact h1.put3
 ·exact h.ownK.keep fun g o hg ho=>keep g o ho (h.blkK g hg).2 (by have:=(h.blkK g hg).1;omega)
 ·exact hown.keep fun g o hg ho=>by rw [Below.heap_setCell _ _ _ _ (by have:=newg g hg;simp;omega)];exact ho
 ·intro g hg
  refine ⟨(h.blkK g hg).1,fun e=>?_⟩
  rcases hg7 g e with e' | e'
  ·exact (h.blkK g hg).2 e'
  ·have:=ltK g hg;omega
 ·rw [List.take_append_of_le_length (by omega)]
  refine (Rep.keep fun i x hi hx=>⟨⟨hi.1,hi.2.1,fun e=>?_⟩,keep i x hx hi.2.2 (by have:=hi.1;omega)⟩).2 _ _ h.repK
  rcases hg7 i e with e' | e'
  ·exact hi.2.2 e'
  ·have:=lt_of_heap hx;omega
 ·rw [List.drop_append_of_le_length (by omega),encNs_append]
  refine Reps.append ((Rep.keep fun i x hi hx=>⟨⟨hi.1,hi.2.1,fun e=>(hg7 i e).elim (fun e'=>hi.2.2 e') (fun e'=>by have:=lt_of_heap hx;omega)⟩,keep i x hx hi.2.2 (by have:=hi.1;omega)⟩).2 _ _ h.repY) ?_
  ·have e1:encNs [b]=encN b:=by simp [encNs]
   rw [e1]
   refine (Rep.keep fun i x hi hx=>?_).2 _ _ hcs
   have h2:=lt_of_heap hx
   have h3:wr.heap.size<=i:=hi
   refine ⟨⟨by omega,fun e=>by have:=ltK i e;omega,fun e=>?_⟩,keep6 i x hx (fun e=>by have:=ltY i e;omega) (by omega)⟩
   rcases hg7 i e with e' | e'
   ·have:=ltY i e';omega
   ·omega
theorem SrcSl.lit4 {w:World} {e:TypeId} (cs:Array Value) (hn:cs.size=4) (hc:∀ u∈cs.toList,u.oneCell'=true) (g:Nat) (hg:g=w.heap.size):SrcSl 4 (.slice (some ⟨g,0,none⟩) 1 1) 1 cs.toList (w.alloc (.cells cs e)):=by
 subst hg
 refine ⟨by simp [hn],hc,.inl ⟨_,_,rfl,fun j u hu=>?_⟩⟩
 unfold Addr.add
 split
 ·subst j;simp;simpa using hu
 ·simp;simpa using hu
def NodeRel (l:Bs) (w:World) (rd:RdS) (hs:List (List Ty)) (n i0 ob Z v:Nat) (k en:Nat) (wr:World):Prop :=
 ∃ ps kv yv ks nk ys ny,NodeAt l w rd hs n i0 ob Z v k en wr ps kv yv ks nk ys ny
set_option maxRecDepth 100000 in
theorem l3Read_ask (l:Bs) (hl:Lim l.length) (e d:Nat) (hed:e+1+d=101) (ih:NodeSaid l e (d+1)) (F:Nat->Prop) (hand:List Ty) (hv:Value) (i:Nat) (w:World) (hi:i<l.length) (hh:HandOk (e+1) hand)
 (hr:Rep F w (.sl 78 1 hand.length (encSs hand)) hv) (h40:l[i]=40) :
 Calls Tryz.prog 106 #[str l,.int .i64 i,hv,.int .i64 d] w (NPost l.length w (rdN (e+1) hand (l.drop i))):=by
 have hl':=hl.le
 have IH:=Lib.hid ih;clear ih
 have hlen:hand.length<=10000:=by have:=hh.2;omega
 have hd0:¬ (100:Int)<(d:Int):=by omega
 have HM:=Lib.hid (rdN_40 e hand hi h40)
 have f1:=byte_no hi (c:=116) (n:=116) (by decide) (by rw [h40];decide)
 have f2:=byte_no hi (c:=102) (n:=102) (by decide) (by rw [h40];decide)
 have f3:=byte_no hi (c:=117) (n:=117) (by decide) (by rw [h40];decide)
 have f4:=byte_yes2 hi (n:=40) (by decide) h40
 clear h40
 obtain ⟨a0,k0,ehv,_,_,hat⟩:=Rep_sl1_open hr
 subst ehv
 have HAT:=Lib.hid hat;clear hat
 go_enter Tryz.func106,Tryz.ntmps106
 go_wp2_with fail
 rw [show (i:Int)+1=((i+1:Nat):Int) from by omega]
 refine (l3Number_any l hl (i+1) hi _).mono ?_
 rintro en w1 ⟨v,k1,rfl,ew,hn1,hy1⟩
 obtain rfl:=ew
 cases hq:specNum (l.drop (i+1)) with
 | none =>
   obtain rfl:=hn1 hq
   have hm:rdN (e+1) hand (l.drop i)=none:=by rw [HM.out,hq]
   have HM:=Lib.hid hm;clear hm hq hn1 hy1
   go_wp2_with fail
   refine bodyPost_ret (v:=.tuple #[.agg #[str [],.int .i64 0,.slice none 0 0,.slice none 0 0],.int .i64 (-1)]) (by simp [results,Tryz.results106,go_sem]) rfl ?_
   exact NPost.no HM.out (by repeat (first | exact Below.refl _ _ | refine Below.alloc ?_ (Nat.le_refl _) _ | refine Below.setCell ?_ (by simp) _))
 | some x =>
 obtain ⟨v',c⟩:=x
 obtain ⟨rfl,rfl⟩:=hy1 _ _ hq
 have hcl:i+1+c<=l.length/\v<=9999:=by
  unfold specNum at hq
  split at hq
  ·simp at hq
  ·simp at hq
   obtain ⟨e1,e2⟩:=hq
   have h1:=digsOf_le (l.drop (i+1))
   have h2:=valOf_lt (digsOf (l.drop (i+1))) (digsOf_all _)
   have h3:10 ^ (digsOf (l.drop (i+1))).length<=10 ^ 4:=Nat.pow_le_pow_right (by omega) h1.1
   simp at h1;omega
 obtain ⟨hcl,hv9⟩:=hcl
 have HQ:=Lib.hid hq;clear hq hn1 hy1
 by_cases hvl:v<hand.length
 rotate_left
 ·have hm:rdN (e+1) hand (l.drop i)=none:=by
   rw [HM.out,HQ.out];simp only
   rw [List.getElem?_eq_none (by omega)]
  have HM:=Lib.hid hm;clear hm
  go_wp2_with fail
  refine bodyPost_ret (v:=.tuple #[.agg #[str [],.int .i64 0,.slice none 0 0,.slice none 0 0],.int .i64 (-1)]) (by simp [results,Tryz.results106,go_sem]) rfl ?_
  exact NPost.no HM.out (by repeat (first | exact Below.refl _ _ | refine Below.alloc ?_ (Nat.le_refl _) _ | refine Below.setCell ?_ (by simp) _))
 obtain ⟨bl,ol,u,dv,ea,hFl,hbl,hdv,hcl2,hru⟩:=HAT.out v hvl
 rw [encSs_at,Option.map_eq_some_iff] at hdv
 obtain ⟨t,ht,rfl⟩:=hdv
 obtain ⟨sa,ks,rfl⟩:=encS_slice hru
 have hru':=hru
 rw [encS_eq] at hru'
 obtain ⟨_,_,est,_,_,hats⟩:=Rep_sl1_open hru'
 simp only [Value.slice.injEq] at est
 obtain ⟨rfl,_,rfl⟩:=est
 subst ea
 have HT:=Lib.hid ht;have HATS:=Lib.hid hats
 have hm : rdN (e+1) hand (l.drop i)=(do
         let (ps,l1)<-specParts (rdN e) (allHands hand t) ((l.drop (i+1)).drop c)
         let l2<-cut [41] l1
         let b<-askOf v t.args.length ps
         some (b,l2)):=by rw [HM.out,HQ.out];simp only [ht]
 rw [List.drop_drop] at hm
 have HM:=Lib.hid hm
 have hta:t.args.length<=15:=by
  have h1:=hh.1 t (List.mem_of_getElem? ht)
  have h2:=atomsT_mk t
  have:=length_le_atomsTs t.args;omega
 clear hm ht hats hru'
 have gv:decide (hand.length<=v)=false:=by rw [decide_eq_false_iff_not];omega
 have gi:decide ((i:Int)+1+(c:Int)<0)=false:=by rw [decide_eq_false_iff_not];omega
 go_wp2_with fail
 have hrel0:NodeRel l w (rdN e) (allHands hand t) t.args.length (i+1+c) (w.heap.size+1) (w.heap.size+2) v 0 (i+1+c)
  ((w.alloc (.cells #[str [],.int .i64 0,.slice none 0 0,.slice none 0 0] 81)).alloc (.cells #[str [],.int .i64 v,.slice none 0 0,.slice none 0 0] 81)):=by
  refine ⟨[],[],[],.slice none 0 0,0,.slice none 0 0,0,by simp,by simp,⟨_,_,rfl⟩,⟨_,_,rfl⟩,by simp [specParts],rfl,hcl,((Below.refl _ _).alloc (Nat.le_refl _) _).alloc (by simp) _,?_,?_,World.ownsRow_nil _ _ _ _,World.ownsRow_nil _ _ _ _,fun g h=>by simp [Value.ownBlock] at h,fun g h=>by simp [Value.ownBlock] at h,by rw [List.take_nil];exact Reps_nil.2 rfl,by rw [List.drop_nil];exact Reps_nil.2 rfl,by simp⟩
  ·exact heap_past (heap_new _ _)
  ·have:=heap_new (w.alloc (.cells #[str [],.int .i64 0,.slice none 0 0,.slice none 0 0] 81)) (.cells #[str [],.int .i64 v,.slice none 0 0,.slice none 0 0] 81)
   rw [size_alloc] at this;exact this
 generalize hI0:i+1+c=i0 at *
 rw [show (i:Int)+1+(c:Int)=(i0:Int) from by omega]
 have HI0:=Lib.hid hI0;clear hI0
 go_loopw [11,14] (fun a b wr=>∃ k en:Nat,k<=t.args.length+2/\a=.int .i64 en/\b=.int .i64 k/\NodeRel l w (rdN e) (allHands hand t) t.args.length i0 (w.heap.size+1) (w.heap.size+2) v k en wr)
  (fun _ b _=>t.args.length+2-(intOf b).toNat)
 case atStart=>exact ⟨0,i0,Nat.zero_le _,rfl,rfl,hrel0⟩
 case round =>
  clear hrel0
  rename_i wr
  obtain ⟨k,en,hk,rfl,rfl,hrel⟩:=hrel
  obtain ⟨ps,kv,yv,ks,nk,ys,ny,hrel⟩:=hrel
  have hnr:=hrel.res;have hno:=hrel.out;have hb:=hrel.below;have hen:=hrel.en;have zr:=hrel.z
  have HP:=Lib.hid hrel.spec
  have nkl:nk<=17:=by have:=hrel.hnk;omega
  have nyl:ny<=2:=by have:=hrel.hny;omega
  obtain ⟨ka,kc,eks⟩:=hrel.ksl
  obtain ⟨ya,yc,eys⟩:=hrel.ysl
  subst eks;subst eys
  have HR:=Lib.hid hrel;clear hrel
  obtain ⟨r0,r1,r2,r3,rl,rf⟩:=hnr.cells
  obtain ⟨q0,q1,q2,q3,ql,qf⟩:=hno.cells
  have rf0:=rf 0;have rf1:=rf 1;have rf2:=rf 2;have rf3:=rf 3;clear rf
  have qf2:=qf 2;have qf3:=qf 3;clear qf
  by_cases hlt:k<t.args.length+2
  ·have hlt':(k:Int)<(t.args.length:Int)+2:=by omega
   by_cases h32:∃ h:en<l.length,l[en]=32
   rotate_left
   ·have hm:rdN (e+1) hand (l.drop i)=none:=by
     have hs:=specParts_next (rd:=rdN e) (show (allHands hand t)[k]? = some _ from List.getElem?_eq_getElem (by rw [allHands_length];exact hlt)) HP.out
     have hc:cut [32] (l.drop en)=none:=by
      by_cases h:en<l.length
      ·rw [cut_one h,if_neg (fun h'=>h32 ⟨h,h'⟩)]
      ·exact cut_end (by omega)
     rw [HM.out,specParts_take_none (k+1) (by rw [hs];simp [specPart,hc])];rfl
    have HM:=Lib.hid hm;clear hm
    have hcase:(l.length<=en)\/∃ h:en<l.length,((((⟨l.toArray⟩:ByteArray)[en]'(lt_str h)).toNat:Int) != 32)=true:=by
     by_cases h:en<l.length
     ·exact .inr ⟨h,byte_no2 h (n:=32) (by decide) (fun h'=>h32 ⟨h,h'⟩)⟩
     ·exact .inl (by omega)
    clear h32
    rcases hcase with h | ⟨h,f5⟩
    ·have g1:(l.length:Int)<=(en:Int):=by omega
     go_wp2_with fail
     obtain ⟨W,hW,s0,s1,s2,s3,hbW,_⟩:=hnr.store (.string ⟨#[]⟩) (.int .i64 0) (.slice none 0 0) (.slice none 0 0)
     rw [<- hW]
     refine bodyPost_ret (v:=.tuple #[.agg #[str [],.int .i64 0,.slice none 0 0,.slice none 0 0],.int .i64 (-1)]) (by simp [results,Tryz.results106,go_sem,s0,s1,s2,s3]) rfl ?_
     exact NPost.no HM.out (hbW _ _ hb (Nat.le_refl _))
    ·go_wp2_with fail
     obtain ⟨W,hW,s0,s1,s2,s3,hbW,_⟩:=hnr.store (.string ⟨#[]⟩) (.int .i64 0) (.slice none 0 0) (.slice none 0 0)
     rw [<- hW]
     refine bodyPost_ret (v:=.tuple #[.agg #[str [],.int .i64 0,.slice none 0 0,.slice none 0 0],.int .i64 (-1)]) (by simp [results,Tryz.results106,go_sem,s0,s1,s2,s3]) rfl ?_
     exact NPost.no HM.out (hbW _ _ hb (Nat.le_refl _))
   obtain ⟨hel,h32⟩:=h32
   have f5:=byte_yes2 hel (n:=32) (by decide) h32
   have g1:decide ((en:Int)<0)=false:=by rw [decide_eq_false_iff_not];omega
   have g2:decide (l.length<=en)=false:=by rw [decide_eq_false_iff_not];omega
   have HC:Hid (cut [32] (l.drop en)=some (l.drop (en+1))):=by show cut [32] (l.drop en)=_;rw [cut_one hel,if_pos h32]
   clear h32
   by_cases hkn:k<t.args.length
   ·have hkn':(k:Int)<(t.args.length:Int):=by omega
    obtain ⟨ba,oa,uk,dk,esa,hFa,hba,hdk,hck,hrk⟩:=HATS.out k hkn
    subst esa
    rw [encSs_at,Option.map_eq_some_iff] at hdk
    obtain ⟨tk,htk,rfl⟩:=hdk
    obtain ⟨ua,uc,rfl⟩:=encS_slice hrk
    have e1:wr.cell? ⟨ba,oa+k,none⟩=some (.slice ua tk.args.length uc):=by rw [hb.cell hba];exact hck
    have hrk':=Rep.below (F':=F) hb (fun _ h=>h) hrk
    have hr':=Rep.below (F':=F) hb (fun _ h=>h) hr
    have hhk:HandOk e (hand++tk.args):=hh.next HT.out (List.mem_of_getElem? htk)
    have hlk:Lim (hand.length+tk.args.length):=by have:=hhk.2;simp at this;show _<=_;omega
    have HS:=Lib.hid (specParts_next (rd:=rdN e) (allHands_kid (hand:=hand) htk) HP.out)
    clear htk hck hrk
    go_wp2_with fail
    refine (l3Hand_any F hand tk _ _ wr hr' hrk' hlk).mono ?_
    rintro en5 w5 ⟨a5,c5,rfl,hb5,hr5⟩
    have z5:=hb5.size
    have HR5:=Lib.hid hr5;clear hr5 hr' hrk' hlk
    have Q:=Lib.hid (And.intro hnr (And.intro hno (And.intro hb hb5)))
    have rl5:w.heap.size<w5.heap.size:=by omega
    have ql5:w.heap.size+1<w5.heap.size:=by omega
    go_wp2_with fail
    rw [show (en:Int)+1=((en+1:Nat):Int) from by omega,show (d:Int)+1=((d+1:Nat):Int) from by omega,<- List.length_append]
    refine (IH.out (fun k=>F k\/wr.heap.size<=k) (hand++tk.args) _ (en+1) w5 hel hhk (by rw [List.length_append] at HR5 ⊢;exact HR5.out)).mono ?_
    rintro en6 w6 ⟨s6,v6,a2,n2,k2,a3,n3,k3,k6,rfl,hb6,hn6,hy6⟩
    rw [List.length_append]
    obtain ⟨hnr,hno,hb,hb5⟩:=Q.out
    have z6:=hb6.size
    have hb6':=hb5.trans (hb6.mono z5)
    have hnr6:=hnr.below hb6' rl
    have hno6:=hno.below hb6' ql
    have hbw6:=zzT hb hb6'
    obtain ⟨r0,r1,r2,r3,rl6,rf⟩:=hnr6.cells
    obtain ⟨q0,q1,q2,q3,ql6,qf⟩:=hno6.cells
    have rf0:=rf 0;have rf1:=rf 1;have rf2:=rf 2;have rf3:=rf 3;clear rf
    have qf2:=qf 2;have qf3:=qf 3;clear qf
    have Q2:=Lib.hid (And.intro hb6' (And.intro hnr6 hno6));clear hb5 hb hnr hno hb6' hnr6 hno6 hb6 Q
    cases hq:rdN e (hand++tk.args) (l.drop (en+1)) with
    | none =>
      obtain rfl:=hn6 hq
      have hm:rdN (e+1) hand (l.drop i)=none:=by
       rw [HM.out,specParts_take_none (k+1) (by rw [HS.out];simp [specPart,HC.out,hq])];rfl
      have HM:=Lib.hid hm;clear hm hq hn6 hy6
      go_wp2_with fail
      obtain ⟨W,hW,s0,s1,s2,s3,hbW,_⟩:=Q2.out.2.1.store (.string ⟨#[]⟩) (.int .i64 0) (.slice none 0 0) (.slice none 0 0)
      rw [<- hW]
      refine bodyPost_ret (v:=.tuple #[.agg #[str [],.int .i64 0,.slice none 0 0,.slice none 0 0],.int .i64 (-1)]) (by simp [results,Tryz.results106,go_sem,cell_alloc s0,cell_alloc s1,cell_alloc s2,cell_alloc s3]) rfl ?_
      exact NPost.no HM.out ((hbW _ _ hbw6 (Nat.le_refl _)).alloc (hbW _ _ hbw6 (Nat.le_refl _)).size _)
    | some x =>
      obtain ⟨b,rest⟩:=x
      obtain ⟨rfl,hc6⟩:=hy6 _ _ hq
      have hsf:=suffix_drop (rdN_suffix e hq)
      have hrl:rest.length<=l.length:=by have:=(rdN_suffix e hq).length_le;simp at this;omega
      obtain ⟨en2,he2⟩:=zzM (l.length-rest.length)
      rw [<- he2] at hsf
      have hk2:(l.length:Int)-(rest.length:Int)=(en2:Int):=by omega
      rw [hk2]
      have HE2:=Lib.hid he2;clear he2 hk2
      have hs:specParts (rdN e) ((allHands hand t).take (k+1)) (l.drop i0)=some (ps++[b],l.drop en2):=by
       rw [HS.out];simp [specPart,HC.out,hq,hsf]
      have HS2:=Lib.hid hs;have HC6:=Lib.hid hc6;clear hs hc6 hq hn6 hy6 hsf
      go_wp2_with (at_builtin;refine wpList_append_gen rfl _ _ 79 rfl 81 (.agg #[str [],.int .i64 0,.slice none 0 0,.slice none 0 0]) 4 72 Tryz.underlying79 Tryz.infoN rfl (by decide) (.slice ka nk kc) nk kv rfl ?c1 _ 1 [str s6,.int .i64 v6,.slice a2 n2 k2,.slice a3 n3 k3] rfl ?c2 ?c3 ?c4 ?_)
      case c1 =>
       refine (HR.out.ownK.keep fun g o hg ho=>?_).alloc _ |>.alloc _
       rw [Q2.out.1.block g (lt_of_heap ho)];exact ho
      case c2=>exact SrcSl.lit4 #[str s6,.int .i64 v6,.slice a2 n2 k2,.slice a3 n3 k3] rfl (by simp [str,Value.oneCell']) _ (by simp)
      case c3=>unfold maxLen;omega
      case c4=>omega
      intro a' c' w7 ho7 hb7 hg7
      have hW:Below wr.heap.size wr ((w6.alloc (.cells #[str s6,.int .i64 v6,.slice a2 n2 k2,.slice a3 n3 k3] 81)).alloc (.cells #[str s6,.int .i64 v6,.slice a2 n2 k2,.slice a3 n3 k3] 81)):=(Q2.out.1.alloc Q2.out.1.size _).alloc (by have:=Q2.out.1.size;simp;omega) _
      have hC:Reps (wr.heap.size<=·) ((w6.alloc (.cells #[str s6,.int .i64 v6,.slice a2 n2 k2,.slice a3 n3 k3] 81)).alloc (.cells #[str s6,.int .i64 v6,.slice a2 n2 k2,.slice a3 n3 k3] 81)) (encN b) [str s6,.int .i64 v6,.slice a2 n2 k2,.slice a3 n3 k3] :=
       (Rep.keep fun i o hi ho=>⟨Nat.le_trans z5 hi,heap_past (heap_past ho)⟩).2 _ _ HC6.out
      have hA:=HR.out.kid hkn (by omega) (show w.heap.size<w.heap.size+1 by omega) hW hC ho7 hb7 (fun g hg=>by simpa only [size_alloc] using hg7 g hg) HS2.out (by have:=HE2.out;omega)
      have z7:=hb7.size
      rw [size_alloc,size_alloc] at z7
      have hcell7:w7.cell? ⟨w.heap.size+1,2,none⟩=some (.slice ka nk kc):=by
       rw [hb7.cell (by simp only [size_alloc];omega) (fun e=>by have h:w.heap.size+2<=w.heap.size+1:=(HR.out.blkK _ e).1;omega)]
       exact cell_alloc (cell_alloc q2)
      have hfree7:w7.frozen? ⟨w.heap.size+1,2,none⟩=false:=by
       rw [World.frozen?_of_block (w:=w6) (by rw [hb7.block _ (by simp only [size_alloc];omega) (fun e=>by have h:w.heap.size+2<=w.heap.size+1:=(HR.out.blkK _ e).1;omega)];rw [Below.heap_alloc _ _ _ (by simp only [size_alloc];omega),Below.heap_alloc _ _ _ (by omega)])]
       exact qf2
      have HA:=Lib.hid hA;clear hA hW hC ho7 hb7 hg7
      go_wp2_with fail
      go_roundw
      case rel=>exact ⟨k+1,en2,by omega,rfl,by go_num,_,_,_,_,_,_,_,HA.out⟩
      case measure=>simp [intOf];omega
   ·have hkn':t.args.length<=k:=by omega
    have hkn2:¬ (k:Int)<(t.args.length:Int):=by omega
    have hr':=Rep.below (F':=F) hb (fun _ h=>h) hr
    have HS:=Lib.hid (specParts_next (rd:=rdN e) (allHands_yes (hand:=hand) (t:=t) hkn' hlt) HP.out)
    go_wp2_with fail
    refine (IH.out F hand _ (en+1) wr hel (by have:=hh.same;rwa [List.append_nil] at this) hr').mono ?_
    rintro en6 w6 ⟨s6,v6,a2,n2,k2,a3,n3,k3,k6,rfl,hb6,hn6,hy6⟩
    have z6:=hb6.size
    have hb6':=hb6
    have hnr6:=hnr.below hb6' rl
    have hno6:=hno.below hb6' ql
    have hbw6:=zzT hb hb6'
    obtain ⟨r0,r1,r2,r3,rl6,rf⟩:=hnr6.cells
    obtain ⟨q0,q1,q2,q3,ql6,qf⟩:=hno6.cells
    have rf0:=rf 0;have rf1:=rf 1;have rf2:=rf 2;have rf3:=rf 3;clear rf
    have qf2:=qf 2;have qf3:=qf 3;clear qf
    have Q2:=Lib.hid (And.intro hb6' (And.intro hnr6 hno6));clear hb hnr hno hb6' hnr6 hno6 hb6
    cases hq:rdN e hand (l.drop (en+1)) with
    | none =>
      obtain rfl:=hn6 hq
      have hm:rdN (e+1) hand (l.drop i)=none:=by
       rw [HM.out,specParts_take_none (k+1) (by rw [HS.out];simp [specPart,HC.out,hq])];rfl
      have HM:=Lib.hid hm;clear hm hq hn6 hy6
      go_wp2_with fail
      obtain ⟨W,hW,s0,s1,s2,s3,hbW,_⟩:=Q2.out.2.1.store (.string ⟨#[]⟩) (.int .i64 0) (.slice none 0 0) (.slice none 0 0)
      rw [<- hW]
      refine bodyPost_ret (v:=.tuple #[.agg #[str [],.int .i64 0,.slice none 0 0,.slice none 0 0],.int .i64 (-1)]) (by simp [results,Tryz.results106,go_sem,cell_alloc s0,cell_alloc s1,cell_alloc s2,cell_alloc s3]) rfl ?_
      exact NPost.no HM.out ((hbW _ _ hbw6 (Nat.le_refl _)).alloc (hbW _ _ hbw6 (Nat.le_refl _)).size _)
    | some x =>
      obtain ⟨b,rest⟩:=x
      obtain ⟨rfl,hc6⟩:=hy6 _ _ hq
      have hsf:=suffix_drop (rdN_suffix e hq)
      have hrl:rest.length<=l.length:=by have:=(rdN_suffix e hq).length_le;simp at this;omega
      obtain ⟨en2,he2⟩:=zzM (l.length-rest.length)
      rw [<- he2] at hsf
      have hk2:(l.length:Int)-(rest.length:Int)=(en2:Int):=by omega
      rw [hk2]
      have HE2:=Lib.hid he2;clear he2 hk2
      have hs:specParts (rdN e) ((allHands hand t).take (k+1)) (l.drop i0)=some (ps++[b],l.drop en2):=by
       rw [HS.out];simp [specPart,HC.out,hq,hsf]
      have HS2:=Lib.hid hs;have HC6:=Lib.hid hc6;clear hs hc6 hq hn6 hy6 hsf
      go_wp2_with (at_builtin;refine wpList_append_gen rfl _ _ 79 rfl 81 (.agg #[str [],.int .i64 0,.slice none 0 0,.slice none 0 0]) 4 72 Tryz.underlying79 Tryz.infoN rfl (by decide) (.slice ya ny yc) ny yv rfl ?c1 _ 1 [str s6,.int .i64 v6,.slice a2 n2 k2,.slice a3 n3 k3] rfl ?c2 ?c3 ?c4 ?_)
      case c1 =>
       refine (HR.out.ownY.keep fun g o hg ho=>?_).alloc _ |>.alloc _
       rw [Q2.out.1.block g (lt_of_heap ho)];exact ho
      case c2=>exact SrcSl.lit4 #[str s6,.int .i64 v6,.slice a2 n2 k2,.slice a3 n3 k3] rfl (by simp [str,Value.oneCell']) _ (by simp)
      case c3=>unfold maxLen;omega
      case c4=>omega
      intro a' c' w7 ho7 hb7 hg7
      have hW:Below wr.heap.size wr ((w6.alloc (.cells #[str s6,.int .i64 v6,.slice a2 n2 k2,.slice a3 n3 k3] 81)).alloc (.cells #[str s6,.int .i64 v6,.slice a2 n2 k2,.slice a3 n3 k3] 81)):=(Q2.out.1.alloc Q2.out.1.size _).alloc (by have:=Q2.out.1.size;simp;omega) _
      have hC:Reps (wr.heap.size<=·) ((w6.alloc (.cells #[str s6,.int .i64 v6,.slice a2 n2 k2,.slice a3 n3 k3] 81)).alloc (.cells #[str s6,.int .i64 v6,.slice a2 n2 k2,.slice a3 n3 k3] 81)) (encN b) [str s6,.int .i64 v6,.slice a2 n2 k2,.slice a3 n3 k3] :=
       (Rep.keep fun i o hi ho=>⟨hi,heap_past (heap_past ho)⟩).2 _ _ HC6.out
      have hA:=HR.out.yes hkn' (by omega) (show w.heap.size<w.heap.size+1 by omega) hW hC ho7 hb7 (fun g hg=>by simpa only [size_alloc] using hg7 g hg) HS2.out (by have:=HE2.out;omega)
      have z7:=hb7.size
      rw [size_alloc,size_alloc] at z7
      have hcell7:w7.cell? ⟨w.heap.size+1,3,none⟩=some (.slice ya ny yc):=by
       rw [hb7.cell (by simp only [size_alloc];omega) (fun e=>by have h:w.heap.size+2<=w.heap.size+1:=HR.out.blkY _ e;omega)]
       exact cell_alloc (cell_alloc q3)
      have hfree7:w7.frozen? ⟨w.heap.size+1,3,none⟩=false:=by
       rw [World.frozen?_of_block (w:=w6) (by rw [hb7.block _ (by simp only [size_alloc];omega) (fun e=>by have h:w.heap.size+2<=w.heap.size+1:=HR.out.blkY _ e;omega)];rw [Below.heap_alloc _ _ _ (by simp only [size_alloc];omega),Below.heap_alloc _ _ _ (by omega)])]
       exact qf3
      have HA:=Lib.hid hA;clear hA hW hC ho7 hb7 hg7
      go_wp2_with fail
      go_roundw
      case rel=>exact ⟨k+1,en2,by omega,rfl,by go_num,_,_,_,_,_,_,_,HA.out⟩
      case measure=>simp [intOf];omega
  ·have hkn:k=t.args.length+2:=by omega
   have hlt':¬ (k:Int)<(t.args.length:Int)+2:=by omega
   have hp:specParts (rdN e) (allHands hand t) (l.drop i0)=some (ps,l.drop en):=by
    have:=HP.out;rwa [hkn,List.take_of_length_le (by rw [allHands_length];exact Nat.le_refl _)] at this
   have hm:rdN (e+1) hand (l.drop i)=(do
    let l2<-cut [41] (l.drop en)
    let b<-askOf v t.args.length ps
    some (b,l2)):=by rw [HM.out,hp];rfl
   have HM:=Lib.hid hm
   have HKN:=Lib.hid hkn
   clear hm hp hkn
   by_cases h41:∃ h:en<l.length,l[en]=41
   rotate_left
   ·have hm:rdN (e+1) hand (l.drop i)=none:=by
     have hc:cut [41] (l.drop en)=none:=by
      by_cases h:en<l.length
      ·rw [cut_one h,if_neg (fun h'=>h41 ⟨h,h'⟩)]
      ·exact cut_end (by omega)
     rw [HM.out,hc];rfl
    have HM:=Lib.hid hm;clear hm
    have hcase:(l.length<=en)\/∃ h:en<l.length,((((⟨l.toArray⟩:ByteArray)[en]'(lt_str h)).toNat:Int) != 41)=true:=by
     by_cases h:en<l.length
     ·exact .inr ⟨h,byte_no2 h (n:=41) (by decide) (fun h'=>h41 ⟨h,h'⟩)⟩
     ·exact .inl (by omega)
    clear h41
    rcases hcase with h | ⟨h,f5⟩
    ·have g1:(l.length:Int)<=(en:Int):=by omega
     go_wp2_with fail
     obtain ⟨W,hW,s0,s1,s2,s3,hbW,_⟩:=hnr.store (.string ⟨#[]⟩) (.int .i64 0) (.slice none 0 0) (.slice none 0 0)
     rw [<- hW]
     refine bodyPost_ret (v:=.tuple #[.agg #[str [],.int .i64 0,.slice none 0 0,.slice none 0 0],.int .i64 (-1)]) (by simp [results,Tryz.results106,go_sem,s0,s1,s2,s3]) rfl ?_
     exact NPost.no HM.out (hbW _ _ hb (Nat.le_refl _))
    ·go_wp2_with fail
     obtain ⟨W,hW,s0,s1,s2,s3,hbW,_⟩:=hnr.store (.string ⟨#[]⟩) (.int .i64 0) (.slice none 0 0) (.slice none 0 0)
     rw [<- hW]
     refine bodyPost_ret (v:=.tuple #[.agg #[str [],.int .i64 0,.slice none 0 0,.slice none 0 0],.int .i64 (-1)]) (by simp [results,Tryz.results106,go_sem,s0,s1,s2,s3]) rfl ?_
     exact NPost.no HM.out (hbW _ _ hb (Nat.le_refl _))
   obtain ⟨hel,h41⟩:=h41
   have f5:=byte_yes2 hel (n:=41) (by decide) h41
   have g1:decide ((en:Int)<0)=false:=by rw [decide_eq_false_iff_not];omega
   have g2:decide (l.length<=en)=false:=by rw [decide_eq_false_iff_not];omega
   have HC:Hid (cut [41] (l.drop en)=some (l.drop (en+1))):=by show cut [41] (l.drop en)=_;rw [cut_one hel,if_pos h41]
   clear h41
   go_wp2_with fail
   obtain ⟨W,hW,s0,s1,s2,s3,hbW,hkW⟩:=hnr.store (str []) (.int .i64 v) (.slice ka nk kc) (.slice ya ny yc)
   have hHR:=HR.out
   have hps:=hHR.len
   have hnk:=hHR.hnk
   have hny:=hHR.hny
   have hkn:=HKN.out
   obtain ⟨y1,y2,hyn⟩:∃ y1 y2,ps.drop t.args.length=[y1,y2]:=by
    match hd:ps.drop t.args.length with
    | [a,b]=>exact ⟨a,b,rfl⟩
    | []=>have:=congrArg List.length hd;simp at this;omega
    | [a]=>have:=congrArg List.length hd;simp at this;omega
    | a::b::c::d=>have:=congrArg List.length hd;simp at this;omega
   have hm:rdN (e+1) hand (l.drop i)=some (.ask v (ps.take t.args.length) y1 y2,l.drop (en+1)):=by
    rw [HM.out,HC.out];simp [askOf,hyn]
   have hnk':nk=(ps.take t.args.length).length:=by simp;omega
   have hny':ny=2:=by omega
   rw [<- hW]
   refine bodyPost_ret (v:=.tuple #[.agg #[str [],.int .i64 v,.slice ka nk kc,.slice ya ny yc],.int .i64 ((en:Int)+1)]) (by simp [results,Tryz.results106,go_sem,s0,s1,s2,s3]) rfl ?_
   refine NPost.yes (s:=[]) hm (by simp;omega) (hbW _ _ hb (Nat.le_refl _)) ?_
   rw [encN_ask]
   refine Reps_cons.2 ⟨_,_,rfl,Rep_val.2 rfl,Reps_cons.2 ⟨_,_,rfl,Rep_val.2 rfl,Reps_cons.2 ⟨_,_,rfl,?_,Reps_cons.2 ⟨_,_,rfl,?_,Reps_nil.2 rfl⟩⟩⟩⟩
   ·rw [<- hnk']
    refine (hHR.ownK.keep fun g o hg ho=>hkW g o (by have:=(hHR.blkK g hg).1;omega) ho).rep (fun g hg=>by have:=(hHR.blkK g hg).1;omega) ?_
    exact (Rep.keep fun x o hx ho=>⟨by have:=hx.1;omega,hkW x o (by have:=hx.1;omega) ho⟩).2 _ _ hHR.repK
   ·have hr2:=hHR.repY
    rw [hyn] at hr2
    rw [<- hny']
    refine (hHR.ownY.keep fun g o hg ho=>hkW g o (by have:=hHR.blkY g hg;omega) ho).rep (fun g hg=>by have:=hHR.blkY g hg;omega) ?_
    exact (Rep.keep fun x o hx ho=>⟨by have:=hx.1;omega,hkW x o (by have:=hx.1;omega) ho⟩).2 _ _ hr2
theorem l3Read_any (l:Bs) (hl:Lim l.length) (e:Nat):∀ d,e+d=101->NodeSaid l e d:=by
 induction e with
 | zero=>exact fun d hed F hand hv i w hi _ hr=>l3Read_plain l hl 0 d hed F hand hv i w hi hr (fun _=>.inl rfl)
 | succ e ih =>
   intro d hed F hand hv i w hi hh hr
   by_cases h:∃ h:i<l.length,l[i]=40
   ·obtain ⟨h,h40⟩:=h
    exact l3Read_ask l hl e d hed (ih (d+1) (by omega)) F hand hv i w h hh hr h40
   ·exact l3Read_plain l hl (e+1) d hed F hand hv i w hi hr (fun h'=>.inr fun h40=>h ⟨h',h40⟩)
def kidsOf:Bd->List Bd
 | .leaf _=>[]
 | .ask _ ss _ _=>ss
def yesOf:Bd->List Bd
 | .leaf _=>[]
 | .ask _ _ y n=>[y,n]
def atomOf:Bd->Bs
 | .leaf c=>[c]
 | .ask _ _ _ _=>[]
def AtN (F:Nat->Prop) (w:World) (bs:List Bd) (a:Option Addr) (k:Nat):Prop :=
 ∃ b o s v a2 n2 c2 a3 n3 c3 d,a=some ⟨b,o,none⟩/\b<w.heap.size/\bs[k]? = some d/\w.cell? ⟨b,o+k*4,none⟩=some (str s)/\w.cell? ⟨b,o+k*4+1,none⟩=some (.int .i64 v) /\
   w.cell? ⟨b,o+k*4+2,none⟩=some (.slice a2 n2 c2)/\w.cell? ⟨b,o+k*4+3,none⟩=some (.slice a3 n3 c3)/\Reps F w (encN d) [str s,.int .i64 v,.slice a2 n2 c2,.slice a3 n3 c3]
def AtNs (F:Nat->Prop) (w:World) (bs:List Bd) (a:Option Addr):Prop:=∀ k,k<bs.length->AtN F w bs a k
theorem encN_open {F:Nat->Prop} {w:World} {b:Bd} {vs:List Value} (h:Reps F w (encN b) vs) :
 ∃ v a2 c2 a3 c3,vs=[str (atomOf b),.int .i64 v,.slice a2 (kidsOf b).length c2,.slice a3 (yesOf b).length c3] /\
   Rep F w (.sl 81 4 (kidsOf b).length (encNs (kidsOf b))) (.slice a2 (kidsOf b).length c2)/\Rep F w (.sl 81 4 (yesOf b).length (encNs (yesOf b))) (.slice a3 (yesOf b).length c3):=by
 have key:∀ (s:Bs) (v:Int) (d2 d3:DV) (n2 n3:Nat) (k2 k3:List DV),d2=.sl 81 4 n2 k2->d3=.sl 81 4 n3 k3->Reps F w [.val (str s),.val (.int .i64 v),d2,d3] vs ->
  ∃ a2 c2 a3 c3,vs=[str s,.int .i64 v,.slice a2 n2 c2,.slice a3 n3 c3]/\Rep F w d2 (.slice a2 n2 c2)/\Rep F w d3 (.slice a3 n3 c3):=by
  intro s v d2 d3 n2 n3 k2 k3 e2 e3 h
  obtain ⟨_,_,rfl,h0,h⟩:=Reps_cons.1 h
  obtain ⟨_,_,rfl,h1,h⟩:=Reps_cons.1 h
  obtain ⟨_,_,rfl,h2,h⟩:=Reps_cons.1 h
  obtain ⟨_,_,rfl,h3,h⟩:=Reps_cons.1 h
  rw [Reps_nil] at h;subst h
  rw [Rep_val] at h0 h1
  subst h0;subst h1
  have h2':=h2;have h3':=h3
  rw [e2] at h2';rw [e3] at h3'
  obtain ⟨_,a2,c2,e2',_⟩:=Rep_sl.1 h2'
  obtain ⟨_,a3,c3,e3',_⟩:=Rep_sl.1 h3'
  subst e2';subst e3'
  exact ⟨a2,c2,a3,c3,rfl,h2,h3⟩
 cases b with
 | leaf c =>
   rw [encN] at h
   obtain ⟨a2,c2,a3,c3,e,h2,h3⟩:=key _ _ _ _ 0 0 [] [] rfl rfl h
   exact ⟨_,a2,c2,a3,c3,e,h2,h3⟩
 | ask v ss y n =>
   rw [encN_ask] at h
   obtain ⟨a2,c2,a3,c3,e,h2,h3⟩:=key _ _ _ _ _ _ _ _ rfl rfl h
   exact ⟨_,a2,c2,a3,c3,e,h2,h3⟩
theorem AtNs.of {F:Nat->Prop} {w:World} {bs:List Bd} {v:Value} (h:Rep F w (.sl 81 4 bs.length (encNs bs)) v):∃ a c,v=.slice a bs.length c/\AtNs F w bs a:=by
 obtain ⟨hl,a,c,rfl,hn,hz,h⟩:=Rep_sl.1 h
 refine ⟨a,c,rfl,fun k hk=>?_⟩
 rcases h with h | ⟨b,o,cs,fr,rfl,hb,hc,hr⟩
 ·omega
 ·have hs:encNs bs=encNs (bs.take k)++(encN bs[k]++encNs (bs.drop (k+1))):=by
   have e1:encN bs[k]=encNs [bs[k]]:=by simp [encNs]
   rw [e1,<- encNs_append,<- encNs_append]
   congr 1
   simp
  rw [hs] at hr
  obtain ⟨h1,h2⟩:=hr.split
  obtain ⟨h3,h4⟩:=h2.split
  have hkl:(encNs (bs.take k)).length=k*4:=by rw [encNs_length];simp;omega
  rw [hkl,encN_length] at h3
  obtain ⟨v,a2,c2,a3,c3,e,_⟩:=encN_open h3
  have hat:∀ j u,([str (atomOf bs[k]),.int .i64 v,.slice a2 (kidsOf bs[k]).length c2,.slice a3 (yesOf bs[k]).length c3]:List Value)[j]? = some u->w.cell? ⟨b,o+k*4+j,none⟩=some u:=by
   intro j u hu
   rw [<- e] at hu
   have hj:j<4:=by
    have:=(List.getElem?_eq_some_iff.1 hu).1
    simp at this;omega
   rw [List.getElem?_take,if_pos hj,List.getElem?_drop,List.getElem?_take] at hu
   split at hu
   ·rw [List.getElem?_drop] at hu
    simp only [World.cell?,hc]
    rw [Nat.add_assoc]
    simpa using hu
   ·simp at hu
  refine ⟨b,o,_,v,a2,_,c2,a3,_,c3,bs[k],rfl,lt_of_heap hc,by simp [hk],hat 0 _ rfl,hat 1 _ rfl,hat 2 _ rfl,hat 3 _ rfl,?_⟩
  rw [<- e];exact h3
theorem partsOf_eq (b:Bd):partsOf b=kidsOf b++yesOf b:=by cases b <;> rfl
def BoxN (g:Nat) (s:Bs) (k y:Value) (w:World):Prop :=
 w.cell? ⟨g,0,none⟩=some (str s)/\w.cell? ⟨g,2,none⟩=some k/\w.cell? ⟨g,3,none⟩=some y
theorem BoxN.below {g:Nat} {s:Bs} {k y:Value} {w w':World} (h:BoxN g s k y w) (hb:Below w.heap.size w w'):BoxN g s k y w':=by
 obtain ⟨h1,h2,h3⟩:=h
 have:=World.block_lt_of_cell? w _ h1
 exact ⟨by rw [hb.cell (by exact this)];exact h1,by rw [hb.cell (by exact this)];exact h2,by rw [hb.cell (by exact this)];exact h3⟩
def SizeNSaid (b:Bd):Prop:=∀ (F:Nat->Prop) (w:World) (s:Bs) (v:Int) (a2:Option Addr) (n2 c2:Nat) (a3:Option Addr) (n3 c3:Nat),Reps F w (encN b) [str s,.int .i64 v,.slice a2 n2 c2,.slice a3 n3 c3] ->
 Calls Tryz.prog 107 #[.agg #[str s,.int .i64 v,.slice a2 n2 c2,.slice a3 n3 c3]] w fun en w'=>en=.returned (.int .i64 (sizeB b))/\Below w.heap.size w w'
set_option maxRecDepth 100000 in
theorem l3Size_step (b:Bd) (hl:Lim (sizeB b)) (ih:∀ b',sizeB b'<sizeB b->SizeNSaid b'):SizeNSaid b:=by
 intro F w s v a2 n2 c2 a3 n3 c3 hv
 have hv0:=encN_open hv
 obtain ⟨v',a2',c2',a3',c3',e,hk,hy⟩:=hv0
 simp only [List.cons.injEq,Value.slice.injEq,and_true] at e
 obtain ⟨e0,e1,⟨rfl,e2,rfl⟩,⟨rfl,e3,rfl⟩⟩:=e
 clear e0 e1
 subst e2;subst e3
 obtain ⟨_,_,ek,hatk⟩:=AtNs.of hk
 obtain ⟨_,_,ey,haty⟩:=AtNs.of hy
 simp only [Value.slice.injEq,true_and] at ek ey
 obtain ⟨rfl,rfl⟩:=ek
 obtain ⟨rfl,rfl⟩:=ey
 have IH:=Lib.hid ih;clear ih
 have hl':=hl.le
 have hsz:=sizeB_parts b
 rw [partsOf_eq,sizeBs_append] at hsz
 have hkl:=length_le_sizeBs (kidsOf b)
 have hyl:=length_le_sizeBs (yesOf b)
 have E1:=Lib.hid hsz
 have kl:(kidsOf b).length<=16777216:=by omega
 have yl:(yesOf b).length<=16777216:=by omega
 have ATK:=Lib.hid hatk;have ATY:=Lib.hid haty
 clear hatk haty hk hy hv hsz hkl hyl
 generalize hK:kidsOf b=kids at *
 generalize hY:yesOf b=yess at *
 clear hK hY
 go_enter Tryz.func107,Tryz.ntmps107
 go_wp2_with fail
 go_loopw [3,4] (fun n i wr=>∃ k:Nat,k<=kids.length/\i=.int .i64 k/\n=.int .i64 ((1+sizeBs (kids.take k):Nat):Int)/\Below w.heap.size w wr/\BoxN w.heap.size s (.slice a2 kids.length c2) (.slice a3 yess.length c3) wr) (fun _ i _=>kids.length-(intOf i).toNat)
 case atStart=>exact ⟨0,Nat.zero_le _,rfl,by simp [sizeBs],(Below.refl _ _).alloc (Nat.le_refl _) _,by simp,by simp,by simp⟩
 case round =>
  rename_i wr
  obtain ⟨k,hk,rfl,rfl,hb,hc⟩:=hrel
  obtain ⟨hc1,hc2,hc3⟩:=id hc
  by_cases hlt:k<kids.length
  ·obtain ⟨bb,o,s',v',b2,m2,d2,b3,m3,d3,t,rfl,hbb,ht,u0,u1,u2,u3,hr⟩:=ATK.out k hlt
   have q0:=(hb.cell hbb).trans u0
   have q1:=(hb.cell hbb).trans u1
   have q2:=(hb.cell hbb).trans u2
   have q3:=(hb.cell hbb).trans u3
   have hr':=(Reps.below (F':=F) hb (fun _ h=>h) hr)
   have hs:=sizeBs_take ht
   have hle:=sizeBs_take_le kids (k+1)
   have hat':=E1.out
   have hp:=sizeB_pos t
   have IH':=Lib.hid (IH.out t (by omega))
   have HS:=Lib.hid hs
   have b1:1+sizeBs (kids.take k)+sizeB t<=16777216:=by omega
   have hz:=World.block_lt_of_cell? wr _ hc1
   clear hs ht hat' u0 u1 u2 u3 hr
   go_wp2_with fail
   refine (IH'.out _ _ _ _ _ _ _ _ _ _ hr').mono ?_
   rintro en w2 ⟨rfl,hb2⟩
   have hb3:=zzT hb hb2
   obtain ⟨hc1,hc2,hc3⟩:=id (hc.below hb2)
   have hc':=Lib.hid (hc.below hb2)
   go_wp2_with fail
   go_roundw
   case rel=>exact ⟨k+1,by omega,by go_num,by rw [HS.out] <;> go_num,hb3,hc'.out⟩
   case measure=>simp [intOf];omega
  ·obtain rfl:k=kids.length:=by omega
   rw [List.take_length]
   have bK:1+sizeBs kids<=16777216:=by have:=E1.out;omega
   clear hk hlt
   go_wp2_with fail
   have hb0:=hb;have hc0:=hc
   clear hb hc hc1 hc2 hc3
   go_loopw [3,5] (fun n i wr=>∃ k:Nat,k<=yess.length/\i=.int .i64 k/\n=.int .i64 ((1+sizeBs kids+sizeBs (yess.take k):Nat):Int)/\Below w.heap.size w wr/\BoxN w.heap.size s (.slice a2 kids.length c2) (.slice a3 yess.length c3) wr) (fun _ i _=>yess.length-(intOf i).toNat)
   case atStart=>exact ⟨0,Nat.zero_le _,rfl,by simp [sizeBs],hb0,hc0⟩
   case round =>
    clear hb0 hc0
    obtain ⟨k,hk,rfl,rfl,hb,hc⟩:=hrel
    obtain ⟨hc1,hc2,hc3⟩:=id hc
    by_cases hlt:k<yess.length
    ·obtain ⟨bb,o,s',v',b2,m2,d2,b3,m3,d3,t,rfl,hbb,ht,u0,u1,u2,u3,hr⟩:=ATY.out k hlt
     have q0:=(hb.cell hbb).trans u0
     have q1:=(hb.cell hbb).trans u1
     have q2:=(hb.cell hbb).trans u2
     have q3:=(hb.cell hbb).trans u3
     have hr':=(Reps.below (F':=F) hb (fun _ h=>h) hr)
     have hs:=sizeBs_take ht
     have hle:=sizeBs_take_le yess (k+1)
     have hat':=E1.out
     have hp:=sizeB_pos t
     have IH':=Lib.hid (IH.out t (by omega))
     have HS:=Lib.hid hs
     have b1:1+sizeBs kids+sizeBs (yess.take k)+sizeB t<=16777216:=by omega
     have hz:=World.block_lt_of_cell? _ _ hc1
     clear hs ht hat' u0 u1 u2 u3 hr
     go_wp2_with fail
     refine (IH'.out _ _ _ _ _ _ _ _ _ _ hr').mono ?_
     rintro en w2 ⟨rfl,hb2⟩
     have hb3:=zzT hb hb2
     obtain ⟨hc1,hc2,hc3⟩:=id (hc.below hb2)
     have hc':=Lib.hid (hc.below hb2)
     go_wp2_with fail
     go_roundw
     case rel=>exact ⟨k+1,by omega,by go_num,by rw [HS.out] <;> go_num,hb3,hc'.out⟩
     case measure=>simp [intOf];omega
    ·obtain rfl:k=yess.length:=by omega
     go_wp2_with fail
     go_ret
     exact ⟨ret_i64 (by rw [E1.out,List.take_length];omega),hb⟩
theorem l3Size_any (n:Nat):∀ b,sizeB b<=n->Lim n->SizeNSaid b:=by
 induction n with
 | zero=>intro b h _;have:=sizeB_pos b;omega
 | succ n ih=>exact fun b h hn=>l3Size_step b (hn.mono h) (fun b' h'=>ih b' (by omega) (hn.mono (by omega)))

def specStrat (s text:Bs):Option Bd :=
 if (specType s).2=false\/2000<text.length then none else
 match rdN 101 (specType s).1.args text with
 | none=>none
 | some (b,rest)=>if rest=[]/\sizeB b<=200 then some b else none
theorem specType_ok {l:Bs} (h:(specType l).2=true):atomsT (specType l).1<=15:=by
 unfold specType at *
 split at h
 ·simp at h
 ·rename_i hl
  rw [if_neg hl]
  cases hq:rdS 21 l with
  | none=>rw [hq] at h;simp at h
  | some x=>rw [hq] at h;obtain ⟨t,rest⟩:=x;simp at h;exact h.2
theorem hand_of_type {t:Ty} (h:atomsT t<=15):HandOk 101 t.args:=by
 have hm:=atomsT_mk t
 have key:∀ (ts:List Ty) (x:Ty),x∈ts->atomsT x<=atomsTs ts:=by
  intro ts
  induction ts with
  | nil=>intro x hx;simp at hx
  | cons y ys ih =>
    intro x hx
    rcases List.mem_cons.1 hx with rfl | hx
    ·simp [atomsTs];omega
    ·have:=ih x hx;simp [atomsTs];omega
 refine ⟨fun x hx=>?_,?_⟩
 ·have:=key t.args x hx;omega
 ·have:=length_le_atomsTs t.args;omega
theorem cell_set {w:World} {p a:Addr} {u v:Value} (h:w.cell? a=some v) (hne:a.block≠p.block):(w.setCell p u).cell? a=some v:=by
 rw [World.cell?_of_block (w:=w) (Below.heap_setCell _ _ _ _ hne)];exact h
theorem cell_of_keep {w w':World} {a:Addr} {v:Value} (h:w.cell? a=some v) (hk:∀ x,w.heap[a.block]? = some x->w'.heap[a.block]? = some x):w'.cell? a=some v:=by
 have hlt:=World.block_lt_of_cell? w a h
 rw [World.cell?_of_block (w:=w)]
 ·exact h
 ·rw [hk _ (Array.getElem?_eq_getElem hlt),Array.getElem?_eq_getElem hlt]
abbrev KeepS (g1 g2:Nat) (T u0 u1 u2 u3:Value) (w:World):Prop :=
 w.cell? ⟨g1,0,none⟩=some T/\w.cell? ⟨g2,0,none⟩=some u0/\w.cell? ⟨g2,1,none⟩=some u1/\w.cell? ⟨g2,2,none⟩=some u2/\w.cell? ⟨g2,3,none⟩=some u3
theorem KeepS.set {g1 g2:Nat} {T u0 u1 u2 u3:Value} {w:World} (h:KeepS g1 g2 T u0 u1 u2 u3 w) (b o:Nat) (u:Value) (h1:g1≠b) (h2:g2≠b):KeepS g1 g2 T u0 u1 u2 u3 (w.setCell ⟨b,o,none⟩ u) :=
 ⟨cell_set h.1 h1,cell_set h.2.1 h2,cell_set h.2.2.1 h2,cell_set h.2.2.2.1 h2,cell_set h.2.2.2.2 h2⟩
def StratPost (s text:Bs) (w:World) (en:Ending) (w':World):Prop :=
 ∃ (a:Option Addr) (c:Nat) (s':Bs) (v':Int) (a2:Option Addr) (n2 c2:Nat) (a3:Option Addr) (n3 c3:Nat),
   en=.returned (.tuple #[.agg #[.slice a (specType s).1.args.length c],.agg #[str s',.int .i64 v',.slice a2 n2 c2,.slice a3 n3 c3],.bool (specStrat s text).isSome])/\Below w.heap.size w w' /\
   Rep (w.heap.size<=·) w' (encS (specType s).1) (.slice a (specType s).1.args.length c) /\
   (∀ b,specStrat s text=some b->Reps (w.heap.size<=·) w' (encN b) [str s',.int .i64 v',.slice a2 n2 c2,.slice a3 n3 c3])
theorem StratPost.no {s text:Bs} {w w':World} {a:Option Addr} {c:Nat} {v:Value} (hv:v=.slice a (specType s).1.args.length c) {s':Bs} {v':Int} {a2:Option Addr} {n2 c2:Nat} {a3:Option Addr} {n3 c3:Nat} {f:Bool} (hf:f=false) (hn:specStrat s text=none) (hb:Below w.heap.size w w')
 (hr:Rep (w.heap.size<=·) w' (encS (specType s).1) v) :
 StratPost s text w (.returned (.tuple #[.agg #[v],.agg #[str s',.int .i64 v',.slice a2 n2 c2,.slice a3 n3 c3],.bool f])) w':=by
 subst hv;subst hf
 exact ⟨a,c,s',v',a2,n2,c2,a3,n3,c3,by rw [hn];rfl,hb,hr,fun b h=>by rw [hn] at h;simp at h⟩
theorem StratPost.yes {s text:Bs} {w w':World} {a:Option Addr} {c:Nat} {v:Value} (hv:v=.slice a (specType s).1.args.length c) {s':Bs} {v':Int} {a2:Option Addr} {n2 c2:Nat} {a3:Option Addr} {n3 c3:Nat} {f:Bool} {b:Bd} (hf:f=true) (hn:specStrat s text=some b) (hb:Below w.heap.size w w')
 (hr:Rep (w.heap.size<=·) w' (encS (specType s).1) v) (hrs:Reps (w.heap.size<=·) w' (encN b) [str s',.int .i64 v',.slice a2 n2 c2,.slice a3 n3 c3]) :
 StratPost s text w (.returned (.tuple #[.agg #[v],.agg #[str s',.int .i64 v',.slice a2 n2 c2,.slice a3 n3 c3],.bool f])) w':=by
 subst hv;subst hf
 exact ⟨a,c,s',v',a2,n2,c2,a3,n3,c3,by rw [hn];rfl,hb,hr,fun b' h=>by rw [hn] at h;simp at h;subst h;exact hrs⟩
set_option maxRecDepth 100000 in
theorem l3Strategy_any (s text:Bs) (hs:Lim s.length) (hl:Lim text.length) (w:World):Calls Tryz.prog 53 #[str s,str text] w (StratPost s text w):=by
 have hs':=hs.le
 have hl':=hl.le
 go_enter Tryz.func53,Tryz.ntmps53
 go_wp2_with fail
 refine (l1Type_any s hs _).mono ?_
 rintro en w1 ⟨v1,rfl,hb1,hv1⟩
 have z1:=hb1.size
 rw [size_alloc,size_alloc] at z1
 obtain ⟨a1,c1,e1⟩:=encS_slice hv1
 have E1:=Lib.hid e1
 have hbA:Below w.heap.size w w1:=(((Below.refl w.heap.size w).alloc (Nat.le_refl _) _).alloc (by simp) _).trans (hb1.mono (by simp;omega))
 have hz1:w.heap.size<w1.heap.size:=by omega
 have hz2:w.heap.size+1<w1.heap.size:=by omega
 have r0:w1.cell? ⟨w.heap.size,0,none⟩=some (.slice none 0 0):=by rw [hb1.cell (by simp only [size_alloc];omega)];exact cell_alloc (by simp)
 have rf0:w1.frozen? ⟨w.heap.size,0,none⟩=false:=by
  rw [hb1.frozen (by simp only [size_alloc];omega)]
  rw [World.frozen?_of_block (w:=w.alloc (.cells #[.slice none 0 0] 78)) (Below.heap_alloc _ _ _ (by simp))];simp
 have hN:NewN (w.heap.size+1) 0 (.slice none 0 0) (.slice none 0 0) w1:=by
  unfold NewN;rw [hb1.block _ (by simp)]
  have:=heap_new (w.alloc (.cells #[.slice none 0 0] 78)) (.cells #[str [],.int .i64 0,.slice none 0 0,.slice none 0 0] 81)
  rw [size_alloc] at this;exact this
 subst e1
 have hv1':Rep (w.heap.size+1 < ·) w1 (encS (specType s).1) (.slice a1 (specType s).1.args.length c1):=(Rep.keep fun b o h ho=>⟨by have:=sz_le h;rw [size_alloc] at this;omega,ho⟩).1 _ _ hv1
 have HS:Hid (specStrat s text=if (specType s).2=false\/2000<text.length then none else
  match rdN 101 (specType s).1.args text with
  | none=>none
  | some (b,rest)=>if rest=[]/\sizeB b<=200 then some b else none):=rfl
 have HOK:=Lib.hid (specType_ok (l:=s))
 generalize hT:(specType s).1=t at *
 generalize hO:(specType s).2=ok at *
 have HT:=Lib.hid hT;clear hT hO hv1
 obtain ⟨q0,q1,q2,q3,ql,qf⟩:=hN.cells
 have qf0:=qf 0;have qf1:=qf 1;have qf2:=qf 2;have qf3:=qf 3;clear qf
 by_cases hcase:ok=true/\text.length<=2000
 rotate_left
 ·have hn:specStrat s text=none:=by
   rw [HS.out,if_pos]
   cases ok with
   | false=>exact .inl rfl
   | true=>exact .inr (by simp at hcase;omega)
  have HN:=Lib.hid hn;clear hn
  have hcase:ok=false\/(ok=true/\(2000:Int)<(text.length:Int)):=by
   cases ok with
   | false=>exact .inl rfl
   | true=>exact .inr ⟨rfl,by simp at hcase;omega⟩
  have h0:NewN (w.heap.size+1) 0 (.slice none 0 0) (.slice none 0 0) (w1.setCell ⟨w.heap.size,0,none⟩ (.slice a1 t.args.length c1)):=by
   unfold NewN;rw [Below.heap_setCell _ _ _ _ (by simp)];exact hN
  obtain ⟨W,hW,s0,s1,s2,s3,hbW,hkW⟩:=h0.store (.string ⟨#[]⟩) (.int .i64 0) (.slice none 0 0) (.slice none 0 0)
  have t0:W.cell? ⟨w.heap.size,0,none⟩=some (.slice a1 t.args.length c1):=cell_of_keep (cell_put r0 _) fun x hx=>hkW _ x (by simp) hx
  have hbF:=hbW _ _ (hbA.setCell (p:=⟨w.heap.size,0,none⟩) (Nat.le_refl _) (.slice a1 t.args.length c1)) (by omega)
  have hrF:Rep (w.heap.size<=·) W (encS t) (.slice a1 t.args.length c1):=(Rep.keep fun b o h ho=>⟨by omega,hkW b o (by omega) (by rw [Below.heap_setCell _ _ _ _ (by simp;omega)];exact ho)⟩).1 _ _ hv1'
  have FIN:Hid (∀ o,StratPost s text w (.returned (.tuple #[.agg #[.slice a1 t.args.length c1],.agg #[str [],.int .i64 0,.slice none 0 0,.slice none 0 0],.bool false])) (W.alloc o)):=fun o =>
   StratPost.no (a:=a1) (c:=c1) (by rw [HT.out]) rfl HN.out (hbF.alloc hbF.size o) (by rw [HT.out];exact (Rep.keep fun b o h ho=>⟨h,heap_past ho⟩).1 _ _ hrF)
  have HW:=Lib.hid hW;clear h0 hW hbW hkW hbF hrF
  rcases hcase with rfl | ⟨rfl,h⟩
  all_goals
   go_wp2_with fail
   rw [<- HW.out]
   refine bodyPost_ret (v:=.tuple #[.agg #[.slice a1 t.args.length c1],.agg #[str [],.int .i64 0,.slice none 0 0,.slice none 0 0],.bool false]) (by simp [results,Tryz.results53,go_sem,cell_alloc t0,cell_alloc s0,cell_alloc s1,cell_alloc s2,cell_alloc s3]) rfl ?_
   exact FIN.out _
 obtain ⟨rfl,htl⟩:=hcase
 have htl':¬ (2000:Int)<(text.length:Int):=by omega
 have hat:=HOK.out rfl
 have hm:specStrat s text=(match rdN 101 t.args text with
  | none=>none
  | some (b,rest)=>if rest=[]/\sizeB b<=200 then some b else none):=by rw [HS.out,if_neg (by simp;omega)]
 have HM:=Lib.hid hm;clear hm HS HOK
 have hvE:=hv1'
 rw [encS_eq] at hvE
 have hho:=hand_of_type hat
 go_wp2_with fail
 refine (l3Read_any text hl 101 0 rfl (w.heap.size+1 < ·) t.args _ 0 _ (Nat.zero_le _) hho (by exact (Rep.keep fun b o h ho=>⟨h,heap_past ho⟩).1 _ _ hvE)).mono ?_
 rw [List.drop_zero]
 rintro en w2 ⟨s',v',a2,n2,c2,a3,n3,c3,k,rfl,hb2,hn2,hy2⟩
 have z2:=hb2.size
 rw [size_alloc] at z2
 have hbB:Below w.heap.size w w2:=(hbA.alloc (by omega) _).trans (hb2.mono (by rw [size_alloc];omega))
 have r0':w2.cell? ⟨w.heap.size,0,none⟩=some (.slice none 0 0):=by rw [hb2.cell (by rw [size_alloc];simp only;omega)];exact cell_alloc r0
 have rf0':w2.frozen? ⟨w.heap.size,0,none⟩=false:=by rw [hb2.frozen (by rw [size_alloc];simp only;omega)];rw [World.frozen?_of_block (w:=w1) (Below.heap_alloc _ _ _ hz1)];exact rf0
 have hN':NewN (w.heap.size+1) 0 (.slice none 0 0) (.slice none 0 0) w2:=by
  unfold NewN;rw [hb2.block _ (by rw [size_alloc];omega)];exact heap_past hN
 have hT2:w2.cell? ⟨w1.heap.size,0,none⟩=some (.slice a1 t.args.length c1):=by rw [hb2.cell (by rw [size_alloc];simp only;omega)];simp
 have hv2:Rep (w.heap.size+1 < ·) w2 (encS t) (.slice a1 t.args.length c1):=(Rep.keep fun b o h ho=>⟨h,by rw [hb2.block b (by have:=lt_of_heap ho;rw [size_alloc];omega)];exact heap_past ho⟩).1 _ _ hv1'
 clear r0 rf0 hN q0 q1 q2 q3 ql qf0 qf1 qf2 qf3 hvE hv1' hho
 obtain ⟨q0,q1,q2,q3,ql,qf⟩:=hN'.cells
 have qf0:=qf 0;have qf1:=qf 1;have qf2:=qf 2;have qf3:=qf 3;clear qf
 have y1:w.heap.size<w2.heap.size:=by omega
 have y2:w1.heap.size<w2.heap.size:=by omega
 have HB2:=Lib.hid hb2;clear hb2
 by_cases hk:k=(text.length:Int)
 rotate_left
 ·have g1:(k == (text.length:Int))=false:=by rw [beq_eq_false_iff_ne];exact hk
  have hn:specStrat s text=none:=by
   rw [HM.out]
   cases hq:rdN 101 t.args text with
   | none=>rfl
   | some x =>
     obtain ⟨b,rest⟩:=x
     have h1:=(hy2 b rest hq).1
     simp only
     rw [if_neg]
     rintro ⟨rfl,_⟩
     exact hk (by rw [h1];simp)
  have HN:=Lib.hid hn
  clear hn hk hn2 hy2
  have h0:NewN (w.heap.size+1) 0 (.slice none 0 0) (.slice none 0 0) (w2.setCell ⟨w.heap.size,0,none⟩ (.slice a1 t.args.length c1)):=by
   unfold NewN;rw [Below.heap_setCell _ _ _ _ (by simp)];exact hN'
  obtain ⟨W,hW,s0,s1,s2,s3,hbW,hkW⟩:=h0.store (str s') (.int .i64 v') (.slice a2 n2 c2) (.slice a3 n3 c3)
  have t0:W.cell? ⟨w.heap.size,0,none⟩=some (.slice a1 t.args.length c1):=cell_of_keep (cell_put r0' _) fun x hx=>hkW _ x (by simp) hx
  have hbF:=hbW _ _ (hbB.setCell (p:=⟨w.heap.size,0,none⟩) (Nat.le_refl _) (.slice a1 t.args.length c1)) (by omega)
  have hrF:Rep (w.heap.size<=·) W (encS t) (.slice a1 t.args.length c1):=(Rep.keep fun b o h ho=>⟨by omega,hkW b o (by omega) (by rw [Below.heap_setCell _ _ _ _ (by simp;omega)];exact ho)⟩).1 _ _ hv2
  have FIN:Hid (∀ o,StratPost s text w (.returned (.tuple #[.agg #[.slice a1 t.args.length c1],.agg #[str s',.int .i64 v',.slice a2 n2 c2,.slice a3 n3 c3],.bool false])) (W.alloc o).drew):=fun o =>
   StratPost.no (a:=a1) (c:=c1) (by rw [HT.out]) rfl HN.out ((hbF.alloc hbF.size o).drew) (by rw [HT.out];exact ((Rep.keep fun b o h ho=>⟨h,heap_past ho⟩).1 _ _ hrF).drew)
  have HW:=Lib.hid hW;clear h0 hW hbW hkW hbF hrF
  go_wp2_with fail
  go_region
  go_wp2_with fail
  rw [<- HW.out]
  refine bodyPost_ret (v:=.tuple #[.agg #[.slice a1 t.args.length c1],.agg #[str s',.int .i64 v',.slice a2 n2 c2,.slice a3 n3 c3],.bool false]) (by simp [results,Tryz.results53,go_sem,cell_alloc t0,cell_alloc s0,cell_alloc s1,cell_alloc s2,cell_alloc s3]) rfl ?_
  exact FIN.out _
 obtain ⟨b,hqb⟩:∃ b,rdN 101 t.args text=some (b,[]):=by
  cases hq:rdN 101 t.args text with
  | none=>have:=hn2 hq;omega
  | some x =>
    obtain ⟨b,rest⟩:=x
    have h1:=(hy2 b rest hq).1
    have:rest.length=0:=by omega
    rw [List.eq_nil_of_length_eq_zero this];exact ⟨b,rfl⟩
 have hrB:=(hy2 b [] hqb).2
 have hsz:=rdN_size 101 hqb
 have hm:specStrat s text=if sizeB b<=200 then some b else none:=by
  rw [HM.out,hqb];simp
 have HM:=Lib.hid hm
 have hlB:Lim (sizeB b):=hl.mono (by simp at hsz;omega)
 have g1:(k == (text.length:Int))=true:=by rw [beq_iff_eq];exact hk
 clear hm hqb hn2 hy2 hsz
 have HK:=Lib.hid hk;clear hk
 have hrA:Reps (w.heap.size+1 < ·) (w2.alloc (.cells #[str s',.int .i64 v',.slice a2 n2 c2,.slice a3 n3 c3] 81)) (encN b) [str s',.int .i64 v',.slice a2 n2 c2,.slice a3 n3 c3] :=
  (Rep.keep fun b o h ho=>⟨by have:=sz_le h;omega,heap_past ho⟩).2 _ _ hrB
 have hTA:(w2.alloc (.cells #[str s',.int .i64 v',.slice a2 n2 c2,.slice a3 n3 c3] 81)).cell? ⟨w1.heap.size,0,none⟩=some (.slice a1 t.args.length c1):=cell_alloc hT2
 have n0:(w2.alloc (.cells #[str s',.int .i64 v',.slice a2 n2 c2,.slice a3 n3 c3] 81)).cell? ⟨w2.heap.size,0,none⟩=some (str s'):=by simp
 have n1:(w2.alloc (.cells #[str s',.int .i64 v',.slice a2 n2 c2,.slice a3 n3 c3] 81)).cell? ⟨w2.heap.size,1,none⟩=some (.int .i64 v'):=by simp
 have n2':(w2.alloc (.cells #[str s',.int .i64 v',.slice a2 n2 c2,.slice a3 n3 c3] 81)).cell? ⟨w2.heap.size,2,none⟩=some (.slice a2 n2 c2):=by simp
 have n3':(w2.alloc (.cells #[str s',.int .i64 v',.slice a2 n2 c2,.slice a3 n3 c3] 81)).cell? ⟨w2.heap.size,3,none⟩=some (.slice a3 n3 c3):=by simp
 have hK3:KeepS w1.heap.size w2.heap.size (.slice a1 t.args.length c1) (str s') (.int .i64 v') (.slice a2 n2 c2) (.slice a3 n3 c3) (w2.alloc (.cells #[str s',.int .i64 v',.slice a2 n2 c2,.slice a3 n3 c3] 81)):=⟨hTA,n0,n1,n2',n3'⟩
 have hK3d:KeepS w1.heap.size w2.heap.size (.slice a1 t.args.length c1) (str s') (.int .i64 v') (.slice a2 n2 c2) (.slice a3 n3 c3) (w2.alloc (.cells #[str s',.int .i64 v',.slice a2 n2 c2,.slice a3 n3 c3] 81)).drew:=hK3
 have ne1:w1.heap.size≠w.heap.size:=by omega
 have ne2:w2.heap.size≠w.heap.size:=by omega
 have ne3:w1.heap.size≠w.heap.size+1:=by omega
 have ne4:w2.heap.size≠w.heap.size+1:=by omega
 clear hTA n0 n1 n2' n3'
 go_wp2_with fail
 go_region_held3 (fun w'=>w'.cell? ⟨w1.heap.size,0,none⟩=some (.slice a1 t.args.length c1)/\w'.cell? ⟨w2.heap.size,0,none⟩=some (str s')/\w'.cell? ⟨w2.heap.size,1,none⟩=some (.int .i64 v')/\w'.cell? ⟨w2.heap.size,2,none⟩=some (.slice a2 n2 c2)/\w'.cell? ⟨w2.heap.size,3,none⟩=some (.slice a3 n3 c3))
  (first
   | with_reducible exact hK3
   | with_reducible exact hK3d
   | with_reducible exact hK5
   | with_reducible exact hK5.set _ _ _ ne1 ne2
   | with_reducible exact (hK5.set _ _ _ ne1 ne2).set _ _ _ ne3 ne4
   | with_reducible exact ((hK5.set _ _ _ ne1 ne2).set _ _ _ ne3 ne4).set _ _ _ ne3 ne4
   | with_reducible exact (((hK5.set _ _ _ ne1 ne2).set _ _ _ ne3 ne4).set _ _ _ ne3 ne4).set _ _ _ ne3 ne4
   | with_reducible exact ((((hK5.set _ _ _ ne1 ne2).set _ _ _ ne3 ne4).set _ _ _ ne3 ne4).set _ _ _ ne3 ne4).set _ _ _ ne3 ne4
   | with_reducible exact hK5.set _ _ _ ne3 ne4
   | with_reducible exact (hK5.set _ _ _ ne3 ne4).set _ _ _ ne3 ne4
   | with_reducible exact ((hK5.set _ _ _ ne3 ne4).set _ _ _ ne3 ne4).set _ _ _ ne3 ne4
   | with_reducible exact (((hK5.set _ _ _ ne3 ne4).set _ _ _ ne3 ne4).set _ _ _ ne3 ne4).set _ _ _ ne3 ne4
   | with_reducible exact ((((hK5.set _ _ _ ne3 ne4).set _ _ _ ne3 ne4).set _ _ _ ne3 ne4).set _ _ _ ne3 ne4).set _ _ _ ne1 ne2)
  (first
   | (go_at_call 107;refine (l3Size_any (sizeB b) b (Nat.le_refl _) hlB (w.heap.size+1 < ·) _ _ _ _ _ _ _ _ _ (by exact hrA.drew)).mono ?_;rintro en w5 ⟨rfl,hb5⟩;have hK5:KeepS w1.heap.size w2.heap.size (.slice a1 t.args.length c1) (str s') (.int .i64 v') (.slice a2 n2 c2) (.slice a3 n3 c3) w5:=⟨(hb5.cell (by simp;omega)).trans hK3.1,(hb5.cell (by simp)).trans hK3.2.1,(hb5.cell (by simp)).trans hK3.2.2.1,(hb5.cell (by simp)).trans hK3.2.2.2.1,(hb5.cell (by simp)).trans hK3.2.2.2.2⟩;have z5:=hb5.size;have hz5:w.heap.size<w5.heap.size:=(by simp at z5;omega);have r5:w5.cell? ⟨w.heap.size,0,none⟩=some (.slice none 0 0):=(hb5.cell (by simp;omega)).trans (cell_alloc r0');have f5:w5.frozen? ⟨w.heap.size,0,none⟩=false:=(hb5.frozen (by simp;omega)).trans ((World.frozen?_of_block (w:=w2) (Below.heap_alloc _ _ _ y1)).trans rf0');have hN5:NewN (w.heap.size+1) 0 (.slice none 0 0) (.slice none 0 0) w5:=(by unfold NewN;rw [hb5.block _ (by simp;omega)];exact heap_past hN');obtain ⟨p0,p1,p2,p3,pl,pf⟩:=hN5.cells;have pf0:=pf 0;have pf1:=pf 1;have pf2:=pf 2;have pf3:=pf 3;clear pf))
 go_wp2_with fail
 have h0:NewN (w.heap.size+1) 0 (.slice none 0 0) (.slice none 0 0) (w5.setCell ⟨w.heap.size,0,none⟩ (.slice a1 t.args.length c1)):=by
  unfold NewN;rw [Below.heap_setCell _ _ _ _ (by simp)];exact hN5
 obtain ⟨W,hW,s0,s1,s2,s3,hbW,hkW⟩:=h0.store (str s') (.int .i64 v') (.slice a2 n2 c2) (.slice a3 n3 c3)
 have t0:W.cell? ⟨w.heap.size,0,none⟩=some (.slice a1 t.args.length c1):=cell_of_keep (cell_put r5 _) fun x hx=>hkW _ x (by simp) hx
 have hb2w:Below w2.heap.size w2 w5:=((((Below.refl _ _).alloc (Nat.le_refl _) _).drew).trans (hb5.mono (by simp)))
 have hbC:=zzT hbB hb2w
 have hbF:=hbW _ _ (hbC.setCell (p:=⟨w.heap.size,0,none⟩) (Nat.le_refl _) (.slice a1 t.args.length c1)) (by omega)
 have keepF:∀ i o,w.heap.size+1<i->w2.heap[i]? = some o->W.heap[i]? = some o:=fun i o h ho =>
  hkW i o (by omega) (by rw [Below.heap_setCell _ _ _ _ (by simp;omega),hb2w.block i (lt_of_heap ho)];exact ho)
 have hrF:Rep (w.heap.size<=·) W (encS t) (.slice a1 t.args.length c1):=(Rep.keep fun b o h ho=>⟨by omega,keepF b o h ho⟩).1 _ _ hv2
 have hrN:Reps (w.heap.size<=·) W (encN b) [str s',.int .i64 v',.slice a2 n2 c2,.slice a3 n3 c3]:=(Rep.keep fun b o h ho=>⟨by have:=sz_le h;omega,keepF b o (by have:=sz_le h;omega) ho⟩).2 _ _ hrB
 rw [<- hW]
 refine bodyPost_ret (v:=.tuple #[.agg #[.slice a1 t.args.length c1],.agg #[str s',.int .i64 v',.slice a2 n2 c2,.slice a3 n3 c3],.bool (decide ((sizeB b:Int)<=200))]) (by simp [results,Tryz.results53,go_sem,t0,s0,s1,s2,s3]) rfl ?_
 by_cases h200:sizeB b<=200
 ·refine StratPost.yes (a:=a1) (c:=c1) (by rw [HT.out]) (by rw [decide_eq_true_eq];omega) (by rw [HM.out,if_pos h200]) hbF (by rw [HT.out];exact hrF) hrN
 ·exact StratPost.no (a:=a1) (c:=c1) (by rw [HT.out]) (by rw [decide_eq_false_iff_not];omega) (by rw [HM.out,if_neg h200]) hbF (by rw [HT.out];exact hrF)
end Go.Proofs.YtdfkiicodfbibaaGreatDoor

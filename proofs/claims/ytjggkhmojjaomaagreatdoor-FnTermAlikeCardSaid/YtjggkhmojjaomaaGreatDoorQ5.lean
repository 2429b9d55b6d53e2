/- Walks of functions that the statement reaches, and plain words. No conditions. -/
import Derived.Test.YtjggkhmojjaomaaGreatDoorQ4
set_option linter.unusedVariables false
set_option linter.unusedSimpArgs false
set_option maxHeartbeats 4000000
namespace Go.Proofs.YtjggkhmojjaomaaGreatDoor
open Go.RowKit
def b6 (i:Nat) (o:Option (Nat×Nat)) (w:World) (en:Ending) (w':World):Prop :=
 ∃ (v:Nat) (k:Int),en=.returned (.tuple #[.int .i64 v,.int .i64 k])/\w=w'/\(o=none->k = -1)/\(∀ v' c,o=some (v',c)->v=v'/\k=((i+c:Nat):Int))
theorem l3Number_any (l:Bs) (hl:Lim l.length) (i:Nat) (hi:i<=l.length) (w:World) :
 Calls Tryz.prog 89 #[str l,.int .i64 i] w (b6 i (j9 (l.drop i)) w):=by
 have tH:=hl.le
 obtain ⟨ds,hds⟩:=zzM (jH (l.drop i))
 have hd4:=cE (l.drop i)
 rw [<- hds] at hd4
 have h4:ds.length<=4:=hd4.1
 have hdl:i+ds.length<=l.length:=by have:=hd4.2;simp at this;omega
 have HDS:=ed hds;clear hds hd4
 go_enter Tryz.func89,Tryz.ntmps89
 go_wp2_with fail
 go_loop [6,7] (fun n k=>∃ j:Nat,j<=ds.length/\k=.int .i64 ((i+j:Nat):Int)/\n=.int .i64 (up (ds.take j):Nat)) (fun _ k=>i+ds.length-(intOf k).toNat)
 case atStart=>exact ⟨0,Nat.zero_le _,by simp,by simp [up]⟩
 case round =>
  obtain ⟨j,hj,rfl,rfl⟩:=hrel
  by_cases fG:j<ds.length
  ·have DO:i+j<l.length:=by omega
   have fU:l[i+j]=ds[j]/\dig l[i+j]=true:=by
    have h1:=HDS.out;subst h1
    obtain ⟨hm,e1,e2⟩:=digsOf_at fG
    rw [List.getElem_drop] at e1 e2
    exact ⟨e1,e2⟩
   have b1:(48:Int)<=((((⟨l.toArray⟩:ByteArray)[i+j]'(kO DO)).toNat:Int))/\((((⟨l.toArray⟩:ByteArray)[i+j]'(kO DO)).toNat:Int))<=57:=by
    have h2:=fU.2
    simp [dig,UInt8.le_iff_toNat_le] at h2
    rw [yS DO];omega
   obtain ⟨b1,b2⟩:=b1
   have hv:up (ds.take j)<=9999:=by
    have h1:=valOf_lt (ds.take j) (fun c hc=>gS _ c (by have:=HDS.out;rw [<- this];exact List.mem_of_mem_take hc))
    have h2:10 ^ (ds.take j).length<=10 ^ 4:=Nat.pow_le_pow_right (by omega) (by simp;omega)
    omega
   have hs:=valOf_take fG
   have aw:(up (ds.take (j+1)):Int)=10*(up (ds.take j):Int)+(((((⟨l.toArray⟩:ByteArray)[i+j]'(kO DO)).toNat:Int))-48):=by
    rw [yS DO] at b1 ⊢;rw [hs,fU.1] at *;omega
   have HS:=ed aw
   have j4:j<4:=by omega
   clear hs aw fU
   go_wp2_with fail
   go_round
   case rel=>exact ⟨j+1,by omega,by go_num,by rw [HS.out]⟩
   case measure=>simp [intOf];omega
  ·obtain rfl:j=ds.length:=by omega
   have oH:ds.length=4\/i+ds.length=l.length\/∃ h:i+ds.length<l.length,dig l[i+ds.length]=false:=by
    have h1:=HDS.out;subst h1
    rcases digsOf_end (m:=l.drop i) with h | h | ⟨h,h2⟩
    ·exact .inl h
    ·right;left;simp at h;omega
    ·right;right;simp at h;refine ⟨by omega,?_⟩;rw [List.getElem_drop] at h2;exact h2
   have HV:j9 (l.drop i)=(if ds=[]\/(1<ds.length/\(l.drop i).head? = some 48) then none else some (up ds,ds.length)):=by
    unfold j9;rw [<- HDS.out]
   have lY:4<=ds.length\/l.length<=i+ds.length\/(∃ h:i+ds.length<l.length,((((⟨l.toArray⟩:ByteArray)[i+ds.length]'(kO h)).toNat:Int))<48)\/(∃ h:i+ds.length<l.length,(57:Int)<((((⟨l.toArray⟩:ByteArray)[i+ds.length]'(kO h)).toNat:Int))):=by
    rcases oH with h | h | ⟨h,h2⟩
    ·exact .inl (by omega)
    ·exact .inr (.inl (by omega))
    ·simp [dig,UInt8.le_iff_toNat_le] at h2
     by_cases hc:l[i+ds.length].toNat<48
     ·exact .inr (.inr (.inl ⟨h,by rw [yS h];omega⟩))
     ·exact .inr (.inr (.inr ⟨h,by rw [yS h];have:=h2 (by omega);omega⟩))
   clear oH
   rw [List.take_length]
   rcases (by omega:ds.length=0\/ds.length=1\/2<=ds.length) with hn | hn | hn
   ·have e0:((i:Int)+(ds.length:Int) == (i:Int))=true:=by rw [beq_iff_eq];omega
    have fin:b6 i (j9 (l.drop i)) w (.returned (.tuple #[.int .i64 0,.int .i64 (-1)])) w:=by
     have lX:ds=[]:=List.eq_nil_of_length_eq_zero hn
     refine ⟨0,-1,rfl,rfl,fun _=>rfl,fun v c h=>?_⟩
     rw [HV,if_pos (.inl lX)] at h;simp at h
    have HF:=ed fin;have aZ:(ds.length:Int)<=0:=by omega
    clear fin HV hn
    rcases lY with h | h | ⟨h,h2⟩ | ⟨h,h2⟩
    all_goals
     go_wp2_with fail
     all_goals (go_ret2;exact HF.out)
   ·have e0:((i:Int)+(ds.length:Int) == (i:Int))=false:=by rw [beq_eq_false_iff_ne];omega
    have n1:¬ 1<ds.length:=by omega
    have fin:b6 i (j9 (l.drop i)) w (.returned (.tuple #[.int .i64 (up ds:Nat),.int .i64 ((i:Int)+(ds.length:Int))])) w:=by
     have lX:¬ (ds=[]\/(1<ds.length/\(l.drop i).head? = some 48)):=by
      rintro (h | h)
      ·rw [h] at hn;simp at hn
      ·omega
     refine ⟨_,_,rfl,rfl,fun h=>?_,fun v c h=>?_⟩
     ·rw [HV,if_neg lX] at h;simp at h
     ·rw [HV,if_neg lX] at h;simp at h;exact ⟨h.1,by omega⟩
    have HF:=ed fin;have sZ:1<=ds.length:=by omega
    clear fin HV hn
    rcases lY with h | h | ⟨h,h2⟩ | ⟨h,h2⟩
    all_goals
     go_wp2_with fail
     all_goals (go_ret2;exact HF.out)
   ·have e0:((i:Int)+(ds.length:Int) == (i:Int))=false:=by rw [beq_eq_false_iff_ne];omega
    have n1:1<ds.length:=by omega
    have F3:i<l.length:=by rcases lY with h | h | ⟨h,h2⟩ | ⟨h,h2⟩ <;> omega
    have EJ:(l.drop i).head? = some l[i]:=by rw [List.head?_drop];simp [F3]
    have hdn:ds≠[]:=by intro h;rw [h] at hn;simp at hn
    by_cases Hm:l[i]=48
    ·have f1:=xV F3 (n:=48) (by decide) Hm
     have fin:b6 i (j9 (l.drop i)) w (.returned (.tuple #[.int .i64 0,.int .i64 (-1)])) w:=by
      refine ⟨0,-1,rfl,rfl,fun _=>rfl,fun v c h=>?_⟩
      rw [HV,if_pos (.inr ⟨n1,by rw [EJ,Hm]⟩)] at h;simp at h
     have HF:=ed fin;clear fin HV EJ Hm
     rcases lY with h | h | ⟨h,h2⟩ | ⟨h,h2⟩
     all_goals
      go_wp2_with fail
      all_goals (go_ret2;exact HF.out)
    ·have f1:=vh F3 (n:=48) (by decide) Hm
     have fin:b6 i (j9 (l.drop i)) w (.returned (.tuple #[.int .i64 (up ds:Nat),.int .i64 ((i:Int)+(ds.length:Int))])) w:=by
      have lX:¬ (ds=[]\/(1<ds.length/\(l.drop i).head? = some 48)):=by
       rintro (h | h)
       ·exact hdn h
       ·rw [EJ] at h;exact Hm (Option.some.inj h.2)
      refine ⟨_,_,rfl,rfl,fun h=>?_,fun v c h=>?_⟩
      ·rw [HV,if_neg lX] at h;simp at h
      ·rw [HV,if_neg lX] at h;simp at h;exact ⟨h.1,by omega⟩
     have HF:=ed fin;clear fin HV EJ Hm
     rcases lY with h | h | ⟨h,h2⟩ | ⟨h,h2⟩
     all_goals
      go_wp2_with fail
      all_goals (go_ret2;exact HF.out)
mutual
def kE:Bd->List DV
 | .leaf c=>[.val (str [c]),.val (.int .i64 (0:Nat)),.sl 48 4 0 [],.sl 48 4 0 []]
 | .ask v ss y n=>[.val (str []),.val (.int .i64 v),.sl 48 4 ss.length (zg ss),.sl 48 4 2 (kE y++(kE n++[]))]
def zg:List Bd->List DV
 | []=>[]
 | b::bs=>kE b++zg bs
end
theorem ji (b:Bd):(kE b).length=4:=by cases b <;> simp [kE]
theorem encNs_length (bs:List Bd):(zg bs).length=bs.length*4:=by
 induction bs with
 | nil=>simp [zg]
 | cons b bs ih=>simp [zg,ji,ih];omega
theorem qU (a b:List Bd):zg (a++b)=zg a++zg b:=by
 induction a with
 | nil=>simp [zg]
 | cons t ts ih=>simp [zg,ih,List.append_assoc]
theorem yN (v:Nat) (ss:List Bd) (y n:Bd):kE (.ask v ss y n)=[.val (str []),.val (.int .i64 v),.sl 48 4 ss.length (zg ss),.sl 48 4 2 (zg [y,n])]:=by
 simp [kE,zg]
theorem Tryz.infoN:(Tryz.prog.info? 48).map (fun i=>(i.zero,i.size,i.bytes))=some (some (.agg #[str [],.int .i64 0,.slice none 0 0,.slice none 0 0]),4,72):=by kernel_rfl
def uJ (L:Nat) (w:World) (o:Option (Bd×Bs)) (en:Ending) (w':World):Prop :=
 ∃ (s:Bs) (v:Int) (a2:Option Addr) (n2 k2:Nat) (a3:Option Addr) (n3 k3:Nat) (k:Int),en=.returned (.tuple #[.agg #[str s,.int .i64 v,.slice a2 n2 k2,.slice a3 n3 k3],.int .i64 k])/\Below w.heap.size w w'/\(o=none->k = -1) /\
   (∀ b rest,o=some (b,rest)->k=(L:Int)-rest.length/\zX (w.heap.size<=·) w' (kE b) [str s,.int .i64 v,.slice a2 n2 k2,.slice a3 n3 k3])
theorem uJ.no {L:Nat} {w w':World} {o:Option (Bd×Bs)} (ho:o=none) (hb:Below w.heap.size w w') :
 uJ L w o (.returned (.tuple #[.agg #[str [],.int .i64 0,.slice none 0 0,.slice none 0 0],.int .i64 (-1)])) w' :=
 ⟨[],0,none,0,0,none,0,0,_,rfl,hb,fun _=>rfl,fun _ _ h=>by rw [ho] at h;simp at h⟩
theorem uJ.yes {L:Nat} {w w':World} {o:Option (Bd×Bs)} {b:Bd} {rest:Bs} {s:Bs} {v:Int} {a2:Option Addr} {n2 k2:Nat} {a3:Option Addr} {n3 k3:Nat} {k:Int} (ho:o=some (b,rest)) (hk:k=(L:Int)-rest.length) (hb:Below w.heap.size w w') (hv:zX (w.heap.size<=·) w' (kE b) [str s,.int .i64 v,.slice a2 n2 k2,.slice a3 n3 k3]) :
 uJ L w o (.returned (.tuple #[.agg #[str s,.int .i64 v,.slice a2 n2 k2,.slice a3 n3 k3],.int .i64 k])) w' :=
 ⟨s,v,a2,n2,k2,a3,n3,k3,k,rfl,hb,fun h=>by rw [ho] at h;simp at h,fun _ _ h=>by rw [ho] at h;simp at h;obtain ⟨rfl,rfl⟩:=h;exact ⟨hk,hv⟩⟩
def NodeSaid (l:Bs) (e d:Nat):Prop:=∀ (F:Nat->Prop) (hand:List Ty) (hv:Value) (i:Nat) (w:World),i<=l.length->vV e hand ->
    Rep F w (.sl 43 1 hand.length (qH hand)) hv ->
    Calls Tryz.prog 69 #[str l,.int .i64 i,hv,.int .i64 d] w (uJ l.length w (rdN e hand (l.drop i)))
theorem cP (F:Nat->Prop) (w:World) (c:UInt8):zX F w (kE (.leaf c)) [str [c],.int .i64 0,.slice none 0 0,.slice none 0 0]:=by
 have hz:Rep F w (.sl 48 4 0 []) (.slice none 0 0):=zp.2 ⟨rfl,none,0,rfl,ei _,fun _=>rfl,.inl rfl⟩
 rw [kE]
 exact zQ.2 ⟨_,_,rfl,zH.2 rfl,zQ.2 ⟨_,_,rfl,zH.2 rfl,zQ.2 ⟨_,_,rfl,hz,zQ.2 ⟨_,_,rfl,hz,zC.2 rfl⟩⟩⟩⟩
theorem rdN_leaf (e:Nat) (hand:List Ty) {l:Bs} {i:Nat} (h:i<l.length) (hc:l[i]=116\/l[i]=102\/l[i]=117):rdN (e+1) hand (l.drop i)=some (.leaf l[i],l.drop (i+1)):=by
 rw [List.drop_eq_getElem_cons h,rdN];simp only [if_pos hc]
theorem rdN_other (e:Nat) (hand:List Ty) {l:Bs} {i:Nat} (h:i<l.length) (hc:¬ (l[i]=116\/l[i]=102\/l[i]=117)) (n8:¬ l[i]=40):rdN (e+1) hand (l.drop i)=none:=by
 rw [List.drop_eq_getElem_cons h,rdN];simp only [if_neg hc,if_pos n8]
theorem rdN_40 (e:Nat) (hand:List Ty) {l:Bs} {i:Nat} (h:i<l.length) (n8:l[i]=40):rdN (e+1) hand (l.drop i)=(match j9 (l.drop (i+1)) with
 | none=>none
 | some (v,k)=>match hand[v]? with
   | none=>none
   | some t=>do
     let (ps,l1)<-zx (rdN e) (jK hand t) ((l.drop (i+1)).drop k)
     let l2<-cut [41] l1
     let b<-pW v t.args.length ps
     some (b,l2)):=by
 rw [List.drop_eq_getElem_cons h,rdN]
 rw [if_neg (by rw [n8];decide),if_neg (by simpa using n8)]
 try rfl
theorem bQ (l:Bs) (hl:Lim l.length) (e d:Nat) (AG:e+d=101) (F:Nat->Prop) (hand:List Ty) (hv:Value) (i:Nat) (w:World) (hi:i<=l.length)
 (hr:Rep F w (.sl 43 1 hand.length (qH hand)) hv) (sL:∀ h:i<l.length,e=0\/¬ l[i]=40) :
 Calls Tryz.prog 69 #[str l,.int .i64 i,hv,.int .i64 d] w (uJ l.length w (rdN e hand (l.drop i))):=by
 have tH:=hl.le
 obtain ⟨a0,c0,e0,_⟩:=zP hr
 subst e0
 rcases e with _ | e
 ·have oB:(100:Int)<(d:Int):=by omega
  clear sL
  go_enter Tryz.func69,Tryz.ntmps69
  go_wp2_with fail
  refine bodyPost_ret (v:=.tuple #[.agg #[str [],.int .i64 0,.slice none 0 0,.slice none 0 0],.int .i64 (-1)]) (by simp [results,Tryz.results69,go_sem]) rfl ?_
  exact uJ.no (by rfl) (by repeat (first | exact e_ _ _ | refine Below.alloc ?_ (ei _) _ | refine Below.setCell ?_ (by simp) _))
 have lX:¬ (100:Int)<(d:Int):=by omega
 by_cases fG:i<l.length
 rotate_left
 ·clear sL
  go_enter Tryz.func69,Tryz.ntmps69
  go_wp2_with fail
  refine bodyPost_ret (v:=.tuple #[.agg #[str [],.int .i64 0,.slice none 0 0,.slice none 0 0],.int .i64 (-1)]) (by simp [results,Tryz.results69,go_sem]) rfl ?_
  exact uJ.no (by rw [List.drop_eq_nil_of_le (by omega)];rfl) (by repeat (first | exact e_ _ _ | refine Below.alloc ?_ (ei _) _ | refine Below.setCell ?_ (by simp) _))
 have n8:¬ l[i]=40:=(sL fG).resolve_left (by omega)
 clear sL
 by_cases Dk:l[i]=116\/l[i]=102\/l[i]=117
 ·have HM:=ed (rdN_leaf e hand fG Dk)
  have hx:((⟨l.toArray⟩:ByteArray).extract i (i+1))=⟨#[l[i]]⟩:=by
   rw [pz];congr 1
   rw [List.drop_take,List.drop_eq_getElem_cons fG,show i+1-i=1 from by omega];rfl
  have HX:=ed hx;clear hx
  have fin:∀ w':World,Below w.heap.size w w'->uJ l.length w (rdN (e+1) hand (l.drop i)) (.returned (.tuple #[.agg #[.string ((⟨l.toArray⟩:ByteArray).extract i (i+1)),.int .i64 0,.slice none 0 0,.slice none 0 0],.int .i64 ((i:Int)+1)])) w':=by
   intro w' hb
   rw [HX.out]
   exact uJ.yes (s:=[l[i]]) HM.out (by simp;omega) hb (cP _ _ _)
  have FIN:=ed fin;clear fin
  have key:((((⟨l.toArray⟩:ByteArray)[i]'(kO fG)).toNat:Int) == 116)=true\/((((((⟨l.toArray⟩:ByteArray)[i]'(kO fG)).toNat:Int) == 116)=false/\((((⟨l.toArray⟩:ByteArray)[i]'(kO fG)).toNat:Int) == 102)=true))\/((((((⟨l.toArray⟩:ByteArray)[i]'(kO fG)).toNat:Int) == 116)=false/\((((⟨l.toArray⟩:ByteArray)[i]'(kO fG)).toNat:Int) == 102)=false/\((((⟨l.toArray⟩:ByteArray)[i]'(kO fG)).toNat:Int) == 117)=true)):=by
   rcases Dk with h | h | h
   ·exact .inl (xV fG (n:=116) (by decide) h)
   ·exact .inr (.inl ⟨vh fG (c:=116) (n:=116) (by decide) (by rw [h];decide),xV fG (n:=102) (by decide) h⟩)
   ·exact .inr (.inr ⟨vh fG (c:=116) (n:=116) (by decide) (by rw [h];decide),vh fG (c:=102) (n:=102) (by decide) (by rw [h];decide),xV fG (n:=117) (by decide) h⟩)
  clear Dk n8 HM HX
  rcases key with f1 | ⟨f1,f2⟩ | ⟨f1,f2,f3⟩
  all_goals
   go_enter Tryz.func69,Tryz.ntmps69
   go_wp2_with fail
   refine bodyPost_ret (v:=.tuple #[.agg #[.string ((⟨l.toArray⟩:ByteArray).extract i (i+1)),.int .i64 0,.slice none 0 0,.slice none 0 0],.int .i64 ((i:Int)+1)]) (by simp [results,Tryz.results69,go_sem]) rfl ?_
   exact FIN.out _ (by repeat (first | exact e_ _ _ | refine Below.alloc ?_ (ei _) _ | refine Below.setCell ?_ (by simp) _))
 have HM:=ed (rdN_other e hand fG Dk n8)
 have f1:=vh fG (n:=116) (by decide) (fun h=>Dk (.inl h))
 have f2:=vh fG (n:=102) (by decide) (fun h=>Dk (.inr (.inl h)))
 have f3:=vh fG (n:=117) (by decide) (fun h=>Dk (.inr (.inr h)))
 have f4:=js fG (n:=40) (by decide) n8
 clear Dk n8
 go_enter Tryz.func69,Tryz.ntmps69
 go_wp2_with fail
 refine bodyPost_ret (v:=.tuple #[.agg #[str [],.int .i64 0,.slice none 0 0,.slice none 0 0],.int .i64 (-1)]) (by simp [results,Tryz.results69,go_sem]) rfl ?_
 exact uJ.no HM.out (by repeat (first | exact e_ _ _ | refine Below.alloc ?_ (ei _) _ | refine Below.setCell ?_ (by simp) _))
def z9 (ob:Nat) (v:Int) (kslv yslv:Value) (w:World):Prop:=w.heap[ob]? = some (.cells #[str [],.int .i64 v,kslv,yslv] 48 (0,0))
theorem z9.cells {ob:Nat} {v:Int} {ks ys:Value} {w:World} (h:z9 ob v ks ys w):w.cell? ⟨ob,0,none⟩=some (str [])/\w.cell? ⟨ob,1,none⟩=some (.int .i64 v)/\w.cell? ⟨ob,2,none⟩=some ks/\w.cell? ⟨ob,3,none⟩=some ys/\ob<w.heap.size/\(∀ o,w.frozen? ⟨ob,o,none⟩=false):=by
 have hl:=zZ h
 unfold z9 at h
 exact ⟨by simp [World.cell?,h],by simp [World.cell?,h],by simp [World.cell?,h],by simp [World.cell?,h],hl,fun o=>by simp [World.frozen?,h]⟩
theorem z9.put2 {ob:Nat} {v:Int} {ks ys u:Value} {w:World} (h:z9 ob v ks ys w):z9 ob v u ys (w.setCell ⟨ob,2,none⟩ u):=by
 unfold z9;rw [zy h];rfl
theorem z9.put3 {ob:Nat} {v:Int} {ks ys u:Value} {w:World} (h:z9 ob v ks ys w):z9 ob v ks u (w.setCell ⟨ob,3,none⟩ u):=by
 unfold z9;rw [zy h];rfl
theorem z9.but {ob:Nat} {v:Int} {ks ys:Value} {m:Nat->Prop} {w w':World} (h:z9 ob v ks ys w) (hb:But m w w') (hm:¬ m ob):z9 ob v ks ys w':=by
 unfold z9;rw [hb.block ob (zZ h) hm];exact h
theorem z9.below {ob:Nat} {v:Int} {ks ys:Value} {w w':World} {B:Nat} (h:z9 ob v ks ys w) (hb:Below B w w') (hm:ob<B):z9 ob v ks ys w':=by
 unfold z9;rw [hb.block ob hm];exact h
theorem z9.store {ob:Nat} {v:Int} {ks ys:Value} {w:World} (h:z9 ob v ks ys w) (u0 u1 u2 u3:Value) :
 ∃ W,W=((((w.setCell ⟨ob,0,none⟩ u0).setCell ⟨ob,1,none⟩ u1).setCell ⟨ob,2,none⟩ u2).setCell ⟨ob,3,none⟩ u3) /\
   W.cell? ⟨ob,0,none⟩=some u0/\W.cell? ⟨ob,1,none⟩=some u1/\W.cell? ⟨ob,2,none⟩=some u2/\W.cell? ⟨ob,3,none⟩=some u3 /\
   (∀ B w0,Below B w0 w->B<=ob->Below B w0 W)/\(∀ i x,i≠ob->w.heap[i]? = some x->W.heap[i]? = some x):=by
 have hc:((((w.setCell ⟨ob,0,none⟩ u0).setCell ⟨ob,1,none⟩ u1).setCell ⟨ob,2,none⟩ u2).setCell ⟨ob,3,none⟩ u3).heap[ob]? = some (.cells #[u0,u1,u2,u3] 48 (0,0)):=by
  unfold z9 at h
  rw [zy (zy (zy (zy h)))];rfl
 refine ⟨_,rfl,by simp only [World.cell?,hc];rfl,by simp only [World.cell?,hc];rfl,by simp only [World.cell?,hc];rfl,by simp only [World.cell?,hc];rfl,fun B w0 hb hB=>?_,fun i x hi hx=>?_⟩
 ·exact ((((hb.setCell (p:=⟨ob,0,none⟩) hB _).setCell (p:=⟨ob,1,none⟩) hB _).setCell (p:=⟨ob,2,none⟩) hB _).setCell (p:=⟨ob,3,none⟩) hB _)
 ·rw [fZ _ _ _ _ (by simpa using hi),fZ _ _ _ _ (by simpa using hi),fZ _ _ _ _ (by simpa using hi),fZ _ _ _ _ (by simpa using hi)];exact hx
structure gI (l:Bs) (w:World) (rd:RdS) (hs:List (List Ty)) (n i0 ob Z v:Nat) (k en:Nat) (wr:World) (ps:List Bd) (kv yv:List Value) (ks:Value) (nk:Nat) (ys:Value) (ny:Nat):Prop where
 hnk:nk=min k n
 hny:ny=k-n
 ksl:∃ a c,ks=.slice a nk c
 ysl:∃ a c,ys=.slice a ny c
 spec:zx rd (hs.take k) (l.drop i0)=some (ps,l.drop en)
 len:ps.length=k
 en:en<=l.length
 below:Below w.heap.size w wr
 res:z9 w.heap.size 0 (.slice none 0 0) (.slice none 0 0) wr
 out:z9 ob v ks ys wr
 ownK:Own wr 48 4 ks nk kv
 ownY:Own wr 48 4 ys ny yv
 blkK:∀ g,ks.ownBlock=some g->Z<=g/\ys.ownBlock≠some g
 blkY:∀ g,ys.ownBlock=some g->Z<=g
 repK:zX (fun b=>Z<=b/\ks.ownBlock≠some b/\ys.ownBlock≠some b) wr (zg (ps.take n)) kv
 repY:zX (fun b=>Z<=b/\ks.ownBlock≠some b/\ys.ownBlock≠some b) wr (zg (ps.drop n)) yv
 z:Z<=wr.heap.size
theorem gI.kid {l:Bs} {w:World} {rd:RdS} {hs:List (List Ty)} {n i0 ob Z v k en:Nat} {wr:World} {ps:List Bd} {kv yv:List Value} {ks ys:Value} {nk ny:Nat}
 (h:gI l w rd hs n i0 ob Z v k en wr ps kv yv ks nk ys ny) (hk:k<n) (Dh:ob<Z) (hwo:w.heap.size<ob) {W w7:World} {b:Bd} {cs:List Value} {a':Option Addr} {c' nf:Nat}
 (fC:Below wr.heap.size wr W) (hcs:zX (wr.heap.size<=·) W (kE b) cs) (fp:Own w7 48 4 (.slice a' (nk+1) c') (nk+1) (kv++cs)) (fW:But (fun i=>ks.ownBlock=some i) W w7)
 (fR:∀ g,(Value.slice a' (nk+1) c').ownBlock=some g->ks.ownBlock=some g\/g=W.heap.size)
 (Bz:zx rd (hs.take (k+1)) (l.drop i0)=some (ps++[b],l.drop nf)) (DQ:nf<=l.length) :
 gI l w rd hs n i0 ob Z v (k+1) nf (w7.setCell ⟨ob,2,none⟩ (.slice a' (nk+1) c')) (ps++[b]) (kv++cs) yv (.slice a' (nk+1) c') (nk+1) ys ny:=by
 have z6:=fC.size
 have z7:=fW.size
 have zr:=h.z
 have hlen:=h.len
 have keep:∀ i x,wr.heap[i]? = some x->ks.ownBlock≠some i->i≠ob->(w7.setCell ⟨ob,2,none⟩ (.slice a' (nk+1) c')).heap[i]? = some x:=by
  intro i x hx h1 h2
  have:=zZ hx
  rw [fZ _ _ _ _ (by simpa using h2),fW.block i (by omega) h1,fC.block i this];exact hx
 have mh:∀ i x,W.heap[i]? = some x->ks.ownBlock≠some i->i≠ob->(w7.setCell ⟨ob,2,none⟩ (.slice a' (nk+1) c')).heap[i]? = some x:=by
  intro i x hx h1 h2
  have:=zZ hx
  rw [fZ _ _ _ _ (by simpa using h2),fW.block i (by omega) h1];exact hx
 have ltK:∀ g,ks.ownBlock=some g->g<wr.heap.size:=fun g hg=>h.ownK.lt hg
 have ltY:∀ g,ys.ownBlock=some g->g<wr.heap.size:=fun g hg=>h.ownY.lt hg
 have nK:∀ i,i<Z->ks.ownBlock≠some i:=fun i hi e=>by have:=(h.blkK i e).1;omega
 have newg:∀ g,(Value.slice a' (nk+1) c').ownBlock=some g->Z<=g:=fun g hg=>by
  rcases fR g hg with e | e
  ·exact (h.blkK g e).1
  ·omega
 refine ⟨by rw [h.hnk];omega,by rw [h.hny];omega,⟨_,_,rfl⟩,h.ysl,Bz,by simp [hlen],DQ,?_,?_,?_,?_,?_,?_,h.blkY,?_,?_,by simp [World.setCell];omega⟩
 ·refine Below.setCell ?_ (show w.heap.size<=ob by omega) _
  exact (zzT h.below fC).trans (fW.toBelow (by have:=h.below.size;omega) fun i hi e=>nK i (by omega) e)
 ·exact keep _ _ h.res (nK _ (by omega)) (by omega)
 ·have h1:z9 ob v ks ys w7:=by
   unfold z9;rw [fW.block ob (by omega) (nK _ Dh),fC.block ob (by omega)];exact h.out
  exact h1.put2
 ·exact fp.keep fun g o hg ho=>by rw [fZ _ _ _ _ (by have:=newg g hg;simp;omega)];exact ho
 ·exact h.ownY.keep fun g o hg ho=>keep g o ho (fun e=>(h.blkK g e).2 hg) (by have:=h.blkY g hg;omega)
 ·intro g hg
  refine ⟨newg g hg,fun e=>?_⟩
  rcases fR g hg with e' | e'
  ·exact (h.blkK g e').2 e
  ·have:=ltY g e;omega
 ·rw [List.take_of_length_le (by simp;omega),qU]
  have h1:=h.repK
  rw [List.take_of_length_le (by omega)] at h1
  refine zX.append ((Rep.keep fun i x hi hx=>⟨⟨hi.1,fun e=>(fR i e).elim (fun e'=>hi.2.1 e') (fun e'=>by have:=zZ hx;omega),hi.2.2⟩,keep i x hx hi.2.1 (by have:=hi.1;omega)⟩).2 _ _ h1) ?_
  ·have e1:zg [b]=kE b:=by simp [zg]
   rw [e1]
   refine (Rep.keep fun i x hi hx=>?_).2 _ _ hcs
   have h2:=zZ hx
   have h3:wr.heap.size<=i:=hi
   refine ⟨⟨by omega,fun e=>?_,fun e=>by have:=ltY i e;omega⟩,mh i x hx (fun e=>by have:=ltK i e;omega) (by omega)⟩
   rcases fR i e with e' | e'
   ·have:=ltK i e';omega
   ·omega
 ·have h1:=h.repY
  rw [List.drop_eq_nil_of_le (by omega)] at h1
  rw [List.drop_eq_nil_of_le (by simp;omega)]
  have:yv=[]:=by simpa [zg,zC] using h1
  subst this;exact zC.2 rfl
theorem gI.yes {l:Bs} {w:World} {rd:RdS} {hs:List (List Ty)} {n i0 ob Z v k en:Nat} {wr:World} {ps:List Bd} {kv yv:List Value} {ks ys:Value} {nk ny:Nat}
 (h:gI l w rd hs n i0 ob Z v k en wr ps kv yv ks nk ys ny) (hk:n<=k) (Dh:ob<Z) (hwo:w.heap.size<ob) {W w7:World} {b:Bd} {cs:List Value} {a':Option Addr} {c' nf:Nat}
 (fC:Below wr.heap.size wr W) (hcs:zX (wr.heap.size<=·) W (kE b) cs) (fp:Own w7 48 4 (.slice a' (ny+1) c') (ny+1) (yv++cs)) (fW:But (fun i=>ys.ownBlock=some i) W w7)
 (fR:∀ g,(Value.slice a' (ny+1) c').ownBlock=some g->ys.ownBlock=some g\/g=W.heap.size)
 (Bz:zx rd (hs.take (k+1)) (l.drop i0)=some (ps++[b],l.drop nf)) (DQ:nf<=l.length) :
 gI l w rd hs n i0 ob Z v (k+1) nf (w7.setCell ⟨ob,3,none⟩ (.slice a' (ny+1) c')) (ps++[b]) kv (yv++cs) ks nk (.slice a' (ny+1) c') (ny+1):=by
 have z6:=fC.size
 have z7:=fW.size
 have zr:=h.z
 have hlen:=h.len
 have keep:∀ i x,wr.heap[i]? = some x->ys.ownBlock≠some i->i≠ob->(w7.setCell ⟨ob,3,none⟩ (.slice a' (ny+1) c')).heap[i]? = some x:=by
  intro i x hx h1 h2
  have:=zZ hx
  rw [fZ _ _ _ _ (by simpa using h2),fW.block i (by omega) h1,fC.block i this];exact hx
 have mh:∀ i x,W.heap[i]? = some x->ys.ownBlock≠some i->i≠ob->(w7.setCell ⟨ob,3,none⟩ (.slice a' (ny+1) c')).heap[i]? = some x:=by
  intro i x hx h1 h2
  have:=zZ hx
  rw [fZ _ _ _ _ (by simpa using h2),fW.block i (by omega) h1];exact hx
 have ltK:∀ g,ks.ownBlock=some g->g<wr.heap.size:=fun g hg=>h.ownK.lt hg
 have ltY:∀ g,ys.ownBlock=some g->g<wr.heap.size:=fun g hg=>h.ownY.lt hg
 have nY:∀ i,i<Z->ys.ownBlock≠some i:=fun i hi e=>by have:=h.blkY i e;omega
 have newg:∀ g,(Value.slice a' (ny+1) c').ownBlock=some g->Z<=g:=fun g hg=>by
  rcases fR g hg with e | e
  ·exact h.blkY g e
  ·omega
 refine ⟨by rw [h.hnk];omega,by rw [h.hny];omega,h.ksl,⟨_,_,rfl⟩,Bz,by simp [hlen],DQ,?_,?_,?_,?_,?_,?_,newg,?_,?_,by simp [World.setCell];omega⟩
 ·refine Below.setCell ?_ (show w.heap.size<=ob by omega) _
  exact (zzT h.below fC).trans (fW.toBelow (by have:=h.below.size;omega) fun i hi e=>nY i (by omega) e)
 ·exact keep _ _ h.res (nY _ (by omega)) (by omega)
 ·have h1:z9 ob v ks ys w7:=by
   unfold z9;rw [fW.block ob (by omega) (nY _ Dh),fC.block ob (by omega)];exact h.out
  exact h1.put3
 ·exact h.ownK.keep fun g o hg ho=>keep g o ho (h.blkK g hg).2 (by have:=(h.blkK g hg).1;omega)
 ·exact fp.keep fun g o hg ho=>by rw [fZ _ _ _ _ (by have:=newg g hg;simp;omega)];exact ho
 ·intro g hg
  refine ⟨(h.blkK g hg).1,fun e=>?_⟩
  rcases fR g e with e' | e'
  ·exact (h.blkK g hg).2 e'
  ·have:=ltK g hg;omega
 ·rw [List.take_append_of_le_length (by omega)]
  refine (Rep.keep fun i x hi hx=>⟨⟨hi.1,hi.2.1,fun e=>?_⟩,keep i x hx hi.2.2 (by have:=hi.1;omega)⟩).2 _ _ h.repK
  rcases fR i e with e' | e'
  ·exact hi.2.2 e'
  ·have:=zZ hx;omega
 ·rw [List.drop_append_of_le_length (by omega),qU]
  refine zX.append ((Rep.keep fun i x hi hx=>⟨⟨hi.1,hi.2.1,fun e=>(fR i e).elim (fun e'=>hi.2.2 e') (fun e'=>by have:=zZ hx;omega)⟩,keep i x hx hi.2.2 (by have:=hi.1;omega)⟩).2 _ _ h.repY) ?_
  ·have e1:zg [b]=kE b:=by simp [zg]
   rw [e1]
   refine (Rep.keep fun i x hi hx=>?_).2 _ _ hcs
   have h2:=zZ hx
   have h3:wr.heap.size<=i:=hi
   refine ⟨⟨by omega,fun e=>by have:=ltK i e;omega,fun e=>?_⟩,mh i x hx (fun e=>by have:=ltY i e;omega) (by omega)⟩
   rcases fR i e with e' | e'
   ·have:=ltY i e';omega
   ·omega
theorem zO.lit4 {w:World} {e:TypeId} (cs:Array Value) (hn:cs.size=4) (hc:∀ u∈cs.toList,u.oneCell'=true) (g:Nat) (hg:g=w.heap.size):zO 4 (.slice (some ⟨g,0,none⟩) 1 1) 1 cs.toList (w.alloc (.cells cs e)):=by
 subst hg
 refine ⟨by simp [hn],hc,.inl ⟨_,_,rfl,fun j u hu=>?_⟩⟩
 unfold Addr.add
 split
 ·subst j;simp;simpa using hu
 ·simp;simpa using hu
def NodeRel (l:Bs) (w:World) (rd:RdS) (hs:List (List Ty)) (n i0 ob Z v:Nat) (k en:Nat) (wr:World):Prop :=
 ∃ ps kv yv ks nk ys ny,gI l w rd hs n i0 ob Z v k en wr ps kv yv ks nk ys ny
set_option maxRecDepth 100000 in
theorem l3Read_ask (l:Bs) (hl:Lim l.length) (e d:Nat) (AG:e+1+d=101) (ih:NodeSaid l e (d+1)) (F:Nat->Prop) (hand:List Ty) (hv:Value) (i:Nat) (w:World) (hi:i<l.length) (hh:vV (e+1) hand)
 (hr:Rep F w (.sl 43 1 hand.length (qH hand)) hv) (n8:l[i]=40) :
 Calls Tryz.prog 69 #[str l,.int .i64 i,hv,.int .i64 d] w (uJ l.length w (rdN (e+1) hand (l.drop i))):=by
 have tH:=hl.le
 have IH:=ed ih;clear ih
 have hlen:hand.length<=10000:=by have:=hh.2;omega
 have lX:¬ (100:Int)<(d:Int):=by omega
 have HM:=ed (rdN_40 e hand hi n8)
 have f1:=vh hi (c:=116) (n:=116) (by decide) (by rw [n8];decide)
 have f2:=vh hi (c:=102) (n:=102) (by decide) (by rw [n8];decide)
 have f3:=vh hi (c:=117) (n:=117) (by decide) (by rw [n8];decide)
 have f4:=vE hi (n:=40) (by decide) n8
 clear n8
 obtain ⟨a0,k0,ehv,_,_,fU⟩:=zP hr
 subst ehv
 have mS:=ed fU;clear fU
 go_enter Tryz.func69,Tryz.ntmps69
 go_wp2_with fail
 rw [show (i:Int)+1=((i+1:Nat):Int) from by omega]
 refine (l3Number_any l hl (i+1) hi _).mono ?_
 rintro en w1 ⟨v,k1,rfl,ew,mZ,fo⟩
 obtain rfl:=ew
 cases hq:j9 (l.drop (i+1)) with
 | none =>
   obtain rfl:=mZ hq
   have hm:rdN (e+1) hand (l.drop i)=none:=by rw [HM.out,hq]
   have HM:=ed hm;clear hm hq mZ fo
   go_wp2_with fail
   refine bodyPost_ret (v:=.tuple #[.agg #[str [],.int .i64 0,.slice none 0 0,.slice none 0 0],.int .i64 (-1)]) (by simp [results,Tryz.results69,go_sem]) rfl ?_
   exact uJ.no HM.out (by repeat (first | exact e_ _ _ | refine Below.alloc ?_ (ei _) _ | refine Below.setCell ?_ (by simp) _))
 | some x =>
 obtain ⟨v',c⟩:=x
 obtain ⟨rfl,rfl⟩:=fo _ _ hq
 have DT:i+1+c<=l.length/\v<=9999:=by
  unfold j9 at hq
  split at hq
  ·simp at hq
  ·simp at hq
   obtain ⟨e1,e2⟩:=hq
   have h1:=cE (l.drop (i+1))
   have h2:=valOf_lt (jH (l.drop (i+1))) (gS _)
   have h3:10 ^ (jH (l.drop (i+1))).length<=10 ^ 4:=Nat.pow_le_pow_right (by omega) h1.1
   simp at h1;omega
 obtain ⟨DT,hv9⟩:=DT
 have HQ:=ed hq;clear hq mZ fo
 by_cases Eq:v<hand.length
 rotate_left
 ·have hm:rdN (e+1) hand (l.drop i)=none:=by
   rw [HM.out,HQ.out];simp only
   rw [List.getElem?_eq_none (by omega)]
  have HM:=ed hm;clear hm
  go_wp2_with fail
  refine bodyPost_ret (v:=.tuple #[.agg #[str [],.int .i64 0,.slice none 0 0,.slice none 0 0],.int .i64 (-1)]) (by simp [results,Tryz.results69,go_sem]) rfl ?_
  exact uJ.no HM.out (by repeat (first | exact e_ _ _ | refine Below.alloc ?_ (ei _) _ | refine Below.setCell ?_ (by simp) _))
 obtain ⟨bl,ol,u,dv,ea,hFl,hbl,hdv,hcl2,nI⟩:=mS.out v Eq
 rw [vj,Option.map_eq_some_iff] at hdv
 obtain ⟨t,ht,rfl⟩:=hdv
 obtain ⟨sa,ks,rfl⟩:=kK nI
 have FG:=nI
 rw [qv] at FG
 obtain ⟨_,_,est,_,_,JY⟩:=zP FG
 simp only [Value.slice.injEq] at est
 obtain ⟨rfl,_,rfl⟩:=est
 subst ea
 have HT:=ed ht;have HATS:=ed JY
 have hm : rdN (e+1) hand (l.drop i)=(do
         let (ps,l1)<-zx (rdN e) (jK hand t) ((l.drop (i+1)).drop c)
         let l2<-cut [41] l1
         let b<-pW v t.args.length ps
         some (b,l2)):=by rw [HM.out,HQ.out];simp only [ht]
 rw [List.drop_drop] at hm
 have HM:=ed hm
 have r_:t.args.length<=15:=by
  have h1:=hh.1 t (List.mem_of_getElem? ht)
  have h2:=qw t
  have:=qV t.args;omega
 clear hm ht JY FG
 have gv:decide (hand.length<=v)=false:=by rw [decide_eq_false_iff_not];omega
 have gi:decide ((i:Int)+1+(c:Int)<0)=false:=by rw [decide_eq_false_iff_not];omega
 go_wp2_with fail
 have s_:NodeRel l w (rdN e) (jK hand t) t.args.length (i+1+c) (w.heap.size+1) (w.heap.size+2) v 0 (i+1+c)
  ((w.alloc (.cells #[str [],.int .i64 0,.slice none 0 0,.slice none 0 0] 48)).alloc (.cells #[str [],.int .i64 v,.slice none 0 0,.slice none 0 0] 48)):=by
  refine ⟨[],[],[],.slice none 0 0,0,.slice none 0 0,0,by simp,by simp,⟨_,_,rfl⟩,⟨_,_,rfl⟩,by simp [zx],rfl,DT,((e_ _ _).alloc (ei _) _).alloc (by simp) _,?_,?_,World.ownsRow_nil _ _ _ _,World.ownsRow_nil _ _ _ _,fun g h=>by simp [Value.ownBlock] at h,fun g h=>by simp [Value.ownBlock] at h,by rw [List.take_nil];exact zC.2 rfl,by rw [List.drop_nil];exact zC.2 rfl,by simp⟩
  ·exact zY (zG _ _)
  ·have:=zG (w.alloc (.cells #[str [],.int .i64 0,.slice none 0 0,.slice none 0 0] 48)) (.cells #[str [],.int .i64 v,.slice none 0 0,.slice none 0 0] 48)
   rw [zK] at this;exact this
 generalize Hh:i+1+c=i0 at *
 rw [show (i:Int)+1+(c:Int)=(i0:Int) from by omega]
 have HI0:=ed Hh;clear Hh
 go_loopw [11,14] (fun a b wr=>∃ k en:Nat,k<=t.args.length+2/\a=.int .i64 en/\b=.int .i64 k/\NodeRel l w (rdN e) (jK hand t) t.args.length i0 (w.heap.size+1) (w.heap.size+2) v k en wr)
  (fun _ b _=>t.args.length+2-(intOf b).toNat)
 case atStart=>exact ⟨0,i0,Nat.zero_le _,rfl,rfl,s_⟩
 case round =>
  clear s_
  rename_i wr
  obtain ⟨k,en,hk,rfl,rfl,hrel⟩:=hrel
  obtain ⟨ps,kv,yv,ks,nk,ys,ny,hrel⟩:=hrel
  have tA:=hrel.res;have sL:=hrel.out;have hb:=hrel.below;have hen:=hrel.en;have zr:=hrel.z
  have HP:=ed hrel.spec
  have nkl:nk<=17:=by have:=hrel.hnk;omega
  have nyl:ny<=2:=by have:=hrel.hny;omega
  obtain ⟨ka,kc,eks⟩:=hrel.ksl
  obtain ⟨ya,yc,eys⟩:=hrel.ysl
  subst eks;subst eys
  have HR:=ed hrel;clear hrel
  obtain ⟨r0,r1,r2,r3,rl,rf⟩:=tA.cells
  obtain ⟨q0,q1,q2,q3,ql,qf⟩:=sL.cells
  have mg:=rf 0;have nD:=rf 1;have rG:=rf 2;have sh:=rf 3;clear rf
  have C8:=qf 2;have GJ:=qf 3;clear qf
  by_cases fG:k<t.args.length+2
  ·have mX:(k:Int)<(t.args.length:Int)+2:=by omega
   by_cases ly:∃ h:en<l.length,l[en]=32
   rotate_left
   ·have hm:rdN (e+1) hand (l.drop i)=none:=by
     have hs:=y7 (rd:=rdN e) (show (jK hand t)[k]? = some _ from List.getElem?_eq_getElem (by rw [yI];exact fG)) HP.out
     have hc:cut [32] (l.drop en)=none:=by
      by_cases h:en<l.length
      ·rw [yK h,if_neg (fun h'=>ly ⟨h,h'⟩)]
      ·exact pw (by omega)
     rw [HM.out,ve (k+1) (by rw [hs];simp [qu,hc])];rfl
    have HM:=ed hm;clear hm
    have mi:(l.length<=en)\/∃ h:en<l.length,((((⟨l.toArray⟩:ByteArray)[en]'(kO h)).toNat:Int) != 32)=true:=by
     by_cases h:en<l.length
     ·exact .inr ⟨h,js h (n:=32) (by decide) (fun h'=>ly ⟨h,h'⟩)⟩
     ·exact .inl (by omega)
    clear ly
    rcases mi with h | ⟨h,f5⟩
    ·have g1:(l.length:Int)<=(en:Int):=by omega
     go_wp2_with fail
     obtain ⟨W,hW,s0,s1,s2,s3,fD,_⟩:=tA.store (.string ⟨#[]⟩) (.int .i64 0) (.slice none 0 0) (.slice none 0 0)
     rw [<- hW]
     refine bodyPost_ret (v:=.tuple #[.agg #[str [],.int .i64 0,.slice none 0 0,.slice none 0 0],.int .i64 (-1)]) (by simp [results,Tryz.results69,go_sem,s0,s1,s2,s3]) rfl ?_
     exact uJ.no HM.out (fD _ _ hb (ei _))
    ·go_wp2_with fail
     obtain ⟨W,hW,s0,s1,s2,s3,fD,_⟩:=tA.store (.string ⟨#[]⟩) (.int .i64 0) (.slice none 0 0) (.slice none 0 0)
     rw [<- hW]
     refine bodyPost_ret (v:=.tuple #[.agg #[str [],.int .i64 0,.slice none 0 0,.slice none 0 0],.int .i64 (-1)]) (by simp [results,Tryz.results69,go_sem,s0,s1,s2,s3]) rfl ?_
     exact uJ.no HM.out (fD _ _ hb (ei _))
   obtain ⟨al,ly⟩:=ly
   have f5:=vE al (n:=32) (by decide) ly
   have g1:decide ((en:Int)<0)=false:=by rw [decide_eq_false_iff_not];omega
   have g2:decide (l.length<=en)=false:=by rw [decide_eq_false_iff_not];omega
   have HC:Hid (cut [32] (l.drop en)=some (l.drop (en+1))):=by show cut [32] (l.drop en)=_;rw [yK al,if_pos ly]
   clear ly
   by_cases ah:k<t.args.length
   ·have FZ:(k:Int)<(t.args.length:Int):=by omega
    obtain ⟨ba,oa,uk,dk,esa,hFa,Gd,hdk,hck,mD⟩:=HATS.out k ah
    subst esa
    rw [vj,Option.map_eq_some_iff] at hdk
    obtain ⟨tk,iw,rfl⟩:=hdk
    obtain ⟨ua,uc,rfl⟩:=kK mD
    have e1:wr.cell? ⟨ba,oa+k,none⟩=some (.slice ua tk.args.length uc):=by rw [hb.cell Gd];exact hck
    have IP:=Rep.below (F':=F) hb (fun _ h=>h) mD
    have rA:=Rep.below (F':=F) hb (fun _ h=>h) hr
    have hhk:vV e (hand++tk.args):=hh.next HT.out (List.mem_of_getElem? iw)
    have DL:Lim (hand.length+tk.args.length):=by have:=hhk.2;simp at this;show _<=_;omega
    have HS:=ed (y7 (rd:=rdN e) (be (hand:=hand) iw) HP.out)
    clear iw hck mD
    go_wp2_with fail
    refine (l3Hand_any F hand tk _ _ wr rA IP DL).mono ?_
    rintro en5 w5 ⟨a5,c5,rfl,fv,oK⟩
    have z5:=fv.size
    have HR5:=ed oK;clear oK rA IP DL
    have Q:=ed (ef tA (ef sL (ef hb fv)))
    have rl5:w.heap.size<w5.heap.size:=by omega
    have ql5:w.heap.size+1<w5.heap.size:=by omega
    go_wp2_with fail
    rw [show (en:Int)+1=((en+1:Nat):Int) from by omega,show (d:Int)+1=((d+1:Nat):Int) from by omega,<- List.length_append]
    refine (IH.out (fun k=>F k\/wr.heap.size<=k) (hand++tk.args) _ (en+1) w5 al hhk (by rw [List.length_append] at HR5 ⊢;exact HR5.out)).mono ?_
    rintro Ao w6 ⟨s6,v6,a2,n2,k2,a3,n3,k3,k6,rfl,fC,aS,aF⟩
    rw [List.length_append]
    obtain ⟨tA,sL,hb,fv⟩:=Q.out
    have z6:=fC.size
    have aG:=fv.trans (fC.mono z5)
    have oU:=tA.below aG rl
    have oY:=sL.below aG ql
    have lW:=zzT hb aG
    obtain ⟨r0,r1,r2,r3,rl6,rf⟩:=oU.cells
    obtain ⟨q0,q1,q2,q3,Fm,qf⟩:=oY.cells
    have mg:=rf 0;have nD:=rf 1;have rG:=rf 2;have sh:=rf 3;clear rf
    have C8:=qf 2;have GJ:=qf 3;clear qf
    have Q2:=ed (ef aG (ef oU oY));clear fv hb tA sL aG oU oY fC Q
    cases hq:rdN e (hand++tk.args) (l.drop (en+1)) with
    | none =>
      obtain rfl:=aS hq
      have hm:rdN (e+1) hand (l.drop i)=none:=by
       rw [HM.out,ve (k+1) (by rw [HS.out];simp [qu,HC.out,hq])];rfl
      have HM:=ed hm;clear hm hq aS aF
      go_wp2_with fail
      obtain ⟨W,hW,s0,s1,s2,s3,fD,_⟩:=Q2.out.2.1.store (.string ⟨#[]⟩) (.int .i64 0) (.slice none 0 0) (.slice none 0 0)
      rw [<- hW]
      refine bodyPost_ret (v:=.tuple #[.agg #[str [],.int .i64 0,.slice none 0 0,.slice none 0 0],.int .i64 (-1)]) (by simp [results,Tryz.results69,go_sem,zJ s0,zJ s1,zJ s2,zJ s3]) rfl ?_
      exact uJ.no HM.out ((fD _ _ lW (ei _)).alloc (fD _ _ lW (ei _)).size _)
    | some x =>
      obtain ⟨b,rest⟩:=x
      obtain ⟨rfl,Ai⟩:=aF _ _ hq
      have ic:=yX (x6 e hq)
      have EC:rest.length<=l.length:=by have:=(x6 e hq).length_le;simp at this;omega
      obtain ⟨nf,Dp⟩:=zzM (l.length-rest.length)
      rw [<- Dp] at ic
      have AE:(l.length:Int)-(rest.length:Int)=(nf:Int):=by omega
      rw [AE]
      have AW:=ed Dp;clear Dp AE
      have hs:zx (rdN e) ((jK hand t).take (k+1)) (l.drop i0)=some (ps++[b],l.drop nf):=by
       rw [HS.out];simp [qu,HC.out,hq,ic]
      have KI:=ed hs;have KU:=ed Ai;clear hs Ai hq aS aF ic
      go_wp2_with (at_builtin;refine zD rfl _ _ 46 rfl 48 (.agg #[str [],.int .i64 0,.slice none 0 0,.slice none 0 0]) 4 72 Tryz.underlying46 Tryz.infoN rfl (by decide) (.slice ka nk kc) nk kv rfl ?c1 _ 1 [str s6,.int .i64 v6,.slice a2 n2 k2,.slice a3 n3 k3] rfl ?c2 ?c3 ?c4 ?_)
      case c1 =>
       refine (HR.out.ownK.keep fun g o hg ho=>?_).alloc _ |>.alloc _
       rw [Q2.out.1.block g (zZ ho)];exact ho
      case c2=>exact zO.lit4 #[str s6,.int .i64 v6,.slice a2 n2 k2,.slice a3 n3 k3] rfl (by simp [str,Value.oneCell']) _ (by simp)
      case c3=>unfold maxLen;omega
      case c4=>omega
      intro a' c' w7 fu fW fR
      have hW:Below wr.heap.size wr ((w6.alloc (.cells #[str s6,.int .i64 v6,.slice a2 n2 k2,.slice a3 n3 k3] 48)).alloc (.cells #[str s6,.int .i64 v6,.slice a2 n2 k2,.slice a3 n3 k3] 48)):=(Q2.out.1.alloc Q2.out.1.size _).alloc (by have:=Q2.out.1.size;simp;omega) _
      have hC:zX (wr.heap.size<=·) ((w6.alloc (.cells #[str s6,.int .i64 v6,.slice a2 n2 k2,.slice a3 n3 k3] 48)).alloc (.cells #[str s6,.int .i64 v6,.slice a2 n2 k2,.slice a3 n3 k3] 48)) (kE b) [str s6,.int .i64 v6,.slice a2 n2 k2,.slice a3 n3 k3] :=
       (Rep.keep fun i o hi ho=>⟨fQ z5 hi,zY (zY ho)⟩).2 _ _ KU.out
      have hA:=HR.out.kid ah (by omega) (show w.heap.size<w.heap.size+1 by omega) hW hC fu fW (fun g hg=>by simpa only [zK] using fR g hg) KI.out (by have:=AW.out;omega)
      have z7:=fW.size
      rw [zK,zK] at z7
      have oC:w7.cell? ⟨w.heap.size+1,2,none⟩=some (.slice ka nk kc):=by
       rw [fW.cell (by simp only [zK];omega) (fun e=>by have h:w.heap.size+2<=w.heap.size+1:=(HR.out.blkK _ e).1;omega)]
       exact zJ (zJ q2)
      have F4:w7.frozen? ⟨w.heap.size+1,2,none⟩=false:=by
       rw [World.frozen?_of_block (w:=w6) (by rw [fW.block _ (by simp only [zK];omega) (fun e=>by have h:w.heap.size+2<=w.heap.size+1:=(HR.out.blkK _ e).1;omega)];rw [Below.heap_alloc _ _ _ (by simp only [zK];omega),Below.heap_alloc _ _ _ (by omega)])]
       exact C8
      have HA:=ed hA;clear hA hW hC fu fW fR
      go_wp2_with fail
      go_roundw
      case rel=>exact ⟨k+1,nf,by omega,rfl,by go_num,_,_,_,_,_,_,_,HA.out⟩
      case measure=>simp [intOf];omega
   ·have FZ:t.args.length<=k:=by omega
    have hkn2:¬ (k:Int)<(t.args.length:Int):=by omega
    have rA:=Rep.below (F':=F) hb (fun _ h=>h) hr
    have HS:=ed (y7 (rd:=rdN e) (bf (hand:=hand) (t:=t) FZ fG) HP.out)
    go_wp2_with fail
    refine (IH.out F hand _ (en+1) wr al (by have:=hh.same;rwa [List.append_nil] at this) rA).mono ?_
    rintro Ao w6 ⟨s6,v6,a2,n2,k2,a3,n3,k3,k6,rfl,fC,aS,aF⟩
    have z6:=fC.size
    have aG:=fC
    have oU:=tA.below aG rl
    have oY:=sL.below aG ql
    have lW:=zzT hb aG
    obtain ⟨r0,r1,r2,r3,rl6,rf⟩:=oU.cells
    obtain ⟨q0,q1,q2,q3,Fm,qf⟩:=oY.cells
    have mg:=rf 0;have nD:=rf 1;have rG:=rf 2;have sh:=rf 3;clear rf
    have C8:=qf 2;have GJ:=qf 3;clear qf
    have Q2:=ed (ef aG (ef oU oY));clear hb tA sL aG oU oY fC
    cases hq:rdN e hand (l.drop (en+1)) with
    | none =>
      obtain rfl:=aS hq
      have hm:rdN (e+1) hand (l.drop i)=none:=by
       rw [HM.out,ve (k+1) (by rw [HS.out];simp [qu,HC.out,hq])];rfl
      have HM:=ed hm;clear hm hq aS aF
      go_wp2_with fail
      obtain ⟨W,hW,s0,s1,s2,s3,fD,_⟩:=Q2.out.2.1.store (.string ⟨#[]⟩) (.int .i64 0) (.slice none 0 0) (.slice none 0 0)
      rw [<- hW]
      refine bodyPost_ret (v:=.tuple #[.agg #[str [],.int .i64 0,.slice none 0 0,.slice none 0 0],.int .i64 (-1)]) (by simp [results,Tryz.results69,go_sem,zJ s0,zJ s1,zJ s2,zJ s3]) rfl ?_
      exact uJ.no HM.out ((fD _ _ lW (ei _)).alloc (fD _ _ lW (ei _)).size _)
    | some x =>
      obtain ⟨b,rest⟩:=x
      obtain ⟨rfl,Ai⟩:=aF _ _ hq
      have ic:=yX (x6 e hq)
      have EC:rest.length<=l.length:=by have:=(x6 e hq).length_le;simp at this;omega
      obtain ⟨nf,Dp⟩:=zzM (l.length-rest.length)
      rw [<- Dp] at ic
      have AE:(l.length:Int)-(rest.length:Int)=(nf:Int):=by omega
      rw [AE]
      have AW:=ed Dp;clear Dp AE
      have hs:zx (rdN e) ((jK hand t).take (k+1)) (l.drop i0)=some (ps++[b],l.drop nf):=by
       rw [HS.out];simp [qu,HC.out,hq,ic]
      have KI:=ed hs;have KU:=ed Ai;clear hs Ai hq aS aF ic
      go_wp2_with (at_builtin;refine zD rfl _ _ 46 rfl 48 (.agg #[str [],.int .i64 0,.slice none 0 0,.slice none 0 0]) 4 72 Tryz.underlying46 Tryz.infoN rfl (by decide) (.slice ya ny yc) ny yv rfl ?c1 _ 1 [str s6,.int .i64 v6,.slice a2 n2 k2,.slice a3 n3 k3] rfl ?c2 ?c3 ?c4 ?_)
      case c1 =>
       refine (HR.out.ownY.keep fun g o hg ho=>?_).alloc _ |>.alloc _
       rw [Q2.out.1.block g (zZ ho)];exact ho
      case c2=>exact zO.lit4 #[str s6,.int .i64 v6,.slice a2 n2 k2,.slice a3 n3 k3] rfl (by simp [str,Value.oneCell']) _ (by simp)
      case c3=>unfold maxLen;omega
      case c4=>omega
      intro a' c' w7 fu fW fR
      have hW:Below wr.heap.size wr ((w6.alloc (.cells #[str s6,.int .i64 v6,.slice a2 n2 k2,.slice a3 n3 k3] 48)).alloc (.cells #[str s6,.int .i64 v6,.slice a2 n2 k2,.slice a3 n3 k3] 48)):=(Q2.out.1.alloc Q2.out.1.size _).alloc (by have:=Q2.out.1.size;simp;omega) _
      have hC:zX (wr.heap.size<=·) ((w6.alloc (.cells #[str s6,.int .i64 v6,.slice a2 n2 k2,.slice a3 n3 k3] 48)).alloc (.cells #[str s6,.int .i64 v6,.slice a2 n2 k2,.slice a3 n3 k3] 48)) (kE b) [str s6,.int .i64 v6,.slice a2 n2 k2,.slice a3 n3 k3] :=
       (Rep.keep fun i o hi ho=>⟨hi,zY (zY ho)⟩).2 _ _ KU.out
      have hA:=HR.out.yes FZ (by omega) (show w.heap.size<w.heap.size+1 by omega) hW hC fu fW (fun g hg=>by simpa only [zK] using fR g hg) KI.out (by have:=AW.out;omega)
      have z7:=fW.size
      rw [zK,zK] at z7
      have oC:w7.cell? ⟨w.heap.size+1,3,none⟩=some (.slice ya ny yc):=by
       rw [fW.cell (by simp only [zK];omega) (fun e=>by have h:w.heap.size+2<=w.heap.size+1:=HR.out.blkY _ e;omega)]
       exact zJ (zJ q3)
      have F4:w7.frozen? ⟨w.heap.size+1,3,none⟩=false:=by
       rw [World.frozen?_of_block (w:=w6) (by rw [fW.block _ (by simp only [zK];omega) (fun e=>by have h:w.heap.size+2<=w.heap.size+1:=HR.out.blkY _ e;omega)];rw [Below.heap_alloc _ _ _ (by simp only [zK];omega),Below.heap_alloc _ _ _ (by omega)])]
       exact GJ
      have HA:=ed hA;clear hA hW hC fu fW fR
      go_wp2_with fail
      go_roundw
      case rel=>exact ⟨k+1,nf,by omega,rfl,by go_num,_,_,_,_,_,_,_,HA.out⟩
      case measure=>simp [intOf];omega
  ·have ah:k=t.args.length+2:=by omega
   have mX:¬ (k:Int)<(t.args.length:Int)+2:=by omega
   have hp:zx (rdN e) (jK hand t) (l.drop i0)=some (ps,l.drop en):=by
    have:=HP.out;rwa [ah,List.take_of_length_le (by rw [yI];exact ei _)] at this
   have hm:rdN (e+1) hand (l.drop i)=(do
    let l2<-cut [41] (l.drop en)
    let b<-pW v t.args.length ps
    some (b,l2)):=by rw [HM.out,hp];rfl
   have HM:=ed hm
   have HKN:=ed ah
   clear hm hp ah
   by_cases ie:∃ h:en<l.length,l[en]=41
   rotate_left
   ·have hm:rdN (e+1) hand (l.drop i)=none:=by
     have hc:cut [41] (l.drop en)=none:=by
      by_cases h:en<l.length
      ·rw [yK h,if_neg (fun h'=>ie ⟨h,h'⟩)]
      ·exact pw (by omega)
     rw [HM.out,hc];rfl
    have HM:=ed hm;clear hm
    have mi:(l.length<=en)\/∃ h:en<l.length,((((⟨l.toArray⟩:ByteArray)[en]'(kO h)).toNat:Int) != 41)=true:=by
     by_cases h:en<l.length
     ·exact .inr ⟨h,js h (n:=41) (by decide) (fun h'=>ie ⟨h,h'⟩)⟩
     ·exact .inl (by omega)
    clear ie
    rcases mi with h | ⟨h,f5⟩
    ·have g1:(l.length:Int)<=(en:Int):=by omega
     go_wp2_with fail
     obtain ⟨W,hW,s0,s1,s2,s3,fD,_⟩:=tA.store (.string ⟨#[]⟩) (.int .i64 0) (.slice none 0 0) (.slice none 0 0)
     rw [<- hW]
     refine bodyPost_ret (v:=.tuple #[.agg #[str [],.int .i64 0,.slice none 0 0,.slice none 0 0],.int .i64 (-1)]) (by simp [results,Tryz.results69,go_sem,s0,s1,s2,s3]) rfl ?_
     exact uJ.no HM.out (fD _ _ hb (ei _))
    ·go_wp2_with fail
     obtain ⟨W,hW,s0,s1,s2,s3,fD,_⟩:=tA.store (.string ⟨#[]⟩) (.int .i64 0) (.slice none 0 0) (.slice none 0 0)
     rw [<- hW]
     refine bodyPost_ret (v:=.tuple #[.agg #[str [],.int .i64 0,.slice none 0 0,.slice none 0 0],.int .i64 (-1)]) (by simp [results,Tryz.results69,go_sem,s0,s1,s2,s3]) rfl ?_
     exact uJ.no HM.out (fD _ _ hb (ei _))
   obtain ⟨al,ie⟩:=ie
   have f5:=vE al (n:=41) (by decide) ie
   have g1:decide ((en:Int)<0)=false:=by rw [decide_eq_false_iff_not];omega
   have g2:decide (l.length<=en)=false:=by rw [decide_eq_false_iff_not];omega
   have HC:Hid (cut [41] (l.drop en)=some (l.drop (en+1))):=by show cut [41] (l.drop en)=_;rw [yK al,if_pos ie]
   clear ie
   go_wp2_with fail
   obtain ⟨W,hW,s0,s1,s2,s3,fD,fO⟩:=tA.store (str []) (.int .i64 v) (.slice ka nk kc) (.slice ya ny yc)
   have Cq:=HR.out
   have tS:=Cq.len
   have hnk:=Cq.hnk
   have hny:=Cq.hny
   have ah:=HKN.out
   obtain ⟨y1,y2,Dy⟩:∃ y1 y2,ps.drop t.args.length=[y1,y2]:=by
    match hd:ps.drop t.args.length with
    | [a,b]=>exact ⟨a,b,rfl⟩
    | []=>have:=congrArg List.length hd;simp at this;omega
    | [a]=>have:=congrArg List.length hd;simp at this;omega
    | a::b::c::d=>have:=congrArg List.length hd;simp at this;omega
   have hm:rdN (e+1) hand (l.drop i)=some (.ask v (ps.take t.args.length) y1 y2,l.drop (en+1)):=by
    rw [HM.out,HC.out];simp [pW,Dy]
   have hnk':nk=(ps.take t.args.length).length:=by simp;omega
   have hny':ny=2:=by omega
   rw [<- hW]
   refine bodyPost_ret (v:=.tuple #[.agg #[str [],.int .i64 v,.slice ka nk kc,.slice ya ny yc],.int .i64 ((en:Int)+1)]) (by simp [results,Tryz.results69,go_sem,s0,s1,s2,s3]) rfl ?_
   refine uJ.yes (s:=[]) hm (by simp;omega) (fD _ _ hb (ei _)) ?_
   rw [yN]
   refine zQ.2 ⟨_,_,rfl,zH.2 rfl,zQ.2 ⟨_,_,rfl,zH.2 rfl,zQ.2 ⟨_,_,rfl,?_,zQ.2 ⟨_,_,rfl,?_,zC.2 rfl⟩⟩⟩⟩
   ·rw [<- hnk']
    refine (Cq.ownK.keep fun g o hg ho=>fO g o (by have:=(Cq.blkK g hg).1;omega) ho).rep (fun g hg=>by have:=(Cq.blkK g hg).1;omega) ?_
    exact (Rep.keep fun x o hx ho=>⟨by have:=hx.1;omega,fO x o (by have:=hx.1;omega) ho⟩).2 _ _ Cq.repK
   ·have mt:=Cq.repY
    rw [Dy] at mt
    rw [<- hny']
    refine (Cq.ownY.keep fun g o hg ho=>fO g o (by have:=Cq.blkY g hg;omega) ho).rep (fun g hg=>by have:=Cq.blkY g hg;omega) ?_
    exact (Rep.keep fun x o hx ho=>⟨by have:=hx.1;omega,fO x o (by have:=hx.1;omega) ho⟩).2 _ _ mt
theorem l3Read_any (l:Bs) (hl:Lim l.length) (e:Nat):∀ d,e+d=101->NodeSaid l e d:=by
 induction e with
 | zero=>exact fun d AG F hand hv i w hi _ hr=>bQ l hl 0 d AG F hand hv i w hi hr (fun _=>.inl rfl)
 | succ e ih =>
   intro d AG F hand hv i w hi hh hr
   by_cases h:∃ h:i<l.length,l[i]=40
   ·obtain ⟨h,n8⟩:=h
    exact l3Read_ask l hl e d AG (ih (d+1) (by omega)) F hand hv i w h hh hr n8
   ·exact bQ l hl (e+1) d AG F hand hv i w hi hr (fun h'=>.inr fun n8=>h ⟨h',n8⟩)
def qA:Bd->List Bd
 | .leaf _=>[]
 | .ask _ ss _ _=>ss
def jX:Bd->List Bd
 | .leaf _=>[]
 | .ask _ _ y n=>[y,n]
def jb:Bd->Bs
 | .leaf c=>[c]
 | .ask _ _ _ _=>[]
def AtN (F:Nat->Prop) (w:World) (bs:List Bd) (a:Option Addr) (k:Nat):Prop :=
 ∃ b o s v a2 n2 c2 a3 n3 c3 d,a=some ⟨b,o,none⟩/\b<w.heap.size/\bs[k]? = some d/\w.cell? ⟨b,o+k*4,none⟩=some (str s)/\w.cell? ⟨b,o+k*4+1,none⟩=some (.int .i64 v) /\
   w.cell? ⟨b,o+k*4+2,none⟩=some (.slice a2 n2 c2)/\w.cell? ⟨b,o+k*4+3,none⟩=some (.slice a3 n3 c3)/\zX F w (kE d) [str s,.int .i64 v,.slice a2 n2 c2,.slice a3 n3 c3]
def pm (F:Nat->Prop) (w:World) (bs:List Bd) (a:Option Addr):Prop:=∀ k,k<bs.length->AtN F w bs a k
theorem vB {F:Nat->Prop} {w:World} {b:Bd} {vs:List Value} (h:zX F w (kE b) vs) :
 ∃ v a2 c2 a3 c3,vs=[str (jb b),.int .i64 v,.slice a2 (qA b).length c2,.slice a3 (jX b).length c3] /\
   Rep F w (.sl 48 4 (qA b).length (zg (qA b))) (.slice a2 (qA b).length c2)/\Rep F w (.sl 48 4 (jX b).length (zg (jX b))) (.slice a3 (jX b).length c3):=by
 have key:∀ (s:Bs) (v:Int) (d2 d3:DV) (n2 n3:Nat) (k2 k3:List DV),d2=.sl 48 4 n2 k2->d3=.sl 48 4 n3 k3->zX F w [.val (str s),.val (.int .i64 v),d2,d3] vs ->
  ∃ a2 c2 a3 c3,vs=[str s,.int .i64 v,.slice a2 n2 c2,.slice a3 n3 c3]/\Rep F w d2 (.slice a2 n2 c2)/\Rep F w d3 (.slice a3 n3 c3):=by
  intro s v d2 d3 n2 n3 k2 k3 e2 e3 h
  obtain ⟨_,_,rfl,h0,h⟩:=zQ.1 h
  obtain ⟨_,_,rfl,h1,h⟩:=zQ.1 h
  obtain ⟨_,_,rfl,h2,h⟩:=zQ.1 h
  obtain ⟨_,_,rfl,h3,h⟩:=zQ.1 h
  rw [zC] at h;subst h
  rw [zH] at h0 h1
  subst h0;subst h1
  have h2':=h2;have h3':=h3
  rw [e2] at h2';rw [e3] at h3'
  obtain ⟨_,a2,c2,e2',_⟩:=zp.1 h2'
  obtain ⟨_,a3,c3,e3',_⟩:=zp.1 h3'
  subst e2';subst e3'
  exact ⟨a2,c2,a3,c3,rfl,h2,h3⟩
 cases b with
 | leaf c =>
   rw [kE] at h
   obtain ⟨a2,c2,a3,c3,e,h2,h3⟩:=key _ _ _ _ 0 0 [] [] rfl rfl h
   exact ⟨_,a2,c2,a3,c3,e,h2,h3⟩
 | ask v ss y n =>
   rw [yN] at h
   obtain ⟨a2,c2,a3,c3,e,h2,h3⟩:=key _ _ _ _ _ _ _ _ rfl rfl h
   exact ⟨_,a2,c2,a3,c3,e,h2,h3⟩
theorem pm.of {F:Nat->Prop} {w:World} {bs:List Bd} {v:Value} (h:Rep F w (.sl 48 4 bs.length (zg bs)) v):∃ a c,v=.slice a bs.length c/\pm F w bs a:=by
 obtain ⟨hl,a,c,rfl,hn,hz,h⟩:=zp.1 h
 refine ⟨a,c,rfl,fun k hk=>?_⟩
 rcases h with h | ⟨b,o,cs,fr,rfl,hb,hc,hr⟩
 ·omega
 ·have hs:zg bs=zg (bs.take k)++(kE bs[k]++zg (bs.drop (k+1))):=by
   have e1:kE bs[k]=zg [bs[k]]:=by simp [zg]
   rw [e1,<- qU,<- qU]
   congr 1
   simp
  rw [hs] at hr
  obtain ⟨h1,h2⟩:=hr.split
  obtain ⟨h3,h4⟩:=h2.split
  have aJ:(zg (bs.take k)).length=k*4:=by rw [encNs_length];simp;omega
  rw [aJ,ji] at h3
  obtain ⟨v,a2,c2,a3,c3,e,_⟩:=vB h3
  have fU:∀ j u,([str (jb bs[k]),.int .i64 v,.slice a2 (qA bs[k]).length c2,.slice a3 (jX bs[k]).length c3]:List Value)[j]? = some u->w.cell? ⟨b,o+k*4+j,none⟩=some u:=by
   intro j u hu
   rw [<- e] at hu
   have hj:j<4:=by
    have:=(List.getElem?_eq_some_iff.1 hu).1
    simp at this;omega
   rw [List.getElem?_take,if_pos hj,List.getElem?_drop,List.getElem?_take] at hu
   split at hu
   ·rw [List.getElem?_drop] at hu
    simp only [World.cell?,hc]
    rw [Nat.add_assoc]
    simpa using hu
   ·simp at hu
  refine ⟨b,o,_,v,a2,_,c2,a3,_,c3,bs[k],rfl,zZ hc,by simp [hk],fU 0 _ rfl,fU 1 _ rfl,fU 2 _ rfl,fU 3 _ rfl,?_⟩
  rw [<- e];exact h3
theorem di (b:Bd):kI b=qA b++jX b:=by cases b <;> rfl
def BoxN (g:Nat) (s:Bs) (k y:Value) (w:World):Prop :=
 w.cell? ⟨g,0,none⟩=some (str s)/\w.cell? ⟨g,2,none⟩=some k/\w.cell? ⟨g,3,none⟩=some y
theorem BoxN.below {g:Nat} {s:Bs} {k y:Value} {w w':World} (h:BoxN g s k y w) (hb:Below w.heap.size w w'):BoxN g s k y w':=by
 obtain ⟨h1,h2,h3⟩:=h
 have:=e9 w _ h1
 exact ⟨by rw [hb.cell (by exact this)];exact h1,by rw [hb.cell (by exact this)];exact h2,by rw [hb.cell (by exact this)];exact h3⟩
def cu (b:Bd):Prop:=∀ (F:Nat->Prop) (w:World) (s:Bs) (v:Int) (a2:Option Addr) (n2 c2:Nat) (a3:Option Addr) (n3 c3:Nat),zX F w (kE b) [str s,.int .i64 v,.slice a2 n2 c2,.slice a3 n3 c3] ->
 Calls Tryz.prog 36 #[.agg #[str s,.int .i64 v,.slice a2 n2 c2,.slice a3 n3 c3]] w fun en w'=>en=.returned (.int .i64 (zW b))/\Below w.heap.size w w'
set_option maxRecDepth 100000 in
theorem l3Size_step (b:Bd) (hl:Lim (zW b)) (ih:∀ b',zW b'<zW b->cu b'):cu b:=by
 intro F w s v a2 n2 c2 a3 n3 c3 hv
 have lI:=vB hv
 obtain ⟨v',lN,lM,AS,AP,e,hk,hy⟩:=lI
 simp only [List.cons.injEq,Value.slice.injEq,and_true] at e
 obtain ⟨e0,e1,⟨rfl,e2,rfl⟩,⟨rfl,e3,rfl⟩⟩:=e
 clear e0 e1
 subst e2;subst e3
 obtain ⟨_,_,ek,rh⟩:=pm.of hk
 obtain ⟨_,_,ey,JX⟩:=pm.of hy
 simp only [Value.slice.injEq,true_and] at ek ey
 obtain ⟨rfl,rfl⟩:=ek
 obtain ⟨rfl,rfl⟩:=ey
 have IH:=ed ih;clear ih
 have tH:=hl.le
 have hsz:=uC b
 rw [di,jy] at hsz
 have aJ:=qB (qA b)
 have GR:=qB (jX b)
 have E1:=ed hsz
 have kl:(qA b).length<=16777216:=by omega
 have yl:(jX b).length<=16777216:=by omega
 have ATK:=ed rh;have ATY:=ed JX
 clear rh JX hk hy hv hsz aJ GR
 generalize hK:qA b=kids at *
 generalize hY:jX b=yess at *
 clear hK hY
 go_enter Tryz.func36,Tryz.ntmps36
 go_wp2_with fail
 go_loopw [3,4] (fun n i wr=>∃ k:Nat,k<=kids.length/\i=.int .i64 k/\n=.int .i64 ((1+zR (kids.take k):Nat):Int)/\Below w.heap.size w wr/\BoxN w.heap.size s (.slice a2 kids.length c2) (.slice a3 yess.length c3) wr) (fun _ i _=>kids.length-(intOf i).toNat)
 case atStart=>exact ⟨0,Nat.zero_le _,rfl,by simp [zR],(e_ _ _).alloc (ei _) _,by simp,by simp,by simp⟩
 case round =>
  rename_i wr
  obtain ⟨k,hk,rfl,rfl,hb,hc⟩:=hrel
  obtain ⟨rZ,rD,DW⟩:=id hc
  by_cases fG:k<kids.length
  ·obtain ⟨bb,o,s',v',b2,m2,d2,b3,m3,d3,t,rfl,hbb,ht,u0,u1,u2,u3,hr⟩:=ATK.out k fG
   have q0:=(hb.cell hbb).trans u0
   have q1:=(hb.cell hbb).trans u1
   have q2:=(hb.cell hbb).trans u2
   have q3:=(hb.cell hbb).trans u3
   have rA:=(zX.below (F':=F) hb (fun _ h=>h) hr)
   have hs:=yP ht
   have mH:=jd kids (k+1)
   have ri:=E1.out
   have hp:=kW t
   have IH':=ed (IH.out t (by omega))
   have HS:=ed hs
   have b1:1+zR (kids.take k)+zW t<=16777216:=by omega
   have hz:=e9 wr _ rZ
   clear hs ht ri u0 u1 u2 u3 hr
   go_wp2_with fail
   refine (IH'.out _ _ _ _ _ _ _ _ _ _ rA).mono ?_
   rintro en w2 ⟨rfl,fY⟩
   have fE:=zzT hb fY
   obtain ⟨rZ,rD,DW⟩:=id (hc.below fY)
   have Cc:=ed (hc.below fY)
   go_wp2_with fail
   go_roundw
   case rel=>exact ⟨k+1,by omega,by go_num,by rw [HS.out] <;> go_num,fE,Cc.out⟩
   case measure=>simp [intOf];omega
  ·obtain rfl:k=kids.length:=by omega
   rw [List.take_length]
   have bK:1+zR kids<=16777216:=by have:=E1.out;omega
   clear hk fG
   go_wp2_with fail
   have fq:=hb;have rq:=hc
   clear hb hc rZ rD DW
   go_loopw [3,5] (fun n i wr=>∃ k:Nat,k<=yess.length/\i=.int .i64 k/\n=.int .i64 ((1+zR kids+zR (yess.take k):Nat):Int)/\Below w.heap.size w wr/\BoxN w.heap.size s (.slice a2 kids.length c2) (.slice a3 yess.length c3) wr) (fun _ i _=>yess.length-(intOf i).toNat)
   case atStart=>exact ⟨0,Nat.zero_le _,rfl,by simp [zR],fq,rq⟩
   case round =>
    clear fq rq
    obtain ⟨k,hk,rfl,rfl,hb,hc⟩:=hrel
    obtain ⟨rZ,rD,DW⟩:=id hc
    by_cases fG:k<yess.length
    ·obtain ⟨bb,o,s',v',b2,m2,d2,b3,m3,d3,t,rfl,hbb,ht,u0,u1,u2,u3,hr⟩:=ATY.out k fG
     have q0:=(hb.cell hbb).trans u0
     have q1:=(hb.cell hbb).trans u1
     have q2:=(hb.cell hbb).trans u2
     have q3:=(hb.cell hbb).trans u3
     have rA:=(zX.below (F':=F) hb (fun _ h=>h) hr)
     have hs:=yP ht
     have mH:=jd yess (k+1)
     have ri:=E1.out
     have hp:=kW t
     have IH':=ed (IH.out t (by omega))
     have HS:=ed hs
     have b1:1+zR kids+zR (yess.take k)+zW t<=16777216:=by omega
     have hz:=e9 _ _ rZ
     clear hs ht ri u0 u1 u2 u3 hr
     go_wp2_with fail
     refine (IH'.out _ _ _ _ _ _ _ _ _ _ rA).mono ?_
     rintro en w2 ⟨rfl,fY⟩
     have fE:=zzT hb fY
     obtain ⟨rZ,rD,DW⟩:=id (hc.below fY)
     have Cc:=ed (hc.below fY)
     go_wp2_with fail
     go_roundw
     case rel=>exact ⟨k+1,by omega,by go_num,by rw [HS.out] <;> go_num,fE,Cc.out⟩
     case measure=>simp [intOf];omega
    ·obtain rfl:k=yess.length:=by omega
     go_wp2_with fail
     go_ret
     exact ⟨yq (by rw [E1.out,List.take_length];omega),hb⟩
theorem gR (n:Nat):∀ b,zW b<=n->Lim n->cu b:=by
 induction n with
 | zero=>intro b h _;have:=kW b;omega
 | succ n ih=>exact fun b h hn=>l3Size_step b (hn.mono h) (fun b' h'=>ih b' (by omega) (hn.mono (by omega)))
end Go.Proofs.YtjggkhmojjaomaaGreatDoor

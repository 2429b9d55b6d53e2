/- Walks of functions that the statement reaches, and plain words. No conditions. -/
import Derived.Test.YtjggkhmojjaomaaGreatDoorQ3
import Derived.Test.YtjggkhmojjaomaaGreatDoorQ6
set_option linter.unusedVariables false
set_option linter.unusedSimpArgs false
set_option maxHeartbeats 4000000
namespace Go.Proofs.YtjggkhmojjaomaaGreatDoor
open Go.RowKit
theorem pX (n lo hi:Int) (w:World):Calls Tryz.prog 101 #[.int .i64 n,.int .i64 lo,.int .i64 hi] w fun en w'=>en=.returned (.bool (decide (lo<=n) && decide (n<=hi)))/\w'=w:=by
 by_cases h1:lo<=n
 ·by_cases h2:n<=hi
  ·go_enter Tryz.func101,Tryz.ntmps101
   go_wp2_with fail
   go_ret
   exact ⟨by simp [h1,h2],rfl⟩
  ·go_enter Tryz.func101,Tryz.ntmps101
   go_wp2_with fail
   go_ret
   exact ⟨by simp [h1,h2],rfl⟩
 ·go_enter Tryz.func101,Tryz.ntmps101
  go_wp2_with fail
  go_ret
  exact ⟨by simp [h1];omega,rfl⟩
set_option maxRecDepth 20000 in
theorem eH (s:Bs) (w:World) (hl:Lim s.length) :
 Calls Tryz.prog 85 #[str s] w fun en w'=>en=.returned (.bool (qG s))/\w'=w:=by
 have tR:=hl.le
 by_cases h0:s.length=0
 ·obtain rfl:s=[]:=List.eq_nil_of_length_eq_zero h0
  clear h0
  go_enter Tryz.func85,Tryz.ntmps85
  go_wp2_with fail
  (with_reducible refine (pX 0 1 3 w).mono ?_)
  rintro en w1 ⟨rfl,e⟩
  subst w1
  have q1:(decide ((1:Int)<=0) && decide ((0:Int)<=3))=false:=by decide
  rw [q1]
  clear q1
  go_wp2_with fail
  go_ret
  exact ⟨rfl,rfl⟩
 have hne:(s == [])=false:=by rw [beq_eq_false_iff_ne];rintro rfl;exact h0 rfl
 have iw:s.isEmpty=false:=by rw [List.isEmpty_eq_false_iff];rintro rfl;exact h0 rfl
 have mo:0<s.length:=by omega
 clear h0
 by_cases h3:3<s.length
 ·have HN:=fX (name_no1 h3)
  go_enter Tryz.func85,Tryz.ntmps85
  have q1:(decide ((1:Int)<=(s.length:Int)) && decide ((s.length:Int)<=3))=false:=by rw [decide_eq_false (show ¬ (s.length:Int)<=3 by omega),Bool.and_false]
  go_wp2_with fail
  (with_reducible refine (pX (s.length:Int) 1 3 w).mono ?_)
  rintro en w1 ⟨rfl,e⟩
  subst w1
  rw [q1]
  clear q1
  go_wp2_with fail
  go_ret
  exact ⟨by rw [HN.out];rfl,rfl⟩
 have q1:(decide ((1:Int)<=(s.length:Int)) && decide ((s.length:Int)<=3))=true:=by rw [decide_eq_true (show (1:Int)<=(s.length:Int) by omega),decide_eq_true (show (s.length:Int)<=3 by omega)];rfl
 have Q1:=fX q1;clear q1
 have B:=yN mo
 by_cases hA:s[0].toNat<120
 ·have HN:=fX (bG mo (.inl hA))
  have b1:((((⟨s.toArray⟩:ByteArray)[0]'(kx mo)).toNat:Int))<120:=by rw [B];omega
  clear B hA
  go_enter Tryz.func85,Tryz.ntmps85
  go_wp2_with fail
  (with_reducible refine (pX (s.length:Int) 1 3 w).mono ?_)
  rintro en w1 ⟨rfl,e⟩
  subst w1
  rw [Q1.out]
  go_wp2_with fail
  go_ret
  exact ⟨by rw [HN.out];rfl,rfl⟩
 by_cases hB:122<s[0].toNat
 ·have HN:=fX (bG mo (.inr hB))
  have b1:(122:Int)<((((⟨s.toArray⟩:ByteArray)[0]'(kx mo)).toNat:Int)):=by rw [B];omega
  have b2:¬ ((((⟨s.toArray⟩:ByteArray)[0]'(kx mo)).toNat:Int))<120:=by omega
  clear B hA hB
  go_enter Tryz.func85,Tryz.ntmps85
  go_wp2_with fail
  (with_reducible refine (pX (s.length:Int) 1 3 w).mono ?_)
  rintro en w1 ⟨rfl,e⟩
  subst w1
  rw [Q1.out]
  go_wp2_with fail
  go_ret
  exact ⟨by rw [HN.out];rfl,rfl⟩
 have b1:¬ (122:Int)<((((⟨s.toArray⟩:ByteArray)[0]'(kx mo)).toNat:Int)):=by rw [B];omega
 have b2:¬ ((((⟨s.toArray⟩:ByteArray)[0]'(kx mo)).toNat:Int))<120:=by rw [B];omega
 have HA:=fX (fW hA hB)
 clear B hA hB
 go_enter Tryz.func85,Tryz.ntmps85
 go_wp2_with fail
 (with_reducible refine (pX (s.length:Int) 1 3 w).mono ?_)
 rintro en w1 ⟨rfl,e⟩
 subst w1
 rw [Q1.out]
 go_wp2_with fail
 clear b1 b2
 go_loop [3] (fun i=>∃ k:Nat,1<=k/\k<=s.length/\i=.int .i64 k/\∀ j,1<=j->j<k->∀ (hj:j<s.length),48<=s[j].toNat/\s[j].toNat<=57) (fun i=>s.length-(intOf i).toNat)
 case atStart=>exact ⟨1,fP _,mo,rfl,fun j h1 h2=>by omega⟩
 case round =>
  obtain ⟨k,Dx,hk,rfl,n9⟩:=hrel
  have HR:=fX n9;clear n9
  by_cases fT:k<s.length
  ·have B:=yN fT
   by_cases hA:s[k].toNat<48
   ·have HN:=fX (bP Dx fT (.inl hA))
    have b1:((((⟨s.toArray⟩:ByteArray)[k]'(kx fT)).toNat:Int))<48:=by rw [B];omega
    clear B hA
    go_wp2_with fail
    go_ret
    exact ⟨by rw [HN.out];rfl,rfl⟩
   by_cases hB:57<s[k].toNat
   ·have HN:=fX (bP Dx fT (.inr hB))
    have b1:(57:Int)<((((⟨s.toArray⟩:ByteArray)[k]'(kx fT)).toNat:Int)):=by rw [B];omega
    have b2:¬ ((((⟨s.toArray⟩:ByteArray)[k]'(kx fT)).toNat:Int))<48:=by omega
    clear B hA hB
    go_wp2_with fail
    go_ret
    exact ⟨by rw [HN.out];rfl,rfl⟩
   have b1:¬ (57:Int)<((((⟨s.toArray⟩:ByteArray)[k]'(kx fT)).toNat:Int)):=by rw [B];omega
   have b2:¬ ((((⟨s.toArray⟩:ByteArray)[k]'(kx fT)).toNat:Int))<48:=by rw [B];omega
   have HB:=fX (fW hA hB)
   clear B hA hB
   go_wp2_with fail
   go_round
   case rel=>exact ⟨k+1,by omega,by omega,by go_num,fun j h1 h2 hj=>by
    by_cases e:j=k
    ·subst e;have:=HB.out;omega
    ·exact HR.out j h1 (by omega) hj⟩
   case measure=>simp [intOf];omega
  ·go_wp2_with fail
   go_ret
   have HA':=HA.out
   exact ⟨by rw [name_yes mo (by omega) (by omega) (fun j h1 hj=>HR.out j h1 (by omega) hj)];rfl,rfl⟩
mutual
def jg:Tr->List DV
 | .am a=>[.val (str a),.sl 40 2 0 []]
 | .ls ps=>[.val (str []),.sl 40 2 ps.length (js ps)]
def js:List Tr->List DV
 | []=>[]
 | p::ps=>jg p++js ps
end
theorem be (b:Tr):(jg b).length=2:=by cases b <;> simp [jg]
theorem encTrs_length (bs:List Tr):(js bs).length=bs.length*2:=by
 induction bs with
 | nil=>simp [js]
 | cons b bs ih=>simp [js,be,ih];omega
theorem xL (a b:List Tr):js (a++b)=js a++js b:=by
 induction a with
 | nil=>simp [js]
 | cons t ts ih=>simp [js,ih,List.append_assoc]
theorem Tryz.infoTr:(Tryz.prog.info? 40).map (fun i=>(i.zero,i.size,i.bytes))=some (some (.agg #[str [],.slice none 0 0]),2,40):=by kernel_rfl
def qr:Tr->List Tr
 | .am _=>[]
 | .ls ps=>ps
theorem qz {F:Nat->Prop} {w:World} {b:Tr} {vs:List Value} (h:zX F w (jg b) vs) :
 ∃ a c,vs=[str (qJ b),.slice a (qr b).length c]/\Rep F w (.sl 40 2 (qr b).length (js (qr b))) (.slice a (qr b).length c):=by
 have key:∀ (s:Bs) (n:Nat) (ds:List DV),zX F w [.val (str s),.sl 40 2 n ds] vs->∃ a c,vs=[str s,.slice a n c]/\Rep F w (.sl 40 2 n ds) (.slice a n c):=by
  intro s n ds h
  obtain ⟨_,_,rfl,h0,h⟩:=zQ.1 h
  obtain ⟨_,_,rfl,h1,h⟩:=zQ.1 h
  rw [zC] at h;subst h
  rw [zH] at h0
  subst h0
  have h1':=h1
  obtain ⟨_,a2,c2,e2',_⟩:=zp.1 h1'
  subst e2'
  exact ⟨a2,c2,rfl,h1⟩
 cases b with
 | am a=>rw [jg] at h;exact key _ _ _ h
 | ls ps=>rw [jg] at h;exact key _ _ _ h
def AtTr (F:Nat->Prop) (w:World) (bs:List Tr) (a:Option Addr) (k:Nat):Prop :=
 ∃ b o s a2 n2 c2 d,a=some ⟨b,o,none⟩/\b<w.heap.size/\bs[k]? = some d/\w.cell? ⟨b,o+k*2,none⟩=some (str s)/\w.cell? ⟨b,o+k*2+1,none⟩=some (.slice a2 n2 c2)/\zX F w (jg d) [str s,.slice a2 n2 c2]/\s=qJ d/\n2=(qr d).length
def uh (F:Nat->Prop) (w:World) (bs:List Tr) (a:Option Addr):Prop:=∀ k,k<bs.length->AtTr F w bs a k
theorem uh.of {F:Nat->Prop} {w:World} {bs:List Tr} {v:Value} (h:Rep F w (.sl 40 2 bs.length (js bs)) v):∃ a c,v=.slice a bs.length c/\uh F w bs a:=by
 obtain ⟨hl,a,c,rfl,hn,hz,h⟩:=zp.1 h
 refine ⟨a,c,rfl,fun k hk=>?_⟩
 rcases h with h | ⟨b,o,cs,fr,rfl,hb,hc,hr⟩
 ·omega
 ·have hs:js bs=js (bs.take k)++(jg bs[k]++js (bs.drop (k+1))):=by
   have e1:jg bs[k]=js [bs[k]]:=by simp [js]
   rw [e1,<- xL,<- xL]
   congr 1
   simp
  rw [hs] at hr
  obtain ⟨h1,h2⟩:=hr.split
  obtain ⟨h3,h4⟩:=h2.split
  have aB:(js (bs.take k)).length=k*2:=by rw [encTrs_length];simp;omega
  rw [aB,be] at h3
  obtain ⟨a2,c2,e,_⟩:=qz h3
  have fM:∀ j u,([str (qJ bs[k]),.slice a2 (qr bs[k]).length c2]:List Value)[j]? = some u->w.cell? ⟨b,o+k*2+j,none⟩=some u:=by
   intro j u hu
   rw [<- e] at hu
   have hj:j<2:=by
    have:=(List.getElem?_eq_some_iff.1 hu).1
    simp at this;omega
   rw [List.getElem?_take,if_pos hj,List.getElem?_drop,List.getElem?_take] at hu
   split at hu
   ·rw [List.getElem?_drop] at hu
    simp only [World.cell?,hc]
    rw [Nat.add_assoc]
    simpa using hu
   ·simp at hu
  refine ⟨b,o,_,a2,_,c2,bs[k],rfl,zZ hc,by simp [hk],fM 0 _ rfl,fM 1 _ rfl,?_,rfl,rfl⟩
  rw [<- e];exact h3
theorem bX:∀ (ps:List Tr),qF ps->∀ (k:Nat) (t:Tr),ps[k]? = some t->jZ t
 | [],_,k,t,h=>by simp at h
 | p::ps,ho,0,t,h=>by simp at h;subst h;exact (by rw [qF] at ho;exact ho.1)
 | p::ps,ho,k+1,t,h=>by rw [qF] at ho;exact bX ps ho.2 k t (by simpa using h)
def qX:List Tr->Bs
 | []=>[]
 | [p]=>zL p
 | p::q::ps=>zL p++32::qX (q::ps)
theorem tail_join:∀ ps:List Tr,ps≠[]->ki ps=32::(qX ps++[41])
 | [],h=>absurd rfl h
 | [p],_=>by rw [ki,ki,qX]
 | p::q::ps,_=>by rw [ki,tail_join (q::ps) (by simp),qX];simp
theorem text_join:∀ ps:List Tr,zL (.ls ps)=[40]++qX ps++[41]
 | []=>by rw [zL,jk,qX];rfl
 | [p]=>by rw [zL,jk,ki,qX];simp
 | p::q::ps=>by rw [zL,jk,tail_join (q::ps) (by simp),qX];simp
theorem join_snoc:∀ (ps:List Tr) (t:Tr),ps≠[]->qX (ps++[t])=qX ps++[32]++zL t
 | [],t,h=>absurd rfl h
 | [p],t,_=>by rw [List.singleton_append,qX,qX,qX];simp
 | p::q::ps,t,_=>by rw [List.cons_append,List.cons_append,qX,<- List.cons_append,join_snoc (q::ps) t (by simp),qX];simp
theorem join_one (t:Tr):qX [t]=zL t:=by rw [qX]
theorem join_take_len (ps:List Tr) (k:Nat):(qX (ps.take k)).length<=(qX ps).length:=by
 induction ps generalizing k with
 | nil=>simp
 | cons p ps ih =>
   cases k with
   | zero=>simp [qX]
   | succ k =>
     cases ps with
     | nil=>simp [qX]
     | cons q ps =>
       have:=ih k
       cases k with
       | zero=>simp [qX]
       | succ k=>simp only [List.take_succ_cons,qX,List.length_append,List.length_cons] at this ⊢;omega
theorem bU:∀ (ps:List Tr) (t:Tr),t∈ps->(zL t).length<=(qX ps).length
 | [],t,h=>by simp at h
 | [p],t,h=>by simp at h;subst h;rw [qX];exact fP _
 | p::q::ps,t,h=>by
   rw [qX]
   rcases List.mem_cons.1 h with rfl | h
   ·simp
   ·have:=bU (q::ps) t h
    simp only [List.length_append,List.length_cons] at this ⊢;omega
theorem uH (ps:List Tr):(zL (.ls ps)).length=(qX ps).length+2:=by rw [text_join];simp
theorem text_pos (t:Tr) (h:jZ t):1<=(zL t).length:=by
 cases t with
 | am a=>rw [jZ] at h;rw [zL];exact List.length_pos_iff.2 h.1
 | ls ps=>rw [uH];omega
mutual
theorem cD:∀ t:Tr,jZ t->qY t<=(zL t).length
 | .am a,h=>by
   rw [jZ] at h
   rw [qY,zL]
   exact List.length_pos_iff.2 h.1
 | .ls ps,h=>by
   rw [jZ] at h
   rw [qY,uH]
   have:=gR ps h.2
   omega
theorem gR:∀ ps:List Tr,qF ps->kC ps<=(qX ps).length
 | [],h=>by rw [kC];omega
 | [p],h=>by
   rw [qF] at h
   rw [kC,kC,qX]
   exact cD p h.1
 | p::q::ps,h=>by
   rw [qF] at h
   have h1:=cD p h.1
   have h2:=gR (q::ps) h.2
   rw [kC,qX,List.length_append,List.length_cons]
   omega
end
theorem bL:∀ ps:List Tr,qF ps->ps.length<=(qX ps).length
 | [],_=>by simp
 | [p],h=>by
   rw [qF] at h
   have hp:=text_pos p h.1
   rw [qX];simpa using hp
 | p::q::ps,h=>by
   rw [qF] at h
   have hp:=text_pos p h.1
   have:=bL (q::ps) h.2
   rw [qX];simp only [List.length_cons,List.length_append] at this ⊢;omega
theorem sizeTrs_take {ps:List Tr} {k:Nat} {t:Tr} (h:ps[k]? = some t):kC (ps.take (k+1))=kC (ps.take k)+qY t:=by
 induction ps generalizing k with
 | nil=>simp at h
 | cons p ps ih =>
   cases k with
   | zero=>simp at h;subst h;simp [kC]
   | succ k =>
     simp only [List.getElem?_cons_succ] at h
     have:=ih h
     simp only [List.take_succ_cons,kC] at this ⊢
     omega
theorem dT (ps:List Tr) (k:Nat):kC (ps.take k)<=kC ps:=by
 induction ps generalizing k with
 | nil=>simp
 | cons p ps ih =>
   cases k with
   | zero=>simp [kC]
   | succ k=>have:=ih k;simp only [List.take_succ_cons,kC];omega
theorem am_ne {a:Bs} (h:jZ (.am a)):(a == [])=false:=by
 rw [jZ] at h
 rw [beq_eq_false_iff_ne];exact h.1
def BoxT (g:Nat) (s:Bs) (k:Value) (w:World):Prop:=w.cell? ⟨g,0,none⟩=some (str s)/\w.cell? ⟨g,1,none⟩=some k
theorem BoxT.below {g:Nat} {s:Bs} {k:Value} {w w':World} (h:BoxT g s k w) (hb:Below w.heap.size w w'):BoxT g s k w':=by
 obtain ⟨h1,h2⟩:=h
 have:=fG w _ h1
 exact ⟨by rw [hb.cell (by exact this)];exact h1,by rw [hb.cell (by exact this)];exact h2⟩
def wM (b:Tr):Prop:=∀ (F:Nat->Prop) (w:World) (s v:Value),zX F w (jg b) [s,v] ->
 Calls Tryz.prog 63 #[.agg #[s,v]] w fun en w'=>en=.returned (.int .i64 (qY b))/\Below w.heap.size w w'
set_option maxRecDepth 100000 in
theorem dG (b:Tr) (ho:jZ b) (hl:Lim (zL b).length) (ih:∀ b',(zL b').length<(zL b).length->jZ b'->wM b'):wM b:=by
 intro F w s v hv
 obtain ⟨a2,c2,e,hk⟩:=qz hv
 simp only [List.cons.injEq,and_true] at e
 obtain ⟨rfl,rfl⟩:=e
 cases b with
 | am a =>
   have ha:=am_ne ho
   clear hv hk ih hl
   simp only [qJ,qr]
   go_enter Tryz.func63,Tryz.ntmps63
   go_wp2_with fail
   go_ret
   exact ⟨by rw [qY];rfl,(fH _ _).alloc (fP _) _⟩
 | ls kids =>
   simp only [qJ,qr] at hk ⊢
   obtain ⟨_,_,ek,sX⟩:=uh.of hk
   simp only [Value.slice.injEq,true_and] at ek
   obtain ⟨rfl,rfl⟩:=ek
   rw [jZ] at ho
   have IH:=fX ih;clear ih
   have f7:=gR kids ho.2
   have ED:=uH kids
   have hll:=hl.le
   have aB:kids.length<=kC kids+kids.length:=by omega
   have nk:kids.length<=16777216:=by have:=bL kids ho.2;omega
   have E1:=fX f7
   have HO:=fX ho
   have HT:=fX ED
   have ATK:=fX sX
   clear sX hk hv f7 ED aB ho
   go_enter Tryz.func63,Tryz.ntmps63
   go_wp2_with fail
   go_loopw [3,4] (fun n i wr=>∃ k:Nat,k<=kids.length/\i=.int .i64 k/\n=.int .i64 ((kC (kids.take k):Nat):Int)/\Below w.heap.size w wr/\BoxT w.heap.size [] (.slice a2 kids.length c2) wr) (fun _ i _=>kids.length-(intOf i).toNat)
   case atStart=>exact ⟨0,Nat.zero_le _,rfl,by simp [kC],(fH _ _).alloc (fP _) _,by simp,by simp⟩
   case round =>
    rename_i wr
    obtain ⟨k,hk,rfl,rfl,hb,hc⟩:=hrel
    obtain ⟨rD,rx⟩:=id hc
    by_cases fT:k<kids.length
    ·obtain ⟨bb,o,s',b2,m2,d2,t,rfl,hbb,ht,u0,u1,hr,es,en⟩:=ATK.out k fT
     clear es en
     have q0:=(hb.cell hbb).trans u0
     have q1:=(hb.cell hbb).trans u1
     have sZ:=(zX.below (F':=F) hb (fun _ h=>h) hr)
     have hs:=sizeTrs_take ht
     have mO:=dT kids (k+1)
     have sW:=E1.out
     have EO:=bU kids t (List.mem_of_getElem? ht)
     have rV:=HT.out
     have IH':=fX (IH.out t (by omega) (bX kids HO.out.2 k t ht))
     unfold wM at IH'
     have HS:=fX hs
     have b1:kC (kids.take k)+qY t<=16777216:=by omega
     have hz:=fG wr _ rD
     have mT:(k:Int)<(kids.length:Int):=by omega
     clear hs ht sW u0 u1 hr rV EO
     go_wp2_with fail
     (with_reducible refine (IH'.out _ _ _ _ sZ).mono ?_)
     rintro en w2 ⟨rfl,fN⟩
     have fv:=zzT hb fN
     obtain ⟨rD,rx⟩:=id (hc.below fN)
     have Cr:=fX (hc.below fN)
     go_wp2_with fail
     go_roundw
     case rel=>exact ⟨k+1,by omega,by go_num,by rw [HS.out] <;> go_num,fv,Cr.out⟩
     case measure=>simp [intOf];omega
    ·obtain rfl:k=kids.length:=by omega
     rw [List.take_length]
     go_wp2_with fail
     go_ret
     exact ⟨by rw [qY];rfl,hb⟩
theorem l5Size_any (n:Nat):∀ b,(zL b).length<=n->Lim n->jZ b->wM b:=by
 induction n with
 | zero=>intro b h hn ho;exact dG b ho (hn.mono h) (fun b' h' _=>by omega)
 | succ n ih=>exact fun b h hn ho=>dG b ho (hn.mono h) (fun b' h' ER=>ih b' (by omega) (hn.mono (by omega)) ER)
def yD:Tr->Bs
 | .am _=>[]
 | .ls ps=>qO ps
set_option maxRecDepth 100000 in
theorem uP (b:Tr) (ho:jZ b) (F:Nat->Prop) (w:World) (s v:Value) (hv:zX F w (jg b) [s,v]) :
 Calls Tryz.prog 37 #[.agg #[s,v]] w fun en w'=>en=.returned (str (yD b))/\Below w.heap.size w w':=by
 obtain ⟨a2,c2,e,hk⟩:=qz hv
 simp only [List.cons.injEq,and_true] at e
 obtain ⟨rfl,rfl⟩:=e
 cases b with
 | am a =>
   have ha:=am_ne ho
   clear hv hk
   simp only [qJ,qr]
   go_enter Tryz.func37,Tryz.ntmps37
   go_wp2_with fail
   go_ret
   exact ⟨by rw [yD];rfl,(fH _ _).alloc (fP _) _⟩
 | ls kids =>
   simp only [qJ,qr] at hk ⊢
   obtain ⟨_,_,ek,sX⟩:=uh.of hk
   simp only [Value.slice.injEq,true_and] at ek
   obtain ⟨rfl,rfl⟩:=ek
   rw [jZ] at ho
   cases kids with
   | nil=>exact absurd rfl ho.1
   | cons p ps =>
     obtain ⟨bb,o,s',b2,m2,d2,t,rfl,hbb,ht,u0,u1,hr,aK,_⟩:=sX 0 (by simp)
     simp only [List.getElem?_cons_zero,Option.some.injEq] at ht
     subst ht
     have HH:=fX (show yD (.ls (p::ps))=s' by rw [aK,yD];cases p <;> rfl)
     simp only [Nat.zero_mul,Nat.add_zero] at u0
     have hl0:0<(p::ps).length:=by simp
     have hl1:(((p::ps).length:Int) == 0)=false:=by rw [beq_eq_false_iff_ne];simp;omega
     generalize (p::ps).length=L at *
     have hl2:(0:Int)<(L:Int):=by omega
     clear sX hk hv ho u1 hr aK
     go_enter Tryz.func37,Tryz.ntmps37
     go_wp2_with fail
     go_ret
     exact ⟨by rw [HH.out];rfl,(fH _ _).alloc (fP _) _⟩
def xX (b:Tr):Prop:=∀ (F:Nat->Prop) (w:World) (s v:Value),zX F w (jg b) [s,v] ->
 Calls Tryz.prog 39 #[.agg #[s,v]] w fun en w'=>en=.returned (str (zL b))/\Below w.heap.size w w'
def uv (ps:List Tr) (k:Nat):Bs:=[40]++qX (ps.take k)
set_option maxRecDepth 100000 in
theorem dP (b:Tr) (ho:jZ b) (hl:Lim (zL b).length) (ih:∀ b',(zL b').length<(zL b).length->jZ b'->xX b'):xX b:=by
 intro F w s v hv
 obtain ⟨a2,c2,e,hk⟩:=qz hv
 simp only [List.cons.injEq,and_true] at e
 obtain ⟨rfl,rfl⟩:=e
 cases b with
 | am a =>
   have ha:=am_ne ho
   clear hv hk ih hl
   simp only [qJ,qr]
   go_enter Tryz.func39,Tryz.ntmps39
   go_wp2_with fail
   go_ret
   exact ⟨by rw [zL];rfl,(fH _ _).alloc (fP _) _⟩
 | ls kids =>
   simp only [qJ,qr] at hk ⊢
   obtain ⟨_,_,ek,sX⟩:=uh.of hk
   simp only [Value.slice.injEq,true_and] at ek
   obtain ⟨rfl,rfl⟩:=ek
   rw [jZ] at ho
   have IH:=fX ih;clear ih
   have ED:=uH kids
   have hll:=hl.le
   have nk:kids.length<=16777216:=by have:=bL kids ho.2;omega
   have HO:=fX ho
   have HT:=fX ED
   have ATK:=fX sX
   have HJ:=fX (text_join kids)
   clear sX hk hv ED ho hl
   go_enter Tryz.func39,Tryz.ntmps39
   go_wp2_with fail
   go_loopw [3,4] (fun n i wr=>∃ k:Nat,k<=kids.length/\i=.int .i64 k/\n=str (uv kids k)/\Below w.heap.size w wr/\BoxT w.heap.size [] (.slice a2 kids.length c2) wr) (fun _ i _=>kids.length-(intOf i).toNat)
   case atStart=>exact ⟨0,Nat.zero_le _,rfl,rfl,(fH _ _).alloc (fP _) _,by simp,by simp⟩
   case round =>
    rename_i wr
    obtain ⟨k,hk,rfl,rfl,hb,hc⟩:=hrel
    obtain ⟨rD,rx⟩:=id hc
    have Am:(uv kids k).length<=(qX kids).length+1:=by
     have:=join_take_len kids k
     unfold uv;simp;omega
    by_cases fT:k<kids.length
    ·obtain ⟨bb,o,s',b2,m2,d2,t,rfl,hbb,ht,u0,u1,hr,es,en⟩:=ATK.out k fT
     clear es en
     have q0:=(hb.cell hbb).trans u0
     have q1:=(hb.cell hbb).trans u1
     have sZ:=(zX.below (F':=F) hb (fun _ h=>h) hr)
     have EO:=bU kids t (List.mem_of_getElem? ht)
     have rV:=HT.out
     have IH':=fX (IH.out t (by omega) (bX kids HO.out.2 k t ht))
     have hz:=fG wr _ rD
     have mT:(k:Int)<(kids.length:Int):=by omega
     have e1:kids.take (k+1)=kids.take k++[t]:=by rw [List.take_add_one,ht];rfl
     by_cases Al:k=0
     ·have Dx:¬ (0:Int)<(k:Int):=by omega
      have ff:uv kids (k+1)=uv kids k++zL t:=by unfold uv;rw [e1,Al,List.take_zero,List.nil_append,join_one,qX];simp
      obtain ⟨A,hA⟩:=zzM (uv kids k)
      obtain ⟨T,hT⟩:=zzM (zL t)
      unfold xX at IH'
      rw [<- hA] at ff Am ⊢
      rw [<- hT] at ff EO IH'
      obtain ⟨O,hO⟩:=zzM (A++T)
      have a1:=fun w0=>qN (P:=Tryz.prog) A T (by omega) w0
      rw [<- hO] at a1 ff
      have HS:=fX ff
      clear Al ff hA hT hO e1 ht u0 u1 hr rV EO
      go_wp2_with fail
      (with_reducible refine (IH'.out _ _ _ _ sZ).mono ?_)
      rintro en w2 ⟨rfl,fN⟩
      have fv:=zzT hb fN
      obtain ⟨rD,rx⟩:=id (hc.below fN)
      have Cr:=fX (hc.below fN)
      go_wp2_with fail
      go_roundw
      case rel=>exact ⟨k+1,by omega,by go_num,by rw [<- HS.out],fv,Cr.out⟩
      case measure=>simp [intOf];omega
     ·have Dx:(0:Int)<(k:Int):=by omega
      have ff:uv kids (k+1)=uv kids k++[32]++zL t:=by unfold uv;rw [e1,join_snoc _ _ (by intro h;have:=congrArg List.length h;rw [List.length_take] at this;simp only [List.length_nil] at this;omega)];simp
      obtain ⟨A,hA⟩:=zzM (uv kids k)
      obtain ⟨T,hT⟩:=zzM (zL t)
      unfold xX at IH'
      rw [<- hA] at ff Am ⊢
      rw [<- hT] at ff EO IH'
      obtain ⟨A1,Kw⟩:=zzM (A++[32])
      have lA1:A1.length=A.length+1:=by rw [Kw];simp
      obtain ⟨O,hO⟩:=zzM (A1++T)
      have a0:=fun w0=>qN (P:=Tryz.prog) A [32] (by simp;omega) w0
      have a1:=fun w0=>qN (P:=Tryz.prog) A1 T (by omega) w0
      rw [<- Kw] at a0 ff
      rw [<- hO] at a1 ff
      have HS:=fX ff
      clear ff hA hT hO Kw lA1 e1 ht u0 u1 hr rV EO
      go_wp2_with fail
      (with_reducible refine (IH'.out _ _ _ _ sZ).mono ?_)
      rintro en w2 ⟨rfl,fN⟩
      have fv:=zzT hb fN
      obtain ⟨rD,rx⟩:=id (hc.below fN)
      have Cr:=fX (hc.below fN)
      go_wp2_with fail
      go_roundw
      case rel=>exact ⟨k+1,by omega,by go_num,by rw [<- HS.out],fv,Cr.out⟩
      case measure=>simp [intOf];omega
    ·obtain rfl:k=kids.length:=by omega
     have hj:zL (.ls kids)=uv kids kids.length++[41]:=by rw [HJ.out];unfold uv;rw [List.take_length]
     have iE:¬ ((kids.length:Int)<(kids.length:Int)):=by omega
     obtain ⟨A,hA⟩:=zzM (uv kids kids.length)
     rw [<- hA] at hj Am ⊢
     obtain ⟨O,hO⟩:=zzM (A++[41])
     have rV:=HT.out
     have a1:=fun w0=>qN (P:=Tryz.prog) A [41] (by simp;omega) w0
     rw [<- hO] at a1 hj
     have HS:=fX hj
     clear hj hA hO rV
     go_wp2_with fail
     go_ret
     exact ⟨by rw [HS.out];rfl,hb⟩
theorem gx (n:Nat):∀ b,(zL b).length<=n->Lim n->jZ b->xX b:=by
 induction n with
 | zero=>intro b h hn ho;exact dP b ho (hn.mono h) (fun b' h' _=>by omega)
 | succ n ih=>exact fun b h hn ho=>dP b ho (hn.mono h) (fun b' h' ER=>ih b' (by omega) (hn.mono (by omega)) ER)
theorem TypeValid_any (l:Bs) (hl:Lim l.length) (w:World):Calls Tryz.prog 86 #[str l] w fun en w'=>en=.returned (.bool (zI l).2)/\Below w.heap.size w w':=by
 have C:=fX (xK l hl w)
 generalize hB:(zI l).2=B
 have HB:=fX hB;clear hB
 go_enter Tryz.func86,Tryz.ntmps86
 go_wp2_with fail
 (with_reducible refine C.out.mono ?_)
 rintro en w1 ⟨v,rfl,hb,hv⟩
 obtain ⟨a1,c1,e1⟩:=kJ hv
 subst e1
 clear hv
 rw [HB.out]
 generalize (zI l).1.args.length=n1
 go_wp2_with fail
 refine bodyPost_ret (v:=.bool B) (by simp [results,Tryz.results86,go_sem]) rfl ?_
 exact ⟨rfl,by repeat (first | exact hb | refine Below.alloc ?_ hb.size _ | refine Below.setCell ?_ (by simp;exact hb.size) _)⟩
theorem uh.some {F:Nat->Prop} {w:World} {bs:List Tr} {a:Option Addr} (h:uh F w bs a) (hp:0<bs.length):∃ bb o,a=.some ⟨bb,o,none⟩/\bb<w.heap.size:=by
 obtain ⟨b,o,_,_,_,_,_,e,hb,_⟩:=h 0 hp
 exact ⟨b,o,e,hb⟩
theorem uh.get {F:Nat->Prop} {w:World} {bs:List Tr} {bb o:Nat} (h:uh F w bs (.some ⟨bb,o,none⟩)) {k:Nat} {t:Tr} (ht:bs[k]? = .some t) :
 ∃ a2 c2,w.cell? ⟨bb,o+k*2,none⟩=.some (str (qJ t))/\w.cell? ⟨bb,o+k*2+1,none⟩=.some (.slice a2 (qr t).length c2)/\zX F w (jg t) [str (qJ t),.slice a2 (qr t).length c2]:=by
 obtain ⟨b,o',s,a2,n2,c2,d,e,hb,hd,u0,u1,hr,es,en⟩:=h k (List.getElem?_eq_some_iff.1 ht).1
 simp only [Option.some.injEq,Addr.mk.injEq,and_true] at e
 obtain ⟨rfl,rfl⟩:=e
 rw [ht] at hd
 obtain rfl:=Option.some.inj hd
 subst es;subst en
 exact ⟨a2,c2,u0,u1,hr⟩
theorem isTr_no3 {ps:List Tr} (h:qO ps=vT) (hl:ps.length≠3):qR (.ls ps)=false:=by
 match ps with
 | []=>exact (qR.eq_def _).trans rfl
 | [a]=>exact (qR.eq_def _).trans rfl
 | [a,b]=>exact (qR.eq_def _).trans rfl
 | [a,b,c]=>simp at hl
 | [a,b,c,d] =>
   have h':qO [a]=vT:=by cases a <;> exact h
   rw [qR,h'];rfl
 | a::b::c::d::e::ps=>exact (qR.eq_def _).trans rfl
theorem isTr_no4 {ps:List Tr} (h:qO ps=jq\/qO ps=ifW) (hl:ps.length≠4):qR (.ls ps)=false:=by
 match ps with
 | []=>exact (qR.eq_def _).trans rfl
 | [a]=>exact (qR.eq_def _).trans rfl
 | [a,b]=>exact (qR.eq_def _).trans rfl
 | [a,b,c] =>
   have h':qO [a]=jq\/qO [a]=ifW:=by cases a <;> exact h
   rw [qR]
   rcases h' with h' | h' <;> (rw [h'];rfl)
 | [a,b,c,d]=>simp at hl
 | a::b::c::d::e::ps=>exact (qR.eq_def _).trans rfl
theorem isTr_noW {ps:List Tr} (h1:qO ps≠jq) (h2:qO ps≠vT) (h3:qO ps≠ifW):qR (.ls ps)=false:=by
 match ps with
 | []=>exact (qR.eq_def _).trans rfl
 | [a]=>exact (qR.eq_def _).trans rfl
 | [a,b]=>exact (qR.eq_def _).trans rfl
 | [a,b,c] =>
   have h':qO [a]≠vT:=by cases a <;> exact h2
   rw [qR,beq_false_of_ne h'];rfl
 | [a,b,c,d] =>
   have h':qO [a]≠jq:=by cases a <;> exact h1
   have h'':qO [a]≠ifW:=by cases a <;> exact h3
   rw [qR,beq_false_of_ne h',beq_false_of_ne h''];rfl
 | a::b::c::d::e::ps=>exact (qR.eq_def _).trans rfl
theorem isTr_lam {a b c d:Tr} (h:qO [a,b,c,d]=jq):qR (.ls [a,b,c,d])=(qG (qJ b) && (zI (zL c)).2 && qR d):=by
 have h':qO [a]=jq:=by cases a <;> exact h
 rw [qR,h']
 have e1:(jq == jq)=true:=by decide
 have e2:(jq == ifW)=false:=by decide
 rw [e1,e2,Bool.true_and,Bool.false_and,Bool.or_false,Bool.and_assoc]
theorem isTr_if {a b c d:Tr} (h:qO [a,b,c,d]=ifW):qR (.ls [a,b,c,d])=(qR b && qR c && qR d):=by
 have h':qO [a]=ifW:=by cases a <;> exact h
 rw [qR,h']
 have e1:(ifW == jq)=false:=by decide
 have e2:(ifW == ifW)=true:=by decide
 rw [e1,e2,Bool.true_and,Bool.false_and,Bool.false_or]
theorem isTr_app {a b c:Tr} (h:qO [a,b,c]=vT):qR (.ls [a,b,c])=(qR b && qR c):=by
 have h':qO [a]=vT:=by cases a <;> exact h
 rw [qR,h']
 have e2:(vT == vT)=true:=by decide
 rw [e2,Bool.true_and]
def cU (b:Tr):Prop:=∀ (F:Nat->Prop) (w:World) (s v:Value),zX F w (jg b) [s,v] ->
 Calls Tryz.prog 62 #[.agg #[s,v]] w fun en w'=>en=.returned (.bool (qR b))/\Below w.heap.size w w'
structure PartAt (F:Nat->Prop) (w:World) (bb o k:Nat) (t:Tr) (a2:Option Addr) (c2:Nat):Prop where
 blk:bb<w.heap.size
 c0:w.cell? ⟨bb,o+k,none⟩=.some (str (qJ t))
 c1:w.cell? ⟨bb,o+(k+1),none⟩=.some (.slice a2 (qr t).length c2)
 rp:zX F w (jg t) [str (qJ t),.slice a2 (qr t).length c2]
theorem PartAt.below {F:Nat->Prop} {w w':World} {bb o k:Nat} {t:Tr} {a2:Option Addr} {c2:Nat} (h:PartAt F w bb o k t a2 c2) (hb:Below w.heap.size w w'):PartAt F w' bb o k t a2 c2 :=
 ⟨fC h.blk hb.size,(hb.cell (by exact h.blk)).trans h.c0,(hb.cell (by exact h.blk)).trans h.c1,zX.below hb (fun _ h=>h) h.rp⟩
theorem uh.part {F:Nat->Prop} {w:World} {bs:List Tr} {bb o:Nat} (h:uh F w bs (.some ⟨bb,o,none⟩)) (hb:bb<w.heap.size) {k:Nat} {t:Tr} (ht:bs[k]? = .some t):∃ a2 c2,PartAt F w bb o (k*2) t a2 c2:=by
 obtain ⟨a2,c2,u0,u1,hr⟩:=h.get ht
 exact ⟨a2,c2,hb,u0,u1,hr⟩
set_option maxRecDepth 100000 in
theorem l5Is_step (b:Tr) (ho:jZ b) (hl:Lim (zL b).length) (ih:∀ b',(zL b').length<(zL b).length->jZ b'->cU b'):cU b:=by
 intro F w s v hv
 have hvv:=fX hv
 have CH:=fX (fun wz (hb:Below w.heap.size w wz)=>uP b ho F wz s v (zX.below hb (fun _ h=>h) hvv.out))
 obtain ⟨a2,c2,e,hk⟩:=qz hv
 simp only [List.cons.injEq,and_true] at e
 obtain ⟨rfl,rfl⟩:=e
 cases b with
 | am a =>
   have ha:=am_ne ho
   have hla:Lim a.length:=hl.mono (by rw [zL];exact fP _)
   have CN:=fX (fun wz=>eH a wz hla)
   have HI:=fX (show qR (.am a)=(qj a || qG a) by rw [qR])
   clear hv hk ih hl hla CH hvv ho
   simp only [qJ,qr]
   by_cases h1:a=[116]
   ·subst h1
    go_enter Tryz.func62,Tryz.ntmps62
    go_wp2_with fail
    go_ret
    exact ⟨by rw [HI.out];rfl,(fH _ _).alloc (fP _) _⟩
   by_cases h2:a=[102]
   ·subst h2
    go_enter Tryz.func62,Tryz.ntmps62
    go_wp2_with fail
    go_ret
    exact ⟨by rw [HI.out];rfl,(fH _ _).alloc (fP _) _⟩
   by_cases h3:a=[117]
   ·subst h3
    go_enter Tryz.func62,Tryz.ntmps62
    go_wp2_with fail
    go_ret
    exact ⟨by rw [HI.out];rfl,(fH _ _).alloc (fP _) _⟩
   have n1:(a == [116])=false:=by rw [beq_eq_false_iff_ne];exact h1
   have n2:(a == [102])=false:=by rw [beq_eq_false_iff_ne];exact h2
   have n3:(a == [117])=false:=by rw [beq_eq_false_iff_ne];exact h3
   have HL:=fX (show qj a=false by simp [qj,n1,n2,n3])
   clear h1 h2 h3
   go_enter Tryz.func62,Tryz.ntmps62
   go_wp2_with fail
   (with_reducible refine (CN.out _).mono ?_)
   rintro en w1 ⟨rfl,e⟩
   subst w1
   go_wp2_with fail
   go_ret
   exact ⟨by rw [HI.out,HL.out];rfl,(fH _ _).alloc (fP _) _⟩
 | ls kids =>
   simp only [qJ,qr] at hk CH hvv ⊢
   obtain ⟨_,_,ek,sX⟩:=uh.of hk
   simp only [Value.slice.injEq,true_and] at ek
   obtain ⟨rfl,rfl⟩:=ek
   rw [jZ] at ho
   have IH:=fX ih;clear ih
   have hp0:0<kids.length:=List.length_pos_iff.2 ho.1
   obtain ⟨bb,o,rfl,hbb⟩:=sX.some hp0
   have HO:=fX ho
   have HT:=fX (fW (uH kids) hl)
   have ATK:=fX sX
   have aB:kids.length<=16777216:=by have:=bL kids ho.2;have:=uH kids;have:=hl.le;omega
   have sub:∀ (t:Tr),t∈kids->jZ t/\Lim (zL t).length/\cU t:=fun t ht=>by
    obtain ⟨k,hk⟩:=List.getElem?_of_mem ht
    have h1:=bX kids HO.out.2 k t hk
    have h2:=bU kids t ht
    have h3:=HT.out.1
    have h4:=HT.out.2.le
    exact ⟨h1,(show _<=_ by omega),IH.out t (by omega) h1⟩
   have SUB:=fX sub
   have tS:BoxT w.heap.size [] (.slice (.some ⟨bb,o,none⟩) kids.length c2) (w.alloc (.cells #[str [],.slice (.some ⟨bb,o,none⟩) kids.length c2] 40)):=⟨by simp,by simp⟩
   have HBX:=fX tS
   have nD:Hid (Below w.heap.size w (w.alloc (.cells #[str [],.slice (.some ⟨bb,o,none⟩) kids.length c2] 40))):=(fH _ _).alloc (fP _) _
   clear sX hk hv hvv ho hl sub tS
   go_enter Tryz.func62,Tryz.ntmps62
   go_wp2_with fail
   (with_reducible refine (CH.out _ nD.out).mono ?_)
   rintro en w1 ⟨rfl,fA⟩
   have J8:Below w.heap.size w w1:=zzT nD.out fA
   have r7:=fX (HBX.out.below fA)
   have fb:=fX J8
   clear fA J8 HBX nD CH
   obtain ⟨hd,EU⟩:=zzM (yD (.ls kids))
   rw [<- EU]
   have HD:Hid (qO kids=hd):=EU.symm
   clear EU
   have nl:(4:Int)=(kids.length:Int)\/¬ (4:Int)=(kids.length:Int):=by omega
   by_cases rB:hd=jq
   ·have q0:(hd == [108,97,109])=true:=by rw [beq_iff_eq];exact rB
    have HL:=fX rB;clear rB
    obtain ⟨x0,x1⟩:=r7.out
    by_cases h4:kids.length=4
    ·obtain ⟨p0,p1,p2,p3,rfl⟩:∃ a b c d,kids=[a,b,c,d]:=by
      match kids,h4 with
      | [a,b,c,d],_=>exact ⟨a,b,c,d,rfl⟩
     obtain ⟨a1,k1,P1⟩:=(ATK.out.part hbb (k:=1) (t:=p1) rfl).imp fun _ h=>h
     obtain ⟨a3,k3,P2⟩:=(ATK.out.part hbb (k:=2) (t:=p2) rfl).imp fun _ h=>h
     obtain ⟨a5,k5,P3⟩:=(ATK.out.part hbb (k:=3) (t:=p3) rfl).imp fun _ h=>h
     have HI:=fX (isTr_lam (a:=p0) (b:=p1) (c:=p2) (d:=p3) (by rw [HD.out,HL.out]))
     have S1:=fX (SUB.out p1 (by simp));have S2:=fX (SUB.out p2 (by simp));have S3:=fX (SUB.out p3 (by simp))
     have PP:=fX (fW P1 (fW P2 P3))
     have lat:Lim (qJ p1).length:=by
      cases p1 with
      | am a=>have:=S1.out.2.1;rw [zL] at this;exact this
      | ls ps=>exact Nat.zero_le _
     have CN:=fX (fun wz=>eH (qJ p1) wz lat)
     obtain ⟨y0,y1⟩:=fW (P1.below fb.out).c0 (P1.below fb.out).c1
     have f_:=(P1.below fb.out).blk
     have aH:(([p0,p1,p2,p3]:List Tr).length:Nat)=4:=rfl
     rw [aH] at x1 ⊢
     simp only [Nat.one_mul,Nat.reduceMul,Nat.reduceAdd] at y0 y1
     clear P1 P2 P3 h4 aH lat aB hp0 nl
     go_wp2_with fail
     (with_reducible refine (CN.out _).mono ?_)
     rintro en w2 ⟨rfl,e⟩
     subst w2
     cases hn:qG (qJ p1) with
     | false =>
       have HN:=fX hn;clear hn
       go_wp2_with fail
       go_ret
       exact ⟨by rw [HI.out,HN.out];rfl,fb.out⟩
     | true =>
       have HN:=fX hn;clear hn
       have P2:=PP.out.2.1.below fb.out
       have CT:=fX (gx _ p2 (fP _) S2.out.2.1 S2.out.1 F w1 _ _ P2.rp)
       obtain ⟨y2,y3⟩:=fW P2.c0 P2.c1
       simp only [Nat.one_mul,Nat.reduceMul,Nat.reduceAdd] at y2 y3
       clear P2 y0 y1
       go_wp2_with fail
       (with_reducible refine CT.out.mono ?_)
       rintro en w2 ⟨rfl,fN⟩
       have ft:=fX (zzT fb.out fN)
       have H_:=fX (r7.out.below fN)
       have CV:=fX (TypeValid_any (zL p2) S2.out.2.1 w2)
       clear fN x0 x1 y2 y3 f_
       go_wp2_with fail
       (with_reducible refine CV.out.mono ?_)
       rintro en w3 ⟨rfl,fv⟩
       have nh:=fX (zzT ft.out fv)
       have HX3:=fX (H_.out.below fv)
       clear fv
       cases hv:(zI (zL p2)).2 with
       | false =>
         have HV:=fX hv;clear hv
         go_wp2_with fail
         go_ret
         exact ⟨by rw [HI.out,HN.out,HV.out];rfl,nh.out⟩
       | true =>
         have HV:=fX hv;clear hv
         have P3:=PP.out.2.2.below nh.out
         have CI:=fX (S3.out.2.2 F w3 _ _ P3.rp)
         obtain ⟨x0,x1⟩:=HX3.out
         obtain ⟨y2,y3⟩:=fW P3.c0 P3.c1
         have f_:=P3.blk
         have aH:(([p0,p1,p2,p3]:List Tr).length:Nat)=4:=rfl
         rw [aH] at x1
         simp only [Nat.one_mul,Nat.reduceMul,Nat.reduceAdd] at y2 y3
         clear P3 aH
         go_wp2_with fail
         (with_reducible refine CI.out.mono ?_)
         rintro en w4 ⟨rfl,fl⟩
         go_wp2_with fail
         go_ret
         exact ⟨by rw [HI.out,HN.out,HV.out];rfl,zzT nh.out fl⟩
    ·have hne:((kids.length:Int) == 4)=false:=by rw [beq_eq_false_iff_ne];omega
     have HI:=fX (isTr_no4 (.inl (by rw [HD.out,HL.out])) h4)
     clear h4
     go_wp2_with fail
     go_ret
     exact ⟨by rw [HI.out];rfl,fb.out⟩
   have q0:(hd == [108,97,109])=false:=by rw [beq_eq_false_iff_ne];exact rB
   by_cases oq:hd=vT
   ·have q1:(hd == [97,112,112])=true:=by rw [beq_iff_eq];exact oq
    have HL:=fX oq;clear oq rB
    obtain ⟨x0,x1⟩:=r7.out
    by_cases h4:kids.length=3
    ·obtain ⟨p0,p1,p2,rfl⟩:∃ a b c,kids=[a,b,c]:=by
      match kids,h4 with
      | [a,b,c],_=>exact ⟨a,b,c,rfl⟩
     obtain ⟨a1,k1,P1⟩:=(ATK.out.part hbb (k:=1) (t:=p1) rfl).imp fun _ h=>h
     obtain ⟨a3,k3,P2⟩:=(ATK.out.part hbb (k:=2) (t:=p2) rfl).imp fun _ h=>h
     have HI:=fX (isTr_app (a:=p0) (b:=p1) (c:=p2) (by rw [HD.out,HL.out]))
     have S1:=fX (SUB.out p1 (by simp));have S2:=fX (SUB.out p2 (by simp))
     have PP:=fX (fW P1 P2)
     have CI1:=fX (S1.out.2.2 F w1 _ _ (P1.below fb.out).rp)
     obtain ⟨y0,y1⟩:=fW (P1.below fb.out).c0 (P1.below fb.out).c1
     have f_:=(P1.below fb.out).blk
     have aH:(([p0,p1,p2]:List Tr).length:Nat)=3:=rfl
     rw [aH] at x1 ⊢
     simp only [Nat.one_mul,Nat.reduceMul,Nat.reduceAdd] at y0 y1
     clear P1 P2 h4 aH aB hp0 nl
     go_wp2_with fail
     (with_reducible refine CI1.out.mono ?_)
     rintro en w2 ⟨rfl,fN⟩
     have ft:=fX (zzT fb.out fN)
     have H_:=fX (r7.out.below fN)
     clear fN x0 x1 y0 y1 f_
     cases hn:qR p1 with
     | false =>
       have HN:=fX hn;clear hn
       go_wp2_with fail
       go_ret
       exact ⟨by rw [HI.out,HN.out];rfl,ft.out⟩
     | true =>
       have HN:=fX hn;clear hn
       have P2:=PP.out.2.below ft.out
       have CI2:=fX (S2.out.2.2 F w2 _ _ P2.rp)
       obtain ⟨x0,x1⟩:=H_.out
       obtain ⟨y2,y3⟩:=fW P2.c0 P2.c1
       have f_:=P2.blk
       have aH:(([p0,p1,p2]:List Tr).length:Nat)=3:=rfl
       rw [aH] at x1
       simp only [Nat.one_mul,Nat.reduceMul,Nat.reduceAdd] at y2 y3
       clear P2 aH
       go_wp2_with fail
       (with_reducible refine CI2.out.mono ?_)
       rintro en w4 ⟨rfl,fl⟩
       go_wp2_with fail
       go_ret
       exact ⟨by rw [HI.out,HN.out];rfl,zzT ft.out fl⟩
    ·have hne:((kids.length:Int) == 3)=false:=by rw [beq_eq_false_iff_ne];omega
     have HI:=fX (isTr_no3 (by rw [HD.out,HL.out]) h4)
     clear h4
     go_wp2_with fail
     go_ret
     exact ⟨by rw [HI.out];rfl,fb.out⟩
   have q1:(hd == [97,112,112])=false:=by rw [beq_eq_false_iff_ne];exact oq
   by_cases Hg:hd=ifW
   ·have q2:(hd == [105,102])=true:=by rw [beq_iff_eq];exact Hg
    have HL:=fX Hg;clear Hg oq rB
    obtain ⟨x0,x1⟩:=r7.out
    by_cases h4:kids.length=4
    ·obtain ⟨p0,p1,p2,p3,rfl⟩:∃ a b c d,kids=[a,b,c,d]:=by
      match kids,h4 with
      | [a,b,c,d],_=>exact ⟨a,b,c,d,rfl⟩
     obtain ⟨a1,k1,P1⟩:=(ATK.out.part hbb (k:=1) (t:=p1) rfl).imp fun _ h=>h
     obtain ⟨a3,k3,P2⟩:=(ATK.out.part hbb (k:=2) (t:=p2) rfl).imp fun _ h=>h
     obtain ⟨a5,k5,P3⟩:=(ATK.out.part hbb (k:=3) (t:=p3) rfl).imp fun _ h=>h
     have HI:=fX (isTr_if (a:=p0) (b:=p1) (c:=p2) (d:=p3) (by rw [HD.out,HL.out]))
     have S1:=fX (SUB.out p1 (by simp));have S2:=fX (SUB.out p2 (by simp));have S3:=fX (SUB.out p3 (by simp))
     have PP:=fX (fW P1 (fW P2 P3))
     have CI1:=fX (S1.out.2.2 F w1 _ _ (P1.below fb.out).rp)
     obtain ⟨y0,y1⟩:=fW (P1.below fb.out).c0 (P1.below fb.out).c1
     have f_:=(P1.below fb.out).blk
     have aH:(([p0,p1,p2,p3]:List Tr).length:Nat)=4:=rfl
     rw [aH] at x1 ⊢
     simp only [Nat.one_mul,Nat.reduceMul,Nat.reduceAdd] at y0 y1
     clear P1 P2 P3 h4 aH aB hp0 nl
     go_wp2_with fail
     (with_reducible refine CI1.out.mono ?_)
     rintro en w2 ⟨rfl,fN⟩
     have ft:=fX (zzT fb.out fN)
     have H_:=fX (r7.out.below fN)
     clear fN x0 x1 y0 y1 f_
     cases hn:qR p1 with
     | false =>
       have HN:=fX hn;clear hn
       go_wp2_with fail
       go_ret
       exact ⟨by rw [HI.out,HN.out];rfl,ft.out⟩
     | true =>
       have HN:=fX hn;clear hn
       have P2:=PP.out.2.1.below ft.out
       have CI2:=fX (S2.out.2.2 F w2 _ _ P2.rp)
       obtain ⟨x0,x1⟩:=H_.out
       obtain ⟨y2,y3⟩:=fW P2.c0 P2.c1
       have f_:=P2.blk
       have aH:(([p0,p1,p2,p3]:List Tr).length:Nat)=4:=rfl
       rw [aH] at x1
       simp only [Nat.one_mul,Nat.reduceMul,Nat.reduceAdd] at y2 y3
       clear P2 aH
       go_wp2_with fail
       (with_reducible refine CI2.out.mono ?_)
       rintro en w4 ⟨rfl,fl⟩
       have iL:=fX (zzT ft.out fl)
       have HX4:=fX (H_.out.below fl)
       clear fl x0 x1 y2 y3 f_
       cases sN:qR p2 with
       | false =>
         have K3:=fX sN;clear sN
         go_wp2_with fail
         go_ret
         exact ⟨by rw [HI.out,HN.out,K3.out];rfl,iL.out⟩
       | true =>
         have K3:=fX sN;clear sN
         have P3:=PP.out.2.2.below iL.out
         have CI3:=fX (S3.out.2.2 F w4 _ _ P3.rp)
         obtain ⟨x0,x1⟩:=HX4.out
         obtain ⟨y2,y3⟩:=fW P3.c0 P3.c1
         have f_:=P3.blk
         have aH:(([p0,p1,p2,p3]:List Tr).length:Nat)=4:=rfl
         rw [aH] at x1
         simp only [Nat.one_mul,Nat.reduceMul,Nat.reduceAdd] at y2 y3
         clear P3 aH
         go_wp2_with fail
         (with_reducible refine CI3.out.mono ?_)
         rintro en w5 ⟨rfl,fe⟩
         go_wp2_with fail
         go_ret
         exact ⟨by rw [HI.out,HN.out,K3.out];rfl,zzT iL.out fe⟩
    ·have hne:((kids.length:Int) == 4)=false:=by rw [beq_eq_false_iff_ne];omega
     have HI:=fX (isTr_no4 (.inr (by rw [HD.out,HL.out])) h4)
     clear h4
     go_wp2_with fail
     go_ret
     exact ⟨by rw [HI.out];rfl,fb.out⟩
   have q2:(hd == [105,102])=false:=by rw [beq_eq_false_iff_ne];exact Hg
   have HI:=fX (isTr_noW (by rw [HD.out];exact rB) (by rw [HD.out];exact oq) (by rw [HD.out];exact Hg))
   clear rB oq Hg
   go_wp2_with fail
   go_ret
   exact ⟨by rw [HI.out];rfl,fb.out⟩
theorem l5Is_any (n:Nat):∀ b,(zL b).length<=n->Lim n->jZ b->cU b:=by
 induction n with
 | zero=>intro b h hn ho;exact l5Is_step b ho (hn.mono h) (fun b' h' _=>by omega)
 | succ n ih=>exact fun b h hn ho=>l5Is_step b ho (hn.mono h) (fun b' h' ER=>ih b' (by omega) (hn.mono (by omega)) ER)
def bV (e:Nat) (m:Bs):Option (List Tr×Bs):=yP (je e) (m.length+1) m
theorem rdAll_eq (e:Nat) (m:Bs):bV e m=(je e m).bind fun x=>match x.2 with
 | []=>none
 | c::r=>if c=41 then some ([x.1],r) else if c=32 then (bV e r).map fun y=>(x.1::y.1,y.2) else none:=by
 unfold bV
 rw [yP]
 cases h:je e m with
 | none=>rfl
 | some x =>
   obtain ⟨t,r1⟩:=x
   simp only [Option.bind_some]
   cases r1 with
   | nil=>rfl
   | cons c r =>
     have hl:=uz e _ _ _ h
     simp only [List.length_cons] at hl
     simp only
     rw [eQ (uz e) m.length (r.length+1) r (by omega) (by omega)]
theorem rdTr_all (e:Nat) (r:Bs):je (e+1) (40::r)=(bV e r).map fun y=>(.ls y.1,y.2):=pu e r
theorem rdTr_suffix {e:Nat} {m r:Bs} {t:Tr} (h:je e m=some (t,r)):r <:+ m:=by
 obtain ⟨e1,_⟩:=y9 e m t r h
 exact ⟨_,e1.symm⟩
def vp (L:Nat) (w:World) (o:Option (Tr×Bs)) (en:Ending) (w':World):Prop :=
 ∃ (s:Bs) (a:Option Addr) (n c:Nat) (k:Int),en=.returned (.tuple #[.agg #[str s,.slice a n c],.int .i64 k])/\Below w.heap.size w w'/\(o=none->k = -1) /\
   (∀ t rest,o=some (t,rest)->k=(L:Int)-rest.length/\zX (w.heap.size<=·) w' (jg t) [str s,.slice a n c])
theorem vp.no {L:Nat} {w w':World} {o:Option (Tr×Bs)} {s:Bs} {a:Option Addr} {n c:Nat} (ho:o=.none) (hb:Below w.heap.size w w'):vp L w o (.returned (.tuple #[.agg #[str s,.slice a n c],.int .i64 (-1)])) w' :=
 ⟨s,a,n,c,_,rfl,hb,fun _=>rfl,fun _ _ h=>by rw [ho] at h;simp at h⟩
theorem vp.yes {L:Nat} {w w':World} {o:Option (Tr×Bs)} {t:Tr} {rest s:Bs} {a:Option Addr} {n c:Nat} {k:Int} (ho:o=.some (t,rest)) (hk:k=(L:Int)-rest.length) (hb:Below w.heap.size w w')
 (hv:zX (w.heap.size<=·) w' (jg t) [str s,.slice a n c]):vp L w o (.returned (.tuple #[.agg #[str s,.slice a n c],.int .i64 k])) w' :=
 ⟨s,a,n,c,k,rfl,hb,fun h=>by rw [ho] at h;simp at h,fun _ _ h=>by rw [ho] at h;simp at h;obtain ⟨rfl,rfl⟩:=h;exact ⟨hk,hv⟩⟩
def TrSaid (l:Bs) (e:Nat):Prop:=∀ (d i:Nat) (w:World),e+d=101->i<=l.length ->
    Calls Tryz.prog 61 #[str l,.int .i64 i,.int .i64 d] w (vp l.length w (je e (l.drop i)))
def vQ (ob:Nat) (s:Bs) (slv:Value) (w:World):Prop:=w.heap[ob]? = some (.cells #[str s,slv] 40 (0,0))
theorem vQ.cells {ob:Nat} {s:Bs} {sl:Value} {w:World} (h:vQ ob s sl w):w.cell? ⟨ob,0,none⟩=some (str s)/\w.cell? ⟨ob,1,none⟩=some sl/\ob<w.heap.size/\(∀ o,w.frozen? ⟨ob,o,none⟩=false):=by
 have hl:=zZ h
 unfold vQ at h
 exact ⟨by simp [World.cell?,h],by simp [World.cell?,h],hl,fun o=>by simp [World.frozen?,h]⟩
theorem vQ.put1 {ob:Nat} {s:Bs} {sl u:Value} {w:World} (h:vQ ob s sl w):vQ ob s u (w.setCell ⟨ob,1,none⟩ u):=by
 unfold vQ;rw [zy h];rfl
theorem vQ.below {ob:Nat} {s:Bs} {sl:Value} {w w':World} {B:Nat} (h:vQ ob s sl w) (hb:Below B w w') (hm:ob<B):vQ ob s sl w':=by
 unfold vQ;rw [hb.block ob hm];exact h
theorem vQ.store {ob:Nat} {s:Bs} {sl:Value} {w:World} (h:vQ ob s sl w) (u0 u1:Value) :
 ∃ W,W=((w.setCell ⟨ob,0,none⟩ u0).setCell ⟨ob,1,none⟩ u1)/\W.cell? ⟨ob,0,none⟩=some u0/\W.cell? ⟨ob,1,none⟩=some u1 /\
   (∀ B w0,Below B w0 w->B<=ob->Below B w0 W)/\(∀ i x,i≠ob->w.heap[i]? = some x->W.heap[i]? = some x):=by
 have hc:((w.setCell ⟨ob,0,none⟩ u0).setCell ⟨ob,1,none⟩ u1).heap[ob]? = some (.cells #[u0,u1] 40 (0,0)):=by
  unfold vQ at h
  rw [zy (zy h)];rfl
 refine ⟨_,rfl,by simp only [World.cell?,hc];rfl,by simp only [World.cell?,hc];rfl,fun B w0 hb hB=>?_,fun i x hi hx=>?_⟩
 ·exact ((hb.setCell (p:=⟨ob,0,none⟩) hB _).setCell (p:=⟨ob,1,none⟩) hB _)
 ·rw [fB _ _ _ _ (by simpa using hi),fB _ _ _ _ (by simpa using hi)];exact hx
theorem zq.lit2 {w:World} {e:TypeId} (cs:Array Value) (hn:cs.size=2) (hc:∀ u∈cs.toList,u.oneCell'=true) (g:Nat) (hg:g=w.heap.size):zq 2 (.slice (some ⟨g,0,none⟩) 1 1) 1 cs.toList (w.alloc (.cells cs e)):=by
 subst hg
 refine ⟨by simp [hn],hc,.inl ⟨_,_,rfl,fun j u hu=>?_⟩⟩
 unfold Addr.add
 split
 ·subst j;simp;simpa using hu
 ·simp;simpa using hu
theorem word_in {m:Bs} {j:Nat} (h:j<(zu m).length):∃ hm:j<m.length,sep m[j]=false:=by
 have mO:=xW m
 have hm:j<m.length:=by omega
 refine ⟨hm,?_⟩
 have h1:m[j]=(zu m)[j]:=by
  have e:=yV m
  have:m[j]? = (zu m)[j]?:=by conv=>lhs;rw [<- e]
                              rw [List.getElem?_append_left h]
  rw [List.getElem?_eq_getElem hm,List.getElem?_eq_getElem h] at this
  exact Option.some.inj this
 rw [h1]
 have:=tw_all (fun c=>!sep c) m _ (List.getElem_mem h)
 simpa using this
theorem word_out {m:Bs} (h:(zu m).length<m.length):sep m[(zu m).length]=true:=by
 have h2:(!sep m[(zu m).length])=false:=tw_end (fun c=>!sep c) m h
 simpa using h2
structure fK (w:World) (ob Z:Nat) (wr:World) (ps:List Tr) (vs:List Value) (sl:Value):Prop where
 below:Below w.heap.size w wr
 res:vQ w.heap.size [] (.slice none 0 0) wr
 out:vQ ob [] sl wr
 own:Own wr 40 2 sl ps.length vs
 blk:∀ g,sl.ownBlock=some g->Z<=g
 rep:zX (fun b=>Z<=b/\sl.ownBlock≠some b) wr (js ps) vs
 z:Z<=wr.heap.size
theorem fK.next {w:World} {ob Z:Nat} {wr:World} {ps:List Tr} {vs:List Value} {sl:Value} (h:fK w ob Z wr ps vs sl) (Dt:ob<Z) (hwo:w.heap.size<ob) {W w7:World} {t:Tr} {cs:List Value} {a':Option Addr} {c':Nat}
 (fO:Below wr.heap.size wr W) (hcs:zX (wr.heap.size<=·) W (jg t) cs) (fi:Own w7 40 2 (.slice a' (ps.length+1) c') (ps.length+1) (vs++cs)) (fS:But (fun i=>sl.ownBlock=some i) W w7)
 (fw:∀ g,(Value.slice a' (ps.length+1) c').ownBlock=some g->sl.ownBlock=some g\/g=W.heap.size) :
 fK w ob Z (w7.setCell ⟨ob,1,none⟩ (.slice a' (ps.length+1) c')) (ps++[t]) (vs++cs) (.slice a' (ps.length+1) c'):=by
 have z6:=fO.size
 have z7:=fS.size
 have zr:=h.z
 have keep:∀ i x,wr.heap[i]? = some x->sl.ownBlock≠some i->i≠ob->(w7.setCell ⟨ob,1,none⟩ (.slice a' (ps.length+1) c')).heap[i]? = some x:=by
  intro i x hx h1 h2
  have:=zZ hx
  rw [fB _ _ _ _ (by simpa using h2),fS.block i (by omega) h1,fO.block i this];exact hx
 have nV:∀ i x,W.heap[i]? = some x->sl.ownBlock≠some i->i≠ob->(w7.setCell ⟨ob,1,none⟩ (.slice a' (ps.length+1) c')).heap[i]? = some x:=by
  intro i x hx h1 h2
  have:=zZ hx
  rw [fB _ _ _ _ (by simpa using h2),fS.block i (by omega) h1];exact hx
 have ltK:∀ g,sl.ownBlock=some g->g<wr.heap.size:=fun g hg=>h.own.lt hg
 have nK:∀ i,i<Z->sl.ownBlock≠some i:=fun i hi e=>by have:=h.blk i e;omega
 have newg:∀ g,(Value.slice a' (ps.length+1) c').ownBlock=some g->Z<=g:=fun g hg=>by
  rcases fw g hg with e | e
  ·exact h.blk g e
  ·omega
 refine ⟨?_,?_,?_,?_,newg,?_,by simp [World.setCell];omega⟩
 ·refine Below.setCell ?_ (show w.heap.size<=ob by omega) _
  exact (zzT h.below fO).trans (fS.toBelow (by have:=h.below.size;omega) fun i hi e=>nK i (by omega) e)
 ·exact keep _ _ h.res (nK _ (by omega)) (by omega)
 ·have h1:vQ ob [] sl w7:=by
   unfold vQ;rw [fS.block ob (by omega) (nK _ Dt),fO.block ob (by omega)];exact h.out
  exact h1.put1
 ·rw [show (ps++[t]).length=ps.length+1 from by simp]
  exact fi.keep fun g o hg ho=>by rw [fB _ _ _ _ (by have:=newg g hg;simp;omega)];exact ho
 ·rw [xL]
  refine zX.append ?_ ?_
  ·refine (Rep.keep fun x o hx ho=>⟨⟨hx.1,fun e=>?_⟩,?_⟩).2 _ _ h.rep
   ·exact keep x o ho hx.2 (by have:=hx.1;omega)
   ·rcases fw x e with e' | e'
    ·exact hx.2 e'
    ·have:=zZ ho;omega
  ·have e1:js [t]=jg t:=by simp [js]
   rw [e1]
   refine (Rep.keep fun x o hx ho=>⟨⟨by have:=hx;omega,fun e=>?_⟩,?_⟩).2 _ _ hcs
   ·exact nV x o ho (fun e=>by have:=ltK x e;have:=hx;omega) (by have:=hx;omega)
   ·rcases fw x e with e' | e'
    ·have:=ltK x e';have:=hx;omega
    ·have:=zZ ho;omega
set_option maxRecDepth 100000 in
theorem bE (l:Bs) (hl:Lim l.length) (e d:Nat) (AU:e+d=101) (i:Nat) (w:World) (hi:i<=l.length) (sh:∀ h:i<l.length,e=0\/¬ l[i]=40) :
 Calls Tryz.prog 61 #[str l,.int .i64 i,.int .i64 d] w (vp l.length w (je e (l.drop i))):=by
 have tR:=hl.le
 rcases e with _ | e
 ·have oS:(100:Int)<(d:Int):=by omega
  clear sh
  go_enter Tryz.func61,Tryz.ntmps61
  go_wp2_with fail
  refine bodyPost_ret (v:=.tuple #[.agg #[str [],.slice none 0 0],.int .i64 (-1)]) (by simp [results,Tryz.results61,go_sem]) rfl ?_
  exact vp.no (by rfl) (((fH _ _).alloc (fP _) _).alloc (by simp) _)
 have lM:¬ (100:Int)<(d:Int):=by omega
 by_cases fT:i<l.length
 rotate_left
 ·clear sh
  go_enter Tryz.func61,Tryz.ntmps61
  go_wp2_with fail
  refine bodyPost_ret (v:=.tuple #[.agg #[str [],.slice none 0 0],.int .i64 (-1)]) (by simp [results,Tryz.results61,go_sem]) rfl ?_
  exact vp.no (by rw [List.drop_eq_nil_of_le (by omega)];rfl) (((fH _ _).alloc (fP _) _).alloc (by simp) _)
 have rG:¬ l[i]=40:=(sh fT).resolve_left (by omega)
 clear sh
 have JW:=List.drop_eq_getElem_cons fT
 have hm:je (e+1) (l.drop i)=if zu (l.drop i)=[] then none else some (.am (zu (l.drop i)),zT (l.drop i)):=by rw [JW];exact px e _ _ rG
 have Ac:=xW (l.drop i)
 rw [List.length_drop] at Ac
 have hx:(l.take (i+(zu (l.drop i)).length)).drop i=zu (l.drop i):=by
  rw [List.drop_take,Nat.add_sub_cancel_left];exact word_take _
 have Dz:∀ j,j<(zu (l.drop i)).length->∃ h:i+j<l.length,sep l[i+j]=false:=fun j hj=>by
  obtain ⟨h1,h2⟩:=word_in hj
  rw [List.length_drop] at h1
  rw [List.getElem_drop] at h2
  exact ⟨by omega,h2⟩
 have FY:l.length<=i+(zu (l.drop i)).length\/∃ h:i+(zu (l.drop i)).length<l.length,sep l[i+(zu (l.drop i)).length]=true:=by
  by_cases h:i+(zu (l.drop i)).length<l.length
  ·right
   refine ⟨h,?_⟩
   have:=word_out (m:=l.drop i) (by rw [List.length_drop];omega)
   rw [List.getElem_drop] at this
   exact this
  ·left;omega
 have BS:(zT (l.drop i)).length+(i+(zu (l.drop i)).length)=l.length:=by omega
 obtain ⟨wd,DM⟩:=zzM (zu (l.drop i))
 rw [<- DM] at hm hx Dz FY BS Ac
 have HM:=fX (fW hm (fW Dz (fW FY (fW hx BS))))
 have f4:=jo fT (n:=40) (by decide) rG
 have Gc:i+wd.length<=l.length:=by omega
 clear rG JW hm hx Dz FY DM Ac BS
 go_enter Tryz.func61,Tryz.ntmps61
 go_wp2_with fail
 clear f4
 go_loop [1] (fun a=>∃ j:Nat,j<=wd.length/\a=.int .i64 ((i+j:Nat):Int)) (fun a=>i+wd.length-(intOf a).toNat)
 case atStart=>exact ⟨0,Nat.zero_le _,by simp⟩
 case round =>
  obtain ⟨j,hj,rfl⟩:=hrel
  by_cases Am:j<wd.length
  ·obtain ⟨D1,hs⟩:=HM.out.2.1 j Am
   have oY:¬ l[i+j]=32/\¬ l[i+j]=40/\¬ l[i+j]=41:=by
    simp only [sep,Bool.or_eq_false_iff,beq_eq_false_iff_ne] at hs
    exact ⟨hs.1.1,hs.1.2,hs.2⟩
   have f1:=jo D1 (n:=32) (by decide) oY.1
   have f2:=jo D1 (n:=40) (by decide) oY.2.1
   have f3:=jo D1 (n:=41) (by decide) oY.2.2
   clear hs oY
   go_wp2_with fail
   go_round
   case rel=>exact ⟨j+1,by omega,by go_num⟩
   case measure=>simp [intOf];omega
  ·obtain rfl:j=wd.length:=by omega
   have nW:l.length<=i+wd.length\/(∃ h:i+wd.length<l.length,((((⟨l.toArray⟩:ByteArray)[i+wd.length]'(kx h)).toNat:Int) != 32)=false) \/
    (∃ h:i+wd.length<l.length,((((⟨l.toArray⟩:ByteArray)[i+wd.length]'(kx h)).toNat:Int) != 32)=true/\((((⟨l.toArray⟩:ByteArray)[i+wd.length]'(kx h)).toNat:Int) != 40)=false) \/
    (∃ h:i+wd.length<l.length,((((⟨l.toArray⟩:ByteArray)[i+wd.length]'(kx h)).toNat:Int) != 32)=true/\((((⟨l.toArray⟩:ByteArray)[i+wd.length]'(kx h)).toNat:Int) != 40)=true/\((((⟨l.toArray⟩:ByteArray)[i+wd.length]'(kx h)).toNat:Int) != 41)=false):=by
    rcases HM.out.2.2.1 with h | ⟨h,hs⟩
    ·exact .inl h
    ·right
     simp only [sep,Bool.or_eq_true,beq_iff_eq] at hs
     rcases hs with (hs | hs) | hs
     ·exact .inl ⟨h,vR h (n:=32) (by decide) hs⟩
     ·exact .inr (.inl ⟨h,jo h (c:=32) (n:=32) (by decide) (by rw [hs];decide),vR h (n:=40) (by decide) hs⟩)
     ·exact .inr (.inr ⟨h,jo h (c:=32) (n:=32) (by decide) (by rw [hs];decide),jo h (c:=40) (n:=40) (by decide) (by rw [hs];decide),vR h (n:=41) (by decide) hs⟩)
   have hx:((⟨l.toArray⟩:ByteArray).extract i (i+wd.length))=⟨wd.toArray⟩:=by rw [pe,HM.out.2.2.2.1]
   by_cases h0:wd=[]
   ·subst h0
    have HN:=fX (show je (e+1) (l.drop i)=none by rw [HM.out.1,if_pos rfl])
    simp only [List.length_nil,Nat.add_zero] at nW hx Gc ⊢
    clear Am hj
    rcases nW with h | ⟨h,f1⟩ | ⟨h,f1,f2⟩ | ⟨h,f1,f2,f3⟩
    ·omega
    all_goals
     go_wp2_with fail
     refine bodyPost_ret (v:=.tuple #[.agg #[.string ByteArray.empty,.slice none 0 0],.int .i64 (-1)]) (by simp [results,Tryz.results61,go_sem]) rfl ?_
     exact vp.no (s:=[]) HN.out (((fH _ _).alloc (fP _) _).alloc (by simp) _)
   ·have hne:(wd == [])=false:=by rw [beq_eq_false_iff_ne];exact h0
    have iw:wd.isEmpty=false:=by rw [List.isEmpty_eq_false_iff];exact h0
    have HN:=fX (show je (e+1) (l.drop i)=some (.am wd,zT (l.drop i)) by rw [HM.out.1,if_neg h0])
    have fin:∀ W:World,Below w.heap.size w W->vp l.length w (je (e+1) (l.drop i)) (.returned (.tuple #[.agg #[str wd,.slice none 0 0],.int .i64 ((i:Int)+(wd.length:Int))])) W:=fun W hb =>
     vp.yes HN.out (by have:=HM.out.2.2.2.2;omega) hb (by
      rw [jg]
      exact zQ.2 ⟨_,_,rfl,zH.2 rfl,zQ.2 ⟨_,_,rfl,zp.2 ⟨rfl,none,0,rfl,fP _,fun _=>rfl,.inl rfl⟩,zC.2 rfl⟩⟩)
    have FIN:=fX fin
    clear fin h0 Am hj
    rcases nW with h | ⟨h,f1⟩ | ⟨h,f1,f2⟩ | ⟨h,f1,f2,f3⟩
    all_goals
     go_wp2_with fail
     refine bodyPost_ret (v:=.tuple #[.agg #[str wd,.slice none 0 0],.int .i64 ((i:Int)+(wd.length:Int))]) (by simp [results,Tryz.results61,go_sem]) rfl ?_
     exact FIN.out _ (((fH _ _).alloc (fP _) _).alloc (by simp) _)
theorem vQ.alloc {ob:Nat} {s:Bs} {sl:Value} {w:World} (h:vQ ob s sl w) (o:Obj):vQ ob s sl (w.alloc o):=zY h
set_option maxRecDepth 100000 in
theorem l5Read_open (l:Bs) (hl:Lim l.length) (e d:Nat) (AU:e+1+d=101) (ih:TrSaid l e) (i0:Nat) (w:World) (hi:i0<l.length) (rG:l[i0]=40) :
 Calls Tryz.prog 61 #[str l,.int .i64 i0,.int .i64 d] w (vp l.length w (je (e+1) (l.drop i0))):=by
 have tR:=hl.le
 have IH:=fX ih;clear ih
 have lM:¬ (100:Int)<(d:Int):=by omega
 have hm:je (e+1) (l.drop i0)=(bV e (l.drop (i0+1))).map fun y=>(.ls y.1,y.2):=by
  rw [List.drop_eq_getElem_cons hi,rG,rdTr_all]
 have HM:=fX hm;clear hm
 have f4:=vR hi (n:=40) (by decide) rG
 clear rG
 go_enter Tryz.func61,Tryz.ntmps61
 go_wp2_with fail
 clear f4
 have IJ:fK w (w.heap.size+1) (w.heap.size+2) ((w.alloc (.cells #[str [],.slice none 0 0] 40)).alloc (.cells #[str [],.slice none 0 0] 40)) [] [] (.slice none 0 0):=by
  refine ⟨((fH _ _).alloc (fP _) _).alloc (by simp) _,?_,?_,World.ownsRow_nil _ _ _ _,fun g h=>by simp [Value.ownBlock] at h,zC.2 rfl,by simp⟩
  ·exact zY (zG _ _)
  ·have:=zG (w.alloc (.cells #[str [],.slice none 0 0] 40)) (.cells #[str [],.slice none 0 0] 40)
   rw [zK] at this;exact this
 go_loopw [1] (fun a wr=>∃ (i:Nat) (ps:List Tr) (vs:List Value) (sa:Option Addr) (sc:Nat),a=.int .i64 i/\i<l.length/\ps.length<=i/\(bV e (l.drop (i0+1))=(bV e (l.drop (i+1))).map fun y=>(ps++y.1,y.2))/\fK w (w.heap.size+1) (w.heap.size+2) wr ps vs (.slice sa ps.length sc)) (fun a _=>l.length-(intOf a).toNat)
 case atStart=>exact ⟨i0,[],[],none,0,rfl,hi,Nat.zero_le _,by simp,IJ⟩
 case round =>
  clear IJ
  rename_i wr
  obtain ⟨i,ps,vs,sa,sc,rfl,Gc,EO,G5,hst⟩:=hrel
  have KU:=fX G5;clear G5
  have A9:=fX hst;clear hst
  have C:=fX (IH.out (d+1) (i+1) wr (by omega) Gc)
  go_wp2_with fail
  rw [show (i:Int)+1=((i+1:Nat):Int) from by omega,show (d:Int)+1=((d+1:Nat):Int) from by omega]
  (with_reducible refine C.out.mono ?_)
  rintro Aw w6 ⟨s6,a6,n6,c6,k6,rfl,fO,ap,aO⟩
  have z6:=fO.size
  have zr:=A9.out.z
  have BU:=A9.out.res.below fO (by omega)
  have B6:=A9.out.out.below fO (by omega)
  have lN:=zzT A9.out.below fO
  obtain ⟨r0,r1,rl6,rf⟩:=BU.cells
  obtain ⟨q0,q1,Fy,qf⟩:=B6.cells
  have nJ:=rf 0;have nf:=rf 1;clear rf
  have qf0:=qf 0;have qf1:=qf 1;clear qf
  have Q:=fX (fW fO (fW BU (fW B6 lN)));clear fO BU B6 lN C
  have lA:=rdAll_eq e (l.drop (i+1))
  cases hq:je e (l.drop (i+1)) with
  | none =>
    obtain rfl:=ap hq
    have HN:=fX (show je (e+1) (l.drop i0)=none by rw [HM.out,KU.out,lA,hq];rfl)
    clear lA hq ap aO
    go_wp2_with fail
    obtain ⟨W,hW,s0,s1,fq,_⟩:=Q.out.2.1.store (.string ⟨#[]⟩) (.slice sa ps.length sc)
    rw [<- hW]
    refine bodyPost_ret (v:=.tuple #[.agg #[str [],.slice sa ps.length sc],.int .i64 (-1)]) (by simp [results,Tryz.results61,go_sem,zJ s0,zJ s1]) rfl ?_
    exact vp.no HN.out ((fq _ _ Q.out.2.2.2 (fP _)).alloc (fq _ _ Q.out.2.2.2 (fP _)).size _)
  | some x =>
    obtain ⟨t,rest⟩:=x
    obtain ⟨rfl,Ap⟩:=aO _ _ hq
    have i5:=yY (rdTr_suffix hq)
    have IM:=uz e _ _ _ hq
    rw [List.length_drop] at IM
    have EN:rest.length<=l.length:=by omega
    obtain ⟨rX,DB⟩:=zzM (l.length-rest.length)
    rw [<- DB] at i5
    have AQ:(l.length:Int)-(rest.length:Int)=(rX:Int):=by omega
    rw [AQ]
    have D3:i+1<rX/\rX<=l.length:=by omega
    subst i5
    rw [hq,Option.bind_some] at lA
    simp only at lA
    have K_:=fX lA;have K7:=fX Ap
    clear lA Ap hq ap aO AQ DB EN IM
    by_cases oR:rX=l.length
    ·have HN:=fX (show je (e+1) (l.drop i0)=none by rw [HM.out,KU.out,K_.out,List.drop_eq_nil_of_le (by omega)];rfl)
     have g1:(l.length:Int)<=(rX:Int):=by omega
     have g0:¬ (rX:Int)<0:=by omega
     go_wp2_with fail
     obtain ⟨W,hW,s0,s1,fq,_⟩:=Q.out.2.1.store (.string ⟨#[]⟩) (.slice sa ps.length sc)
     rw [<- hW]
     refine bodyPost_ret (v:=.tuple #[.agg #[str [],.slice sa ps.length sc],.int .i64 (-1)]) (by simp [results,Tryz.results61,go_sem,zJ s0,zJ s1]) rfl ?_
     exact vp.no HN.out ((fq _ _ Q.out.2.2.2 (fP _)).alloc (fq _ _ Q.out.2.2.2 (fP _)).size _)
    have iJ:rX<l.length:=by omega
    have g1:¬ (l.length:Int)<=(rX:Int):=by omega
    have g0:¬ (rX:Int)<0:=by omega
    have hlps:ps.length<=16777216:=by omega
    clear oR
    go_wp2_with (at_builtin;refine zE rfl _ _ 38 rfl 40 (.agg #[str [],.slice none 0 0]) 2 40 Tryz.underlying38 Tryz.infoTr rfl (by decide) (.slice sa ps.length sc) ps.length vs rfl ?c1 _ 1 [str s6,.slice a6 n6 c6] rfl ?c2 ?c3 ?c4 ?_)
    case c1 =>
     refine (A9.out.own.keep fun g o hg ho=>?_).alloc _ |>.alloc _
     rw [Q.out.1.block g (zZ ho)];exact ho
    case c2=>exact zq.lit2 #[str s6,.slice a6 n6 c6] rfl (by simp [str,Value.oneCell']) _ (by simp)
    case c3=>unfold maxLen;omega
    case c4=>omega
    intro a' c' w7 fm fS fw
    have hW:Below wr.heap.size wr ((w6.alloc (.cells #[str s6,.slice a6 n6 c6] 40)).alloc (.cells #[str s6,.slice a6 n6 c6] 40)):=(Q.out.1.alloc Q.out.1.size _).alloc (by have:=Q.out.1.size;simp;omega) _
    have hC:zX (wr.heap.size<=·) ((w6.alloc (.cells #[str s6,.slice a6 n6 c6] 40)).alloc (.cells #[str s6,.slice a6 n6 c6] 40)) (jg t) [str s6,.slice a6 n6 c6] :=
     (Rep.keep fun i o hi ho=>⟨hi,zY (zY ho)⟩).2 _ _ K7.out
    have hA:=A9.out.next (by omega) (show w.heap.size<w.heap.size+1 by omega) hW hC fm fS (fun g hg=>by simpa only [zK] using fw g hg)
    have z7:=fS.size
    rw [zK,zK] at z7
    have oT:w7.cell? ⟨w.heap.size+1,1,none⟩=some (.slice sa ps.length sc):=by
     rw [fS.cell (by simp only [zK];omega) (fun e=>by have h:w.heap.size+2<=w.heap.size+1:=A9.out.blk _ e;omega)]
     exact zJ (zJ q1)
    have B5:vQ (w.heap.size+1) [] (.slice sa ps.length sc) w7:=by
     unfold vQ
     rw [fS.block _ (by simp only [zK];omega) (fun e=>by have h:w.heap.size+2<=w.heap.size+1:=A9.out.blk _ e;omega)]
     exact zY (zY Q.out.2.2.1)
    obtain ⟨p0,p1,pl7,pf⟩:=B5.cells
    have pf1:=pf 1
    clear pf q0 q1 qf0 qf1 r0 r1 nJ nf Fy rl6
    have HA:=fX (fW hA B5);clear hA hW hC fm fS fw B5 oT
    have JW:=List.drop_eq_getElem_cons iJ
    rw [JW] at K_
    obtain ⟨r0,r1,rl8,rf⟩:=HA.out.1.res.cells
    have nJ:=rf 0;have nf:=rf 1;clear rf JW
    by_cases i9:l[rX]=41
    ·have f1:=xU iJ (n:=41) (by decide) i9
     have HY:=fX (show je (e+1) (l.drop i0)=some (.ls (ps++[t]),l.drop (rX+1)) by
      rw [HM.out,KU.out,K_.out];simp only [if_pos i9,Option.map_some])
     clear i9
     go_wp2_with fail
     obtain ⟨W,hW,s0,s1,fq,fc⟩:=HA.out.1.res.store (.string ⟨#[]⟩) (.slice a' (ps.length+1) c')
     rw [<- hW]
     refine bodyPost_ret (v:=.tuple #[.agg #[str [],.slice a' (ps.length+1) c'],.int .i64 ((rX:Int)+1)]) (by simp [results,Tryz.results61,go_sem,s0,s1]) rfl ?_
     have hst:=HA.out.1
     refine vp.yes (s:=[]) HY.out (by rw [List.length_drop];omega) (fq _ _ hst.below (fP _)) ?_
     rw [jg]
     refine zQ.2 ⟨_,_,rfl,zH.2 rfl,zQ.2 ⟨_,_,rfl,?_,zC.2 rfl⟩⟩
     rw [show ps.length+1=(ps++[t]).length from by simp] at hst fc ⊢
     refine (hst.own.keep fun g o hg ho=>fc g o (by have:=hst.blk g hg;omega) ho).rep (fun g hg=>by have:=hst.blk g hg;omega) ?_
     exact (Rep.keep fun x o hx ho=>⟨by have:=hx.1;omega,fc x o (by have:=hx.1;omega) ho⟩).2 _ _ hst.rep
    have f1:=vd iJ (n:=41) (by decide) i9
    by_cases li:l[rX]=32
    ·have f2:=vR iJ (n:=32) (by decide) li
     have HY:=fX (show bV e (l.drop (i0+1))=(bV e (l.drop (rX+1))).map fun y=>((ps++[t])++y.1,y.2) by
      rw [KU.out,K_.out];simp only [if_neg i9,if_pos li,Option.map_map];congr 1;funext y;simp)
     clear i9 li
     go_wp2_with fail
     go_roundw
     case rel=>exact ⟨rX,ps++[t],vs++[str s6,.slice a6 n6 c6],a',c',rfl,iJ,by simp;omega,HY.out,by simpa using HA.out.1⟩
     case measure=>simp [intOf];omega
    ·have f2:=jo iJ (n:=32) (by decide) li
     have HN:=fX (show je (e+1) (l.drop i0)=none by rw [HM.out,KU.out,K_.out];simp only [if_neg i9,if_neg li];rfl)
     clear i9 li
     go_wp2_with fail
     obtain ⟨W,hW,s0,s1,fq,fc⟩:=HA.out.1.res.store (.string ⟨#[]⟩) (.slice a' (ps.length+1) c')
     rw [<- hW]
     refine bodyPost_ret (v:=.tuple #[.agg #[str [],.slice a' (ps.length+1) c'],.int .i64 (-1)]) (by simp [results,Tryz.results61,go_sem,s0,s1]) rfl ?_
     exact vp.no HN.out (fq _ _ HA.out.1.below (fP _))
theorem eG (l:Bs) (hl:Lim l.length):∀ e,e<=101->TrSaid l e
 | 0,h=>fun d i w AU hi=>bE l hl 0 d AU i w hi (fun _=>.inl rfl)
 | e+1,h=>fun d i w AU hi=>by
   by_cases rG:∃ fT:i<l.length,l[i]=40
   ·obtain ⟨fT,rG⟩:=rG
    exact l5Read_open l hl e d AU (eG l hl e (by omega)) i w fT rG
   ·exact bE l hl (e+1) d AU i w hi (fun fT=>.inr fun h=>rG ⟨fT,h⟩)
def STermPost (w:World) (o:Option Tr) (en:Ending) (w':World):Prop :=
 ∃ (s:Bs) (a:Option Addr) (n c:Nat),en=.returned (.tuple #[.agg #[str s,.slice a n c],.bool o.isSome])/\Below w.heap.size w w'/\(∀ t,o=some t->jZ t/\zX (w.heap.size<=·) w' (jg t) [str s,.slice a n c])
abbrev yI (tb:Nat) (u0 u1:Value) (w':World):Prop:=w'.cell? ⟨tb,0,none⟩=some u0/\w'.cell? ⟨tb,1,none⟩=some u1
theorem yI.below {tb:Nat} {u0 u1:Value} {w w':World} (h:yI tb u0 u1 w) (hb:Below w.heap.size w w'):yI tb u0 u1 w' :=
 ⟨(hb.cell (fG w _ h.1)).trans h.1,(hb.cell (fG w _ h.2)).trans h.2⟩
theorem yI.set {tb:Nat} {u0 u1:Value} {w:World} (h:yI tb u0 u1 w) (b o:Nat) (u:Value) (hb:tb≠b):yI tb u0 u1 (w.setCell ⟨b,o,none⟩ u) :=
 ⟨(World.cell?_of_block (fB _ _ _ _ (by simpa using hb))).trans h.1,(World.cell?_of_block (fB _ _ _ _ (by simpa using hb))).trans h.2⟩
theorem isTr_ok {l:Bs} {t:Tr} {r:Bs} {e:Nat} (h:je e l=some (t,r)):jZ t:=(y9 e l t r h).2.1
set_option maxRecDepth 100000 in
theorem l5Term_any (l:Bs) (hl:Lim l.length) (w:World):Calls Tryz.prog 33 #[str l] w (STermPost w (qS l)):=by
 have tR:=hl.le
 by_cases Da:1000<l.length
 ·have h1:(1000:Int)<(l.length:Int):=by omega
  have HM:=fX (show qS l=none by unfold qS;rw [if_pos Da])
  go_enter Tryz.func33,Tryz.ntmps33
  go_wp2_with fail
  refine bodyPost_ret (v:=.tuple #[.agg #[str [],.slice none 0 0],.bool false]) (by simp [results,Tryz.results33,go_sem]) rfl ?_
  exact ⟨[],none,0,0,by rw [HM.out];rfl,(fH _ _).alloc (fP _) _,fun t h=>by rw [HM.out] at h;simp at h⟩
 have h1:¬ (1000:Int)<(l.length:Int):=by omega
 have HM:=fX (show qS l=(match je 101 l with | some (t,[])=>if qR t && decide (qY t<=60) then some t else none | _=>none) by unfold qS;rw [if_neg Da];rfl)
 clear Da
 have C:Hid (∀ wz,Calls Tryz.prog 61 #[str l,.int .i64 0,.int .i64 0] wz (vp l.length wz (je 101 l))):=fun wz=>by
  have h:=eG l hl 101 (by omega) 0 0 wz (by omega) (Nat.zero_le _)
  rw [List.drop_zero] at h
  exact h
 go_enter Tryz.func33,Tryz.ntmps33
 go_wp2_with fail
 (with_reducible refine (C.out _).mono ?_)
 rintro en w1 ⟨s6,a6,n6,c6,k6,rfl,fA,mH,mX⟩
 have z1:=fA.size
 rw [zK] at z1
 have BV:vQ w.heap.size [] (.slice none 0 0) w1:=vQ.below (zG _ _) fA (by simp)
 have D9:Below w.heap.size w w1:=((fH w.heap.size w).alloc (fP _) _).trans (fA.mono (by simp))
 obtain ⟨W2,mV⟩:=zzM (w1.alloc (.cells #[str s6,.slice a6 n6 c6] 40))
 have E2:yI w1.heap.size (str s6) (.slice a6 n6 c6) W2:=by subst mV;exact ⟨by simp,by simp⟩
 have hK2d:yI w1.heap.size (str s6) (.slice a6 n6 c6) W2.drew:=E2
 have mS:vQ w.heap.size [] (.slice none 0 0) W2:=by subst mV;exact zY BV
 have iX:Below w.heap.size w W2:=by subst mV;exact D9.alloc D9.size _
 have z2:W2.heap.size=w1.heap.size+1:=by subst mV;simp
 obtain ⟨r0,r1,rl,rf⟩:=mS.cells
 have nJ:=rf 0;have nf:=rf 1;clear rf
 have ln:w1.heap.size≠w.heap.size:=by omega
 have FIN:∀ (Wz:World) (B:Bool) (o:Option Tr),qS l=o->o.isSome=B->Below w.heap.size w Wz->(∀ t,o=some t->jZ t/\zX (fun b=>w.heap.size<b) Wz (jg t) [str s6,.slice a6 n6 c6]) ->
  ∀ W,(∀ B w0,Below B w0 Wz->B<=w.heap.size->Below B w0 W)->(∀ i x,i≠w.heap.size->Wz.heap[i]? = some x->W.heap[i]? = some x)->STermPost w (qS l) (.returned (.tuple #[.agg #[str s6,.slice a6 n6 c6],.bool B])) W:=by
  intro Wz B o ho hB hb hr W fq fc
  rw [ho]
  exact ⟨s6,a6,n6,c6,by rw [hB],fq _ _ hb (fP _),fun t ht=>⟨(hr t ht).1,(Rep.keep fun b o fx ho=>⟨Nat.le_of_lt fx,fc b o (by have:=fx;omega) ho⟩).2 _ _ (hr t ht).2⟩⟩
 have FN:=fX FIN;clear FIN
 by_cases mA:k6=(l.length:Int)
 rotate_left
 ·have q:(k6 == (l.length:Int))=false:=by rw [beq_eq_false_iff_ne];exact mA
  have sh:qS l=none:=by
   rw [HM.out]
   cases hq:je 101 l with
   | none=>rfl
   | some x =>
     obtain ⟨t,rest⟩:=x
     cases rest with
     | nil=>have:=(mX t [] hq).1;simp at this;exact absurd this mA
     | cons a b=>rfl
  have HN:=fX sh
  have HR:=fX (fW mS iX)
  clear sh mA mX mH fA D9 BV
  have q0:W2.cell? ⟨w1.heap.size,0,none⟩=some (str s6):=E2.1
  have q1:W2.cell? ⟨w1.heap.size,1,none⟩=some (.slice a6 n6 c6):=E2.2
  go_wp2_with fail
  rw [<- mV]
  clear mV
  go_region
  go_wp2_with fail
  obtain ⟨W,hW,s0,s1,fq,fc⟩:=(HR.out.1).store (str s6) (.slice a6 n6 c6)
  rw [<- hW]
  refine bodyPost_ret (v:=.tuple #[.agg #[str s6,.slice a6 n6 c6],.bool false]) (by simp [results,Tryz.results33,go_sem,s0,s1]) rfl ?_
  exact FN.out W2 false none HN.out rfl HR.out.2 (fun t h=>by simp at h) W.drew (fun B w0 h hB=>(fq B w0 h hB).drew) fc
 obtain ⟨t,hq⟩:∃ t,je 101 l=some (t,[]):=by
  cases hq:je 101 l with
  | none=>have:=mH hq;omega
  | some x =>
    obtain ⟨t,rest⟩:=x
    have h1:=(mX t rest hq).1
    have:rest.length=0:=by omega
    rw [List.eq_nil_of_length_eq_zero this];exact ⟨t,rfl⟩
 have q:(k6 == (l.length:Int))=true:=by rw [beq_iff_eq];exact mA
 have mG:=(mX t [] hq).2
 have fa:=isTr_ok hq
 have fT:Lim (zL t).length:=hl.mono (by have:=congrArg List.length (y9 101 l t [] hq).1;simp at this;omega)
 have hm:qS l=if qR t && decide (qY t<=60) then some t else none:=by rw [HM.out,hq]
 have HM:=fX hm
 have nC:zX (fun b=>w.heap.size<b) W2 (jg t) [str s6,.slice a6 n6 c6]:=by
  subst mV
  exact (Rep.keep fun b o h ho=>⟨by have:=h;rw [zK] at this;omega,zY ho⟩).2 _ _ mG
 have aT:=fX nC
 have CI:=fX (l5Is_any _ t (fP _) fT fa _ W2.drew _ _ nC.drew)
 have CS:=fX (fun wz (hb:Below W2.heap.size W2 wz)=>l5Size_any _ t (fP _) fT fa _ wz _ _ (zX.below (F':=fun b=>w.heap.size<b) hb (fun _ h=>h) nC))
 have f7:qY t<=16777216:=by have:=cD t fa;have:=fT.le;omega
 have DI:=fX (fW fa iX)
 have rl0:=rl
 clear hm nC mG mX mH fA D9 BV hq r0 r1 nJ nf rl mA fa
 cases hi:qR t with
 | false =>
   have HI:=fX hi
   have HN:=fX (show qS l=none by rw [HM.out,hi];rfl)
   clear hi
   go_wp2_with fail
   rw [<- mV]
   clear mV
   refine wp_region_noPanic ?_
   refine zB (fun w'=>yI w1.heap.size (str s6) (.slice a6 n6 c6) w') (fun _=>false) (by kernel_rfl) ?_
   have fF:(fun w'=>yI w1.heap.size (str s6) (.slice a6 n6 c6) w') W2.drew:=E2
   refine tk [0,1,2,3,4,5,6] fF ?_
   (intro d hd;simp [tkD] at hd;subst hd;simp only [tks,pQ,pZ,pS])
   iterate 7 (refine ⟨?_,?_,?_⟩;rotate_left;· (intro oi ho;simp at ho;subst ho;refine Or.inl ⟨by rfl,fun w' fI=>?_⟩;obtain ⟨e0,e1⟩:=fI;go_simp;try with_reducible rfl))
   (refine on 7 ?_;intro o ho K' hK;simp at ho;subst ho;go_simp)
   go_at_call 62
   (with_reducible refine CI.out.mono ?_)
   rintro en5 w5 ⟨rfl,fe⟩
   rw [HI.out]
   have iA:Hid (Below W2.heap.size W2 w5):=(Below.drew (fH W2.heap.size W2)).trans fe
   have iR:=E2.below iA.out
   have HN5:=fX (mS.below iA.out rl0)
   clear fe
   (refine hK.out _ _ (fun _=>iR) ?_;clear hK K';try simp only [pQ,pN,pZ,pS])
   have Bj:=iR
   refine tk [8,9,10] Bj ?_
   (intro d hd;simp [tkD] at hd;subst hd;simp only [tks,pQ,pZ,pS])
   iterate 3 (refine ⟨?_,?_,?_⟩;rotate_left;· (intro oi ho;simp at ho;subst ho;first | (refine Or.inr ⟨by rfl,?_⟩;with_reducible rfl) | (refine Or.inl ⟨by rfl,fun w' fI=>?_⟩;go_simp;try with_reducible rfl)))
   (refine on 11 ?_;intro o ho K' hK;simp at ho;subst ho;go_simp)
   (refine hK.out _ _ (fun _=>iR) ?_;clear hK K';try simp only [pQ,pN,pZ,pS])
   refine tk [12,13] Bj ?_
   (intro d hd;simp [tkD] at hd;subst hd;simp only [tks,pQ,pZ,pS])
   iterate 2 (refine ⟨?_,?_,?_⟩;rotate_left;· (intro oi ho;simp at ho;subst ho;first | (refine Or.inr ⟨by rfl,?_⟩;with_reducible rfl) | (refine Or.inl ⟨by rfl,fun w' fI=>?_⟩;go_simp;try with_reducible rfl)))
   (refine on 14 ?_;intro o ho K' hK;simp at ho;subst ho)
   obtain ⟨r0,r1,rl,rf⟩:=(HN5.out).cells
   have nJ:=rf 0
   have nf:=rf 1
   clear rf
   go_simp
   (refine hK.out _ _ (fun _=>(iR.set _ _ _ ln).set _ _ _ ln) ?_;clear hK K';try simp only [pQ,pN,pZ,pS])
   (refine on 15 ?_;intro o ho K' hK;simp at ho;subst ho;go_simp)
   (refine hK.out _ _ (fun _=>(iR.set _ _ _ ln).set _ _ _ ln) ?_;clear hK K';try simp only [pQ,pN,pZ,pS])
   refine zU (by kernel_rfl) (NoPanic.normal ?_) _
   go_wp2_with fail
   obtain ⟨W,hW,s0,s1,fq,fc⟩:=(HN5.out).store (str s6) (.slice a6 n6 c6)
   rw [<- hW]
   refine bodyPost_ret (v:=.tuple #[.agg #[str s6,.slice a6 n6 c6],.bool false]) (by simp [results,Tryz.results33,go_sem,s0,s1]) rfl ?_
   exact FN.out w5 false none HN.out rfl (zzT DI.out.2 iA.out) (fun t h=>by simp at h) W fq fc
 | true =>
   have HI:=fX hi
   have HN:=fX (show qS l=if decide (qY t<=60) then some t else none by rw [HM.out,hi];rfl)
   clear hi
   go_wp2_with fail
   rw [<- mV]
   clear mV
   refine wp_region_noPanic ?_
   refine zB (fun w'=>yI w1.heap.size (str s6) (.slice a6 n6 c6) w') (fun _=>false) (by kernel_rfl) ?_
   have fF:(fun w'=>yI w1.heap.size (str s6) (.slice a6 n6 c6) w') W2.drew:=E2
   refine tk [0,1,2,3,4,5,6] fF ?_
   (intro d hd;simp [tkD] at hd;subst hd;simp only [tks,pQ,pZ,pS])
   iterate 7 (refine ⟨?_,?_,?_⟩;rotate_left;· (intro oi ho;simp at ho;subst ho;refine Or.inl ⟨by rfl,fun w' fI=>?_⟩;obtain ⟨e0,e1⟩:=fI;go_simp;try with_reducible rfl))
   (refine on 7 ?_;intro o ho K' hK;simp at ho;subst ho;go_simp)
   go_at_call 62
   (with_reducible refine CI.out.mono ?_)
   rintro en5 w5 ⟨rfl,fe⟩
   rw [HI.out]
   have iA:Hid (Below W2.heap.size W2 w5):=(Below.drew (fH W2.heap.size W2)).trans fe
   have iR:=E2.below iA.out
   have HN5:=fX (mS.below iA.out rl0)
   clear fe
   (refine hK.out _ _ (fun _=>iR) ?_;clear hK K';try simp only [pQ,pN,pZ,pS])
   have Bj:=iR
   refine tk [8,9,10] Bj ?_
   (intro d hd;simp [tkD] at hd;subst hd;simp only [tks,pQ,pZ,pS])
   iterate 3 (refine ⟨?_,?_,?_⟩;rotate_left;· (intro oi ho;simp at ho;subst ho;refine Or.inl ⟨by rfl,fun w' fI=>?_⟩;obtain ⟨e0,e1⟩:=fI;go_simp;try with_reducible rfl))
   (refine on 11 ?_;intro o ho K' hK;simp at ho;subst ho;go_simp)
   go_at_call 63
   (with_reducible refine (CS.out w5 iA.out).mono ?_)
   rintro en7 w7 ⟨rfl,fS⟩
   have Ba:Hid (Below W2.heap.size W2 w7):=zzT iA.out fS
   have hK7:=E2.below Ba.out
   have HN7:=fX (mS.below Ba.out rl0)
   clear fS
   (refine hK.out _ _ (fun _=>hK7) ?_;clear hK K';try simp only [pQ,pN,pZ,pS])
   have hS11:=hK7
   refine tk [12,13] hS11 ?_
   (intro d hd;simp [tkD] at hd;subst hd;simp only [tks,pQ,pZ,pS])
   iterate 2 (refine ⟨?_,?_,?_⟩;rotate_left;· (intro oi ho;simp at ho;subst ho;refine Or.inl ⟨by rfl,fun w' fI=>?_⟩;go_simp;try with_reducible rfl))
   (refine on 14 ?_;intro o ho K' hK;simp at ho;subst ho)
   obtain ⟨r0,r1,rl,rf⟩:=(HN7.out).cells
   have nJ:=rf 0
   have nf:=rf 1
   clear rf
   go_simp
   (refine hK.out _ _ (fun _=>(hK7.set _ _ _ ln).set _ _ _ ln) ?_;clear hK K';try simp only [pQ,pN,pZ,pS])
   (refine on 15 ?_;intro o ho K' hK;simp at ho;subst ho;go_simp)
   (refine hK.out _ _ (fun _=>(hK7.set _ _ _ ln).set _ _ _ ln) ?_;clear hK K';try simp only [pQ,pN,pZ,pS])
   refine zU (by kernel_rfl) (NoPanic.normal ?_) _
   go_wp2_with fail
   obtain ⟨W,hW,s0,s1,fq,fc⟩:=(HN7.out).store (str s6) (.slice a6 n6 c6)
   rw [<- hW]
   refine bodyPost_ret (v:=.tuple #[.agg #[str s6,.slice a6 n6 c6],.bool (decide ((qY t:Int)<=60))]) (by simp [results,Tryz.results33,go_sem,s0,s1]) rfl ?_
   by_cases lr:qY t<=60
   ·exact FN.out w7 _ (some t) (by rw [HN.out,if_pos (by simpa using lr)]) (by rw [decide_eq_true (by omega)];rfl) (zzT DI.out.2 Ba.out) (fun t' h=>by
     obtain rfl:=Option.some.inj h
     exact ⟨DI.out.1,zX.below Ba.out (fun _ h=>h) aT.out⟩) W fq fc
   ·exact FN.out w7 _ none (by rw [HN.out,if_neg (by simpa using lr)]) (by rw [decide_eq_false (by omega)];rfl) (zzT DI.out.2 Ba.out) (fun t h=>by simp at h) W fq fc
end Go.Proofs.YtjggkhmojjaomaaGreatDoor

/- Walks of functions that the statement reaches, and plain words. No conditions. -/
import Derived.Test.YtjggkhmojjaomaaGreatDoorQ3
import Derived.Test.YtjggkhmojjaomaaGreatDoorQ6
set_option linter.unusedVariables false
set_option linter.unusedSimpArgs false
set_option maxHeartbeats 4000000
namespace Go.Proofs.YtjggkhmojjaomaaGreatDoor
open Go.RowKit
theorem wi (n lo hi:Int) (w:World):Calls Tryz.prog 101 #[.int .i64 n,.int .i64 lo,.int .i64 hi] w fun en w'=>en=.returned (.bool (decide (lo<=n) && decide (n<=hi)))/\w'=w:=by
 by_cases h1:lo<=n
 ·by_cases h2:n<=hi
  ·go_enter Tryz.func101,Tryz.ntmps101
   go_wp2_with fail
   go_ret
   exact ⟨by simp [h1,h2],rfl⟩
  ·go_enter Tryz.func101,Tryz.ntmps101
   go_wp2_with fail
   go_ret
   exact ⟨by simp [h1,h2],rfl⟩
 ·go_enter Tryz.func101,Tryz.ntmps101
  go_wp2_with fail
  go_ret
  exact ⟨by simp [h1];omega,rfl⟩
set_option maxRecDepth 20000 in
theorem eZ (s:Bs) (w:World) (hl:Lim s.length) :
 Calls Tryz.prog 85 #[str s] w fun en w'=>en=.returned (.bool (qG s))/\w'=w:=by
 have tH:=hl.le
 by_cases h0:s.length=0
 ·obtain rfl:s=[]:=List.eq_nil_of_length_eq_zero h0
  clear h0
  go_enter Tryz.func85,Tryz.ntmps85
  go_wp2_with fail
  (with_reducible refine (wi 0 1 3 w).mono ?_)
  rintro en w1 ⟨rfl,e⟩
  subst w1
  have q1:(decide ((1:Int)<=0) && decide ((0:Int)<=3))=false:=by decide
  rw [q1]
  clear q1
  go_wp2_with fail
  go_ret
  exact ⟨rfl,rfl⟩
 have hne:(s == [])=false:=by rw [beq_eq_false_iff_ne];rintro rfl;exact h0 rfl
 have iT:s.isEmpty=false:=by rw [List.isEmpty_eq_false_iff];rintro rfl;exact h0 rfl
 have mx:0<s.length:=by omega
 clear h0
 by_cases h3:3<s.length
 ·have HN:=ed (name_no1 h3)
  go_enter Tryz.func85,Tryz.ntmps85
  have q1:(decide ((1:Int)<=(s.length:Int)) && decide ((s.length:Int)<=3))=false:=by rw [decide_eq_false (show ¬ (s.length:Int)<=3 by omega),Bool.and_false]
  go_wp2_with fail
  (with_reducible refine (wi (s.length:Int) 1 3 w).mono ?_)
  rintro en w1 ⟨rfl,e⟩
  subst w1
  rw [q1]
  clear q1
  go_wp2_with fail
  go_ret
  exact ⟨by rw [HN.out];rfl,rfl⟩
 have q1:(decide ((1:Int)<=(s.length:Int)) && decide ((s.length:Int)<=3))=true:=by rw [decide_eq_true (show (1:Int)<=(s.length:Int) by omega),decide_eq_true (show (s.length:Int)<=3 by omega)];rfl
 have Q1:=ed q1;clear q1
 have B:=yS mx
 by_cases hA:s[0].toNat<120
 ·have HN:=ed (hG mx (.inl hA))
  have b1:((((⟨s.toArray⟩:ByteArray)[0]'(kO mx)).toNat:Int))<120:=by rw [B];omega
  clear B hA
  go_enter Tryz.func85,Tryz.ntmps85
  go_wp2_with fail
  (with_reducible refine (wi (s.length:Int) 1 3 w).mono ?_)
  rintro en w1 ⟨rfl,e⟩
  subst w1
  rw [Q1.out]
  go_wp2_with fail
  go_ret
  exact ⟨by rw [HN.out];rfl,rfl⟩
 by_cases hB:122<s[0].toNat
 ·have HN:=ed (hG mx (.inr hB))
  have b1:(122:Int)<((((⟨s.toArray⟩:ByteArray)[0]'(kO mx)).toNat:Int)):=by rw [B];omega
  have b2:¬ ((((⟨s.toArray⟩:ByteArray)[0]'(kO mx)).toNat:Int))<120:=by omega
  clear B hA hB
  go_enter Tryz.func85,Tryz.ntmps85
  go_wp2_with fail
  (with_reducible refine (wi (s.length:Int) 1 3 w).mono ?_)
  rintro en w1 ⟨rfl,e⟩
  subst w1
  rw [Q1.out]
  go_wp2_with fail
  go_ret
  exact ⟨by rw [HN.out];rfl,rfl⟩
 have b1:¬ (122:Int)<((((⟨s.toArray⟩:ByteArray)[0]'(kO mx)).toNat:Int)):=by rw [B];omega
 have b2:¬ ((((⟨s.toArray⟩:ByteArray)[0]'(kO mx)).toNat:Int))<120:=by rw [B];omega
 have HA:=ed (ef hA hB)
 clear B hA hB
 go_enter Tryz.func85,Tryz.ntmps85
 go_wp2_with fail
 (with_reducible refine (wi (s.length:Int) 1 3 w).mono ?_)
 rintro en w1 ⟨rfl,e⟩
 subst w1
 rw [Q1.out]
 go_wp2_with fail
 clear b1 b2
 go_loop [3] (fun i=>∃ k:Nat,1<=k/\k<=s.length/\i=.int .i64 k/\∀ j,1<=j->j<k->∀ (hj:j<s.length),48<=s[j].toNat/\s[j].toNat<=57) (fun i=>s.length-(intOf i).toNat)
 case atStart=>exact ⟨1,ei _,mx,rfl,fun j h1 h2=>by omega⟩
 case round =>
  obtain ⟨k,Dl,hk,rfl,nN⟩:=hrel
  have HR:=ed nN;clear nN
  by_cases fG:k<s.length
  ·have B:=yS fG
   by_cases hA:s[k].toNat<48
   ·have HN:=ed (g_ Dl fG (.inl hA))
    have b1:((((⟨s.toArray⟩:ByteArray)[k]'(kO fG)).toNat:Int))<48:=by rw [B];omega
    clear B hA
    go_wp2_with fail
    go_ret
    exact ⟨by rw [HN.out];rfl,rfl⟩
   by_cases hB:57<s[k].toNat
   ·have HN:=ed (g_ Dl fG (.inr hB))
    have b1:(57:Int)<((((⟨s.toArray⟩:ByteArray)[k]'(kO fG)).toNat:Int)):=by rw [B];omega
    have b2:¬ ((((⟨s.toArray⟩:ByteArray)[k]'(kO fG)).toNat:Int))<48:=by omega
    clear B hA hB
    go_wp2_with fail
    go_ret
    exact ⟨by rw [HN.out];rfl,rfl⟩
   have b1:¬ (57:Int)<((((⟨s.toArray⟩:ByteArray)[k]'(kO fG)).toNat:Int)):=by rw [B];omega
   have b2:¬ ((((⟨s.toArray⟩:ByteArray)[k]'(kO fG)).toNat:Int))<48:=by rw [B];omega
   have HB:=ed (ef hA hB)
   clear B hA hB
   go_wp2_with fail
   go_round
   case rel=>exact ⟨k+1,by omega,by omega,by go_num,fun j h1 h2 hj=>by
    by_cases e:j=k
    ·subst e;have:=HB.out;omega
    ·exact HR.out j h1 (by omega) hj⟩
   case measure=>simp [intOf];omega
  ·go_wp2_with fail
   go_ret
   have HA':=HA.out
   exact ⟨by rw [name_yes mx (by omega) (by omega) (fun j h1 hj=>HR.out j h1 (by omega) hj)];rfl,rfl⟩
mutual
def jj:Tr->List DV
 | .am a=>[.val (str a),.sl 40 2 0 []]
 | .ls ps=>[.val (str []),.sl 40 2 ps.length (jw ps)]
def jw:List Tr->List DV
 | []=>[]
 | p::ps=>jj p++jw ps
end
theorem bS (b:Tr):(jj b).length=2:=by cases b <;> simp [jj]
theorem encTrs_length (bs:List Tr):(jw bs).length=bs.length*2:=by
 induction bs with
 | nil=>simp [jw]
 | cons b bs ih=>simp [jw,bS,ih];omega
theorem xS (a b:List Tr):jw (a++b)=jw a++jw b:=by
 induction a with
 | nil=>simp [jw]
 | cons t ts ih=>simp [jw,ih,List.append_assoc]
theorem Tryz.infoTr:(Tryz.prog.info? 40).map (fun i=>(i.zero,i.size,i.bytes))=some (some (.agg #[str [],.slice none 0 0]),2,40):=by kernel_rfl
def qd:Tr->List Tr
 | .am _=>[]
 | .ls ps=>ps
theorem qO {F:Nat->Prop} {w:World} {b:Tr} {vs:List Value} (h:zX F w (jj b) vs) :
 ∃ a c,vs=[str (qQ b),.slice a (qd b).length c]/\Rep F w (.sl 40 2 (qd b).length (jw (qd b))) (.slice a (qd b).length c):=by
 have key:∀ (s:Bs) (n:Nat) (ds:List DV),zX F w [.val (str s),.sl 40 2 n ds] vs->∃ a c,vs=[str s,.slice a n c]/\Rep F w (.sl 40 2 n ds) (.slice a n c):=by
  intro s n ds h
  obtain ⟨_,_,rfl,h0,h⟩:=zQ.1 h
  obtain ⟨_,_,rfl,h1,h⟩:=zQ.1 h
  rw [zC] at h;subst h
  rw [zH] at h0
  subst h0
  have h1':=h1
  obtain ⟨_,a2,c2,e2',_⟩:=zp.1 h1'
  subst e2'
  exact ⟨a2,c2,rfl,h1⟩
 cases b with
 | am a=>rw [jj] at h;exact key _ _ _ h
 | ls ps=>rw [jj] at h;exact key _ _ _ h
def AtTr (F:Nat->Prop) (w:World) (bs:List Tr) (a:Option Addr) (k:Nat):Prop :=
 ∃ b o s a2 n2 c2 d,a=some ⟨b,o,none⟩/\b<w.heap.size/\bs[k]? = some d/\w.cell? ⟨b,o+k*2,none⟩=some (str s)/\w.cell? ⟨b,o+k*2+1,none⟩=some (.slice a2 n2 c2)/\zX F w (jj d) [str s,.slice a2 n2 c2]/\s=qQ d/\n2=(qd d).length
def ud (F:Nat->Prop) (w:World) (bs:List Tr) (a:Option Addr):Prop:=∀ k,k<bs.length->AtTr F w bs a k
theorem ud.of {F:Nat->Prop} {w:World} {bs:List Tr} {v:Value} (h:Rep F w (.sl 40 2 bs.length (jw bs)) v):∃ a c,v=.slice a bs.length c/\ud F w bs a:=by
 obtain ⟨hl,a,c,rfl,hn,hz,h⟩:=zp.1 h
 refine ⟨a,c,rfl,fun k hk=>?_⟩
 rcases h with h | ⟨b,o,cs,fr,rfl,hb,hc,hr⟩
 ·omega
 ·have hs:jw bs=jw (bs.take k)++(jj bs[k]++jw (bs.drop (k+1))):=by
   have e1:jj bs[k]=jw [bs[k]]:=by simp [jw]
   rw [e1,<- xS,<- xS]
   congr 1
   simp
  rw [hs] at hr
  obtain ⟨h1,h2⟩:=hr.split
  obtain ⟨h3,h4⟩:=h2.split
  have aJ:(jw (bs.take k)).length=k*2:=by rw [encTrs_length];simp;omega
  rw [aJ,bS] at h3
  obtain ⟨a2,c2,e,_⟩:=qO h3
  have fU:∀ j u,([str (qQ bs[k]),.slice a2 (qd bs[k]).length c2]:List Value)[j]? = some u->w.cell? ⟨b,o+k*2+j,none⟩=some u:=by
   intro j u hu
   rw [<- e] at hu
   have hj:j<2:=by
    have:=(List.getElem?_eq_some_iff.1 hu).1
    simp at this;omega
   rw [List.getElem?_take,if_pos hj,List.getElem?_drop,List.getElem?_take] at hu
   split at hu
   ·rw [List.getElem?_drop] at hu
    simp only [World.cell?,hc]
    rw [Nat.add_assoc]
    simpa using hu
   ·simp at hu
  refine ⟨b,o,_,a2,_,c2,bs[k],rfl,zZ hc,by simp [hk],fU 0 _ rfl,fU 1 _ rfl,?_,rfl,rfl⟩
  rw [<- e];exact h3
theorem g9:∀ (ps:List Tr),qM ps->∀ (k:Nat) (t:Tr),ps[k]? = some t->qo t
 | [],_,k,t,h=>by simp at h
 | p::ps,ho,0,t,h=>by simp at h;subst h;exact (by rw [qM] at ho;exact ho.1)
 | p::ps,ho,k+1,t,h=>by rw [qM] at ho;exact g9 ps ho.2 k t (by simpa using h)
def qX:List Tr->Bs
 | []=>[]
 | [p]=>zA p
 | p::q::ps=>zA p++32::qX (q::ps)
theorem tail_join:∀ ps:List Tr,ps≠[]->ki ps=32::(qX ps++[41])
 | [],h=>absurd rfl h
 | [p],_=>by rw [ki,ki,qX]
 | p::q::ps,_=>by rw [ki,tail_join (q::ps) (by simp),qX];simp
theorem text_join:∀ ps:List Tr,zA (.ls ps)=[40]++qX ps++[41]
 | []=>by rw [zA,jA,qX];rfl
 | [p]=>by rw [zA,jA,ki,qX];simp
 | p::q::ps=>by rw [zA,jA,tail_join (q::ps) (by simp),qX];simp
theorem join_snoc:∀ (ps:List Tr) (t:Tr),ps≠[]->qX (ps++[t])=qX ps++[32]++zA t
 | [],t,h=>absurd rfl h
 | [p],t,_=>by rw [List.singleton_append,qX,qX,qX];simp
 | p::q::ps,t,_=>by rw [List.cons_append,List.cons_append,qX,<- List.cons_append,join_snoc (q::ps) t (by simp),qX];simp
theorem join_one (t:Tr):qX [t]=zA t:=by rw [qX]
theorem join_take_len (ps:List Tr) (k:Nat):(qX (ps.take k)).length<=(qX ps).length:=by
 induction ps generalizing k with
 | nil=>simp
 | cons p ps ih =>
   cases k with
   | zero=>simp [qX]
   | succ k =>
     cases ps with
     | nil=>simp [qX]
     | cons q ps =>
       have:=ih k
       cases k with
       | zero=>simp [qX]
       | succ k=>simp only [List.take_succ_cons,qX,List.length_append,List.length_cons] at this ⊢;omega
theorem gt:∀ (ps:List Tr) (t:Tr),t∈ps->(zA t).length<=(qX ps).length
 | [],t,h=>by simp at h
 | [p],t,h=>by simp at h;subst h;rw [qX];exact ei _
 | p::q::ps,t,h=>by
   rw [qX]
   rcases List.mem_cons.1 h with rfl | h
   ·simp
   ·have:=gt (q::ps) t h
    simp only [List.length_append,List.length_cons] at this ⊢;omega
theorem uH (ps:List Tr):(zA (.ls ps)).length=(qX ps).length+2:=by rw [text_join];simp
theorem text_pos (t:Tr) (h:qo t):1<=(zA t).length:=by
 cases t with
 | am a=>rw [qo] at h;rw [zA];exact List.length_pos_iff.2 h.1
 | ls ps=>rw [uH];omega
mutual
theorem cV:∀ t:Tr,qo t->qY t<=(zA t).length
 | .am a,h=>by
   rw [qo] at h
   rw [qY,zA]
   exact List.length_pos_iff.2 h.1
 | .ls ps,h=>by
   rw [qo] at h
   rw [qY,uH]
   have:=gU ps h.2
   omega
theorem gU:∀ ps:List Tr,qM ps->kH ps<=(qX ps).length
 | [],h=>by rw [kH];omega
 | [p],h=>by
   rw [qM] at h
   rw [kH,kH,qX]
   exact cV p h.1
 | p::q::ps,h=>by
   rw [qM] at h
   have h1:=cV p h.1
   have h2:=gU (q::ps) h.2
   rw [kH,qX,List.length_append,List.length_cons]
   omega
end
theorem bV:∀ ps:List Tr,qM ps->ps.length<=(qX ps).length
 | [],_=>by simp
 | [p],h=>by
   rw [qM] at h
   have hp:=text_pos p h.1
   rw [qX];simpa using hp
 | p::q::ps,h=>by
   rw [qM] at h
   have hp:=text_pos p h.1
   have:=bV (q::ps) h.2
   rw [qX];simp only [List.length_cons,List.length_append] at this ⊢;omega
theorem sizeTrs_take {ps:List Tr} {k:Nat} {t:Tr} (h:ps[k]? = some t):kH (ps.take (k+1))=kH (ps.take k)+qY t:=by
 induction ps generalizing k with
 | nil=>simp at h
 | cons p ps ih =>
   cases k with
   | zero=>simp at h;subst h;simp [kH]
   | succ k =>
     simp only [List.getElem?_cons_succ] at h
     have:=ih h
     simp only [List.take_succ_cons,kH] at this ⊢
     omega
theorem dW (ps:List Tr) (k:Nat):kH (ps.take k)<=kH ps:=by
 induction ps generalizing k with
 | nil=>simp
 | cons p ps ih =>
   cases k with
   | zero=>simp [kH]
   | succ k=>have:=ih k;simp only [List.take_succ_cons,kH];omega
theorem am_ne {a:Bs} (h:qo (.am a)):(a == [])=false:=by
 rw [qo] at h
 rw [beq_eq_false_iff_ne];exact h.1
def BoxT (g:Nat) (s:Bs) (k:Value) (w:World):Prop:=w.cell? ⟨g,0,none⟩=some (str s)/\w.cell? ⟨g,1,none⟩=some k
theorem BoxT.below {g:Nat} {s:Bs} {k:Value} {w w':World} (h:BoxT g s k w) (hb:Below w.heap.size w w'):BoxT g s k w':=by
 obtain ⟨h1,h2⟩:=h
 have:=e9 w _ h1
 exact ⟨by rw [hb.cell (by exact this)];exact h1,by rw [hb.cell (by exact this)];exact h2⟩
def wG (b:Tr):Prop:=∀ (F:Nat->Prop) (w:World) (s v:Value),zX F w (jj b) [s,v] ->
 Calls Tryz.prog 63 #[.agg #[s,v]] w fun en w'=>en=.returned (.int .i64 (qY b))/\Below w.heap.size w w'
set_option maxRecDepth 100000 in
theorem co (b:Tr) (ho:qo b) (hl:Lim (zA b).length) (ih:∀ b',(zA b').length<(zA b).length->qo b'->wG b'):wG b:=by
 intro F w s v hv
 obtain ⟨a2,c2,e,hk⟩:=qO hv
 simp only [List.cons.injEq,and_true] at e
 obtain ⟨rfl,rfl⟩:=e
 cases b with
 | am a =>
   have ha:=am_ne ho
   clear hv hk ih hl
   simp only [qQ,qd]
   go_enter Tryz.func63,Tryz.ntmps63
   go_wp2_with fail
   go_ret
   exact ⟨by rw [qY];rfl,(e_ _ _).alloc (ei _) _⟩
 | ls kids =>
   simp only [qQ,qd] at hk ⊢
   obtain ⟨_,_,ek,rh⟩:=ud.of hk
   simp only [Value.slice.injEq,true_and] at ek
   obtain ⟨rfl,rfl⟩:=ek
   rw [qo] at ho
   have IH:=ed ih;clear ih
   have hsz:=gU kids ho.2
   have Er:=uH kids
   have hll:=hl.le
   have aJ:kids.length<=kH kids+kids.length:=by omega
   have nk:kids.length<=16777216:=by have:=bV kids ho.2;omega
   have E1:=ed hsz
   have HO:=ed ho
   have HT:=ed Er
   have ATK:=ed rh
   clear rh hk hv hsz Er aJ ho
   go_enter Tryz.func63,Tryz.ntmps63
   go_wp2_with fail
   go_loopw [3,4] (fun n i wr=>∃ k:Nat,k<=kids.length/\i=.int .i64 k/\n=.int .i64 ((kH (kids.take k):Nat):Int)/\Below w.heap.size w wr/\BoxT w.heap.size [] (.slice a2 kids.length c2) wr) (fun _ i _=>kids.length-(intOf i).toNat)
   case atStart=>exact ⟨0,Nat.zero_le _,rfl,by simp [kH],(e_ _ _).alloc (ei _) _,by simp,by simp⟩
   case round =>
    rename_i wr
    obtain ⟨k,hk,rfl,rfl,hb,hc⟩:=hrel
    obtain ⟨rZ,rD⟩:=id hc
    by_cases fG:k<kids.length
    ·obtain ⟨bb,o,s',b2,m2,d2,t,rfl,hbb,ht,u0,u1,hr,es,en⟩:=ATK.out k fG
     clear es en
     have q0:=(hb.cell hbb).trans u0
     have q1:=(hb.cell hbb).trans u1
     have rA:=(zX.below (F':=F) hb (fun _ h=>h) hr)
     have hs:=sizeTrs_take ht
     have mH:=dW kids (k+1)
     have ri:=E1.out
     have ED:=gt kids t (List.mem_of_getElem? ht)
     have nz:=HT.out
     have IH':=ed (IH.out t (by omega) (g9 kids HO.out.2 k t ht))
     unfold wG at IH'
     have HS:=ed hs
     have b1:kH (kids.take k)+qY t<=16777216:=by omega
     have hz:=e9 wr _ rZ
     have mX:(k:Int)<(kids.length:Int):=by omega
     clear hs ht ri u0 u1 hr nz ED
     go_wp2_with fail
     (with_reducible refine (IH'.out _ _ _ _ rA).mono ?_)
     rintro en w2 ⟨rfl,fY⟩
     have fE:=zzT hb fY
     obtain ⟨rZ,rD⟩:=id (hc.below fY)
     have Cc:=ed (hc.below fY)
     go_wp2_with fail
     go_roundw
     case rel=>exact ⟨k+1,by omega,by go_num,by rw [HS.out] <;> go_num,fE,Cc.out⟩
     case measure=>simp [intOf];omega
    ·obtain rfl:k=kids.length:=by omega
     rw [List.take_length]
     go_wp2_with fail
     go_ret
     exact ⟨by rw [qY];rfl,hb⟩
theorem l5Size_any (n:Nat):∀ b,(zA b).length<=n->Lim n->qo b->wG b:=by
 induction n with
 | zero=>intro b h hn ho;exact co b ho (hn.mono h) (fun b' h' _=>by omega)
 | succ n ih=>exact fun b h hn ho=>co b ho (hn.mono h) (fun b' h' EG=>ih b' (by omega) (hn.mono (by omega)) EG)
def yM:Tr->Bs
 | .am _=>[]
 | .ls ps=>qI ps
set_option maxRecDepth 100000 in
theorem uG (b:Tr) (ho:qo b) (F:Nat->Prop) (w:World) (s v:Value) (hv:zX F w (jj b) [s,v]) :
 Calls Tryz.prog 37 #[.agg #[s,v]] w fun en w'=>en=.returned (str (yM b))/\Below w.heap.size w w':=by
 obtain ⟨a2,c2,e,hk⟩:=qO hv
 simp only [List.cons.injEq,and_true] at e
 obtain ⟨rfl,rfl⟩:=e
 cases b with
 | am a =>
   have ha:=am_ne ho
   clear hv hk
   simp only [qQ,qd]
   go_enter Tryz.func37,Tryz.ntmps37
   go_wp2_with fail
   go_ret
   exact ⟨by rw [yM];rfl,(e_ _ _).alloc (ei _) _⟩
 | ls kids =>
   simp only [qQ,qd] at hk ⊢
   obtain ⟨_,_,ek,rh⟩:=ud.of hk
   simp only [Value.slice.injEq,true_and] at ek
   obtain ⟨rfl,rfl⟩:=ek
   rw [qo] at ho
   cases kids with
   | nil=>exact absurd rfl ho.1
   | cons p ps =>
     obtain ⟨bb,o,s',b2,m2,d2,t,rfl,hbb,ht,u0,u1,hr,aw,_⟩:=rh 0 (by simp)
     simp only [List.getElem?_cons_zero,Option.some.injEq] at ht
     subst ht
     have HH:=ed (show yM (.ls (p::ps))=s' by rw [aw,yM];cases p <;> rfl)
     simp only [Nat.zero_mul,Nat.add_zero] at u0
     have hl0:0<(p::ps).length:=by simp
     have hl1:(((p::ps).length:Int) == 0)=false:=by rw [beq_eq_false_iff_ne];simp;omega
     generalize (p::ps).length=L at *
     have hl2:(0:Int)<(L:Int):=by omega
     clear rh hk hv ho u1 hr aw
     go_enter Tryz.func37,Tryz.ntmps37
     go_wp2_with fail
     go_ret
     exact ⟨by rw [HH.out];rfl,(e_ _ _).alloc (ei _) _⟩
def xY (b:Tr):Prop:=∀ (F:Nat->Prop) (w:World) (s v:Value),zX F w (jj b) [s,v] ->
 Calls Tryz.prog 39 #[.agg #[s,v]] w fun en w'=>en=.returned (str (zA b))/\Below w.heap.size w w'
def uj (ps:List Tr) (k:Nat):Bs:=[40]++qX (ps.take k)
set_option maxRecDepth 100000 in
theorem ci (b:Tr) (ho:qo b) (hl:Lim (zA b).length) (ih:∀ b',(zA b').length<(zA b).length->qo b'->xY b'):xY b:=by
 intro F w s v hv
 obtain ⟨a2,c2,e,hk⟩:=qO hv
 simp only [List.cons.injEq,and_true] at e
 obtain ⟨rfl,rfl⟩:=e
 cases b with
 | am a =>
   have ha:=am_ne ho
   clear hv hk ih hl
   simp only [qQ,qd]
   go_enter Tryz.func39,Tryz.ntmps39
   go_wp2_with fail
   go_ret
   exact ⟨by rw [zA];rfl,(e_ _ _).alloc (ei _) _⟩
 | ls kids =>
   simp only [qQ,qd] at hk ⊢
   obtain ⟨_,_,ek,rh⟩:=ud.of hk
   simp only [Value.slice.injEq,true_and] at ek
   obtain ⟨rfl,rfl⟩:=ek
   rw [qo] at ho
   have IH:=ed ih;clear ih
   have Er:=uH kids
   have hll:=hl.le
   have nk:kids.length<=16777216:=by have:=bV kids ho.2;omega
   have HO:=ed ho
   have HT:=ed Er
   have ATK:=ed rh
   have HJ:=ed (text_join kids)
   clear rh hk hv Er ho hl
   go_enter Tryz.func39,Tryz.ntmps39
   go_wp2_with fail
   go_loopw [3,4] (fun n i wr=>∃ k:Nat,k<=kids.length/\i=.int .i64 k/\n=str (uj kids k)/\Below w.heap.size w wr/\BoxT w.heap.size [] (.slice a2 kids.length c2) wr) (fun _ i _=>kids.length-(intOf i).toNat)
   case atStart=>exact ⟨0,Nat.zero_le _,rfl,rfl,(e_ _ _).alloc (ei _) _,by simp,by simp⟩
   case round =>
    rename_i wr
    obtain ⟨k,hk,rfl,rfl,hb,hc⟩:=hrel
    obtain ⟨rZ,rD⟩:=id hc
    have Af:(uj kids k).length<=(qX kids).length+1:=by
     have:=join_take_len kids k
     unfold uj;simp;omega
    by_cases fG:k<kids.length
    ·obtain ⟨bb,o,s',b2,m2,d2,t,rfl,hbb,ht,u0,u1,hr,es,en⟩:=ATK.out k fG
     clear es en
     have q0:=(hb.cell hbb).trans u0
     have q1:=(hb.cell hbb).trans u1
     have rA:=(zX.below (F':=F) hb (fun _ h=>h) hr)
     have ED:=gt kids t (List.mem_of_getElem? ht)
     have nz:=HT.out
     have IH':=ed (IH.out t (by omega) (g9 kids HO.out.2 k t ht))
     have hz:=e9 wr _ rZ
     have mX:(k:Int)<(kids.length:Int):=by omega
     have e1:kids.take (k+1)=kids.take k++[t]:=by rw [List.take_add_one,ht];rfl
     by_cases Ae:k=0
     ·have Dl:¬ (0:Int)<(k:Int):=by omega
      have fj:uj kids (k+1)=uj kids k++zA t:=by unfold uj;rw [e1,Ae,List.take_zero,List.nil_append,join_one,qX];simp
      obtain ⟨A,hA⟩:=zzM (uj kids k)
      obtain ⟨T,hT⟩:=zzM (zA t)
      unfold xY at IH'
      rw [<- hA] at fj Af ⊢
      rw [<- hT] at fj ED IH'
      obtain ⟨O,hO⟩:=zzM (A++T)
      have a1:=fun w0=>qR (P:=Tryz.prog) A T (by omega) w0
      rw [<- hO] at a1 fj
      have HS:=ed fj
      clear Ae fj hA hT hO e1 ht u0 u1 hr nz ED
      go_wp2_with fail
      (with_reducible refine (IH'.out _ _ _ _ rA).mono ?_)
      rintro en w2 ⟨rfl,fY⟩
      have fE:=zzT hb fY
      obtain ⟨rZ,rD⟩:=id (hc.below fY)
      have Cc:=ed (hc.below fY)
      go_wp2_with fail
      go_roundw
      case rel=>exact ⟨k+1,by omega,by go_num,by rw [<- HS.out],fE,Cc.out⟩
      case measure=>simp [intOf];omega
     ·have Dl:(0:Int)<(k:Int):=by omega
      have fj:uj kids (k+1)=uj kids k++[32]++zA t:=by unfold uj;rw [e1,join_snoc _ _ (by intro h;have:=congrArg List.length h;rw [List.length_take] at this;simp only [List.length_nil] at this;omega)];simp
      obtain ⟨A,hA⟩:=zzM (uj kids k)
      obtain ⟨T,hT⟩:=zzM (zA t)
      unfold xY at IH'
      rw [<- hA] at fj Af ⊢
      rw [<- hT] at fj ED IH'
      obtain ⟨A1,Kk⟩:=zzM (A++[32])
      have lA1:A1.length=A.length+1:=by rw [Kk];simp
      obtain ⟨O,hO⟩:=zzM (A1++T)
      have a0:=fun w0=>qR (P:=Tryz.prog) A [32] (by simp;omega) w0
      have a1:=fun w0=>qR (P:=Tryz.prog) A1 T (by omega) w0
      rw [<- Kk] at a0 fj
      rw [<- hO] at a1 fj
      have HS:=ed fj
      clear fj hA hT hO Kk lA1 e1 ht u0 u1 hr nz ED
      go_wp2_with fail
      (with_reducible refine (IH'.out _ _ _ _ rA).mono ?_)
      rintro en w2 ⟨rfl,fY⟩
      have fE:=zzT hb fY
      obtain ⟨rZ,rD⟩:=id (hc.below fY)
      have Cc:=ed (hc.below fY)
      go_wp2_with fail
      go_roundw
      case rel=>exact ⟨k+1,by omega,by go_num,by rw [<- HS.out],fE,Cc.out⟩
      case measure=>simp [intOf];omega
    ·obtain rfl:k=kids.length:=by omega
     have hj:zA (.ls kids)=uj kids kids.length++[41]:=by rw [HJ.out];unfold uj;rw [List.take_length]
     have iY:¬ ((kids.length:Int)<(kids.length:Int)):=by omega
     obtain ⟨A,hA⟩:=zzM (uj kids kids.length)
     rw [<- hA] at hj Af ⊢
     obtain ⟨O,hO⟩:=zzM (A++[41])
     have nz:=HT.out
     have a1:=fun w0=>qR (P:=Tryz.prog) A [41] (by simp;omega) w0
     rw [<- hO] at a1 hj
     have HS:=ed hj
     clear hj hA hO nz
     go_wp2_with fail
     go_ret
     exact ⟨by rw [HS.out];rfl,hb⟩
theorem gF (n:Nat):∀ b,(zA b).length<=n->Lim n->qo b->xY b:=by
 induction n with
 | zero=>intro b h hn ho;exact ci b ho (hn.mono h) (fun b' h' _=>by omega)
 | succ n ih=>exact fun b h hn ho=>ci b ho (hn.mono h) (fun b' h' EG=>ih b' (by omega) (hn.mono (by omega)) EG)
theorem TypeValid_any (l:Bs) (hl:Lim l.length) (w:World):Calls Tryz.prog 86 #[str l] w fun en w'=>en=.returned (.bool (zL l).2)/\Below w.heap.size w w':=by
 have C:=ed (xZ l hl w)
 generalize hB:(zL l).2=B
 have HB:=ed hB;clear hB
 go_enter Tryz.func86,Tryz.ntmps86
 go_wp2_with fail
 (with_reducible refine C.out.mono ?_)
 rintro en w1 ⟨v,rfl,hb,hv⟩
 obtain ⟨a1,c1,e1⟩:=kK hv
 subst e1
 clear hv
 rw [HB.out]
 generalize (zL l).1.args.length=n1
 go_wp2_with fail
 refine bodyPost_ret (v:=.bool B) (by simp [results,Tryz.results86,go_sem]) rfl ?_
 exact ⟨rfl,by repeat (first | exact hb | refine Below.alloc ?_ hb.size _ | refine Below.setCell ?_ (by simp;exact hb.size) _)⟩
theorem ud.some {F:Nat->Prop} {w:World} {bs:List Tr} {a:Option Addr} (h:ud F w bs a) (hp:0<bs.length):∃ bb o,a=.some ⟨bb,o,none⟩/\bb<w.heap.size:=by
 obtain ⟨b,o,_,_,_,_,_,e,hb,_⟩:=h 0 hp
 exact ⟨b,o,e,hb⟩
theorem ud.get {F:Nat->Prop} {w:World} {bs:List Tr} {bb o:Nat} (h:ud F w bs (.some ⟨bb,o,none⟩)) {k:Nat} {t:Tr} (ht:bs[k]? = .some t) :
 ∃ a2 c2,w.cell? ⟨bb,o+k*2,none⟩=.some (str (qQ t))/\w.cell? ⟨bb,o+k*2+1,none⟩=.some (.slice a2 (qd t).length c2)/\zX F w (jj t) [str (qQ t),.slice a2 (qd t).length c2]:=by
 obtain ⟨b,o',s,a2,n2,c2,d,e,hb,hd,u0,u1,hr,es,en⟩:=h k (List.getElem?_eq_some_iff.1 ht).1
 simp only [Option.some.injEq,Addr.mk.injEq,and_true] at e
 obtain ⟨rfl,rfl⟩:=e
 rw [ht] at hd
 obtain rfl:=Option.some.inj hd
 subst es;subst en
 exact ⟨a2,c2,u0,u1,hr⟩
theorem isTr_no3 {ps:List Tr} (h:qI ps=vN) (hl:ps.length≠3):qS (.ls ps)=false:=by
 match ps with
 | []=>exact (qS.eq_def _).trans rfl
 | [a]=>exact (qS.eq_def _).trans rfl
 | [a,b]=>exact (qS.eq_def _).trans rfl
 | [a,b,c]=>simp at hl
 | [a,b,c,d] =>
   have h':qI [a]=vN:=by cases a <;> exact h
   rw [qS,h'];rfl
 | a::b::c::d::e::ps=>exact (qS.eq_def _).trans rfl
theorem isTr_no4 {ps:List Tr} (h:qI ps=jI\/qI ps=ifW) (hl:ps.length≠4):qS (.ls ps)=false:=by
 match ps with
 | []=>exact (qS.eq_def _).trans rfl
 | [a]=>exact (qS.eq_def _).trans rfl
 | [a,b]=>exact (qS.eq_def _).trans rfl
 | [a,b,c] =>
   have h':qI [a]=jI\/qI [a]=ifW:=by cases a <;> exact h
   rw [qS]
   rcases h' with h' | h' <;> (rw [h'];rfl)
 | [a,b,c,d]=>simp at hl
 | a::b::c::d::e::ps=>exact (qS.eq_def _).trans rfl
theorem isTr_noW {ps:List Tr} (h1:qI ps≠jI) (h2:qI ps≠vN) (h3:qI ps≠ifW):qS (.ls ps)=false:=by
 match ps with
 | []=>exact (qS.eq_def _).trans rfl
 | [a]=>exact (qS.eq_def _).trans rfl
 | [a,b]=>exact (qS.eq_def _).trans rfl
 | [a,b,c] =>
   have h':qI [a]≠vN:=by cases a <;> exact h2
   rw [qS,beq_false_of_ne h'];rfl
 | [a,b,c,d] =>
   have h':qI [a]≠jI:=by cases a <;> exact h1
   have h'':qI [a]≠ifW:=by cases a <;> exact h3
   rw [qS,beq_false_of_ne h',beq_false_of_ne h''];rfl
 | a::b::c::d::e::ps=>exact (qS.eq_def _).trans rfl
theorem isTr_lam {a b c d:Tr} (h:qI [a,b,c,d]=jI):qS (.ls [a,b,c,d])=(qG (qQ b) && (zL (zA c)).2 && qS d):=by
 have h':qI [a]=jI:=by cases a <;> exact h
 rw [qS,h']
 have e1:(jI == jI)=true:=by decide
 have e2:(jI == ifW)=false:=by decide
 rw [e1,e2,Bool.true_and,Bool.false_and,Bool.or_false,Bool.and_assoc]
theorem isTr_if {a b c d:Tr} (h:qI [a,b,c,d]=ifW):qS (.ls [a,b,c,d])=(qS b && qS c && qS d):=by
 have h':qI [a]=ifW:=by cases a <;> exact h
 rw [qS,h']
 have e1:(ifW == jI)=false:=by decide
 have e2:(ifW == ifW)=true:=by decide
 rw [e1,e2,Bool.true_and,Bool.false_and,Bool.false_or]
theorem isTr_app {a b c:Tr} (h:qI [a,b,c]=vN):qS (.ls [a,b,c])=(qS b && qS c):=by
 have h':qI [a]=vN:=by cases a <;> exact h
 rw [qS,h']
 have e2:(vN == vN)=true:=by decide
 rw [e2,Bool.true_and]
def b7 (b:Tr):Prop:=∀ (F:Nat->Prop) (w:World) (s v:Value),zX F w (jj b) [s,v] ->
 Calls Tryz.prog 62 #[.agg #[s,v]] w fun en w'=>en=.returned (.bool (qS b))/\Below w.heap.size w w'
structure PartAt (F:Nat->Prop) (w:World) (bb o k:Nat) (t:Tr) (a2:Option Addr) (c2:Nat):Prop where
 blk:bb<w.heap.size
 c0:w.cell? ⟨bb,o+k,none⟩=.some (str (qQ t))
 c1:w.cell? ⟨bb,o+(k+1),none⟩=.some (.slice a2 (qd t).length c2)
 rp:zX F w (jj t) [str (qQ t),.slice a2 (qd t).length c2]
theorem PartAt.below {F:Nat->Prop} {w w':World} {bb o k:Nat} {t:Tr} {a2:Option Addr} {c2:Nat} (h:PartAt F w bb o k t a2 c2) (hb:Below w.heap.size w w'):PartAt F w' bb o k t a2 c2 :=
 ⟨fK h.blk hb.size,(hb.cell (by exact h.blk)).trans h.c0,(hb.cell (by exact h.blk)).trans h.c1,zX.below hb (fun _ h=>h) h.rp⟩
theorem ud.part {F:Nat->Prop} {w:World} {bs:List Tr} {bb o:Nat} (h:ud F w bs (.some ⟨bb,o,none⟩)) (hb:bb<w.heap.size) {k:Nat} {t:Tr} (ht:bs[k]? = .some t):∃ a2 c2,PartAt F w bb o (k*2) t a2 c2:=by
 obtain ⟨a2,c2,u0,u1,hr⟩:=h.get ht
 exact ⟨a2,c2,hb,u0,u1,hr⟩
set_option maxRecDepth 100000 in
theorem l5Is_step (b:Tr) (ho:qo b) (hl:Lim (zA b).length) (ih:∀ b',(zA b').length<(zA b).length->qo b'->b7 b'):b7 b:=by
 intro F w s v hv
 have hvv:=ed hv
 have CH:=ed (fun wz (hb:Below w.heap.size w wz)=>uG b ho F wz s v (zX.below hb (fun _ h=>h) hvv.out))
 obtain ⟨a2,c2,e,hk⟩:=qO hv
 simp only [List.cons.injEq,and_true] at e
 obtain ⟨rfl,rfl⟩:=e
 cases b with
 | am a =>
   have ha:=am_ne ho
   have hla:Lim a.length:=hl.mono (by rw [zA];exact ei _)
   have CN:=ed (fun wz=>eZ a wz hla)
   have HI:=ed (show qS (.am a)=(qy a || qG a) by rw [qS])
   clear hv hk ih hl hla CH hvv ho
   simp only [qQ,qd]
   by_cases h1:a=[116]
   ·subst h1
    go_enter Tryz.func62,Tryz.ntmps62
    go_wp2_with fail
    go_ret
    exact ⟨by rw [HI.out];rfl,(e_ _ _).alloc (ei _) _⟩
   by_cases h2:a=[102]
   ·subst h2
    go_enter Tryz.func62,Tryz.ntmps62
    go_wp2_with fail
    go_ret
    exact ⟨by rw [HI.out];rfl,(e_ _ _).alloc (ei _) _⟩
   by_cases h3:a=[117]
   ·subst h3
    go_enter Tryz.func62,Tryz.ntmps62
    go_wp2_with fail
    go_ret
    exact ⟨by rw [HI.out];rfl,(e_ _ _).alloc (ei _) _⟩
   have n1:(a == [116])=false:=by rw [beq_eq_false_iff_ne];exact h1
   have n2:(a == [102])=false:=by rw [beq_eq_false_iff_ne];exact h2
   have n3:(a == [117])=false:=by rw [beq_eq_false_iff_ne];exact h3
   have HL:=ed (show qy a=false by simp [qy,n1,n2,n3])
   clear h1 h2 h3
   go_enter Tryz.func62,Tryz.ntmps62
   go_wp2_with fail
   (with_reducible refine (CN.out _).mono ?_)
   rintro en w1 ⟨rfl,e⟩
   subst w1
   go_wp2_with fail
   go_ret
   exact ⟨by rw [HI.out,HL.out];rfl,(e_ _ _).alloc (ei _) _⟩
 | ls kids =>
   simp only [qQ,qd] at hk CH hvv ⊢
   obtain ⟨_,_,ek,rh⟩:=ud.of hk
   simp only [Value.slice.injEq,true_and] at ek
   obtain ⟨rfl,rfl⟩:=ek
   rw [qo] at ho
   have IH:=ed ih;clear ih
   have hp0:0<kids.length:=List.length_pos_iff.2 ho.1
   obtain ⟨bb,o,rfl,hbb⟩:=rh.some hp0
   have HO:=ed ho
   have HT:=ed (ef (uH kids) hl)
   have ATK:=ed rh
   have aJ:kids.length<=16777216:=by have:=bV kids ho.2;have:=uH kids;have:=hl.le;omega
   have sub:∀ (t:Tr),t∈kids->qo t/\Lim (zA t).length/\b7 t:=fun t ht=>by
    obtain ⟨k,hk⟩:=List.getElem?_of_mem ht
    have h1:=g9 kids HO.out.2 k t hk
    have h2:=gt kids t ht
    have h3:=HT.out.1
    have h4:=HT.out.2.le
    exact ⟨h1,(show _<=_ by omega),IH.out t (by omega) h1⟩
   have SUB:=ed sub
   have tB:BoxT w.heap.size [] (.slice (.some ⟨bb,o,none⟩) kids.length c2) (w.alloc (.cells #[str [],.slice (.some ⟨bb,o,none⟩) kids.length c2] 40)):=⟨by simp,by simp⟩
   have HBX:=ed tB
   have nZ:Hid (Below w.heap.size w (w.alloc (.cells #[str [],.slice (.some ⟨bb,o,none⟩) kids.length c2] 40))):=(e_ _ _).alloc (ei _) _
   clear rh hk hv hvv ho hl sub tB
   go_enter Tryz.func62,Tryz.ntmps62
   go_wp2_with fail
   (with_reducible refine (CH.out _ nZ.out).mono ?_)
   rintro en w1 ⟨rfl,fP⟩
   have JW:Below w.heap.size w w1:=zzT nZ.out fP
   have rM:=ed (HBX.out.below fP)
   have fI:=ed JW
   clear fP JW HBX nZ CH
   obtain ⟨hd,EJ⟩:=zzM (yM (.ls kids))
   rw [<- EJ]
   have HD:Hid (qI kids=hd):=EJ.symm
   clear EJ
   have nl:(4:Int)=(kids.length:Int)\/¬ (4:Int)=(kids.length:Int):=by omega
   by_cases rI:hd=jI
   ·have q0:(hd == [108,97,109])=true:=by rw [beq_iff_eq];exact rI
    have HL:=ed rI;clear rI
    obtain ⟨x0,x1⟩:=rM.out
    by_cases h4:kids.length=4
    ·obtain ⟨p0,p1,p2,p3,rfl⟩:∃ a b c d,kids=[a,b,c,d]:=by
      match kids,h4 with
      | [a,b,c,d],_=>exact ⟨a,b,c,d,rfl⟩
     obtain ⟨a1,k1,P1⟩:=(ATK.out.part hbb (k:=1) (t:=p1) rfl).imp fun _ h=>h
     obtain ⟨a3,k3,P2⟩:=(ATK.out.part hbb (k:=2) (t:=p2) rfl).imp fun _ h=>h
     obtain ⟨a5,k5,P3⟩:=(ATK.out.part hbb (k:=3) (t:=p3) rfl).imp fun _ h=>h
     have HI:=ed (isTr_lam (a:=p0) (b:=p1) (c:=p2) (d:=p3) (by rw [HD.out,HL.out]))
     have S1:=ed (SUB.out p1 (by simp));have S2:=ed (SUB.out p2 (by simp));have S3:=ed (SUB.out p3 (by simp))
     have PP:=ed (ef P1 (ef P2 P3))
     have lat:Lim (qQ p1).length:=by
      cases p1 with
      | am a=>have:=S1.out.2.1;rw [zA] at this;exact this
      | ls ps=>exact Nat.zero_le _
     have CN:=ed (fun wz=>eZ (qQ p1) wz lat)
     obtain ⟨y0,y1⟩:=ef (P1.below fI.out).c0 (P1.below fI.out).c1
     have fh:=(P1.below fI.out).blk
     have aQ:(([p0,p1,p2,p3]:List Tr).length:Nat)=4:=rfl
     rw [aQ] at x1 ⊢
     simp only [Nat.one_mul,Nat.reduceMul,Nat.reduceAdd] at y0 y1
     clear P1 P2 P3 h4 aQ lat aJ hp0 nl
     go_wp2_with fail
     (with_reducible refine (CN.out _).mono ?_)
     rintro en w2 ⟨rfl,e⟩
     subst w2
     cases hn:qG (qQ p1) with
     | false =>
       have HN:=ed hn;clear hn
       go_wp2_with fail
       go_ret
       exact ⟨by rw [HI.out,HN.out];rfl,fI.out⟩
     | true =>
       have HN:=ed hn;clear hn
       have P2:=PP.out.2.1.below fI.out
       have CT:=ed (gF _ p2 (ei _) S2.out.2.1 S2.out.1 F w1 _ _ P2.rp)
       obtain ⟨y2,y3⟩:=ef P2.c0 P2.c1
       simp only [Nat.one_mul,Nat.reduceMul,Nat.reduceAdd] at y2 y3
       clear P2 y0 y1
       go_wp2_with fail
       (with_reducible refine CT.out.mono ?_)
       rintro en w2 ⟨rfl,fY⟩
       have fL:=ed (zzT fI.out fY)
       have Ho:=ed (rM.out.below fY)
       have CV:=ed (TypeValid_any (zA p2) S2.out.2.1 w2)
       clear fY x0 x1 y2 y3 fh
       go_wp2_with fail
       (with_reducible refine CV.out.mono ?_)
       rintro en w3 ⟨rfl,fE⟩
       have mp:=ed (zzT fL.out fE)
       have HX3:=ed (Ho.out.below fE)
       clear fE
       cases hv:(zL (zA p2)).2 with
       | false =>
         have HV:=ed hv;clear hv
         go_wp2_with fail
         go_ret
         exact ⟨by rw [HI.out,HN.out,HV.out];rfl,mp.out⟩
       | true =>
         have HV:=ed hv;clear hv
         have P3:=PP.out.2.2.below mp.out
         have CI:=ed (S3.out.2.2 F w3 _ _ P3.rp)
         obtain ⟨x0,x1⟩:=HX3.out
         obtain ⟨y2,y3⟩:=ef P3.c0 P3.c1
         have fh:=P3.blk
         have aQ:(([p0,p1,p2,p3]:List Tr).length:Nat)=4:=rfl
         rw [aQ] at x1
         simp only [Nat.one_mul,Nat.reduceMul,Nat.reduceAdd] at y2 y3
         clear P3 aQ
         go_wp2_with fail
         (with_reducible refine CI.out.mono ?_)
         rintro en w4 ⟨rfl,fx⟩
         go_wp2_with fail
         go_ret
         exact ⟨by rw [HI.out,HN.out,HV.out];rfl,zzT mp.out fx⟩
    ·have hne:((kids.length:Int) == 4)=false:=by rw [beq_eq_false_iff_ne];omega
     have HI:=ed (isTr_no4 (.inl (by rw [HD.out,HL.out])) h4)
     clear h4
     go_wp2_with fail
     go_ret
     exact ⟨by rw [HI.out];rfl,fI.out⟩
   have q0:(hd == [108,97,109])=false:=by rw [beq_eq_false_iff_ne];exact rI
   by_cases oS:hd=vN
   ·have q1:(hd == [97,112,112])=true:=by rw [beq_iff_eq];exact oS
    have HL:=ed oS;clear oS rI
    obtain ⟨x0,x1⟩:=rM.out
    by_cases h4:kids.length=3
    ·obtain ⟨p0,p1,p2,rfl⟩:∃ a b c,kids=[a,b,c]:=by
      match kids,h4 with
      | [a,b,c],_=>exact ⟨a,b,c,rfl⟩
     obtain ⟨a1,k1,P1⟩:=(ATK.out.part hbb (k:=1) (t:=p1) rfl).imp fun _ h=>h
     obtain ⟨a3,k3,P2⟩:=(ATK.out.part hbb (k:=2) (t:=p2) rfl).imp fun _ h=>h
     have HI:=ed (isTr_app (a:=p0) (b:=p1) (c:=p2) (by rw [HD.out,HL.out]))
     have S1:=ed (SUB.out p1 (by simp));have S2:=ed (SUB.out p2 (by simp))
     have PP:=ed (ef P1 P2)
     have CI1:=ed (S1.out.2.2 F w1 _ _ (P1.below fI.out).rp)
     obtain ⟨y0,y1⟩:=ef (P1.below fI.out).c0 (P1.below fI.out).c1
     have fh:=(P1.below fI.out).blk
     have aQ:(([p0,p1,p2]:List Tr).length:Nat)=3:=rfl
     rw [aQ] at x1 ⊢
     simp only [Nat.one_mul,Nat.reduceMul,Nat.reduceAdd] at y0 y1
     clear P1 P2 h4 aQ aJ hp0 nl
     go_wp2_with fail
     (with_reducible refine CI1.out.mono ?_)
     rintro en w2 ⟨rfl,fY⟩
     have fL:=ed (zzT fI.out fY)
     have Ho:=ed (rM.out.below fY)
     clear fY x0 x1 y0 y1 fh
     cases hn:qS p1 with
     | false =>
       have HN:=ed hn;clear hn
       go_wp2_with fail
       go_ret
       exact ⟨by rw [HI.out,HN.out];rfl,fL.out⟩
     | true =>
       have HN:=ed hn;clear hn
       have P2:=PP.out.2.below fL.out
       have CI2:=ed (S2.out.2.2 F w2 _ _ P2.rp)
       obtain ⟨x0,x1⟩:=Ho.out
       obtain ⟨y2,y3⟩:=ef P2.c0 P2.c1
       have fh:=P2.blk
       have aQ:(([p0,p1,p2]:List Tr).length:Nat)=3:=rfl
       rw [aQ] at x1
       simp only [Nat.one_mul,Nat.reduceMul,Nat.reduceAdd] at y2 y3
       clear P2 aQ
       go_wp2_with fail
       (with_reducible refine CI2.out.mono ?_)
       rintro en w4 ⟨rfl,fx⟩
       go_wp2_with fail
       go_ret
       exact ⟨by rw [HI.out,HN.out];rfl,zzT fL.out fx⟩
    ·have hne:((kids.length:Int) == 3)=false:=by rw [beq_eq_false_iff_ne];omega
     have HI:=ed (isTr_no3 (by rw [HD.out,HL.out]) h4)
     clear h4
     go_wp2_with fail
     go_ret
     exact ⟨by rw [HI.out];rfl,fI.out⟩
   have q1:(hd == [97,112,112])=false:=by rw [beq_eq_false_iff_ne];exact oS
   by_cases G3:hd=ifW
   ·have q2:(hd == [105,102])=true:=by rw [beq_iff_eq];exact G3
    have HL:=ed G3;clear G3 oS rI
    obtain ⟨x0,x1⟩:=rM.out
    by_cases h4:kids.length=4
    ·obtain ⟨p0,p1,p2,p3,rfl⟩:∃ a b c d,kids=[a,b,c,d]:=by
      match kids,h4 with
      | [a,b,c,d],_=>exact ⟨a,b,c,d,rfl⟩
     obtain ⟨a1,k1,P1⟩:=(ATK.out.part hbb (k:=1) (t:=p1) rfl).imp fun _ h=>h
     obtain ⟨a3,k3,P2⟩:=(ATK.out.part hbb (k:=2) (t:=p2) rfl).imp fun _ h=>h
     obtain ⟨a5,k5,P3⟩:=(ATK.out.part hbb (k:=3) (t:=p3) rfl).imp fun _ h=>h
     have HI:=ed (isTr_if (a:=p0) (b:=p1) (c:=p2) (d:=p3) (by rw [HD.out,HL.out]))
     have S1:=ed (SUB.out p1 (by simp));have S2:=ed (SUB.out p2 (by simp));have S3:=ed (SUB.out p3 (by simp))
     have PP:=ed (ef P1 (ef P2 P3))
     have CI1:=ed (S1.out.2.2 F w1 _ _ (P1.below fI.out).rp)
     obtain ⟨y0,y1⟩:=ef (P1.below fI.out).c0 (P1.below fI.out).c1
     have fh:=(P1.below fI.out).blk
     have aQ:(([p0,p1,p2,p3]:List Tr).length:Nat)=4:=rfl
     rw [aQ] at x1 ⊢
     simp only [Nat.one_mul,Nat.reduceMul,Nat.reduceAdd] at y0 y1
     clear P1 P2 P3 h4 aQ aJ hp0 nl
     go_wp2_with fail
     (with_reducible refine CI1.out.mono ?_)
     rintro en w2 ⟨rfl,fY⟩
     have fL:=ed (zzT fI.out fY)
     have Ho:=ed (rM.out.below fY)
     clear fY x0 x1 y0 y1 fh
     cases hn:qS p1 with
     | false =>
       have HN:=ed hn;clear hn
       go_wp2_with fail
       go_ret
       exact ⟨by rw [HI.out,HN.out];rfl,fL.out⟩
     | true =>
       have HN:=ed hn;clear hn
       have P2:=PP.out.2.1.below fL.out
       have CI2:=ed (S2.out.2.2 F w2 _ _ P2.rp)
       obtain ⟨x0,x1⟩:=Ho.out
       obtain ⟨y2,y3⟩:=ef P2.c0 P2.c1
       have fh:=P2.blk
       have aQ:(([p0,p1,p2,p3]:List Tr).length:Nat)=4:=rfl
       rw [aQ] at x1
       simp only [Nat.one_mul,Nat.reduceMul,Nat.reduceAdd] at y2 y3
       clear P2 aQ
       go_wp2_with fail
       (with_reducible refine CI2.out.mono ?_)
       rintro en w4 ⟨rfl,fx⟩
       have sQ:=ed (zzT fL.out fx)
       have HX4:=ed (Ho.out.below fx)
       clear fx x0 x1 y2 y3 fh
       cases sZ:qS p2 with
       | false =>
         have KN:=ed sZ;clear sZ
         go_wp2_with fail
         go_ret
         exact ⟨by rw [HI.out,HN.out,KN.out];rfl,sQ.out⟩
       | true =>
         have KN:=ed sZ;clear sZ
         have P3:=PP.out.2.2.below sQ.out
         have CI3:=ed (S3.out.2.2 F w4 _ _ P3.rp)
         obtain ⟨x0,x1⟩:=HX4.out
         obtain ⟨y2,y3⟩:=ef P3.c0 P3.c1
         have fh:=P3.blk
         have aQ:(([p0,p1,p2,p3]:List Tr).length:Nat)=4:=rfl
         rw [aQ] at x1
         simp only [Nat.one_mul,Nat.reduceMul,Nat.reduceAdd] at y2 y3
         clear P3 aQ
         go_wp2_with fail
         (with_reducible refine CI3.out.mono ?_)
         rintro en w5 ⟨rfl,fv⟩
         go_wp2_with fail
         go_ret
         exact ⟨by rw [HI.out,HN.out,KN.out];rfl,zzT sQ.out fv⟩
    ·have hne:((kids.length:Int) == 4)=false:=by rw [beq_eq_false_iff_ne];omega
     have HI:=ed (isTr_no4 (.inr (by rw [HD.out,HL.out])) h4)
     clear h4
     go_wp2_with fail
     go_ret
     exact ⟨by rw [HI.out];rfl,fI.out⟩
   have q2:(hd == [105,102])=false:=by rw [beq_eq_false_iff_ne];exact G3
   have HI:=ed (isTr_noW (by rw [HD.out];exact rI) (by rw [HD.out];exact oS) (by rw [HD.out];exact G3))
   clear rI oS G3
   go_wp2_with fail
   go_ret
   exact ⟨by rw [HI.out];rfl,fI.out⟩
theorem l5Is_any (n:Nat):∀ b,(zA b).length<=n->Lim n->qo b->b7 b:=by
 induction n with
 | zero=>intro b h hn ho;exact l5Is_step b ho (hn.mono h) (fun b' h' _=>by omega)
 | succ n ih=>exact fun b h hn ho=>l5Is_step b ho (hn.mono h) (fun b' h' EG=>ih b' (by omega) (hn.mono (by omega)) EG)
def gr (e:Nat) (m:Bs):Option (List Tr×Bs):=yH (jf e) (m.length+1) m
theorem rdAll_eq (e:Nat) (m:Bs):gr e m=(jf e m).bind fun x=>match x.2 with
 | []=>none
 | c::r=>if c=41 then some ([x.1],r) else if c=32 then (gr e r).map fun y=>(x.1::y.1,y.2) else none:=by
 unfold gr
 rw [yH]
 cases h:jf e m with
 | none=>rfl
 | some x =>
   obtain ⟨t,r1⟩:=x
   simp only [Option.bind_some]
   cases r1 with
   | nil=>rfl
   | cons c r =>
     have hl:=uO e _ _ _ h
     simp only [List.length_cons] at hl
     simp only
     rw [da (uO e) m.length (r.length+1) r (by omega) (by omega)]
theorem rdTr_all (e:Nat) (r:Bs):jf (e+1) (40::r)=(gr e r).map fun y=>(.ls y.1,y.2):=pM e r
theorem rdTr_suffix {e:Nat} {m r:Bs} {t:Tr} (h:jf e m=some (t,r)):r <:+ m:=by
 obtain ⟨e1,_⟩:=y9 e m t r h
 exact ⟨_,e1.symm⟩
def vy (L:Nat) (w:World) (o:Option (Tr×Bs)) (en:Ending) (w':World):Prop :=
 ∃ (s:Bs) (a:Option Addr) (n c:Nat) (k:Int),en=.returned (.tuple #[.agg #[str s,.slice a n c],.int .i64 k])/\Below w.heap.size w w'/\(o=none->k = -1) /\
   (∀ t rest,o=some (t,rest)->k=(L:Int)-rest.length/\zX (w.heap.size<=·) w' (jj t) [str s,.slice a n c])
theorem vy.no {L:Nat} {w w':World} {o:Option (Tr×Bs)} {s:Bs} {a:Option Addr} {n c:Nat} (ho:o=.none) (hb:Below w.heap.size w w'):vy L w o (.returned (.tuple #[.agg #[str s,.slice a n c],.int .i64 (-1)])) w' :=
 ⟨s,a,n,c,_,rfl,hb,fun _=>rfl,fun _ _ h=>by rw [ho] at h;simp at h⟩
theorem vy.yes {L:Nat} {w w':World} {o:Option (Tr×Bs)} {t:Tr} {rest s:Bs} {a:Option Addr} {n c:Nat} {k:Int} (ho:o=.some (t,rest)) (hk:k=(L:Int)-rest.length) (hb:Below w.heap.size w w')
 (hv:zX (w.heap.size<=·) w' (jj t) [str s,.slice a n c]):vy L w o (.returned (.tuple #[.agg #[str s,.slice a n c],.int .i64 k])) w' :=
 ⟨s,a,n,c,k,rfl,hb,fun h=>by rw [ho] at h;simp at h,fun _ _ h=>by rw [ho] at h;simp at h;obtain ⟨rfl,rfl⟩:=h;exact ⟨hk,hv⟩⟩
def TrSaid (l:Bs) (e:Nat):Prop:=∀ (d i:Nat) (w:World),e+d=101->i<=l.length ->
    Calls Tryz.prog 61 #[str l,.int .i64 i,.int .i64 d] w (vy l.length w (jf e (l.drop i)))
def jl (ob:Nat) (s:Bs) (slv:Value) (w:World):Prop:=w.heap[ob]? = some (.cells #[str s,slv] 40 (0,0))
theorem jl.cells {ob:Nat} {s:Bs} {sl:Value} {w:World} (h:jl ob s sl w):w.cell? ⟨ob,0,none⟩=some (str s)/\w.cell? ⟨ob,1,none⟩=some sl/\ob<w.heap.size/\(∀ o,w.frozen? ⟨ob,o,none⟩=false):=by
 have hl:=zZ h
 unfold jl at h
 exact ⟨by simp [World.cell?,h],by simp [World.cell?,h],hl,fun o=>by simp [World.frozen?,h]⟩
theorem jl.put1 {ob:Nat} {s:Bs} {sl u:Value} {w:World} (h:jl ob s sl w):jl ob s u (w.setCell ⟨ob,1,none⟩ u):=by
 unfold jl;rw [zy h];rfl
theorem jl.below {ob:Nat} {s:Bs} {sl:Value} {w w':World} {B:Nat} (h:jl ob s sl w) (hb:Below B w w') (hm:ob<B):jl ob s sl w':=by
 unfold jl;rw [hb.block ob hm];exact h
theorem jl.store {ob:Nat} {s:Bs} {sl:Value} {w:World} (h:jl ob s sl w) (u0 u1:Value) :
 ∃ W,W=((w.setCell ⟨ob,0,none⟩ u0).setCell ⟨ob,1,none⟩ u1)/\W.cell? ⟨ob,0,none⟩=some u0/\W.cell? ⟨ob,1,none⟩=some u1 /\
   (∀ B w0,Below B w0 w->B<=ob->Below B w0 W)/\(∀ i x,i≠ob->w.heap[i]? = some x->W.heap[i]? = some x):=by
 have hc:((w.setCell ⟨ob,0,none⟩ u0).setCell ⟨ob,1,none⟩ u1).heap[ob]? = some (.cells #[u0,u1] 40 (0,0)):=by
  unfold jl at h
  rw [zy (zy h)];rfl
 refine ⟨_,rfl,by simp only [World.cell?,hc];rfl,by simp only [World.cell?,hc];rfl,fun B w0 hb hB=>?_,fun i x hi hx=>?_⟩
 ·exact ((hb.setCell (p:=⟨ob,0,none⟩) hB _).setCell (p:=⟨ob,1,none⟩) hB _)
 ·rw [fZ _ _ _ _ (by simpa using hi),fZ _ _ _ _ (by simpa using hi)];exact hx
theorem zO.lit2 {w:World} {e:TypeId} (cs:Array Value) (hn:cs.size=2) (hc:∀ u∈cs.toList,u.oneCell'=true) (g:Nat) (hg:g=w.heap.size):zO 2 (.slice (some ⟨g,0,none⟩) 1 1) 1 cs.toList (w.alloc (.cells cs e)):=by
 subst hg
 refine ⟨by simp [hn],hc,.inl ⟨_,_,rfl,fun j u hu=>?_⟩⟩
 unfold Addr.add
 split
 ·subst j;simp;simpa using hu
 ·simp;simpa using hu
theorem word_in {m:Bs} {j:Nat} (h:j<(zu m).length):∃ hm:j<m.length,sep m[j]=false:=by
 have mH:=xX m
 have hm:j<m.length:=by omega
 refine ⟨hm,?_⟩
 have h1:m[j]=(zu m)[j]:=by
  have e:=yV m
  have:m[j]? = (zu m)[j]?:=by conv=>lhs;rw [<- e]
                              rw [List.getElem?_append_left h]
  rw [List.getElem?_eq_getElem hm,List.getElem?_eq_getElem h] at this
  exact Option.some.inj this
 rw [h1]
 have:=tw_all (fun c=>!sep c) m _ (List.getElem_mem h)
 simpa using this
theorem word_out {m:Bs} (h:(zu m).length<m.length):sep m[(zu m).length]=true:=by
 have h2:(!sep m[(zu m).length])=false:=tw_end (fun c=>!sep c) m h
 simpa using h2
structure eI (w:World) (ob Z:Nat) (wr:World) (ps:List Tr) (vs:List Value) (sl:Value):Prop where
 below:Below w.heap.size w wr
 res:jl w.heap.size [] (.slice none 0 0) wr
 out:jl ob [] sl wr
 own:Own wr 40 2 sl ps.length vs
 blk:∀ g,sl.ownBlock=some g->Z<=g
 rep:zX (fun b=>Z<=b/\sl.ownBlock≠some b) wr (jw ps) vs
 z:Z<=wr.heap.size
theorem eI.next {w:World} {ob Z:Nat} {wr:World} {ps:List Tr} {vs:List Value} {sl:Value} (h:eI w ob Z wr ps vs sl) (Dh:ob<Z) (hwo:w.heap.size<ob) {W w7:World} {t:Tr} {cs:List Value} {a':Option Addr} {c':Nat}
 (fC:Below wr.heap.size wr W) (hcs:zX (wr.heap.size<=·) W (jj t) cs) (fp:Own w7 40 2 (.slice a' (ps.length+1) c') (ps.length+1) (vs++cs)) (fW:But (fun i=>sl.ownBlock=some i) W w7)
 (fR:∀ g,(Value.slice a' (ps.length+1) c').ownBlock=some g->sl.ownBlock=some g\/g=W.heap.size) :
 eI w ob Z (w7.setCell ⟨ob,1,none⟩ (.slice a' (ps.length+1) c')) (ps++[t]) (vs++cs) (.slice a' (ps.length+1) c'):=by
 have z6:=fC.size
 have z7:=fW.size
 have zr:=h.z
 have keep:∀ i x,wr.heap[i]? = some x->sl.ownBlock≠some i->i≠ob->(w7.setCell ⟨ob,1,none⟩ (.slice a' (ps.length+1) c')).heap[i]? = some x:=by
  intro i x hx h1 h2
  have:=zZ hx
  rw [fZ _ _ _ _ (by simpa using h2),fW.block i (by omega) h1,fC.block i this];exact hx
 have mh:∀ i x,W.heap[i]? = some x->sl.ownBlock≠some i->i≠ob->(w7.setCell ⟨ob,1,none⟩ (.slice a' (ps.length+1) c')).heap[i]? = some x:=by
  intro i x hx h1 h2
  have:=zZ hx
  rw [fZ _ _ _ _ (by simpa using h2),fW.block i (by omega) h1];exact hx
 have ltK:∀ g,sl.ownBlock=some g->g<wr.heap.size:=fun g hg=>h.own.lt hg
 have nK:∀ i,i<Z->sl.ownBlock≠some i:=fun i hi e=>by have:=h.blk i e;omega
 have newg:∀ g,(Value.slice a' (ps.length+1) c').ownBlock=some g->Z<=g:=fun g hg=>by
  rcases fR g hg with e | e
  ·exact h.blk g e
  ·omega
 refine ⟨?_,?_,?_,?_,newg,?_,by simp [World.setCell];omega⟩
 ·refine Below.setCell ?_ (show w.heap.size<=ob by omega) _
  exact (zzT h.below fC).trans (fW.toBelow (by have:=h.below.size;omega) fun i hi e=>nK i (by omega) e)
 ·exact keep _ _ h.res (nK _ (by omega)) (by omega)
 ·have h1:jl ob [] sl w7:=by
   unfold jl;rw [fW.block ob (by omega) (nK _ Dh),fC.block ob (by omega)];exact h.out
  exact h1.put1
 ·rw [show (ps++[t]).length=ps.length+1 from by simp]
  exact fp.keep fun g o hg ho=>by rw [fZ _ _ _ _ (by have:=newg g hg;simp;omega)];exact ho
 ·rw [xS]
  refine zX.append ?_ ?_
  ·refine (Rep.keep fun x o hx ho=>⟨⟨hx.1,fun e=>?_⟩,?_⟩).2 _ _ h.rep
   ·exact keep x o ho hx.2 (by have:=hx.1;omega)
   ·rcases fR x e with e' | e'
    ·exact hx.2 e'
    ·have:=zZ ho;omega
  ·have e1:jw [t]=jj t:=by simp [jw]
   rw [e1]
   refine (Rep.keep fun x o hx ho=>⟨⟨by have:=hx;omega,fun e=>?_⟩,?_⟩).2 _ _ hcs
   ·exact mh x o ho (fun e=>by have:=ltK x e;have:=hx;omega) (by have:=hx;omega)
   ·rcases fR x e with e' | e'
    ·have:=ltK x e';have:=hx;omega
    ·have:=zZ ho;omega
set_option maxRecDepth 100000 in
theorem h_ (l:Bs) (hl:Lim l.length) (e d:Nat) (AG:e+d=101) (i:Nat) (w:World) (hi:i<=l.length) (sL:∀ h:i<l.length,e=0\/¬ l[i]=40) :
 Calls Tryz.prog 61 #[str l,.int .i64 i,.int .i64 d] w (vy l.length w (jf e (l.drop i))):=by
 have tH:=hl.le
 rcases e with _ | e
 ·have oB:(100:Int)<(d:Int):=by omega
  clear sL
  go_enter Tryz.func61,Tryz.ntmps61
  go_wp2_with fail
  refine bodyPost_ret (v:=.tuple #[.agg #[str [],.slice none 0 0],.int .i64 (-1)]) (by simp [results,Tryz.results61,go_sem]) rfl ?_
  exact vy.no (by rfl) (((e_ _ _).alloc (ei _) _).alloc (by simp) _)
 have lX:¬ (100:Int)<(d:Int):=by omega
 by_cases fG:i<l.length
 rotate_left
 ·clear sL
  go_enter Tryz.func61,Tryz.ntmps61
  go_wp2_with fail
  refine bodyPost_ret (v:=.tuple #[.agg #[str [],.slice none 0 0],.int .i64 (-1)]) (by simp [results,Tryz.results61,go_sem]) rfl ?_
  exact vy.no (by rw [List.drop_eq_nil_of_le (by omega)];rfl) (((e_ _ _).alloc (ei _) _).alloc (by simp) _)
 have n8:¬ l[i]=40:=(sL fG).resolve_left (by omega)
 clear sL
 have JK:=List.drop_eq_getElem_cons fG
 have hm:jf (e+1) (l.drop i)=if zu (l.drop i)=[] then none else some (.am (zu (l.drop i)),zS (l.drop i)):=by rw [JK];exact pR e _ _ n8
 have od:=xX (l.drop i)
 rw [List.length_drop] at od
 have hx:(l.take (i+(zu (l.drop i)).length)).drop i=zu (l.drop i):=by
  rw [List.drop_take,Nat.add_sub_cancel_left];exact word_take _
 have Dn:∀ j,j<(zu (l.drop i)).length->∃ h:i+j<l.length,sep l[i+j]=false:=fun j hj=>by
  obtain ⟨h1,h2⟩:=word_in hj
  rw [List.length_drop] at h1
  rw [List.getElem_drop] at h2
  exact ⟨by omega,h2⟩
 have FO:l.length<=i+(zu (l.drop i)).length\/∃ h:i+(zu (l.drop i)).length<l.length,sep l[i+(zu (l.drop i)).length]=true:=by
  by_cases h:i+(zu (l.drop i)).length<l.length
  ·right
   refine ⟨h,?_⟩
   have:=word_out (m:=l.drop i) (by rw [List.length_drop];omega)
   rw [List.getElem_drop] at this
   exact this
  ·left;omega
 have BG:(zS (l.drop i)).length+(i+(zu (l.drop i)).length)=l.length:=by omega
 obtain ⟨wd,DA⟩:=zzM (zu (l.drop i))
 rw [<- DA] at hm hx Dn FO BG od
 have HM:=ed (ef hm (ef Dn (ef FO (ef hx BG))))
 have f4:=js fG (n:=40) (by decide) n8
 have F3:i+wd.length<=l.length:=by omega
 clear n8 JK hm hx Dn FO DA od BG
 go_enter Tryz.func61,Tryz.ntmps61
 go_wp2_with fail
 clear f4
 go_loop [1] (fun a=>∃ j:Nat,j<=wd.length/\a=.int .i64 ((i+j:Nat):Int)) (fun a=>i+wd.length-(intOf a).toNat)
 case atStart=>exact ⟨0,Nat.zero_le _,by simp⟩
 case round =>
  obtain ⟨j,hj,rfl⟩:=hrel
  by_cases Af:j<wd.length
  ·obtain ⟨DO,hs⟩:=HM.out.2.1 j Af
   have ln:¬ l[i+j]=32/\¬ l[i+j]=40/\¬ l[i+j]=41:=by
    simp only [sep,Bool.or_eq_false_iff,beq_eq_false_iff_ne] at hs
    exact ⟨hs.1.1,hs.1.2,hs.2⟩
   have f1:=js DO (n:=32) (by decide) ln.1
   have f2:=js DO (n:=40) (by decide) ln.2.1
   have f3:=js DO (n:=41) (by decide) ln.2.2
   clear hs ln
   go_wp2_with fail
   go_round
   case rel=>exact ⟨j+1,by omega,by go_num⟩
   case measure=>simp [intOf];omega
  ·obtain rfl:j=wd.length:=by omega
   have mi:l.length<=i+wd.length\/(∃ h:i+wd.length<l.length,((((⟨l.toArray⟩:ByteArray)[i+wd.length]'(kO h)).toNat:Int) != 32)=false) \/
    (∃ h:i+wd.length<l.length,((((⟨l.toArray⟩:ByteArray)[i+wd.length]'(kO h)).toNat:Int) != 32)=true/\((((⟨l.toArray⟩:ByteArray)[i+wd.length]'(kO h)).toNat:Int) != 40)=false) \/
    (∃ h:i+wd.length<l.length,((((⟨l.toArray⟩:ByteArray)[i+wd.length]'(kO h)).toNat:Int) != 32)=true/\((((⟨l.toArray⟩:ByteArray)[i+wd.length]'(kO h)).toNat:Int) != 40)=true/\((((⟨l.toArray⟩:ByteArray)[i+wd.length]'(kO h)).toNat:Int) != 41)=false):=by
    rcases HM.out.2.2.1 with h | ⟨h,hs⟩
    ·exact .inl h
    ·right
     simp only [sep,Bool.or_eq_true,beq_iff_eq] at hs
     rcases hs with (hs | hs) | hs
     ·exact .inl ⟨h,vE h (n:=32) (by decide) hs⟩
     ·exact .inr (.inl ⟨h,js h (c:=32) (n:=32) (by decide) (by rw [hs];decide),vE h (n:=40) (by decide) hs⟩)
     ·exact .inr (.inr ⟨h,js h (c:=32) (n:=32) (by decide) (by rw [hs];decide),js h (c:=40) (n:=40) (by decide) (by rw [hs];decide),vE h (n:=41) (by decide) hs⟩)
   have hx:((⟨l.toArray⟩:ByteArray).extract i (i+wd.length))=⟨wd.toArray⟩:=by rw [pz,HM.out.2.2.2.1]
   by_cases h0:wd=[]
   ·subst h0
    have HN:=ed (show jf (e+1) (l.drop i)=none by rw [HM.out.1,if_pos rfl])
    simp only [List.length_nil,Nat.add_zero] at mi hx F3 ⊢
    clear Af hj
    rcases mi with h | ⟨h,f1⟩ | ⟨h,f1,f2⟩ | ⟨h,f1,f2,f3⟩
    ·omega
    all_goals
     go_wp2_with fail
     refine bodyPost_ret (v:=.tuple #[.agg #[.string ByteArray.empty,.slice none 0 0],.int .i64 (-1)]) (by simp [results,Tryz.results61,go_sem]) rfl ?_
     exact vy.no (s:=[]) HN.out (((e_ _ _).alloc (ei _) _).alloc (by simp) _)
   ·have hne:(wd == [])=false:=by rw [beq_eq_false_iff_ne];exact h0
    have iT:wd.isEmpty=false:=by rw [List.isEmpty_eq_false_iff];exact h0
    have HN:=ed (show jf (e+1) (l.drop i)=some (.am wd,zS (l.drop i)) by rw [HM.out.1,if_neg h0])
    have fin:∀ W:World,Below w.heap.size w W->vy l.length w (jf (e+1) (l.drop i)) (.returned (.tuple #[.agg #[str wd,.slice none 0 0],.int .i64 ((i:Int)+(wd.length:Int))])) W:=fun W hb =>
     vy.yes HN.out (by have:=HM.out.2.2.2.2;omega) hb (by
      rw [jj]
      exact zQ.2 ⟨_,_,rfl,zH.2 rfl,zQ.2 ⟨_,_,rfl,zp.2 ⟨rfl,none,0,rfl,ei _,fun _=>rfl,.inl rfl⟩,zC.2 rfl⟩⟩)
    have FIN:=ed fin
    clear fin h0 Af hj
    rcases mi with h | ⟨h,f1⟩ | ⟨h,f1,f2⟩ | ⟨h,f1,f2,f3⟩
    all_goals
     go_wp2_with fail
     refine bodyPost_ret (v:=.tuple #[.agg #[str wd,.slice none 0 0],.int .i64 ((i:Int)+(wd.length:Int))]) (by simp [results,Tryz.results61,go_sem]) rfl ?_
     exact FIN.out _ (((e_ _ _).alloc (ei _) _).alloc (by simp) _)
theorem jl.alloc {ob:Nat} {s:Bs} {sl:Value} {w:World} (h:jl ob s sl w) (o:Obj):jl ob s sl (w.alloc o):=zY h
set_option maxRecDepth 100000 in
theorem l5Read_open (l:Bs) (hl:Lim l.length) (e d:Nat) (AG:e+1+d=101) (ih:TrSaid l e) (i0:Nat) (w:World) (hi:i0<l.length) (n8:l[i0]=40) :
 Calls Tryz.prog 61 #[str l,.int .i64 i0,.int .i64 d] w (vy l.length w (jf (e+1) (l.drop i0))):=by
 have tH:=hl.le
 have IH:=ed ih;clear ih
 have lX:¬ (100:Int)<(d:Int):=by omega
 have hm:jf (e+1) (l.drop i0)=(gr e (l.drop (i0+1))).map fun y=>(.ls y.1,y.2):=by
  rw [List.drop_eq_getElem_cons hi,n8,rdTr_all]
 have HM:=ed hm;clear hm
 have f4:=vE hi (n:=40) (by decide) n8
 clear n8
 go_enter Tryz.func61,Tryz.ntmps61
 go_wp2_with fail
 clear f4
 have Iy:eI w (w.heap.size+1) (w.heap.size+2) ((w.alloc (.cells #[str [],.slice none 0 0] 40)).alloc (.cells #[str [],.slice none 0 0] 40)) [] [] (.slice none 0 0):=by
  refine ⟨((e_ _ _).alloc (ei _) _).alloc (by simp) _,?_,?_,World.ownsRow_nil _ _ _ _,fun g h=>by simp [Value.ownBlock] at h,zC.2 rfl,by simp⟩
  ·exact zY (zG _ _)
  ·have:=zG (w.alloc (.cells #[str [],.slice none 0 0] 40)) (.cells #[str [],.slice none 0 0] 40)
   rw [zK] at this;exact this
 go_loopw [1] (fun a wr=>∃ (i:Nat) (ps:List Tr) (vs:List Value) (sa:Option Addr) (sc:Nat),a=.int .i64 i/\i<l.length/\ps.length<=i/\(gr e (l.drop (i0+1))=(gr e (l.drop (i+1))).map fun y=>(ps++y.1,y.2))/\eI w (w.heap.size+1) (w.heap.size+2) wr ps vs (.slice sa ps.length sc)) (fun a _=>l.length-(intOf a).toNat)
 case atStart=>exact ⟨i0,[],[],none,0,rfl,hi,Nat.zero_le _,by simp,Iy⟩
 case round =>
  clear Iy
  rename_i wr
  obtain ⟨i,ps,vs,sa,sc,rfl,F3,ED,GT,sn⟩:=hrel
  have KG:=ed GT;clear GT
  have AV:=ed sn;clear sn
  have C:=ed (IH.out (d+1) (i+1) wr (by omega) F3)
  go_wp2_with fail
  rw [show (i:Int)+1=((i+1:Nat):Int) from by omega,show (d:Int)+1=((d+1:Nat):Int) from by omega]
  (with_reducible refine C.out.mono ?_)
  rintro Ao w6 ⟨s6,a6,n6,c6,k6,rfl,fC,aS,aF⟩
  have z6:=fC.size
  have zr:=AV.out.z
  have BH:=AV.out.res.below fC (by omega)
  have BP:=AV.out.out.below fC (by omega)
  have lW:=zzT AV.out.below fC
  obtain ⟨r0,r1,rl6,rf⟩:=BH.cells
  obtain ⟨q0,q1,Fm,qf⟩:=BP.cells
  have mg:=rf 0;have nD:=rf 1;clear rf
  have qf0:=qf 0;have qf1:=qf 1;clear qf
  have Q:=ed (ef fC (ef BH (ef BP lW)));clear fC BH BP lW C
  have lB:=rdAll_eq e (l.drop (i+1))
  cases hq:jf e (l.drop (i+1)) with
  | none =>
    obtain rfl:=aS hq
    have HN:=ed (show jf (e+1) (l.drop i0)=none by rw [HM.out,KG.out,lB,hq];rfl)
    clear lB hq aS aF
    go_wp2_with fail
    obtain ⟨W,hW,s0,s1,fD,_⟩:=Q.out.2.1.store (.string ⟨#[]⟩) (.slice sa ps.length sc)
    rw [<- hW]
    refine bodyPost_ret (v:=.tuple #[.agg #[str [],.slice sa ps.length sc],.int .i64 (-1)]) (by simp [results,Tryz.results61,go_sem,zJ s0,zJ s1]) rfl ?_
    exact vy.no HN.out ((fD _ _ Q.out.2.2.2 (ei _)).alloc (fD _ _ Q.out.2.2.2 (ei _)).size _)
  | some x =>
    obtain ⟨t,rest⟩:=x
    obtain ⟨rfl,Ai⟩:=aF _ _ hq
    have ic:=yX (rdTr_suffix hq)
    have IB:=uO e _ _ _ hq
    rw [List.length_drop] at IB
    have EC:rest.length<=l.length:=by omega
    obtain ⟨nf,Dp⟩:=zzM (l.length-rest.length)
    rw [<- Dp] at ic
    have AE:(l.length:Int)-(rest.length:Int)=(nf:Int):=by omega
    rw [AE]
    have DQ:i+1<nf/\nf<=l.length:=by omega
    subst ic
    rw [hq,Option.bind_some] at lB
    simp only at lB
    have KX:=ed lB;have KU:=ed Ai
    clear lB Ai hq aS aF AE Dp EC IB
    by_cases oH:nf=l.length
    ·have HN:=ed (show jf (e+1) (l.drop i0)=none by rw [HM.out,KG.out,KX.out,List.drop_eq_nil_of_le (by omega)];rfl)
     have g1:(l.length:Int)<=(nf:Int):=by omega
     have g0:¬ (nf:Int)<0:=by omega
     go_wp2_with fail
     obtain ⟨W,hW,s0,s1,fD,_⟩:=Q.out.2.1.store (.string ⟨#[]⟩) (.slice sa ps.length sc)
     rw [<- hW]
     refine bodyPost_ret (v:=.tuple #[.agg #[str [],.slice sa ps.length sc],.int .i64 (-1)]) (by simp [results,Tryz.results61,go_sem,zJ s0,zJ s1]) rfl ?_
     exact vy.no HN.out ((fD _ _ Q.out.2.2.2 (ei _)).alloc (fD _ _ Q.out.2.2.2 (ei _)).size _)
    have ap:nf<l.length:=by omega
    have g1:¬ (l.length:Int)<=(nf:Int):=by omega
    have g0:¬ (nf:Int)<0:=by omega
    have hlps:ps.length<=16777216:=by omega
    clear oH
    go_wp2_with (at_builtin;refine zD rfl _ _ 38 rfl 40 (.agg #[str [],.slice none 0 0]) 2 40 Tryz.underlying38 Tryz.infoTr rfl (by decide) (.slice sa ps.length sc) ps.length vs rfl ?c1 _ 1 [str s6,.slice a6 n6 c6] rfl ?c2 ?c3 ?c4 ?_)
    case c1 =>
     refine (AV.out.own.keep fun g o hg ho=>?_).alloc _ |>.alloc _
     rw [Q.out.1.block g (zZ ho)];exact ho
    case c2=>exact zO.lit2 #[str s6,.slice a6 n6 c6] rfl (by simp [str,Value.oneCell']) _ (by simp)
    case c3=>unfold maxLen;omega
    case c4=>omega
    intro a' c' w7 fu fW fR
    have hW:Below wr.heap.size wr ((w6.alloc (.cells #[str s6,.slice a6 n6 c6] 40)).alloc (.cells #[str s6,.slice a6 n6 c6] 40)):=(Q.out.1.alloc Q.out.1.size _).alloc (by have:=Q.out.1.size;simp;omega) _
    have hC:zX (wr.heap.size<=·) ((w6.alloc (.cells #[str s6,.slice a6 n6 c6] 40)).alloc (.cells #[str s6,.slice a6 n6 c6] 40)) (jj t) [str s6,.slice a6 n6 c6] :=
     (Rep.keep fun i o hi ho=>⟨hi,zY (zY ho)⟩).2 _ _ KU.out
    have hA:=AV.out.next (by omega) (show w.heap.size<w.heap.size+1 by omega) hW hC fu fW (fun g hg=>by simpa only [zK] using fR g hg)
    have z7:=fW.size
    rw [zK,zK] at z7
    have oC:w7.cell? ⟨w.heap.size+1,1,none⟩=some (.slice sa ps.length sc):=by
     rw [fW.cell (by simp only [zK];omega) (fun e=>by have h:w.heap.size+2<=w.heap.size+1:=AV.out.blk _ e;omega)]
     exact zJ (zJ q1)
    have BO:jl (w.heap.size+1) [] (.slice sa ps.length sc) w7:=by
     unfold jl
     rw [fW.block _ (by simp only [zK];omega) (fun e=>by have h:w.heap.size+2<=w.heap.size+1:=AV.out.blk _ e;omega)]
     exact zY (zY Q.out.2.2.1)
    obtain ⟨p0,p1,pl7,pf⟩:=BO.cells
    have pf1:=pf 1
    clear pf q0 q1 qf0 qf1 r0 r1 mg nD Fm rl6
    have HA:=ed (ef hA BO);clear hA hW hC fu fW fR BO oC
    have JK:=List.drop_eq_getElem_cons ap
    rw [JK] at KX
    obtain ⟨r0,r1,rl8,rf⟩:=HA.out.1.res.cells
    have mg:=rf 0;have nD:=rf 1;clear rf JK
    by_cases ie:l[nf]=41
    ·have f1:=xV ap (n:=41) (by decide) ie
     have HY:=ed (show jf (e+1) (l.drop i0)=some (.ls (ps++[t]),l.drop (nf+1)) by
      rw [HM.out,KG.out,KX.out];simp only [if_pos ie,Option.map_some])
     clear ie
     go_wp2_with fail
     obtain ⟨W,hW,s0,s1,fD,fO⟩:=HA.out.1.res.store (.string ⟨#[]⟩) (.slice a' (ps.length+1) c')
     rw [<- hW]
     refine bodyPost_ret (v:=.tuple #[.agg #[str [],.slice a' (ps.length+1) c'],.int .i64 ((nf:Int)+1)]) (by simp [results,Tryz.results61,go_sem,s0,s1]) rfl ?_
     have sn:=HA.out.1
     refine vy.yes (s:=[]) HY.out (by rw [List.length_drop];omega) (fD _ _ sn.below (ei _)) ?_
     rw [jj]
     refine zQ.2 ⟨_,_,rfl,zH.2 rfl,zQ.2 ⟨_,_,rfl,?_,zC.2 rfl⟩⟩
     rw [show ps.length+1=(ps++[t]).length from by simp] at sn fO ⊢
     refine (sn.own.keep fun g o hg ho=>fO g o (by have:=sn.blk g hg;omega) ho).rep (fun g hg=>by have:=sn.blk g hg;omega) ?_
     exact (Rep.keep fun x o hx ho=>⟨by have:=hx.1;omega,fO x o (by have:=hx.1;omega) ho⟩).2 _ _ sn.rep
    have f1:=vh ap (n:=41) (by decide) ie
    by_cases ly:l[nf]=32
    ·have f2:=vE ap (n:=32) (by decide) ly
     have HY:=ed (show gr e (l.drop (i0+1))=(gr e (l.drop (nf+1))).map fun y=>((ps++[t])++y.1,y.2) by
      rw [KG.out,KX.out];simp only [if_neg ie,if_pos ly,Option.map_map];congr 1;funext y;simp)
     clear ie ly
     go_wp2_with fail
     go_roundw
     case rel=>exact ⟨nf,ps++[t],vs++[str s6,.slice a6 n6 c6],a',c',rfl,ap,by simp;omega,HY.out,by simpa using HA.out.1⟩
     case measure=>simp [intOf];omega
    ·have f2:=js ap (n:=32) (by decide) ly
     have HN:=ed (show jf (e+1) (l.drop i0)=none by rw [HM.out,KG.out,KX.out];simp only [if_neg ie,if_neg ly];rfl)
     clear ie ly
     go_wp2_with fail
     obtain ⟨W,hW,s0,s1,fD,fO⟩:=HA.out.1.res.store (.string ⟨#[]⟩) (.slice a' (ps.length+1) c')
     rw [<- hW]
     refine bodyPost_ret (v:=.tuple #[.agg #[str [],.slice a' (ps.length+1) c'],.int .i64 (-1)]) (by simp [results,Tryz.results61,go_sem,s0,s1]) rfl ?_
     exact vy.no HN.out (fD _ _ HA.out.1.below (ei _))
theorem d_ (l:Bs) (hl:Lim l.length):∀ e,e<=101->TrSaid l e
 | 0,h=>fun d i w AG hi=>h_ l hl 0 d AG i w hi (fun _=>.inl rfl)
 | e+1,h=>fun d i w AG hi=>by
   by_cases n8:∃ fG:i<l.length,l[i]=40
   ·obtain ⟨fG,n8⟩:=n8
    exact l5Read_open l hl e d AG (d_ l hl e (by omega)) i w fG n8
   ·exact h_ l hl (e+1) d AG i w hi (fun fG=>.inr fun h=>n8 ⟨fG,h⟩)
def STermPost (w:World) (o:Option Tr) (en:Ending) (w':World):Prop :=
 ∃ (s:Bs) (a:Option Addr) (n c:Nat),en=.returned (.tuple #[.agg #[str s,.slice a n c],.bool o.isSome])/\Below w.heap.size w w'/\(∀ t,o=some t->qo t/\zX (w.heap.size<=·) w' (jj t) [str s,.slice a n c])
abbrev yO (tb:Nat) (u0 u1:Value) (w':World):Prop:=w'.cell? ⟨tb,0,none⟩=some u0/\w'.cell? ⟨tb,1,none⟩=some u1
theorem yO.below {tb:Nat} {u0 u1:Value} {w w':World} (h:yO tb u0 u1 w) (hb:Below w.heap.size w w'):yO tb u0 u1 w' :=
 ⟨(hb.cell (e9 w _ h.1)).trans h.1,(hb.cell (e9 w _ h.2)).trans h.2⟩
theorem yO.set {tb:Nat} {u0 u1:Value} {w:World} (h:yO tb u0 u1 w) (b o:Nat) (u:Value) (hb:tb≠b):yO tb u0 u1 (w.setCell ⟨b,o,none⟩ u) :=
 ⟨(World.cell?_of_block (fZ _ _ _ _ (by simpa using hb))).trans h.1,(World.cell?_of_block (fZ _ _ _ _ (by simpa using hb))).trans h.2⟩
theorem isTr_ok {l:Bs} {t:Tr} {r:Bs} {e:Nat} (h:jf e l=some (t,r)):qo t:=(y9 e l t r h).2.1
set_option maxRecDepth 100000 in
theorem l5Term_any (l:Bs) (hl:Lim l.length) (w:World):Calls Tryz.prog 33 #[str l] w (STermPost w (qT l)):=by
 have tH:=hl.le
 by_cases Ct:1000<l.length
 ·have h1:(1000:Int)<(l.length:Int):=by omega
  have HM:=ed (show qT l=none by unfold qT;rw [if_pos Ct])
  go_enter Tryz.func33,Tryz.ntmps33
  go_wp2_with fail
  refine bodyPost_ret (v:=.tuple #[.agg #[str [],.slice none 0 0],.bool false]) (by simp [results,Tryz.results33,go_sem]) rfl ?_
  exact ⟨[],none,0,0,by rw [HM.out];rfl,(e_ _ _).alloc (ei _) _,fun t h=>by rw [HM.out] at h;simp at h⟩
 have h1:¬ (1000:Int)<(l.length:Int):=by omega
 have HM:=ed (show qT l=(match jf 101 l with | some (t,[])=>if qS t && decide (qY t<=60) then some t else none | _=>none) by unfold qT;rw [if_neg Ct];rfl)
 clear Ct
 have C:Hid (∀ wz,Calls Tryz.prog 61 #[str l,.int .i64 0,.int .i64 0] wz (vy l.length wz (jf 101 l))):=fun wz=>by
  have h:=d_ l hl 101 (by omega) 0 0 wz (by omega) (Nat.zero_le _)
  rw [List.drop_zero] at h
  exact h
 go_enter Tryz.func33,Tryz.ntmps33
 go_wp2_with fail
 (with_reducible refine (C.out _).mono ?_)
 rintro en w1 ⟨s6,a6,n6,c6,k6,rfl,fP,mZ,fo⟩
 have z1:=fP.size
 rw [zK] at z1
 have BI:jl w.heap.size [] (.slice none 0 0) w1:=jl.below (zG _ _) fP (by simp)
 have DX:Below w.heap.size w w1:=((e_ w.heap.size w).alloc (ei _) _).trans (fP.mono (by simp))
 obtain ⟨W2,fb⟩:=zzM (w1.alloc (.cells #[str s6,.slice a6 n6 c6] 40))
 have EQ:yO w1.heap.size (str s6) (.slice a6 n6 c6) W2:=by subst fb;exact ⟨by simp,by simp⟩
 have hK2d:yO w1.heap.size (str s6) (.slice a6 n6 c6) W2.drew:=EQ
 have mY:jl w.heap.size [] (.slice none 0 0) W2:=by subst fb;exact zY BI
 have a_:Below w.heap.size w W2:=by subst fb;exact DX.alloc DX.size _
 have z2:W2.heap.size=w1.heap.size+1:=by subst fb;simp
 obtain ⟨r0,r1,rl,rf⟩:=mY.cells
 have mg:=rf 0;have nD:=rf 1;clear rf
 have lp:w1.heap.size≠w.heap.size:=by omega
 have FIN:∀ (Wz:World) (B:Bool) (o:Option Tr),qT l=o->o.isSome=B->Below w.heap.size w Wz->(∀ t,o=some t->qo t/\zX (fun b=>w.heap.size<b) Wz (jj t) [str s6,.slice a6 n6 c6]) ->
  ∀ W,(∀ B w0,Below B w0 Wz->B<=w.heap.size->Below B w0 W)->(∀ i x,i≠w.heap.size->Wz.heap[i]? = some x->W.heap[i]? = some x)->STermPost w (qT l) (.returned (.tuple #[.agg #[str s6,.slice a6 n6 c6],.bool B])) W:=by
  intro Wz B o ho hB hb hr W fD fO
  rw [ho]
  exact ⟨s6,a6,n6,c6,by rw [hB],fD _ _ hb (ei _),fun t ht=>⟨(hr t ht).1,(Rep.keep fun b o fN ho=>⟨Nat.le_of_lt fN,fO b o (by have:=fN;omega) ho⟩).2 _ _ (hr t ht).2⟩⟩
 have FN:=ed FIN;clear FIN
 by_cases mW:k6=(l.length:Int)
 rotate_left
 ·have q:(k6 == (l.length:Int))=false:=by rw [beq_eq_false_iff_ne];exact mW
  have sL:qT l=none:=by
   rw [HM.out]
   cases hq:jf 101 l with
   | none=>rfl
   | some x =>
     obtain ⟨t,rest⟩:=x
     cases rest with
     | nil=>have:=(fo t [] hq).1;simp at this;exact absurd this mW
     | cons a b=>rfl
  have HN:=ed sL
  have HR:=ed (ef mY a_)
  clear sL mW fo mZ fP DX BI
  have q0:W2.cell? ⟨w1.heap.size,0,none⟩=some (str s6):=EQ.1
  have q1:W2.cell? ⟨w1.heap.size,1,none⟩=some (.slice a6 n6 c6):=EQ.2
  go_wp2_with fail
  rw [<- fb]
  clear fb
  go_region
  go_wp2_with fail
  obtain ⟨W,hW,s0,s1,fD,fO⟩:=(HR.out.1).store (str s6) (.slice a6 n6 c6)
  rw [<- hW]
  refine bodyPost_ret (v:=.tuple #[.agg #[str s6,.slice a6 n6 c6],.bool false]) (by simp [results,Tryz.results33,go_sem,s0,s1]) rfl ?_
  exact FN.out W2 false none HN.out rfl HR.out.2 (fun t h=>by simp at h) W.drew (fun B w0 h hB=>(fD B w0 h hB).drew) fO
 obtain ⟨t,hq⟩:∃ t,jf 101 l=some (t,[]):=by
  cases hq:jf 101 l with
  | none=>have:=mZ hq;omega
  | some x =>
    obtain ⟨t,rest⟩:=x
    have h1:=(fo t rest hq).1
    have:rest.length=0:=by omega
    rw [List.eq_nil_of_length_eq_zero this];exact ⟨t,rfl⟩
 have q:(k6 == (l.length:Int))=true:=by rw [beq_iff_eq];exact mW
 have fa:=(fo t [] hq).2
 have fw:=isTr_ok hq
 have fG:Lim (zA t).length:=hl.mono (by have:=congrArg List.length (y9 101 l t [] hq).1;simp at this;omega)
 have hm:qT l=if qS t && decide (qY t<=60) then some t else none:=by rw [HM.out,hq]
 have HM:=ed hm
 have mt:zX (fun b=>w.heap.size<b) W2 (jj t) [str s6,.slice a6 n6 c6]:=by
  subst fb
  exact (Rep.keep fun b o h ho=>⟨by have:=h;rw [zK] at this;omega,zY ho⟩).2 _ _ fa
 have aB:=ed mt
 have CI:=ed (l5Is_any _ t (ei _) fG fw _ W2.drew _ _ mt.drew)
 have CS:=ed (fun wz (hb:Below W2.heap.size W2 wz)=>l5Size_any _ t (ei _) fG fw _ wz _ _ (zX.below (F':=fun b=>w.heap.size<b) hb (fun _ h=>h) mt))
 have hsz:qY t<=16777216:=by have:=cV t fw;have:=fG.le;omega
 have Dw:=ed (ef fw a_)
 have rl0:=rl
 clear hm mt fa fo mZ fP DX BI hq r0 r1 mg nD rl mW fw
 cases hi:qS t with
 | false =>
   have HI:=ed hi
   have HN:=ed (show qT l=none by rw [HM.out,hi];rfl)
   clear hi
   go_wp2_with fail
   rw [<- fb]
   clear fb
   refine wp_region_noPanic ?_
   refine zB (fun w'=>yO w1.heap.size (str s6) (.slice a6 n6 c6) w') (fun _=>false) (by kernel_rfl) ?_
   have fV:(fun w'=>yO w1.heap.size (str s6) (.slice a6 n6 c6) w') W2.drew:=EQ
   refine tk [0,1,2,3,4,5,6] fV ?_
   (intro d hd;simp [tkD] at hd;subst hd;simp only [tks,pQ,pZ,pS])
   iterate 7 (refine ⟨?_,?_,?_⟩;rotate_left;· (intro oi ho;simp at ho;subst ho;refine Or.inl ⟨by rfl,fun w' fB=>?_⟩;obtain ⟨e0,e1⟩:=fB;go_simp;try with_reducible rfl))
   (refine on 7 ?_;intro o ho K' hK;simp at ho;subst ho;go_simp)
   go_at_call 62
   (with_reducible refine CI.out.mono ?_)
   rintro en5 w5 ⟨rfl,fv⟩
   rw [HI.out]
   have r7:Hid (Below W2.heap.size W2 w5):=(Below.drew (e_ W2.heap.size W2)).trans fv
   have iG:=EQ.below r7.out
   have HN5:=ed (mY.below r7.out rl0)
   clear fv
   (refine hK.out _ _ (fun _=>iG) ?_;clear hK K';try simp only [pQ,pN,pZ,pS])
   have A8:=iG
   refine tk [8,9,10] A8 ?_
   (intro d hd;simp [tkD] at hd;subst hd;simp only [tks,pQ,pZ,pS])
   iterate 3 (refine ⟨?_,?_,?_⟩;rotate_left;· (intro oi ho;simp at ho;subst ho;first | (refine Or.inr ⟨by rfl,?_⟩;with_reducible rfl) | (refine Or.inl ⟨by rfl,fun w' fB=>?_⟩;go_simp;try with_reducible rfl)))
   (refine on 11 ?_;intro o ho K' hK;simp at ho;subst ho;go_simp)
   (refine hK.out _ _ (fun _=>iG) ?_;clear hK K';try simp only [pQ,pN,pZ,pS])
   refine tk [12,13] A8 ?_
   (intro d hd;simp [tkD] at hd;subst hd;simp only [tks,pQ,pZ,pS])
   iterate 2 (refine ⟨?_,?_,?_⟩;rotate_left;· (intro oi ho;simp at ho;subst ho;first | (refine Or.inr ⟨by rfl,?_⟩;with_reducible rfl) | (refine Or.inl ⟨by rfl,fun w' fB=>?_⟩;go_simp;try with_reducible rfl)))
   (refine on 14 ?_;intro o ho K' hK;simp at ho;subst ho)
   obtain ⟨r0,r1,rl,rf⟩:=(HN5.out).cells
   have mg:=rf 0
   have nD:=rf 1
   clear rf
   go_simp
   (refine hK.out _ _ (fun _=>(iG.set _ _ _ lp).set _ _ _ lp) ?_;clear hK K';try simp only [pQ,pN,pZ,pS])
   (refine on 15 ?_;intro o ho K' hK;simp at ho;subst ho;go_simp)
   (refine hK.out _ _ (fun _=>(iG.set _ _ _ lp).set _ _ _ lp) ?_;clear hK K';try simp only [pQ,pN,pZ,pS])
   refine zU (by kernel_rfl) (NoPanic.normal ?_) _
   go_wp2_with fail
   obtain ⟨W,hW,s0,s1,fD,fO⟩:=(HN5.out).store (str s6) (.slice a6 n6 c6)
   rw [<- hW]
   refine bodyPost_ret (v:=.tuple #[.agg #[str s6,.slice a6 n6 c6],.bool false]) (by simp [results,Tryz.results33,go_sem,s0,s1]) rfl ?_
   exact FN.out w5 false none HN.out rfl (zzT Dw.out.2 r7.out) (fun t h=>by simp at h) W fD fO
 | true =>
   have HI:=ed hi
   have HN:=ed (show qT l=if decide (qY t<=60) then some t else none by rw [HM.out,hi];rfl)
   clear hi
   go_wp2_with fail
   rw [<- fb]
   clear fb
   refine wp_region_noPanic ?_
   refine zB (fun w'=>yO w1.heap.size (str s6) (.slice a6 n6 c6) w') (fun _=>false) (by kernel_rfl) ?_
   have fV:(fun w'=>yO w1.heap.size (str s6) (.slice a6 n6 c6) w') W2.drew:=EQ
   refine tk [0,1,2,3,4,5,6] fV ?_
   (intro d hd;simp [tkD] at hd;subst hd;simp only [tks,pQ,pZ,pS])
   iterate 7 (refine ⟨?_,?_,?_⟩;rotate_left;· (intro oi ho;simp at ho;subst ho;refine Or.inl ⟨by rfl,fun w' fB=>?_⟩;obtain ⟨e0,e1⟩:=fB;go_simp;try with_reducible rfl))
   (refine on 7 ?_;intro o ho K' hK;simp at ho;subst ho;go_simp)
   go_at_call 62
   (with_reducible refine CI.out.mono ?_)
   rintro en5 w5 ⟨rfl,fv⟩
   rw [HI.out]
   have r7:Hid (Below W2.heap.size W2 w5):=(Below.drew (e_ W2.heap.size W2)).trans fv
   have iG:=EQ.below r7.out
   have HN5:=ed (mY.below r7.out rl0)
   clear fv
   (refine hK.out _ _ (fun _=>iG) ?_;clear hK K';try simp only [pQ,pN,pZ,pS])
   have A8:=iG
   refine tk [8,9,10] A8 ?_
   (intro d hd;simp [tkD] at hd;subst hd;simp only [tks,pQ,pZ,pS])
   iterate 3 (refine ⟨?_,?_,?_⟩;rotate_left;· (intro oi ho;simp at ho;subst ho;refine Or.inl ⟨by rfl,fun w' fB=>?_⟩;obtain ⟨e0,e1⟩:=fB;go_simp;try with_reducible rfl))
   (refine on 11 ?_;intro o ho K' hK;simp at ho;subst ho;go_simp)
   go_at_call 63
   (with_reducible refine (CS.out w5 r7.out).mono ?_)
   rintro en7 w7 ⟨rfl,fW⟩
   have oO:Hid (Below W2.heap.size W2 w7):=zzT r7.out fW
   have hK7:=EQ.below oO.out
   have HN7:=ed (mY.below oO.out rl0)
   clear fW
   (refine hK.out _ _ (fun _=>hK7) ?_;clear hK K';try simp only [pQ,pN,pZ,pS])
   have hS11:=hK7
   refine tk [12,13] hS11 ?_
   (intro d hd;simp [tkD] at hd;subst hd;simp only [tks,pQ,pZ,pS])
   iterate 2 (refine ⟨?_,?_,?_⟩;rotate_left;· (intro oi ho;simp at ho;subst ho;refine Or.inl ⟨by rfl,fun w' fB=>?_⟩;go_simp;try with_reducible rfl))
   (refine on 14 ?_;intro o ho K' hK;simp at ho;subst ho)
   obtain ⟨r0,r1,rl,rf⟩:=(HN7.out).cells
   have mg:=rf 0
   have nD:=rf 1
   clear rf
   go_simp
   (refine hK.out _ _ (fun _=>(hK7.set _ _ _ lp).set _ _ _ lp) ?_;clear hK K';try simp only [pQ,pN,pZ,pS])
   (refine on 15 ?_;intro o ho K' hK;simp at ho;subst ho;go_simp)
   (refine hK.out _ _ (fun _=>(hK7.set _ _ _ lp).set _ _ _ lp) ?_;clear hK K';try simp only [pQ,pN,pZ,pS])
   refine zU (by kernel_rfl) (NoPanic.normal ?_) _
   go_wp2_with fail
   obtain ⟨W,hW,s0,s1,fD,fO⟩:=(HN7.out).store (str s6) (.slice a6 n6 c6)
   rw [<- hW]
   refine bodyPost_ret (v:=.tuple #[.agg #[str s6,.slice a6 n6 c6],.bool (decide ((qY t:Int)<=60))]) (by simp [results,Tryz.results33,go_sem,s0,s1]) rfl ?_
   by_cases lu:qY t<=60
   ·exact FN.out w7 _ (some t) (by rw [HN.out,if_pos (by simpa using lu)]) (by rw [decide_eq_true (by omega)];rfl) (zzT Dw.out.2 oO.out) (fun t' h=>by
     obtain rfl:=Option.some.inj h
     exact ⟨Dw.out.1,zX.below oO.out (fun _ h=>h) aB.out⟩) W fD fO
   ·exact FN.out w7 _ none (by rw [HN.out,if_neg (by simpa using lu)]) (by rw [decide_eq_false (by omega)];rfl) (zzT Dw.out.2 oO.out) (fun t h=>by simp at h) W fD fO
end Go.Proofs.YtjggkhmojjaomaaGreatDoor

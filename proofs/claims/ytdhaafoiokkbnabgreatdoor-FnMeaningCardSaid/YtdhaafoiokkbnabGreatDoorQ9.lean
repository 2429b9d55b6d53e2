/- Walks. -/
import Derived.Test.YtdhaafoiokkbnabGreatDoorQ6
set_option linter.unusedVariables false
set_option linter.unusedSimpArgs false
set_option maxHeartbeats 4000000
set_option maxRecDepth 100000
open Bool renaming false_and->S9,true_and->RB
open Go.Proofs.Tryz renaming func108->So,func31->Uf,func35->Ud,func37->Ue,func64->RS,func65->Rq,func66->Uc,func89->Rp,ntmps108->Se,ntmps31->TK,ntmps35->TI,ntmps37->TJ,ntmps64->RH,ntmps65->Q4,ntmps66->TH,ntmps89->Q3,prog->No,results31->Rr,results64->P0
open Go.Value.slice renaming injEq->OK
open Go.World renaming cell?->Li,cell?_of_block->QD
open List renaming cons_append->ON,drop_eq_getElem_cons->Pv,drop_eq_nil_of_le->Qv,eq_nil_of_length_eq_zero->OQ,getElem?_drop->PJ,getElem?_eq_getElem->PH,getElem?_eq_some_iff->OB,getElem?_take->PI,getElem_drop->RP,isEmpty_eq_false_iff->Sc,length->PY,length_append->Ov,length_cons->OD,length_drop->QA,length_nil->Pd,length_pos_iff->P4,mem_of_getElem?->OI,take_length->OT,take_succ_cons->PE
open List.cons renaming injEq->OL
open Nat renaming add_zero->SI,one_mul->Qm,reduceAdd->PN,reduceMul->Qa,zero_le->OS
open Option.some renaming inj->OM,injEq->Oz
namespace Go.Proofs.YtdhaafoiokkbnabGreatDoor
open Go.RowKit
theorem gz (n lo hi:Int) (w:World):Calls No 108 #[.int .i64 n,.int .i64 lo,.int .i64 hi] w fun en w'=>en=.returned (.bool (decide (lo<=n) && decide (n<=hi)))/\w'=w:=by
 by_cases h1:lo<=n
 ·by_cases h2:n<=hi
  all_goals
   go_enter So,Se;go_wp2_with fail
   go_ret;exact ⟨by simp [h1,h2],rfl⟩
 ·go_enter So,Se;go_wp2_with fail
  go_ret;exact ⟨by simp [h1];omega,rfl⟩
theorem mo (s:Bs) (w:World) (hl:Lim s.length) :
 Calls No 89 #[str s] w fun en w'=>en=.returned (.bool (qL s))/\w'=w:=by
 have i5:=hl.le;by_cases h0:s.length=0
 ·obtain rfl:s=[]:=OQ h0;clear h0;go_enter Rp,Q3;go_wp2_with fail
  (with_reducible refine (gz 0 1 3 w).mono ?_);rintro en w1 ⟨rfl,e⟩
  subst w1;have q1:(decide ((1:Int)<=0) && decide ((0:Int)<=3))=false:=by decide
  rw [q1];clear q1;go_wp2_with fail
  go_ret;exact ⟨rfl,rfl⟩
 have hne:(s == [])=false:=by rw [beq_eq_false_iff_ne];rintro rfl;exact h0 rfl
 have A2:s.isEmpty=false:=by rw [Sc];rintro rfl;exact h0 rfl
 have sf:0<s.length:=by omega
 clear h0;by_cases h3:3<s.length
 ·have HN:=n7 (name_no1 h3);go_enter Rp,Q3;have q1:(decide ((1:Int)<=(s.length:Int)) && decide ((s.length:Int)<=3))=false:=by rw [decide_eq_false (show ¬ (s.length:Int)<=3 by omega),Bool.and_false]
  go_wp2_with fail
  (with_reducible refine (gz (s.length:Int) 1 3 w).mono ?_);rintro en w1 ⟨rfl,e⟩
  subst w1;rw [q1];clear q1;go_wp2_with fail
  go_ret;exact ⟨by rw [HN.out];rfl,rfl⟩
 have q1:(decide ((1:Int)<=(s.length:Int)) && decide ((s.length:Int)<=3))=true:=by rw [decide_eq_true (show (1:Int)<=(s.length:Int) by omega),decide_eq_true (show (s.length:Int)<=3 by omega)];rfl
 have Q1:=n7 q1;clear q1;have B:=xM sf;by_cases hA:s[0].toNat<120
 ·have HN:=n7 (dE sf (.inl hA));have b1:((((⟨s.toArray⟩:ByteArray)[0]'(k8 sf)).toNat:Int))<120:=by rw [B];omega
  clear B hA;go_enter Rp,Q3;go_wp2_with fail
  (with_reducible refine (gz (s.length:Int) 1 3 w).mono ?_);rintro en w1 ⟨rfl,e⟩
  subst w1;rw [Q1.out];go_wp2_with fail
  go_ret;exact ⟨by rw [HN.out];rfl,rfl⟩
 by_cases hB:122<s[0].toNat
 ·have HN:=n7 (dE sf (.inr hB));have b1:(122:Int)<((((⟨s.toArray⟩:ByteArray)[0]'(k8 sf)).toNat:Int)):=by rw [B];omega
  have b2:¬ ((((⟨s.toArray⟩:ByteArray)[0]'(k8 sf)).toNat:Int))<120:=by omega
  clear B hA hB;go_enter Rp,Q3;go_wp2_with fail
  (with_reducible refine (gz (s.length:Int) 1 3 w).mono ?_);rintro en w1 ⟨rfl,e⟩
  subst w1;rw [Q1.out];go_wp2_with fail
  go_ret;exact ⟨by rw [HN.out];rfl,rfl⟩
 have b1:¬ (122:Int)<((((⟨s.toArray⟩:ByteArray)[0]'(k8 sf)).toNat:Int)):=by rw [B];omega
 have b2:¬ ((((⟨s.toArray⟩:ByteArray)[0]'(k8 sf)).toNat:Int))<120:=by rw [B];omega
 have HA:=n7 (n8 hA hB);clear B hA hB;go_enter Rp,Q3;go_wp2_with fail
 (with_reducible refine (gz (s.length:Int) 1 3 w).mono ?_)
 rintro en w1 ⟨rfl,e⟩;subst w1;rw [Q1.out];go_wp2_with fail
 clear b1 b2
 go_loop [3] (fun i=>∃ k:Nat,1<=k/\k<=s.length/\i=.int .i64 k/\∀ j,1<=j->j<k->∀ (hj:j<s.length),48<=s[j].toNat/\s[j].toNat<=57) (fun i=>s.length-(intOf i).toNat)
 case atStart=>exact ⟨1,n9 _,sf,rfl,fun j h1 h2=>by omega⟩
 case round =>
  obtain ⟨k,Et,hk,rfl,t6⟩:=hrel;have HR:=n7 t6;clear t6;by_cases rH:k<s.length
  ·have B:=xM rH;by_cases hA:s[k].toNat<48
   ·have HN:=n7 (dD Et rH (.inl hA));have b1:((((⟨s.toArray⟩:ByteArray)[k]'(k8 rH)).toNat:Int))<48:=by rw [B];omega
    clear B hA;go_wp2_with fail
    go_ret;exact ⟨by rw [HN.out];rfl,rfl⟩
   by_cases hB:57<s[k].toNat
   ·have HN:=n7 (dD Et rH (.inr hB));have b1:(57:Int)<((((⟨s.toArray⟩:ByteArray)[k]'(k8 rH)).toNat:Int)):=by rw [B];omega
    have b2:¬ ((((⟨s.toArray⟩:ByteArray)[k]'(k8 rH)).toNat:Int))<48:=by omega
    clear B hA hB;go_wp2_with fail
    go_ret;exact ⟨by rw [HN.out];rfl,rfl⟩
   have b1:¬ (57:Int)<((((⟨s.toArray⟩:ByteArray)[k]'(k8 rH)).toNat:Int)):=by rw [B];omega
   have b2:¬ ((((⟨s.toArray⟩:ByteArray)[k]'(k8 rH)).toNat:Int))<48:=by rw [B];omega
   have HB:=n7 (n8 hA hB);clear B hA hB;go_wp2_with fail
   go_round
   case rel=>exact ⟨k+1,by omega,by omega,by go_num,fun j h1 h2 hj=>by
    by_cases e:j=k
    ·subst e;have:=HB.out;omega
    ·exact HR.out j h1 (by omega) hj⟩
   case measure=>simp [intOf];omega
  ·go_wp2_with fail
   go_ret;have HA':=HA.out;exact ⟨by rw [name_yes sf (by omega) (by omega) (fun j h1 hj=>HR.out j h1 (by omega) hj)];rfl,rfl⟩
mutual
def vY:Tr->List DV
 | .am a=>[.val (str a),.sl 39 2 0 []]
 | .ls ps=>[.val (str []),.sl 39 2 ps.length (vW ps)]
def vW:List Tr->List DV
 | []=>[]
 | p::ps=>vY p++vW ps
end
theorem dw (b:Tr):(vY b).length=2:=by cases b <;> simp [vY]
theorem encTrs_length (bs:List Tr):(vW bs).length=bs.length*2:=by
 induction bs with
 | nil=>simp [vW]
 | cons b bs ih=>simp [vW,dw,ih];omega
theorem wE (a b:List Tr):vW (a++b)=vW a++vW b:=by
 induction a with
 | nil=>simp [vW]
 | cons t ts ih=>simp [vW,ih,List.append_assoc]
theorem Tryz.infoTr:(No.info? 39).map (fun i=>(i.zero,i.size,i.bytes))=some (some (.agg #[str [],.slice none 0 0]),2,40):=by kernel_rfl
def jW:Tr->List Tr
 | .am _=>[]
 | .ls ps=>ps
theorem q_ {F:Nat->Prop} {w:World} {b:Tr} {vs:List Value} (h:zW F w (vY b) vs) :
 ∃ a c,vs=[str (qE b),.slice a (jW b).length c]/\Rep F w (.sl 39 2 (jW b).length (vW (jW b))) (.slice a (jW b).length c):=by
 have key:∀ (s:Bs) (n:Nat) (ds:List DV),zW F w [.val (str s),.sl 39 2 n ds] vs->∃ a c,vs=[str s,.slice a n c]/\Rep F w (.sl 39 2 n ds) (.slice a n c):=by
  intro s n ds h;obtain ⟨_,_,rfl,h0,h⟩:=zQ.1 h;obtain ⟨_,_,rfl,h1,h⟩:=zQ.1 h;rw [zC] at h;subst h;rw [zH] at h0;subst h0;have h1':=h1;obtain ⟨_,a2,c2,e2',_⟩:=zh.1 h1';subst e2';exact ⟨a2,c2,rfl,h1⟩
 cases b with
 | am a=>rw [vY] at h;exact key _ _ _ h
 | ls ps=>rw [vY] at h;exact key _ _ _ h
def AtTr (F:Nat->Prop) (w:World) (bs:List Tr) (a:Option Addr) (k:Nat):Prop :=
 ∃ b o s a2 n2 c2 d,a=some ⟨b,o,none⟩/\b<w.heap.size/\bs[k]? = some d/\w.cell? ⟨b,o+k*2,none⟩=some (str s)/\w.cell? ⟨b,o+k*2+1,none⟩=some (.slice a2 n2 c2)/\zW F w (vY d) [str s,.slice a2 n2 c2]/\s=qE d/\n2=(jW d).length
def yN (F:Nat->Prop) (w:World) (bs:List Tr) (a:Option Addr):Prop:=∀ k,k<bs.length->AtTr F w bs a k
theorem yN.of {F:Nat->Prop} {w:World} {bs:List Tr} {v:Value} (h:Rep F w (.sl 39 2 bs.length (vW bs)) v):∃ a c,v=.slice a bs.length c/\yN F w bs a:=by
 obtain ⟨hl,a,c,rfl,hn,hz,h⟩:=zh.1 h;refine ⟨a,c,rfl,fun k hk=>?_⟩;rcases h with h | ⟨b,o,cs,fr,rfl,hb,hc,hr⟩
 ·omega
 ·have hs:vW bs=vW (bs.take k)++(vY bs[k]++vW (bs.drop (k+1))):=by
   have e1:vY bs[k]=vW [bs[k]]:=by simp [vW]
   rw [e1,<- wE,<- wE]
   congr 1
   simp
  rw [hs] at hr;obtain ⟨h1,h2⟩:=hr.split;obtain ⟨h3,h4⟩:=h2.split;have oI:(vW (bs.take k)).length=k*2:=by rw [encTrs_length];simp;omega
  rw [oI,dw] at h3;obtain ⟨a2,c2,e,_⟩:=q_ h3;have rX:∀ j u,([str (qE bs[k]),.slice a2 (jW bs[k]).length c2]:List Value)[j]? = some u->w.cell? ⟨b,o+k*2+j,none⟩=some u:=by
   intro j u hu;rw [<- e] at hu;have hj:j<2:=by
    have:=(OB.1 hu).1;simp at this;omega
   rw [PI,if_pos hj,PJ,PI] at hu;split at hu
   ·rw [PJ] at hu;simp only [Li,hc];rw [Nat.add_assoc];simpa using hu
   ·simp at hu
  refine ⟨b,o,_,a2,_,c2,bs[k],rfl,zZ hc,by simp [hk],rX 0 _ rfl,rX 1 _ rfl,?_,rfl,rfl⟩;rw [<- e];exact h3
theorem dC:∀ (ps:List Tr),qQ ps->∀ (k:Nat) (t:Tr),ps[k]? = some t->qr t
 | [],_,k,t,h=>by simp at h
 | p::ps,ho,0,t,h=>by simp at h;subst h;exact (by rw [qQ] at ho;exact ho.1)
 | p::ps,ho,k+1,t,h=>by rw [qQ] at ho;exact dC ps ho.2 k t (by simpa using h)
def qT:List Tr->Bs
 | []=>[]
 | [p]=>zx p
 | p::q::ps=>zx p++32::qT (q::ps)
theorem tail_join:∀ ps:List Tr,ps≠[]->qY ps=32::(qT ps++[41])
 | [],h=>absurd rfl h
 | [p],_=>by rw [qY,qY,qT]
 | p::q::ps,_=>by rw [qY,tail_join (q::ps) (by simp),qT];simp
theorem text_join:∀ ps:List Tr,zx (.ls ps)=[40]++qT ps++[41]
 | []=>by rw [zx,jl,qT];rfl
 | [p]=>by rw [zx,jl,qY,qT];simp
 | p::q::ps=>by rw [zx,jl,tail_join (q::ps) (by simp),qT];simp
theorem join_snoc:∀ (ps:List Tr) (t:Tr),ps≠[]->qT (ps++[t])=qT ps++[32]++zx t
 | [],t,h=>absurd rfl h
 | [p],t,_=>by rw [List.singleton_append,qT,qT,qT];simp
 | p::q::ps,t,_=>by rw [ON,ON,qT,<- ON,join_snoc (q::ps) t (by simp),qT];simp
theorem join_one (t:Tr):qT [t]=zx t:=by rw [qT]
theorem join_take_len (ps:List Tr) (k:Nat):(qT (ps.take k)).length<=(qT ps).length:=by
 induction ps generalizing k with
 | nil=>simp
 | cons p ps ih =>
   cases k with
   | zero=>simp [qT]
   | succ k =>
     cases ps with
     | nil=>simp [qT]
     | cons q ps =>
       have:=ih k;cases k with
       | zero=>simp [qT]
       | succ k=>simp only [PE,qT,Ov,OD] at this ⊢;omega
theorem dB:∀ (ps:List Tr) (t:Tr),t∈ps->(zx t).length<=(qT ps).length
 | [],t,h=>by simp at h
 | [p],t,h=>by simp at h;subst h;rw [qT];exact n9 _
 | p::q::ps,t,h=>by
   rw [qT];rcases List.mem_cons.1 h with rfl | h
   ·simp
   ·have:=dB (q::ps) t h;simp only [Ov,OD] at this ⊢;omega
theorem ul (ps:List Tr):(zx (.ls ps)).length=(qT ps).length+2:=by rw [text_join];simp
theorem text_pos (t:Tr) (h:qr t):1<=(zx t).length:=by
 cases t with
 | am a=>rw [qr] at h;rw [zx];exact P4.2 h.1
 | ls ps=>rw [ul];omega
mutual
theorem eH:∀ t:Tr,qr t->qS t<=(zx t).length
 | .am a,h=>by
   rw [qr] at h;rw [qS,zx];exact P4.2 h.1
 | .ls ps,h=>by
   rw [qr] at h;rw [qS,ul];have:=cF ps h.2;omega
theorem cF:∀ ps:List Tr,qQ ps->kT ps<=(qT ps).length
 | [],h=>by rw [kT];omega
 | [p],h=>by
   rw [qQ] at h;rw [kT,kT,qT];exact eH p h.1
 | p::q::ps,h=>by
   rw [qQ] at h;have h1:=eH p h.1;have h2:=cF (q::ps) h.2;rw [kT,qT,Ov,OD];omega
end
theorem dT:∀ ps:List Tr,qQ ps->ps.length<=(qT ps).length
 | [],_=>by simp
 | [p],h=>by
   rw [qQ] at h;have hp:=text_pos p h.1;rw [qT];simpa using hp
 | p::q::ps,h=>by
   rw [qQ] at h;have hp:=text_pos p h.1;have:=dT (q::ps) h.2;rw [qT];simp only [OD,Ov] at this ⊢;omega
theorem sizeTrs_take {ps:List Tr} {k:Nat} {t:Tr} (h:ps[k]? = some t):kT (ps.take (k+1))=kT (ps.take k)+qS t:=by
 induction ps generalizing k with
 | nil=>simp at h
 | cons p ps ih =>
   cases k with
   | zero=>simp at h;subst h;simp [kT]
   | succ k =>
     simp only [List.getElem?_cons_succ] at h;have:=ih h;simp only [PE,kT] at this ⊢;omega
theorem fm (ps:List Tr) (k:Nat):kT (ps.take k)<=kT ps:=by
 induction ps generalizing k with
 | nil=>simp
 | cons p ps ih =>
   cases k with
   | zero=>simp [kT]
   | succ k=>have:=ih k;simp only [PE,kT];omega
theorem am_ne {a:Bs} (h:qr (.am a)):(a == [])=false:=by
 rw [qr] at h;rw [beq_eq_false_iff_ne];exact h.1
def BoxT (g:Nat) (s:Bs) (k:Value) (w:World):Prop:=w.cell? ⟨g,0,none⟩=some (str s)/\w.cell? ⟨g,1,none⟩=some k
theorem BoxT.below {g:Nat} {s:Bs} {k:Value} {w w':World} (h:BoxT g s k w) (hb:Below w.heap.size w w'):BoxT g s k w':=by
 obtain ⟨h1,h2⟩:=h;have:=n_ w _ h1;exact ⟨by rw [hb.cell (by exact this)];exact h1,by rw [hb.cell (by exact this)];exact h2⟩
def pg (b:Tr):Prop:=∀ (F:Nat->Prop) (w:World) (s v:Value),zW F w (vY b) [s,v] ->
 Calls No 66 #[.agg #[s,v]] w fun en w'=>en=.returned (.int .i64 (qS b))/\Below w.heap.size w w'
theorem fO (b:Tr) (ho:qr b) (hl:Lim (zx b).length) (ih:∀ b',(zx b').length<(zx b).length->qr b'->pg b'):pg b:=by
 intro F w s v hv;obtain ⟨a2,c2,e,hk⟩:=q_ hv;simp only [OL,and_true] at e;obtain ⟨rfl,rfl⟩:=e;cases b with
 | am a =>
   have ha:=am_ne ho;clear hv hk ih hl;simp only [qE,jW];go_enter Uc,TH;go_wp2_with fail
   go_ret;exact ⟨by rw [qS];rfl,(rZ _ _).alloc (n9 _) _⟩
 | ls kids =>
   simp only [qE,jW] at hk ⊢;obtain ⟨_,_,ek,iI⟩:=yN.of hk;simp only [OK,true_and] at ek;obtain ⟨rfl,rfl⟩:=ek;rw [qr] at ho;have IH:=n7 ih;clear ih;have hsz:=cF kids ho.2;have Hh:=ul kids;have hll:=hl.le;have oI:kids.length<=kT kids+kids.length:=by omega
   have nk:kids.length<=16777216:=by have:=dT kids ho.2;omega
   have E1:=n7 hsz;have HO:=n7 ho;have HT:=n7 Hh;have ATK:=n7 iI;clear iI hk hv hsz Hh oI ho;go_enter Uc,TH;go_wp2_with fail
   go_loopw [3,4] (fun n i wr=>∃ k:Nat,k<=kids.length/\i=.int .i64 k/\n=.int .i64 ((kT (kids.take k):Nat):Int)/\Below w.heap.size w wr/\BoxT w.heap.size [] (.slice a2 kids.length c2) wr) (fun _ i _=>kids.length-(intOf i).toNat)
   case atStart=>exact ⟨0,OS _,rfl,by simp [kT],(rZ _ _).alloc (n9 _) _,by simp,by simp⟩
   case round =>
    rename_i wr;obtain ⟨k,hk,rfl,rfl,hb,hc⟩:=hrel;obtain ⟨aH,iZ⟩:=id hc;by_cases rH:k<kids.length
    ·obtain ⟨bb,o,s',b2,m2,d2,t,rfl,hbb,ht,u0,u1,hr,es,en⟩:=ATK.out k rH;clear es en;have q0:=(hb.cell hbb).trans u0;have q1:=(hb.cell hbb).trans u1;have iF:=(zW.below (F':=F) hb (fun _ h=>h) hr);have hs:=sizeTrs_take ht;have sw:=fm kids (k+1);have iO:=E1.out;have F1:=dB kids t (OI ht);have aN:=HT.out;have IH':=n7 (IH.out t (by omega) (dC kids HO.out.2 k t ht));unfold pg at IH';have HS:=n7 hs;have b1:kT (kids.take k)+qS t<=16777216:=by omega
     have hz:=n_ wr _ aH;have sS:(k:Int)<(kids.length:Int):=by omega
     clear hs ht iO u0 u1 hr aN F1;go_wp2_with fail
     (with_reducible refine (IH'.out _ _ _ _ iF).mono ?_);rintro en w2 ⟨rfl,rY⟩
     have rE:=zzT hb rY;obtain ⟨aH,iZ⟩:=id (hc.below rY);have Fs:=n7 (hc.below rY);go_wp2_with fail
     go_roundw
     case rel=>exact ⟨k+1,by omega,by go_num,by rw [HS.out] <;> go_num,rE,Fs.out⟩
     case measure=>simp [intOf];omega
    ·obtain rfl:k=kids.length:=by omega
     rw [OT];go_wp2_with fail
     go_ret;exact ⟨by rw [qS];rfl,hb⟩
theorem l5Size_any (n:Nat):∀ b,(zx b).length<=n->Lim n->qr b->pg b:=by
 induction n with
 | zero=>intro b h hn ho;exact fO b ho (hn.mono h) (fun b' h' _=>by omega)
 | succ n ih=>exact fun b h hn ho=>fO b ho (hn.mono h) (fun b' h' Dz=>ih b' (by omega) (hn.mono (by omega)) Dz)
def xC:Tr->Bs
 | .am _=>[]
 | .ls ps=>qo ps
theorem ue (b:Tr) (ho:qr b) (F:Nat->Prop) (w:World) (s v:Value) (hv:zW F w (vY b) [s,v]) :
 Calls No 35 #[.agg #[s,v]] w fun en w'=>en=.returned (str (xC b))/\Below w.heap.size w w':=by
 obtain ⟨a2,c2,e,hk⟩:=q_ hv;simp only [OL,and_true] at e;obtain ⟨rfl,rfl⟩:=e;cases b with
 | am a =>
   have ha:=am_ne ho;clear hv hk;simp only [qE,jW];go_enter Ud,TI;go_wp2_with fail
   go_ret;exact ⟨by rw [xC];rfl,(rZ _ _).alloc (n9 _) _⟩
 | ls kids =>
   simp only [qE,jW] at hk ⊢;obtain ⟨_,_,ek,iI⟩:=yN.of hk;simp only [OK,true_and] at ek;obtain ⟨rfl,rfl⟩:=ek;rw [qr] at ho;cases kids with
   | nil=>exact absurd rfl ho.1
   | cons p ps =>
     obtain ⟨bb,o,s',b2,m2,d2,t,rfl,hbb,ht,u0,u1,hr,lQ,_⟩:=iI 0 (by simp);simp only [List.getElem?_cons_zero,Oz] at ht;subst ht;have HH:=n7 (show xC (.ls (p::ps))=s' by rw [lQ,xC];cases p <;> rfl);simp only [Nat.zero_mul,SI] at u0;have hl0:0<(p::ps).length:=by simp
     have hl1:(((p::ps).length:Int) == 0)=false:=by rw [beq_eq_false_iff_ne];simp;omega
     generalize (p::ps).length=L at *;have hl2:(0:Int)<(L:Int):=by omega
     clear iI hk hv ho u1 hr lQ;go_enter Ud,TI;go_wp2_with fail
     go_ret;exact ⟨by rw [HH.out];rfl,(rZ _ _).alloc (n9 _) _⟩
def x9 (b:Tr):Prop:=∀ (F:Nat->Prop) (w:World) (s v:Value),zW F w (vY b) [s,v] ->
 Calls No 37 #[.agg #[s,v]] w fun en w'=>en=.returned (str (zx b))/\Below w.heap.size w w'
def yB (ps:List Tr) (k:Nat):Bs:=[40]++qT (ps.take k)
theorem fI (b:Tr) (ho:qr b) (hl:Lim (zx b).length) (ih:∀ b',(zx b').length<(zx b).length->qr b'->x9 b'):x9 b:=by
 intro F w s v hv;obtain ⟨a2,c2,e,hk⟩:=q_ hv;simp only [OL,and_true] at e;obtain ⟨rfl,rfl⟩:=e;cases b with
 | am a =>
   have ha:=am_ne ho;clear hv hk ih hl;simp only [qE,jW];go_enter Ue,TJ;go_wp2_with fail
   go_ret;exact ⟨by rw [zx];rfl,(rZ _ _).alloc (n9 _) _⟩
 | ls kids =>
   simp only [qE,jW] at hk ⊢;obtain ⟨_,_,ek,iI⟩:=yN.of hk;simp only [OK,true_and] at ek;obtain ⟨rfl,rfl⟩:=ek;rw [qr] at ho;have IH:=n7 ih;clear ih;have Hh:=ul kids;have hll:=hl.le;have nk:kids.length<=16777216:=by have:=dT kids ho.2;omega
   have HO:=n7 ho;have HT:=n7 Hh;have ATK:=n7 iI;have HJ:=n7 (text_join kids);clear iI hk hv Hh ho hl;go_enter Ue,TJ;go_wp2_with fail
   go_loopw [3,4] (fun n i wr=>∃ k:Nat,k<=kids.length/\i=.int .i64 k/\n=str (yB kids k)/\Below w.heap.size w wr/\BoxT w.heap.size [] (.slice a2 kids.length c2) wr) (fun _ i _=>kids.length-(intOf i).toNat)
   case atStart=>exact ⟨0,OS _,rfl,rfl,(rZ _ _).alloc (n9 _) _,by simp,by simp⟩
   case round =>
    rename_i wr;obtain ⟨k,hk,rfl,rfl,hb,hc⟩:=hrel;obtain ⟨aH,iZ⟩:=id hc;have DC:(yB kids k).length<=(qT kids).length+1:=by
     have:=join_take_len kids k;unfold yB;simp;omega
    by_cases rH:k<kids.length
    ·obtain ⟨bb,o,s',b2,m2,d2,t,rfl,hbb,ht,u0,u1,hr,es,en⟩:=ATK.out k rH;clear es en;have q0:=(hb.cell hbb).trans u0;have q1:=(hb.cell hbb).trans u1;have iF:=(zW.below (F':=F) hb (fun _ h=>h) hr);have F1:=dB kids t (OI ht);have aN:=HT.out;have IH':=n7 (IH.out t (by omega) (dC kids HO.out.2 k t ht));have hz:=n_ wr _ aH;have sS:(k:Int)<(kids.length:Int):=by omega
     have e1:kids.take (k+1)=kids.take k++[t]:=by rw [List.take_add_one,ht];rfl
     by_cases DB:k=0
     focus
      have Et:¬ (0:Int)<(k:Int):=by omega
      have rA:yB kids (k+1)=yB kids k++zx t:=by unfold yB;rw [e1,DB,List.take_zero,List.nil_append,join_one,qT];simp
      obtain ⟨A,hA⟩:=zzM (yB kids k);obtain ⟨T,hT⟩:=zzM (zx t);unfold x9 at IH';rw [<- hA] at rA DC ⊢;rw [<- hT] at rA F1 IH';obtain ⟨O,hO⟩:=zzM (A++T);have a1:=fun w0=>kI (P:=No) A T (by omega) w0;rw [<- hO] at a1 rA;have HS:=n7 rA;clear DB rA hA hT hO e1 ht u0 u1 hr aN F1
     rotate_left
     focus
      have Et:(0:Int)<(k:Int):=by omega
      have rA:yB kids (k+1)=yB kids k++[32]++zx t:=by unfold yB;rw [e1,join_snoc _ _ (by intro h;have:=congrArg PY h;rw [List.length_take] at this;simp only [Pd] at this;omega)];simp
      obtain ⟨A,hA⟩:=zzM (yB kids k);obtain ⟨T,hT⟩:=zzM (zx t);unfold x9 at IH';rw [<- hA] at rA DC ⊢;rw [<- hT] at rA F1 IH';obtain ⟨A1,NQ⟩:=zzM (A++[32]);have lA1:A1.length=A.length+1:=by rw [NQ];simp
      obtain ⟨O,hO⟩:=zzM (A1++T);have a0:=fun w0=>kI (P:=No) A [32] (by simp;omega) w0;have a1:=fun w0=>kI (P:=No) A1 T (by omega) w0;rw [<- NQ] at a0 rA;rw [<- hO] at a1 rA;have HS:=n7 rA;clear rA hA hT hO NQ lA1 e1 ht u0 u1 hr aN F1
     all_goals
      go_wp2_with fail
      (with_reducible refine (IH'.out _ _ _ _ iF).mono ?_);rintro en w2 ⟨rfl,rY⟩
      have rE:=zzT hb rY;obtain ⟨aH,iZ⟩:=id (hc.below rY);have Fs:=n7 (hc.below rY);go_wp2_with fail
      go_roundw
      case rel=>exact ⟨k+1,by omega,by go_num,by rw [<- HS.out],rE,Fs.out⟩
      case measure=>simp [intOf];omega
    ·obtain rfl:k=kids.length:=by omega
     have hj:zx (.ls kids)=yB kids kids.length++[41]:=by rw [HJ.out];unfold yB;rw [OT]
     have AG:¬ ((kids.length:Int)<(kids.length:Int)):=by omega
     obtain ⟨A,hA⟩:=zzM (yB kids kids.length);rw [<- hA] at hj DC ⊢;obtain ⟨O,hO⟩:=zzM (A++[41]);have aN:=HT.out;have a1:=fun w0=>kI (P:=No) A [41] (by simp;omega) w0;rw [<- hO] at a1 hj;have HS:=n7 hj;clear hj hA hO aN;go_wp2_with fail
     go_ret;exact ⟨by rw [HS.out];rfl,hb⟩
theorem cz (n:Nat):∀ b,(zx b).length<=n->Lim n->qr b->x9 b:=by
 induction n with
 | zero=>intro b h hn ho;exact fI b ho (hn.mono h) (fun b' h' _=>by omega)
 | succ n ih=>exact fun b h hn ho=>fI b ho (hn.mono h) (fun b' h' Dz=>ih b' (by omega) (hn.mono (by omega)) Dz)
theorem TypeValid_any (l:Bs) (hl:Lim l.length) (w:World):Calls No 90 #[str l] w fun en w'=>en=.returned (.bool (zR l).2)/\Below w.heap.size w w':=by
 have C:=n7 (x5 l hl w);generalize hB:(zR l).2=B;have HB:=n7 hB;clear hB;go_enter Tryz.func90,Tryz.ntmps90;go_wp2_with fail
 (with_reducible refine C.out.mono ?_);rintro en w1 ⟨v,rfl,hb,hv⟩
 obtain ⟨a1,c1,e1⟩:=kP hv;subst e1;clear hv;rw [HB.out];generalize (zR l).1.args.length=n1;go_wp2_with fail
 refine bodyPost_ret (v:=.bool B) (by simp [results,Tryz.results90,go_sem]) rfl ?_;exact ⟨rfl,by repeat (first | exact hb | refine Below.alloc ?_ hb.size _ | refine Below.setCell ?_ (by simp;exact hb.size) _)⟩
theorem yN.some {F:Nat->Prop} {w:World} {bs:List Tr} {a:Option Addr} (h:yN F w bs a) (hp:0<bs.length):∃ bb o,a=.some ⟨bb,o,none⟩/\bb<w.heap.size:=by
 obtain ⟨b,o,_,_,_,_,_,e,hb,_⟩:=h 0 hp;exact ⟨b,o,e,hb⟩
theorem yN.get {F:Nat->Prop} {w:World} {bs:List Tr} {bb o:Nat} (h:yN F w bs (.some ⟨bb,o,none⟩)) {k:Nat} {t:Tr} (ht:bs[k]? = .some t) :
 ∃ a2 c2,w.cell? ⟨bb,o+k*2,none⟩=.some (str (qE t))/\w.cell? ⟨bb,o+k*2+1,none⟩=.some (.slice a2 (jW t).length c2)/\zW F w (vY t) [str (qE t),.slice a2 (jW t).length c2]:=by
 obtain ⟨b,o',s,a2,n2,c2,d,e,hb,hd,u0,u1,hr,es,en⟩:=h k (OB.1 ht).1;simp only [Oz,Addr.mk.injEq,and_true] at e;obtain ⟨rfl,rfl⟩:=e;rw [ht] at hd;obtain rfl:=OM hd;subst es;subst en;exact ⟨a2,c2,u0,u1,hr⟩
theorem isTr_no3 {ps:List Tr} (h:qo ps=vo) (hl:ps.length≠3):qy (.ls ps)=false:=by
 match ps with
 | []=>exact (qy.eq_def _).trans rfl
 | [a]=>exact (qy.eq_def _).trans rfl
 | [a,b]=>exact (qy.eq_def _).trans rfl
 | [a,b,c]=>simp at hl
 | [a,b,c,d] =>
   have h':qo [a]=vo:=by cases a <;> exact h
   rw [qy,h'];rfl
 | a::b::c::d::e::ps=>exact (qy.eq_def _).trans rfl
theorem isTr_no4 {ps:List Tr} (h:qo ps=jo\/qo ps=ifW) (hl:ps.length≠4):qy (.ls ps)=false:=by
 match ps with
 | []=>exact (qy.eq_def _).trans rfl
 | [a]=>exact (qy.eq_def _).trans rfl
 | [a,b]=>exact (qy.eq_def _).trans rfl
 | [a,b,c] =>
   have h':qo [a]=jo\/qo [a]=ifW:=by cases a <;> exact h
   rw [qy];rcases h' with h' | h' <;> (rw [h'];rfl)
 | [a,b,c,d]=>simp at hl
 | a::b::c::d::e::ps=>exact (qy.eq_def _).trans rfl
theorem isTr_noW {ps:List Tr} (h1:qo ps≠jo) (h2:qo ps≠vo) (h3:qo ps≠ifW):qy (.ls ps)=false:=by
 match ps with
 | []=>exact (qy.eq_def _).trans rfl
 | [a]=>exact (qy.eq_def _).trans rfl
 | [a,b]=>exact (qy.eq_def _).trans rfl
 | [a,b,c] =>
   have h':qo [a]≠vo:=by cases a <;> exact h2
   rw [qy,beq_false_of_ne h'];rfl
 | [a,b,c,d] =>
   have h':qo [a]≠jo:=by cases a <;> exact h1
   have h'':qo [a]≠ifW:=by cases a <;> exact h3
   rw [qy,beq_false_of_ne h',beq_false_of_ne h''];rfl
 | a::b::c::d::e::ps=>exact (qy.eq_def _).trans rfl
theorem isTr_lam {a b c d:Tr} (h:qo [a,b,c,d]=jo):qy (.ls [a,b,c,d])=(qL (qE b) && (zR (zx c)).2 && qy d):=by
 have h':qo [a]=jo:=by cases a <;> exact h
 rw [qy,h'];have e1:(jo == jo)=true:=by decide
 have e2:(jo == ifW)=false:=by decide
 rw [e1,e2,RB,S9,Bool.or_false,Bool.and_assoc]
theorem isTr_if {a b c d:Tr} (h:qo [a,b,c,d]=ifW):qy (.ls [a,b,c,d])=(qy b && qy c && qy d):=by
 have h':qo [a]=ifW:=by cases a <;> exact h
 rw [qy,h'];have e1:(ifW == jo)=false:=by decide
 have e2:(ifW == ifW)=true:=by decide
 rw [e1,e2,RB,S9,Bool.false_or]
theorem isTr_app {a b c:Tr} (h:qo [a,b,c]=vo):qy (.ls [a,b,c])=(qy b && qy c):=by
 have h':qo [a]=vo:=by cases a <;> exact h
 rw [qy,h'];have e2:(vo == vo)=true:=by decide
 rw [e2,RB]
def d9 (b:Tr):Prop:=∀ (F:Nat->Prop) (w:World) (s v:Value),zW F w (vY b) [s,v] ->
 Calls No 65 #[.agg #[s,v]] w fun en w'=>en=.returned (.bool (qy b))/\Below w.heap.size w w'
structure PartAt (F:Nat->Prop) (w:World) (bb o k:Nat) (t:Tr) (a2:Option Addr) (c2:Nat):Prop where
 blk:bb<w.heap.size
 c0:w.cell? ⟨bb,o+k,none⟩=.some (str (qE t))
 c1:w.cell? ⟨bb,o+(k+1),none⟩=.some (.slice a2 (jW t).length c2)
 rp:zW F w (vY t) [str (qE t),.slice a2 (jW t).length c2]
theorem PartAt.below {F:Nat->Prop} {w w':World} {bb o k:Nat} {t:Tr} {a2:Option Addr} {c2:Nat} (h:PartAt F w bb o k t a2 c2) (hb:Below w.heap.size w w'):PartAt F w' bb o k t a2 c2 :=
 ⟨rQ h.blk hb.size,(hb.cell (by exact h.blk)).trans h.c0,(hb.cell (by exact h.blk)).trans h.c1,zW.below hb (fun _ h=>h) h.rp⟩
theorem yN.part {F:Nat->Prop} {w:World} {bs:List Tr} {bb o:Nat} (h:yN F w bs (.some ⟨bb,o,none⟩)) (hb:bb<w.heap.size) {k:Nat} {t:Tr} (ht:bs[k]? = .some t):∃ a2 c2,PartAt F w bb o (k*2) t a2 c2:=by
 obtain ⟨a2,c2,u0,u1,hr⟩:=h.get ht;exact ⟨a2,c2,hb,u0,u1,hr⟩
theorem l5Is_step (b:Tr) (ho:qr b) (hl:Lim (zx b).length) (ih:∀ b',(zx b').length<(zx b).length->qr b'->d9 b'):d9 b:=by
 intro F w s v hv;have hvv:=n7 hv;have CH:=n7 (fun wz (hb:Below w.heap.size w wz)=>ue b ho F wz s v (zW.below hb (fun _ h=>h) hvv.out));obtain ⟨a2,c2,e,hk⟩:=q_ hv;simp only [OL,and_true] at e;obtain ⟨rfl,rfl⟩:=e;cases b with
 | am a =>
   have ha:=am_ne ho;have hla:Lim a.length:=hl.mono (by rw [zx];exact n9 _);have CN:=n7 (fun wz=>mo a wz hla);have HI:=n7 (show qy (.am a)=(jP a || qL a) by rw [qy]);clear hv hk ih hl hla CH hvv ho;simp only [qE,jW];by_cases h1:a=[116]
   ·subst h1;go_enter Rq,Q4;go_wp2_with fail
    go_ret;exact ⟨by rw [HI.out];rfl,(rZ _ _).alloc (n9 _) _⟩
   by_cases h2:a=[102]
   ·subst h2;go_enter Rq,Q4;go_wp2_with fail
    go_ret;exact ⟨by rw [HI.out];rfl,(rZ _ _).alloc (n9 _) _⟩
   by_cases h3:a=[117]
   ·subst h3;go_enter Rq,Q4;go_wp2_with fail
    go_ret;exact ⟨by rw [HI.out];rfl,(rZ _ _).alloc (n9 _) _⟩
   have n1:(a == [116])=false:=by rw [beq_eq_false_iff_ne];exact h1
   have n2:(a == [102])=false:=by rw [beq_eq_false_iff_ne];exact h2
   have n3:(a == [117])=false:=by rw [beq_eq_false_iff_ne];exact h3
   have HL:=n7 (show jP a=false by simp [jP,n1,n2,n3]);clear h1 h2 h3;go_enter Rq,Q4;go_wp2_with fail
   (with_reducible refine (CN.out _).mono ?_);rintro en w1 ⟨rfl,e⟩
   subst w1;go_wp2_with fail
   go_ret;exact ⟨by rw [HI.out,HL.out];rfl,(rZ _ _).alloc (n9 _) _⟩
 | ls kids =>
   simp only [qE,jW] at hk CH hvv ⊢;obtain ⟨_,_,ek,iI⟩:=yN.of hk;simp only [OK,true_and] at ek;obtain ⟨rfl,rfl⟩:=ek;rw [qr] at ho;have IH:=n7 ih;clear ih;have hp0:0<kids.length:=P4.2 ho.1;obtain ⟨bb,o,rfl,hbb⟩:=iI.some hp0;have HO:=n7 ho;have HT:=n7 (n8 (ul kids) hl);have ATK:=n7 iI;have oI:kids.length<=16777216:=by have:=dT kids ho.2;have:=ul kids;have:=hl.le;omega
   have sub:∀ (t:Tr),t∈kids->qr t/\Lim (zx t).length/\d9 t:=fun t ht=>by
    obtain ⟨k,hk⟩:=List.getElem?_of_mem ht;have h1:=dC kids HO.out.2 k t hk;have h2:=dB kids t ht;have h3:=HT.out.1;have h4:=HT.out.2.le;exact ⟨h1,(show _<=_ by omega),IH.out t (by omega) h1⟩
   have SUB:=n7 sub;have iT:BoxT w.heap.size [] (.slice (.some ⟨bb,o,none⟩) kids.length c2) (w.alloc (.cells #[str [],.slice (.some ⟨bb,o,none⟩) kids.length c2] 39)):=⟨by simp,by simp⟩;have HBX:=n7 iT;have tw:Hid (Below w.heap.size w (w.alloc (.cells #[str [],.slice (.some ⟨bb,o,none⟩) kids.length c2] 39))):=(rZ _ _).alloc (n9 _) _;clear iI hk hv hvv ho hl sub iT;go_enter Rq,Q4;go_wp2_with fail
   (with_reducible refine (CH.out _ tw.out).mono ?_);rintro en w1 ⟨rfl,rW⟩
   have Nn:Below w.heap.size w w1:=zzT tw.out rW;have iC:=n7 (HBX.out.below rW);have sZ:=n7 Nn;clear rW Nn HBX tw CH;obtain ⟨hd,Hx⟩:=zzM (xC (.ls kids));rw [<- Hx];have HD:Hid (qo kids=hd):=Hx.symm;clear Hx;have nl:(4:Int)=(kids.length:Int)\/¬ (4:Int)=(kids.length:Int):=by omega
   by_cases iN:hd=jo
   ·have q0:(hd == [108,97,109])=true:=by rw [beq_iff_eq];exact iN
    have HL:=n7 iN;clear iN;obtain ⟨x0,x1⟩:=iC.out;by_cases h4:kids.length=4
    ·obtain ⟨p0,p1,p2,p3,rfl⟩:∃ a b c d,kids=[a,b,c,d]:=by
      match kids,h4 with
      | [a,b,c,d],_=>exact ⟨a,b,c,d,rfl⟩
     obtain ⟨a1,k1,P1⟩:=(ATK.out.part hbb (k:=1) (t:=p1) rfl).imp fun _ h=>h;obtain ⟨a3,k3,P2⟩:=(ATK.out.part hbb (k:=2) (t:=p2) rfl).imp fun _ h=>h;obtain ⟨a5,k5,P3⟩:=(ATK.out.part hbb (k:=3) (t:=p3) rfl).imp fun _ h=>h;have HI:=n7 (isTr_lam (a:=p0) (b:=p1) (c:=p2) (d:=p3) (by rw [HD.out,HL.out]));have S1:=n7 (SUB.out p1 (by simp));have S2:=n7 (SUB.out p2 (by simp));have S3:=n7 (SUB.out p3 (by simp));have PP:=n7 (n8 P1 (n8 P2 P3));have lat:Lim (qE p1).length:=by
      cases p1 with
      | am a=>have:=S1.out.2.1;rw [zx] at this;exact this
      | ls ps=>exact OS _
     have CN:=n7 (fun wz=>mo (qE p1) wz lat);obtain ⟨y0,y1⟩:=n8 (P1.below sZ.out).c0 (P1.below sZ.out).c1;have sJ:=(P1.below sZ.out).blk;have oL:(([p0,p1,p2,p3]:List Tr).length:Nat)=4:=rfl;rw [oL] at x1 ⊢;simp only [Qm,Qa,PN] at y0 y1;clear P1 P2 P3 h4 oL lat oI hp0 nl;go_wp2_with fail
     (with_reducible refine (CN.out _).mono ?_);rintro en w2 ⟨rfl,e⟩
     subst w2;cases hn:qL (qE p1) with
     | false =>
       have HN:=n7 hn;clear hn;go_wp2_with fail
       go_ret;exact ⟨by rw [HI.out,HN.out];rfl,sZ.out⟩
     | true =>
       have HN:=n7 hn;clear hn;have P2:=PP.out.2.1.below sZ.out;have CT:=n7 (cz _ p2 (n9 _) S2.out.2.1 S2.out.1 F w1 _ _ P2.rp);obtain ⟨y2,y3⟩:=n8 P2.c0 P2.c1;simp only [Qm,Qa,PN] at y2 y3;clear P2 y0 y1;go_wp2_with fail
       (with_reducible refine CT.out.mono ?_);rintro en w2 ⟨rfl,rY⟩
       have rh:=n7 (zzT sZ.out rY);have K4:=n7 (iC.out.below rY);have CV:=n7 (TypeValid_any (zx p2) S2.out.2.1 w2);clear rY x0 x1 y2 y3 sJ;go_wp2_with fail
       (with_reducible refine CV.out.mono ?_);rintro en w3 ⟨rfl,rE⟩
       have aZ:=n7 (zzT rh.out rE);have HX3:=n7 (K4.out.below rE);clear rE;cases hv:(zR (zx p2)).2 with
       | false =>
         have HV:=n7 hv;clear hv;go_wp2_with fail
         go_ret;exact ⟨by rw [HI.out,HN.out,HV.out];rfl,aZ.out⟩
       | true =>
         have HV:=n7 hv;clear hv;have P3:=PP.out.2.2.below aZ.out;have CI:=n7 (S3.out.2.2 F w3 _ _ P3.rp);obtain ⟨x0,x1⟩:=HX3.out;obtain ⟨y2,y3⟩:=n8 P3.c0 P3.c1;have sJ:=P3.blk;have oL:(([p0,p1,p2,p3]:List Tr).length:Nat)=4:=rfl;rw [oL] at x1;simp only [Qm,Qa,PN] at y2 y3;clear P3 oL;go_wp2_with fail
         (with_reducible refine CI.out.mono ?_);rintro en w4 ⟨rfl,rq⟩
         go_wp2_with fail
         go_ret;exact ⟨by rw [HI.out,HN.out,HV.out];rfl,zzT aZ.out rq⟩
    ·have hne:((kids.length:Int) == 4)=false:=by rw [beq_eq_false_iff_ne];omega
     have HI:=n7 (isTr_no4 (.inl (by rw [HD.out,HL.out])) h4);clear h4;go_wp2_with fail
     go_ret;exact ⟨by rw [HI.out];rfl,sZ.out⟩
   have q0:(hd == [108,97,109])=false:=by rw [beq_eq_false_iff_ne];exact iN
   by_cases De:hd=vo
   ·have q1:(hd == [97,112,112])=true:=by rw [beq_iff_eq];exact De
    have HL:=n7 De;clear De iN;obtain ⟨x0,x1⟩:=iC.out;by_cases h4:kids.length=3
    ·obtain ⟨p0,p1,p2,rfl⟩:∃ a b c,kids=[a,b,c]:=by
      match kids,h4 with
      | [a,b,c],_=>exact ⟨a,b,c,rfl⟩
     obtain ⟨a1,k1,P1⟩:=(ATK.out.part hbb (k:=1) (t:=p1) rfl).imp fun _ h=>h;obtain ⟨a3,k3,P2⟩:=(ATK.out.part hbb (k:=2) (t:=p2) rfl).imp fun _ h=>h;have HI:=n7 (isTr_app (a:=p0) (b:=p1) (c:=p2) (by rw [HD.out,HL.out]));have S1:=n7 (SUB.out p1 (by simp));have S2:=n7 (SUB.out p2 (by simp));have PP:=n7 (n8 P1 P2);have CI1:=n7 (S1.out.2.2 F w1 _ _ (P1.below sZ.out).rp);obtain ⟨y0,y1⟩:=n8 (P1.below sZ.out).c0 (P1.below sZ.out).c1;have sJ:=(P1.below sZ.out).blk;have oL:(([p0,p1,p2]:List Tr).length:Nat)=3:=rfl;rw [oL] at x1 ⊢;simp only [Qm,Qa,PN] at y0 y1;clear P1 P2 h4 oL oI hp0 nl;go_wp2_with fail
     (with_reducible refine CI1.out.mono ?_);rintro en w2 ⟨rfl,rY⟩
     have rh:=n7 (zzT sZ.out rY);have K4:=n7 (iC.out.below rY);clear rY x0 x1 y0 y1 sJ;cases hn:qy p1 with
     | false =>
       have HN:=n7 hn;clear hn;go_wp2_with fail
       go_ret;exact ⟨by rw [HI.out,HN.out];rfl,rh.out⟩
     | true =>
       have HN:=n7 hn;clear hn;have P2:=PP.out.2.below rh.out;have CI2:=n7 (S2.out.2.2 F w2 _ _ P2.rp);obtain ⟨x0,x1⟩:=K4.out;obtain ⟨y2,y3⟩:=n8 P2.c0 P2.c1;have sJ:=P2.blk;have oL:(([p0,p1,p2]:List Tr).length:Nat)=3:=rfl;rw [oL] at x1;simp only [Qm,Qa,PN] at y2 y3;clear P2 oL;go_wp2_with fail
       (with_reducible refine CI2.out.mono ?_);rintro en w4 ⟨rfl,rq⟩
       go_wp2_with fail
       go_ret;exact ⟨by rw [HI.out,HN.out];rfl,zzT rh.out rq⟩
    ·have hne:((kids.length:Int) == 3)=false:=by rw [beq_eq_false_iff_ne];omega
     have HI:=n7 (isTr_no3 (by rw [HD.out,HL.out]) h4);clear h4;go_wp2_with fail
     go_ret;exact ⟨by rw [HI.out];rfl,sZ.out⟩
   have q1:(hd == [97,112,112])=false:=by rw [beq_eq_false_iff_ne];exact De
   by_cases KB:hd=ifW
   ·have q2:(hd == [105,102])=true:=by rw [beq_iff_eq];exact KB
    have HL:=n7 KB;clear KB De iN;obtain ⟨x0,x1⟩:=iC.out;by_cases h4:kids.length=4
    ·obtain ⟨p0,p1,p2,p3,rfl⟩:∃ a b c d,kids=[a,b,c,d]:=by
      match kids,h4 with
      | [a,b,c,d],_=>exact ⟨a,b,c,d,rfl⟩
     obtain ⟨a1,k1,P1⟩:=(ATK.out.part hbb (k:=1) (t:=p1) rfl).imp fun _ h=>h;obtain ⟨a3,k3,P2⟩:=(ATK.out.part hbb (k:=2) (t:=p2) rfl).imp fun _ h=>h;obtain ⟨a5,k5,P3⟩:=(ATK.out.part hbb (k:=3) (t:=p3) rfl).imp fun _ h=>h;have HI:=n7 (isTr_if (a:=p0) (b:=p1) (c:=p2) (d:=p3) (by rw [HD.out,HL.out]));have S1:=n7 (SUB.out p1 (by simp));have S2:=n7 (SUB.out p2 (by simp));have S3:=n7 (SUB.out p3 (by simp));have PP:=n7 (n8 P1 (n8 P2 P3));have CI1:=n7 (S1.out.2.2 F w1 _ _ (P1.below sZ.out).rp);obtain ⟨y0,y1⟩:=n8 (P1.below sZ.out).c0 (P1.below sZ.out).c1;have sJ:=(P1.below sZ.out).blk;have oL:(([p0,p1,p2,p3]:List Tr).length:Nat)=4:=rfl;rw [oL] at x1 ⊢;simp only [Qm,Qa,PN] at y0 y1;clear P1 P2 P3 h4 oL oI hp0 nl;go_wp2_with fail
     (with_reducible refine CI1.out.mono ?_);rintro en w2 ⟨rfl,rY⟩
     have rh:=n7 (zzT sZ.out rY);have K4:=n7 (iC.out.below rY);clear rY x0 x1 y0 y1 sJ;cases hn:qy p1 with
     | false =>
       have HN:=n7 hn;clear hn;go_wp2_with fail
       go_ret;exact ⟨by rw [HI.out,HN.out];rfl,rh.out⟩
     | true =>
       have HN:=n7 hn;clear hn;have P2:=PP.out.2.1.below rh.out;have CI2:=n7 (S2.out.2.2 F w2 _ _ P2.rp);obtain ⟨x0,x1⟩:=K4.out;obtain ⟨y2,y3⟩:=n8 P2.c0 P2.c1;have sJ:=P2.blk;have oL:(([p0,p1,p2,p3]:List Tr).length:Nat)=4:=rfl;rw [oL] at x1;simp only [Qm,Qa,PN] at y2 y3;clear P2 oL;go_wp2_with fail
       (with_reducible refine CI2.out.mono ?_);rintro en w4 ⟨rfl,rq⟩
       have lS:=n7 (zzT rh.out rq);have HX4:=n7 (K4.out.below rq);clear rq x0 x1 y2 y3 sJ;cases iU:qy p2 with
       | false =>
         have Oi:=n7 iU;clear iU;go_wp2_with fail
         go_ret;exact ⟨by rw [HI.out,HN.out,Oi.out];rfl,lS.out⟩
       | true =>
         have Oi:=n7 iU;clear iU;have P3:=PP.out.2.2.below lS.out;have CI3:=n7 (S3.out.2.2 F w4 _ _ P3.rp);obtain ⟨x0,x1⟩:=HX4.out;obtain ⟨y2,y3⟩:=n8 P3.c0 P3.c1;have sJ:=P3.blk;have oL:(([p0,p1,p2,p3]:List Tr).length:Nat)=4:=rfl;rw [oL] at x1;simp only [Qm,Qa,PN] at y2 y3;clear P3 oL;go_wp2_with fail
         (with_reducible refine CI3.out.mono ?_);rintro en w5 ⟨rfl,rx⟩
         go_wp2_with fail
         go_ret;exact ⟨by rw [HI.out,HN.out,Oi.out];rfl,zzT lS.out rx⟩
    ·have hne:((kids.length:Int) == 4)=false:=by rw [beq_eq_false_iff_ne];omega
     have HI:=n7 (isTr_no4 (.inr (by rw [HD.out,HL.out])) h4);clear h4;go_wp2_with fail
     go_ret;exact ⟨by rw [HI.out];rfl,sZ.out⟩
   have q2:(hd == [105,102])=false:=by rw [beq_eq_false_iff_ne];exact KB
   have HI:=n7 (isTr_noW (by rw [HD.out];exact iN) (by rw [HD.out];exact De) (by rw [HD.out];exact KB));clear iN De KB;go_wp2_with fail
   go_ret;exact ⟨by rw [HI.out];rfl,sZ.out⟩
theorem l5Is_any (n:Nat):∀ b,(zx b).length<=n->Lim n->qr b->d9 b:=by
 induction n with
 | zero=>intro b h hn ho;exact l5Is_step b ho (hn.mono h) (fun b' h' _=>by omega)
 | succ n ih=>exact fun b h hn ho=>l5Is_step b ho (hn.mono h) (fun b' h' Dz=>ih b' (by omega) (hn.mono (by omega)) Dz)
def dH (e:Nat) (m:Bs):Option (List Tr×Bs):=xX (vH e) (m.length+1) m
theorem rdAll_eq (e:Nat) (m:Bs):dH e m=(vH e m).bind fun x=>match x.2 with
 | []=>none
 | c::r=>if c=41 then some ([x.1],r) else if c=32 then (dH e r).map fun y=>(x.1::y.1,y.2) else none:=by
 unfold dH;rw [xX];cases h:vH e m with
 | none=>rfl
 | some x =>
   obtain ⟨t,r1⟩:=x;simp only [Option.bind_some];cases r1 with
   | nil=>rfl
   | cons c r =>
     have hl:=yW e _ _ _ h;simp only [OD] at hl;simp only;rw [mz (yW e) m.length (r.length+1) r (by omega) (by omega)]
theorem rdTr_all (e:Nat) (r:Bs):vH (e+1) (40::r)=(dH e r).map fun y=>(.ls y.1,y.2):=bG e r
theorem rdTr_suffix {e:Nat} {m r:Bs} {t:Tr} (h:vH e m=some (t,r)):r <:+ m:=by
 obtain ⟨e1,_⟩:=xo e m t r h;exact ⟨_,e1.symm⟩
def uG (L:Nat) (w:World) (o:Option (Tr×Bs)) (en:Ending) (w':World):Prop :=
 ∃ (s:Bs) (a:Option Addr) (n c:Nat) (k:Int),en=.returned (.tuple #[.agg #[str s,.slice a n c],.int .i64 k])/\Below w.heap.size w w'/\(o=none->k = -1) /\
   (∀ t rest,o=some (t,rest)->k=(L:Int)-rest.length/\zW (w.heap.size<=·) w' (vY t) [str s,.slice a n c])
theorem uG.no {L:Nat} {w w':World} {o:Option (Tr×Bs)} {s:Bs} {a:Option Addr} {n c:Nat} (ho:o=.none) (hb:Below w.heap.size w w'):uG L w o (.returned (.tuple #[.agg #[str s,.slice a n c],.int .i64 (-1)])) w' :=
 ⟨s,a,n,c,_,rfl,hb,fun _=>rfl,fun _ _ h=>by rw [ho] at h;simp at h⟩
theorem uG.yes {L:Nat} {w w':World} {o:Option (Tr×Bs)} {t:Tr} {rest s:Bs} {a:Option Addr} {n c:Nat} {k:Int} (ho:o=.some (t,rest)) (hk:k=(L:Int)-rest.length) (hb:Below w.heap.size w w')
 (hv:zW (w.heap.size<=·) w' (vY t) [str s,.slice a n c]):uG L w o (.returned (.tuple #[.agg #[str s,.slice a n c],.int .i64 k])) w' :=
 ⟨s,a,n,c,k,rfl,hb,fun h=>by rw [ho] at h;simp at h,fun _ _ h=>by rw [ho] at h;simp at h;obtain ⟨rfl,rfl⟩:=h;exact ⟨hk,hv⟩⟩
def TrSaid (l:Bs) (e:Nat):Prop:=∀ (d i:Nat) (w:World),e+d=101->i<=l.length ->
    Calls No 64 #[str l,.int .i64 i,.int .i64 d] w (uG l.length w (vH e (l.drop i)))
def vT (ob:Nat) (s:Bs) (slv:Value) (w:World):Prop:=w.heap[ob]? = some (.cells #[str s,slv] 39 (0,0))
theorem vT.cells {ob:Nat} {s:Bs} {sl:Value} {w:World} (h:vT ob s sl w):w.cell? ⟨ob,0,none⟩=some (str s)/\w.cell? ⟨ob,1,none⟩=some sl/\ob<w.heap.size/\(∀ o,w.frozen? ⟨ob,o,none⟩=false):=by
 have hl:=zZ h;unfold vT at h;exact ⟨by simp [Li,h],by simp [Li,h],hl,fun o=>by simp [World.frozen?,h]⟩
theorem vT.put1 {ob:Nat} {s:Bs} {sl u:Value} {w:World} (h:vT ob s sl w):vT ob s u (w.setCell ⟨ob,1,none⟩ u):=by
 unfold vT;rw [zg h];rfl
theorem vT.below {ob:Nat} {s:Bs} {sl:Value} {w w':World} {B:Nat} (h:vT ob s sl w) (hb:Below B w w') (hm:ob<B):vT ob s sl w':=by
 unfold vT;rw [hb.block ob hm];exact h
theorem vT.store {ob:Nat} {s:Bs} {sl:Value} {w:World} (h:vT ob s sl w) (u0 u1:Value) :
 ∃ W,W=((w.setCell ⟨ob,0,none⟩ u0).setCell ⟨ob,1,none⟩ u1)/\W.cell? ⟨ob,0,none⟩=some u0/\W.cell? ⟨ob,1,none⟩=some u1 /\
   (∀ B w0,Below B w0 w->B<=ob->Below B w0 W)/\(∀ i x,i≠ob->w.heap[i]? = some x->W.heap[i]? = some x):=by
 have hc:((w.setCell ⟨ob,0,none⟩ u0).setCell ⟨ob,1,none⟩ u1).heap[ob]? = some (.cells #[u0,u1] 39 (0,0)):=by
  unfold vT at h;rw [zg (zg h)];rfl
 refine ⟨_,rfl,by simp only [Li,hc];rfl,by simp only [Li,hc];rfl,fun B w0 hb hB=>?_,fun i x hi hx=>?_⟩
 ·exact ((hb.setCell (p:=⟨ob,0,none⟩) hB _).setCell (p:=⟨ob,1,none⟩) hB _)
 ·rw [rK _ _ _ _ (by simpa using hi),rK _ _ _ _ (by simpa using hi)];exact hx
theorem zu.lit2 {w:World} {e:TypeId} (cs:Array Value) (hn:cs.size=2) (hc:∀ u∈cs.toList,u.oneCell'=true) (g:Nat) (hg:g=w.heap.size):zu 2 (.slice (some ⟨g,0,none⟩) 1 1) 1 cs.toList (w.alloc (.cells cs e)):=by
 subst hg;refine ⟨by simp [hn],hc,.inl ⟨_,_,rfl,fun j u hu=>?_⟩⟩;unfold Addr.add;split
 ·subst j;simp;simpa using hu
 ·simp;simpa using hu
theorem word_in {m:Bs} {j:Nat} (h:j<(zN m).length):∃ hm:j<m.length,sep m[j]=false:=by
 have sw:=y7 m;have hm:j<m.length:=by omega
 refine ⟨hm,?_⟩;have h1:m[j]=(zN m)[j]:=by
  have e:=xQ m
  have:m[j]? = (zN m)[j]?:=by conv=>lhs;rw [<- e]
                              rw [List.getElem?_append_left h]
  rw [PH hm,PH h] at this;exact OM this
 rw [h1];have:=tw_all (fun c=>!sep c) m _ (List.getElem_mem h);simpa using this
theorem word_out {m:Bs} (h:(zN m).length<m.length):sep m[(zN m).length]=true:=by
 have h2:(!sep m[(zN m).length])=false:=tw_end (fun c=>!sep c) m h;simpa using h2
structure nw (w:World) (ob Z:Nat) (wr:World) (ps:List Tr) (vs:List Value) (sl:Value):Prop where
 below:Below w.heap.size w wr
 res:vT w.heap.size [] (.slice none 0 0) wr
 out:vT ob [] sl wr
 own:Own wr 39 2 sl ps.length vs
 blk:∀ g,sl.ownBlock=some g->Z<=g
 rep:zW (fun b=>Z<=b/\sl.ownBlock≠some b) wr (vW ps) vs
 z:Z<=wr.heap.size
theorem nw.next {w:World} {ob Z:Nat} {wr:World} {ps:List Tr} {vs:List Value} {sl:Value} (h:nw w ob Z wr ps vs sl) (E8:ob<Z) (hwo:w.heap.size<ob) {W w7:World} {t:Tr} {cs:List Value} {a':Option Addr} {c':Nat}
 (rC:Below wr.heap.size wr W) (hcs:zW (wr.heap.size<=·) W (vY t) cs) (r9:Own w7 39 2 (.slice a' (ps.length+1) c') (ps.length+1) (vs++cs)) (rP:But (fun i=>sl.ownBlock=some i) W w7)
 (rL:∀ g,(Value.slice a' (ps.length+1) c').ownBlock=some g->sl.ownBlock=some g\/g=W.heap.size) :
 nw w ob Z (w7.setCell ⟨ob,1,none⟩ (.slice a' (ps.length+1) c')) (ps++[t]) (vs++cs) (.slice a' (ps.length+1) c'):=by
 have z6:=rC.size;have z7:=rP.size;have zr:=h.z;have keep:∀ i x,wr.heap[i]? = some x->sl.ownBlock≠some i->i≠ob->(w7.setCell ⟨ob,1,none⟩ (.slice a' (ps.length+1) c')).heap[i]? = some x:=by
  intro i x hx h1 h2;have:=zZ hx;rw [rK _ _ _ _ (by simpa using h2),rP.block i (by omega) h1,rC.block i this];exact hx
 have tM:∀ i x,W.heap[i]? = some x->sl.ownBlock≠some i->i≠ob->(w7.setCell ⟨ob,1,none⟩ (.slice a' (ps.length+1) c')).heap[i]? = some x:=by
  intro i x hx h1 h2;have:=zZ hx;rw [rK _ _ _ _ (by simpa using h2),rP.block i (by omega) h1];exact hx
 have ltK:∀ g,sl.ownBlock=some g->g<wr.heap.size:=fun g hg=>h.own.lt hg;have nK:∀ i,i<Z->sl.ownBlock≠some i:=fun i hi e=>by have:=h.blk i e;omega
 have newg:∀ g,(Value.slice a' (ps.length+1) c').ownBlock=some g->Z<=g:=fun g hg=>by
  rcases rL g hg with e | e
  ·exact h.blk g e
  ·omega
 refine ⟨?_,?_,?_,?_,newg,?_,by simp [World.setCell];omega⟩
 ·refine Below.setCell ?_ (show w.heap.size<=ob by omega) _;exact (zzT h.below rC).trans (rP.toBelow (by have:=h.below.size;omega) fun i hi e=>nK i (by omega) e)
 ·exact keep _ _ h.res (nK _ (by omega)) (by omega)
 ·have h1:vT ob [] sl w7:=by
   unfold vT;rw [rP.block ob (by omega) (nK _ E8),rC.block ob (by omega)];exact h.out
  exact h1.put1
 ·rw [show (ps++[t]).length=ps.length+1 from by simp];exact r9.keep fun g o hg ho=>by rw [rK _ _ _ _ (by have:=newg g hg;simp;omega)];exact ho
 ·rw [wE];refine zW.append ?_ ?_
  ·refine (Rep.keep fun x o hx ho=>⟨⟨hx.1,fun e=>?_⟩,?_⟩).2 _ _ h.rep
   ·exact keep x o ho hx.2 (by have:=hx.1;omega)
   ·rcases rL x e with e' | e'
    ·exact hx.2 e'
    ·have:=zZ ho;omega
  ·have e1:vW [t]=vY t:=by simp [vW]
   rw [e1];refine (Rep.keep fun x o hx ho=>⟨⟨by have:=hx;omega,fun e=>?_⟩,?_⟩).2 _ _ hcs
   ·exact tM x o ho (fun e=>by have:=ltK x e;have:=hx;omega) (by have:=hx;omega)
   ·rcases rL x e with e' | e'
    ·have:=ltK x e';have:=hx;omega
    ·have:=zZ ho;omega
theorem dN (l:Bs) (hl:Lim l.length) (e d:Nat) (Eb:e+d=101) (i:Nat) (w:World) (hi:i<=l.length) (a_:∀ h:i<l.length,e=0\/¬ l[i]=40) :
 Calls No 64 #[str l,.int .i64 i,.int .i64 d] w (uG l.length w (vH e (l.drop i))):=by
 have i5:=hl.le;rcases e with _ | e
 ·have CQ:(100:Int)<(d:Int):=by omega
  clear a_;go_enter RS,RH;go_wp2_with fail
  refine bodyPost_ret (v:=.tuple #[.agg #[str [],.slice none 0 0],.int .i64 (-1)]) (by simp [results,P0,go_sem]) rfl ?_;exact uG.no (by rfl) (((rZ _ _).alloc (n9 _) _).alloc (by simp) _)
 have A7:¬ (100:Int)<(d:Int):=by omega
 by_cases rH:i<l.length;rotate_left
 ·clear a_;go_enter RS,RH;go_wp2_with fail
  refine bodyPost_ret (v:=.tuple #[.agg #[str [],.slice none 0 0],.int .i64 (-1)]) (by simp [results,P0,go_sem]) rfl ?_;exact uG.no (by rw [Qv (by omega)];rfl) (((rZ _ _).alloc (n9 _) _).alloc (by simp) _)
 have tE:¬ l[i]=40:=(a_ rH).resolve_left (by omega);clear a_;have M3:=Pv rH;have hm:vH (e+1) (l.drop i)=if zN (l.drop i)=[] then none else some (.am (zN (l.drop i)),zD (l.drop i)):=by rw [M3];exact bH e _ _ tE
 have oH:=y7 (l.drop i);rw [QA] at oH;have hx:(l.take (i+(zN (l.drop i)).length)).drop i=zN (l.drop i):=by
  rw [List.drop_take,Nat.add_sub_cancel_left];exact word_take _
 have F6:∀ j,j<(zN (l.drop i)).length->∃ h:i+j<l.length,sep l[i+j]=false:=fun j hj=>by
  obtain ⟨h1,h2⟩:=word_in hj;rw [QA] at h1;rw [RP] at h2;exact ⟨by omega,h2⟩
 have Jh:l.length<=i+(zN (l.drop i)).length\/∃ h:i+(zN (l.drop i)).length<l.length,sep l[i+(zN (l.drop i)).length]=true:=by
  by_cases h:i+(zN (l.drop i)).length<l.length
  ·right;refine ⟨h,?_⟩;have:=word_out (m:=l.drop i) (by rw [QA];omega);rw [RP] at this;exact this
  ·left;omega
 have EW:(zD (l.drop i)).length+(i+(zN (l.drop i)).length)=l.length:=by omega
 obtain ⟨wd,Gj⟩:=zzM (zN (l.drop i));rw [<- Gj] at hm hx F6 Jh EW oH;have HM:=n7 (n8 hm (n8 F6 (n8 Jh (n8 hx EW))));have f4:=vE rH (n:=40) (by decide) tE;have Jy:i+wd.length<=l.length:=by omega
 clear tE M3 hm hx F6 Jh Gj oH EW;go_enter RS,RH;go_wp2_with fail
 clear f4
 go_loop [1] (fun a=>∃ j:Nat,j<=wd.length/\a=.int .i64 ((i+j:Nat):Int)) (fun a=>i+wd.length-(intOf a).toNat)
 case atStart=>exact ⟨0,OS _,by simp⟩
 case round =>
  obtain ⟨j,hj,rfl⟩:=hrel;by_cases DC:j<wd.length
  ·obtain ⟨GC,hs⟩:=HM.out.2.1 j DC;have oC:¬ l[i+j]=32/\¬ l[i+j]=40/\¬ l[i+j]=41:=by
    simp only [sep,Bool.or_eq_false_iff,beq_eq_false_iff_ne] at hs;exact ⟨hs.1.1,hs.1.2,hs.2⟩
   have f1:=vE GC (n:=32) (by decide) oC.1;have f2:=vE GC (n:=40) (by decide) oC.2.1;have f3:=vE GC (n:=41) (by decide) oC.2.2;clear hs oC;go_wp2_with fail
   go_round
   case rel=>exact ⟨j+1,by omega,by go_num⟩
   case measure=>simp [intOf];omega
  ·obtain rfl:j=wd.length:=by omega
   have tS:l.length<=i+wd.length\/(∃ h:i+wd.length<l.length,((((⟨l.toArray⟩:ByteArray)[i+wd.length]'(k8 h)).toNat:Int) != 32)=false) \/
    (∃ h:i+wd.length<l.length,((((⟨l.toArray⟩:ByteArray)[i+wd.length]'(k8 h)).toNat:Int) != 32)=true/\((((⟨l.toArray⟩:ByteArray)[i+wd.length]'(k8 h)).toNat:Int) != 40)=false) \/
    (∃ h:i+wd.length<l.length,((((⟨l.toArray⟩:ByteArray)[i+wd.length]'(k8 h)).toNat:Int) != 32)=true/\((((⟨l.toArray⟩:ByteArray)[i+wd.length]'(k8 h)).toNat:Int) != 40)=true/\((((⟨l.toArray⟩:ByteArray)[i+wd.length]'(k8 h)).toNat:Int) != 41)=false):=by
    rcases HM.out.2.2.1 with h | ⟨h,hs⟩
    ·exact .inl h
    ·right;simp only [sep,Bool.or_eq_true,beq_iff_eq] at hs;rcases hs with (hs | hs) | hs
     ·exact .inl ⟨h,vd h (n:=32) (by decide) hs⟩
     ·exact .inr (.inl ⟨h,vE h (c:=32) (n:=32) (by decide) (by rw [hs];decide),vd h (n:=40) (by decide) hs⟩)
     ·exact .inr (.inr ⟨h,vE h (c:=32) (n:=32) (by decide) (by rw [hs];decide),vE h (c:=40) (n:=40) (by decide) (by rw [hs];decide),vd h (n:=41) (by decide) hs⟩)
   have hx:((⟨l.toArray⟩:ByteArray).extract i (i+wd.length))=⟨wd.toArray⟩:=by rw [bx,HM.out.2.2.2.1]
   by_cases h0:wd=[]
   ·subst h0;have HN:=n7 (show vH (e+1) (l.drop i)=none by rw [HM.out.1,if_pos rfl]);simp only [Pd,SI] at tS hx Jy ⊢;clear DC hj;rcases tS with h | ⟨h,f1⟩ | ⟨h,f1,f2⟩ | ⟨h,f1,f2,f3⟩
    ·omega
    all_goals
     go_wp2_with fail
     refine bodyPost_ret (v:=.tuple #[.agg #[.string ByteArray.empty,.slice none 0 0],.int .i64 (-1)]) (by simp [results,P0,go_sem]) rfl ?_;exact uG.no (s:=[]) HN.out (((rZ _ _).alloc (n9 _) _).alloc (by simp) _)
   ·have hne:(wd == [])=false:=by rw [beq_eq_false_iff_ne];exact h0
    have A2:wd.isEmpty=false:=by rw [Sc];exact h0
    have HN:=n7 (show vH (e+1) (l.drop i)=some (.am wd,zD (l.drop i)) by rw [HM.out.1,if_neg h0])
    have fin:∀ W:World,Below w.heap.size w W->uG l.length w (vH (e+1) (l.drop i)) (.returned (.tuple #[.agg #[str wd,.slice none 0 0],.int .i64 ((i:Int)+(wd.length:Int))])) W:=fun W hb =>
     uG.yes HN.out (by have:=HM.out.2.2.2.2;omega) hb (by
      rw [vY];exact zQ.2 ⟨_,_,rfl,zH.2 rfl,zQ.2 ⟨_,_,rfl,zh.2 ⟨rfl,none,0,rfl,n9 _,fun _=>rfl,.inl rfl⟩,zC.2 rfl⟩⟩)
    have FIN:=n7 fin;clear fin h0 DC hj;rcases tS with h | ⟨h,f1⟩ | ⟨h,f1,f2⟩ | ⟨h,f1,f2,f3⟩
    all_goals
     go_wp2_with fail
     refine bodyPost_ret (v:=.tuple #[.agg #[str wd,.slice none 0 0],.int .i64 ((i:Int)+(wd.length:Int))]) (by simp [results,P0,go_sem]) rfl ?_;exact FIN.out _ (((rZ _ _).alloc (n9 _) _).alloc (by simp) _)
theorem vT.alloc {ob:Nat} {s:Bs} {sl:Value} {w:World} (h:vT ob s sl w) (o:Obj):vT ob s sl (w.alloc o):=zY h
theorem l5Read_open (l:Bs) (hl:Lim l.length) (e d:Nat) (Eb:e+1+d=101) (ih:TrSaid l e) (i0:Nat) (w:World) (hi:i0<l.length) (tE:l[i0]=40) :
 Calls No 64 #[str l,.int .i64 i0,.int .i64 d] w (uG l.length w (vH (e+1) (l.drop i0))):=by
 have i5:=hl.le;have IH:=n7 ih;clear ih;have A7:¬ (100:Int)<(d:Int):=by omega
 have hm:vH (e+1) (l.drop i0)=(dH e (l.drop (i0+1))).map fun y=>(.ls y.1,y.2):=by
  rw [Pv hi,tE,rdTr_all]
 have HM:=n7 hm;clear hm;have f4:=vd hi (n:=40) (by decide) tE;clear tE;go_enter RS,RH;go_wp2_with fail
 clear f4;have LF:nw w (w.heap.size+1) (w.heap.size+2) ((w.alloc (.cells #[str [],.slice none 0 0] 39)).alloc (.cells #[str [],.slice none 0 0] 39)) [] [] (.slice none 0 0):=by
  refine ⟨((rZ _ _).alloc (n9 _) _).alloc (by simp) _,?_,?_,World.ownsRow_nil _ _ _ _,fun g h=>by simp [Value.ownBlock] at h,zC.2 rfl,by simp⟩
  ·exact zY (zG _ _)
  ·have:=zG (w.alloc (.cells #[str [],.slice none 0 0] 39)) (.cells #[str [],.slice none 0 0] 39);rw [zK] at this;exact this
 go_loopw [1] (fun a wr=>∃ (i:Nat) (ps:List Tr) (vs:List Value) (sa:Option Addr) (sc:Nat),a=.int .i64 i/\i<l.length/\ps.length<=i/\(dH e (l.drop (i0+1))=(dH e (l.drop (i+1))).map fun y=>(ps++y.1,y.2))/\nw w (w.heap.size+1) (w.heap.size+2) wr ps vs (.slice sa ps.length sc)) (fun a _=>l.length-(intOf a).toNat)
 case atStart=>exact ⟨i0,[],[],none,0,rfl,hi,OS _,by simp,LF⟩
 case round =>
  clear LF;rename_i wr;obtain ⟨i,ps,vs,sa,sc,rfl,Jy,F1,EQ,hst⟩:=hrel;have Oc:=n7 EQ;clear EQ;have Di:=n7 hst;clear hst;have C:=n7 (IH.out (d+1) (i+1) wr (by omega) Jy);go_wp2_with fail
  rw [show (i:Int)+1=((i+1:Nat):Int) from by omega,show (d:Int)+1=((d+1:Nat):Int) from by omega];(with_reducible refine C.out.mono ?_);rintro Dh w6 ⟨s6,a6,n6,c6,k6,rfl,rC,lN,lC⟩;have z6:=rC.size;have zr:=Di.out.z;have EX:=Di.out.res.below rC (by omega);have E7:=Di.out.out.below rC (by omega);have BK:=zzT Di.out.below rC;obtain ⟨r0,r1,rl6,rf⟩:=EX.cells;obtain ⟨q0,q1,IT,qf⟩:=E7.cells;have tF:=rf 0;have aX:=rf 1;clear rf;have qf0:=qf 0;have qf1:=qf 1;clear qf;have Q:=n7 (n8 rC (n8 EX (n8 E7 BK)));clear rC EX E7 BK C;have AA:=rdAll_eq e (l.drop (i+1));cases hq:vH e (l.drop (i+1)) with
  | none =>
    obtain rfl:=lN hq;have HN:=n7 (show vH (e+1) (l.drop i0)=none by rw [HM.out,Oc.out,AA,hq];rfl);clear AA hq lN lC;go_wp2_with fail
    obtain ⟨W,hW,s0,s1,rF,_⟩:=Q.out.2.1.store (.string ⟨#[]⟩) (.slice sa ps.length sc);rw [<- hW];refine bodyPost_ret (v:=.tuple #[.agg #[str [],.slice sa ps.length sc],.int .i64 (-1)]) (by simp [results,P0,go_sem,zV s0,zV s1]) rfl ?_;exact uG.no HN.out ((rF _ _ Q.out.2.2.2 (n9 _)).alloc (rF _ _ Q.out.2.2.2 (n9 _)).size _)
  | some x =>
    obtain ⟨t,rest⟩:=x;obtain ⟨rfl,DH⟩:=lC _ _ hq;have AF:=xV (rdTr_suffix hq);have LJ:=yW e _ _ _ hq;rw [QA] at LJ;have Hr:rest.length<=l.length:=by omega
    obtain ⟨aI,F8⟩:=zzM (l.length-rest.length);rw [<- F8] at AF;have D9:(l.length:Int)-(rest.length:Int)=(aI:Int):=by omega
    rw [D9];have GF:i+1<aI/\aI<=l.length:=by omega
    subst AF;rw [hq,Option.bind_some] at AA;simp only at AA;have Oq:=n7 AA;have Om:=n7 DH;clear AA DH hq lN lC D9 F8 Hr LJ;by_cases Cz:aI=l.length
    ·have HN:=n7 (show vH (e+1) (l.drop i0)=none by rw [HM.out,Oc.out,Oq.out,Qv (by omega)];rfl);have g1:(l.length:Int)<=(aI:Int):=by omega
     have g0:¬ (aI:Int)<0:=by omega
     go_wp2_with fail
     obtain ⟨W,hW,s0,s1,rF,_⟩:=Q.out.2.1.store (.string ⟨#[]⟩) (.slice sa ps.length sc);rw [<- hW];refine bodyPost_ret (v:=.tuple #[.agg #[str [],.slice sa ps.length sc],.int .i64 (-1)]) (by simp [results,P0,go_sem,zV s0,zV s1]) rfl ?_;exact uG.no HN.out ((rF _ _ Q.out.2.2.2 (n9 _)).alloc (rF _ _ Q.out.2.2.2 (n9 _)).size _)
    have At:aI<l.length:=by omega
    have g1:¬ (l.length:Int)<=(aI:Int):=by omega
    have g0:¬ (aI:Int)<0:=by omega
    have hlps:ps.length<=16777216:=by omega
    clear Cz;go_wp2_with (at_builtin;refine zM rfl _ _ 37 rfl 39 (.agg #[str [],.slice none 0 0]) 2 40 Tryz.underlying37 Tryz.infoTr rfl (by decide) (.slice sa ps.length sc) ps.length vs rfl ?c1 _ 1 [str s6,.slice a6 n6 c6] rfl ?c2 ?c3 ?c4 ?_)
    case c1 =>
     refine (Di.out.own.keep fun g o hg ho=>?_).alloc _ |>.alloc _;rw [Q.out.1.block g (zZ ho)];exact ho
    case c2=>exact zu.lit2 #[str s6,.slice a6 n6 c6] rfl (by simp [str,Value.oneCell']) _ (by simp)
    case c3=>unfold maxLen;omega
    case c4=>omega
    intro a' c' w7 r_ rP rL;have hW:Below wr.heap.size wr ((w6.alloc (.cells #[str s6,.slice a6 n6 c6] 39)).alloc (.cells #[str s6,.slice a6 n6 c6] 39)):=(Q.out.1.alloc Q.out.1.size _).alloc (by have:=Q.out.1.size;simp;omega) _
    have hC:zW (wr.heap.size<=·) ((w6.alloc (.cells #[str s6,.slice a6 n6 c6] 39)).alloc (.cells #[str s6,.slice a6 n6 c6] 39)) (vY t) [str s6,.slice a6 n6 c6] :=
     (Rep.keep fun i o hi ho=>⟨hi,zY (zY ho)⟩).2 _ _ Om.out
    have hA:=Di.out.next (by omega) (show w.heap.size<w.heap.size+1 by omega) hW hC r_ rP (fun g hg=>by simpa only [zK] using rL g hg);have z7:=rP.size;rw [zK,zK] at z7;have C8:w7.cell? ⟨w.heap.size+1,1,none⟩=some (.slice sa ps.length sc):=by
     rw [rP.cell (by simp only [zK];omega) (fun e=>by have h:w.heap.size+2<=w.heap.size+1:=Di.out.blk _ e;omega)];exact zV (zV q1)
    have E6:vT (w.heap.size+1) [] (.slice sa ps.length sc) w7:=by
     unfold vT;rw [rP.block _ (by simp only [zK];omega) (fun e=>by have h:w.heap.size+2<=w.heap.size+1:=Di.out.blk _ e;omega)];exact zY (zY Q.out.2.2.1)
    obtain ⟨p0,p1,pl7,pf⟩:=E6.cells;have pf1:=pf 1;clear pf q0 q1 qf0 qf1 r0 r1 tF aX IT rl6;have HA:=n7 (n8 hA E6);clear hA hW hC r_ rP rL E6 C8;have M3:=Pv At;rw [M3] at Oq;obtain ⟨r0,r1,rl8,rf⟩:=HA.out.1.res.cells;have tF:=rf 0;have aX:=rf 1;clear rf M3;by_cases Bp:l[aI]=41
    ·have f1:=x7 At (n:=41) (by decide) Bp;have HY:=n7 (show vH (e+1) (l.drop i0)=some (.ls (ps++[t]),l.drop (aI+1)) by
      rw [HM.out,Oc.out,Oq.out];simp only [if_pos Bp,Option.map_some])
     clear Bp;go_wp2_with fail
     obtain ⟨W,hW,s0,s1,rF,ri⟩:=HA.out.1.res.store (.string ⟨#[]⟩) (.slice a' (ps.length+1) c');rw [<- hW];refine bodyPost_ret (v:=.tuple #[.agg #[str [],.slice a' (ps.length+1) c'],.int .i64 ((aI:Int)+1)]) (by simp [results,P0,go_sem,s0,s1]) rfl ?_;have hst:=HA.out.1;refine uG.yes (s:=[]) HY.out (by rw [QA];omega) (rF _ _ hst.below (n9 _)) ?_;rw [vY];refine zQ.2 ⟨_,_,rfl,zH.2 rfl,zQ.2 ⟨_,_,rfl,?_,zC.2 rfl⟩⟩;rw [show ps.length+1=(ps++[t]).length from by simp] at hst ri ⊢;refine (hst.own.keep fun g o hg ho=>ri g o (by have:=hst.blk g hg;omega) ho).rep (fun g hg=>by have:=hst.blk g hg;omega) ?_;exact (Rep.keep fun x o hx ho=>⟨by have:=hx.1;omega,ri x o (by have:=hx.1;omega) ho⟩).2 _ _ hst.rep
    have f1:=uF At (n:=41) (by decide) Bp;by_cases B9:l[aI]=32
    ·have f2:=vd At (n:=32) (by decide) B9;have HY:=n7 (show dH e (l.drop (i0+1))=(dH e (l.drop (aI+1))).map fun y=>((ps++[t])++y.1,y.2) by
      rw [Oc.out,Oq.out];simp only [if_neg Bp,if_pos B9,Option.map_map];congr 1;funext y;simp)
     clear Bp B9;go_wp2_with fail
     go_roundw
     case rel=>exact ⟨aI,ps++[t],vs++[str s6,.slice a6 n6 c6],a',c',rfl,At,by simp;omega,HY.out,by simpa using HA.out.1⟩
     case measure=>simp [intOf];omega
    ·have f2:=vE At (n:=32) (by decide) B9;have HN:=n7 (show vH (e+1) (l.drop i0)=none by rw [HM.out,Oc.out,Oq.out];simp only [if_neg Bp,if_neg B9];rfl);clear Bp B9;go_wp2_with fail
     obtain ⟨W,hW,s0,s1,rF,ri⟩:=HA.out.1.res.store (.string ⟨#[]⟩) (.slice a' (ps.length+1) c');rw [<- hW];refine bodyPost_ret (v:=.tuple #[.agg #[str [],.slice a' (ps.length+1) c'],.int .i64 (-1)]) (by simp [results,P0,go_sem,s0,s1]) rfl ?_;exact uG.no HN.out (rF _ _ HA.out.1.below (n9 _))
theorem mn (l:Bs) (hl:Lim l.length):∀ e,e<=101->TrSaid l e
 | 0,h=>fun d i w Eb hi=>dN l hl 0 d Eb i w hi (fun _=>.inl rfl)
 | e+1,h=>fun d i w Eb hi=>by
   by_cases tE:∃ rH:i<l.length,l[i]=40
   ·obtain ⟨rH,tE⟩:=tE;exact l5Read_open l hl e d Eb (mn l hl e (by omega)) i w rH tE
   ·exact dN l hl (e+1) d Eb i w hi (fun rH=>.inr fun h=>tE ⟨rH,h⟩)
def STermPost (w:World) (o:Option Tr) (en:Ending) (w':World):Prop :=
 ∃ (s:Bs) (a:Option Addr) (n c:Nat),en=.returned (.tuple #[.agg #[str s,.slice a n c],.bool o.isSome])/\Below w.heap.size w w'/\(∀ t,o=some t->qr t/\zW (w.heap.size<=·) w' (vY t) [str s,.slice a n c])
abbrev xI (tb:Nat) (u0 u1:Value) (w':World):Prop:=w'.cell? ⟨tb,0,none⟩=some u0/\w'.cell? ⟨tb,1,none⟩=some u1
theorem xI.below {tb:Nat} {u0 u1:Value} {w w':World} (h:xI tb u0 u1 w) (hb:Below w.heap.size w w'):xI tb u0 u1 w' :=
 ⟨(hb.cell (n_ w _ h.1)).trans h.1,(hb.cell (n_ w _ h.2)).trans h.2⟩
theorem xI.set {tb:Nat} {u0 u1:Value} {w:World} (h:xI tb u0 u1 w) (b o:Nat) (u:Value) (hb:tb≠b):xI tb u0 u1 (w.setCell ⟨b,o,none⟩ u) :=
 ⟨(QD (rK _ _ _ _ (by simpa using hb))).trans h.1,(QD (rK _ _ _ _ (by simpa using hb))).trans h.2⟩
theorem isTr_ok {l:Bs} {t:Tr} {r:Bs} {e:Nat} (h:vH e l=some (t,r)):qr t:=(xo e l t r h).2.1
theorem l5Term_any (l:Bs) (hl:Lim l.length) (w:World):Calls No 31 #[str l] w (STermPost w (qg l)):=by
 have i5:=hl.le;by_cases FH:1000<l.length
 ·have h1:(1000:Int)<(l.length:Int):=by omega
  have HM:=n7 (show qg l=none by unfold qg;rw [if_pos FH]);go_enter Uf,TK;go_wp2_with fail
  refine bodyPost_ret (v:=.tuple #[.agg #[str [],.slice none 0 0],.bool false]) (by simp [results,Rr,go_sem]) rfl ?_;exact ⟨[],none,0,0,by rw [HM.out];rfl,(rZ _ _).alloc (n9 _) _,fun t h=>by rw [HM.out] at h;simp at h⟩
 have h1:¬ (1000:Int)<(l.length:Int):=by omega
 have HM:=n7 (show qg l=(match vH 101 l with | some (t,[])=>if qy t && decide (qS t<=60) then some t else none | _=>none) by unfold qg;rw [if_neg FH];rfl);clear FH;have C:Hid (∀ wz,Calls No 64 #[str l,.int .i64 0,.int .i64 0] wz (uG l.length wz (vH 101 l))):=fun wz=>by
  have h:=mn l hl 101 (by omega) 0 0 wz (by omega) (OS _);rw [List.drop_zero] at h;exact h
 go_enter Uf,TK;go_wp2_with fail
 (with_reducible refine (C.out _).mono ?_);rintro en w1 ⟨s6,a6,n6,c6,k6,rfl,rW,sU,sY⟩
 have z1:=rW.size;rw [zK] at z1;have EY:vT w.heap.size [] (.slice none 0 0) w1:=vT.below (zG _ _) rW (by simp);have GJ:Below w.heap.size w w1:=((rZ w.heap.size w).alloc (n9 _) _).trans (rW.mono (by simp));obtain ⟨W2,sC⟩:=zzM (w1.alloc (.cells #[str s6,.slice a6 n6 c6] 39));have Ig:xI w1.heap.size (str s6) (.slice a6 n6 c6) W2:=by subst sC;exact ⟨by simp,by simp⟩
 have hK2d:xI w1.heap.size (str s6) (.slice a6 n6 c6) W2.drew:=Ig;have sj:vT w.heap.size [] (.slice none 0 0) W2:=by subst sC;exact zY EY
 have Aw:Below w.heap.size w W2:=by subst sC;exact GJ.alloc GJ.size _
 have z2:W2.heap.size=w1.heap.size+1:=by subst sC;simp
 obtain ⟨r0,r1,rl,rf⟩:=sj.cells;have tF:=rf 0;have aX:=rf 1;clear rf;have Cb:w1.heap.size≠w.heap.size:=by omega
 have FIN:∀ (Wz:World) (B:Bool) (o:Option Tr),qg l=o->o.isSome=B->Below w.heap.size w Wz->(∀ t,o=some t->qr t/\zW (fun b=>w.heap.size<b) Wz (vY t) [str s6,.slice a6 n6 c6]) ->
  ∀ W,(∀ B w0,Below B w0 Wz->B<=w.heap.size->Below B w0 W)->(∀ i x,i≠w.heap.size->Wz.heap[i]? = some x->W.heap[i]? = some x)->STermPost w (qg l) (.returned (.tuple #[.agg #[str s6,.slice a6 n6 c6],.bool B])) W:=by
  intro Wz B o ho hB hb hr W rF ri;rw [ho];exact ⟨s6,a6,n6,c6,by rw [hB],rF _ _ hb (n9 _),fun t ht=>⟨(hr t ht).1,(Rep.keep fun b o rS ho=>⟨Nat.le_of_lt rS,ri b o (by have:=rS;omega) ho⟩).2 _ _ (hr t ht).2⟩⟩
 have FN:=n7 FIN;clear FIN;by_cases sB:k6=(l.length:Int);rotate_left
 ·have q:(k6 == (l.length:Int))=false:=by rw [beq_eq_false_iff_ne];exact sB
  have a_:qg l=none:=by
   rw [HM.out];cases hq:vH 101 l with
   | none=>rfl
   | some x =>
     obtain ⟨t,rest⟩:=x;cases rest with
     | nil=>have:=(sY t [] hq).1;simp at this;exact absurd this sB
     | cons a b=>rfl
  have HN:=n7 a_;have HR:=n7 (n8 sj Aw);clear a_ sB sY sU rW GJ EY;have q0:W2.cell? ⟨w1.heap.size,0,none⟩=some (str s6):=Ig.1;have q1:W2.cell? ⟨w1.heap.size,1,none⟩=some (.slice a6 n6 c6):=Ig.2;go_wp2_with fail
  rw [<- sC];clear sC
  go_region
  go_wp2_with fail
  obtain ⟨W,hW,s0,s1,rF,ri⟩:=(HR.out.1).store (str s6) (.slice a6 n6 c6);rw [<- hW];refine bodyPost_ret (v:=.tuple #[.agg #[str s6,.slice a6 n6 c6],.bool false]) (by simp [results,Rr,go_sem,s0,s1]) rfl ?_;exact FN.out W2 false none HN.out rfl HR.out.2 (fun t h=>by simp at h) W.drew (fun B w0 h hB=>(rF B w0 h hB).drew) ri
 obtain ⟨t,hq⟩:∃ t,vH 101 l=some (t,[]):=by
  cases hq:vH 101 l with
  | none=>have:=sU hq;omega
  | some x =>
    obtain ⟨t,rest⟩:=x;have h1:=(sY t rest hq).1;have:rest.length=0:=by omega
    rw [OQ this];exact ⟨t,rfl⟩
 have q:(k6 == (l.length:Int))=true:=by rw [beq_iff_eq];exact sB
 have sM:=(sY t [] hq).2;have rj:=isTr_ok hq;have rH:Lim (zx t).length:=hl.mono (by have:=congrArg PY (xo 101 l t [] hq).1;simp at this;omega);have hm:qg l=if qy t && decide (qS t<=60) then some t else none:=by rw [HM.out,hq]
 have HM:=n7 hm;have tx:zW (fun b=>w.heap.size<b) W2 (vY t) [str s6,.slice a6 n6 c6]:=by
  subst sC;exact (Rep.keep fun b o h ho=>⟨by have:=h;rw [zK] at this;omega,zY ho⟩).2 _ _ sM
 have oh:=n7 tx;have CI:=n7 (l5Is_any _ t (n9 _) rH rj _ W2.drew _ _ tx.drew);have CS:=n7 (fun wz (hb:Below W2.heap.size W2 wz)=>l5Size_any _ t (n9 _) rH rj _ wz _ _ (zW.below (F':=fun b=>w.heap.size<b) hb (fun _ h=>h) tx));have hsz:qS t<=16777216:=by have:=eH t rj;have:=rH.le;omega
 have Ge:=n7 (n8 rj Aw);have rl0:=rl;clear hm tx sM sY sU rW GJ EY hq r0 r1 tF aX rl sB rj;cases hi:qy t with
 | false =>
   have HI:=n7 hi;have HN:=n7 (show qg l=none by rw [HM.out,hi];rfl);clear hi;go_wp2_with fail
   rw [<- sC];clear sC;refine wp_region_noPanic ?_;refine zB (fun w'=>xI w1.heap.size (str s6) (.slice a6 n6 c6) w') (fun _=>false) (by kernel_rfl) ?_;have rU:(fun w'=>xI w1.heap.size (str s6) (.slice a6 n6 c6) w') W2.drew:=Ig;refine tk [0,1,2,3,4,5,6] rU ?_;(intro d hd;simp [tkD] at hd;subst hd;simp only [tks,pQ,pZ,pS]);iterate 7 (refine ⟨?_,?_,?_⟩;rotate_left;· (intro oi ho;simp at ho;subst ho;refine Or.inl ⟨by rfl,fun w' rB=>?_⟩;obtain ⟨e0,e1⟩:=rB;go_simp;try with_reducible rfl))
   (refine on 7 ?_;intro o ho K' hK;simp at ho;subst ho;go_simp);go_at_call 65
   (with_reducible refine CI.out.mono ?_);rintro en5 w5 ⟨rfl,rx⟩
   rw [HI.out];have i8:Hid (Below W2.heap.size W2 w5):=(Below.drew (rZ W2.heap.size W2)).trans rx;have AL:=Ig.below i8.out;have HN5:=n7 (sj.below i8.out rl0);clear rx;(refine hK.out _ _ (fun _=>AL) ?_;clear hK K';try simp only [pQ,pN,pZ,pS]);have Ev:=AL;refine tk [8,9,10] Ev ?_;(intro d hd;simp [tkD] at hd;subst hd;simp only [tks,pQ,pZ,pS]);iterate 3 (refine ⟨?_,?_,?_⟩;rotate_left;· (intro oi ho;simp at ho;subst ho;first | (refine Or.inr ⟨by rfl,?_⟩;with_reducible rfl) | (refine Or.inl ⟨by rfl,fun w' rB=>?_⟩;go_simp;try with_reducible rfl)))
   (refine on 11 ?_;intro o ho K' hK;simp at ho;subst ho;go_simp);(refine hK.out _ _ (fun _=>AL) ?_;clear hK K';try simp only [pQ,pN,pZ,pS]);refine tk [12,13] Ev ?_
   (intro d hd;simp [tkD] at hd;subst hd;simp only [tks,pQ,pZ,pS]);iterate 2 (refine ⟨?_,?_,?_⟩;rotate_left;· (intro oi ho;simp at ho;subst ho;first | (refine Or.inr ⟨by rfl,?_⟩;with_reducible rfl) | (refine Or.inl ⟨by rfl,fun w' rB=>?_⟩;go_simp;try with_reducible rfl)))
   (refine on 14 ?_;intro o ho K' hK;simp at ho;subst ho);obtain ⟨r0,r1,rl,rf⟩:=(HN5.out).cells
   have tF:=rf 0;have aX:=rf 1;clear rf;go_simp;(refine hK.out _ _ (fun _=>(AL.set _ _ _ Cb).set _ _ _ Cb) ?_;clear hK K';try simp only [pQ,pN,pZ,pS]);(refine on 15 ?_;intro o ho K' hK;simp at ho;subst ho;go_simp);(refine hK.out _ _ (fun _=>(AL.set _ _ _ Cb).set _ _ _ Cb) ?_;clear hK K';try simp only [pQ,pN,pZ,pS]);refine zX (by kernel_rfl) (NoPanic.normal ?_) _;go_wp2_with fail
   obtain ⟨W,hW,s0,s1,rF,ri⟩:=(HN5.out).store (str s6) (.slice a6 n6 c6);rw [<- hW];refine bodyPost_ret (v:=.tuple #[.agg #[str s6,.slice a6 n6 c6],.bool false]) (by simp [results,Rr,go_sem,s0,s1]) rfl ?_;exact FN.out w5 false none HN.out rfl (zzT Ge.out.2 i8.out) (fun t h=>by simp at h) W rF ri
 | true =>
   have HI:=n7 hi;have HN:=n7 (show qg l=if decide (qS t<=60) then some t else none by rw [HM.out,hi];rfl);clear hi;go_wp2_with fail
   rw [<- sC];clear sC;refine wp_region_noPanic ?_;refine zB (fun w'=>xI w1.heap.size (str s6) (.slice a6 n6 c6) w') (fun _=>false) (by kernel_rfl) ?_;have rU:(fun w'=>xI w1.heap.size (str s6) (.slice a6 n6 c6) w') W2.drew:=Ig;refine tk [0,1,2,3,4,5,6] rU ?_;(intro d hd;simp [tkD] at hd;subst hd;simp only [tks,pQ,pZ,pS]);iterate 7 (refine ⟨?_,?_,?_⟩;rotate_left;· (intro oi ho;simp at ho;subst ho;refine Or.inl ⟨by rfl,fun w' rB=>?_⟩;obtain ⟨e0,e1⟩:=rB;go_simp;try with_reducible rfl))
   (refine on 7 ?_;intro o ho K' hK;simp at ho;subst ho;go_simp);go_at_call 65
   (with_reducible refine CI.out.mono ?_);rintro en5 w5 ⟨rfl,rx⟩
   rw [HI.out];have i8:Hid (Below W2.heap.size W2 w5):=(Below.drew (rZ W2.heap.size W2)).trans rx;have AL:=Ig.below i8.out;have HN5:=n7 (sj.below i8.out rl0);clear rx;(refine hK.out _ _ (fun _=>AL) ?_;clear hK K';try simp only [pQ,pN,pZ,pS]);have Ev:=AL;refine tk [8,9,10] Ev ?_;(intro d hd;simp [tkD] at hd;subst hd;simp only [tks,pQ,pZ,pS]);iterate 3 (refine ⟨?_,?_,?_⟩;rotate_left;· (intro oi ho;simp at ho;subst ho;refine Or.inl ⟨by rfl,fun w' rB=>?_⟩;obtain ⟨e0,e1⟩:=rB;go_simp;try with_reducible rfl))
   (refine on 11 ?_;intro o ho K' hK;simp at ho;subst ho;go_simp);go_at_call 66
   (with_reducible refine (CS.out w5 i8.out).mono ?_);rintro en7 w7 ⟨rfl,rP⟩
   have Ak:Hid (Below W2.heap.size W2 w7):=zzT i8.out rP;have hK7:=Ig.below Ak.out;have HN7:=n7 (sj.below Ak.out rl0);clear rP;(refine hK.out _ _ (fun _=>hK7) ?_;clear hK K';try simp only [pQ,pN,pZ,pS]);have hS11:=hK7;refine tk [12,13] hS11 ?_;(intro d hd;simp [tkD] at hd;subst hd;simp only [tks,pQ,pZ,pS]);iterate 2 (refine ⟨?_,?_,?_⟩;rotate_left;· (intro oi ho;simp at ho;subst ho;refine Or.inl ⟨by rfl,fun w' rB=>?_⟩;go_simp;try with_reducible rfl))
   (refine on 14 ?_;intro o ho K' hK;simp at ho;subst ho);obtain ⟨r0,r1,rl,rf⟩:=(HN7.out).cells
   have tF:=rf 0;have aX:=rf 1;clear rf;go_simp;(refine hK.out _ _ (fun _=>(hK7.set _ _ _ Cb).set _ _ _ Cb) ?_;clear hK K';try simp only [pQ,pN,pZ,pS]);(refine on 15 ?_;intro o ho K' hK;simp at ho;subst ho;go_simp);(refine hK.out _ _ (fun _=>(hK7.set _ _ _ Cb).set _ _ _ Cb) ?_;clear hK K';try simp only [pQ,pN,pZ,pS]);refine zX (by kernel_rfl) (NoPanic.normal ?_) _;go_wp2_with fail
   obtain ⟨W,hW,s0,s1,rF,ri⟩:=(HN7.out).store (str s6) (.slice a6 n6 c6);rw [<- hW];refine bodyPost_ret (v:=.tuple #[.agg #[str s6,.slice a6 n6 c6],.bool (decide ((qS t:Int)<=60))]) (by simp [results,Rr,go_sem,s0,s1]) rfl ?_;by_cases i7:qS t<=60
   ·exact FN.out w7 _ (some t) (by rw [HN.out,if_pos (by simpa using i7)]) (by rw [decide_eq_true (by omega)];rfl) (zzT Ge.out.2 Ak.out) (fun t' h=>by
     obtain rfl:=OM h;exact ⟨Ge.out.1,zW.below Ak.out (fun _ h=>h) oh.out⟩) W rF ri
   ·exact FN.out w7 _ none (by rw [HN.out,if_neg (by simpa using i7)]) (by rw [decide_eq_false (by omega)];rfl) (zzT Ge.out.2 Ak.out) (fun t h=>by simp at h) W rF ri
def fY (t:Ty):Prop:=∀ (F:Nat->Prop) (w:World) (v:Value),Rep F w (k9 t) v ->
 Calls No 44 #[.agg #[v]] w fun en w'=>en=.returned (str (zL t))/\Below w.heap.size w w'
theorem textT_drop {ts:List Ty} {k:Nat} {t:Ty} (h:ts[k]? = some t):zL (.mk (ts.drop k))=((([40,62,32]++zL t)++[32])++zL (.mk (ts.drop (k+1))))++[41]:=by
 have hk:=(OB.1 h).1;have e:ts[k]=t:=(OB.1 h).2;rw [Pv hk,um,e];simp
theorem atomsT_drop (ts:List Ty) (k:Nat):zJ (.mk (ts.drop k))<=zJ (.mk ts):=by
 have:=uP (ts.take k) (ts.drop k);rw [List.take_append_drop] at this;simp only [zJ];omega
theorem l1Text_step (t:Ty) (hl:zJ t<=1000) (ih:∀ t',zJ t'<zJ t->fY t'):fY t:=by
 intro F w v hv;rw [jQ] at hv;obtain ⟨a,cap,e,_,hlen,rX⟩:=zP hv;subst e;have IH:=n7 ih;clear ih;have AT:=n7 rX;clear rX hlen hv;have hE:=qx t;have hlb:t.args.length<=1000:=by have:=qN t.args;omega
 have E1:=n7 hE;clear hE;have HT:Hid (t=.mk t.args):=by show t=_;cases t;rfl
 go_enter Tryz.func44,Tryz.ntmps44;go_wp2_with fail
 go_loopw [3,4] (fun o i wr=>∃ k:Nat,k<=t.args.length/\i=.int .i64 ((k:Int)-1)/\o=str (zL (.mk (t.args.drop k)))/\Below w.heap.size w wr/\wr.cell? ⟨w.heap.size,0,none⟩=some (.slice a t.args.length cap)) (fun _ i _=>(intOf i+1).toNat)
 case atStart=>exact ⟨t.args.length,n9 _,rfl,by rw [List.drop_length,yI],(rZ _ _).alloc (n9 _) _,by simp⟩
 case round =>
  obtain ⟨k,hk,rfl,rfl,hb,hc⟩:=hrel;cases k with
  | succ k =>
    have lR:(0:Int)<=((k+1:Nat):Int)-1:=by omega
    have hki:((k+1:Nat):Int)-1=(k:Int):=by omega
    have rH:k<t.args.length:=by omega
    have sS:(k:Int)<(t.args.length:Int):=by omega
    obtain ⟨b',o,u,d,eb,_,rS,hd,hu,hr⟩:=AT.out k rH;subst eb;rw [uJ,Option.map_eq_some_iff] at hd;obtain ⟨t',aN,rfl⟩:=hd;obtain ⟨ua,uc,rfl⟩:=kP hr;have hu':wr.cell? ⟨b',o+k,none⟩=some (.slice ua t'.args.length uc):=by rw [hb.cell rS];exact hu
    have iF:=Rep.below (F':=F) hb (fun _ h=>h) hr;have hs:=xy aN;have sw:=ud t.args (k+1);have iO:=E1.out;have IH':=n7 (IH.out t' (by omega));have l1:=jE 1000 t' (by omega);have d1:=atomsT_drop t.args (k+1);rw [<- HT.out] at d1;have l2:=jE 1000 (.mk (t.args.drop (k+1))) (by omega);have hx:=textT_drop aN;obtain ⟨X,hX⟩:=zzN (zL t');rw [hX] at hx l1;have HX:=n7 hx;have HXX:=n7 hX;clear hx hX;generalize zL (.mk (t.args.drop (k+1)))=R at *;obtain ⟨O1,h1⟩:=zzM ([40,62,32]++X);obtain ⟨O2,h2⟩:=zzM (O1++[32]);obtain ⟨O3,h3⟩:=zzM (O2++R);obtain ⟨O4,h4⟩:=zzM (O3++[41]);have m1:O1.length=X.length+3:=by rw [h1];simp
    have m2:O2.length=O1.length+1:=by rw [h2];simp
    have m3:O3.length=O2.length+R.length:=by rw [h3];simp
    have AJ:=fun w0=>kI (P:=No) [40,62,32] X (by simp;omega) w0;have AI:=fun w0=>kI (P:=No) O1 [32] (by simp;omega) w0;have BP:=fun w0=>kI (P:=No) O2 R (by omega) w0;have BO:=fun w0=>kI (P:=No) O3 [41] (by simp;omega) w0;have H4:Hid (zL (.mk (t.args.drop k))=O4):=by show _=_;rw [HX.out,h4,h3,h2,h1]
    rw [<- h1] at AJ;rw [<- h2] at AI;rw [<- h3] at BP;rw [<- h4] at BO;have hz:=n_ wr _ hc;rw [hki];clear hs aN iO hu hr l1 l2 d1 h1 h2 h3 h4 m1 m2 m3 sw hki lR;go_wp2_with fail
    refine (IH'.out _ _ _ iF).mono ?_;rintro en w2 ⟨rfl,rY⟩;rw [HXX.out];have rE:=zzT hb rY;have iZ:w2.cell? ⟨w.heap.size,0,none⟩=some (.slice (some ⟨b',o,none⟩) t.args.length cap):=by rw [rY.cell hz];exact hc
    go_wp2_with fail
    go_roundw
    case rel=>exact ⟨k,by omega,rfl,by rw [H4.out],rE,iZ⟩
    case measure=>simp [intOf]
  | zero =>
    have lR:¬ (0:Int)<=((0:Nat):Int)-1:=by omega
    go_wp2_with fail
    go_ret;refine ⟨?_,hb⟩;have e:zL (.mk t.args)=zL t:=by rw [<- HT.out]
    show Ending.returned (str (zL (.mk t.args)))=_;rw [e]
theorem ui (n:Nat):∀ t,zJ t<=n->n<=1000->fY t:=by
 induction n with
 | zero=>intro t h _;have:=ke t;omega
 | succ n ih=>exact fun t h hn=>l1Text_step t (by omega) (fun t' h'=>ih t' (by omega) (by omega))
def StrsAt (w:World) (a:Option Addr) (xs:List Bs):Prop:=∀ (k:Nat) (s:Bs),xs[k]? = some s->∃ b o,a=some ⟨b,o,none⟩/\w.cell? ⟨b,o+k,none⟩=some (str s)
theorem StrsAt.below {w w':World} {a:Option Addr} {xs:List Bs} (h:StrsAt w a xs) (hb:Below w.heap.size w w'):StrsAt w' a xs:=fun k s hs=>by
 obtain ⟨b,o,e,hc⟩:=h k s hs;exact ⟨b,o,e,(hb.cell (n_ w _ hc)).trans hc⟩
theorem Tryz.infoStr:(No.info? 9).map (fun i=>(i.zero,i.size,i.bytes))=some (some (str []),1,16):=by kernel_rfl
end Go.Proofs.YtdhaafoiokkbnabGreatDoor

/- Walks of functions that the statement reaches, and plain words. No conditions. -/
import Derived.Test.YtjggkhmojjaomaaGreatDoorQ17
set_option linter.unusedVariables false
set_option linter.unusedSimpArgs false
set_option maxHeartbeats 8000000
namespace Go.Proofs.YtjggkhmojjaomaaGreatDoor
open Go.RowKit
def TermD (rd Q L:Nat) (w:World) (en:Ending) (w':World):Prop:=∃ s:Bs,en=.returned (str s)/\s.length<=L/\But (· = rd) w w'/\jQ w' rd Q
def vm (F:Nat->Prop) (w:World) (ns:List Bs) (v:Value):Prop:=Rep F w (.sl 9 1 ns.length (ns.map fun x=>DV.val (str x))) v
def DrawT (rd N C L:Nat) (z:Int) (want:Bs):Prop:=∀ (ns ts:List Bs) (nv tv:Value) (F:Nat->Prop) (w:World) (P:Nat),
 ts.length=ns.length->ns.length<=N->(∀ x∈ns,x.length<=1)->vm F w ns nv->vm F w ts tv->(∀ i,F i->i≠rd)->jQ w rd P->P+C<=1099511627776 ->
 Calls Tryz.prog 53 #[.pointer (some ⟨rd,0,none⟩),nv,tv,str want,.int .i64 z] w (TermD rd (P+C) L w)
theorem vm.open {F:Nat->Prop} {w:World} {ns:List Bs} {v:Value} (h:vm F w ns v):∃ a c,v=.slice a ns.length c /\
 ∀ (j:Nat) (s:Bs),ns[j]? = some s->∃ b o,a=some ⟨b,o,none⟩/\F b/\b<w.heap.size/\w.cell? ⟨b,o+j,none⟩=some (str s):=by
 obtain ⟨a,c,e,_,_,fM⟩:=zP h
 refine ⟨a,c,e,fun j s hs=>?_⟩
 obtain ⟨b,o,u,d,ea,hF,fT,hd,hc,hr⟩:=fM j (List.getElem?_eq_some_iff.1 hs).1
 rw [List.getElem?_map,hs] at hd
 obtain rfl:=Option.some.inj hd
 rw [zH] at hr
 subst hr
 exact ⟨b,o,ea,hF,fT,hc⟩
theorem vm.but {F:Nat->Prop} {rd:Nat} {w w':World} {ns:List Bs} {v:Value} (h:vm F w ns v) (hb:But (· = rd) w w') (hF:∀ i,F i->i≠rd):vm F w' ns v :=
 Rep.but hb (fun b h=>⟨hF b h,h⟩) h
theorem vm.src {F:Nat->Prop} {w:World} {ns:List Bs} {v:Value} (h:vm F w ns v):zq 1 v ns.length (ns.map str) w:=by
 obtain ⟨xs,hx,hs⟩:=zq.ofRep h (fun us hu u hm=>by
  obtain ⟨j,hj⟩:=List.mem_iff_getElem?.1 hm
  have Am:=(List.getElem?_eq_some_iff.1 hj).1
  have hlen:=hu.length
  rw [List.length_map] at hlen
  have hd:(ns.map fun p=>DV.val (str p))[j]? = some (.val (str (ns[j]'(by omega)))):=by rw [List.getElem?_map,List.getElem?_eq_getElem (by omega)];rfl
  obtain ⟨v,hv,hr⟩:=zX.at hu hd
  rw [hj] at hv
  obtain rfl:=Option.some.inj hv
  rw [zH] at hr
  subst hr
  simp [str,Value.oneCell'])
 have e:xs=ns.map str:=by
  clear hs h
  induction ns generalizing xs with
  | nil=>rw [List.map_nil,zC] at hx;subst hx;rfl
  | cons n ns ih =>
    rw [List.map_cons] at hx
    obtain ⟨u,us,rfl,h1,h2⟩:=zQ.1 hx
    rw [zH] at h1
    subst h1
    rw [ih _ h2];rfl
 rw [<- e];exact hs
theorem Own.strsRep {F:Nat->Prop} {w:World} {xs:List Bs} {a:Option Addr} {n c:Nat} (h:Own w 9 1 (.slice a n c) n (xs.map str)) (hn:n=xs.length) (hF:∀ g,(Value.slice a n c).ownBlock=some g->F g):vm F w xs (.slice a n c):=by
 subst hn
 refine h.rep hF ?_
 clear h hF
 induction xs with
 | nil=>exact zC.2 rfl
 | cons x xs ih=>exact zQ.2 ⟨_,_,rfl,zH.2 rfl,ih⟩
def pd:List Bs:=[[98],[98],[40,62,32,98,32,98,41]]
def uF:List Bs:=[[116],[102],[117]]
def ph:List Bs:=[[120],[121],[122]]
theorem kind_len {s:Bs} (h:s∈pd):s.length<=7:=by
 simp only [pd,List.mem_cons,List.not_mem_nil,or_false] at h
 rcases h with rfl | rfl | rfl <;> decide
theorem cL {s:Bs} (h:s∈uF):s.length<=1:=by
 simp only [uF,List.mem_cons,List.not_mem_nil,or_false] at h
 rcases h with rfl | rfl | rfl <;> decide
theorem name_len1 {s:Bs} (h:s∈ph):s.length<=1:=by
 simp only [ph,List.mem_cons,List.not_mem_nil,or_false] at h
 rcases h with rfl | rfl | rfl <;> decide
theorem xG {t:Ty} (h:zV t<=15):(zN t).length<=90:=by
 have:=cX t
 rw [ju,xh] at this
 omega
theorem jY (A B:Bs) (n:Nat) (h:A.length+B.length<=n) (hn:n<=9223372036854775807):∃ O:Bs,O.length<=n/\∀ w0,(Op.stringOp .add ⟨A.toArray⟩ ⟨B.toArray⟩).run Tryz.prog w0=.ok (str O) w0 :=
 ⟨A++B,by rw [List.length_append];exact h,fun w0=>qN A B (by omega) w0⟩
theorem eZ {rd Q:Nat} {w w':World} (h:But (· = rd) w w'/\jQ w' rd Q) {v:World} (hb:Below w'.heap.size w' v):But (· = rd) w v/\jQ v rd Q:=⟨h.1.trans (But.ofBelow hb),h.2.below hb⟩
set_option maxRecDepth 100000 in
theorem eW (rd N C' L' C L:Nat) (z:Int) (want:Bs) (iZ : -1000<=z) (nF:z<=1000) (hw:want.length<=2000) (hN:N<=100)
 (hl:(zI want).2=true->∀ a rest,(zI want).1.args=a::rest->DrawT rd (N+1) C' L' (z-1) (zN (.mk rest)))
 (ho : -2<z->∀ want':Bs,want'.length<=want.length+20->DrawT rd (N+1) C' L' (z-1) want')
 (hC:C'+N+10<=C) (hC3 : -2<z->3*C'+N+10<=C) (hL:L'+220<=L) (hL3 : -2<z->3*L'+20<=L) (hL5:L'<=1000000):DrawT rd N C L z want:=by
 intro ns ts nv tv F w P mN hns mH Ah mG hF hr hP
 obtain ⟨na,nc,rfl,mi⟩:=Ah.open
 obtain ⟨ta,tc,rfl,Kb⟩:=mG.open
 have HL:=fX hl;have HO:=fX ho;have HN:=fX mi;have HT:=fX Kb;have HF:=fX hF;have HN1:=fX mH
 have HRN:=fX Ah;have HRT:=fX mG
 have E8:=fX mN
 have HC:=fX (fW hC (fW hC3 (fW hL hL3)))
 have zz:IntKind.i64.wrap (z-1)=z-1:=gF _ (by omega) (by omega)
 rw [mN]
 have Cb:=hr.lt
 clear hl ho mi Kb hF mH Ah mG mN hC3 hL3
 by_cases oK:z<=0
 rotate_left
 have hz0':decide (z<=0)=false:=decide_eq_false oK
 go_enter Tryz.func53,Tryz.ntmps53
 go_wp2_with fail
 refine (xb rd P 7 w hr (by omega) (by omega) (by omega)).mono ?_
 rintro en wz ⟨v,rfl,hv,fA,nZ⟩
 have HZ:Hid (∃ Q,Q<=P+1/\But (· = rd) w wz/\jQ wz rd Q):=fX ⟨_,fP _,fA,nZ⟩
 clear fA nZ oK
 by_cases AF:v=0
 rotate_left
 have tM:((v:Int) == 0)=false:=by rw [beq_eq_false_iff_ne];omega
 have HM:Hid (∃ Q,Q<=P+1+ns.length/\But (· = rd) w wz/\jQ wz rd Q):=fX (by obtain ⟨Q,h1,h2⟩:=HZ.out;exact ⟨Q,by omega,h2⟩)
 clear HZ hv AF
 go_wp2_with fail
 rotate_left
 have hz0':decide (z<=0)=true:=decide_eq_true oK
 have HZ:Hid (∃ Q,Q<=P+1/\But (· = rd) w w/\jQ w rd Q):=fX ⟨P,Nat.le_succ _,But.refl _ _,hr⟩
 clear oK
 go_enter Tryz.func53,Tryz.ntmps53
 go_wp2_with fail
 rotate_left
 subst AF
 clear hv
 go_wp2_with fail
 rotate_left
 any_goals (
  go_loopw [12] (fun i wz=>∃ (j:Nat) (wr:World) (Q:Nat),wr=wz/\j<=ns.length/\i=.int .i64 ((j:Int)-1)/\Q+j<=P+1+ns.length/\But (· = rd) w wr/\jQ wr rd Q) (fun i _=>(intOf i+1).toNat)
  case atStart=>obtain ⟨Q,hQ,lf,hrz⟩:=HZ.out;exact ⟨ns.length,_,Q,rfl,fP _,rfl,by omega,lf,hrz⟩
  case' round =>
   obtain ⟨j,wr,Q,ewr,hj,rfl,hQ,rP,lP⟩:=hrel
   subst ewr
   clear HZ
   rcases j with _ | j
   rotate_left
   ·rw [show ((j+1:Nat):Int)-1=(j:Int) from by omega]
    have Am:j<ns.length:=by omega
    obtain ⟨nj,hnj⟩:∃ s,ns[j]? = some s:=⟨_,List.getElem?_eq_getElem Am⟩
    obtain ⟨tj,Dq⟩:∃ s,ts[j]? = some s:=⟨_,List.getElem?_eq_getElem (by rw [E8.out];exact Am)⟩
    obtain ⟨nb,no,ena,DG,F4,aw⟩:=HN.out j nj hnj
    obtain ⟨tb,tO,eta,hFt,ij,EF⟩:=HT.out j tj Dq
    subst ena
    subst eta
    have HJ:=fX (fW hnj (fW aw (fW EF (fW F4 (fW ij (fW DG hFt))))))
    have JA:(j:Int)<(ns.length:Int):=by omega
    have zj:IntKind.i64.wrap ((j:Int)+1)=((j+1:Nat):Int):=by rw [gF _ (by omega) (by omega)];omega
    have HB:=fX (fW rP lP)
    clear rP lP hnj Dq aw EF F4 ij DG hFt
    go_wp2_with fail
    go_loopw [13,14] (fun b k wz=>∃ (bb:Bool) (kk:Nat) (wq:World),wq=wz/\b=.bool bb/\kk<=ns.length/\k=.int .i64 kk/\But (· = rd) w wq/\jQ wq rd Q) (fun _ k _=>ns.length-(intOf k).toNat)
    case atStart=>exact ⟨false,j+1,_,rfl,rfl,by omega,by first | rfl | go_num,HB.out.1,HB.out.2⟩
    case round =>
     obtain ⟨bb,kk,wq,ewq,rfl,i6,rfl,Gm,Ag⟩:=hrel
     subst ewq
     have cn:wq.cell? ⟨nb,no+j,none⟩=some (str nj):=(Gm.cell (p:=⟨nb,no+j,none⟩) HJ.out.2.2.2.1 (HF.out _ HJ.out.2.2.2.2.2.1)).trans HJ.out.2.1
     have ct:wq.cell? ⟨tb,tO+j,none⟩=some (str tj):=(Gm.cell (p:=⟨tb,tO+j,none⟩) HJ.out.2.2.2.2.1 (HF.out _ HJ.out.2.2.2.2.2.2)).trans HJ.out.2.2.1
     have HQ:=fX (fW Gm Ag)
     clear Gm Ag HB
     by_cases fT:kk<ns.length
     ·have hkI:(kk:Int)<(ns.length:Int):=by omega
      obtain ⟨nk,hnk⟩:∃ s,ns[kk]? = some s:=⟨_,List.getElem?_eq_getElem fT⟩
      obtain ⟨nb2,no2,e2,C8,iJ,rx⟩:=HN.out kk nk hnk
      simp only [Option.some.injEq,Addr.mk.injEq,and_true] at e2
      obtain ⟨rfl,rfl⟩:=e2
      have ck:wq.cell? ⟨nb,no+kk,none⟩=some (str nk):=(HQ.out.1.cell (p:=⟨nb,no+kk,none⟩) iJ (HF.out _ C8)).trans rx
      clear hnk C8 iJ rx ct
      cases bb with
      | true =>
        go_wp2_with fail
        go_quiet (fail)
        go_wp2_with fail
        go_round
        case rel=>exact ⟨_,kk+1,_,rfl,rfl,by omega,by go_num,wF HQ.out.1 _,HQ.out.2.drewN _⟩
        case measure=>simp only [intOf];omega
      | false =>
        go_wp2_with fail
        go_quiet (fail)
        go_wp2_with fail
        go_round
        case rel=>exact ⟨_,kk+1,_,rfl,rfl,by omega,by go_num,wF HQ.out.1 _,HQ.out.2.drewN _⟩
        case measure=>simp only [intOf];omega
     ·have hkk2:kk=ns.length:=by omega
      subst hkk2
      clear fT i6
      cases bb with
      | true =>
        go_wp2_with fail
        go_round
        case rel=>exact ⟨j,_,Q,rfl,by omega,by go_num,by omega,HQ.out.1,HQ.out.2⟩
        case measure=>simp only [intOf];omega
      | false =>
        by_cases hwt:tj=want
        rotate_left
        ·have q1:(tj == want)=false:=by rw [beq_eq_false_iff_ne];exact hwt
         go_wp2_with fail
         go_round
         case rel=>exact ⟨j,_,Q,rfl,by omega,by go_num,by omega,HQ.out.1,HQ.out.2⟩
         case measure=>simp only [intOf];omega
        subst hwt
        go_wp2_with fail
        refine (xb rd Q 4 wq HQ.out.2 (by omega) (by omega) (by omega)).mono ?_
        rintro en w4 ⟨v4,rfl,hv4,fl,AJ⟩
        have cn4:w4.cell? ⟨nb,no+j,none⟩=some (str nj):=(fl.cell (p:=⟨nb,no+j,none⟩) (fG _ _ cn) (HF.out _ HJ.out.2.2.2.2.2.1)).trans cn
        have H4:=fX (fW (HQ.out.1.trans fl) AJ)
        clear fl AJ cn ct
        by_cases hv40:v4=0
        ·subst hv40
         clear hv4
         go_wp2_with fail
         go_round
         case rel=>exact ⟨j,_,Q+1,rfl,by omega,by go_num,by omega,H4.out.1,H4.out.2⟩
         case measure=>simp only [intOf];omega
        ·have hv4':decide ((0:Int)<(v4:Int))=true:=decide_eq_true (by omega)
         go_wp2_with fail
         go_ret
         have h1:=HN1.out nj (List.mem_of_getElem? HJ.out.1)
         have h2:=HC.out
         exact ⟨nj,rfl,by omega,H4.out.1,H4.out.2.mono (by omega)⟩
   rw [show ((0:Nat):Int)-1 = -1 from rfl]
   have HM:Hid (∃ Q,Q<=P+1+ns.length/\But (· = rd) w wr/\jQ wr rd Q):=fX ⟨Q,by omega,rP,lP⟩
   clear rP hQ lP
   by_cases hwb:want=[98]
   ·subst hwb
    have q98:(([98]:Bs) == [98])=true:=rfl
    obtain ⟨Q',hQ',fx,sZ⟩:=HM.out
    have mT:=sZ.lt
    clear HM
    go_wp2_with fail
    refine (pK rd Q' _ uF _ (sZ.alloc _) (xA.new mT uF 3 rfl _) (by decide) (by decide) (by omega)).mono ?_
    rintro en w5 ⟨s,hs,rfl,fe,B3⟩
    have rq:=cL hs
    have H5:=fX (fW ((fx.alloc _).trans fe) B3)
    clear hs fe B3 fx sZ
    go_wp2_with fail
    go_ret
    have h2:=HC.out
    exact ⟨s,rfl,by omega,H5.out.1,H5.out.2.mono (by omega)⟩
   have q98:(want == [98])=false:=by rw [beq_eq_false_iff_ne];exact hwb
   clear hwb
   go_wp2_with fail)
 all_goals (
  obtain ⟨Q,hQ,Gm,Ag⟩:=HM.out
  have hC1:=HC.out.1
  refine (xb rd Q 6 _ Ag (by omega) (by omega) (by omega)).mono ?_
  rintro en w6 ⟨v6,rfl,hv6,fO,m_⟩
  have H6:Hid (But (· = rd) w w6/\jQ w6 rd (Q+1)):=fX (fW (Gm.trans fO) m_)
  have Jm:=m_.lt
  have IT:vm F w ts (.slice ta ns.length tc):=by rw [<- E8.out];exact HRT.out
  have KX:=fX IT
  clear Gm Ag fO m_ HM IT hC1
  have JOIN:Hid (∀ (wq:World) (Q':Nat),But (· = rd) w wq->jQ wq rd Q'->Q'+C'<=1099511627776->-2<z->∀ want':Bs,want'.length<=want.length+20 ->
   Calls Tryz.prog 53 #[.pointer (some ⟨rd,0,none⟩),.slice na ns.length nc,.slice ta ns.length tc,str want',.int .i64 (z-1)] wq (TermD rd (Q'+C') L' wq)):=fX (by
   intro wq Q' f_ hrw hq hz want' fI
   exact HO.out hz want' fI ns ts _ _ F wq Q' E8.out (by omega) HN1.out (HRN.out.but f_ HF.out) (KX.out.but f_ HF.out) HF.out hrw hq)
  by_cases h0:v6=0/\-2<z
  ·obtain ⟨rfl,tE⟩:=h0
   have Ks:=HC.out.2.1 tE
   have Km:=HC.out.2.2.2 tE
   have al:=fX tE
   have lx:=fX (fW Ks (fW Km hQ))
   have Ao:decide ((-2:Int)<z)=true:=decide_eq_true tE
   clear tE hv6 Ks Km hQ
   go_wp2_with fail
   refine (pK rd (Q+1) _ pd _ (H6.out.2.alloc _) (xA.new Jm pd 3 rfl _) (by decide) (by decide) (by have:=lx.out;omega)).mono ?_
   rintro en w7 ⟨kd,i7,rfl,fS,sg⟩
   have hk7:=kind_len i7
   have H7:Hid (But (· = rd) w w7/\jQ w7 rd (Q+2)):=fX (fW ((H6.out.1.alloc _).trans fS) sg)
   obtain ⟨O1,m1,a1⟩:=jY [40,62,32] kd 10 (by simp;omega) (by omega)
   obtain ⟨O2,m2,a2⟩:=jY O1 [32] 11 (by simp;omega) (by omega)
   obtain ⟨O3,m3,a3⟩:=jY O2 want (want.length+11) (by omega) (by omega)
   obtain ⟨O4,m4,a4⟩:=jY O3 [41] (want.length+12) (by simp;omega) (by omega)
   have HK7:=fX hk7
   clear i7 fS sg hk7
   go_wp2_with fail
   (with_reducible refine (JOIN.out w7 (Q+2) H7.out.1 H7.out.2 (by have:=lx.out;omega) al.out O4 (by omega)).mono ?_)
   rintro en w8 ⟨s8,rfl,DR,mJ,sO⟩
   have H8:Hid (But (· = rd) w w8/\jQ w8 rd (Q+2+C')):=fX (fW (H7.out.1.trans mJ) sO)
   obtain ⟨O5,m5,a5⟩:=jY [40,97,112,112,32] s8 (L'+5) (by simp;omega) (by omega)
   obtain ⟨O6,m6,a6⟩:=jY O5 [32] (L'+6) (by simp;omega) (by omega)
   clear mJ sO
   go_wp2_with fail
   (with_reducible refine (JOIN.out w8 (Q+2+C') H8.out.1 H8.out.2 (by have:=lx.out;omega) al.out kd (by have:=HK7.out;omega)).mono ?_)
   rintro en w9 ⟨s9,rfl,G6,mj,oW⟩
   have H9:Hid (But (· = rd) w w9/\jQ w9 rd (Q+2+C'+C')):=fX (fW (H8.out.1.trans mj) oW)
   obtain ⟨O7,m7,a7⟩:=jY O6 s9 (L'+6+L') (by omega) (by omega)
   obtain ⟨O8,m8,a8⟩:=jY O7 [41] (L'+7+L') (by simp;omega) (by omega)
   clear mj oW
   go_wp2_with fail
   go_ret
   have h1:=lx.out
   exact ⟨O8,rfl,by omega,H9.out.1,H9.out.2.mono (by omega)⟩
  by_cases h12:(v6=1\/v6=2)/\-2<z
  ·obtain ⟨h12,tE⟩:=h12
   have Ks:=HC.out.2.1 tE
   have Km:=HC.out.2.2.2 tE
   have al:=fX tE
   have lx:=fX (fW Ks (fW Km hQ))
   have Ao:decide ((-2:Int)<z)=true:=decide_eq_true tE
   clear tE hv6 Ks Km hQ h0
   have C1:=fX (JOIN.out w6 (Q+1) H6.out.1 H6.out.2 (by have:=lx.out;omega) al.out [98] (by simp))
   rcases h12 with rfl | rfl
   all_goals (
    go_wp2_with fail
    (with_reducible refine C1.out.mono ?_)
    rintro en w8 ⟨s8,rfl,DR,mJ,sO⟩
    have H8:Hid (But (· = rd) w w8/\jQ w8 rd (Q+1+C')):=fX (fW (H6.out.1.trans mJ) sO)
    obtain ⟨O5,m5,a5⟩:=jY [40,105,102,32] s8 (L'+4) (by simp;omega) (by omega)
    obtain ⟨O6,m6,a6⟩:=jY O5 [32] (L'+5) (by simp;omega) (by omega)
    clear mJ sO C1
    go_wp2_with fail
    (with_reducible refine (JOIN.out w8 (Q+1+C') H8.out.1 H8.out.2 (by have:=lx.out;omega) al.out want (by omega)).mono ?_)
    rintro en w9 ⟨s9,rfl,G6,mj,oW⟩
    have H9:Hid (But (· = rd) w w9/\jQ w9 rd (Q+1+C'+C')):=fX (fW (H8.out.1.trans mj) oW)
    obtain ⟨O7,m7,a7⟩:=jY O6 s9 (L'+5+L') (by omega) (by omega)
    obtain ⟨O8,m8,a8⟩:=jY O7 [32] (L'+6+L') (by simp;omega) (by omega)
    clear mj oW
    go_wp2_with fail
    (with_reducible refine (JOIN.out w9 (Q+1+C'+C') H9.out.1 H9.out.2 (by have:=lx.out;omega) al.out want (by omega)).mono ?_)
    rintro en a_ ⟨s10,rfl,hs10,sA,lG⟩
    have Fd:Hid (But (· = rd) w a_/\jQ a_ rd (Q+1+C'+C'+C')):=fX (fW (H9.out.1.trans sA) lG)
    obtain ⟨O9,m9,a9⟩:=jY O8 s10 (L'+6+L'+L') (by omega) (by omega)
    obtain ⟨O10,m10,DH⟩:=jY O9 [41] (L'+7+L'+L') (by simp;omega) (by omega)
    clear sA lG
    go_wp2_with fail
    go_ret
    have h1:=lx.out
    exact ⟨O10,rfl,by omega,Fd.out.1,Fd.out.2.mono (by omega)⟩)
  have nW:(v6=0/\decide ((-2:Int)<z)=false)\/((v6=1\/v6=2)/\decide ((-2:Int)<z)=false)\/(((v6:Int) == 0)=false/\((v6:Int) == 1)=false/\((v6:Int) == 2)=false):=by
   by_cases G1 : -2<z
   ·refine .inr (.inr ⟨?_,?_,?_⟩) <;> rw [beq_eq_false_iff_ne] <;> omega
   ·have hd:decide ((-2:Int)<z)=false:=decide_eq_false G1
    by_cases k0:v6=0
    ·exact .inl ⟨k0,hd⟩
    by_cases Ir:v6=1\/v6=2
    ·exact .inr (.inl ⟨Ir,hd⟩)
    ·refine .inr (.inr ⟨?_,?_,?_⟩) <;> rw [beq_eq_false_iff_ne] <;> omega
  have CT:=fX (xK want (show _<=_ by omega) w6)
  have lx:=fX (fW HC.out.1 (fW HC.out.2.2.1 hQ))
  obtain ⟨tt,htt⟩:=zzN ((zI want).1)
  obtain ⟨qq,FW⟩:=zzN ((zI want).2)
  have HTQ:Hid ((zI want).1=tt/\(zI want).2=qq):=fX ⟨htt,FW⟩
  have lZ:Hid (Calls Tryz.prog 38 #[str want] w6 fun en w'=>∃ v,en=.returned (.tuple #[.agg #[v],.bool qq])/\Below w6.heap.size w6 w'/\Rep (w6.heap.size<=·) w' (kg tt) v):=fX (by
   have:=CT.out;unfold TypePost at this;rw [htt,FW] at this;exact this)
  clear h0 h12 hv6 CT htt FW hQ
  rcases nW with ⟨rfl,Ao⟩ | ⟨rfl | rfl,Ao⟩ | ⟨lM,oS,Ao⟩
  all_goals (
   go_wp2_with fail
   (with_reducible refine lZ.out.mono ?_)
   rintro en w7 ⟨tv,rfl,fS,mG⟩
   obtain ⟨ta7,oh,etv⟩:=kJ mG
   subst etv
   rw [qy] at mG
   have hlt7:rd<w7.heap.size:=fC Jm fS.size
   have H7:Hid (But (· = rd) w w7/\jQ w7 rd (Q+1)):=fX (eZ H6.out fS)
   have HRT7:=fX mG
   clear fS mG lZ
   cases qq with
   | false =>
     go_wp2_with fail
     refine (pK rd (Q+1) _ uF _ ((H7.out.2.alloc _).alloc _) (xA.newAt (by simp;omega) uF 3 rfl _ (w7.heap.size+1) (by simp)) (by decide) (by decide) (by have:=lx.out;omega)).mono ?_
     rintro en w8 ⟨s,hs,rfl,mJ,sO⟩
     have rq:=cL hs
     have H8:=fX (fW (((H7.out.1.alloc _).alloc _).trans mJ) sO)
     clear hs mJ sO
     go_wp2_with fail
     go_ret
     have h2:=lx.out
     exact ⟨s,rfl,by omega,H8.out.1,H8.out.2.mono (by omega)⟩
   | true =>
     cases tY:tt.args with
     | nil =>
       simp only [List.length_nil]
       clear tY
       go_wp2_with fail
       refine (pK rd (Q+1) _ uF _ ((H7.out.2.alloc _).alloc _) (xA.newAt (by simp;omega) uF 3 rfl _ (w7.heap.size+1) (by simp)) (by decide) (by decide) (by have:=lx.out;omega)).mono ?_
       rintro en w8 ⟨s,hs,rfl,mJ,sO⟩
       have rq:=cL hs
       have H8:=fX (fW (((H7.out.1.alloc _).alloc _).trans mJ) sO)
       clear hs mJ sO
       go_wp2_with fail
       go_ret
       have h2:=lx.out
       exact ⟨s,rfl,by omega,H8.out.1,H8.out.2.mono (by omega)⟩
     | cons a rest =>
       have DS:=HRT7.out
       simp only [List.length_cons]
       rw [tY,List.length_cons,qH] at DS
       have ett:tt=.mk (a::rest):=by cases tt;simp only [Ty.args] at tY;rw [tY]
       have fu:zV tt<=15:=by have h:=HTQ.out;rw [<- h.1];exact vz h.2
       rw [ett,jh] at fu
       have p1:=kh a;have p2:=kh (.mk rest)
       have ID:=xG (t:=a) (by omega)
       have IB:=xG (t:=.mk rest) (by omega)
       have EN:rest.length<=15:=by have:=args_len (.mk rest);simp only [Ty.args] at this;omega
       obtain ⟨ae,cape,ee,hcap,_,fM⟩:=zP DS
       simp only [Value.slice.injEq] at ee
       obtain ⟨rfl,_,rfl⟩:=ee
       obtain ⟨eb,eo,u,d,ea,hF7,fT,hd,hc,rQ⟩:=fM 0 (by omega)
       subst ea
       simp only [List.getElem?_cons_zero,Option.some.injEq] at hd
       subst hd
       rw [Nat.add_zero] at hc
       have hcW:=zJ (o:=.cells #[.slice (some ⟨eb,eo,none⟩) (rest.length+1) oh] 43) hc
       have IQ:Rep (w6.heap.size<=·) (w7.alloc (.cells #[.slice (some ⟨eb,eo,none⟩) (rest.length+1) oh] 43)) (kg a) u:=(Rep.keep fun b o h ho=>⟨h,zY ho⟩).1 _ _ rQ
       have hFW:(w7.alloc (.cells #[.slice (some ⟨eb,eo,none⟩) (rest.length+1) oh] 43)).cell? ⟨w7.heap.size,0,none⟩=some (.slice (some ⟨eb,eo,none⟩) (rest.length+1) oh):=by simp
       have HRR:Hid (∀ v,Rep (w6.heap.size<=·) w7 (kg (.mk rest)) v->∀ wz,Below (w7.heap.size+1) (w7.alloc (.cells #[.slice (some ⟨eb,eo,none⟩) (rest.length+1) oh] 43)) wz ->
        Calls Tryz.prog 46 #[.agg #[v]] wz fun en w'=>en=.returned (str (zN (.mk rest)))/\Below wz.heap.size wz w'):=fX (fun v hv wz hz =>
        uG 15 (.mk rest) (by omega) (by omega) (fun _=>True) wz v ((Rep.keep fun b o _ ho=>⟨trivial,by rw [hz.block b (by have:=zZ ho;omega)];exact zY ho⟩).1 _ _ hv))
       have C1:=fX (uG 15 a (by omega) (by omega) (w6.heap.size<=·) _ u IQ)
       have KR:Hid (¬ oh=1->Rep (w6.heap.size<=·) w7 (kg (.mk rest)) (.slice (some ⟨eb,eo+1,none⟩) rest.length (oh-1))):=fX (fun _=>by rw [qy];exact wN (d:=kg a) DS)
       have HEnd:Hid (oh=1->rest=[]/\Rep (w6.heap.size<=·) w7 (kg (.mk rest)) (.slice (some ⟨eb,eo,none⟩) rest.length 0)):=fX (fun h=>by
        have e:rest=[]:=by cases rest with
         | nil=>rfl
         | cons x xs=>simp at hcap;omega
        refine ⟨e,?_⟩
        subst e
        rw [qy]
        exact zp.2 ⟨by simp [qH,Ty.args],_,_,rfl,Nat.zero_le _,fun h=>by simp at h,.inl rfl⟩)
       have HTT:=fX (fW tY ett)
       have HCAP:=fX hcap
       obtain ⟨A,hA⟩:=zzN (zN a)
       obtain ⟨B,hB⟩:=zzN (zN (.mk rest))
       have HB:=fX hB
       rw [hA] at C1 ID
       rw [hB] at HRR IB
       clear DS fM hF7 fT hc rQ IQ tY ett fu p1 p2 hA hB hcap
       go_wp2_with fail
       (with_reducible refine C1.out.mono ?_)
       rintro en w8 ⟨rfl,mJ⟩
       have hF8:=(mJ.cell (fG _ _ hFW)).trans hFW
       have HB8:=fX mJ
       clear mJ hFW hcW C1
       have hTC:(oh=1/\∃ rc:Nat,rc=0/\Rep (w6.heap.size<=·) w7 (kg (.mk rest)) (.slice (some ⟨eb,eo,none⟩) rest.length rc))\/(¬ oh=1/\Rep (w6.heap.size<=·) w7 (kg (.mk rest)) (.slice (some ⟨eb,eo+1,none⟩) rest.length (oh-1))):=by
        by_cases h:oh=1
        ·exact .inl ⟨h,0,rfl,(HEnd.out h).2⟩
        ·exact .inr ⟨h,KR.out h⟩
       rcases hTC with ⟨EF,rc,FU,rL⟩ | ⟨EF,rL⟩
       all_goals (
        have CB:=fX (HRR.out _ rL w8 (HB8.out.mono (by simp)))
        clear rL
        try subst FU
        go_wp2_with fail
        (with_reducible refine CB.out.mono ?_)
        rintro en w9 ⟨rfl,mj⟩
        have H9:Hid (But (· = rd) w w9/\jQ w9 rd (Q+1)):=fX (by
         have h1:But (· = rd) w (w7.alloc (.cells #[.slice (some ⟨eb,eo,none⟩) (rest.length+1) oh] 43))/\jQ (w7.alloc (.cells #[.slice (some ⟨eb,eo,none⟩) (rest.length+1) oh] 43)) rd (Q+1):=⟨H7.out.1.alloc _,H7.out.2.alloc _⟩
         exact eZ (eZ h1 HB8.out) mj)
        have hlt9:=H9.out.2.lt
        clear mj hF8 CB
        go_wp2_with fail
        refine (pK rd (Q+1) _ ph _ (H9.out.2.alloc _) (xA.new hlt9 ph 3 rfl _) (by decide) (by decide) (by have:=lx.out;omega)).mono ?_
        rintro en a_ ⟨x,hx,rfl,sA,lG⟩
        have Do:=name_len1 hx
        have Fd:Hid (But (· = rd) w a_/\jQ a_ rd (Q+2)):=fX (fW ((H9.out.1.alloc _).trans sA) lG)
        obtain ⟨O1,m1,a1⟩:=jY [40,108,97,109,32] x 6 (by simp;omega) (by omega)
        obtain ⟨O2,m2,a2⟩:=jY O1 [32] 7 (by simp;omega) (by omega)
        obtain ⟨O3,m3,a3⟩:=jY O2 A 97 (by omega) (by omega)
        obtain ⟨O4,m4,a4⟩:=jY O3 [32] 98 (by simp;omega) (by omega)
        clear hx sA lG
        have r7:=fX Do;clear Do
        have srcN:zq 1 (.slice na ns.length nc) ns.length (ns.map str) a_:=(HRN.out.but Fd.out.1 HF.out).src
        have srcT:zq 1 (.slice ta ns.length tc) ns.length (ts.map str) a_:=by
         have h:=(KX.out.but Fd.out.1 HF.out).src
         rw [E8.out] at h;exact h
        have SRC:=fX (fW srcN srcT)
        clear srcN srcT
        go_wp2_with (at_builtin;refine zE rfl _ _ 51 rfl 9 (str []) 1 16 Tryz.underlying51 Tryz.infoStr rfl (by decide) (.slice (some ⟨a_.heap.size,0,none⟩) 0 0) 0 [] rfl ?c1 _ ns.length (ns.map str) rfl ?c2 ?c3 ?c4 ?_)
        case c1=>exact Own.litAt #[] 0 _ rfl (by decide) rfl
        case c2=>exact SRC.out.1.alloc _
        case c3=>unfold maxLen;omega
        case c4=>omega
        intro a11 c11 sP Jd iG JK
        obtain ⟨Kv,JQ⟩:=vY (v':=.slice a11 ns.length c11) ((fH _ a_).alloc (fP _) _) (w_ (fP _)) iG (fun g h=>by rw [zK];exact JK g h)
        have KO:=fX (fW Jd (fW Kv JQ))
        clear Jd iG JK Kv JQ
        go_wp2_with (at_builtin;refine zE rfl _ _ 51 rfl 9 (str []) 1 16 Tryz.underlying51 Tryz.infoStr rfl (by decide) (.slice a11 ns.length c11) ns.length (ns.map str) rfl ?c1 _ 1 [str x] rfl ?c2 ?c3 ?c4 ?_)
        case c1=>exact KO.out.1.keep fun g o _ ho=>zY ho
        case c2=>exact zq.lit rfl
        case c3=>unfold maxLen;omega
        case c4=>omega
        intro a12 c12 Id lC sT JJ
        obtain ⟨Ku,JP⟩:=vY (v':=.slice a12 (ns.length+1) c12) (KO.out.2.1.alloc KO.out.2.1.size _) KO.out.2.2 sT (fun g h=>by rw [zK];exact JJ g h)
        have GK:=fX (fW lC (fW Ku JP))
        clear lC sT JJ Ku JP KO
        go_wp2_with (at_builtin;refine zE rfl _ _ 51 rfl 9 (str []) 1 16 Tryz.underlying51 Tryz.infoStr rfl (by decide) (.slice (some ⟨Id.heap.size,0,none⟩) 0 0) 0 [] rfl ?c1 _ ns.length (ts.map str) rfl ?c2 ?c3 ?c4 ?_)
        case c1=>exact Own.litAt #[] 0 _ rfl (by decide) rfl
        case c2=>exact (SRC.out.2.belowAll GK.out.2.1 (fP _)).alloc _
        case c3=>unfold maxLen;omega
        case c4=>omega
        intro A8 c13 w13 Jc J6 JI
        obtain ⟨Kt,JO⟩:=vY (v':=.slice A8 ns.length c13) (w:=Id) ((fH _ Id).alloc (fP _) _) (w_ (fP _)) J6 (fun g h=>by rw [zK];exact JI g h)
        have KN:=fX (fW Jc (fW Kt JO))
        clear Jc J6 JI Kt JO
        go_wp2_with (at_builtin;refine zE rfl _ _ 51 rfl 9 (str []) 1 16 Tryz.underlying51 Tryz.infoStr rfl (by decide) (.slice A8 ns.length c13) ns.length (ts.map str) rfl ?c1 _ 1 [str A] rfl ?c2 ?c3 ?c4 ?_)
        case c1=>exact KN.out.1.keep fun g o _ ho=>zY ho
        case c2=>exact zq.lit rfl
        case c3=>unfold maxLen;omega
        case c4=>omega
        intro a14 c14 GU Jb J5 JH
        obtain ⟨Ek,JN⟩:=vY (v':=.slice a14 (ns.length+1) c14) (w:=Id) (KN.out.2.1.alloc KN.out.2.1.size _) KN.out.2.2 J5 (fun g h=>by rw [zK];exact JH g h)
        have rU:But (· = rd) a_ GU:=(But.ofBelow GK.out.2.1).trans (But.ofBelow Ek)
        have mO:a_.heap.size<=Id.heap.size:=GK.out.2.1.size
        have Jn:=Fd.out.2.lt
        have rN:vm (·≠rd) GU (ns++[x]) (.slice a12 (ns.length+1) c12):=Own.strsRep (by rw [List.map_append];exact GK.out.1.keep fun g o _ ho=>by rw [Ek.block g (zZ ho)];exact ho) (by simp) (fun g hg=>by have:=GK.out.2.2 g hg;omega)
        have rT:vm (·≠rd) GU (ts++[A]) (.slice a14 (ns.length+1) c14):=Own.strsRep (by rw [List.map_append];exact Jb) (by simp [E8.out]) (fun g hg=>by have:=JN g hg;omega)
        have H14:Hid (But (· = rd) w GU/\jQ GU rd (Q+2)):=fX ⟨Fd.out.1.trans rU,Fd.out.2.below ((GK.out.2.1).trans (Ek.mono mO))⟩
        have CL:=fX (HL.out HTQ.out.2 a rest (by rw [HTQ.out.1];exact HTT.out.1) (ns++[x]) (ts++[A]) _ _ (·≠rd) GU (Q+2) (by simp [E8.out]) (by simp;omega) (fun y hy=>by
         rcases List.mem_append.1 hy with h | h
         ·exact HN1.out y h
         ·simp at h;subst h;exact r7.out) rN rT (fun i h=>h) H14.out.2 (by have:=lx.out;omega))
        rw [HB.out] at CL
        clear Jb J5 JH Ek JN rU mO Jn rN rT GK KN SRC
        go_wp2_with fail
        (with_reducible refine CL.out.mono ?_)
        rintro en w15 ⟨s15,rfl,hs15,sU,aV⟩
        have La:Hid (But (· = rd) w w15/\jQ w15 rd (Q+2+C')):=fX (fW (H14.out.1.trans sU) aV)
        obtain ⟨O5,m5,a5⟩:=jY O4 s15 (98+L') (by omega) (by omega)
        obtain ⟨O6,m6,a6⟩:=jY O5 [41] (99+L') (by simp;omega) (by omega)
        clear sU aV CL
        go_wp2_with fail
        go_ret
        have h1:=lx.out
        exact ⟨O6,rfl,by omega,La.out.1,La.out.2.mono (by omega)⟩)))
end Go.Proofs.YtjggkhmojjaomaaGreatDoor

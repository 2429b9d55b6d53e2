/- Walks of functions that the statement reaches, and plain words. No conditions. -/
import Derived.Test.YtjggkhmojjaomaaGreatDoorQ17
set_option linter.unusedVariables false
set_option linter.unusedSimpArgs false
set_option maxHeartbeats 8000000
namespace Go.Proofs.YtjggkhmojjaomaaGreatDoor
open Go.RowKit
def TermD (rd Q L:Nat) (w:World) (en:Ending) (w':World):Prop:=∃ s:Bs,en=.returned (str s)/\s.length<=L/\But (· = rd) w w'/\qi w' rd Q
def vd (F:Nat->Prop) (w:World) (ns:List Bs) (v:Value):Prop:=Rep F w (.sl 9 1 ns.length (ns.map fun x=>DV.val (str x))) v
def DrawT (rd N C L:Nat) (z:Int) (want:Bs):Prop:=∀ (ns ts:List Bs) (nv tv:Value) (F:Nat->Prop) (w:World) (P:Nat),
 ts.length=ns.length->ns.length<=N->(∀ x∈ns,x.length<=1)->vd F w ns nv->vd F w ts tv->(∀ i,F i->i≠rd)->qi w rd P->P+C<=1099511627776 ->
 Calls Tryz.prog 53 #[.pointer (some ⟨rd,0,none⟩),nv,tv,str want,.int .i64 z] w (TermD rd (P+C) L w)
theorem vd.open {F:Nat->Prop} {w:World} {ns:List Bs} {v:Value} (h:vd F w ns v):∃ a c,v=.slice a ns.length c /\
 ∀ (j:Nat) (s:Bs),ns[j]? = some s->∃ b o,a=some ⟨b,o,none⟩/\F b/\b<w.heap.size/\w.cell? ⟨b,o+j,none⟩=some (str s):=by
 obtain ⟨a,c,e,_,_,fU⟩:=zP h
 refine ⟨a,c,e,fun j s hs=>?_⟩
 obtain ⟨b,o,u,d,ea,hF,fG,hd,hc,hr⟩:=fU j (List.getElem?_eq_some_iff.1 hs).1
 rw [List.getElem?_map,hs] at hd
 obtain rfl:=Option.some.inj hd
 rw [zH] at hr
 subst hr
 exact ⟨b,o,ea,hF,fG,hc⟩
theorem vd.but {F:Nat->Prop} {rd:Nat} {w w':World} {ns:List Bs} {v:Value} (h:vd F w ns v) (hb:But (· = rd) w w') (hF:∀ i,F i->i≠rd):vd F w' ns v :=
 Rep.but hb (fun b h=>⟨hF b h,h⟩) h
theorem vd.src {F:Nat->Prop} {w:World} {ns:List Bs} {v:Value} (h:vd F w ns v):zO 1 v ns.length (ns.map str) w:=by
 obtain ⟨xs,hx,hs⟩:=zO.ofRep h (fun us hu u hm=>by
  obtain ⟨j,hj⟩:=List.mem_iff_getElem?.1 hm
  have Af:=(List.getElem?_eq_some_iff.1 hj).1
  have hlen:=hu.length
  rw [List.length_map] at hlen
  have hd:(ns.map fun p=>DV.val (str p))[j]? = some (.val (str (ns[j]'(by omega)))):=by rw [List.getElem?_map,List.getElem?_eq_getElem (by omega)];rfl
  obtain ⟨v,hv,hr⟩:=zX.at hu hd
  rw [hj] at hv
  obtain rfl:=Option.some.inj hv
  rw [zH] at hr
  subst hr
  simp [str,Value.oneCell'])
 have e:xs=ns.map str:=by
  clear hs h
  induction ns generalizing xs with
  | nil=>rw [List.map_nil,zC] at hx;subst hx;rfl
  | cons n ns ih =>
    rw [List.map_cons] at hx
    obtain ⟨u,us,rfl,h1,h2⟩:=zQ.1 hx
    rw [zH] at h1
    subst h1
    rw [ih _ h2];rfl
 rw [<- e];exact hs
theorem Own.strsRep {F:Nat->Prop} {w:World} {xs:List Bs} {a:Option Addr} {n c:Nat} (h:Own w 9 1 (.slice a n c) n (xs.map str)) (hn:n=xs.length) (hF:∀ g,(Value.slice a n c).ownBlock=some g->F g):vd F w xs (.slice a n c):=by
 subst hn
 refine h.rep hF ?_
 clear h hF
 induction xs with
 | nil=>exact zC.2 rfl
 | cons x xs ih=>exact zQ.2 ⟨_,_,rfl,zH.2 rfl,ih⟩
def pL:List Bs:=[[98],[98],[40,62,32,98,32,98,41]]
def uE:List Bs:=[[116],[102],[117]]
def pA:List Bs:=[[120],[121],[122]]
theorem kind_len {s:Bs} (h:s∈pL):s.length<=7:=by
 simp only [pL,List.mem_cons,List.not_mem_nil,or_false] at h
 rcases h with rfl | rfl | rfl <;> decide
theorem cG {s:Bs} (h:s∈uE):s.length<=1:=by
 simp only [uE,List.mem_cons,List.not_mem_nil,or_false] at h
 rcases h with rfl | rfl | rfl <;> decide
theorem name_len1 {s:Bs} (h:s∈pA):s.length<=1:=by
 simp only [pA,List.mem_cons,List.not_mem_nil,or_false] at h
 rcases h with rfl | rfl | rfl <;> decide
theorem yY {t:Ty} (h:zV t<=15):(zF t).length<=90:=by
 have:=cZ t
 rw [jz,xq] at this
 omega
theorem qP (A B:Bs) (n:Nat) (h:A.length+B.length<=n) (hn:n<=9223372036854775807):∃ O:Bs,O.length<=n/\∀ w0,(Op.stringOp .add ⟨A.toArray⟩ ⟨B.toArray⟩).run Tryz.prog w0=.ok (str O) w0 :=
 ⟨A++B,by rw [List.length_append];exact h,fun w0=>qR A B (by omega) w0⟩
theorem dm {rd Q:Nat} {w w':World} (h:But (· = rd) w w'/\qi w' rd Q) {v:World} (hb:Below w'.heap.size w' v):But (· = rd) w v/\qi v rd Q:=⟨h.1.trans (But.ofBelow hb),h.2.below hb⟩
set_option maxRecDepth 100000 in
theorem d7 (rd N C' L' C L:Nat) (z:Int) (want:Bs) (aO : -1000<=z) (nJ:z<=1000) (hw:want.length<=2000) (hN:N<=100)
 (hl:(zL want).2=true->∀ a rest,(zL want).1.args=a::rest->DrawT rd (N+1) C' L' (z-1) (zF (.mk rest)))
 (ho : -2<z->∀ want':Bs,want'.length<=want.length+20->DrawT rd (N+1) C' L' (z-1) want')
 (hC:C'+N+10<=C) (hC3 : -2<z->3*C'+N+10<=C) (hL:L'+220<=L) (hL3 : -2<z->3*L'+20<=L) (hL5:L'<=1000000):DrawT rd N C L z want:=by
 intro ns ts nv tv F w P mU hns mZ Aa fa hF hr hP
 obtain ⟨na,nc,rfl,mz⟩:=Aa.open
 obtain ⟨ta,tc,rfl,J0⟩:=fa.open
 have HL:=ed hl;have HO:=ed ho;have HN:=ed mz;have HT:=ed J0;have HF:=ed hF;have HN1:=ed mZ
 have HRN:=ed Aa;have HRT:=ed fa
 have EW:=ed mU
 have HC:=ed (ef hC (ef hC3 (ef hL hL3)))
 have zz:IntKind.i64.wrap (z-1)=z-1:=gJ _ (by omega) (by omega)
 rw [mU]
 have BY:=hr.lt
 clear hl ho mz J0 hF mZ Aa fa mU hC3 hL3
 by_cases lf:z<=0
 rotate_left
 have hz0':decide (z<=0)=false:=decide_eq_false lf
 go_enter Tryz.func53,Tryz.ntmps53
 go_wp2_with fail
 refine (yB rd P 7 w hr (by omega) (by omega) (by omega)).mono ?_
 rintro en wz ⟨v,rfl,hv,fP,mu⟩
 have HZ:Hid (∃ Q,Q<=P+1/\But (· = rd) w wz/\qi wz rd Q):=ed ⟨_,ei _,fP,mu⟩
 clear fP mu lf
 by_cases lI:v=0
 rotate_left
 have se:((v:Int) == 0)=false:=by rw [beq_eq_false_iff_ne];omega
 have HM:Hid (∃ Q,Q<=P+1+ns.length/\But (· = rd) w wz/\qi wz rd Q):=ed (by obtain ⟨Q,h1,h2⟩:=HZ.out;exact ⟨Q,by omega,h2⟩)
 clear HZ hv lI
 go_wp2_with fail
 rotate_left
 have hz0':decide (z<=0)=true:=decide_eq_true lf
 have HZ:Hid (∃ Q,Q<=P+1/\But (· = rd) w w/\qi w rd Q):=ed ⟨P,Nat.le_succ _,But.refl _ _,hr⟩
 clear lf
 go_enter Tryz.func53,Tryz.ntmps53
 go_wp2_with fail
 rotate_left
 subst lI
 clear hv
 go_wp2_with fail
 rotate_left
 any_goals (
  go_loopw [12] (fun i wz=>∃ (j:Nat) (wr:World) (Q:Nat),wr=wz/\j<=ns.length/\i=.int .i64 ((j:Int)-1)/\Q+j<=P+1+ns.length/\But (· = rd) w wr/\qi wr rd Q) (fun i _=>(intOf i+1).toNat)
  case atStart=>obtain ⟨Q,hQ,lO,hrz⟩:=HZ.out;exact ⟨ns.length,_,Q,rfl,ei _,rfl,by omega,lO,hrz⟩
  case' round =>
   obtain ⟨j,wr,Q,ewr,hj,rfl,hQ,n7,i_⟩:=hrel
   subst ewr
   clear HZ
   rcases j with _ | j
   rotate_left
   ·rw [show ((j+1:Nat):Int)-1=(j:Int) from by omega]
    have Af:j<ns.length:=by omega
    obtain ⟨nj,hnj⟩:∃ s,ns[j]? = some s:=⟨_,List.getElem?_eq_getElem Af⟩
    obtain ⟨tj,De⟩:∃ s,ts[j]? = some s:=⟨_,List.getElem?_eq_getElem (by rw [EW.out];exact Af)⟩
    obtain ⟨nb,no,ena,Du,FT,aR⟩:=HN.out j nj hnj
    obtain ⟨tb,tO,eta,hFt,iN,Et⟩:=HT.out j tj De
    subst ena
    subst eta
    have HJ:=ed (ef hnj (ef aR (ef Et (ef FT (ef iN (ef Du hFt))))))
    have Jn:(j:Int)<(ns.length:Int):=by omega
    have zj:IntKind.i64.wrap ((j:Int)+1)=((j+1:Nat):Int):=by rw [gJ _ (by omega) (by omega)];omega
    have HB:=ed (ef n7 i_)
    clear n7 i_ hnj De aR Et FT iN Du hFt
    go_wp2_with fail
    go_loopw [13,14] (fun b k wz=>∃ (bb:Bool) (kk:Nat) (wq:World),wq=wz/\b=.bool bb/\kk<=ns.length/\k=.int .i64 kk/\But (· = rd) w wq/\qi wq rd Q) (fun _ k _=>ns.length-(intOf k).toNat)
    case atStart=>exact ⟨false,j+1,_,rfl,rfl,by omega,by first | rfl | go_num,HB.out.1,HB.out.2⟩
    case round =>
     obtain ⟨bb,kk,wq,ewq,rfl,ir,rfl,Gb,o_⟩:=hrel
     subst ewq
     have cn:wq.cell? ⟨nb,no+j,none⟩=some (str nj):=(Gb.cell (p:=⟨nb,no+j,none⟩) HJ.out.2.2.2.1 (HF.out _ HJ.out.2.2.2.2.2.1)).trans HJ.out.2.1
     have ct:wq.cell? ⟨tb,tO+j,none⟩=some (str tj):=(Gb.cell (p:=⟨tb,tO+j,none⟩) HJ.out.2.2.2.2.1 (HF.out _ HJ.out.2.2.2.2.2.2)).trans HJ.out.2.2.1
     have HQ:=ed (ef Gb o_)
     clear Gb o_ HB
     by_cases fG:kk<ns.length
     ·have hkI:(kk:Int)<(ns.length:Int):=by omega
      obtain ⟨nk,hnk⟩:∃ s,ns[kk]? = some s:=⟨_,List.getElem?_eq_getElem fG⟩
      obtain ⟨nb2,no2,e2,Cr,ap,rD⟩:=HN.out kk nk hnk
      simp only [Option.some.injEq,Addr.mk.injEq,and_true] at e2
      obtain ⟨rfl,rfl⟩:=e2
      have ck:wq.cell? ⟨nb,no+kk,none⟩=some (str nk):=(HQ.out.1.cell (p:=⟨nb,no+kk,none⟩) ap (HF.out _ Cr)).trans rD
      clear hnk Cr ap rD ct
      cases bb with
      | true =>
        go_wp2_with fail
        go_quiet (fail)
        go_wp2_with fail
        go_round
        case rel=>exact ⟨_,kk+1,_,rfl,rfl,by omega,by go_num,wW HQ.out.1 _,HQ.out.2.drewN _⟩
        case measure=>simp only [intOf];omega
      | false =>
        go_wp2_with fail
        go_quiet (fail)
        go_wp2_with fail
        go_round
        case rel=>exact ⟨_,kk+1,_,rfl,rfl,by omega,by go_num,wW HQ.out.1 _,HQ.out.2.drewN _⟩
        case measure=>simp only [intOf];omega
     ·have hkk2:kk=ns.length:=by omega
      subst hkk2
      clear fG ir
      cases bb with
      | true =>
        go_wp2_with fail
        go_round
        case rel=>exact ⟨j,_,Q,rfl,by omega,by go_num,by omega,HQ.out.1,HQ.out.2⟩
        case measure=>simp only [intOf];omega
      | false =>
        by_cases hwt:tj=want
        rotate_left
        ·have q1:(tj == want)=false:=by rw [beq_eq_false_iff_ne];exact hwt
         go_wp2_with fail
         go_round
         case rel=>exact ⟨j,_,Q,rfl,by omega,by go_num,by omega,HQ.out.1,HQ.out.2⟩
         case measure=>simp only [intOf];omega
        subst hwt
        go_wp2_with fail
        refine (yB rd Q 4 wq HQ.out.2 (by omega) (by omega) (by omega)).mono ?_
        rintro en w4 ⟨v4,rfl,hv4,fx,im⟩
        have cn4:w4.cell? ⟨nb,no+j,none⟩=some (str nj):=(fx.cell (p:=⟨nb,no+j,none⟩) (e9 _ _ cn) (HF.out _ HJ.out.2.2.2.2.2.1)).trans cn
        have H4:=ed (ef (HQ.out.1.trans fx) im)
        clear fx im cn ct
        by_cases hv40:v4=0
        ·subst hv40
         clear hv4
         go_wp2_with fail
         go_round
         case rel=>exact ⟨j,_,Q+1,rfl,by omega,by go_num,by omega,H4.out.1,H4.out.2⟩
         case measure=>simp only [intOf];omega
        ·have hv4':decide ((0:Int)<(v4:Int))=true:=decide_eq_true (by omega)
         go_wp2_with fail
         go_ret
         have h1:=HN1.out nj (List.mem_of_getElem? HJ.out.1)
         have h2:=HC.out
         exact ⟨nj,rfl,by omega,H4.out.1,H4.out.2.mono (by omega)⟩
   rw [show ((0:Nat):Int)-1 = -1 from rfl]
   have HM:Hid (∃ Q,Q<=P+1+ns.length/\But (· = rd) w wr/\qi wr rd Q):=ed ⟨Q,by omega,n7,i_⟩
   clear n7 hQ i_
   by_cases hwb:want=[98]
   ·subst hwb
    have q98:(([98]:Bs) == [98])=true:=rfl
    obtain ⟨Q',hQ',fN,rA⟩:=HM.out
    have mX:=rA.lt
    clear HM
    go_wp2_with fail
    refine (wg rd Q' _ uE _ (rA.alloc _) (xN.new mX uE 3 rfl _) (by decide) (by decide) (by omega)).mono ?_
    rintro en w5 ⟨s,hs,rfl,fv,oK⟩
    have rV:=cG hs
    have H5:=ed (ef ((fN.alloc _).trans fv) oK)
    clear hs fv oK fN rA
    go_wp2_with fail
    go_ret
    have h2:=HC.out
    exact ⟨s,rfl,by omega,H5.out.1,H5.out.2.mono (by omega)⟩
   have q98:(want == [98])=false:=by rw [beq_eq_false_iff_ne];exact hwb
   clear hwb
   go_wp2_with fail)
 all_goals (
  obtain ⟨Q,hQ,Gb,o_⟩:=HM.out
  have hC1:=HC.out.1
  refine (yB rd Q 6 _ o_ (by omega) (by omega) (by omega)).mono ?_
  rintro en w6 ⟨v6,rfl,hv6,fC,my⟩
  have H6:Hid (But (· = rd) w w6/\qi w6 rd (Q+1)):=ed (ef (Gb.trans fC) my)
  have Jb:=my.lt
  have II:vd F w ts (.slice ta ns.length tc):=by rw [<- EW.out];exact HRT.out
  have KJ:=ed II
  clear Gb o_ fC my HM II hC1
  have JOIN:Hid (∀ (wq:World) (Q':Nat),But (· = rd) w wq->qi wq rd Q'->Q'+C'<=1099511627776->-2<z->∀ want':Bs,want'.length<=want.length+20 ->
   Calls Tryz.prog 53 #[.pointer (some ⟨rd,0,none⟩),.slice na ns.length nc,.slice ta ns.length tc,str want',.int .i64 (z-1)] wq (TermD rd (Q'+C') L' wq)):=ed (by
   intro wq Q' fh hrw hq hz want' fB
   exact HO.out hz want' fB ns ts _ _ F wq Q' EW.out (by omega) HN1.out (HRN.out.but fh HF.out) (KJ.out.but fh HF.out) HF.out hrw hq)
  by_cases h0:v6=0/\-2<z
  ·obtain ⟨rfl,tX⟩:=h0
   have Kg:=HC.out.2.1 tX
   have Ka:=HC.out.2.2.2 tX
   have aL:=ed tX
   have lR:=ed (ef Kg (ef Ka hQ))
   have Ah:decide ((-2:Int)<z)=true:=decide_eq_true tX
   clear tX hv6 Kg Ka hQ
   go_wp2_with fail
   refine (wg rd (Q+1) _ pL _ (H6.out.2.alloc _) (xN.new Jb pL 3 rfl _) (by decide) (by decide) (by have:=lR.out;omega)).mono ?_
   rintro en w7 ⟨kd,ib,rfl,fW,sA⟩
   have hk7:=kind_len ib
   have H7:Hid (But (· = rd) w w7/\qi w7 rd (Q+2)):=ed (ef ((H6.out.1.alloc _).trans fW) sA)
   obtain ⟨O1,m1,a1⟩:=qP [40,62,32] kd 10 (by simp;omega) (by omega)
   obtain ⟨O2,m2,a2⟩:=qP O1 [32] 11 (by simp;omega) (by omega)
   obtain ⟨O3,m3,a3⟩:=qP O2 want (want.length+11) (by omega) (by omega)
   obtain ⟨O4,m4,a4⟩:=qP O3 [41] (want.length+12) (by simp;omega) (by omega)
   have HK7:=ed hk7
   clear ib fW sA hk7
   go_wp2_with fail
   (with_reducible refine (JOIN.out w7 (Q+2) H7.out.1 H7.out.2 (by have:=lR.out;omega) aL.out O4 (by omega)).mono ?_)
   rintro en w8 ⟨s8,rfl,DF,ft,sF⟩
   have H8:Hid (But (· = rd) w w8/\qi w8 rd (Q+2+C')):=ed (ef (H7.out.1.trans ft) sF)
   obtain ⟨O5,m5,a5⟩:=qP [40,97,112,112,32] s8 (L'+5) (by simp;omega) (by omega)
   obtain ⟨O6,m6,a6⟩:=qP O5 [32] (L'+6) (by simp;omega) (by omega)
   clear ft sF
   go_wp2_with fail
   (with_reducible refine (JOIN.out w8 (Q+2+C') H8.out.1 H8.out.2 (by have:=lR.out;omega) aL.out kd (by have:=HK7.out;omega)).mono ?_)
   rintro en w9 ⟨s9,rfl,GU,mB,oZ⟩
   have H9:Hid (But (· = rd) w w9/\qi w9 rd (Q+2+C'+C')):=ed (ef (H8.out.1.trans mB) oZ)
   obtain ⟨O7,m7,a7⟩:=qP O6 s9 (L'+6+L') (by omega) (by omega)
   obtain ⟨O8,m8,a8⟩:=qP O7 [41] (L'+7+L') (by simp;omega) (by omega)
   clear mB oZ
   go_wp2_with fail
   go_ret
   have h1:=lR.out
   exact ⟨O8,rfl,by omega,H9.out.1,H9.out.2.mono (by omega)⟩
  by_cases h12:(v6=1\/v6=2)/\-2<z
  ·obtain ⟨h12,tX⟩:=h12
   have Kg:=HC.out.2.1 tX
   have Ka:=HC.out.2.2.2 tX
   have aL:=ed tX
   have lR:=ed (ef Kg (ef Ka hQ))
   have Ah:decide ((-2:Int)<z)=true:=decide_eq_true tX
   clear tX hv6 Kg Ka hQ h0
   have C1:=ed (JOIN.out w6 (Q+1) H6.out.1 H6.out.2 (by have:=lR.out;omega) aL.out [98] (by simp))
   rcases h12 with rfl | rfl
   all_goals (
    go_wp2_with fail
    (with_reducible refine C1.out.mono ?_)
    rintro en w8 ⟨s8,rfl,DF,ft,sF⟩
    have H8:Hid (But (· = rd) w w8/\qi w8 rd (Q+1+C')):=ed (ef (H6.out.1.trans ft) sF)
    obtain ⟨O5,m5,a5⟩:=qP [40,105,102,32] s8 (L'+4) (by simp;omega) (by omega)
    obtain ⟨O6,m6,a6⟩:=qP O5 [32] (L'+5) (by simp;omega) (by omega)
    clear ft sF C1
    go_wp2_with fail
    (with_reducible refine (JOIN.out w8 (Q+1+C') H8.out.1 H8.out.2 (by have:=lR.out;omega) aL.out want (by omega)).mono ?_)
    rintro en w9 ⟨s9,rfl,GU,mB,oZ⟩
    have H9:Hid (But (· = rd) w w9/\qi w9 rd (Q+1+C'+C')):=ed (ef (H8.out.1.trans mB) oZ)
    obtain ⟨O7,m7,a7⟩:=qP O6 s9 (L'+5+L') (by omega) (by omega)
    obtain ⟨O8,m8,a8⟩:=qP O7 [32] (L'+6+L') (by simp;omega) (by omega)
    clear mB oZ
    go_wp2_with fail
    (with_reducible refine (JOIN.out w9 (Q+1+C'+C') H9.out.1 H9.out.2 (by have:=lR.out;omega) aL.out want (by omega)).mono ?_)
    rintro en aI ⟨s10,rfl,hs10,sC,lZ⟩
    have E2:Hid (But (· = rd) w aI/\qi aI rd (Q+1+C'+C'+C')):=ed (ef (H9.out.1.trans sC) lZ)
    obtain ⟨O9,m9,a9⟩:=qP O8 s10 (L'+6+L'+L') (by omega) (by omega)
    obtain ⟨O10,m10,Dv⟩:=qP O9 [41] (L'+7+L'+L') (by simp;omega) (by omega)
    clear sC lZ
    go_wp2_with fail
    go_ret
    have h1:=lR.out
    exact ⟨O10,rfl,by omega,E2.out.1,E2.out.2.mono (by omega)⟩)
  have mi:(v6=0/\decide ((-2:Int)<z)=false)\/((v6=1\/v6=2)/\decide ((-2:Int)<z)=false)\/(((v6:Int) == 0)=false/\((v6:Int) == 1)=false/\((v6:Int) == 2)=false):=by
   by_cases GP : -2<z
   ·refine .inr (.inr ⟨?_,?_,?_⟩) <;> rw [beq_eq_false_iff_ne] <;> omega
   ·have hd:decide ((-2:Int)<z)=false:=decide_eq_false GP
    by_cases k0:v6=0
    ·exact .inl ⟨k0,hd⟩
    by_cases Ih:v6=1\/v6=2
    ·exact .inr (.inl ⟨Ih,hd⟩)
    ·refine .inr (.inr ⟨?_,?_,?_⟩) <;> rw [beq_eq_false_iff_ne] <;> omega
  have CT:=ed (xZ want (show _<=_ by omega) w6)
  have lR:=ed (ef HC.out.1 (ef HC.out.2.2.1 hQ))
  obtain ⟨tt,htt⟩:=zzN ((zL want).1)
  obtain ⟨qq,FL⟩:=zzN ((zL want).2)
  have HTQ:Hid ((zL want).1=tt/\(zL want).2=qq):=ed ⟨htt,FL⟩
  have il:Hid (Calls Tryz.prog 38 #[str want] w6 fun en w'=>∃ v,en=.returned (.tuple #[.agg #[v],.bool qq])/\Below w6.heap.size w6 w'/\Rep (w6.heap.size<=·) w' (kz tt) v):=ed (by
   have:=CT.out;unfold TypePost at this;rw [htt,FL] at this;exact this)
  clear h0 h12 hv6 CT htt FL hQ
  rcases mi with ⟨rfl,Ah⟩ | ⟨rfl | rfl,Ah⟩ | ⟨lX,oB,Ah⟩
  all_goals (
   go_wp2_with fail
   (with_reducible refine il.out.mono ?_)
   rintro en w7 ⟨tv,rfl,fW,fa⟩
   obtain ⟨ta7,oq,etv⟩:=kK fa
   subst etv
   rw [qv] at fa
   have hlt7:rd<w7.heap.size:=fK Jb fW.size
   have H7:Hid (But (· = rd) w w7/\qi w7 rd (Q+1)):=ed (dm H6.out fW)
   have HRT7:=ed fa
   clear fW fa il
   cases qq with
   | false =>
     go_wp2_with fail
     refine (wg rd (Q+1) _ uE _ ((H7.out.2.alloc _).alloc _) (xN.newAt (by simp;omega) uE 3 rfl _ (w7.heap.size+1) (by simp)) (by decide) (by decide) (by have:=lR.out;omega)).mono ?_
     rintro en w8 ⟨s,hs,rfl,ft,sF⟩
     have rV:=cG hs
     have H8:=ed (ef (((H7.out.1.alloc _).alloc _).trans ft) sF)
     clear hs ft sF
     go_wp2_with fail
     go_ret
     have h2:=lR.out
     exact ⟨s,rfl,by omega,H8.out.1,H8.out.2.mono (by omega)⟩
   | true =>
     cases r_:tt.args with
     | nil =>
       simp only [List.length_nil]
       clear r_
       go_wp2_with fail
       refine (wg rd (Q+1) _ uE _ ((H7.out.2.alloc _).alloc _) (xN.newAt (by simp;omega) uE 3 rfl _ (w7.heap.size+1) (by simp)) (by decide) (by decide) (by have:=lR.out;omega)).mono ?_
       rintro en w8 ⟨s,hs,rfl,ft,sF⟩
       have rV:=cG hs
       have H8:=ed (ef (((H7.out.1.alloc _).alloc _).trans ft) sF)
       clear hs ft sF
       go_wp2_with fail
       go_ret
       have h2:=lR.out
       exact ⟨s,rfl,by omega,H8.out.1,H8.out.2.mono (by omega)⟩
     | cons a rest =>
       have DG:=HRT7.out
       simp only [List.length_cons]
       rw [r_,List.length_cons,qH] at DG
       have ett:tt=.mk (a::rest):=by cases tt;simp only [Ty.args] at r_;rw [r_]
       have fM:zV tt<=15:=by have h:=HTQ.out;rw [<- h.1];exact vT h.2
       rw [ett,jv] at fM
       have p1:=kr a;have p2:=kr (.mk rest)
       have It:=yY (t:=a) (by omega)
       have Ir:=yY (t:=.mk rest) (by omega)
       have EC:rest.length<=15:=by have:=args_len (.mk rest);simp only [Ty.args] at this;omega
       obtain ⟨ae,cape,ee,hcap,_,fU⟩:=zP DG
       simp only [Value.slice.injEq] at ee
       obtain ⟨rfl,_,rfl⟩:=ee
       obtain ⟨eb,eo,u,d,ea,hF7,fG,hd,hc,nI⟩:=fU 0 (by omega)
       subst ea
       simp only [List.getElem?_cons_zero,Option.some.injEq] at hd
       subst hd
       rw [Nat.add_zero] at hc
       have hcW:=zJ (o:=.cells #[.slice (some ⟨eb,eo,none⟩) (rest.length+1) oq] 43) hc
       have IE:Rep (w6.heap.size<=·) (w7.alloc (.cells #[.slice (some ⟨eb,eo,none⟩) (rest.length+1) oq] 43)) (kz a) u:=(Rep.keep fun b o h ho=>⟨h,zY ho⟩).1 _ _ nI
       have hFW:(w7.alloc (.cells #[.slice (some ⟨eb,eo,none⟩) (rest.length+1) oq] 43)).cell? ⟨w7.heap.size,0,none⟩=some (.slice (some ⟨eb,eo,none⟩) (rest.length+1) oq):=by simp
       have HRR:Hid (∀ v,Rep (w6.heap.size<=·) w7 (kz (.mk rest)) v->∀ wz,Below (w7.heap.size+1) (w7.alloc (.cells #[.slice (some ⟨eb,eo,none⟩) (rest.length+1) oq] 43)) wz ->
        Calls Tryz.prog 46 #[.agg #[v]] wz fun en w'=>en=.returned (str (zF (.mk rest)))/\Below wz.heap.size wz w'):=ed (fun v hv wz hz =>
        vI 15 (.mk rest) (by omega) (by omega) (fun _=>True) wz v ((Rep.keep fun b o _ ho=>⟨trivial,by rw [hz.block b (by have:=zZ ho;omega)];exact zY ho⟩).1 _ _ hv))
       have C1:=ed (vI 15 a (by omega) (by omega) (w6.heap.size<=·) _ u IE)
       have KF:Hid (¬ oq=1->Rep (w6.heap.size<=·) w7 (kz (.mk rest)) (.slice (some ⟨eb,eo+1,none⟩) rest.length (oq-1))):=ed (fun _=>by rw [qv];exact wH (d:=kz a) DG)
       have HEnd:Hid (oq=1->rest=[]/\Rep (w6.heap.size<=·) w7 (kz (.mk rest)) (.slice (some ⟨eb,eo,none⟩) rest.length 0)):=ed (fun h=>by
        have e:rest=[]:=by cases rest with
         | nil=>rfl
         | cons x xs=>simp at hcap;omega
        refine ⟨e,?_⟩
        subst e
        rw [qv]
        exact zp.2 ⟨by simp [qH,Ty.args],_,_,rfl,Nat.zero_le _,fun h=>by simp at h,.inl rfl⟩)
       have HTT:=ed (ef r_ ett)
       have HCAP:=ed hcap
       obtain ⟨A,hA⟩:=zzN (zF a)
       obtain ⟨B,hB⟩:=zzN (zF (.mk rest))
       have HB:=ed hB
       rw [hA] at C1 It
       rw [hB] at HRR Ir
       clear DG fU hF7 fG hc nI IE r_ ett fM p1 p2 hA hB hcap
       go_wp2_with fail
       (with_reducible refine C1.out.mono ?_)
       rintro en w8 ⟨rfl,ft⟩
       have hF8:=(ft.cell (e9 _ _ hFW)).trans hFW
       have HB8:=ed ft
       clear ft hFW hcW C1
       have hTC:(oq=1/\∃ rc:Nat,rc=0/\Rep (w6.heap.size<=·) w7 (kz (.mk rest)) (.slice (some ⟨eb,eo,none⟩) rest.length rc))\/(¬ oq=1/\Rep (w6.heap.size<=·) w7 (kz (.mk rest)) (.slice (some ⟨eb,eo+1,none⟩) rest.length (oq-1))):=by
        by_cases h:oq=1
        ·exact .inl ⟨h,0,rfl,(HEnd.out h).2⟩
        ·exact .inr ⟨h,KF.out h⟩
       rcases hTC with ⟨Et,rc,FJ,rW⟩ | ⟨Et,rW⟩
       all_goals (
        have CB:=ed (HRR.out _ rW w8 (HB8.out.mono (by simp)))
        clear rW
        try subst FJ
        go_wp2_with fail
        (with_reducible refine CB.out.mono ?_)
        rintro en w9 ⟨rfl,mB⟩
        have H9:Hid (But (· = rd) w w9/\qi w9 rd (Q+1)):=ed (by
         have h1:But (· = rd) w (w7.alloc (.cells #[.slice (some ⟨eb,eo,none⟩) (rest.length+1) oq] 43))/\qi (w7.alloc (.cells #[.slice (some ⟨eb,eo,none⟩) (rest.length+1) oq] 43)) rd (Q+1):=⟨H7.out.1.alloc _,H7.out.2.alloc _⟩
         exact dm (dm h1 HB8.out) mB)
        have hlt9:=H9.out.2.lt
        clear mB hF8 CB
        go_wp2_with fail
        refine (wg rd (Q+1) _ pA _ (H9.out.2.alloc _) (xN.new hlt9 pA 3 rfl _) (by decide) (by decide) (by have:=lR.out;omega)).mono ?_
        rintro en aI ⟨x,hx,rfl,sC,lZ⟩
        have Dc:=name_len1 hx
        have E2:Hid (But (· = rd) w aI/\qi aI rd (Q+2)):=ed (ef ((H9.out.1.alloc _).trans sC) lZ)
        obtain ⟨O1,m1,a1⟩:=qP [40,108,97,109,32] x 6 (by simp;omega) (by omega)
        obtain ⟨O2,m2,a2⟩:=qP O1 [32] 7 (by simp;omega) (by omega)
        obtain ⟨O3,m3,a3⟩:=qP O2 A 97 (by omega) (by omega)
        obtain ⟨O4,m4,a4⟩:=qP O3 [32] 98 (by simp;omega) (by omega)
        clear hx sC lZ
        have rM:=ed Dc;clear Dc
        have srcN:zO 1 (.slice na ns.length nc) ns.length (ns.map str) aI:=(HRN.out.but E2.out.1 HF.out).src
        have srcT:zO 1 (.slice ta ns.length tc) ns.length (ts.map str) aI:=by
         have h:=(KJ.out.but E2.out.1 HF.out).src
         rw [EW.out] at h;exact h
        have SRC:=ed (ef srcN srcT)
        clear srcN srcT
        go_wp2_with (at_builtin;refine zD rfl _ _ 51 rfl 9 (str []) 1 16 Tryz.underlying51 Tryz.infoStr rfl (by decide) (.slice (some ⟨aI.heap.size,0,none⟩) 0 0) 0 [] rfl ?c1 _ ns.length (ns.map str) rfl ?c2 ?c3 ?c4 ?_)
        case c1=>exact Own.litAt #[] 0 _ rfl (by decide) rfl
        case c2=>exact SRC.out.1.alloc _
        case c3=>unfold maxLen;omega
        case c4=>omega
        intro a11 c11 r9 I3 iK Jy
        obtain ⟨Kj,JE⟩:=vZ (v':=.slice a11 ns.length c11) ((e_ _ aI).alloc (ei _) _) (wu (ei _)) iK (fun g h=>by rw [zK];exact Jy g h)
        have KE:=ed (ef I3 (ef Kj JE))
        clear I3 iK Jy Kj JE
        go_wp2_with (at_builtin;refine zD rfl _ _ 51 rfl 9 (str []) 1 16 Tryz.underlying51 Tryz.infoStr rfl (by decide) (.slice a11 ns.length c11) ns.length (ns.map str) rfl ?c1 _ 1 [str x] rfl ?c2 ?c3 ?c4 ?_)
        case c1=>exact KE.out.1.keep fun g o _ ho=>zY ho
        case c2=>exact zO.lit rfl
        case c3=>unfold maxLen;omega
        case c4=>omega
        intro a12 c12 Hs lJ sB Jw
        obtain ⟨Ki,JD⟩:=vZ (v':=.slice a12 (ns.length+1) c12) (KE.out.2.1.alloc KE.out.2.1.size _) KE.out.2.2 sB (fun g h=>by rw [zK];exact Jw g h)
        have Gy:=ed (ef lJ (ef Ki JD))
        clear lJ sB Jw Ki JD KE
        go_wp2_with (at_builtin;refine zD rfl _ _ 51 rfl 9 (str []) 1 16 Tryz.underlying51 Tryz.infoStr rfl (by decide) (.slice (some ⟨Hs.heap.size,0,none⟩) 0 0) 0 [] rfl ?c1 _ ns.length (ts.map str) rfl ?c2 ?c3 ?c4 ?_)
        case c1=>exact Own.litAt #[] 0 _ rfl (by decide) rfl
        case c2=>exact (SRC.out.2.belowAll Gy.out.2.1 (ei _)).alloc _
        case c3=>unfold maxLen;omega
        case c4=>omega
        intro AU c13 w13 I2 JU Jv
        obtain ⟨Kh,JC⟩:=vZ (v':=.slice AU ns.length c13) (w:=Hs) ((e_ _ Hs).alloc (ei _) _) (wu (ei _)) JU (fun g h=>by rw [zK];exact Jv g h)
        have KD:=ed (ef I2 (ef Kh JC))
        clear I2 JU Jv Kh JC
        go_wp2_with (at_builtin;refine zD rfl _ _ 51 rfl 9 (str []) 1 16 Tryz.underlying51 Tryz.infoStr rfl (by decide) (.slice AU ns.length c13) ns.length (ts.map str) rfl ?c1 _ 1 [str A] rfl ?c2 ?c3 ?c4 ?_)
        case c1=>exact KD.out.1.keep fun g o _ ho=>zY ho
        case c2=>exact zO.lit rfl
        case c3=>unfold maxLen;omega
        case c4=>omega
        intro a14 c14 GI I1 JT Ju
        obtain ⟨D9,JB⟩:=vZ (v':=.slice a14 (ns.length+1) c14) (w:=Hs) (KD.out.2.1.alloc KD.out.2.1.size _) KD.out.2.2 JT (fun g h=>by rw [zK];exact Ju g h)
        have nw:But (· = rd) aI GI:=(But.ofBelow Gy.out.2.1).trans (But.ofBelow D9)
        have mH:aI.heap.size<=Hs.heap.size:=Gy.out.2.1.size
        have Jc:=E2.out.2.lt
        have rN:vd (·≠rd) GI (ns++[x]) (.slice a12 (ns.length+1) c12):=Own.strsRep (by rw [List.map_append];exact Gy.out.1.keep fun g o _ ho=>by rw [D9.block g (zZ ho)];exact ho) (by simp) (fun g hg=>by have:=Gy.out.2.2 g hg;omega)
        have rT:vd (·≠rd) GI (ts++[A]) (.slice a14 (ns.length+1) c14):=Own.strsRep (by rw [List.map_append];exact I1) (by simp [EW.out]) (fun g hg=>by have:=JB g hg;omega)
        have H14:Hid (But (· = rd) w GI/\qi GI rd (Q+2)):=ed ⟨E2.out.1.trans nw,E2.out.2.below ((Gy.out.2.1).trans (D9.mono mH))⟩
        have CL:=ed (HL.out HTQ.out.2 a rest (by rw [HTQ.out.1];exact HTT.out.1) (ns++[x]) (ts++[A]) _ _ (·≠rd) GI (Q+2) (by simp [EW.out]) (by simp;omega) (fun y hy=>by
         rcases List.mem_append.1 hy with h | h
         ·exact HN1.out y h
         ·simp at h;subst h;exact rM.out) rN rT (fun i h=>h) H14.out.2 (by have:=lR.out;omega))
        rw [HB.out] at CL
        clear I1 JT Ju D9 JB nw mH Jc rN rT Gy KD SRC
        go_wp2_with fail
        (with_reducible refine CL.out.mono ?_)
        rintro en w15 ⟨s15,rfl,hs15,ru,te⟩
        have KY:Hid (But (· = rd) w w15/\qi w15 rd (Q+2+C')):=ed (ef (H14.out.1.trans ru) te)
        obtain ⟨O5,m5,a5⟩:=qP O4 s15 (98+L') (by omega) (by omega)
        obtain ⟨O6,m6,a6⟩:=qP O5 [41] (99+L') (by simp;omega) (by omega)
        clear ru te CL
        go_wp2_with fail
        go_ret
        have h1:=lR.out
        exact ⟨O6,rfl,by omega,KY.out.1,KY.out.2.mono (by omega)⟩)))
end Go.Proofs.YtjggkhmojjaomaaGreatDoor

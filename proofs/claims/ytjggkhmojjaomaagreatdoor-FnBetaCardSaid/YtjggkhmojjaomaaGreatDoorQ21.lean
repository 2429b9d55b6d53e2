/- Walks of functions that the statement reaches, and plain words. No conditions. -/
import Derived.Test.YtjggkhmojjaomaaGreatDoorQ14
import Derived.Test.YtjggkhmojjaomaaGreatDoorQ19
import Derived.Test.YtjggkhmojjaomaaGreatDoorQ20
set_option linter.unusedVariables false
set_option linter.unusedSimpArgs false
set_option maxHeartbeats 2000000
namespace Go.Proofs.YtjggkhmojjaomaaGreatDoor
open Go.RowKit
theorem l92_low (rd:Nat):∀ (n:Nat) (z:Int) (want:Bs) (N:Nat),n<=16->z<=-2->-500<=z-n->want.length<=2000->N+n<=90->((zI want).2=true->zV (zI want).1<=n) ->
 DrawT rd N (110*(n+1)) (220*(n+1)) z want
 | 0,z,want,N,_,h1,h2,h3,h4,h5=>eW rd N 0 0 _ _ z want (by omega) (by omega) h3 (by omega)
  (fun h a rest e=>by have:=h5 h;have:=kh (zI want).1;omega) (fun h=>by omega) (by omega) (fun h=>by omega) (by omega) (fun h=>by omega) (by omega)
 | n + 1,z,want,N,h0,h1,h2,h3,h4,h5=>eW rd N (110*(n+1)) (220*(n+1)) _ _ z want (by omega) (by omega) h3 (by omega)
     (fun h a rest e=>by
      have h6:=h5 h
      have h7:=vz h
      have ett:(zI want).1=.mk (a::rest):=by cases hq:(zI want).1;rw [hq] at e;simp only [Ty.args] at e;rw [e]
      rw [ett,jh] at h6 h7
      have p1:=kh a
      have fu:zV (.mk rest)<=15:=by omega
      refine l92_low rd n (z-1) _ (N+1) (by omega) (by omega) (by omega) (by have:=xG fu;omega) (by omega) (fun _=>?_)
      rw [v8 fu];show zV (.mk rest)<=n;omega)
     (fun h=>by omega) (by omega) (fun h=>by omega) (by omega) (fun h=>by omega) (by omega)
def drC:Nat->Nat
 | 0=>1870
 | k+1=>3*drC k+110
def drL:Nat->Nat
 | 0=>3740
 | k+1=>3*drL k+220
theorem drC5:drC 5=467720:=by decide
theorem dr_le:∀ k,k<=5->drL k<=935440:=by
 intro k hk
 have:k=0\/k=1\/k=2\/k=3\/k=4\/k=5:=by omega
 rcases this with rfl | rfl | rfl | rfl | rfl | rfl <;> decide
theorem eP (rd:Nat):∀ (k:Nat) (z:Int) (want:Bs) (N:Nat),k<=5->z<=(k:Int)-2->-100<=z->want.length+20*k<=1000->N+k<=50->DrawT rd N (drC k) (drL k) z want
 | 0,z,want,N,_,h1,h2,h3,h4=>l92_low rd 16 z want N (by omega) (by omega) (by omega) (by omega) (by omega) (fun h=>by have:=vz h;omega)
 | k+1,z,want,N,h0,h1,h2,h3,h4=>by
   by_cases hz : -2<z
   ·refine eW rd N (drC k) (drL k) _ _ z want (by omega) (by omega) (by omega) (by omega)
     (fun h a rest e=>?_) (fun _ want' hw=>eP rd k (z-1) want' (N+1) (by omega) (by omega) (by omega) (by omega) (by omega))
     (by rw [drC];omega) (fun _=>by rw [drC];omega) (by rw [drL];omega) (fun _=>by rw [drL];omega) (by have:=dr_le k (by omega);omega)
    have h7:=vz h
    have ett:(zI want).1=.mk (a::rest):=by cases hq:(zI want).1;rw [hq] at e;simp only [Ty.args] at e;rw [e]
    rw [ett,jh] at h7
    have p1:=kh a
    have fu:zV (.mk rest)<=15:=by omega
    exact eP rd k (z-1) _ (N+1) (by omega) (by omega) (by omega) (by have:=xG fu;omega) (by omega)
   ·intro ns ts nv tv F w P g1 g2 g3 g4 g5 g6 g7 g8
    have c:∀ k,1870<=drC k/\3740<=drL k:=by
     intro k
     induction k with
     | zero=>exact ⟨by decide,by decide⟩
     | succ k ih=>rw [drC,drL];omega
    have hc:=c (k+1)
    refine (l92_low rd 16 z want N (by omega) (by omega) (by omega) (by omega) (by omega) (fun h=>by have:=vz h;omega) ns ts nv tv F w P g1 g2 g3 g4 g5 g6 g7 (by omega)).mono ?_
    rintro en w' ⟨s,e,hs,hb,hr⟩
    exact ⟨s,e,by omega,hb,hr.mono (by omega)⟩
set_option maxRecDepth 100000 in
theorem l92Good_any (rd P:Nat) (s:Bs) (w:World) (hs:s.length<=100) (h:jQ w rd P) (hP:P+1000000<=1099511627776) :
 Calls Tryz.prog 26 #[.pointer (some ⟨rd,0,none⟩),str s] w (TermD rd (P+500000) 935440 w):=by
 have fT:=h.lt
 have H:=fX h;clear h
 go_enter Tryz.func26,Tryz.ntmps26
 go_wp2_with fail
 refine (xb rd P 3 _ ((H.out.alloc _).alloc _) (by omega) (by omega) (by omega)).mono ?_
 rintro en w1 ⟨v,rfl,hv,fA,nZ⟩
 have zv:=wrap_one v hv
 have hzv:1+(v:Int)<=3:=by omega
 have H1:Hid (But (· = rd) w w1/\jQ w1 rd (P+1)):=fX ⟨(((But.refl _ w).alloc _).alloc _).trans fA,nZ⟩
 have C:Hid (Calls Tryz.prog 53 #[.pointer (some ⟨rd,0,none⟩),.slice (some ⟨w.heap.size,0,none⟩) 0 0,.slice (some ⟨w.heap.size+1,0,none⟩) 0 0,str s,.int .i64 (1+(v:Int))] w1 (TermD rd (P+1+drC 5) (drL 5) w1)) :=
  fX (eP rd 5 (1+(v:Int)) s 0 (by omega) (by omega) (by omega) (by omega) (by omega) [] [] _ _ (fun _=>False) w1 (P+1) rfl (by simp) (by simp)
   (zp.2 ⟨rfl,_,_,rfl,fP _,fun h=>by simp at h,.inl rfl⟩) (zp.2 ⟨rfl,_,_,rfl,fP _,fun h=>by simp at h,.inl rfl⟩) (fun i h=>h.elim) H1.out.2 (by rw [drC5];omega))
 clear hv fA nZ hzv
 go_wp2_with fail
 (with_reducible refine C.out.mono ?_)
 rintro en w2 ⟨t,rfl,ht,fN,nC⟩
 have H2:=fX (fW ht (fW (H1.out.1.trans fN) nC))
 clear ht fN nC
 go_wp2_with fail
 go_ret
 have e1:drC 5=467720:=by decide
 have e2:drL 5=935440:=by decide
 have h2:=H2.out
 rw [e1,e2] at h2
 exact ⟨t,rfl,h2.1,h2.2.1,h2.2.2.mono (by omega)⟩
def oddTm0:List Bs:=[[],[120],[40,97,112,112,32,116,32,116,41],[40,105,102,32,116,32,102,41],[40,108,97,109,32,120,32,98,32,121,41],[40,108,97,109,32,97,32,98,32,97,41],[40,105,102,32,40,108,97,109,32,120,32,98,32,120,41,32,116,32,102,41],[40,97,112,112,32,40,108,97,109,32,120,32,98,32,120,41,32,40,108,97,109,32,120,32,98,32,120,41,41],[116,32]]
def oddTm1:List Bs:=[[40,108,97,109,32,120,32,40,62,32,98,32,98,41,32,40,97,112,112,32,120,32,40,97,112,112,32,120,32,116,41,41,41],[40,108,97,109,32,120,32,98,32,40,105,102,32,120,32,102,32,116,41,41],[40,97,112,112,32,40,108,97,109,32,120,32,40,62,32,98,32,98,41,32,40,97,112,112,32,120,32,40,97,112,112,32,120,32,116,41,41,41,32,40,108,97,109,32,120,32,98,32,40,105,102,32,120,32,102,32,116,41,41,41],[40,108,97,109,32,120,32,40,62,32,40,62,32,98,32,98,41,32,98,41,32,40,97,112,112,32,120,32,40,108,97,109,32,121,32,98,32,40,97,112,112,32,120,32,40,108,97,109,32,122,32,98,32,121,41,41,41,41,41],[40,108,97,109,32,120,32,40,62,32,98,32,98,41,32,40,108,97,109,32,121,32,98,32,40,105,102,32,121,32,40,97,112,112,32,120,32,121,41,32,117,41,41,41],[40,105,102,32,40,97,112,112,32,40,108,97,109,32,120,32,98,32,120,41,32,116,41,32,40,108,97,109,32,120,32,98,32,120,41,32,40,108,97,109,32,120,32,98,32,102,41,41]]
theorem odd0_len {s:Bs} (h:s∈oddTm0):s.length<=100:=by
 simp only [oddTm0,List.mem_cons,List.not_mem_nil,or_false] at h
 rcases h with rfl | rfl | rfl | rfl | rfl | rfl | rfl | rfl | rfl <;> decide
theorem odd1_len {s:Bs} (h:s∈oddTm1):s.length<=100:=by
 simp only [oddTm1,List.mem_cons,List.not_mem_nil,or_false] at h
 rcases h with rfl | rfl | rfl | rfl | rfl | rfl <;> decide
set_option maxRecDepth 100000 in
theorem l92Odd_any (rd P:Nat) (w:World) (h:jQ w rd P) (hP:P+1500000<=1099511627776) :
 Calls Tryz.prog 12 #[.pointer (some ⟨rd,0,none⟩)] w (TermD rd (P+600000) 935440 w):=by
 go_enter Tryz.func12,Tryz.ntmps12
 go_wp2_with fail
 refine (xb rd P 12 w h (by omega) (by omega) (by omega)).mono ?_
 rintro en w1 ⟨v,rfl,hv,fA,nZ⟩
 have fT:=nZ.lt
 have H1:=fX (fW fA nZ)
 clear h fA nZ
 have hc:v=0\/(v=1\/v=2)\/(((v:Int) == 0)=false/\((v:Int) == 1)=false/\((v:Int) == 2)=false):=by
  by_cases k0:v=0
  ·exact .inl k0
  by_cases Ir:v=1\/v=2
  ·exact .inr (.inl Ir)
  ·refine .inr (.inr ⟨?_,?_,?_⟩) <;> rw [beq_eq_false_iff_ne] <;> omega
 rcases hc with rfl | Ir | ⟨lM,oS,Ao⟩
 ·go_wp2_with fail
  refine (pK rd (P+1) _ oddTm0 _ (H1.out.2.alloc _) (xA.new fT oddTm0 9 rfl _) (by decide) (by decide) (by omega)).mono ?_
  rintro en w2 ⟨s,hs,rfl,fN,nC⟩
  have rq:=odd0_len hs
  have H2:=fX (fW ((H1.out.1.alloc _).trans fN) nC)
  clear hs fN nC
  go_wp2_with fail
  go_ret
  exact ⟨s,rfl,by omega,H2.out.1,H2.out.2.mono (by omega)⟩
 ·rcases Ir with rfl | rfl
  all_goals (
   go_wp2_with fail
   refine (pK rd (P+1) _ oddTm1 _ (H1.out.2.alloc _) (xA.new fT oddTm1 6 rfl _) (by decide) (by decide) (by omega)).mono ?_
   rintro en w2 ⟨s,hs,rfl,fN,nC⟩
   have rq:=odd1_len hs
   have H2:=fX (fW ((H1.out.1.alloc _).trans fN) nC)
   clear hs fN nC
   go_wp2_with fail
   go_ret
   exact ⟨s,rfl,by omega,H2.out.1,H2.out.2.mono (by omega)⟩)
 ·clear hv
  go_wp2_with fail
  refine (l91Type_any rd (P+1) w1 H1.out.2 (by omega)).mono ?_
  rintro en w2 ⟨s,hs,rfl,fN,nC⟩
  have rq:=(type_ok hs).2
  have H2:=fX (fW (H1.out.1.trans fN) nC)
  clear hs fN nC
  go_wp2_with fail
  (with_reducible refine (l92Good_any rd (P+1+1) s w2 rq H2.out.2 (by omega)).mono ?_)
  rintro en w3 ⟨t,rfl,ht,fv,tN⟩
  have H3:=fX (fW ht (fW (H2.out.1.trans fv) tN))
  clear ht fv tN
  go_wp2_with fail
  go_ret
  exact ⟨t,rfl,H3.out.1,H3.out.2.1,H3.out.2.2.mono (by omega)⟩
def DrawnT (w:World) (en:Ending) (w':World):Prop:=∃ s:Bs,en=.returned (str s)/\s.length<=1000000/\Below w.heap.size w w'
theorem pC (a0:Option Addr) (len cap:Nat) (zs:List Int) (w:World) (h:Row8 w a0 len cap zs) (hl:len<=1048576) :
 Calls Tryz.prog 5 #[.slice a0 len cap] w (DrawnT w):=by
 go_enter Tryz.func5,Tryz.ntmps5
 go_wp2_with fail
 refine (l6Open_any a0 len cap zs w h hl).mono ?_
 rintro en w1 ⟨rfl,fA,nZ,_⟩
 clear h
 have fb:=fX fA;clear fA
 go_wp2_with fail
 (with_reducible refine (l92Odd_any w.heap.size 0 w1 nZ (by omega)).mono ?_)
 rintro en w2 ⟨s,rfl,hs,fN,nC⟩
 have ft:=fX (fW (but_new fb.out (fP _) fN) hs)
 clear nZ nC hs fN
 go_wp2_with fail
 go_ret
 exact ⟨s,rfl,by have:=ft.out.2;omega,ft.out.1⟩
theorem termTy_some {s out:Bs} (h:wL s=some out):∃ kind,gP s=some kind:=by
 obtain ⟨k,b,_,_,_,h2⟩:=y5 (s:=s) (out:=out) h
 exact ⟨_,h2⟩
set_option maxRecDepth 20000 in
theorem fnBeta_any (a0:Option Addr) (len cap:Nat) (zs:List Int) (w:World) (h8:Row8 w a0 len cap zs) (hg:dK w) (he:yR w) :
 Calls Tryz.prog 3 #[.slice a0 len cap] w fun en w'=>en=.returned (.bool true)/\Below w.heap.size w w':=by
 by_cases hl:1048576<len
 ·have tR:(1048576:Int)<(len:Int):=by omega
  go_enter Tryz.func3,Tryz.ntmps3
  go_wp2_with fail
  go_ret
  exact ⟨rfl,fH _ _⟩
 have tR:¬ (1048576:Int)<(len:Int):=by omega
 have CD:=fX (pC a0 len cap zs w h8 (by omega))
 have HG:=fX (fW hg he)
 clear h8 hg he hl
 go_enter Tryz.func3,Tryz.ntmps3
 go_wp2_with fail
 (with_reducible refine CD.out.mono ?_)
 rintro en w1 ⟨s,rfl,hs,fA⟩
 have fb:=fX fA;clear fA CD
 have ls:Lim s.length:=show _<=_ by omega
 have C1:=fX (vy s w1 (HG.out.1.below fb.out) (HG.out.2.below fb.out) ls)
 have C2:=fX (fun wz=>wu s wz ls)
 have C3:=fX (fun wz=>cO s wz ls)
 have LAW:=fX (fun out (h:wL s=some out)=>fW (termTy_some h) (fW (fun x=>@beta_law s out x h) (fun x=>@if_law s out x h)))
 obtain ⟨O1,hO1⟩:∃ O:Bs,O=[40,97,112,112,32,40,108,97,109,32,122,57,32,98,32]++s:=⟨_,rfl⟩
 obtain ⟨B1,GF⟩:∃ O:Bs,O=O1++[41,32,116,41]:=⟨_,rfl⟩
 obtain ⟨O2,hO2⟩:∃ O:Bs,O=[40,105,102,32,116,32]++s:=⟨_,rfl⟩
 obtain ⟨B2,Hu⟩:∃ O:Bs,O=O2++[32,117,41]:=⟨_,rfl⟩
 have l1:O1.length=15+s.length:=by rw [hO1];simp;omega
 have l2:B1.length=19+s.length:=by rw [GF,List.length_append,l1];simp;omega
 have l3:O2.length=6+s.length:=by rw [hO2];simp;omega
 have l4:B2.length=9+s.length:=by rw [Hu,List.length_append,l3];simp;omega
 have s1:=fun w0=>qN (P:=Tryz.prog) [40,97,112,112,32,40,108,97,109,32,122,57,32,98,32] s (by simp;omega) w0
 rw [<- hO1] at s1
 have s2:=fun w0=>qN (P:=Tryz.prog) O1 [41,32,116,41] (by simp;omega) w0
 rw [<- GF] at s2
 have s3:=fun w0=>qN (P:=Tryz.prog) [40,105,102,32,116,32] s (by simp;omega) w0
 rw [<- hO2] at s3
 have s4:=fun w0=>qN (P:=Tryz.prog) O2 [32,117,41] (by simp;omega) w0
 rw [<- Hu] at s4
 have lb1:Lim B1.length:=show _<=_ by omega
 have lb2:Lim B2.length:=show _<=_ by omega
 have C4:=fX (fun wz (hz:Below w.heap.size w wz)=>vy B1 wz (HG.out.1.below hz) (HG.out.2.below hz) lb1)
 have C5:=fX (fun wz (hz:Below w.heap.size w wz)=>vy B2 wz (HG.out.1.below hz) (HG.out.2.below hz) lb2)
 have eb1:b8 s=B1:=by rw [GF,hO1];rfl
 have eb2:ifText s=B2:=by rw [Hu,hO2];rfl
 rw [eb1,eb2] at LAW
 have e:cB s=wL s:=rfl
 rw [e] at C2
 obtain ⟨R,hR⟩:=zzN (wL s)
 obtain ⟨P,hP⟩:=zzN (wL B1)
 obtain ⟨Q,hQ⟩:=zzN (wL B2)
 rw [hR] at C1 C2 LAW
 have KQ:Hid (∀ out,R=some out->(∃ kind,gP s=some kind)/\(∀ x,P=some x->x=out)/\(∀ x,Q=some x->x=out)):=fX (by
  intro out h
  obtain ⟨g1,g2,g3⟩:=LAW.out out h
  exact ⟨g1,fun x hx=>g2 x (hP.trans hx),fun x hx=>g3 x (hQ.trans hx)⟩)
 rw [hP] at C4
 rw [hQ] at C5
 clear ls hs hR e LAW hP hQ eb1 eb2 hO1 hO2 GF Hu l1 l2 l3 l4 lb1 lb2
 go_wp2_with fail
 (with_reducible refine C1.out.mono ?_)
 rintro en w2 ⟨rfl,fN⟩
 have ft:=fX (zzT fb.out fN);clear fN C1
 go_wp2_with fail
 (with_reducible refine (C2.out w2).mono ?_)
 rintro en w3 ⟨rfl,fv⟩
 have nh:=fX (zzT ft.out fv);clear fv C2
 cases R with
 | none =>
   simp only [Option.getD_none,Option.isSome_none]
   go_wp2_with fail
   go_ret
   exact ⟨rfl,nh.out⟩
 | some out =>
   simp only [Option.getD_some,Option.isSome_some]
   obtain ⟨⟨kind,k1⟩,k2,k3⟩:=KQ.out out rfl
   have e0:(out != out)=false:=by simp
   obtain ⟨X,hX⟩:=zzN (P.getD [])
   obtain ⟨Y,hY⟩:=zzN (P.isSome)
   obtain ⟨X2,nR⟩:=zzN (Q.getD [])
   obtain ⟨Y2,nL⟩:=zzN (Q.isSome)
   have L1:Hid (Y=true->X=out):=fX (by
    intro h;subst hY;subst hX
    cases P with
    | none=>simp at h
    | some x=>exact k2 x rfl)
   have L2:Hid (Y2=true->X2=out):=fX (by
    intro h;subst nL;subst nR
    cases Q with
    | none=>simp at h
    | some x=>exact k3 x rfl)
   rw [hX,hY] at C4
   rw [nR,nL] at C5
   rw [k1] at C3
   simp only [Option.getD_some,Option.isSome_some] at C3
   clear hX hY nR nL k1 k2 k3 KQ
   go_wp2_with fail
   (with_reducible refine (C4.out w3 nh.out).mono ?_)
   rintro en w4 ⟨rfl,fl⟩
   have iL:=fX (zzT nh.out fl);clear fl C4
   go_wp2_with fail
   (with_reducible refine (C5.out w4 iL.out).mono ?_)
   rintro en w5 ⟨rfl,fe⟩
   have iA:=fX (zzT iL.out fe);clear fe C5
   go_wp2_with fail
   (with_reducible refine (C3.out w5).mono ?_)
   rintro en w6 ⟨rfl,fO⟩
   have mU:=fX (zzT iA.out fO);clear fO C3
   cases Y with
   | true =>
     obtain rfl:=L1.out rfl
     have e1:(X == X)=true:=by simp
     cases Y2 with
     | true =>
       obtain rfl:=L2.out rfl
       by_cases hk:kind=[98] <;> (go_wp2_with fail;all_goals (go_ret;exact ⟨rfl,mU.out⟩))
     | false=>by_cases hk:kind=[98] <;> (go_wp2_with fail;all_goals (go_ret;exact ⟨rfl,mU.out⟩))
   | false =>
     cases Y2 with
     | true =>
       obtain rfl:=L2.out rfl
       have e1:(X2 == X2)=true:=by simp
       by_cases hk:kind=[98] <;> (go_wp2_with fail;all_goals (go_ret;exact ⟨rfl,mU.out⟩))
     | false=>by_cases hk:kind=[98] <;> (go_wp2_with fail;all_goals (go_ret;exact ⟨rfl,mU.out⟩))
end Go.Proofs.YtjggkhmojjaomaaGreatDoor

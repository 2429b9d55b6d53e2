/- Walks of functions that the statement reaches, and plain words. No conditions. -/
import Derived.Test.YtjggkhmojjaomaaGreatDoorQ14
import Derived.Test.YtjggkhmojjaomaaGreatDoorQ19
import Derived.Test.YtjggkhmojjaomaaGreatDoorQ20
set_option linter.unusedVariables false
set_option linter.unusedSimpArgs false
set_option maxHeartbeats 4000000
namespace Go.Proofs.YtjggkhmojjaomaaGreatDoor
open Go.RowKit
theorem bJ {s:Bs} {k:Ty} {b:Bd} (h:kq s=some (k,b)):vz s=some (zF k):=by
 unfold kq at h
 simp only [Option.bind_eq_some_iff,Option.map_eq_some_iff,Prod.mk.injEq] at h
 obtain ⟨t,h1,k',h2,b',h3,rfl,rfl⟩:=h
 unfold vz cN
 rw [h1,Option.bind_some,h2];rfl
theorem alike_same (a b:Bs):vl a b=eS a b:=by
 unfold vl eS vm
 cases ha:kq a with
 | none=>rfl
 | some x =>
   obtain ⟨ka,ba⟩:=x
   cases hb:kq b with
   | none=>rfl
   | some y =>
     obtain ⟨kb,bb⟩:=y
     rw [bJ ha,bJ hb]
     rfl
theorem l92_low (rd:Nat):∀ (n:Nat) (z:Int) (want:Bs) (N:Nat),n<=16->z<=-2->-500<=z-n->want.length<=2000->N+n<=90->((zL want).2=true->zV (zL want).1<=n) ->
 DrawT rd N (110*(n+1)) (220*(n+1)) z want
 | 0,z,want,N,_,h1,h2,h3,h4,h5=>d7 rd N 0 0 _ _ z want (by omega) (by omega) h3 (by omega)
  (fun h a rest e=>by have:=h5 h;have:=kr (zL want).1;omega) (fun h=>by omega) (by omega) (fun h=>by omega) (by omega) (fun h=>by omega) (by omega)
 | n + 1,z,want,N,h0,h1,h2,h3,h4,h5=>d7 rd N (110*(n+1)) (220*(n+1)) _ _ z want (by omega) (by omega) h3 (by omega)
     (fun h a rest e=>by
      have h6:=h5 h
      have h7:=vT h
      have ett:(zL want).1=.mk (a::rest):=by cases hq:(zL want).1;rw [hq] at e;simp only [Ty.args] at e;rw [e]
      rw [ett,jv] at h6 h7
      have p1:=kr a
      have fM:zV (.mk rest)<=15:=by omega
      refine l92_low rd n (z-1) _ (N+1) (by omega) (by omega) (by omega) (by have:=yY fM;omega) (by omega) (fun _=>?_)
      rw [v_ fM];show zV (.mk rest)<=n;omega)
     (fun h=>by omega) (by omega) (fun h=>by omega) (by omega) (fun h=>by omega) (by omega)
def drC:Nat->Nat
 | 0=>1870
 | k+1=>3*drC k+110
def drL:Nat->Nat
 | 0=>3740
 | k+1=>3*drL k+220
theorem drC5:drC 5=467720:=by decide
theorem dr_le:∀ k,k<=5->drL k<=935440:=by
 intro k hk
 have:k=0\/k=1\/k=2\/k=3\/k=4\/k=5:=by omega
 rcases this with rfl | rfl | rfl | rfl | rfl | rfl <;> decide
theorem d8 (rd:Nat):∀ (k:Nat) (z:Int) (want:Bs) (N:Nat),k<=5->z<=(k:Int)-2->-100<=z->want.length+20*k<=1000->N+k<=50->DrawT rd N (drC k) (drL k) z want
 | 0,z,want,N,_,h1,h2,h3,h4=>l92_low rd 16 z want N (by omega) (by omega) (by omega) (by omega) (by omega) (fun h=>by have:=vT h;omega)
 | k+1,z,want,N,h0,h1,h2,h3,h4=>by
   by_cases hz : -2<z
   ·refine d7 rd N (drC k) (drL k) _ _ z want (by omega) (by omega) (by omega) (by omega)
     (fun h a rest e=>?_) (fun _ want' hw=>d8 rd k (z-1) want' (N+1) (by omega) (by omega) (by omega) (by omega) (by omega))
     (by rw [drC];omega) (fun _=>by rw [drC];omega) (by rw [drL];omega) (fun _=>by rw [drL];omega) (by have:=dr_le k (by omega);omega)
    have h7:=vT h
    have ett:(zL want).1=.mk (a::rest):=by cases hq:(zL want).1;rw [hq] at e;simp only [Ty.args] at e;rw [e]
    rw [ett,jv] at h7
    have p1:=kr a
    have fM:zV (.mk rest)<=15:=by omega
    exact d8 rd k (z-1) _ (N+1) (by omega) (by omega) (by omega) (by have:=yY fM;omega) (by omega)
   ·intro ns ts nv tv F w P g1 g2 g3 g4 g5 g6 g7 g8
    have c:∀ k,1870<=drC k/\3740<=drL k:=by
     intro k
     induction k with
     | zero=>exact ⟨by decide,by decide⟩
     | succ k ih=>rw [drC,drL];omega
    have hc:=c (k+1)
    refine (l92_low rd 16 z want N (by omega) (by omega) (by omega) (by omega) (by omega) (fun h=>by have:=vT h;omega) ns ts nv tv F w P g1 g2 g3 g4 g5 g6 g7 (by omega)).mono ?_
    rintro en w' ⟨s,e,hs,hb,hr⟩
    exact ⟨s,e,by omega,hb,hr.mono (by omega)⟩
set_option maxRecDepth 100000 in
theorem l92Good_any (rd P:Nat) (s:Bs) (w:World) (hs:s.length<=100) (h:qi w rd P) (hP:P+1000000<=1099511627776) :
 Calls Tryz.prog 26 #[.pointer (some ⟨rd,0,none⟩),str s] w (TermD rd (P+500000) 935440 w):=by
 have fG:=h.lt
 have H:=ed h;clear h
 go_enter Tryz.func26,Tryz.ntmps26
 go_wp2_with fail
 refine (yB rd P 3 _ ((H.out.alloc _).alloc _) (by omega) (by omega) (by omega)).mono ?_
 rintro en w1 ⟨v,rfl,hv,fP,mu⟩
 have zv:=wrap_one v hv
 have hzv:1+(v:Int)<=3:=by omega
 have H1:Hid (But (· = rd) w w1/\qi w1 rd (P+1)):=ed ⟨(((But.refl _ w).alloc _).alloc _).trans fP,mu⟩
 have C:Hid (Calls Tryz.prog 53 #[.pointer (some ⟨rd,0,none⟩),.slice (some ⟨w.heap.size,0,none⟩) 0 0,.slice (some ⟨w.heap.size+1,0,none⟩) 0 0,str s,.int .i64 (1+(v:Int))] w1 (TermD rd (P+1+drC 5) (drL 5) w1)) :=
  ed (d8 rd 5 (1+(v:Int)) s 0 (by omega) (by omega) (by omega) (by omega) (by omega) [] [] _ _ (fun _=>False) w1 (P+1) rfl (by simp) (by simp)
   (zp.2 ⟨rfl,_,_,rfl,ei _,fun h=>by simp at h,.inl rfl⟩) (zp.2 ⟨rfl,_,_,rfl,ei _,fun h=>by simp at h,.inl rfl⟩) (fun i h=>h.elim) H1.out.2 (by rw [drC5];omega))
 clear hv fP mu hzv
 go_wp2_with fail
 (with_reducible refine C.out.mono ?_)
 rintro en w2 ⟨t,rfl,ht,fY,mt⟩
 have H2:=ed (ef ht (ef (H1.out.1.trans fY) mt))
 clear ht fY mt
 go_wp2_with fail
 go_ret
 have e1:drC 5=467720:=by decide
 have e2:drL 5=935440:=by decide
 have h2:=H2.out
 rw [e1,e2] at h2
 exact ⟨t,rfl,h2.1,h2.2.1,h2.2.2.mono (by omega)⟩
def oddTm0:List Bs:=[[],[120],[40,97,112,112,32,116,32,116,41],[40,105,102,32,116,32,102,41],[40,108,97,109,32,120,32,98,32,121,41],[40,108,97,109,32,97,32,98,32,97,41],[40,105,102,32,40,108,97,109,32,120,32,98,32,120,41,32,116,32,102,41],[40,97,112,112,32,40,108,97,109,32,120,32,98,32,120,41,32,40,108,97,109,32,120,32,98,32,120,41,41],[116,32]]
def oddTm1:List Bs:=[[40,108,97,109,32,120,32,40,62,32,98,32,98,41,32,40,97,112,112,32,120,32,40,97,112,112,32,120,32,116,41,41,41],[40,108,97,109,32,120,32,98,32,40,105,102,32,120,32,102,32,116,41,41],[40,97,112,112,32,40,108,97,109,32,120,32,40,62,32,98,32,98,41,32,40,97,112,112,32,120,32,40,97,112,112,32,120,32,116,41,41,41,32,40,108,97,109,32,120,32,98,32,40,105,102,32,120,32,102,32,116,41,41,41],[40,108,97,109,32,120,32,40,62,32,40,62,32,98,32,98,41,32,98,41,32,40,97,112,112,32,120,32,40,108,97,109,32,121,32,98,32,40,97,112,112,32,120,32,40,108,97,109,32,122,32,98,32,121,41,41,41,41,41],[40,108,97,109,32,120,32,40,62,32,98,32,98,41,32,40,108,97,109,32,121,32,98,32,40,105,102,32,121,32,40,97,112,112,32,120,32,121,41,32,117,41,41,41],[40,105,102,32,40,97,112,112,32,40,108,97,109,32,120,32,98,32,120,41,32,116,41,32,40,108,97,109,32,120,32,98,32,120,41,32,40,108,97,109,32,120,32,98,32,102,41,41]]
theorem odd0_len {s:Bs} (h:s∈oddTm0):s.length<=100:=by
 simp only [oddTm0,List.mem_cons,List.not_mem_nil,or_false] at h
 rcases h with rfl | rfl | rfl | rfl | rfl | rfl | rfl | rfl | rfl <;> decide
theorem odd1_len {s:Bs} (h:s∈oddTm1):s.length<=100:=by
 simp only [oddTm1,List.mem_cons,List.not_mem_nil,or_false] at h
 rcases h with rfl | rfl | rfl | rfl | rfl | rfl <;> decide
set_option maxRecDepth 100000 in
theorem d9 (rd P:Nat) (w:World) (h:qi w rd P) (hP:P+1500000<=1099511627776) :
 Calls Tryz.prog 12 #[.pointer (some ⟨rd,0,none⟩)] w (TermD rd (P+600000) 935440 w):=by
 go_enter Tryz.func12,Tryz.ntmps12
 go_wp2_with fail
 refine (yB rd P 12 w h (by omega) (by omega) (by omega)).mono ?_
 rintro en w1 ⟨v,rfl,hv,fP,mu⟩
 have fG:=mu.lt
 have H1:=ed (ef fP mu)
 clear h fP mu
 have hc:v=0\/(v=1\/v=2)\/(((v:Int) == 0)=false/\((v:Int) == 1)=false/\((v:Int) == 2)=false):=by
  by_cases k0:v=0
  ·exact .inl k0
  by_cases Ih:v=1\/v=2
  ·exact .inr (.inl Ih)
  ·refine .inr (.inr ⟨?_,?_,?_⟩) <;> rw [beq_eq_false_iff_ne] <;> omega
 rcases hc with rfl | Ih | ⟨lX,oB,Ah⟩
 ·go_wp2_with fail
  refine (wg rd (P+1) _ oddTm0 _ (H1.out.2.alloc _) (xN.new fG oddTm0 9 rfl _) (by decide) (by decide) (by omega)).mono ?_
  rintro en w2 ⟨s,hs,rfl,fY,mt⟩
  have rV:=odd0_len hs
  have H2:=ed (ef ((H1.out.1.alloc _).trans fY) mt)
  clear hs fY mt
  go_wp2_with fail
  go_ret
  exact ⟨s,rfl,by omega,H2.out.1,H2.out.2.mono (by omega)⟩
 ·rcases Ih with rfl | rfl
  all_goals (
   go_wp2_with fail
   refine (wg rd (P+1) _ oddTm1 _ (H1.out.2.alloc _) (xN.new fG oddTm1 6 rfl _) (by decide) (by decide) (by omega)).mono ?_
   rintro en w2 ⟨s,hs,rfl,fY,mt⟩
   have rV:=odd1_len hs
   have H2:=ed (ef ((H1.out.1.alloc _).trans fY) mt)
   clear hs fY mt
   go_wp2_with fail
   go_ret
   exact ⟨s,rfl,by omega,H2.out.1,H2.out.2.mono (by omega)⟩)
 ·clear hv
  go_wp2_with fail
  refine (l91Type_any rd (P+1) w1 H1.out.2 (by omega)).mono ?_
  rintro en w2 ⟨s,hs,rfl,fY,mt⟩
  have rV:=(type_ok hs).2
  have H2:=ed (ef (H1.out.1.trans fY) mt)
  clear hs fY mt
  go_wp2_with fail
  (with_reducible refine (l92Good_any rd (P+1+1) s w2 rV H2.out.2 (by omega)).mono ?_)
  rintro en w3 ⟨t,rfl,ht,fE,tG⟩
  have H3:=ed (ef ht (ef (H2.out.1.trans fE) tG))
  clear ht fE tG
  go_wp2_with fail
  go_ret
  exact ⟨t,rfl,H3.out.1,H3.out.2.1,H3.out.2.2.mono (by omega)⟩
def DrawnT2 (w:World) (en:Ending) (w':World):Prop:=∃ a b:Bs,en=.returned (.tuple #[str a,str b])/\a.length<=2000000/\b.length<=2000000/\Below w.heap.size w w'
theorem kindTx_len (s:Bs):((vz s).getD []).length<=90:=by
 unfold vz cN
 cases qE s with
 | none=>simp
 | some t =>
   rw [Option.bind_some]
   cases hk:typeOf [] t with
   | none=>simp
   | some k=>simpa using yY (kg t [] k (by simp [kinds]) hk)
set_option maxRecDepth 100000 in
theorem bj (a0:Option Addr) (len cap:Nat) (zs:List Int) (w:World) (h:Row8 w a0 len cap zs) (hl:len<=1048576) :
 Calls Tryz.prog 9 #[.slice a0 len cap] w (DrawnT2 w):=by
 go_enter Tryz.func9,Tryz.ntmps9
 go_wp2_with fail
 refine (l6Open_any a0 len cap zs w h hl).mono ?_
 rintro en w1 ⟨rfl,fP,mu,rV⟩
 clear h
 obtain ⟨rd,tm⟩:=zzM (w.heap.size)
 rw [<- tm] at mu ⊢
 have KK:=ed (Nat.le_of_eq tm.symm);clear tm rV
 have fI:=ed fP;clear fP
 go_wp2_with fail
 (with_reducible refine (d9 rd 0 w1 mu (by omega)).mono ?_)
 rintro en w2 ⟨s,rfl,hs,fY,mt⟩
 have fL:=ed (ef (bx fI.out KK.out fY) mt)
 have C1:=ed (ui s w2 (show _<=_ by omega))
 clear mu mt fY
 have hk:=kindTx_len s
 go_wp2_with fail
 (with_reducible refine C1.out.mono ?_)
 rintro en w3 ⟨rfl,fE⟩
 obtain ⟨K,hK⟩:=zzN ((vz s).getD [])
 obtain ⟨ok,fw⟩:=zzN ((vz s).isSome)
 rw [hK] at hk
 rw [hK,fw]
 have mp:=ed (ef (zzT fL.out.1 fE) (fL.out.2.below fE))
 clear fE hK fw C1
 have ODD:=ed (fun wz (Q:Nat) (hq:Q<=1000000) (hz:Below w.heap.size w wz) (hr:qi wz rd Q)=>d9 rd Q wz hr (by omega))
 cases ok with
 | false =>
   go_wp2_with fail
   (with_reducible refine (ODD.out w3 600000 (by omega) mp.out.1 (mp.out.2.mono (by omega))).mono ?_)
   rintro en w4 ⟨t,rfl,ht,fx,im⟩
   have sQ:=ed (ef (bx mp.out.1 KK.out fx) (ef hs ht))
   clear hs ht fx im
   go_wp2_with fail
   go_ret2
   exact ⟨s,t,rfl,by have:=sQ.out.2;omega,by have:=sQ.out.2;omega,sQ.out.1⟩
 | true =>
   go_wp2_with fail
   refine (yB rd (0+600000) 4 w3 mp.out.2 (by omega) (by omega) (by omega)).mono ?_
   rintro en w4 ⟨v,rfl,hv,fx,im⟩
   have sQ:=ed (ef (bx mp.out.1 KK.out fx) im)
   clear fx im
   by_cases lI:v=0
   ·subst lI
    clear hv
    go_wp2_with fail
    (with_reducible refine (ODD.out w4 600001 (by omega) sQ.out.1 (sQ.out.2.mono (by omega))).mono ?_)
    rintro en w5 ⟨t,rfl,ht,fv,oK⟩
    have r7:=ed (ef (bx sQ.out.1 KK.out fv) (ef hs ht))
    clear hs ht fv oK
    go_wp2_with fail
    go_ret2
    exact ⟨s,t,rfl,by have:=r7.out.2;omega,by have:=r7.out.2;omega,r7.out.1⟩
   ·have se:((v:Int) == 0)=false:=by rw [beq_eq_false_iff_ne];omega
    clear lI hv
    go_wp2_with fail
    refine (yB rd (0+600000+1) 2 w4 sQ.out.2 (by omega) (by omega) (by omega)).mono ?_
    rintro en w5 ⟨u,rfl,hu,fv,oK⟩
    have r7:=ed (bx sQ.out.1 KK.out fv)
    clear fv oK
    by_cases hu0:u=0
    ·subst hu0
     clear hu
     obtain ⟨O1,m1,a1⟩:=qP [40,105,102,32,116,32] s 935446 (by simp;omega) (by omega)
     obtain ⟨O2,m2,a2⟩:=qP O1 [32] 935447 (by simp;omega) (by omega)
     obtain ⟨O3,m3,a3⟩:=qP O2 s 1870887 (by omega) (by omega)
     obtain ⟨O4,m4,a4⟩:=qP O3 [41] 1870888 (by simp;omega) (by omega)
     go_wp2_with fail
     go_ret2
     exact ⟨s,O4,rfl,by omega,by omega,r7.out⟩
    ·have hu1:((u:Int) == 0)=false:=by rw [beq_eq_false_iff_ne];omega
     clear hu0 hu
     obtain ⟨O1,m1,a1⟩:=qP [40,97,112,112,32,40,108,97,109,32,120,32] K 102 (by simp;omega) (by omega)
     obtain ⟨O2,m2,a2⟩:=qP O1 [32,120,41,32] 106 (by simp;omega) (by omega)
     obtain ⟨O3,m3,a3⟩:=qP O2 s 935546 (by omega) (by omega)
     obtain ⟨O4,m4,a4⟩:=qP O3 [41] 935547 (by simp;omega) (by omega)
     go_wp2_with fail
     go_ret2
     exact ⟨s,O4,rfl,by omega,by omega,r7.out⟩
theorem cI (a b:Bs):vl a b=wP a b:=rfl
set_option maxRecDepth 20000 in
theorem dG (a0:Option Addr) (len cap:Nat) (zs:List Int) (w:World) (h8:Row8 w a0 len cap zs) (hg:b8 w) (he:uh w) :
 Calls Tryz.prog 4 #[.slice a0 len cap] w fun en w'=>en=.returned (.bool true)/\Below w.heap.size w w':=by
 by_cases hl:1048576<len
 ·have tH:(1048576:Int)<(len:Int):=by omega
  go_enter Tryz.func4,Tryz.ntmps4
  go_wp2_with fail
  go_ret
  exact ⟨rfl,e_ _ _⟩
 have tH:¬ (1048576:Int)<(len:Int):=by omega
 have CD:=ed (bj a0 len cap zs w h8 (by omega))
 have HG:=ed (ef hg he)
 clear h8 hg he hl
 go_enter Tryz.func4,Tryz.ntmps4
 go_wp2_with fail
 (with_reducible refine CD.out.mono ?_)
 rintro en w1 ⟨a,b,rfl,hsa,hsb,fP⟩
 have fI:=ed fP;clear fP CD
 have la:Lim a.length:=show _<=_ by omega
 have lb:Lim b.length:=show _<=_ by omega
 have C1:=ed (uv a b w1 (HG.out.1.below fI.out) (HG.out.2.below fI.out) la lb)
 have C2:=ed (fun wz=>gx a b wz la lb)
 have C3:=ed (fun wz (hz:Below w.heap.size w wz)=>uv b a wz (HG.out.1.below hz) (HG.out.2.below hz) lb la)
 obtain ⟨O1,hO1⟩:∃ O:Bs,O=[40,97,112,112,32]++a:=⟨_,rfl⟩
 obtain ⟨B1,Gt⟩:∃ O:Bs,O=O1++[32,117,41]:=⟨_,rfl⟩
 obtain ⟨O2,hO2⟩:∃ O:Bs,O=[40,97,112,112,32]++b:=⟨_,rfl⟩
 obtain ⟨B2,Hi⟩:∃ O:Bs,O=O2++[32,117,41]:=⟨_,rfl⟩
 have l1:O1.length=5+a.length:=by rw [hO1];simp;omega
 have l2:B1.length=8+a.length:=by rw [Gt,List.length_append,l1];simp;omega
 have l3:O2.length=5+b.length:=by rw [hO2];simp;omega
 have l4:B2.length=8+b.length:=by rw [Hi,List.length_append,l3];simp;omega
 have s1:=fun w0=>qR (P:=Tryz.prog) [40,97,112,112,32] a (by simp;omega) w0
 rw [<- hO1] at s1
 have s2:=fun w0=>qR (P:=Tryz.prog) O1 [32,117,41] (by simp;omega) w0
 rw [<- Gt] at s2
 have s3:=fun w0=>qR (P:=Tryz.prog) [40,97,112,112,32] b (by simp;omega) w0
 rw [<- hO2] at s3
 have s4:=fun w0=>qR (P:=Tryz.prog) O2 [32,117,41] (by simp;omega) w0
 rw [<- Hi] at s4
 have lb1:Lim B1.length:=show _<=_ by omega
 have lb2:Lim B2.length:=show _<=_ by omega
 have C4:=ed (fun wz (hz:Below w.heap.size w wz)=>yF B1 wz (HG.out.1.below hz) (HG.out.2.below hz) lb1)
 have C5:=ed (fun wz (hz:Below w.heap.size w wz)=>yF B2 wz (HG.out.1.below hz) (HG.out.2.below hz) lb2)
 have C6:=ed (fun wz (hz:Below w.heap.size w wz)=>uv B1 B2 wz (HG.out.1.below hz) (HG.out.2.below hz) lb1 lb2)
 have eb1:appU a=B1:=by rw [Gt,hO1];rfl
 have eb2:appU b=B2:=by rw [Hi,hO2];rfl
 have LAW:Hid (vl a b=true->vl b a=true/\((wE B1).isSome=true->(wE B2).isSome=true->vl B1 B2=true)):=ed (by
  intro h
  rw [cI] at h
  refine ⟨by rw [cI];exact alike_back h,fun h1 h2=>?_⟩
  obtain ⟨x,hx⟩:=Option.isSome_iff_exists.1 h1
  obtain ⟨y,hy⟩:=Option.isSome_iff_exists.1 h2
  rw [cI,<- eb1,<- eb2]
  exact alike_law h (by rw [eb1];exact hx) (by rw [eb2];exact hy))
 rw [<- alike_same] at C2
 obtain ⟨R,hR⟩:=zzN (vl a b)
 obtain ⟨R2,Ck⟩:=zzN (vl b a)
 obtain ⟨R3,hR3⟩:=zzN (vl B1 B2)
 obtain ⟨X,hX⟩:=zzN ((wE B1).getD [])
 obtain ⟨P,hP⟩:=zzN ((wE B1).isSome)
 obtain ⟨Y,hY⟩:=zzN ((wE B2).getD [])
 obtain ⟨Q,hQ⟩:=zzN ((wE B2).isSome)
 rw [hR] at C1 C2
 rw [Ck] at C3
 rw [hR3] at C6
 rw [hX,hP] at C4
 rw [hY,hQ] at C5
 rw [hR,Ck,hR3,hP,hQ] at LAW
 clear la lb hsa hsb hR Ck hR3 hX hP hY hQ eb1 eb2 hO1 hO2 Gt Hi l1 l2 l3 l4 lb1 lb2
 go_wp2_with fail
 (with_reducible refine C1.out.mono ?_)
 rintro en w2 ⟨rfl,fY⟩
 have fL:=ed (zzT fI.out fY);clear fY C1
 go_wp2_with fail
 (with_reducible refine (C2.out w2).mono ?_)
 rintro en w3 ⟨rfl,fE⟩
 have mp:=ed (zzT fL.out fE);clear fE C2
 cases R with
 | false =>
   go_wp2_with fail
   go_ret
   exact ⟨rfl,mp.out⟩
 | true =>
   obtain ⟨q1,q2⟩:=LAW.out rfl
   subst q1
   have Q2:=ed q2
   clear q2 LAW
   go_wp2_with fail
   (with_reducible refine (C4.out w3 mp.out).mono ?_)
   rintro en w4 ⟨rfl,fx⟩
   have sQ:=ed (zzT mp.out fx);clear fx C4
   go_wp2_with fail
   (with_reducible refine (C5.out w4 sQ.out).mono ?_)
   rintro en w5 ⟨rfl,fv⟩
   have r7:=ed (zzT sQ.out fv);clear fv C5
   go_wp2_with fail
   (with_reducible refine (C3.out w5 r7.out).mono ?_)
   rintro en w6 ⟨rfl,fC⟩
   have fm:=ed (zzT r7.out fC);clear fC C3
   cases P with
   | false =>
     go_wp2_with fail
     go_ret
     exact ⟨rfl,fm.out⟩
   | true =>
     cases Q with
     | false =>
       go_wp2_with fail
       go_ret
       exact ⟨rfl,fm.out⟩
     | true =>
       obtain rfl:=Q2.out rfl rfl
       go_wp2_with fail
       (with_reducible refine (C6.out w6 fm.out).mono ?_)
       rintro en w7 ⟨rfl,fW⟩
       have oO:=ed (zzT fm.out fW);clear fW C6
       go_wp2_with fail
       go_ret
       exact ⟨rfl,oO.out⟩
end Go.Proofs.YtjggkhmojjaomaaGreatDoor

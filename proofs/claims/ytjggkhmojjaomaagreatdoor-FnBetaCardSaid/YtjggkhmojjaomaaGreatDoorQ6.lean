/- Walks of functions that the statement reaches, and plain words. No conditions. -/
import Derived.Lib.AtoiTie
import Derived.Laws.Concat
import Derived.Test.YtjggkhmojjaomaaGreatDoorQ5
set_option linter.unusedVariables false
set_option linter.unusedSimpArgs false
set_option maxHeartbeats 10000000
namespace Go.Proofs.YtjggkhmojjaomaaGreatDoor
open Go.RowKit
theorem oneCell_encN {F:Nat->Prop} {w:World} {b:Bd} {us:List Value} (h:zX F w (kR b) us):∀ u∈us,u.oneCell'=true:=by
 obtain ⟨v,a2,c2,a3,c3,rfl,_⟩:=vM h
 simp [str,Value.oneCell']
theorem Tryz.infoBo:(Tryz.prog.info? 130).map (fun i=>(i.zero,i.size,i.bytes))=some (some (.agg #[.int .i64 0,str [],.int .i64 0,.slice none 0 0,.slice none 0 0,.slice none 0 0,.slice none 0 0,.int .i64 0,.int .i64 0]),9,144):=by kernel_rfl
def qw (s text:Bs):Option Bd :=
 if (zI s).2=false\/2000<text.length then none else
 match rdN 101 (zI s).1.args text with
 | none=>none
 | some (b,rest)=>if rest=[]/\zW b<=200 then some b else none
theorem vz {l:Bs} (h:(zI l).2=true):zV (zI l).1<=15:=by
 unfold zI at *
 split at h
 ·simp at h
 ·rename_i hl
  rw [if_neg hl]
  cases hq:rdS 21 l with
  | none=>rw [hq] at h;simp at h
  | some x=>rw [hq] at h;obtain ⟨t,rest⟩:=x;simp at h;exact h.2
theorem bI {t:Ty} (h:zV t<=15):vP 101 t.args:=by
 have hm:=qg t
 have key:∀ (ts:List Ty) (x:Ty),x∈ts->zV x<=za ts:=by
  intro ts
  induction ts with
  | nil=>intro x hx;simp at hx
  | cons y ys ih =>
    intro x hx
    rcases List.mem_cons.1 hx with rfl | hx
    ·simp [za];omega
    ·have:=ih x hx;simp [za];omega
 refine ⟨fun x hx=>?_,?_⟩
 ·have:=key t.args x hx;omega
 ·have:=qV t.args;omega
theorem pE {w:World} {p a:Addr} {u v:Value} (h:w.cell? a=some v) (hne:a.block≠p.block):(w.setCell p u).cell? a=some v:=by
 rw [World.cell?_of_block (w:=w) (fB _ _ _ _ hne)];exact h
theorem wC {w w':World} {a:Addr} {v:Value} (h:w.cell? a=some v) (hk:∀ x,w.heap[a.block]? = some x->w'.heap[a.block]? = some x):w'.cell? a=some v:=by
 have fT:=fG w a h
 rw [World.cell?_of_block (w:=w)]
 ·exact h
 ·rw [hk _ (Array.getElem?_eq_getElem fT),Array.getElem?_eq_getElem fT]
abbrev KeepS (g1 g2:Nat) (T u0 u1 u2 u3:Value) (w:World):Prop :=
 w.cell? ⟨g1,0,none⟩=some T/\w.cell? ⟨g2,0,none⟩=some u0/\w.cell? ⟨g2,1,none⟩=some u1/\w.cell? ⟨g2,2,none⟩=some u2/\w.cell? ⟨g2,3,none⟩=some u3
theorem KeepS.set {g1 g2:Nat} {T u0 u1 u2 u3:Value} {w:World} (h:KeepS g1 g2 T u0 u1 u2 u3 w) (b o:Nat) (u:Value) (h1:g1≠b) (h2:g2≠b):KeepS g1 g2 T u0 u1 u2 u3 (w.setCell ⟨b,o,none⟩ u) :=
 ⟨pE h.1 h1,pE h.2.1 h2,pE h.2.2.1 h2,pE h.2.2.2.1 h2,pE h.2.2.2.2 h2⟩
def vZ (s text:Bs) (w:World) (en:Ending) (w':World):Prop :=
 ∃ (a:Option Addr) (c:Nat) (s':Bs) (v':Int) (a2:Option Addr) (n2 c2:Nat) (a3:Option Addr) (n3 c3:Nat),
   en=.returned (.tuple #[.agg #[.slice a (zI s).1.args.length c],.agg #[str s',.int .i64 v',.slice a2 n2 c2,.slice a3 n3 c3],.bool (qw s text).isSome])/\Below w.heap.size w w' /\
   Rep (w.heap.size<=·) w' (kg (zI s).1) (.slice a (zI s).1.args.length c) /\
   (∀ b,qw s text=some b->zX (w.heap.size<=·) w' (kR b) [str s',.int .i64 v',.slice a2 n2 c2,.slice a3 n3 c3])
theorem vZ.no {s text:Bs} {w w':World} {a:Option Addr} {c:Nat} {v:Value} (hv:v=.slice a (zI s).1.args.length c) {s':Bs} {v':Int} {a2:Option Addr} {n2 c2:Nat} {a3:Option Addr} {n3 c3:Nat} {f:Bool} (hf:f=false) (hn:qw s text=none) (hb:Below w.heap.size w w')
 (hr:Rep (w.heap.size<=·) w' (kg (zI s).1) v) :
 vZ s text w (.returned (.tuple #[.agg #[v],.agg #[str s',.int .i64 v',.slice a2 n2 c2,.slice a3 n3 c3],.bool f])) w':=by
 subst hv;subst hf
 exact ⟨a,c,s',v',a2,n2,c2,a3,n3,c3,by rw [hn];rfl,hb,hr,fun b h=>by rw [hn] at h;simp at h⟩
theorem vZ.yes {s text:Bs} {w w':World} {a:Option Addr} {c:Nat} {v:Value} (hv:v=.slice a (zI s).1.args.length c) {s':Bs} {v':Int} {a2:Option Addr} {n2 c2:Nat} {a3:Option Addr} {n3 c3:Nat} {f:Bool} {b:Bd} (hf:f=true) (hn:qw s text=some b) (hb:Below w.heap.size w w')
 (hr:Rep (w.heap.size<=·) w' (kg (zI s).1) v) (rR:zX (w.heap.size<=·) w' (kR b) [str s',.int .i64 v',.slice a2 n2 c2,.slice a3 n3 c3]) :
 vZ s text w (.returned (.tuple #[.agg #[v],.agg #[str s',.int .i64 v',.slice a2 n2 c2,.slice a3 n3 c3],.bool f])) w':=by
 subst hv;subst hf
 exact ⟨a,c,s',v',a2,n2,c2,a3,n3,c3,by rw [hn];rfl,hb,hr,fun b' h=>by rw [hn] at h;simp at h;subst h;exact rR⟩
set_option maxRecDepth 100000 in
theorem eB (s text:Bs) (hs:Lim s.length) (hl:Lim text.length) (w:World):Calls Tryz.prog 45 #[str s,str text] w (vZ s text w):=by
 have aK:=hs.le
 have tR:=hl.le
 go_enter Tryz.func45,Tryz.ntmps45
 go_wp2_with fail
 refine (xK s hs _).mono ?_
 rintro en w1 ⟨v1,rfl,fA,tM⟩
 have z1:=fA.size
 rw [zK,zK] at z1
 obtain ⟨a1,c1,e1⟩:=kJ tM
 have E1:=fX e1
 have rU:Below w.heap.size w w1:=(((fH w.heap.size w).alloc (fP _) _).alloc (by simp) _).trans (fA.mono (by simp;omega))
 have iZ:w.heap.size<w1.heap.size:=by omega
 have nF:w.heap.size+1<w1.heap.size:=by omega
 have r0:w1.cell? ⟨w.heap.size,0,none⟩=some (.slice none 0 0):=by rw [fA.cell (by simp only [zK];omega)];exact zJ (by simp)
 have nJ:w1.frozen? ⟨w.heap.size,0,none⟩=false:=by
  rw [fA.frozen (by simp only [zK];omega)]
  rw [World.frozen?_of_block (w:=w.alloc (.cells #[.slice none 0 0] 43)) (Below.heap_alloc _ _ _ (by simp))];simp
 have hN:z9 (w.heap.size+1) 0 (.slice none 0 0) (.slice none 0 0) w1:=by
  unfold z9;rw [fA.block _ (by simp)]
  have:=zG (w.alloc (.cells #[.slice none 0 0] 43)) (.cells #[str [],.int .i64 0,.slice none 0 0,.slice none 0 0] 48)
  rw [zK] at this;exact this
 subst e1
 have AE:Rep (w.heap.size+1 < ·) w1 (kg (zI s).1) (.slice a1 (zI s).1.args.length c1):=(Rep.keep fun b o h ho=>⟨by have:=ye h;rw [zK] at this;omega,ho⟩).1 _ _ tM
 have HS:Hid (qw s text=if (zI s).2=false\/2000<text.length then none else
  match rdN 101 (zI s).1.args text with
  | none=>none
  | some (b,rest)=>if rest=[]/\zW b<=200 then some b else none):=rfl
 have DI:=fX (vz (l:=s))
 generalize hT:(zI s).1=t at *
 generalize hO:(zI s).2=ok at *
 have HT:=fX hT;clear hT hO tM
 obtain ⟨q0,q1,q2,q3,ql,qf⟩:=hN.cells
 have qf0:=qf 0;have qf1:=qf 1;have Dk:=qf 2;have GV:=qf 3;clear qf
 by_cases nW:ok=true/\text.length<=2000
 rotate_left
 ·have hn:qw s text=none:=by
   rw [HS.out,if_pos]
   cases ok with
   | false=>exact .inl rfl
   | true=>exact .inr (by simp at nW;omega)
  have HN:=fX hn;clear hn
  have nW:ok=false\/(ok=true/\(2000:Int)<(text.length:Int)):=by
   cases ok with
   | false=>exact .inl rfl
   | true=>exact .inr ⟨rfl,by simp at nW;omega⟩
  have h0:z9 (w.heap.size+1) 0 (.slice none 0 0) (.slice none 0 0) (w1.setCell ⟨w.heap.size,0,none⟩ (.slice a1 t.args.length c1)):=by
   unfold z9;rw [fB _ _ _ _ (by simp)];exact hN
  obtain ⟨W,hW,s0,s1,s2,s3,fq,fc⟩:=h0.store (.string ⟨#[]⟩) (.int .i64 0) (.slice none 0 0) (.slice none 0 0)
  have t0:W.cell? ⟨w.heap.size,0,none⟩=some (.slice a1 t.args.length c1):=wC (jl r0 _) fun x hx=>fc _ x (by simp) hx
  have ah:=fq _ _ (rU.setCell (p:=⟨w.heap.size,0,none⟩) (fP _) (.slice a1 t.args.length c1)) (by omega)
  have B0:Rep (w.heap.size<=·) W (kg t) (.slice a1 t.args.length c1):=(Rep.keep fun b o h ho=>⟨by omega,fc b o (by omega) (by rw [fB _ _ _ _ (by simp;omega)];exact ho)⟩).1 _ _ AE
  have FIN:Hid (∀ o,vZ s text w (.returned (.tuple #[.agg #[.slice a1 t.args.length c1],.agg #[str [],.int .i64 0,.slice none 0 0,.slice none 0 0],.bool false])) (W.alloc o)):=fun o =>
   vZ.no (a:=a1) (c:=c1) (by rw [HT.out]) rfl HN.out (ah.alloc ah.size o) (by rw [HT.out];exact (Rep.keep fun b o h ho=>⟨h,zY ho⟩).1 _ _ B0)
  have HW:=fX hW;clear h0 hW fq fc ah B0
  rcases nW with rfl | ⟨rfl,h⟩
  all_goals
   go_wp2_with fail
   rw [<- HW.out]
   refine bodyPost_ret (v:=.tuple #[.agg #[.slice a1 t.args.length c1],.agg #[str [],.int .i64 0,.slice none 0 0,.slice none 0 0],.bool false]) (by simp [results,Tryz.results45,go_sem,zJ t0,zJ s0,zJ s1,zJ s2,zJ s3]) rfl ?_
   exact FIN.out _
 obtain ⟨rfl,ED⟩:=nW
 have htl':¬ (2000:Int)<(text.length:Int):=by omega
 have fM:=DI.out rfl
 have hm:qw s text=(match rdN 101 t.args text with
  | none=>none
  | some (b,rest)=>if rest=[]/\zW b<=200 then some b else none):=by rw [HS.out,if_neg (by simp;omega)]
 have HM:=fX hm;clear hm HS DI
 have hvE:=AE
 rw [qy] at hvE
 have hho:=bI fM
 go_wp2_with fail
 refine (l3Read_any text hl 101 0 rfl (w.heap.size+1 < ·) t.args _ 0 _ (Nat.zero_le _) hho (by exact (Rep.keep fun b o h ho=>⟨h,zY ho⟩).1 _ _ hvE)).mono ?_
 rw [List.drop_zero]
 rintro en w2 ⟨s',v',a2,n2,c2,a3,n3,c3,k,rfl,fN,sN,tp⟩
 have z2:=fN.size
 rw [zK] at z2
 have DD:Below w.heap.size w w2:=(rU.alloc (by omega) _).trans (fN.mono (by rw [zK];omega))
 have r0':w2.cell? ⟨w.heap.size,0,none⟩=some (.slice none 0 0):=by rw [fN.cell (by rw [zK];simp only;omega)];exact zJ r0
 have rf0':w2.frozen? ⟨w.heap.size,0,none⟩=false:=by rw [fN.frozen (by rw [zK];simp only;omega)];rw [World.frozen?_of_block (w:=w1) (Below.heap_alloc _ _ _ iZ)];exact nJ
 have hN':z9 (w.heap.size+1) 0 (.slice none 0 0) (.slice none 0 0) w2:=by
  unfold z9;rw [fN.block _ (by rw [zK];omega)];exact zY hN
 have Ei:w2.cell? ⟨w1.heap.size,0,none⟩=some (.slice a1 t.args.length c1):=by rw [fN.cell (by rw [zK];simp only;omega)];simp
 have G4:Rep (w.heap.size+1 < ·) w2 (kg t) (.slice a1 t.args.length c1):=(Rep.keep fun b o h ho=>⟨h,by rw [fN.block b (by have:=zZ ho;rw [zK];omega)];exact zY ho⟩).1 _ _ AE
 clear r0 nJ hN q0 q1 q2 q3 ql qf0 qf1 Dk GV hvE AE hho
 obtain ⟨q0,q1,q2,q3,ql,qf⟩:=hN'.cells
 have qf0:=qf 0;have qf1:=qf 1;have Dk:=qf 2;have GV:=qf 3;clear qf
 have y1:w.heap.size<w2.heap.size:=by omega
 have y2:w1.heap.size<w2.heap.size:=by omega
 have ft:=fX fN;clear fN
 by_cases hk:k=(text.length:Int)
 rotate_left
 ·have g1:(k == (text.length:Int))=false:=by rw [beq_eq_false_iff_ne];exact hk
  have hn:qw s text=none:=by
   rw [HM.out]
   cases hq:rdN 101 t.args text with
   | none=>rfl
   | some x =>
     obtain ⟨b,rest⟩:=x
     have h1:=(tp b rest hq).1
     simp only
     rw [if_neg]
     rintro ⟨rfl,_⟩
     exact hk (by rw [h1];simp)
  have HN:=fX hn
  clear hn hk sN tp
  have h0:z9 (w.heap.size+1) 0 (.slice none 0 0) (.slice none 0 0) (w2.setCell ⟨w.heap.size,0,none⟩ (.slice a1 t.args.length c1)):=by
   unfold z9;rw [fB _ _ _ _ (by simp)];exact hN'
  obtain ⟨W,hW,s0,s1,s2,s3,fq,fc⟩:=h0.store (str s') (.int .i64 v') (.slice a2 n2 c2) (.slice a3 n3 c3)
  have t0:W.cell? ⟨w.heap.size,0,none⟩=some (.slice a1 t.args.length c1):=wC (jl r0' _) fun x hx=>fc _ x (by simp) hx
  have ah:=fq _ _ (DD.setCell (p:=⟨w.heap.size,0,none⟩) (fP _) (.slice a1 t.args.length c1)) (by omega)
  have B0:Rep (w.heap.size<=·) W (kg t) (.slice a1 t.args.length c1):=(Rep.keep fun b o h ho=>⟨by omega,fc b o (by omega) (by rw [fB _ _ _ _ (by simp;omega)];exact ho)⟩).1 _ _ G4
  have FIN:Hid (∀ o,vZ s text w (.returned (.tuple #[.agg #[.slice a1 t.args.length c1],.agg #[str s',.int .i64 v',.slice a2 n2 c2,.slice a3 n3 c3],.bool false])) (W.alloc o).drew):=fun o =>
   vZ.no (a:=a1) (c:=c1) (by rw [HT.out]) rfl HN.out ((ah.alloc ah.size o).drew) (by rw [HT.out];exact ((Rep.keep fun b o h ho=>⟨h,zY ho⟩).1 _ _ B0).drew)
  have HW:=fX hW;clear h0 hW fq fc ah B0
  go_wp2_with fail
  go_region
  go_wp2_with fail
  rw [<- HW.out]
  refine bodyPost_ret (v:=.tuple #[.agg #[.slice a1 t.args.length c1],.agg #[str s',.int .i64 v',.slice a2 n2 c2,.slice a3 n3 c3],.bool false]) (by simp [results,Tryz.results45,go_sem,zJ t0,zJ s0,zJ s1,zJ s2,zJ s3]) rfl ?_
  exact FIN.out _
 obtain ⟨b,hqb⟩:∃ b,rdN 101 t.args text=some (b,[]):=by
  cases hq:rdN 101 t.args text with
  | none=>have:=sN hq;omega
  | some x =>
    obtain ⟨b,rest⟩:=x
    have h1:=(tp b rest hq).1
    have:rest.length=0:=by omega
    rw [List.eq_nil_of_length_eq_zero this];exact ⟨b,rfl⟩
 have hrB:=(tp b [] hqb).2
 have f7:=rdN_size 101 hqb
 have hm:qw s text=if zW b<=200 then some b else none:=by
  rw [HM.out,hqb];simp
 have HM:=fX hm
 have hlB:Lim (zW b):=hl.mono (by simp at f7;omega)
 have g1:(k == (text.length:Int))=true:=by rw [beq_iff_eq];exact hk
 clear hm hqb sN tp f7
 have HK:=fX hk;clear hk
 have hrA:zX (w.heap.size+1 < ·) (w2.alloc (.cells #[str s',.int .i64 v',.slice a2 n2 c2,.slice a3 n3 c3] 48)) (kR b) [str s',.int .i64 v',.slice a2 n2 c2,.slice a3 n3 c3] :=
  (Rep.keep fun b o h ho=>⟨by have:=ye h;omega,zY ho⟩).2 _ _ hrB
 have hTA:(w2.alloc (.cells #[str s',.int .i64 v',.slice a2 n2 c2,.slice a3 n3 c3] 48)).cell? ⟨w1.heap.size,0,none⟩=some (.slice a1 t.args.length c1):=zJ Ei
 have n0:(w2.alloc (.cells #[str s',.int .i64 v',.slice a2 n2 c2,.slice a3 n3 c3] 48)).cell? ⟨w2.heap.size,0,none⟩=some (str s'):=by simp
 have n1:(w2.alloc (.cells #[str s',.int .i64 v',.slice a2 n2 c2,.slice a3 n3 c3] 48)).cell? ⟨w2.heap.size,1,none⟩=some (.int .i64 v'):=by simp
 have ik:(w2.alloc (.cells #[str s',.int .i64 v',.slice a2 n2 c2,.slice a3 n3 c3] 48)).cell? ⟨w2.heap.size,2,none⟩=some (.slice a2 n2 c2):=by simp
 have l_:(w2.alloc (.cells #[str s',.int .i64 v',.slice a2 n2 c2,.slice a3 n3 c3] 48)).cell? ⟨w2.heap.size,3,none⟩=some (.slice a3 n3 c3):=by simp
 have DF:KeepS w1.heap.size w2.heap.size (.slice a1 t.args.length c1) (str s') (.int .i64 v') (.slice a2 n2 c2) (.slice a3 n3 c3) (w2.alloc (.cells #[str s',.int .i64 v',.slice a2 n2 c2,.slice a3 n3 c3] 48)):=⟨hTA,n0,n1,ik,l_⟩
 have hK3d:KeepS w1.heap.size w2.heap.size (.slice a1 t.args.length c1) (str s') (.int .i64 v') (.slice a2 n2 c2) (.slice a3 n3 c3) (w2.alloc (.cells #[str s',.int .i64 v',.slice a2 n2 c2,.slice a3 n3 c3] 48)).drew:=DF
 have ln:w1.heap.size≠w.heap.size:=by omega
 have Dl:w2.heap.size≠w.heap.size:=by omega
 have sw:w1.heap.size≠w.heap.size+1:=by omega
 have sI:w2.heap.size≠w.heap.size+1:=by omega
 clear hTA n0 n1 ik l_
 go_wp2_with fail
 go_region_held3 (fun w'=>w'.cell? ⟨w1.heap.size,0,none⟩=some (.slice a1 t.args.length c1)/\w'.cell? ⟨w2.heap.size,0,none⟩=some (str s')/\w'.cell? ⟨w2.heap.size,1,none⟩=some (.int .i64 v')/\w'.cell? ⟨w2.heap.size,2,none⟩=some (.slice a2 n2 c2)/\w'.cell? ⟨w2.heap.size,3,none⟩=some (.slice a3 n3 c3))
  (first
   | with_reducible exact DF
   | with_reducible exact hK3d
   | with_reducible exact iR
   | with_reducible exact iR.set _ _ _ ln Dl
   | with_reducible exact (iR.set _ _ _ ln Dl).set _ _ _ sw sI
   | with_reducible exact ((iR.set _ _ _ ln Dl).set _ _ _ sw sI).set _ _ _ sw sI
   | with_reducible exact (((iR.set _ _ _ ln Dl).set _ _ _ sw sI).set _ _ _ sw sI).set _ _ _ sw sI
   | with_reducible exact ((((iR.set _ _ _ ln Dl).set _ _ _ sw sI).set _ _ _ sw sI).set _ _ _ sw sI).set _ _ _ sw sI
   | with_reducible exact iR.set _ _ _ sw sI
   | with_reducible exact (iR.set _ _ _ sw sI).set _ _ _ sw sI
   | with_reducible exact ((iR.set _ _ _ sw sI).set _ _ _ sw sI).set _ _ _ sw sI
   | with_reducible exact (((iR.set _ _ _ sw sI).set _ _ _ sw sI).set _ _ _ sw sI).set _ _ _ sw sI
   | with_reducible exact ((((iR.set _ _ _ sw sI).set _ _ _ sw sI).set _ _ _ sw sI).set _ _ _ sw sI).set _ _ _ ln Dl)
  (first
   | (go_at_call 36;refine (gr (zW b) b (fP _) hlB (w.heap.size+1 < ·) _ _ _ _ _ _ _ _ _ (by exact hrA.drew)).mono ?_;rintro en w5 ⟨rfl,fe⟩;have iR:KeepS w1.heap.size w2.heap.size (.slice a1 t.args.length c1) (str s') (.int .i64 v') (.slice a2 n2 c2) (.slice a3 n3 c3) w5:=⟨(fe.cell (by simp;omega)).trans DF.1,(fe.cell (by simp)).trans DF.2.1,(fe.cell (by simp)).trans DF.2.2.1,(fe.cell (by simp)).trans DF.2.2.2.1,(fe.cell (by simp)).trans DF.2.2.2.2⟩;have z5:=fe.size;have hz5:w.heap.size<w5.heap.size:=(by simp at z5;omega);have r5:w5.cell? ⟨w.heap.size,0,none⟩=some (.slice none 0 0):=(fe.cell (by simp;omega)).trans (zJ r0');have f5:w5.frozen? ⟨w.heap.size,0,none⟩=false:=(fe.frozen (by simp;omega)).trans ((World.frozen?_of_block (w:=w2) (Below.heap_alloc _ _ _ y1)).trans rf0');have hN5:z9 (w.heap.size+1) 0 (.slice none 0 0) (.slice none 0 0) w5:=(by unfold z9;rw [fe.block _ (by simp;omega)];exact zY hN');obtain ⟨p0,p1,p2,p3,pl,pf⟩:=hN5.cells;have pf0:=pf 0;have pf1:=pf 1;have pf2:=pf 2;have pf3:=pf 3;clear pf))
 go_wp2_with fail
 have h0:z9 (w.heap.size+1) 0 (.slice none 0 0) (.slice none 0 0) (w5.setCell ⟨w.heap.size,0,none⟩ (.slice a1 t.args.length c1)):=by
  unfold z9;rw [fB _ _ _ _ (by simp)];exact hN5
 obtain ⟨W,hW,s0,s1,s2,s3,fq,fc⟩:=h0.store (str s') (.int .i64 v') (.slice a2 n2 c2) (.slice a3 n3 c3)
 have t0:W.cell? ⟨w.heap.size,0,none⟩=some (.slice a1 t.args.length c1):=wC (jl r5 _) fun x hx=>fc _ x (by simp) hx
 have tL:Below w2.heap.size w2 w5:=((((fH _ _).alloc (fP _) _).drew).trans (fe.mono (by simp)))
 have hbC:=zzT DD tL
 have ah:=fq _ _ (hbC.setCell (p:=⟨w.heap.size,0,none⟩) (fP _) (.slice a1 t.args.length c1)) (by omega)
 have keepF:∀ i o,w.heap.size+1<i->w2.heap[i]? = some o->W.heap[i]? = some o:=fun i o h ho =>
  fc i o (by omega) (by rw [fB _ _ _ _ (by simp;omega),tL.block i (zZ ho)];exact ho)
 have B0:Rep (w.heap.size<=·) W (kg t) (.slice a1 t.args.length c1):=(Rep.keep fun b o h ho=>⟨by omega,keepF b o h ho⟩).1 _ _ G4
 have hrN:zX (w.heap.size<=·) W (kR b) [str s',.int .i64 v',.slice a2 n2 c2,.slice a3 n3 c3]:=(Rep.keep fun b o h ho=>⟨by have:=ye h;omega,keepF b o (by have:=ye h;omega) ho⟩).2 _ _ hrB
 rw [<- hW]
 refine bodyPost_ret (v:=.tuple #[.agg #[.slice a1 t.args.length c1],.agg #[str s',.int .i64 v',.slice a2 n2 c2,.slice a3 n3 c3],.bool (decide ((zW b:Int)<=200))]) (by simp [results,Tryz.results45,go_sem,t0,s0,s1,s2,s3]) rfl ?_
 by_cases rI:zW b<=200
 ·refine vZ.yes (a:=a1) (c:=c1) (by rw [HT.out]) (by rw [decide_eq_true_eq];omega) (by rw [HM.out,if_pos rI]) ah (by rw [HT.out];exact B0) hrN
 ·exact vZ.no (a:=a1) (c:=c1) (by rw [HT.out]) (by rw [decide_eq_false_iff_not];omega) (by rw [HM.out,if_neg rI]) ah (by rw [HT.out];exact B0)
theorem dig_iff (c:UInt8):dig c=true↔48<=c.toNat/\c.toNat<=57:=by
 simp [dig,UInt8.le_iff_toNat_le]
theorem digit_ofNat {k:Nat} (h:k<10):(UInt8.ofNat (48+k)).toNat=48+k:=by
 rw [UInt8.toNat_ofNat'];exact Nat.mod_eq_of_lt (by omega)
def uO (l:Bs):Prop:=l=[]\/∃ c r,l=c::r/\sep c=true
theorem dig_sep {c:UInt8} (h:dig c=true):sep c=false:=by
 have:=(dig_iff c).1 h
 rw [Bool.eq_false_iff];intro hs
 simp only [sep,Bool.or_eq_true,beq_iff_eq] at hs
 rcases hs with (rfl | rfl) | rfl
 ·have:(32:UInt8).toNat=32:=rfl;omega
 ·have:(40:UInt8).toNat=40:=rfl;omega
 ·have:(41:UInt8).toNat=41:=rfl;omega
theorem yJ (l:Bs):l=zu l++zT l:=(List.takeWhile_append_dropWhile).symm
theorem dg (l:Bs):uO (zT l):=by
 unfold zT
 induction l with
 | nil=>exact .inl rfl
 | cons c cs ih =>
   rw [List.dropWhile_cons]
   split
   ·exact ih
   ·rename_i h;exact .inr ⟨c,cs,rfl,by simpa using h⟩
theorem word_of {w rest:Bs} (hw:∀ c∈w,sep c=false) (hr:uO rest):zu (w++rest)=w/\zT (w++rest)=rest:=by
 unfold zu zT
 induction w with
 | nil =>
   rcases hr with rfl | ⟨c,r,rfl,hc⟩
   ·exact ⟨rfl,rfl⟩
   ·simp [hc]
 | cons x xs ih =>
   have hx:=hw x (by simp)
   have:=ih fun c hc=>hw c (by simp [hc])
   simp [hx,this.1,this.2]
theorem u6 {c:UInt8} {r:Bs}:cut [c] (c::r)=some r:=by simp [cut,List.isPrefixOf]
mutual
def jH:List Ty->Bd->Prop
 | _,.leaf _=>True
 | hand,.ask v ss y n=>∃ t,hand[v]? = some t/\qe (jN hand t.args) ss/\jH hand y/\jH hand n
def qe:List (List Ty)->List Bd->Prop
 | hs,[]=>hs=[]
 | hs,b::bs=>∃ h aK,hs=h::aK/\jH h b/\qe aK bs
end
mutual
def ch:Bd->Bd->Bool
 | .leaf c,.leaf d=>c == 117 || c == d
 | .leaf c,.ask _ _ _ _=>c == 117
 | .ask _ _ _ _,.leaf _=>false
 | .ask v ss y n,.ask v' ss' y' n'=>v == v' && (p_ ss ss' && (ch y y' && ch n n'))
def p_:List Bd->List Bd->Bool
 | a::xs,b::bs=>ch a b && p_ xs bs
 | [],_=>true
 | _::_,[]=>false
end
theorem jK (levels ts:List Ty):(jN levels ts).length=ts.length:=by simp [jN]
theorem bk:∀ (xs:List Bd) (bs:List Bd) (hs ks:List (List Ty)),qe hs xs->qe ks bs->qe (hs++ks) (xs++bs)
 | [],bs,hs,ks,h1,h2=>by rw [qe] at h1;subst h1;simpa using h2
 | a::xs,bs,hs,ks,h1,h2=>by
   rw [qe] at h1
   obtain ⟨h,aK,rfl,e1,e2⟩:=h1
   exact ⟨h,aK++ks,rfl,e1,bk xs bs aK ks e2 h2⟩
theorem qI:∀ (xs:List Bd) (hs:List (List Ty)),qe hs xs->hs.length=xs.length
 | [],hs,h=>by rw [qe] at h;simp [h]
 | a::xs,hs,h=>by
   rw [qe] at h
   obtain ⟨h',aK,rfl,e1,e2⟩:=h
   simp [qI xs aK e2]
theorem pG:∀ (xs:List Bd) (hs:List (List Ty)),qe hs xs->∀ (k:Nat) (a:Bd),xs[k]? = some a->∃ h,hs[k]? = some h/\jH h a
 | [],hs,h,k,a,ha=>by simp at ha
 | a::xs,hs,h,k,a',ha=>by
   rw [qe] at h
   obtain ⟨h',aK,rfl,e1,e2⟩:=h
   cases k with
   | zero=>simp at ha;subst ha;exact ⟨h',rfl,e1⟩
   | succ k=>simp at ha;simpa using pG xs aK e2 k a' ha
theorem fitBs_pair (h k:List Ty) (y n:Bd):qe [h,k] [y,n]↔jH h y/\jH k n:=by
 constructor
 ·intro hf
  rw [qe] at hf
  obtain ⟨a,as',e,h1,h2⟩:=hf
  simp only [List.cons.injEq] at e
  obtain ⟨rfl,rfl⟩:=e
  rw [qe] at h2
  obtain ⟨a,as',e,h3,h4⟩:=h2
  simp only [List.cons.injEq] at e
  obtain ⟨rfl,rfl⟩:=e
  exact ⟨h1,h3⟩
 ·rintro ⟨h1,h2⟩
  exact ⟨h,[k],rfl,h1,k,[],rfl,h2,by rw [qe]⟩
theorem fit_parts {hand:List Ty} {v:Nat} {ss:List Bd} {y n:Bd} (h:jH hand (.ask v ss y n)):∃ t,hand[v]? = some t/\qe (jU hand t) (kq (.ask v ss y n))/\ss.length=t.args.length:=by
 rw [jH] at h
 obtain ⟨t,h1,h2,h3,h4⟩:=h
 refine ⟨t,h1,bk _ _ _ _ h2 ((fitBs_pair _ _ _ _).2 ⟨h3,h4⟩),?_⟩
 have:=qI _ _ h2
 rw [jK] at this;exact this.symm
theorem b_:∀ (xs bs:List Bd),xs.length=bs.length->(p_ xs bs=true↔∀ (k:Nat) (a b:Bd),xs[k]? = some a->bs[k]? = some b->ch a b=true)
 | [],[],_=>by simp [p_]
 | a::xs,b::bs,h=>by
   simp only [p_,Bool.and_eq_true]
   rw [b_ xs bs (by simpa using h)]
   constructor
   ·rintro ⟨h1,h2⟩ k a' b' ha hb
    cases k with
    | zero=>simp at ha hb;subst ha;subst hb;exact h1
    | succ k=>simp at ha hb;exact h2 k a' b' ha hb
   ·intro h
    exact ⟨h 0 a b rfl rfl,fun k a' b' ha hb=>h (k+1) a' b' (by simpa using ha) (by simpa using hb)⟩
def wA (xs bs:List Bd) (k:Nat):Prop:=∀ (j:Nat) (a b:Bd),j<k->xs[j]? = some a->bs[j]? = some b->ch a b=true
theorem wA.zero (xs bs:List Bd):wA xs bs 0:=fun j a b h=>by omega
theorem wA.next {xs bs:List Bd} {k:Nat} (h:wA xs bs k) {a b:Bd} (ha:xs[k]? = some a) (hb:bs[k]? = some b) (ou:ch a b=true):wA xs bs (k+1):=by
 intro j a' b' hj h1 h2
 rcases Nat.lt_or_ge j k with h' | h'
 ·exact h j a' b' h' h1 h2
 ·obtain rfl:j=k:=by omega
  rw [ha] at h1;rw [hb] at h2;simp at h1 h2;subst h1;subst h2;exact ou
theorem wA.all {xs bs:List Bd} (hl:xs.length=bs.length) (h:wA xs bs xs.length):p_ xs bs=true :=
 (b_ xs bs hl).2 fun k a b ha hb=>h k a b (List.getElem?_eq_some_iff.1 ha).1 ha hb
def lvOf:Bd->Nat
 | .leaf _=>0
 | .ask v _ _ _=>v
theorem encN_lv {F:Nat->Prop} {w:World} {b:Bd} {s v k y:Value} (h:zX F w (kR b) [s,v,k,y]):v=.int .i64 (lvOf b:Nat):=by
 cases b with
 | leaf c =>
   rw [kR] at h
   obtain ⟨_,_,e,h0,h⟩:=zQ.1 h
   simp only [List.cons.injEq] at e;obtain ⟨rfl,rfl⟩:=e
   obtain ⟨_,_,e,h1,h⟩:=zQ.1 h
   simp only [List.cons.injEq] at e;obtain ⟨rfl,rfl⟩:=e
   exact zH.1 h1
 | ask lv ss yb nb =>
   rw [kR] at h
   obtain ⟨_,_,e,h0,h⟩:=zQ.1 h
   simp only [List.cons.injEq] at e;obtain ⟨rfl,rfl⟩:=e
   obtain ⟨_,_,e,h1,h⟩:=zQ.1 h
   simp only [List.cons.injEq] at e;obtain ⟨rfl,rfl⟩:=e
   exact zH.1 h1
theorem wj (a b:Nat):((a:Int).tmod (b:Int))=((a % b:Nat):Int):=rfl
theorem da (a b:Nat):((a:Int).tdiv (b:Int))=((a / b:Nat):Int):=rfl
theorem wk (n:Nat) (h:n<9223372036854775808):IntKind.i64.wrap (n:Int)=(n:Int):=by
 simp [IntKind.wrap,IntKind.bits,IntKind.signed];omega
def yF (r:Nat):UInt8:=UInt8.ofNat (48+r)
def dec (n:Nat):Bs:=if n<10 then [yF n] else dec (n / 10)++[yF (n % 10)]
theorem vN {n:Nat} (h:n<10):dec n=[yF n]:=by rw [dec,if_pos h]
theorem uR {n:Nat} (h:¬ n<10):dec n=dec (n / 10)++[yF (n % 10)]:=by rw [dec,if_neg h]
theorem u5 (k:Nat):∀ n,n<10 ^ (k+1)->(dec n).length<=k+1:=by
 induction k with
 | zero=>intro n h;rw [vN (by simpa using h)];simp
 | succ k ih =>
   intro n h
   by_cases GG:n<10
   ·rw [vN GG];simp
   ·rw [uR GG]
    have:=ih (n / 10) (by rw [Nat.div_lt_iff_lt_mul (by omega),<- Nat.pow_succ];exact h)
    simp;omega
theorem str_add (a b:Bs):(⟨a.toArray⟩:ByteArray)++(⟨b.toArray⟩:ByteArray)=⟨(a++b).toArray⟩:=by
 have h:((⟨a.toArray⟩:ByteArray)++(⟨b.toArray⟩:ByteArray)).data=(a++b).toArray:=by
  rw [ByteArray.data_append];simp
 cases hx:(⟨a.toArray⟩:ByteArray)++(⟨b.toArray⟩:ByteArray) with
 | mk d=>rw [hx] at h;simp at h;rw [h]
theorem qN {P:Program} (a b:Bs) (h:a.length+b.length<=9223372036854775807) (w:World):(Op.stringOp .add ⟨a.toArray⟩ ⟨b.toArray⟩).run P w=.ok (str (a++b)) w:=by
 rw [run_string_add_sum w _ _ (by rw [wt,wt];exact h),str_add]
mutual
def kM:Bd->Bs
 | .leaf c=>[c]
 | .ask v ss y n=>(((([40]++dec v++kO ss++[32])++kM y)++[32])++kM n)++[41]
def kO:List Bd->Bs
 | []=>[]
 | b::bs=>[32]++kM b++kO bs
end
mutual
def lvB:Bd->Prop
 | .leaf _=>True
 | .ask v ss y n=>v<=10000/\gu ss/\lvB y/\lvB n
def gu:List Bd->Prop
 | []=>True
 | b::bs=>lvB b/\gu bs
end
theorem vB:∀ (xs ys:List Bd),kO (xs++ys)=kO xs++kO ys
 | [],ys=>by simp [kO]
 | x::xs,ys=>by simp [kO,vB xs ys]
theorem textBs_take {ts:List Bd} {k:Nat} {t:Bd} (h:ts[k]? = some t):kO (ts.take (k+1))=kO (ts.take k)++[32]++kM t:=by
 rw [List.take_add_one,h,vB];simp [kO]
theorem dI:∀ (xs:List Bd),gu xs->∀ (k:Nat) (t:Bd),xs[k]? = some t->lvB t
 | [],_,k,t,h=>by simp at h
 | x::xs,hl,k,t,h=>by
   rw [gu] at hl
   cases k with
   | zero=>simp at h;subst h;exact hl.1
   | succ k=>simp at h;exact dI xs hl.2 k t h
mutual
theorem vJ:∀ (b:Bd),lvB b->(kM b).length+1<=12*zW b
 | .leaf c,_=>by simp [kM,zW]
 | .ask v ss y n,h=>by
   rw [lvB] at h
   have h1:=u9 ss h.2.1
   have h2:=vJ y h.2.2.1
   have h3:=vJ n h.2.2.2
   have h4:(dec v).length<=5:=u5 4 v (by have:=h.1;omega)
   simp only [kM,zW,List.length_append,List.length_cons,List.length_nil]
   omega
theorem u9:∀ (bs:List Bd),gu bs->(kO bs).length<=12*zR bs
 | [],_=>by simp [kO]
 | b::bs,h=>by
   rw [gu] at h
   have h1:=vJ b h.1
   have h2:=u9 bs h.2
   simp only [kO,zR,List.length_append,List.length_cons,List.length_nil]
   omega
end
theorem dR (xs:List Bd) (k:Nat):(kO (xs.take k)).length<=(kO xs).length:=by
 have:=congrArg List.length (vB (xs.take k) (xs.drop k))
 rw [List.take_append_drop,List.length_append] at this
 omega
mutual
def zN:Ty->Bs
 | .mk ts=>textTs ts
def textTs:List Ty->Bs
 | []=>[98]
 | a::ts=>[40,62,32]++(zN a++([32]++(textTs ts++[41])))
end
theorem uB:zN (.mk [])=[98]:=by rw [zN,textTs]
theorem uX (a:Ty) (ts:List Ty):zN (.mk (a::ts))=[40,62,32]++(zN a++([32]++(zN (.mk ts)++[41]))):=by
 rw [zN,textTs,zN]
theorem jh (a:Ty) (ts:List Ty):zV (.mk (a::ts))=1+zV a+zV (.mk ts):=by
 simp only [zV,za];omega
theorem du (p r:Bs):cut p (p++r)=some r:=by
 unfold cut
 have h:p.isPrefixOf (p++r)=true:=List.isPrefixOf_iff_prefix.2 (List.prefix_append _ _)
 rw [if_pos h];simp
theorem noCut_b (r:Bs):pA [98] ([40,62,32]++r):=by
 show cut [98] ([40,62,32]++r)=none
 rfl
theorem wl (d:Nat):∀ (t:Ty) (r:Bs),zV t<=2*d+1->rdK d (zN t++r)=some (t,r):=by
 have hb:∀ (d:Nat) (r:Bs),rdK d (zN (.mk [])++r)=some (.mk [],r):=fun d r=>by
  rw [uB];exact wo (du [98] r)
 induction d with
 | zero =>
   intro t r h
   obtain ⟨ts⟩:=t
   cases ts with
   | nil=>exact hb 0 r
   | cons a ts=>rw [jh] at h;have:=kh a;have:=kh (.mk ts);omega
 | succ d ih =>
   intro t r h
   obtain ⟨ts⟩:=t
   cases ts with
   | nil=>exact hb _ r
   | cons a ts =>
     rw [jh] at h
     have h1:=kh a;have h2:=kh (.mk ts)
     rw [uX]
     have e:([40,62,32]++(zN a++([32]++(zN (.mk ts)++[41]))))++r=[40,62,32]++(zN a++([32]++(zN (.mk ts)++([41]++r)))):=by simp
     rw [e,vG (noCut_b _)]
     simp only [du,Option.bind_eq_bind,Option.bind_some,ih a _ (by omega:zV a<=2*d+1),ih (.mk ts) _ (by omega:zV (.mk ts)<=2*d+1)]
     rfl
theorem jy:∀ (n:Nat) (t:Ty),zV t<=n->(zN t).length+2=3*zV t:=by
 intro n
 induction n with
 | zero=>intro t h;have:=kh t;omega
 | succ n ih =>
   intro t h
   obtain ⟨ts⟩:=t
   cases ts with
   | nil=>rw [uB];simp [zV,za]
   | cons a ts =>
     rw [jh] at h ⊢
     have h1:=kh a;have h2:=kh (.mk ts)
     have k1:=ih a (by omega)
     have k2:=ih (.mk ts) (by omega)
     rw [uX]
     simp only [List.length_append,List.length_cons,List.length_nil]
     omega
theorem v8 {t:Ty} (h:zV t<=15):zI (zN t)=(t,true):=by
 have hl:=jy 15 t h
 unfold zI
 rw [if_neg (by omega)]
 have:=wl 20 t [] (by omega)
 rw [List.append_nil] at this
 have h2:rdS 21 (zN t)=some (t,[]):=this
 rw [h2]
 simp [h]
inductive Clo where
 | mk (b:Bd) (env:List Clo) (begun:Nat) (path:Bs)
def Clo.body:Clo->Bd | .mk b _ _ _=>b
def Clo.env:Clo->List Clo | .mk _ e _ _=>e
def Clo.begun:Clo->Nat | .mk _ _ n _=>n
def Clo.path:Clo->Bs | .mk _ _ _ p=>p
inductive Mn where
 | op (o:Nat) (t:Ty)
 | bd (t:Ty) (b:Bd) (env:List Mn)
structure Gf where
 yes:Bd
 no:Bd
 env:List Mn
def opens:Nat->List Ty->List Mn
 | _,[]=>[]
 | n,t::ts=>.op n t::opens (n+1) ts
def owns (env:List Mn):List Ty->List Bd->List Mn
 | t::ts,s::ss=>.bd t s env::owns env ts ss
 | _,_=>[]
def kQ (ev:Nat->Bd->List Mn->Nat->List Gf->Option (Bd×Nat)) (env:List Mn) (n:Nat):Nat->List Ty->List Bd->Option (List Bd×Nat)
 | l,t::ts,s::ss=>do
   let (x,l1)<-ev l s (env++opens n t.args) (n+t.args.length) []
   let (xs,l2)<-kQ ev env n l1 ts ss
   some (x::xs,l2)
 | l,_,_=>some ([],l)
def ev:Nat->Nat->Bd->List Mn->Nat->List Gf->Option (Bd×Nat)
 | 0,_,_,_,_,_=>none
 | d+1,l,b,env,n,st=>match l with
   | 0=>none
   | l+1=>match b with
     | .leaf c=>if c=117 then some (.leaf c,l) else match st with
       | []=>some (.leaf c,l)
       | f::st'=>ev d l (if c=116 then f.yes else f.no) f.env n st'
     | .ask v ss y no=>match env[v]? with
       | none=>none
       | some (.bd t b' e)=>ev d l b' (e++owns env t.args ss) n (⟨y,no,env⟩::st)
       | some (.op o t)=>do
         let (xs,l1)<-kQ (ev d) env n l t.args ss
         let (x,l2)<-ev d l1 y env n st
         let (z,l3)<-ev d l2 no env n st
         some (.ask o xs x z,l3)
def kE (ev:Nat->Nat->Bd->List Mn->Nat->List Gf->Option (Bd×Nat×Nat)) (env:List Mn) (n:Nat):Nat->Nat->List Ty->List Bd->Option (List Bd×Nat×Nat)
 | k,l,t::ts,s::ss=>do
   let (x,k1,l1)<-ev k l s (env++opens n t.args) (n+t.args.length) []
   let (xs,k2,l2)<-kE ev env n k1 l1 ts ss
   some (x::xs,k2,l2)
 | k,l,_,_=>some ([],k,l)
def evN:Nat->Nat->Nat->Bd->List Mn->Nat->List Gf->Option (Bd×Nat×Nat)
 | 0,_,_,_,_,_,_=>none
 | d+1,k,l,b,env,n,st=>match l with
   | 0=>none
   | l+1=>match k with
     | 0=>none
     | k+1=>match b with
       | .leaf c=>if c=117 then some (.leaf c,k,l) else match st with
         | []=>some (.leaf c,k,l)
         | f::st'=>evN d (k+1) l (if c=116 then f.yes else f.no) f.env n st'
       | .ask v ss y no=>match env[v]? with
         | none=>none
         | some (.bd t b' e)=>evN d (k+1) l b' (e++owns env t.args ss) n (⟨y,no,env⟩::st)
         | some (.op o t)=>do
           let (xs,k1,l1)<-kE (evN d) env n k l t.args ss
           let (x,k2,l2)<-evN d k1 l1 y env n st
           let (z,k3,l3)<-evN d k2 l2 no env n st
           some (.ask o xs x z,k3,l3)
def wD (k:Nat):Option (Bd×Nat)->Option (Bd×Nat×Nat)
 | none=>none
 | some (b,l)=>if zW b<=k then some (b,k-zW b,l) else none
def x7 (k:Nat):Option (List Bd×Nat)->Option (List Bd×Nat×Nat)
 | none=>none
 | some (bs,l)=>if zR bs<=k then some (bs,k-zR bs,l) else none
theorem cg (k:Nat):wD k none=none:=rfl
theorem ef {k l:Nat} {b:Bd} (h:zW b<=k):wD k (some (b,l))=some (b,k-zW b,l):=by simp only [wD];rw [if_pos h]
theorem pF {k l:Nat} {b:Bd} (h:¬ zW b<=k):wD k (some (b,l))=none:=by simp only [wD];rw [if_neg h]
theorem capNs_none (k:Nat):x7 k none=none:=rfl
theorem capNs_pos {k l:Nat} {b:List Bd} (h:zR b<=k):x7 k (some (b,l))=some (b,k-zR b,l):=by simp only [x7];rw [if_pos h]
theorem capNs_neg {k l:Nat} {b:List Bd} (h:¬ zR b<=k):x7 k (some (b,l))=none:=by simp only [x7];rw [if_neg h]
theorem eO (d:Nat) (ih:∀ k l b env n st,evN d k l b env n st=wD k (ev d l b env n st)) (env:List Mn) (n:Nat) :
 ∀ (ts:List Ty) (ss:List Bd) (k l:Nat),kE (evN d) env n k l ts ss=x7 k (kQ (ev d) env n l ts ss)
 | [],ss,k,l=>by cases ss <;> simp [kE,kQ,x7,zR]
 | t::ts,[],k,l=>by simp [kE,kQ,x7,zR]
 | t::ts,s::ss,k,l=>by
   simp only [kE,kQ,Option.bind_eq_bind,ih]
   cases h1:ev d l s (env++opens n t.args) (n+t.args.length) [] with
   | none=>simp [wD,x7]
   | some x =>
     obtain ⟨x,l1⟩:=x
     simp only [wD,Option.bind_some]
     by_cases hx:zW x<=k
     ·rw [if_pos hx]
      simp only [Option.bind_some,eO d ih env n ts ss]
      cases h2:kQ (ev d) env n l1 ts ss with
      | none=>simp [x7]
      | some y =>
        obtain ⟨xs,l2⟩:=y
        have f7:zR (x::xs)=zW x+zR xs:=by simp only [zR]
        simp only [x7,Option.bind_some]
        by_cases hy:zR xs<=k-zW x
        ·rw [if_pos hy,if_pos (by omega),f7];simp;omega
        ·rw [if_neg hy,if_neg (by omega)];rfl
     ·rw [if_neg hx]
      cases h2:kQ (ev d) env n l1 ts ss with
      | none=>simp [x7]
      | some y =>
        obtain ⟨xs,l2⟩:=y
        have f7:zR (x::xs)=zW x+zR xs:=by simp only [zR]
        simp only [x7,Option.bind_some]
        rw [if_neg (by omega)];rfl
theorem evN_eq (d:Nat):∀ (k l:Nat) (b:Bd) (env:List Mn) (n:Nat) (st:List Gf),evN d k l b env n st=wD k (ev d l b env n st):=by
 induction d with
 | zero=>intro k l b env n st;simp [evN,ev,wD]
 | succ d ih =>
   intro k l b env n st
   rw [evN.eq_def,ev.eq_def]
   cases l with
   | zero=>simp [wD]
   | succ l =>
     cases k with
     | zero =>
       simp only
       cases h:(match b with
     | .leaf c=>if c=117 then some (.leaf c,l) else match st with
       | []=>some (.leaf c,l)
       | f::st'=>ev d l (if c=116 then f.yes else f.no) f.env n st'
     | .ask v ss y no=>match env[v]? with
       | none=>none
       | some (.bd t b' e)=>ev d l b' (e++owns env t.args ss) n (⟨y,no,env⟩::st)
       | some (.op o t)=>do
         let (xs,l1)<-kQ (ev d) env n l t.args ss
         let (x,l2)<-ev d l1 y env n st
         let (z,l3)<-ev d l2 no env n st
         some (.ask o xs x z,l3):Option (Bd×Nat)) with
       | none=>simp [wD]
       | some x=>obtain ⟨x,l'⟩:=x;have:=kW x;simp only [wD];rw [if_neg (by omega)]
     | succ k =>
       simp only
       cases b with
       | leaf c =>
         simp only
         by_cases hc:c=117
         ·rw [if_pos hc,if_pos hc];simp [wD,zW]
         ·rw [if_neg hc,if_neg hc]
          cases st with
          | nil=>simp [wD,zW]
          | cons f st'=>simp only;exact ih _ _ _ _ _ _
       | ask v ss y no =>
         simp only
         cases hv:env[v]? with
         | none=>simp [wD]
         | some m =>
           cases m with
           | bd t b' e=>simp only;exact ih _ _ _ _ _ _
           | op o t =>
             simp only [Option.bind_eq_bind,eO d ih,ih]
             cases h1:kQ (ev d) env n l t.args ss with
             | none=>simp only [capNs_none,cg,Option.bind_none]
             | some x =>
               obtain ⟨xs,l1⟩:=x
               by_cases il:zR xs<=k
               ·simp only [capNs_pos il,Option.bind_some]
                cases h2:ev d l1 y env n st with
                | none=>simp only [cg,Option.bind_none]
                | some x =>
                  obtain ⟨x,l2⟩:=x
                  by_cases hx:zW x<=k-zR xs
                  ·simp only [ef hx,Option.bind_some]
                   cases h3:ev d l2 no env n st with
                   | none=>simp only [cg,Option.bind_none]
                   | some z =>
                     obtain ⟨z,l3⟩:=z
                     have f7:zW (.ask o xs x z)=1+(zR xs+(zW x+zW z)):=by simp only [zW]
                     by_cases hz:zW z<=k-zR xs-zW x
                     ·simp only [ef hz,Option.bind_some]
                      rw [ef (by omega),f7]
                      simp;omega
                     ·simp only [pF hz,Option.bind_some,Option.bind_none]
                      rw [pF (by omega)]
                  ·simp only [pF hx,Option.bind_some,Option.bind_none]
                   cases h3:ev d l2 no env n st with
                   | none=>rfl
                   | some z =>
                     obtain ⟨z,l3⟩:=z
                     have f7:zW (.ask o xs x z)=1+(zR xs+(zW x+zW z)):=by simp only [zW]
                     simp only [Option.bind_some]
                     rw [pF (by omega)]
               ·simp only [capNs_neg il,Option.bind_some,Option.bind_none]
                cases h2:ev d l1 y env n st with
                | none=>rfl
                | some x =>
                  obtain ⟨x,l2⟩:=x
                  simp only [Option.bind_some]
                  cases h3:ev d l2 no env n st with
                  | none=>rfl
                  | some z =>
                    obtain ⟨z,l3⟩:=z
                    have f7:zW (.ask o xs x z)=1+(zR xs+(zW x+zW z)):=by simp only [zW]
                    simp only [Option.bind_some]
                    rw [pF (by omega)]
mutual
def xE (H:List Ty):Mn->Ty->Prop
 | .op o t,t'=>t=t'/\H[o]? = some t
 | .bd t b e,t'=>t=t'/\∃ h,qd H e h/\jH (h++t.args) b
def qd (H:List Ty):List Mn->List Ty->Prop
 | [],h=>h=[]
 | m::ms,h=>∃ t ts,h=t::ts/\xE H m t/\qd H ms ts
end
theorem mnFits_at {H:List Ty}:∀ (cs:List Mn) (h:List Ty),qd H cs h->∀ (i:Nat) (t:Ty),h[i]? = some t->∃ c,cs[i]? = some c/\xE H c t
 | [],h,k,i,c,hc=>by rw [qd] at k;subst k;simp at hc
 | c::cs,h,k,i,t',hc=>by
   rw [qd] at k
   obtain ⟨t,ts,rfl,k1,k2⟩:=k
   cases i with
   | zero=>simp at hc;subst hc;exact ⟨c,rfl,k1⟩
   | succ i=>simp at hc;simpa using mnFits_at cs ts k2 i t' hc
theorem u_ {H:List Ty}:∀ (xs bs:List Mn) (h k:List Ty),qd H xs h->qd H bs k->qd H (xs++bs) (h++k)
 | [],bs,h,k,h1,h2=>by rw [qd] at h1;subst h1;simpa using h2
 | a::xs,bs,h,k,h1,h2=>by
   rw [qd] at h1
   obtain ⟨t,ts,rfl,k1,k2⟩:=h1
   simp only [List.cons_append]
   rw [qd]
   exact ⟨t,ts++k,rfl,k1,u_ xs bs ts k k2 h2⟩
mutual
theorem mnFit_more {H X:List Ty}:∀ (m:Mn) (t:Ty),xE H m t->xE (H++X) m t
 | .op o t,t',h=>by
   rw [xE] at *
   exact ⟨h.1,by rw [List.getElem?_append_left (List.getElem?_eq_some_iff.1 h.2).1];exact h.2⟩
 | .bd t b e,t',h=>by
   rw [xE] at *
   obtain ⟨h1,k,h2,h3⟩:=h
   exact ⟨h1,k,pJ e k h2,h3⟩
theorem pJ {H X:List Ty}:∀ (ms:List Mn) (h:List Ty),qd H ms h->qd (H++X) ms h
 | [],h,k=>by rw [qd] at *;exact k
 | m::ms,h,k=>by
   rw [qd] at *
   obtain ⟨t,ts,rfl,k1,k2⟩:=k
   exact ⟨t,ts,rfl,mnFit_more m t k1,pJ ms ts k2⟩
end
theorem cM {H:List Ty}:∀ (ts:List Ty) (n:Nat),(∀ i t,ts[i]? = some t->H[n+i]? = some t)->qd H (opens n ts) ts
 | [],n,h=>by rw [opens,qd]
 | t::ts,n,h=>by
   rw [opens,qd]
   refine ⟨t,ts,rfl,?_,cM ts (n+1) fun i t' hi=>?_⟩
   ·rw [xE];exact ⟨rfl,by have:=h 0 t rfl;simpa using this⟩
   ·have:=h (i+1) t' (by simpa using hi)
    rw [show n+1+i=n+(i+1) from by omega];exact this
theorem gX (H:List Ty) (ts:List Ty):qd (H++ts) (opens H.length ts) ts :=
 cM ts H.length fun i t h=>by rw [List.getElem?_append_right (by omega),Nat.add_sub_cancel_left];exact h
theorem owns_fit {H h:List Ty} {env:List Mn} (he:qd H env h):∀ (ts:List Ty) (ss:List Bd),qe (jN h ts) ss->qd H (owns env ts ss) ts
 | [],ss,hf=>by
   rw [owns]
   ·rw [qd]
   ·intros;contradiction
 | t::ts,[],hf=>by
   rw [qe] at hf;simp [jN] at hf
 | t::ts,s::ss,hf=>by
   rw [qe] at hf
   obtain ⟨h',aK,e,h1,h2⟩:=hf
   simp only [jN,List.map_cons,List.cons.injEq] at e
   obtain ⟨rfl,rfl⟩:=e
   rw [owns,qd]
   refine ⟨t,ts,rfl,?_,owns_fit he ts ss h2⟩
   rw [xE]
   exact ⟨rfl,h,he,h1⟩
def gfFit (H:List Ty) (f:Gf):Prop:=∃ h,qd H f.env h/\jH h f.yes/\jH h f.no
structure jz (H:List Ty) (b:Bd) (env:List Mn) (st:List Gf):Prop where
 fit:∃ h,qd H env h/\jH h b
 frames:∀ f∈st,gfFit H f
theorem jz.back {H:List Ty} {b:Bd} {env:List Mn} {f:Gf} {st:List Gf} (h:jz H b env (f::st)) (c:UInt8):jz H (if c=116 then f.yes else f.no) f.env st:=by
 obtain ⟨k,k1,k2,k3⟩:=h.frames f (by simp)
 refine ⟨⟨k,k1,?_⟩,fun g hg=>h.frames g (by simp [hg])⟩
 split
 ·exact k2
 ·exact k3
theorem jz.ask {H:List Ty} {v:Nat} {ss:List Bd} {y no:Bd} {env:List Mn} {st:List Gf} (h:jz H (.ask v ss y no) env st) :
 ∃ m t hh,env[v]? = some m/\xE H m t/\qd H env hh/\qe (jN hh t.args) ss/\jH hh y/\jH hh no:=by
 obtain ⟨⟨hh,h1,h2⟩,_⟩:=h
 rw [jH] at h2
 obtain ⟨t,k1,k2,k3,k4⟩:=h2
 obtain ⟨m,m1,m2⟩:=mnFits_at _ _ h1 v t k1
 exact ⟨m,t,hh,m1,m2,h1,k2,k3,k4⟩
theorem jz.call {H:List Ty} {v:Nat} {ss:List Bd} {y no:Bd} {env:List Mn} {st:List Gf} (h:jz H (.ask v ss y no) env st) {t:Ty} {b':Bd} {e:List Mn} (he:env[v]? = some (.bd t b' e)) :
 ss.length=t.args.length/\jz H b' (e++owns env t.args ss) (⟨y,no,env⟩::st):=by
 obtain ⟨m,t',hh,m1,m2,m3,m4,m5,m6⟩:=h.ask
 rw [he] at m1;simp at m1;subst m1
 rw [xE] at m2
 obtain ⟨rfl,k,k1,k2⟩:=m2
 refine ⟨?_,⟨k++t.args,u_ _ _ _ _ k1 (owns_fit m3 _ _ m4),k2⟩,fun f hf=>?_⟩
 ·have:=qI _ _ m4;rw [jK] at this;exact this.symm
 ·rcases List.mem_cons.1 hf with rfl | hf
  ·exact ⟨hh,m3,m5,m6⟩
  ·exact h.frames f hf
theorem jz.keep {H:List Ty} {v:Nat} {ss:List Bd} {y no:Bd} {env:List Mn} {st:List Gf} (h:jz H (.ask v ss y no) env st) {t:Ty} {o:Nat} (he:env[v]? = some (.op o t)) :
 ss.length=t.args.length/\H[o]? = some t/\(∀ (k:Nat) (a:Ty) (s:Bd),t.args[k]? = some a->ss[k]? = some s->jz (H++a.args) s (env++opens H.length a.args) [])/\jz H y env st/\jz H no env st:=by
 obtain ⟨m,t',hh,m1,m2,m3,m4,m5,m6⟩:=h.ask
 rw [he] at m1;simp at m1;subst m1
 rw [xE] at m2
 obtain ⟨rfl,k1⟩:=m2
 have hl:=qI _ _ m4
 rw [jK] at hl
 refine ⟨hl.symm,k1,fun k a s ha hs=>?_,⟨⟨hh,m3,m5⟩,h.frames⟩,⟨⟨hh,m3,m6⟩,h.frames⟩⟩
 obtain ⟨x,hx,hf⟩:=pG _ _ m4 k s hs
 have Dp:x=hh++a.args:=by simp [jN,ha] at hx;exact hx.symm
 subst Dp
 exact ⟨⟨hh++a.args,u_ _ _ _ _ (pJ _ _ m3) (gX H a.args),hf⟩,by simp⟩
theorem eI {H:List Ty} {env:List Mn} {d:Nat} (ih:∀ (H:List Ty) (l:Nat) (b:Bd) (env:List Mn) (st:List Gf) (out:Bd) (l':Nat),jz H b env st->ev d l b env H.length st=some (out,l')->jH H out) :
 ∀ (ts:List Ty) (ss:List Bd) (l:Nat) (outs:List Bd) (l':Nat),ss.length=ts.length->(∀ (k:Nat) (a:Ty) (s:Bd),ts[k]? = some a->ss[k]? = some s->jz (H++a.args) s (env++opens H.length a.args) []) ->
   kQ (ev d) env H.length l ts ss=some (outs,l')->qe (jN H ts) outs
 | [],[],l,outs,l',hl,hk,h=>by simp [kQ] at h;obtain ⟨rfl,rfl⟩:=h;simp [jN,qe]
 | [],s::ss,l,outs,l',hl,hk,h=>by simp at hl
 | t::ts,[],l,outs,l',hl,hk,h=>by simp at hl
 | t::ts,s::ss,l,outs,l',hl,hk,h=>by
   simp only [kQ,Option.bind_eq_bind,Option.bind_eq_some_iff,Prod.exists] at h
   obtain ⟨x,l1,h1,xs,l2,h2,h3⟩:=h
   simp at h3;obtain ⟨rfl,rfl⟩:=h3
   have k0:=hk 0 t s rfl rfl
   have h1':ev d l s (env++opens H.length t.args) (H++t.args).length []=some (x,l1):=by rw [List.length_append];exact h1
   refine ⟨H++t.args,jN H ts,rfl,ih _ _ _ _ _ _ _ k0 h1',eI ih ts ss l1 xs l2 (by simpa using hl) (fun k a s' ha hs=>hk (k+1) a s' (by simpa using ha) (by simpa using hs)) h2⟩
theorem ev_fit (d:Nat):∀ (H:List Ty) (l:Nat) (b:Bd) (env:List Mn) (st:List Gf) (out:Bd) (l':Nat),jz H b env st->ev d l b env H.length st=some (out,l')->jH H out:=by
 induction d with
 | zero=>intro H l b env st out l' _ h;simp [ev] at h
 | succ d ih =>
   intro H l b env st out l' hf h
   rw [ev.eq_def] at h
   cases l with
   | zero=>simp at h
   | succ l =>
     simp only at h
     cases b with
     | leaf c =>
       simp only at h
       split at h
       ·simp at h;obtain ⟨rfl,_⟩:=h;simp [jH]
       ·cases st with
        | nil=>simp at h;obtain ⟨rfl,_⟩:=h;simp [jH]
        | cons f st'=>exact ih _ _ _ _ _ _ _ (hf.back c) h
     | ask v ss y no =>
       simp only at h
       cases hv:env[v]? with
       | none=>rw [hv] at h;simp at h
       | some m =>
         rw [hv] at h
         cases m with
         | bd t b' e=>exact ih _ _ _ _ _ _ _ (hf.call hv).2 h
         | op o t =>
           simp only [Option.bind_eq_bind,Option.bind_eq_some_iff,Prod.exists] at h
           obtain ⟨xs,l1,h1,x,l2,h2,z,l3,h3,h4⟩:=h
           simp at h4;obtain ⟨rfl,_⟩:=h4
           obtain ⟨k1,k2,k3,k4,k5⟩:=hf.keep hv
           rw [jH]
           exact ⟨t,k2,eI ih _ _ _ _ _ k1 k3 h1,ih _ _ _ _ _ _ _ k4 h2,ih _ _ _ _ _ _ _ k5 h3⟩
mutual
def wfB:Bd->Prop
 | .leaf c=>c=116\/c=102\/c=117
 | .ask _ ss y n=>uL ss/\wfB y/\wfB n
def uL:List Bd->Prop
 | []=>True
 | b::bs=>wfB b/\uL bs
end
theorem dJ:∀ (xs ys:List Bd),uL xs->uL ys->uL (xs++ys)
 | [],ys,_,h=>h
 | x::xs,ys,h,k=>by rw [uL] at h;exact ⟨h.1,dJ xs ys h.2 k⟩
theorem wfBs_at:∀ (xs:List Bd),uL xs->∀ (k:Nat) (b:Bd),xs[k]? = some b->wfB b
 | [],_,k,b,h=>by simp at h
 | x::xs,hw,k,b,h=>by
   rw [uL] at hw
   cases k with
   | zero=>simp at h;subst h;exact hw.1
   | succ k=>exact wfBs_at xs hw.2 k b (by simpa using h)
theorem dec_ne (n:Nat):dec n≠[]:=by
 by_cases h:n<10
 ·rw [vN h];simp
 ·rw [uR h];simp
theorem dig_digit {r:Nat} (h:r<10):dig (yF r)=true:=by
 rcases (by omega:r=0\/r=1\/r=2\/r=3\/r=4\/r=5\/r=6\/r=7\/r=8\/r=9) with rfl | rfl | rfl | rfl | rfl | rfl | rfl | rfl | rfl | rfl <;> rfl
theorem cw {r:Nat} (h:r<10):(yF r).toNat-48=r:=by
 rcases (by omega:r=0\/r=1\/r=2\/r=3\/r=4\/r=5\/r=6\/r=7\/r=8\/r=9) with rfl | rfl | rfl | rfl | rfl | rfl | rfl | rfl | rfl | rfl <;> rfl
theorem dec_all (n:Nat):∀ c∈dec n,dig c=true:=by
 induction n using Nat.strongRecOn with
 | _ n ih =>
   by_cases h:n<10
   ·rw [vN h];intro c hc;simp at hc;subst hc;exact dig_digit h
   ·rw [uR h]
    intro c hc
    rcases List.mem_append.1 hc with hc | hc
    ·exact ih (n / 10) (Nat.div_lt_self (by omega) (by omega)) c hc
    ·simp at hc;subst hc;exact dig_digit (Nat.mod_lt _ (by omega))
theorem dec_val (n:Nat):uw (dec n)=n:=by
 induction n using Nat.strongRecOn with
 | _ n ih =>
   by_cases h:n<10
   ·rw [vN h];unfold uw;simp only [List.foldl_cons,List.foldl_nil];rw [cw h];omega
   ·rw [uR h,dc,ih (n / 10) (Nat.div_lt_self (by omega) (by omega)),cw (Nat.mod_lt _ (by omega))];omega
theorem dec_head (n:Nat):1<(dec n).length->(dec n).head?≠some 48:=by
 induction n using Nat.strongRecOn with
 | _ n ih =>
   by_cases h:n<10
   ·rw [vN h];simp
   ·rw [uR h]
    intro _
    have hne:=dec_ne (n / 10)
    obtain ⟨c,cs,hc⟩:∃ c cs,dec (n / 10)=c::cs:=by
     cases hd:dec (n / 10) with
     | nil=>exact absurd hd hne
     | cons c cs=>exact ⟨c,cs,rfl⟩
    rw [hc]
    simp only [List.cons_append,List.head?_cons,ne_eq,Option.some.injEq]
    by_cases h1:1<(dec (n / 10)).length
    ·have:=ih (n / 10) (Nat.div_lt_self (by omega) (by omega)) h1
     rw [hc] at this;simpa using this
    ·have GG:n / 10<10:=by
      rcases Nat.lt_or_ge (n / 10) 10 with h' | h'
      ·exact h'
      ·exfalso;apply h1
       rw [uR (by omega)]
       have:=List.length_pos_iff.2 (dec_ne (n / 10 / 10))
       simp;omega
     rw [vN GG] at hc
     simp at hc
     obtain ⟨rfl,_⟩:=hc
     intro e
     have hv:=cw GG
     rw [e] at hv
     have:(48:UInt8).toNat-48=0:=rfl
     omega
theorem digsOf_dec {v:Nat} (h:v<10000) (r:Bs):jD (dec v++32::r)=dec v:=by
 have h4:(dec v).length<=4:=u5 3 v (by omega)
 unfold jD
 have key:∀ (ds:Bs) (m:Nat),ds.length<=m->(∀ c∈ds,dig c=true)->((ds++32::r).take m).takeWhile dig=ds:=by
  intro ds
  induction ds with
  | nil =>
    intro m _ _
    cases m with
    | zero=>simp
    | succ m=>simp [dig]
  | cons d ds ih =>
    intro m hm hd
    cases m with
    | zero=>simp at hm
    | succ m =>
      simp only [List.cons_append,List.take_succ_cons,List.takeWhile_cons]
      rw [if_pos (hd d (by simp)),ih m (by simpa using hm) (fun c hc=>hd c (by simp [hc]))]
 exact key _ 4 h4 (dec_all v)
theorem specNum_dec {v:Nat} (h:v<10000) (r:Bs):vV (dec v++32::r)=some (v,(dec v).length):=by
 unfold vV
 rw [digsOf_dec h,dec_val,if_neg]
 rintro (h1 | ⟨h1,h2⟩)
 ·exact dec_ne v h1
 ·have:=dec_head v h1
  apply this
  cases hd:dec v with
  | nil=>exact absurd hd (dec_ne v)
  | cons c cs=>rw [hd] at h2;simpa using h2
theorem textB_ask (v:Nat) (ss:List Bd) (y n:Bd):kM (.ask v ss y n)=40::(dec v++(kO (ss++[y,n])++[41])):=by
 rw [kM,vB];simp [kO]
theorem askOf_parts (v:Nat) (ss:List Bd) (y n:Bd):pR v ss.length (ss++[y,n])=some (.ask v ss y n):=by
 unfold pR
 rw [List.drop_left,List.take_left]
theorem wg {rd:RdS}:∀ (ps:List Bd) (hs:List (List Ty)) (r:Bs),hs.length=ps.length->(∀ (k:Nat) (h:List Ty) (p:Bd) (r:Bs),hs[k]? = some h->ps[k]? = some p->rd h (kM p++r)=some (p,r))->zx rd hs (kO ps++r)=some (ps,r)
 | [],[],r,_,_=>by simp [zx,kO]
 | [],h::hs,r,hl,_=>by simp at hl
 | p::ps,[],r,hl,_=>by simp at hl
 | p::ps,h::hs,r,hl,hp=>by
   rw [kO,zx]
   have h0:=hp 0 h p (kO ps++r) rfl rfl
   have hc:cut [32] ([32]++kM p++kO ps++r)=some (kM p++(kO ps++r)):=by
    rw [List.append_assoc,List.append_assoc];exact du [32] _
   simp only [qx,hc,Option.bind_eq_bind,Option.bind_some,h0,wg ps hs r (by simpa using hl) (fun k h' p' r' hh hk=>hp (k+1) h' p' r' (by simpa using hh) (by simpa using hk))]
theorem depthBs_mem {ts:List Bd} {t:Bd} (h:t∈ts):1+kP t<=kI ts:=by
 induction ts with
 | nil=>simp at h
 | cons x xs ih =>
   rcases List.mem_cons.1 h with rfl | h
   ·simp only [kI];omega
   ·have:=ih h;simp only [kI];omega
theorem rdN_text (e:Nat):∀ (hand:List Ty) (b:Bd) (r:Bs),jH hand b->wfB b->kP b<e->vP e hand->rdN e hand (kM b++r)=some (b,r):=by
 induction e with
 | zero=>intro hand b r _ _ h;omega
 | succ e ih =>
   intro hand b r hf hw hd hh
   cases b with
   | leaf c =>
     rw [wfB] at hw
     rw [kM]
     simp only [List.cons_append,List.nil_append,rdN]
     rw [if_pos hw]
   | ask v ss y n =>
     obtain ⟨t,ht,hfp,nU⟩:=fit_parts hf
     rw [wfB] at hw
     have hwp:uL (ss++[y,n]):=dJ _ _ hw.1 ⟨hw.2.1,hw.2.2,trivial⟩
     have hv:v<10000:=by
      have h1:=(List.getElem?_eq_some_iff.1 ht).1
      have:=hh.2;omega
     rw [yj] at hd
     have hnum:vV (dec v++(kO (ss++[y,n])++[41])++r)=some (v,(dec v).length):=by
      obtain ⟨q,hq⟩:∃ q,dec v++(kO (ss++[y,n])++[41])++r=dec v++32::q:=by
       cases ss with
       | nil=>exact ⟨kM y++kO [n]++[41]++r,by simp [kO]⟩
       | cons s ss=>exact ⟨kM s++kO (ss++[y,n])++[41]++r,by simp [kO]⟩
      rw [hq];exact specNum_dec hv q
     rw [textB_ask,List.cons_append,rdN.eq_def]
     simp only
     rw [if_neg (by decide),if_neg (by decide),hnum]
     simp only [ht]
     have JV:(dec v++(kO (ss++[y,n])++[41])++r).drop (dec v).length=kO (ss++[y,n])++([41]++r):=by
      rw [List.append_assoc,List.drop_left,List.append_assoc]
     have tg:zx (rdN e) (jU hand t) (kO (ss++[y,n])++([41]++r))=some (ss++[y,n],[41]++r):=by
      refine wg _ _ _ (qI _ _ hfp) fun k h p r' hk hp=>?_
      obtain ⟨h',Ce,hf'⟩:=pG _ _ hfp k p hp
      rw [hk] at Ce;simp at Ce;subst Ce
      have mx:p∈ss++[y,n]:=List.mem_of_getElem? hp
      have hdp:=depthBs_mem mx
      refine ih h p r' hf' (wfBs_at _ hwp k p hp) (by have:kI (ss++[y,n])<e+1:=hd;omega) ?_
      rcases Nat.lt_or_ge k t.args.length with Hf | Hf
      ·obtain ⟨a,ha⟩:∃ a,t.args[k]? = some a:=⟨t.args[k],by simp [Hf]⟩
       rw [cQ ha] at hk;simp at hk;subst hk
       exact hh.next ht (List.mem_of_getElem? ha)
      ·have aB:k<t.args.length+2:=by
        have:=(List.getElem?_eq_some_iff.1 hk).1
        rwa [yA] at this
       rw [cK Hf aB] at hk;simp at hk;subst hk
       have:=hh.same;rwa [List.append_nil] at this
     rw [JV,tg]
     simp only [Option.bind_eq_bind,Option.bind_some,du]
     rw [<- nU,askOf_parts]
     rfl
theorem wh {rd rd':RdS} (h:∀ hand l x,rd hand l=some x->rd' hand l=some x):∀ (hs:List (List Ty)) (l:Bs) (x:List Bd×Bs),zx rd hs l=some x->zx rd' hs l=some x
 | [],l,x,hx=>by simpa [zx] using hx
 | a::hs,l,x,hx=>by
   simp only [zx,qx,Option.bind_eq_bind,Option.bind_eq_some_iff,Prod.exists] at hx ⊢
   obtain ⟨b,l1,⟨l0,h0,h1⟩,bs,l2,h2,h3⟩:=hx
   exact ⟨b,l1,⟨l0,h0,h _ _ _ h1⟩,bs,l2,wh h hs l1 _ h2,h3⟩
theorem rdN_mono (e:Nat):∀ (e':Nat) (hand:List Ty) (l:Bs) (x:Bd×Bs),e<=e'->rdN e hand l=some x->rdN e' hand l=some x:=by
 induction e with
 | zero=>intro e' hand l x _ h;simp [rdN] at h
 | succ e ih =>
   intro e' hand l x he h
   cases e' with
   | zero=>omega
   | succ e' =>
     cases l with
     | nil=>simp [rdN] at h
     | cons c m =>
       simp only [rdN] at h ⊢
       split at h
       ·rename_i hc;rw [if_pos hc];exact h
       ·rename_i hc
        rw [if_neg hc]
        split at h
        ·simp at h
        ·rename_i rG
         rw [if_neg rG]
         cases hn:vV m with
         | none=>rw [hn] at h;simp at h
         | some vk =>
           obtain ⟨v,k⟩:=vk
           rw [hn] at h
           simp only at h ⊢
           cases ht:hand[v]? with
           | none=>rw [ht] at h;simp at h
           | some t =>
             rw [ht] at h
             simp only [Option.bind_eq_bind,Option.bind_eq_some_iff,Prod.exists] at h ⊢
             obtain ⟨ps,l1,h1,h2⟩:=h
             exact ⟨ps,l1,wh (fun a b c d=>ih e' a b c (by omega) d) _ _ _ h1,h2⟩
theorem ws {rd:RdS} {P:Bd->Prop} (h:∀ hand l b r,rd hand l=some (b,r)->P b):∀ (hs:List (List Ty)) (l:Bs) (ps:List Bd) (r:Bs),zx rd hs l=some (ps,r)->∀ p∈ps,P p
 | [],l,ps,r,hx=>by simp [zx] at hx;obtain ⟨rfl,_⟩:=hx;simp
 | a::hs,l,ps,r,hx=>by
   simp only [zx,qx,Option.bind_eq_bind,Option.bind_eq_some_iff,Prod.exists] at hx
   obtain ⟨b,l1,⟨l0,h0,h1⟩,bs,l2,h2,h3⟩:=hx
   simp at h3;obtain ⟨rfl,rfl⟩:=h3
   intro p hp
   rcases List.mem_cons.1 hp with rfl | hp
   ·exact h _ _ _ _ h1
   ·exact ws h hs l1 bs l2 h2 p hp
theorem askOf_some {v n:Nat} {ps:List Bd} {b:Bd} (h:pR v n ps=some b):∃ ss y no,b=.ask v ss y no/\ps=ss++[y,no]:=by
 unfold pR at h
 split at h
 ·rename_i y no hd
  simp at h;subst h
  exact ⟨_,_,_,rfl,by rw [<- hd,List.take_append_drop]⟩
 ·simp at h
theorem wfBs_of:∀ (ps:List Bd),(∀ p∈ps,wfB p)->uL ps
 | [],_=>trivial
 | p::ps,h=>⟨h p (by simp),wfBs_of ps fun q hq=>h q (by simp [hq])⟩
theorem dh:∀ (xs ys:List Bd),uL (xs++ys)->uL xs/\uL ys
 | [],ys,h=>⟨trivial,h⟩
 | x::xs,ys,h=>by
   simp only [List.cons_append] at h;rw [uL] at h
   have:=dh xs ys h.2
   exact ⟨⟨h.1,this.1⟩,this.2⟩
theorem rdN_wf (e:Nat):∀ (hand:List Ty) (l:Bs) (b:Bd) (r:Bs),rdN e hand l=some (b,r)->wfB b/\kP b<e:=by
 induction e with
 | zero=>intro hand l b r h;simp [rdN] at h
 | succ e ih =>
   intro hand l b r h
   cases l with
   | nil=>simp [rdN] at h
   | cons c m =>
     simp only [rdN] at h
     split at h
     ·rename_i hc;simp at h;obtain ⟨rfl,_⟩:=h;exact ⟨hc,by simp [kP]⟩
     ·split at h
      ·simp at h
      ·split at h
       ·simp at h
       ·split at h
        ·simp at h
        ·simp only [Option.bind_eq_bind,Option.bind_eq_some_iff,Prod.exists] at h
         obtain ⟨ps,l1,h1,l2,h2,b',h3,h4⟩:=h
         simp at h4;obtain ⟨rfl,_⟩:=h4
         obtain ⟨ss,y,no,rfl,rfl⟩:=askOf_some h3
         have k1:=ws (P:=fun b=>wfB b/\kP b<e) (fun hand l b r h=>ih hand l b r h) _ _ _ _ h1
         have k2:=dh _ _ (wfBs_of _ fun p hp=>(k1 p hp).1)
         refine ⟨⟨k2.1,k2.2.1,k2.2.2.1⟩,?_⟩
         rw [yj]
         have key:∀ (qs:List Bd),(∀ q∈qs,kP q<e)->kI qs<=e:=by
          intro qs
          induction qs with
          | nil=>intro _;simp [kI]
          | cons q qs ihq =>
            intro hq
            have h1:=hq q (by simp)
            have h2:=ihq fun x hx=>hq x (by simp [hx])
            simp only [kI];omega
         exact Nat.lt_succ_of_le (key _ fun q hq=>(k1 q hq).2)
mutual
theorem xH:∀ (b:Bd) (hand:List Ty) (e:Nat),jH hand b->kP b<e->vP e hand->2*(kM b).length+7<=9*zW b
 | .leaf c,hand,e,_,_,_=>by simp [kM,zW]
 | .ask v ss y n,hand,0,_,h,_=>by omega
 | .ask v ss y n,hand,e+1,hf,hd,hh=>by
   have hf':=hf
   rw [jH] at hf
   obtain ⟨t,ht,h1,h2,h3⟩:=hf
   have hv:v<10000:=by
    have h1:=(List.getElem?_eq_some_iff.1 ht).1
    have:=hh.2;omega
   have h4:(dec v).length<=4:=u5 3 v (by omega)
   have hs:vP e hand:=by have:=hh.same;rwa [List.append_nil] at this
   simp only [kP] at hd
   have k1:=hH ss t.args hand e h1 (by omega) (fun a ha=>hh.next ht ha)
   have k2:=xH y hand e h2 (by omega) hs
   have k3:=xH n hand e h3 (by omega) hs
   rw [textB_ask,vB]
   simp only [kO,zW,List.length_append,List.length_cons,List.length_nil]
   omega
theorem hH:∀ (bs:List Bd) (ts:List Ty) (hand:List Ty) (e:Nat),qe (jN hand ts) bs->kI bs<=e->(∀ a∈ts,vP e (hand++a.args))->2*(kO bs).length<=9*zR bs
 | [],ts,hand,e,_,_,_=>by simp [kO]
 | b::bs,ts,hand,e,hf,hd,hh=>by
   rw [qe] at hf
   obtain ⟨h',aK,e',h1,h2⟩:=hf
   cases ts with
   | nil=>simp [jN] at e'
   | cons t ts =>
     simp only [jN,List.map_cons,List.cons.injEq] at e'
     obtain ⟨rfl,rfl⟩:=e'
     simp only [kI] at hd
     have k1:=xH b (hand++t.args) e h1 (by omega) (hh t (by simp))
     have k2:=hH bs ts hand e h2 (by omega) (fun a ha=>hh a (by simp [ha]))
     simp only [kO,zR,List.length_append,List.length_cons,List.length_nil]
     omega
end
theorem vP.less {d e:Nat} {levels:List Ty} (h:vP e levels) (hd:d<=e):vP d levels:=⟨h.1,by have:=h.2;omega⟩
theorem di {t:Ty} (ht:zV t<=15) {b:Bd} (hf:jH t.args b) (hw:wfB b) (hs:zW b<=200):qw (zN t) (kM b)=if kP b<=100 then some b else none:=by
 have hd:=p8 _ b (fP _)
 have hh:vP 201 t.args:=by
  have h1:=handOk_of ht
  have h2:=qg t
  have h3:=qV t.args
  exact ⟨h1.1,by omega⟩
 have hl:=xH b t.args 201 hf (by omega) hh
 unfold qw
 rw [v8 ht]
 simp only
 rw [if_neg (by simp;omega)]
 by_cases ie:kP b<=100
 ·have:=rdN_text 101 t.args b [] hf hw (by omega) (hh.less (by omega))
  rw [List.append_nil] at this
  rw [this,if_pos ie]
  simp [hs]
 ·rw [if_neg ie]
  cases hq:rdN 101 t.args (kM b) with
  | none=>rfl
  | some x =>
    obtain ⟨b',r⟩:=x
    have h1:=rdN_mono 101 201 _ _ _ (by omega) hq
    have h2:=rdN_text 201 t.args b [] hf hw (by omega) hh
    rw [List.append_nil] at h2
    rw [h2] at h1
    simp at h1
    obtain ⟨rfl,rfl⟩:=h1
    have:=(rdN_wf _ _ _ _ _ hq).2
    omega
theorem vW {p l r:Bs} (h:cut p l=some r):l=p++r:=by
 unfold cut at h
 split at h
 ·rename_i hp
  simp at h
  obtain ⟨q,hq⟩:=List.isPrefixOf_iff_prefix.1 hp
  subst hq
  simp at h;rw [h]
 ·simp at h
structure Good (t:Ty) (b:Bd):Prop where
 atoms:zV t<=15
 fit:jH t.args b
 wf:wfB b
 size:zW b<=200
 depth:kP b<=100
theorem xB {t:Ty} {b:Bd} (h:Good t b):qw (zN t) (kM b)=some b:=by
 rw [di h.atoms h.fit h.wf h.size,if_pos h.depth]
theorem rdK_canon (d:Nat):∀ (l:Bs) (t:Ty) (r:Bs),rdK d l=some (t,r)->l=zN t++r:=by
 induction d with
 | zero =>
   intro l t r h
   rcases qP [98] l with hc | ⟨r',hc⟩
   ·rw [xr hc] at h;simp at h
   ·rw [wo hc] at h;simp at h;obtain ⟨rfl,rfl⟩:=h;rw [uB];exact vW hc.out
 | succ d ih =>
   intro l t r h
   rcases qP [98] l with hc | ⟨r',hc⟩
   ·rw [vG hc] at h
    simp only [Option.bind_eq_bind,Option.bind_eq_some_iff,Prod.exists] at h
    obtain ⟨r1,h1,a,r2,h2,r3,h3,b,r4,h4,r5,h5,h6⟩:=h
    simp at h6;obtain ⟨rfl,rfl⟩:=h6
    cases b with
    | mk bs =>
    rw [zd,uX,vW h1,ih _ _ _ h2,vW h3,ih _ _ _ h4,vW h5]
    simp [Ty.args]
   ·rw [wo hc] at h;simp at h;obtain ⟨rfl,rfl⟩:=h;rw [uB];exact vW hc.out
theorem wv {l:Bs} (h:(zI l).2=true):l=zN (zI l).1/\zV (zI l).1<=15:=by
 refine ⟨?_,vz h⟩
 unfold zI at h ⊢
 split at h
 ·simp at h
 ·rename_i hl
  rw [if_neg hl]
  cases hq:rdS 21 l with
  | none=>rw [hq] at h;simp at h
  | some x =>
    obtain ⟨t,rest⟩:=x
    rw [hq] at h
    simp at h
    obtain ⟨h1,h2⟩:=h
    have hq':rdK 20 l=some (t,rest):=hq
    have hr:=rdK_canon _ _ _ _ hq'
    simp only
    have h3:rest=[]:=by simpa using h1
    rw [h3,List.append_nil] at hr;exact hr
mutual
def wfM:Mn->Prop
 | .op _ _=>True
 | .bd _ b e=>wfB b/\xj e
def xj:List Mn->Prop
 | []=>True
 | m::ms=>wfM m/\xj ms
end
theorem jF:∀ (xs ys:List Mn),xj xs->xj ys->xj (xs++ys)
 | [],ys,_,h=>h
 | x::xs,ys,h,k=>by rw [xj] at h;exact ⟨h.1,jF xs ys h.2 k⟩
theorem wfMs_at:∀ (xs:List Mn),xj xs->∀ (k:Nat) (m:Mn),xs[k]? = some m->wfM m
 | [],_,k,b,h=>by simp at h
 | x::xs,hw,k,b,h=>by
   rw [xj] at hw
   cases k with
   | zero=>simp at h;subst h;exact hw.1
   | succ k=>exact wfMs_at xs hw.2 k b (by simpa using h)
theorem jW:∀ (ts:List Ty) (n:Nat),xj (opens n ts)
 | [],n=>trivial
 | t::ts,n=>⟨trivial,jW ts (n+1)⟩
theorem xq {env:List Mn} (he:xj env):∀ (ts:List Ty) (ss:List Bd),uL ss->xj (owns env ts ss)
 | [],ss,_=>by rw [owns];· trivial
               ·intros;contradiction
 | t::ts,[],_=>by rw [owns];· trivial
                  ·intros;contradiction
 | t::ts,s::ss,h=>by
   rw [uL] at h
   rw [owns]
   exact ⟨⟨h.1,he⟩,xq he ts ss h.2⟩
def wfG (f:Gf):Prop:=wfB f.yes/\wfB f.no/\xj f.env
theorem evSubs_wf {d n:Nat} {env:List Mn} (he:xj env) (ih:∀ (l:Nat) (b:Bd) (env:List Mn) (n:Nat) (st:List Gf) (out:Bd) (l':Nat),wfB b->xj env->(∀ f∈st,wfG f)->ev d l b env n st=some (out,l')->wfB out) :
 ∀ (ts:List Ty) (ss:List Bd) (l:Nat) (outs:List Bd) (l':Nat),uL ss->kQ (ev d) env n l ts ss=some (outs,l')->uL outs
 | [],ss,l,outs,l',_,h=>by simp [kQ] at h;obtain ⟨rfl,_⟩:=h;trivial
 | t::ts,[],l,outs,l',_,h=>by simp [kQ] at h;obtain ⟨rfl,_⟩:=h;trivial
 | t::ts,s::ss,l,outs,l',hs,h=>by
   rw [uL] at hs
   simp only [kQ,Option.bind_eq_bind,Option.bind_eq_some_iff,Prod.exists] at h
   obtain ⟨x,l1,h1,xs,l2,h2,h3⟩:=h
   simp at h3;obtain ⟨rfl,rfl⟩:=h3
   exact ⟨ih _ _ _ _ _ _ _ hs.1 (jF _ _ he (jW _ _)) (by simp) h1,evSubs_wf he ih ts ss l1 xs l2 hs.2 h2⟩
theorem ev_wf (d:Nat):∀ (l:Nat) (b:Bd) (env:List Mn) (n:Nat) (st:List Gf) (out:Bd) (l':Nat),wfB b->xj env->(∀ f∈st,wfG f)->ev d l b env n st=some (out,l')->wfB out:=by
 induction d with
 | zero=>intro l b env n st out l' _ _ _ h;simp [ev] at h
 | succ d ih =>
   intro l b env n st out l' hb he hs h
   rw [ev.eq_def] at h
   cases l with
   | zero=>simp at h
   | succ l =>
     simp only at h
     cases b with
     | leaf c =>
       simp only at h
       split at h
       ·simp at h;obtain ⟨rfl,_⟩:=h;exact hb
       ·cases st with
        | nil=>simp at h;obtain ⟨rfl,_⟩:=h;exact hb
        | cons f st' =>
          obtain ⟨k1,k2,k3⟩:=hs f (by simp)
          refine ih _ _ _ _ _ _ _ ?_ k3 (fun g hg=>hs g (by simp [hg])) h
          split
          ·exact k1
          ·exact k2
     | ask v ss y no =>
       rw [wfB] at hb
       simp only at h
       cases hv:env[v]? with
       | none=>rw [hv] at h;simp at h
       | some m =>
         rw [hv] at h
         have hm:=wfMs_at _ he _ _ hv
         cases m with
         | bd t b' e =>
           rw [wfM] at hm
           refine ih _ _ _ _ _ _ _ hm.1 (jF _ _ hm.2 (xq he _ _ hb.1)) (fun f hf=>?_) h
           rcases List.mem_cons.1 hf with rfl | hf
           ·exact ⟨hb.2.1,hb.2.2,he⟩
           ·exact hs f hf
         | op o t =>
           simp only [Option.bind_eq_bind,Option.bind_eq_some_iff,Prod.exists] at h
           obtain ⟨xs,l1,h1,x,l2,h2,z,l3,h3,h4⟩:=h
           simp at h4;obtain ⟨rfl,_⟩:=h4
           exact ⟨evSubs_wf he ih _ _ _ _ _ hb.1 h1,ih _ _ _ _ _ _ _ hb.2.1 he hs h2,ih _ _ _ _ _ _ _ hb.2.2 he hs h3⟩
def jB (b:Bd) (env:List Mn) (n:Nat):Option Bd:=match ev 20000 20000 b env n [] with
 | some (out,_)=>if zW out<=200/\kP out<=100 then some out else none
 | none=>none
def ud (b:Bd) (env:List Mn) (n:Nat):Option Bd:=(evN 20000 200 20000 b env n []).map (·.1)
theorem writes_eq (b:Bd) (env:List Mn) (n:Nat):ud b env n=match ev 20000 20000 b env n [] with
 | some (out,_)=>if zW out<=200 then some out else none
 | none=>none:=by
 unfold ud
 rw [evN_eq]
 cases ev 20000 20000 b env n [] with
 | none=>rfl
 | some x =>
   obtain ⟨out,l⟩:=x
   simp only [wD]
   split <;> rfl
theorem gD {a:Ty} {rest:List Ty} {t:Ty} (h:t.args=a::rest):zV t=1+zV a+zV (.mk rest):=by
 cases t with
 | mk ts=>simp only [Ty.args] at h;subst h;exact jh a rest
inductive Tr where
 | am (a:Bs)
 | ls (ps:List Tr)
mutual
def zL:Tr->Bs
 | .am a=>a
 | .ls ps=>40::jk ps
def jk:List Tr->Bs
 | []=>[41]
 | p::ps=>zL p++ki ps
def ki:List Tr->Bs
 | []=>[41]
 | p::ps=>32::(zL p++ki ps)
end
mutual
def jZ:Tr->Prop
 | .am a=>a≠[]/\∀ c∈a,sep c=false
 | .ls ps=>ps≠[]/\qF ps
def qF:List Tr->Prop
 | []=>True
 | p::ps=>jZ p/\qF ps
end
mutual
def jV:Tr->Nat
 | .am _=>0
 | .ls ps=>1+qM ps
def qM:List Tr->Nat
 | []=>0
 | p::ps=>max (jV p) (qM ps)
end
mutual
def qY:Tr->Nat
 | .am _=>1
 | .ls ps=>kC ps
def kC:List Tr->Nat
 | []=>0
 | p::ps=>qY p+kC ps
end
def yP (rd:Bs->Option (Tr×Bs)):Nat->Bs->Option (List Tr×Bs)
 | 0,_=>none
 | n+1,l=>(rd l).bind fun x=>match x.2 with
   | []=>none
   | c::r=>if c=41 then some ([x.1],r) else if c=32 then (yP rd n r).map fun y=>(x.1::y.1,y.2) else none
def je:Nat->Bs->Option (Tr×Bs)
 | 0,_=>none
 | d+1,l=>match l with
   | []=>none
   | c::r=>if c=40 then (yP (je d) (r.length+1) r).map fun y=>(.ls y.1,y.2) else if zu l=[] then none else some (.am (zu l),zT l)
theorem pu (d:Nat) (r:Bs):je (d+1) (40::r)=(yP (je d) (r.length+1) r).map fun y=>(.ls y.1,y.2):=by rw [je];simp
theorem px (d:Nat) (c:UInt8) (r:Bs) (h:c≠40):je (d+1) (c::r)=if zu (c::r)=[] then none else some (.am (zu (c::r)),zT (c::r)):=by rw [je];simp [h]
theorem wordOf_pos {l:Bs} (h:zu l≠[]):(zT l).length<l.length:=by
 have:=congrArg List.length (yJ l)
 rw [List.length_append] at this
 have:0<(zu l).length:=by cases hw:zu l with
  | nil=>exact absurd hw h
  | cons c r=>simp
 omega
def Shrinks (rd:Bs->Option (Tr×Bs)):Prop:=∀ l t r,rd l=some (t,r)->r.length<l.length
theorem gY {rd:Bs->Option (Tr×Bs)} (h:Shrinks rd):∀ (n:Nat) (l:Bs) (ps:List Tr) (r:Bs),yP rd n l=some (ps,r)->r.length<l.length
 | 0,l,ps,r,k=>by simp [yP] at k
 | n+1,l,ps,r,k=>by
   rw [yP,Option.bind_eq_some_iff] at k
   obtain ⟨⟨t,r1⟩,k1,k2⟩:=k
   have h1:=h _ _ _ k1
   cases r1 with
   | nil=>simp at k2
   | cons c r1 =>
     simp only [List.length_cons] at h1
     simp only at k2
     split at k2
     ·simp at k2;obtain ⟨_,rfl⟩:=k2;omega
     ·split at k2
      ·rw [Option.map_eq_some_iff] at k2
       obtain ⟨⟨qs,r2⟩,k3,k4⟩:=k2
       simp at k4;obtain ⟨_,rfl⟩:=k4
       have:=gY h n _ _ _ k3
       omega
      ·simp at k2
theorem uz:∀ d,Shrinks (je d)
 | 0=>fun l t r h=>by simp [je] at h
 | d+1=>fun l t r h=>by
   cases l with
   | nil=>simp [je] at h
   | cons c l =>
     by_cases hc:c=40
     ·subst hc
      rw [pu,Option.map_eq_some_iff] at h
      obtain ⟨⟨ps,r1⟩,h1,h2⟩:=h
      simp at h2;obtain ⟨_,rfl⟩:=h2
      have:=gY (uz d) _ _ _ _ h1
      simp;omega
     ·rw [px d c l hc] at h
      split at h
      ·simp at h
      ·rename_i hw
       simp at h;obtain ⟨_,rfl⟩:=h
       exact wordOf_pos hw
theorem eQ {rd:Bs->Option (Tr×Bs)} (h:Shrinks rd):∀ (n m:Nat) (l:Bs),l.length<n->l.length<m->yP rd n l=yP rd m l
 | 0,_,_,k,_=>by omega
 | _+1,0,_,_,k=>by omega
 | n+1,m+1,l,k,k'=>by
   rw [yP,yP]
   cases hq:rd l with
   | none=>rfl
   | some x =>
     obtain ⟨t,r1⟩:=x
     have h1:=h _ _ _ hq
     simp only [Option.bind_some]
     cases r1 with
     | nil=>rfl
     | cons c r1 =>
       simp only [List.length_cons] at h1
       simp only
       rw [eQ h n m r1 (by omega) (by omega)]
theorem tail_start (ps:List Tr) (r:Bs):uO (ki ps++r):=by
 cases ps with
 | nil=>rw [ki];exact .inr ⟨41,r,rfl,by decide⟩
 | cons p ps=>rw [ki];exact .inr ⟨32,_,rfl,by decide⟩
mutual
theorem pj:∀ (t:Tr) (d:Nat) (r:Bs),jZ t->jV t<d->uO r->je d (zL t++r)=some (t,r)
 | .am a,d,r,ho,hd,hr=>by
   rw [jZ] at ho
   obtain ⟨d,rfl⟩:∃ k,d=k+1:=⟨d-1,by omega⟩
   obtain ⟨h1,h2⟩:=word_of ho.2 hr
   rw [zL]
   cases a with
   | nil=>exact absurd rfl ho.1
   | cons c a =>
     have hc:c≠40:=by rintro rfl;have:=ho.2 40 (by simp);simp [sep] at this
     rw [List.cons_append] at *
     rw [px d c _ hc,h1,h2,if_neg (by simp)]
 | .ls ps,d,r,ho,hd,hr=>by
   rw [jZ] at ho
   rw [jV] at hd
   obtain ⟨d,rfl⟩:∃ k,d=k+1:=⟨d-1,by omega⟩
   rw [zL,List.cons_append,pu]
   have:=eK ps d r _ ho.2 ho.1 (by omega) (Nat.lt_succ_self _)
   rw [this];rfl
theorem eK:∀ (ps:List Tr) (d:Nat) (r:Bs) (n:Nat),qF ps->ps≠[]->qM ps<d->(jk ps++r).length<n->yP (je d) n (jk ps++r)=some (ps,r)
 | [],d,r,n,_,hne,_,_=>absurd rfl hne
 | p::ps,d,r,n,ho,_,hd,hn=>by
   rw [qF] at ho
   rw [qM] at hd
   obtain ⟨n,rfl⟩:∃ k,n=k+1:=⟨n-1,by omega⟩
   have h1:=pj p d (ki ps++r) ho.1 (by omega) (tail_start ps r)
   rw [jk,List.append_assoc] at *
   rw [yP,h1,Option.bind_some]
   have hl:=uz d _ _ _ h1
   cases ps with
   | nil=>rw [ki];simp
   | cons q qs =>
     rw [ki] at *
     simp only [List.cons_append]
     rw [if_neg (by decide),if_pos trivial]
     have e:jk (q::qs)=zL q++ki qs:=by rw [jk]
     have:=eK (q::qs) d r n ho.2 (by simp) (by omega) (by
      rw [e]
      simp only [List.cons_append,List.length_cons,List.length_append] at hn hl ⊢
      omega)
     rw [e] at this
     rw [this];rfl
end
theorem dU {d:Nat} (ih:∀ (l:Bs) (t:Tr) (r:Bs),je d l=some (t,r)->l=zL t++r/\jZ t/\jV t<d/\(∀ a,t=.am a->uO r)) :
 ∀ (n:Nat) (l:Bs) (ps:List Tr) (r:Bs),yP (je d) n l=some (ps,r)->l=jk ps++r/\qF ps/\ps≠[]/\qM ps<d
 | 0,l,ps,r,k=>by simp [yP] at k
 | n+1,l,ps,r,k=>by
   rw [yP,Option.bind_eq_some_iff] at k
   obtain ⟨⟨t,r1⟩,k1,k2⟩:=k
   obtain ⟨e1,o1,d1,_⟩:=ih _ _ _ k1
   cases r1 with
   | nil=>simp at k2
   | cons c r1 =>
     simp only at k2
     split at k2
     ·rename_i hc
      simp at k2;obtain ⟨rfl,rfl⟩:=k2
      subst hc
      refine ⟨?_,?_,by simp,?_⟩
      ·rw [jk,ki,e1];simp
      ·rw [qF,qF];exact ⟨o1,trivial⟩
      ·rw [qM,qM];omega
     ·split at k2
      ·rename_i hc
       rw [Option.map_eq_some_iff] at k2
       obtain ⟨⟨qs,r2⟩,k3,k4⟩:=k2
       simp at k4;obtain ⟨rfl,rfl⟩:=k4
       obtain ⟨e2,o2,n2,d2⟩:=dU ih n _ _ _ k3
       subst hc
       refine ⟨?_,?_,by simp,?_⟩
       ·cases qs with
        | nil=>exact absurd rfl n2
        | cons q qs=>rw [jk] at e2;rw [jk,ki,e1,e2];simp
       ·rw [qF];exact ⟨o1,o2⟩
       ·rw [qM];omega
      ·simp at k2
theorem y9:∀ (d:Nat) (l:Bs) (t:Tr) (r:Bs),je d l=some (t,r)->l=zL t++r/\jZ t/\jV t<d/\(∀ a,t=.am a->uO r)
 | 0,l,t,r,h=>by simp [je] at h
 | d+1,l,t,r,h=>by
   cases l with
   | nil=>simp [je] at h
   | cons c l =>
     by_cases hc:c=40
     ·subst hc
      rw [pu,Option.map_eq_some_iff] at h
      obtain ⟨⟨ps,r1⟩,h1,h2⟩:=h
      simp at h2;obtain ⟨rfl,rfl⟩:=h2
      obtain ⟨e1,o1,n1,d1⟩:=dU (y9 d) _ _ _ _ h1
      refine ⟨by rw [zL,e1];rfl,by rw [jZ];exact ⟨n1,o1⟩,by rw [jV];omega,fun a e=>by simp at e⟩
     ·rw [px d c l hc] at h
      split at h
      ·simp at h
      ·rename_i hw
       simp at h;obtain ⟨rfl,rfl⟩:=h
       refine ⟨by rw [zL];exact yJ _,?_,by rw [jV];omega,fun a _=>dg _⟩
       rw [jZ]
       refine ⟨hw,fun x hx=>?_⟩
       have key:∀ (m:Bs),∀ y∈m.takeWhile (fun c=>!sep c),sep y=false:=by
        intro m
        induction m with
        | nil=>intro y hy;simp at hy
        | cons z m ih =>
          intro y hy
          rw [List.takeWhile_cons] at hy
          split at hy
          ·rename_i hz
           rcases List.mem_cons.1 hy with rfl | hy
           ·simpa using hz
           ·exact ih y hy
          ·simp at hy
       exact key _ x hx
def qG (s:Bs):Bool:=match s with
 | []=>false
 | c::r=>decide (r.length<=2) && (120<=c && c<=122) && r.all dig
def jq:Bs:=[108,97,109]
def vT:Bs:=[97,112,112]
def ifW:Bs:=[105,102]
def qj (a:Bs):Bool:=a == [116] || a == [102] || a == [117]
def qO:List Tr->Bs
 | .am a::_=>a
 | _=>[]
def qJ:Tr->Bs
 | .am a=>a
 | .ls _=>[]
def qR:Tr->Bool
 | .am a=>qj a || qG a
 | .ls [h,a,b]=>qO [h] == vT && qR a && qR b
 | .ls [h,a,b,c]=>(qO [h] == jq && (qG (qJ a) && (zI (zL b)).2 && qR c)) || (qO [h] == ifW && (qR a && qR b && qR c))
 | .ls _=>false
def qS (l:Bs):Option Tr:=if 1000<l.length then none else match je 101 l with
 | some (t,[])=>if qR t && decide (qY t<=60) then some t else none
 | _=>none
inductive Tm where
 | nm (x:Bs)
 | wd (w:Bs)
 | lam (x:Bs) (k:Ty) (t:Tm)
 | app (m n:Tm)
 | ite (l m n:Tm)
def zM:Tm->Nat
 | .nm _=>1
 | .wd _=>1
 | .lam _ k t=>2+zV k+zM t
 | .app m n=>1+zM m+zM n
 | .ite l m n=>1+zM l+zM m+zM n
def trT:Ty->Tr
 | .mk ts=>trTs ts
where trTs:List Ty->Tr
 | []=>.am [98]
 | t::ts=>.ls [.am [62],trT t,trTs ts]
def z_:Tm->Tr
 | .nm x=>.am x
 | .wd w=>.am w
 | .lam x k t=>.ls [.am jq,.am x,trT k,z_ t]
 | .app m n=>.ls [.am vT,z_ m,z_ n]
 | .ite l m n=>.ls [.am ifW,z_ l,z_ m,z_ n]
def uZ:Tm->Prop
 | .nm x=>qG x=true
 | .wd w=>qj w=true
 | .lam x _ t=>qG x=true/\uZ t
 | .app m n=>uZ m/\uZ n
 | .ite l m n=>uZ l/\uZ m/\uZ n
def kV:Tm->Bool
 | .nm _=>true
 | .wd _=>true
 | .lam _ k t=>decide (zV k<=15) && kV t
 | .app m n=>kV m && kV n
 | .ite l m n=>kV l && kV m && kV n
def jE:Tm->Nat
 | .nm _=>0
 | .wd _=>0
 | .lam _ _ t=>1+jE t
 | .app m n=>1+max (jE m) (jE n)
 | .ite l m n=>1+max (jE l) (max (jE m) (jE n))
def qh:Nat->Bs->Option (Tm×Bs)
 | d,l=>match cut [40] l with
   | none=>if qG (zu l) then some (.nm (zu l),zT l) else if qj (zu l) then some (.wd (zu l),zT l) else none
   | some l1=>match d with
     | 0=>none
     | d+1 =>
       if zu l1=jq then (cut [32] (zT l1)).bind fun l3=>if qG (zu l3) then (cut [32] (zT l3)).bind fun l4=>(rdK 60 l4).bind fun k=>(cut [32] k.2).bind fun l6=>(qh d l6).bind fun t=>(cut [41] t.2).map fun l8=>(.lam (zu l3) k.1 t.1,l8) else none
       else if zu l1=vT then (cut [32] (zT l1)).bind fun l3=>(qh d l3).bind fun m=>(cut [32] m.2).bind fun l4=>(qh d l4).bind fun n=>(cut [41] n.2).map fun l5=>(.app m.1 n.1,l5)
       else if zu l1=ifW then (cut [32] (zT l1)).bind fun l3=>(qh d l3).bind fun x=>(cut [32] x.2).bind fun l4=>(qh d l4).bind fun m=>(cut [32] m.2).bind fun l5=>(qh d l5).bind fun n=>(cut [41] n.2).map fun l6=>(.ite x.1 m.1 n.1,l6)
       else none
def qD (l:Bs):Option Tm:=match qh 60 l with
 | some (t,[])=>if zM t<=60 then some t else none
 | _=>none
theorem yB {x:Bs} (h:qG x=true):x≠[]/\∀ c∈x,sep c=false:=by
 cases x with
 | nil=>simp [qG] at h
 | cons c r =>
   simp only [qG,Bool.and_eq_true,decide_eq_true_eq,List.all_eq_true] at h
   obtain ⟨⟨_,h1,h2⟩,h3⟩:=h
   refine ⟨by simp,fun y hy=>?_⟩
   rcases List.mem_cons.1 hy with rfl | hy
   ·rw [Bool.eq_false_iff];intro hs
    simp only [sep,Bool.or_eq_true,beq_iff_eq] at hs
    rcases hs with (rfl | rfl) | rfl <;> revert h1 <;> decide
   ·exact dig_sep (h3 y hy)
theorem x5 {x:Bs} (h:qj x=true):x≠[]/\∀ c∈x,sep c=false:=by
 simp only [qj,Bool.or_eq_true,beq_iff_eq] at h
 rcases h with (rfl | rfl) | rfl <;> exact ⟨by simp,by intro c hc;simp at hc;subst hc;decide⟩
theorem yw {x:Bs} (h:qj x=true):qG x=false:=by
 simp only [qj,Bool.or_eq_true,beq_iff_eq] at h
 rcases h with (rfl | rfl) | rfl <;> decide
mutual
theorem ju:∀ k:Ty,zL (trT k)=zN k
 | .mk ts=>by rw [trT,textTr_Ts ts]
theorem textTr_Ts:∀ ts:List Ty,zL (trT.trTs ts)=zN (.mk ts)
 | []=>by rw [trT.trTs,zL,uB]
 | t::ts=>by rw [trT.trTs,zL,jk,ki,ki,ki,zL,ju t,textTr_Ts ts,uX];simp
end
mutual
theorem gz:∀ k:Ty,jZ (trT k)
 | .mk ts=>by rw [trT];exact okTr_Ts ts
theorem okTr_Ts:∀ ts:List Ty,jZ (trT.trTs ts)
 | []=>by rw [trT.trTs,jZ];exact ⟨by simp,by intro c hc;simp at hc;subst hc;decide⟩
 | t::ts=>by
   rw [trT.trTs,jZ,qF,qF,qF,qF]
   exact ⟨by simp,by rw [jZ];exact ⟨by simp,by intro c hc;simp at hc;subst hc;decide⟩,gz t,okTr_Ts ts,trivial⟩
end
mutual
theorem xh:∀ k:Ty,qY (trT k)=zV k
 | .mk ts=>by rw [trT,sizeTr_Ts ts]
theorem sizeTr_Ts:∀ ts:List Ty,qY (trT.trTs ts)=zV (.mk ts)
 | []=>by rw [trT.trTs,qY,zV,za]
 | t::ts=>by rw [trT.trTs,qY,kC,kC,kC,kC,qY,xh t,sizeTr_Ts ts,jh];omega
end
mutual
theorem deepTr_T:∀ k:Ty,jV (trT k)<zV k
 | .mk ts=>by rw [trT];exact deepTr_Ts ts
theorem deepTr_Ts:∀ ts:List Ty,jV (trT.trTs ts)<zV (.mk ts)
 | []=>by rw [trT.trTs,jV,zV];omega
 | t::ts=>by
   have h1:=deepTr_T t
   have h2:=deepTr_Ts ts
   rw [trT.trTs,jV,qM,qM,qM,qM,jV,jh];omega
end
theorem vU:∀ t:Tm,uZ t->jZ (z_ t)
 | .nm x,h=>by rw [z_,jZ];exact yB h
 | .wd w,h=>by rw [z_,jZ];exact x5 h
 | .lam x k t,h=>by
   rw [z_,jZ,qF,qF,qF,qF,qF]
   exact ⟨by simp,by rw [jZ];exact ⟨by decide,by decide⟩,by rw [jZ];exact yB h.1,gz k,vU t h.2,trivial⟩
 | .app m n,h=>by
   rw [z_,jZ,qF,qF,qF,qF]
   exact ⟨by simp,by rw [jZ];exact ⟨by decide,by decide⟩,vU m h.1,vU n h.2,trivial⟩
 | .ite l m n,h=>by
   rw [z_,jZ,qF,qF,qF,qF,qF]
   exact ⟨by simp,by rw [jZ];exact ⟨by decide,by decide⟩,vU l h.1,vU m h.2.1,vU n h.2.2,trivial⟩
theorem uC:∀ t:Tm,qY (z_ t)=zM t
 | .nm x=>by rw [z_,qY,zM]
 | .wd w=>by rw [z_,qY,zM]
 | .lam x k t=>by rw [z_,qY,kC,kC,kC,kC,kC,qY,qY,xh,uC t,zM];omega
 | .app m n=>by rw [z_,qY,kC,kC,kC,kC,qY,uC m,uC n,zM];omega
 | .ite l m n=>by rw [z_,qY,kC,kC,kC,kC,kC,qY,uC l,uC m,uC n,zM];omega
theorem u4:∀ t:Tm,jV (z_ t)<zM t
 | .nm x=>by rw [z_,jV,zM];omega
 | .wd w=>by rw [z_,jV,zM];omega
 | .lam x k t=>by
   have h1:=deepTr_T k
   have h2:=u4 t
   rw [z_,jV,qM,qM,qM,qM,qM,jV,jV,zM];omega
 | .app m n=>by
   have h1:=u4 m
   have h2:=u4 n
   rw [z_,jV,qM,qM,qM,qM,jV,zM];omega
 | .ite l m n=>by
   have h0:=u4 l
   have h1:=u4 m
   have h2:=u4 n
   rw [z_,jV,qM,qM,qM,qM,qM,jV,zM];omega
theorem vw:∀ t:Tm,jE t<zM t
 | .nm x=>by rw [jE,zM];omega
 | .wd w=>by rw [jE,zM];omega
 | .lam x k t=>by have:=vw t;rw [jE,zM];omega
 | .app m n=>by have:=vw m;have:=vw n;rw [jE,zM];omega
 | .ite l m n=>by have:=vw l;have:=vw m;have:=vw n;rw [jE,zM];omega
def zt (t:Tm):Bs:=zL (z_ t)
theorem um (x:Bs) (k:Ty) (t:Tm):zt (.lam x k t)=40::(jq++32::(x++32::(zN k++32::(zt t++[41])))):=by
 unfold zt;rw [z_,zL,jk,ki,ki,ki,ki,zL,zL,ju]
theorem ue (m n:Tm):zt (.app m n)=40::(vT++32::(zt m++32::(zt n++[41]))):=by
 unfold zt;rw [z_,zL,jk,ki,ki,ki,zL]
theorem ur (l m n:Tm):zt (.ite l m n)=40::(ifW++32::(zt l++32::(zt m++32::(zt n++[41])))):=by
 unfold zt;rw [z_,zL,jk,ki,ki,ki,ki,zL]
theorem cut_no {c:UInt8} {l:Bs} (h:∀ r,l≠c::r):cut [c] l=none:=by
 unfold cut
 cases l with
 | nil=>rfl
 | cons d r =>
   have:d≠c:=by rintro rfl;exact h r rfl
   simp [List.isPrefixOf,this.symm]
theorem ui (c:UInt8) (r:Bs) (h:sep c=true):uO (c::r):=.inr ⟨c,r,rfl,h⟩
theorem rdTm_word {d:Nat} {w r:Bs} (hw:w≠[]/\∀ c∈w,sep c=false) (hr:uO r):qh d (w++r)=if qG w then some (.nm w,r) else if qj w then some (.wd w,r) else none:=by
 obtain ⟨h1,h2⟩:=word_of hw.2 hr
 have hc:cut [40] (w++r)=none:=cut_no fun r' e=>by
  cases w with
  | nil=>exact hw.1 rfl
  | cons c w =>
    simp at e
    have:=hw.2 c (by simp)
    rw [e.1] at this;simp [sep] at this
 rw [qh.eq_def]
 simp only [hc,h1,h2]
theorem jv {d:Nat} {l:Bs}:qh (d+1) (40::l)=(
        if zu l=jq then (cut [32] (zT l)).bind fun l3=>if qG (zu l3) then (cut [32] (zT l3)).bind fun l4=>(rdK 60 l4).bind fun k=>(cut [32] k.2).bind fun l6=>(qh d l6).bind fun t=>(cut [41] t.2).map fun l8=>(.lam (zu l3) k.1 t.1,l8) else none
        else if zu l=vT then (cut [32] (zT l)).bind fun l3=>(qh d l3).bind fun m=>(cut [32] m.2).bind fun l4=>(qh d l4).bind fun n=>(cut [41] n.2).map fun l5=>(.app m.1 n.1,l5)
        else if zu l=ifW then (cut [32] (zT l)).bind fun l3=>(qh d l3).bind fun x=>(cut [32] x.2).bind fun l4=>(qh d l4).bind fun m=>(cut [32] m.2).bind fun l5=>(qh d l5).bind fun n=>(cut [41] n.2).map fun l6=>(.ite x.1 m.1 n.1,l6)
        else none):=by
 rw [qh.eq_def]
 simp only [u6]
theorem rdTm_zero {l:Bs}:qh 0 (40::l)=none:=by
 rw [qh.eq_def]
 simp only [u6]
theorem word_w {w:Bs} (hw:∀ c∈w,sep c=false) {c:UInt8} {r:Bs} (h:sep c=true):zu (w++c::r)=w/\zT (w++c::r)=c::r:=word_of hw (ui c r h)
theorem un:∀ (t:Tm) (d:Nat) (r:Bs),uZ t->jE t<=d->zM t<=100->uO r->qh d (zt t++r)=some (t,r)
 | .nm x,d,r,ho,_,_,hr=>by
   have e:zt (.nm x)=x:=by unfold zt;rw [z_,zL]
   rw [e,rdTm_word (yB ho) hr,if_pos (show qG x=true from ho)]
 | .wd w,d,r,ho,_,_,hr=>by
   have e:zt (.wd w)=w:=by unfold zt;rw [z_,zL]
   rw [e,rdTm_word (x5 ho) hr,yw ho,if_neg (by simp),if_pos (show qj w=true from ho)]
 | .lam x k t,d,r,ho,hd,hs,hr=>by
   rw [jE] at hd;rw [zM] at hs
   obtain ⟨d,rfl⟩:∃ j,d=j+1:=⟨d-1,by omega⟩
   have n1:=yB ho.1
   have e:zt (.lam x k t)++r=40::(jq++32::(x++32::(zN k++32::(zt t++41::r)))):=by rw [um];simp
   obtain ⟨a1,a2⟩:=word_w (w:=jq) (by decide) (c:=32) (r:=x++32::(zN k++32::(zt t++41::r))) (by decide)
   obtain ⟨b1,b2⟩:=word_w n1.2 (c:=32) (r:=zN k++32::(zt t++41::r)) (by decide)
   rw [e,jv,a1,a2,if_pos rfl,u6]
   simp only [Option.bind_some]
   rw [b1,b2,if_pos ho.1,u6]
   simp only [Option.bind_some]
   rw [wl 60 k _ (by omega)]
   simp only [Option.bind_some,u6]
   rw [un t d (41::r) ho.2 (by omega) (by omega) (ui _ _ (by decide))]
   simp only [Option.bind_some,u6,Option.map_some]
 | .app m n,d,r,ho,hd,hs,hr=>by
   rw [jE] at hd;rw [zM] at hs
   obtain ⟨d,rfl⟩:∃ j,d=j+1:=⟨d-1,by omega⟩
   have e:zt (.app m n)++r=40::(vT++32::(zt m++32::(zt n++41::r))):=by rw [ue];simp
   obtain ⟨a1,a2⟩:=word_w (w:=vT) (by decide) (c:=32) (r:=zt m++32::(zt n++41::r)) (by decide)
   rw [e,jv,a1,a2,if_neg (by decide),if_pos rfl,u6]
   simp only [Option.bind_some]
   rw [un m d _ ho.1 (by omega) (by omega) (ui _ _ (by decide))]
   simp only [Option.bind_some,u6]
   rw [un n d _ ho.2 (by omega) (by omega) (ui _ _ (by decide))]
   simp only [Option.bind_some,u6,Option.map_some]
 | .ite l m n,d,r,ho,hd,hs,hr=>by
   rw [jE] at hd;rw [zM] at hs
   obtain ⟨d,rfl⟩:∃ j,d=j+1:=⟨d-1,by omega⟩
   have e:zt (.ite l m n)++r=40::(ifW++32::(zt l++32::(zt m++32::(zt n++41::r)))):=by rw [ur];simp
   obtain ⟨a1,a2⟩:=word_w (w:=ifW) (by decide) (c:=32) (r:=zt l++32::(zt m++32::(zt n++41::r))) (by decide)
   rw [e,jv,a1,a2,if_neg (by decide),if_neg (by decide),if_pos rfl,u6]
   simp only [Option.bind_some]
   rw [un l d _ ho.1 (by omega) (by omega) (ui _ _ (by decide))]
   simp only [Option.bind_some,u6]
   rw [un m d _ ho.2.1 (by omega) (by omega) (ui _ _ (by decide))]
   simp only [Option.bind_some,u6]
   rw [un n d _ ho.2.2 (by omega) (by omega) (ui _ _ (by decide))]
   simp only [Option.bind_some,u6,Option.map_some]
theorem gT:∀ (d:Nat) (l:Bs) (t:Tm) (r:Bs),qh d l=some (t,r)->l=zt t++r/\uZ t/\jE t<=d:=by
 intro d
 induction d with
 | zero =>
   intro l t r h
   rw [qh.eq_def] at h
   cases hc:cut [40] l with
   | none =>
     simp only [hc] at h
     split at h
     ·rename_i hn
      simp at h;obtain ⟨rfl,rfl⟩:=h
      exact ⟨by unfold zt;rw [z_,zL];exact yJ l,hn,by rw [jE];omega⟩
     ·split at h
      ·rename_i hn
       simp at h;obtain ⟨rfl,rfl⟩:=h
       exact ⟨by unfold zt;rw [z_,zL];exact yJ l,hn,by rw [jE];omega⟩
      ·simp at h
   | some l1=>simp [hc] at h
 | succ d ih =>
   intro l t r h
   cases hc:cut [40] l with
   | none =>
     rw [qh.eq_def] at h
     simp only [hc] at h
     split at h
     ·rename_i hn
      simp at h;obtain ⟨rfl,rfl⟩:=h
      exact ⟨by unfold zt;rw [z_,zL];exact yJ l,hn,by rw [jE];omega⟩
     ·split at h
      ·rename_i hn
       simp at h;obtain ⟨rfl,rfl⟩:=h
       exact ⟨by unfold zt;rw [z_,zL];exact yJ l,hn,by rw [jE];omega⟩
      ·simp at h
   | some l1 =>
     have e0:=vW hc
     rw [e0] at h ⊢
     rw [List.singleton_append] at h ⊢
     rw [jv] at h
     have ew:=yJ l1
     split at h
     ·rename_i hw
      rw [hw] at ew
      simp only [Option.bind_eq_some_iff] at h
      obtain ⟨l3,c1,h⟩:=h
      split at h
      ·rename_i hn
       simp only [Option.bind_eq_some_iff,Option.map_eq_some_iff] at h
       obtain ⟨l4,c2,⟨k,l5⟩,hk,l6,c3,⟨t',l7⟩,ht,l8,c4,e⟩:=h
       simp only [Prod.mk.injEq] at e
       obtain ⟨rfl,rfl⟩:=e
       obtain ⟨e1,o1,d1⟩:=ih _ _ _ ht
       have e2:=rdK_canon _ _ _ _ hk
       refine ⟨?_,⟨hn,o1⟩,by rw [jE];omega⟩
       rw [um]
       simp only at c3 c4
       conv=>lhs;rw [ew,vW c1,yJ l3,vW c2,e2,vW c3,e1,vW c4]
       simp
      ·simp at h
     ·split at h
      ·rename_i hw
       rw [hw] at ew
       simp only [Option.bind_eq_some_iff,Option.map_eq_some_iff] at h
       obtain ⟨l3,c1,⟨m,l4⟩,hm,l5,c2,⟨n,l6⟩,hn,l7,c3,e⟩:=h
       simp only [Prod.mk.injEq] at e
       obtain ⟨rfl,rfl⟩:=e
       obtain ⟨e1,o1,d1⟩:=ih _ _ _ hm
       obtain ⟨e2,o2,d2⟩:=ih _ _ _ hn
       refine ⟨?_,⟨o1,o2⟩,by rw [jE];omega⟩
       rw [ue]
       simp only at c2 c3
       conv=>lhs;rw [ew,vW c1,e1,vW c2,e2,vW c3]
       simp
      ·split at h
       ·rename_i hw
        rw [hw] at ew
        simp only [Option.bind_eq_some_iff,Option.map_eq_some_iff] at h
        obtain ⟨l3,c1,⟨x,l4⟩,hx,l5,c2,⟨m,l6⟩,hm,l7,c3,⟨n,l8⟩,hn,l9,c4,e⟩:=h
        simp only [Prod.mk.injEq] at e
        obtain ⟨rfl,rfl⟩:=e
        obtain ⟨e0,o0,d0⟩:=ih _ _ _ hx
        obtain ⟨e1,o1,d1⟩:=ih _ _ _ hm
        obtain ⟨e2,o2,d2⟩:=ih _ _ _ hn
        refine ⟨?_,⟨o0,o1,o2⟩,by rw [jE];omega⟩
        rw [ur]
        simp only at c2 c3 c4
        conv=>lhs;rw [ew,vW c1,e0,vW c2,e1,vW c3,e2,vW c4]
        simp
       ·simp at h
theorem gN {a b:Tr} (ha:jZ a) (hb:jZ b) (h:zL a=zL b):a=b:=by
 have h1:=pj a (max (jV a) (jV b)+1) [] ha (by omega) (.inl rfl)
 have h2:=pj b (max (jV a) (jV b)+1) [] hb (by omega) (.inl rfl)
 rw [h,h2] at h1
 exact (Prod.mk.inj (Option.some.inj h1)).1.symm
theorem eE (h a b:Tr):qR (.ls [h,a,b])=(qO [h] == vT && qR a && qR b):=by rw [qR]
theorem cI (h a b c:Tr):qR (.ls [h,a,b,c])=((qO [h] == jq && (qG (qJ a) && (zI (zL b)).2 && qR c)) || (qO [h] == ifW && (qR a && qR b && qR c))):=by rw [qR]
theorem head_at {h:Tr} {w:Bs} (hw:w≠[]) (e:qO [h]=w):h=.am w:=by
 cases h with
 | am a=>rw [qO] at e;rw [e]
 | ls ps=>exact absurd e.symm hw
theorem wV:∀ (n:Nat) (t:Tr),SizeOf.sizeOf t<n->jZ t->qR t=true->∃ m:Tm,t=z_ m/\uZ m/\kV m=true
 | 0,_,h,_,_=>by omega
 | n+1,.am a,_,ho,hi=>by
   rw [qR,Bool.or_eq_true] at hi
   rcases hi with h | h
   ·exact ⟨.wd a,by rw [z_],h,by rw [kV]⟩
   ·exact ⟨.nm a,by rw [z_],h,by rw [kV]⟩
 | n+1,.ls [],_,_,hi=>by simp [qR] at hi
 | n+1,.ls [_],_,_,hi=>by simp [qR] at hi
 | n+1,.ls [_,_],_,_,hi=>by simp [qR] at hi
 | n+1,.ls [h,a,b],hs,ho,hi=>by
   rw [eE] at hi
   simp only [Bool.and_eq_true,beq_iff_eq] at hi
   obtain ⟨⟨e,h1⟩,h2⟩:=hi
   rw [jZ,qF,qF,qF,qF] at ho
   obtain ⟨_,_,o1,o2,_⟩:=ho
   obtain rfl:=head_at (by decide) e
   simp only [Tr.ls.sizeOf_spec,List.cons.sizeOf_spec] at hs
   obtain ⟨m,rfl,q1,q2⟩:=wV n a (by omega) o1 h1
   obtain ⟨k,rfl,r1,r2⟩:=wV n b (by omega) o2 h2
   exact ⟨.app m k,by rw [z_],⟨q1,r1⟩,by rw [kV,q2,r2];rfl⟩
 | n+1,.ls [h,a,b,c],hs,ho,hi=>by
   rw [cI] at hi
   simp only [Bool.or_eq_true,Bool.and_eq_true,beq_iff_eq] at hi
   rw [jZ,qF,qF,qF,qF,qF] at ho
   obtain ⟨_,_,o1,o2,o3,_⟩:=ho
   simp only [Tr.ls.sizeOf_spec,List.cons.sizeOf_spec] at hs
   rcases hi with ⟨e,⟨h1,h2⟩,h3⟩ | ⟨e,⟨h1,h2⟩,h3⟩
   ·obtain rfl:=head_at (by decide) e
    obtain ⟨m,rfl,q1,q2⟩:=wV n c (by omega) o3 h3
    obtain ⟨e1,l1⟩:=wv h2
    have eb:b=trT (zI (zL b)).1:=gN o2 (gz _) (by rw [ju];exact e1)
    have ea:a=.am (qJ a):=by
     cases a with
     | am x=>rw [qJ]
     | ls ps=>rw [qJ] at h1;simp [qG] at h1
    refine ⟨.lam (qJ a) (zI (zL b)).1 m,?_,⟨h1,q1⟩,by rw [kV,q2,decide_eq_true l1];rfl⟩
    rw [z_,<- eb,<- ea]
   ·obtain rfl:=head_at (by decide) e
    obtain ⟨x,rfl,p1,p2⟩:=wV n a (by omega) o1 h1
    obtain ⟨y,rfl,q1,q2⟩:=wV n b (by omega) o2 h2
    obtain ⟨z,rfl,r1,r2⟩:=wV n c (by omega) o3 h3
    exact ⟨.ite x y z,by rw [z_],⟨p1,q1,r1⟩,by rw [kV,p2,q2,r2];rfl⟩
 | n+1,.ls (_::_::_::_::_::_),_,_,hi=>by simp [qR] at hi
theorem wU:∀ t:Tm,uZ t->qR (z_ t)=kV t
 | .nm x,h=>by rw [z_,qR,kV,show qG x=true from h,Bool.or_true]
 | .wd w,h=>by rw [z_,qR,kV,show qj w=true from h,Bool.true_or]
 | .lam x k t,h=>by
   rw [z_,cI,kV,wU t h.2,ju,qO,qJ,h.1]
   have e:(zI (zN k)).2=decide (zV k<=15):=by
    by_cases hk:zV k<=15
    ·rw [v8 hk,decide_eq_true hk]
    ·rw [decide_eq_false hk]
     cases hq:(zI (zN k)).2 with
     | false=>rfl
     | true =>
       exfalso
       obtain ⟨h1,h2⟩:=wv hq
       have:trT k=trT (zI (zN k)).1:=gN (gz _) (gz _) (by rw [ju,ju];exact h1)
       have h3:=xh k
       rw [this,xh] at h3
       omega
   rw [e]
   have a1:(jq == jq)=true:=by decide
   have a2:(jq == ifW)=false:=by decide
   rw [a1,a2];simp
 | .app m n,h=>by
   rw [z_,eE,kV,wU m h.1,wU n h.2,qO]
   have a1:(vT == vT)=true:=by decide
   rw [a1];simp
 | .ite l m n,h=>by
   rw [z_,cI,kV,wU l h.1,wU m h.2.1,wU n h.2.2,qO]
   have a1:(ifW == ifW)=true:=by decide
   have a2:(ifW == jq)=false:=by decide
   rw [a1,a2];simp [Bool.and_assoc]
mutual
theorem cX:∀ k:Ty,(zL (trT k)).length<=6*qY (trT k)
 | .mk ts=>by rw [trT];exact dm ts
theorem dm:∀ ts:List Ty,(zL (trT.trTs ts)).length<=6*qY (trT.trTs ts)
 | []=>by rw [trT.trTs,zL,qY];simp
 | t::ts=>by
   have h1:=cX t
   have h2:=dm ts
   rw [trT.trTs,zL,jk,ki,ki,ki,zL,qY,kC,kC,kC,kC,qY]
   simp only [List.length_cons,List.length_append,List.length_nil];omega
end
theorem name_len {x:Bs} (h:qG x=true):x.length<=3:=by
 cases x with
 | nil=>simp
 | cons c r=>simp only [qG,Bool.and_eq_true,decide_eq_true_eq] at h;simp;omega
theorem leaf_len {x:Bs} (h:qj x=true):x.length<=3:=by
 simp only [qj,Bool.or_eq_true,beq_iff_eq] at h
 rcases h with (rfl | rfl) | rfl <;> simp
theorem uY:∀ t:Tm,uZ t->(zt t).length<=9*zM t
 | .nm x,h=>by have:=name_len h;unfold zt;rw [z_,zL,zM];omega
 | .wd w,h=>by have:=leaf_len h;unfold zt;rw [z_,zL,zM];omega
 | .lam x k t,h=>by
   have h1:=name_len h.1
   have h2:=cX k
   rw [ju,xh] at h2
   have h3:=uY t h.2
   rw [um,zM]
   simp only [jq,List.length_cons,List.length_append,List.length_nil];omega
 | .app m n,h=>by
   have h1:=uY m h.1
   have h2:=uY n h.2
   rw [ue,zM]
   simp only [vT,List.length_cons,List.length_append,List.length_nil];omega
 | .ite l m n,h=>by
   have h0:=uY l h.1
   have h1:=uY m h.2.1
   have h2:=uY n h.2.2
   rw [ur,zM]
   simp only [ifW,List.length_cons,List.length_append,List.length_nil];omega
theorem jr {l:Bs} {t:Tm} (h:qD l=some t):l=zt t/\uZ t/\zM t<=60:=by
 unfold qD at h
 cases hq:qh 60 l with
 | none=>rw [hq] at h;simp at h
 | some x =>
   obtain ⟨t',r⟩:=x
   rw [hq] at h
   cases r with
   | cons c r=>simp at h
   | nil =>
     simp only at h
     split at h
     ·rename_i hs
      simp at h;subst h
      obtain ⟨e,o,_⟩:=gT _ _ _ _ hq
      exact ⟨by simpa using e,o,hs⟩
     ·simp at h
theorem gG {t:Tm} (ho:uZ t) (hs:zM t<=60):qD (zt t)=some t:=by
 unfold qD
 have:=un t 60 [] ho (by have:=vw t;omega) (by omega) (.inl rfl)
 rw [List.append_nil] at this
 rw [this]
 simp only
 rw [if_pos hs]
theorem specTerm_text {t:Tm} (ho:uZ t) (hs:zM t<=60):qS (zt t)=if kV t then some (z_ t) else none:=by
 unfold qS
 have hl:=uY t ho
 rw [if_neg (by omega)]
 have:=pj (z_ t) 101 [] (vU t ho) (by have:=u4 t;omega) (.inl rfl)
 rw [List.append_nil] at this
 unfold zt
 rw [this]
 simp only
 rw [wU t ho,uC,decide_eq_true hs,Bool.and_true]
theorem gU {l:Bs} {tr:Tr} (h:qS l=some tr):∃ t,tr=z_ t/\l=zt t/\uZ t/\zM t<=60/\kV t=true:=by
 unfold qS at h
 split at h
 ·simp at h
 ·split at h
  ·rename_i t' hq
   split at h
   ·rename_i hc
    simp at h;subst h
    simp only [Bool.and_eq_true,decide_eq_true_eq] at hc
    obtain ⟨e,o,_,_⟩:=y9 _ _ _ _ hq
    obtain ⟨t,rfl,q1,q2⟩:=wV _ t' (Nat.lt_succ_self _) o hc.1
    exact ⟨t,rfl,by simpa [zt] using e,q1,by rw [<- uC];exact hc.2,q2⟩
   ·simp at h
  ·simp at h
theorem term_eq (l:Bs):qS l=(qD l).bind fun t=>if kV t then some (z_ t) else none:=by
 cases h:qD l with
 | some t =>
   obtain ⟨rfl,ho,hs⟩:=jr h
   rw [specTerm_text ho hs];rfl
 | none =>
   cases hq:qS l with
   | none=>rfl
   | some tr =>
     obtain ⟨t,_,rfl,ho,hs,_⟩:=gU hq
     rw [gG ho hs] at h;simp at h
def lname (v:Nat):Bs:=120::dec v
theorem cf {t:Ty} (h:zV t<=15):∀ a∈t.args,zV a<=15:=(bI h).1
theorem wd_text (x:Bs):zt (.wd x)=x:=by unfold zt;rw [z_,zL]
theorem uT {t:Ty} (h:zV t<=15):t.args.length<=14:=by
 have:=qV t.args
 have:=qg t
 omega
theorem name_no1 {s:Bs} (h:3<s.length):qG s=false:=by
 cases s with
 | nil=>simp at h
 | cons c r=>simp only [List.length_cons] at h;simp only [qG];rw [decide_eq_false (by omega)];rfl
theorem bG {s:Bs} (h:0<s.length) (hc:s[0].toNat<120\/122<s[0].toNat):qG s=false:=by
 cases s with
 | nil=>simp at h
 | cons c r =>
   simp only [List.getElem_cons_zero] at hc
   rw [Bool.eq_false_iff]
   intro hn
   simp only [qG,Bool.and_eq_true,decide_eq_true_eq,UInt8.le_iff_toNat_le] at hn
   have h1:=hn.1.2.1
   have h2:=hn.1.2.2
   have e1:(120:UInt8).toNat=120:=rfl
   have e2:(122:UInt8).toNat=122:=rfl
   omega
theorem bP {s:Bs} {k:Nat} (h1:1<=k) (h:k<s.length) (hc:s[k].toNat<48\/57<s[k].toNat):qG s=false:=by
 cases s with
 | nil=>simp at h
 | cons c r =>
   obtain ⟨k,rfl⟩:∃ j,k=j+1:=⟨k-1,by omega⟩
   simp only [List.getElem_cons_succ] at hc
   rw [Bool.eq_false_iff]
   intro hn
   simp only [qG,Bool.and_eq_true,List.all_eq_true] at hn
   have h2:=hn.2 _ (List.getElem_mem (by simpa using h))
   simp only [dig,Bool.and_eq_true,decide_eq_true_eq,UInt8.le_iff_toNat_le] at h2
   have e1:(48:UInt8).toNat=48:=rfl
   have e2:(57:UInt8).toNat=57:=rfl
   omega
theorem name_yes {s:Bs} (h:0<s.length) (h3:s.length<=3) (hc:120<=s[0].toNat/\s[0].toNat<=122) (hd:∀ k,1<=k->∀ (hk:k<s.length),48<=s[k].toNat/\s[k].toNat<=57):qG s=true:=by
 cases s with
 | nil=>simp at h
 | cons c r =>
   simp only [List.getElem_cons_zero] at hc
   simp only [List.length_cons] at h3
   have e1:(120:UInt8).toNat=120:=rfl
   have e2:(122:UInt8).toNat=122:=rfl
   have e3:(48:UInt8).toNat=48:=rfl
   have e4:(57:UInt8).toNat=57:=rfl
   simp only [qG,Bool.and_eq_true,decide_eq_true_eq,UInt8.le_iff_toNat_le,List.all_eq_true]
   refine ⟨⟨by omega,by omega,by omega⟩,fun x hx=>?_⟩
   obtain ⟨i,hi,rfl⟩:=List.getElem_of_mem hx
   have:=hd (i+1) (by omega) (by simpa using hi)
   simp only [List.getElem_cons_succ] at this
   simp only [dig,Bool.and_eq_true,decide_eq_true_eq,UInt8.le_iff_toNat_le]
   omega
def qE (d:Nat):Nat->Bs->Option (List Tm×Bs)
 | 0,l=>some ([],l)
 | n+1,l=>(cut [32] l).bind fun l1=>(qh d l1).bind fun t=>(qE d n t.2).map fun y=>(t.1::y.1,y.2)
theorem yq (d:Nat) (l:Bs):qE d 0 l=some ([],l):=rfl
theorem wQ (d n:Nat) (l:Bs):qE d (n+1) l=(cut [32] l).bind fun l1=>(qh d l1).bind fun t=>(qE d n t.2).map fun y=>(t.1::y.1,y.2):=rfl
def eX (w:Bs):Nat:=if w=jq then 1 else if w=vT then 2 else if w=ifW then 3 else 0
def gj (w x:Bs) (k:Ty):List Tm->Tm
 | [t]=>.lam x k t
 | [m,n]=>.app m n
 | [l,m,n]=>.ite l m n
 | _=>.wd w
theorem rdTm_lam {d:Nat} {l l3 l4 l6:Bs} {k:Ty} (hw:zu l=jq) (h1:cut [32] (zT l)=some l3) (hn:qG (zu l3)=true) (h2:cut [32] (zT l3)=some l4) (hk:rdK 60 l4=some (k,l6)) :
 qh (d+1) (40::l)=(qE d 1 l6).bind fun y=>(cut [41] y.2).map fun r=>(gj jq (zu l3) k y.1,r):=by
 rw [jv,if_pos hw,h1]
 simp only [Option.bind_some]
 rw [if_pos hn,h2]
 simp only [Option.bind_some]
 rw [hk]
 simp only [Option.bind_some,qE]
 cases cut [32] l6 with
 | none=>rfl
 | some l7 =>
   simp only [Option.bind_some]
   cases qh d l7 with
   | none=>rfl
   | some t=>rfl
theorem rdTm_app {d:Nat} {l:Bs} (x:Bs) (k:Ty) (hw:zu l=vT):qh (d+1) (40::l)=(qE d 2 (zT l)).bind fun y=>(cut [41] y.2).map fun r=>(gj vT x k y.1,r):=by
 rw [jv,if_neg (by rw [hw];decide),if_pos hw]
 simp only [qE]
 cases cut [32] (zT l) with
 | none=>rfl
 | some l3 =>
   simp only [Option.bind_some]
   cases qh d l3 with
   | none=>rfl
   | some t =>
     simp only [Option.bind_some]
     cases cut [32] t.2 with
     | none=>rfl
     | some l4 =>
       simp only [Option.bind_some]
       cases qh d l4 with
       | none=>rfl
       | some t=>rfl
theorem rdTm_ite {d:Nat} {l:Bs} (x:Bs) (k:Ty) (hw:zu l=ifW):qh (d+1) (40::l)=(qE d 3 (zT l)).bind fun y=>(cut [41] y.2).map fun r=>(gj ifW x k y.1,r):=by
 rw [jv,if_neg (by rw [hw];decide),if_neg (by rw [hw];decide),if_pos hw]
 simp only [qE]
 cases cut [32] (zT l) with
 | none=>rfl
 | some l3 =>
   simp only [Option.bind_some]
   cases qh d l3 with
   | none=>rfl
   | some t =>
     simp only [Option.bind_some]
     cases cut [32] t.2 with
     | none=>rfl
     | some l4 =>
       simp only [Option.bind_some]
       cases qh d l4 with
       | none=>rfl
       | some t2 =>
         simp only [Option.bind_some]
         cases cut [32] t2.2 with
         | none=>rfl
         | some l5 =>
           simp only [Option.bind_some]
           cases qh d l5 with
           | none=>rfl
           | some t=>rfl
theorem rdTm_lamNo1 {d:Nat} {l:Bs} (hw:zu l=jq) (h1:cut [32] (zT l)=none):qh (d+1) (40::l)=none:=by
 rw [jv,if_pos hw,h1];rfl
theorem rdTm_lamNo2 {d:Nat} {l l3:Bs} (hw:zu l=jq) (h1:cut [32] (zT l)=some l3) (hn:qG (zu l3)=false):qh (d+1) (40::l)=none:=by
 rw [jv,if_pos hw,h1]
 simp only [Option.bind_some]
 rw [if_neg (by rw [hn];decide)]
theorem rdTm_lamNo3 {d:Nat} {l l3:Bs} (hw:zu l=jq) (h1:cut [32] (zT l)=some l3) (h2:cut [32] (zT l3)=none):qh (d+1) (40::l)=none:=by
 rw [jv,if_pos hw,h1]
 simp only [Option.bind_some]
 rw [h2];split <;> rfl
theorem rdTm_lamNo4 {d:Nat} {l l3 l4:Bs} (hw:zu l=jq) (h1:cut [32] (zT l)=some l3) (h2:cut [32] (zT l3)=some l4) (hk:rdK 60 l4=none):qh (d+1) (40::l)=none:=by
 rw [jv,if_pos hw,h1]
 simp only [Option.bind_some]
 rw [h2]
 simp only [Option.bind_some]
 rw [hk];split <;> rfl
theorem rdTm_none {d:Nat} {l:Bs} (hw:eX (zu l)=0):qh d (40::l)=none:=by
 cases d with
 | zero=>exact rdTm_zero
 | succ d =>
   unfold eX at hw
   rw [jv]
   split
   ·rename_i h;rw [if_pos h] at hw;simp at hw
   ·rename_i h
    rw [if_neg h] at hw
    split
    ·rename_i h2;rw [if_pos h2] at hw;simp at hw
    ·rename_i h2
     rw [if_neg h2] at hw
     split
     ·rename_i h3;rw [if_pos h3] at hw;simp at hw
     ·rfl
theorem rdParTm_step {d n:Nat} {l0 l l1 r:Bs} {m:Nat} {ts:List Tm} {t:Tm} (h:qE d m l0=(qE d (n+1) l).map fun y=>(ts++y.1,y.2)) (h1:cut [32] l=some l1) (h2:qh d l1=some (t,r)) :
 qE d m l0=(qE d n r).map fun y=>((ts++[t])++y.1,y.2):=by
 rw [h,wQ,h1]
 simp only [Option.bind_some]
 rw [h2]
 simp only [Option.bind_some,Option.map_map]
 congr 1
 funext y
 simp
theorem dX {d n:Nat} {l0 l:Bs} {m:Nat} {ts:List Tm} (h:qE d m l0=(qE d (n+1) l).map fun y=>(ts++y.1,y.2)) (h1:cut [32] l=none):qE d m l0=none:=by
 rw [h,wQ,h1];rfl
theorem dY {d n:Nat} {l0 l l1:Bs} {m:Nat} {ts:List Tm} (h:qE d m l0=(qE d (n+1) l).map fun y=>(ts++y.1,y.2)) (h1:cut [32] l=some l1) (h2:qh d l1=none):qE d m l0=none:=by
 rw [h,wQ,h1]
 simp only [Option.bind_some]
 rw [h2];rfl
theorem rdTm_le:∀ {d:Nat} {l:Bs} {t:Tm} {r:Bs},qh d l=some (t,r)->r.length<l.length:=by
 intro d l t r h
 obtain ⟨e,ho,_⟩:=gT d l t r h
 rw [e,List.length_append]
 have:0<(zt t).length:=by
  cases t with
  | nm x =>
    have:zt (.nm x)=x:=by unfold zt;rw [z_,zL]
    rw [this]
    have:=(yB ho).1
    exact List.length_pos_iff.2 this
  | wd x =>
    have:zt (.wd x)=x:=by unfold zt;rw [z_,zL]
    rw [this]
    have:=(x5 ho).1
    exact List.length_pos_iff.2 this
  | lam x k t=>rw [um];simp
  | app m n=>rw [ue];simp
  | ite l m n=>rw [ur];simp
 omega
def cd (a b:Bs):Bs:=[40,62,32]++a++[32]++b++[41]
theorem arrowText_eq (x y:Ty):cd (zN x) (zN y)=zN (zd x y):=by
 cases y with
 | mk ys=>unfold cd zd;rw [uX];simp [Ty.args]
def composeEnv (x y:Ty) (f:Bd) (zs:List Ty):List Mn:=.bd y f [.op 0 x]::opens 1 zs
mutual
def eta:Ty->Nat->Nat->Bd
 | .mk ts,v,n=>.ask v (jp ts n (n+ts.length)) (.leaf 116) (.leaf 102)
def jp:List Ty->Nat->Nat->List Bd
 | [],_,_=>[]
 | t::ts,v,n=>eta t v n::jp ts (v+1) n
end
theorem eta_eq (t:Ty) (v n:Nat):eta t v n=.ask v (jp t.args n (n+t.args.length)) (.leaf 116) (.leaf 102):=by cases t;rw [eta];rfl
theorem uN:∀ (ts:List Ty) (v n:Nat),(jp ts v n).length=ts.length
 | [],_,_=>by simp [jp]
 | t::ts,v,n=>by rw [jp,List.length_cons,uN ts,List.length_cons]
theorem dj:∀ (ts:List Ty) (v n k:Nat) (t:Ty),ts[k]? = some t->(jp ts v n)[k]? = some (eta t (v+k) n)
 | [],v,n,k,t,h=>by simp at h
 | a::ts,v,n,k,t,h=>by
   rw [jp]
   cases k with
   | zero=>simp at h;subst h;simp
   | succ k=>simp only [List.getElem?_cons_succ] at *;rw [dj ts (v+1) n k t h,show v+1+k=v+(k+1) from by omega]
mutual
theorem eta_fit:∀ (t:Ty) (v n:Nat) (hand:List Ty),hand.length=n->hand[v]? = some t->jH (hand++t.args) (eta t v n)
 | .mk ts,v,n,hand,hn,hv=>by
   rw [eta,jH]
   have fT:=(List.getElem?_eq_some_iff.1 hv).1
   refine ⟨.mk ts,by rw [List.getElem?_append_left fT];exact hv,?_,by simp [jH],by simp [jH]⟩
   refine etas_fit ts n (n+ts.length) (hand++ts) (by simp [hn]) fun j t hj=>?_
   subst hn
   rw [List.getElem?_append_right (by omega),Nat.add_sub_cancel_left];exact hj
theorem etas_fit:∀ (ts:List Ty) (v n:Nat) (hand:List Ty),hand.length=n->(∀ j t,ts[j]? = some t->hand[v+j]? = some t)->qe (jN hand ts) (jp ts v n)
 | [],v,n,hand,_,_=>by rw [jp,qe];rfl
 | t::ts,v,n,hand,hn,hv=>by
   rw [jp,qe]
   refine ⟨hand++t.args,jN hand ts,rfl,eta_fit t v n hand hn (by simpa using hv 0 t rfl),etas_fit ts (v+1) n hand hn fun j t' hj=>?_⟩
   rw [show v+1+j=v+(j+1) from by omega]
   exact hv (j+1) t' (by simpa using hj)
end
mutual
theorem eta_wf:∀ (t:Ty) (v n:Nat),wfB (eta t v n)
 | .mk ts,v,n=>by rw [eta,wfB];exact ⟨etas_wf ts n _,.inl rfl,.inr (.inl rfl)⟩
theorem etas_wf:∀ (ts:List Ty) (v n:Nat),uL (jp ts v n)
 | [],v,n=>by rw [jp];trivial
 | t::ts,v,n=>by rw [jp,uL];exact ⟨eta_wf t v n,etas_wf ts (v+1) n⟩
end
mutual
theorem ez:∀ (t:Ty) (v n:Nat),zW (eta t v n)<=3*zV t/\kP (eta t v n)<=zV t
 | .mk ts,v,n=>by
   have:=etas_size ts n (n+ts.length)
   rw [eta,zW,kP,zV]
   simp only [zW,kP] at *
   omega
theorem etas_size:∀ (ts:List Ty) (v n:Nat),zR (jp ts v n)<=3*za ts/\kI (jp ts v n)<=za ts
 | [],v,n=>by simp [jp,zR,kI]
 | t::ts,v,n=>by
   have h1:=ez t v n
   have h2:=etas_size ts (v+1) n
   rw [jp,zR,kI,za]
   omega
end
def yM:Bd->Nat
 | .leaf c=>if c=117 then 1 else 2
 | .ask _ ss y n=>4+costs ss+yM y+yM n
where costs:List Bd->Nat
 | []=>0
 | s::ss=>1+yM s+costs ss
mutual
theorem dy:∀ b:Bd,yM b+1<=5*zW b
 | .leaf c=>by rw [yM,zW];split <;> omega
 | .ask v ss y n=>by
   have h1:=costs_le ss
   have h2:=dy y
   have h3:=dy n
   rw [yM,zW];omega
theorem costs_le:∀ ss:List Bd,yM.costs ss<=5*zR ss
 | []=>by rw [yM.costs];omega
 | s::ss=>by
   have h1:=dy s
   have h2:=costs_le ss
   rw [yM.costs,zR];omega
end
theorem eT {d l v n:Nat} {ss:List Bd} {y no b':Bd} {t:Ty} {env e:List Mn} {st:List Gf} (h:env[v]? = some (.bd t b' e)) :
 ev (d+1) (l+1) (.ask v ss y no) env n st=ev d l b' (e++owns env t.args ss) n (⟨y,no,env⟩::st):=by rw [ev.eq_def];simp only [h]
theorem eS {d l v n o:Nat} {ss:List Bd} {y no:Bd} {t:Ty} {env:List Mn} {st:List Gf} (h:env[v]? = some (.op o t)) :
 ev (d+1) (l+1) (.ask v ss y no) env n st=(kQ (ev d) env n l t.args ss).bind fun x=>(ev d x.2 y env n st).bind fun z=>(ev d z.2 no env n st).bind fun u=>some (.ask o x.1 z.1 u.1,u.2):=by rw [ev.eq_def];simp only [h];rfl
theorem ev_u {d l n:Nat} {env:List Mn} {st:List Gf}:ev (d+1) (l+1) (.leaf 117) env n st=some (.leaf 117,l):=by rw [ev.eq_def];simp
theorem gb {d l n:Nat} {c:UInt8} {env:List Mn}:ev (d+1) (l+1) (.leaf c) env n []=some (.leaf c,l):=by rw [ev.eq_def];simp
theorem xN {d l n:Nat} {c:UInt8} (h:c≠117) {env:List Mn} {f:Gf} {st:List Gf}:ev (d+1) (l+1) (.leaf c) env n (f::st)=ev d l (if c=116 then f.yes else f.no) f.env n st:=by rw [ev.eq_def];simp only [if_neg h]
theorem pw {env:List Mn}:∀ (ts:List Ty) (ss:List Bd) (k:Nat) (t:Ty) (s:Bd),ts[k]? = some t->ss[k]? = some s->(owns env ts ss)[k]? = some (.bd t s env)
 | [],ss,k,t,s,h,_=>by simp at h
 | t'::ts,[],k,t,s,_,h=>by simp at h
 | t'::ts,s'::ss,k,t,s,h1,h2=>by
   rw [owns]
   cases k with
   | zero=>simp at h1 h2;subst h1;subst h2;rfl
   | succ k=>simp only [List.getElem?_cons_succ] at *;exact pw ts ss k t s h1 h2
theorem yG {env:List Mn}:∀ (ts:List Ty) (ss:List Bd),ts.length=ss.length->(owns env ts ss).length=ts.length
 | [],[],_=>by rw [owns]
               ·rfl
               ·intros;contradiction
 | [],s::ss,h=>by simp at h
 | t::ts,[],h=>by simp at h
 | t::ts,s::ss,h=>by rw [owns];simp [yG ts ss (by simpa using h)]
theorem y_:∀ (ts:List Ty) (n k:Nat) (t:Ty),ts[k]? = some t->(opens n ts)[k]? = some (.op (n+k) t)
 | [],n,k,t,h=>by simp at h
 | a::ts,n,k,t,h=>by
   rw [opens]
   cases k with
   | zero=>simp at h;subst h;rfl
   | succ k=>simp only [List.getElem?_cons_succ] at *;rw [y_ ts (n+1) k t h,show n+1+k=n+(k+1) from by omega]
theorem kT:∀ (ts:List Ty) (n:Nat),(opens n ts).length=ts.length
 | [],n=>by rw [opens];rfl
 | t::ts,n=>by rw [opens];simp [kT ts]
structure Copies (env:List Mn) (hand:List Ty):Prop where
 len:env.length=hand.length
 each:∀ i t,hand[i]? = some t->∃ (v:Nat) (e:List Mn),env[i]? = some (Mn.bd t (eta t v e.length) e)/\e[v]? = some (Mn.op i t)
theorem Copies.more {env:List Mn} {hand:List Ty} (h:Copies env hand) (e2:List Mn) (ts:List Ty) :
 Copies (env++owns (e2++opens hand.length ts) ts (jp ts e2.length (e2.length+ts.length))) (hand++ts):=by
 have hl:=h.len
 refine ⟨?_,fun i t hi=>?_⟩
 ·rw [List.length_append,List.length_append,yG _ _ (uN _ _ _).symm,hl]
 ·rcases Nat.lt_or_ge i hand.length with fT | tf
  ·rw [List.getElem?_append_left fT] at hi
   obtain ⟨v,e,h1,h2⟩:=h.each i t hi
   exact ⟨v,e,by rw [List.getElem?_append_left (by omega)];exact h1,h2⟩
  ·rw [List.getElem?_append_right tf] at hi
   have h1:=dj ts e2.length (e2.length+ts.length) _ t hi
   have h2:=pw (env:=e2++opens hand.length ts) ts _ _ t _ hi h1
   have h3:=y_ ts hand.length _ t hi
   refine ⟨e2.length+(i-hand.length),e2++opens hand.length ts,?_,?_⟩
   ·rw [List.getElem?_append_right (by omega),hl,h2,List.length_append,kT]
   ·rw [List.getElem?_append_right (by omega),Nat.add_sub_cancel_left,h3,show hand.length+(i-hand.length)=i from by omega]
def cm (t:Ty):Prop:=∀ (F:Nat->Prop) (w:World) (v:Value),Rep F w (kg t) v ->
 Calls Tryz.prog 46 #[.agg #[v]] w fun en w'=>en=.returned (str (zN t))/\Below w.heap.size w w'
theorem textT_drop {ts:List Ty} {k:Nat} {t:Ty} (h:ts[k]? = some t):zN (.mk (ts.drop k))=((([40,62,32]++zN t)++[32])++zN (.mk (ts.drop (k+1))))++[41]:=by
 have hk:=(List.getElem?_eq_some_iff.1 h).1
 have e:ts[k]=t:=(List.getElem?_eq_some_iff.1 h).2
 rw [List.drop_eq_getElem_cons hk,uX,e]
 simp
theorem atomsT_drop (ts:List Ty) (k:Nat):zV (.mk (ts.drop k))<=zV (.mk ts):=by
 have:=uy (ts.take k) (ts.drop k)
 rw [List.take_append_drop] at this
 simp only [zV];omega
theorem l1Text_step (t:Ty) (hl:zV t<=1000) (ih:∀ t',zV t'<zV t->cm t'):cm t:=by
 intro F w v hv
 rw [qy] at hv
 obtain ⟨a,cap,e,_,hlen,fM⟩:=zP hv
 subst e
 have IH:=fX ih;clear ih
 have AT:=fX fM;clear fM hlen hv
 have hE:=qg t
 have hlb:t.args.length<=1000:=by have:=qV t.args;omega
 have E1:=fX hE;clear hE
 have HT:Hid (t=.mk t.args):=by show t=_;cases t;rfl
 go_enter Tryz.func46,Tryz.ntmps46
 go_wp2_with fail
 go_loopw [3,4] (fun o i wr=>∃ k:Nat,k<=t.args.length/\i=.int .i64 ((k:Int)-1)/\o=str (zN (.mk (t.args.drop k)))/\Below w.heap.size w wr/\wr.cell? ⟨w.heap.size,0,none⟩=some (.slice a t.args.length cap)) (fun _ i _=>(intOf i+1).toNat)
 case atStart=>exact ⟨t.args.length,fP _,rfl,by rw [List.drop_length,uB],(fH _ _).alloc (fP _) _,by simp⟩
 case round =>
  obtain ⟨k,hk,rfl,rfl,hb,hc⟩:=hrel
  cases k with
  | succ k =>
    have tf:(0:Int)<=((k+1:Nat):Int)-1:=by omega
    have hki:((k+1:Nat):Int)-1=(k:Int):=by omega
    have fT:k<t.args.length:=by omega
    have mT:(k:Int)<(t.args.length:Int):=by omega
    obtain ⟨b',o,u,d,eb,_,fx,hd,hu,hr⟩:=AT.out k fT
    subst eb
    rw [vx,Option.map_eq_some_iff] at hd
    obtain ⟨t',rV,rfl⟩:=hd
    obtain ⟨ua,uc,rfl⟩:=kJ hr
    have hu':wr.cell? ⟨b',o+k,none⟩=some (.slice ua t'.args.length uc):=by rw [hb.cell fx];exact hu
    have sZ:=Rep.below (F':=F) hb (fun _ h=>h) hr
    have hs:=yu rV
    have mO:=uU t.args (k+1)
    have sW:=E1.out
    have IH':=fX (IH.out t' (by omega))
    have l1:=jy 1000 t' (by omega)
    have d1:=atomsT_drop t.args (k+1)
    rw [<- HT.out] at d1
    have l2:=jy 1000 (.mk (t.args.drop (k+1))) (by omega)
    have hx:=textT_drop rV
    obtain ⟨X,hX⟩:=zzN (zN t')
    rw [hX] at hx l1
    have HX:=fX hx
    have HXX:=fX hX
    clear hx hX
    generalize zN (.mk (t.args.drop (k+1)))=R at *
    obtain ⟨O1,h1⟩:=zzM ([40,62,32]++X)
    obtain ⟨O2,h2⟩:=zzM (O1++[32])
    obtain ⟨O3,h3⟩:=zzM (O2++R)
    obtain ⟨O4,h4⟩:=zzM (O3++[41])
    have m1:O1.length=X.length+3:=by rw [h1];simp
    have m2:O2.length=O1.length+1:=by rw [h2];simp
    have m3:O3.length=O2.length+R.length:=by rw [h3];simp
    have iN:=fun w0=>qN (P:=Tryz.prog) [40,62,32] X (by simp;omega) w0
    have iM:=fun w0=>qN (P:=Tryz.prog) O1 [32] (by simp;omega) w0
    have lI:=fun w0=>qN (P:=Tryz.prog) O2 R (by omega) w0
    have lL:=fun w0=>qN (P:=Tryz.prog) O3 [41] (by simp;omega) w0
    have H4:Hid (zN (.mk (t.args.drop k))=O4):=by show _=_;rw [HX.out,h4,h3,h2,h1]
    rw [<- h1] at iN;rw [<- h2] at iM;rw [<- h3] at lI;rw [<- h4] at lL
    have hz:=fG wr _ hc
    rw [hki]
    clear hs rV sW hu hr l1 l2 d1 h1 h2 h3 h4 m1 m2 m3 mO hki tf
    go_wp2_with fail
    refine (IH'.out _ _ _ sZ).mono ?_
    rintro en w2 ⟨rfl,fN⟩
    rw [HXX.out]
    have fv:=zzT hb fN
    have rx:w2.cell? ⟨w.heap.size,0,none⟩=some (.slice (some ⟨b',o,none⟩) t.args.length cap):=by rw [fN.cell hz];exact hc
    go_wp2_with fail
    go_roundw
    case rel=>exact ⟨k,by omega,rfl,by rw [H4.out],fv,rx⟩
    case measure=>simp [intOf]
  | zero =>
    have tf:¬ (0:Int)<=((0:Nat):Int)-1:=by omega
    go_wp2_with fail
    go_ret
    refine ⟨?_,hb⟩
    have e:zN (.mk t.args)=zN t:=by rw [<- HT.out]
    show Ending.returned (str (zN (.mk t.args)))=_
    rw [e]
theorem uG (n:Nat):∀ t,zV t<=n->n<=1000->cm t:=by
 induction n with
 | zero=>intro t h _;have:=kh t;omega
 | succ n ih=>exact fun t h hn=>l1Text_step t (by omega) (fun t' h'=>ih t' (by omega) (by omega))
def StrsAt (w:World) (a:Option Addr) (xs:List Bs):Prop:=∀ (k:Nat) (s:Bs),xs[k]? = some s->∃ b o,a=some ⟨b,o,none⟩/\w.cell? ⟨b,o+k,none⟩=some (str s)
theorem StrsAt.below {w w':World} {a:Option Addr} {xs:List Bs} (h:StrsAt w a xs) (hb:Below w.heap.size w w'):StrsAt w' a xs:=fun k s hs=>by
 obtain ⟨b,o,e,hc⟩:=h k s hs
 exact ⟨b,o,e,(hb.cell (fG w _ hc)).trans hc⟩
theorem Tryz.infoStr:(Tryz.prog.info? 9).map (fun i=>(i.zero,i.size,i.bytes))=some (some (str []),1,16):=by kernel_rfl
def atT (t:Ty):Bs->Option Ty
 | []=>some t
 | c::p=>if 48<=c.toNat then (match t.args[c.toNat-48]? with | some a=>atT a p | none=>none) else none
theorem atT_nil (t:Ty):atT t []=some t:=by cases t;rfl
theorem ei (t:Ty) (c:UInt8) (p:Bs):atT t (c::p)=if 48<=c.toNat then (match t.args[c.toNat-48]? with | some a=>atT a p | none=>none) else none:=by rw [atT]
theorem e9:∀ (p q:Bs) (t:Ty),atT t (p++q)=(atT t p).bind fun a=>atT a q
 | [],q,t=>by rw [atT_nil];rfl
 | c::p,q,t=>by
   rw [List.cons_append,ei,ei]
   split
   ·cases h:t.args[c.toNat-48]? with
    | none=>rfl
    | some a=>exact e9 p q a
   ·rfl
theorem digit_nat {j:Nat} (h:j<10):(yF j).toNat=48+j:=digit_ofNat h
theorem atT_digit (t:Ty) {j:Nat} (h:j<10):atT t [yF j]=t.args[j]?:=by
 rw [ei,digit_nat h,if_pos (by omega),show 48+j-48=j from by omega]
 cases t.args[j]? with
 | none=>rfl
 | some a=>exact atT_nil a
theorem args_len (t:Ty):2*t.args.length+1<=zV t:=by
 rw [qg t]
 have:∀ ts:List Ty,2*ts.length<=za ts:=by
  intro ts
  induction ts with
  | nil=>simp
  | cons u us ih =>
    have:=kh u
    rw [show u::us=[u]++us from rfl,uy]
    have e:za [u]=1+zV u:=by simp [za]
    rw [e,List.length_append,List.length_singleton];omega
 have:=this t.args
 omega
abbrev Pl:=List (Bs×Int)
abbrev pT:=Nat×Bs
def xt (many begin:Nat) (path:Bs):List pT:=(List.range many).map fun i=>(begin,path++dec i)
theorem uV (m b:Nat) (p:Bs):(xt m b p).length=m:=by simp [xt]
theorem dW {m b j:Nat} {p:Bs} (h:j<m):(xt m b p)[j]? = some (b,p++dec j):=by simp [xt,h]
structure PlFit (t:Ty) (lv:List pT) (hand:List Ty) (n:Nat):Prop where
 len:lv.length=hand.length
 each:∀ (i:Nat) (a:Ty),hand[i]? = some a->∃ pl,lv[i]? = some pl/\atT t pl.2=some a/\pl.1<n
theorem PlFit.kid {t:Ty} {lv:List pT} {hand:List Ty} {n m k:Nat} (h:PlFit t lv hand n) (Dv:n<=m) (hk:k<m) {p:Bs} {a:Ty} (ha:atT t p=some a) (GG:a.args.length<=10) :
 PlFit t (lv++xt a.args.length k p) (hand++a.args) m:=by
 refine ⟨by rw [List.length_append,List.length_append,uV,h.len],fun i b hb=>?_⟩
 rcases Nat.lt_or_ge i hand.length with hi | hi
 ·rw [List.getElem?_append_left hi] at hb
  obtain ⟨pl,h1,h2,h3⟩:=h.each i b hb
  exact ⟨pl,by rw [List.getElem?_append_left (by rw [h.len];exact hi)];exact h1,h2,by omega⟩
 ·rw [List.getElem?_append_right hi] at hb
  have fT:=(List.getElem?_eq_some_iff.1 hb).1
  refine ⟨(k,p++dec (i-hand.length)),?_,?_,hk⟩
  ·rw [List.getElem?_append_right (by rw [h.len];exact hi),h.len,dW fT]
  ·show atT t (p++dec (i-hand.length))=some b
   rw [e9,ha,Option.bind_some,vN (by omega),atT_digit _ (by omega)];exact hb
theorem PlFit.mono {t:Ty} {lv:List pT} {hand:List Ty} {n m:Nat} (h:PlFit t lv hand n) (Dv:n<=m):PlFit t lv hand m :=
 ⟨h.len,fun i a ha=>by obtain ⟨pl,h1,h2,h3⟩:=h.each i a ha;exact ⟨pl,h1,h2,by omega⟩⟩
structure ci (lv:List pT) (bg:pT) (v:Pl) (begun args:List Nat) (opens:Nat):Prop where
 lb:begun.length=lv.length
 la:args.length=lv.length
 each:∀ (i:Nat) (pl:pT),lv[i]? = some pl->∃ j c m z,begun[i]? = some pl.1/\args[i]? = some j/\v[pl.1]? = some (c::m,z)/\pl.2=m++dec j/\j<10
 bg:bg.1=opens/\∃ c z,v[opens]? = some (c::bg.2,z)
theorem ci.more {lv:List pT} {bg:pT} {v:Pl} {begun args:List Nat} {opens:Nat} (h:ci lv bg v begun args opens) (xs:Pl):ci lv bg (v++xs) begun args opens:=by
 have key:∀ (i:Nat) (x:Bs×Int),v[i]? = some x->(v++xs)[i]? = some x:=fun i x hx=>by
  rw [List.getElem?_append_left (List.getElem?_eq_some_iff.1 hx).1];exact hx
 refine ⟨h.lb,h.la,fun i pl hi=>?_,h.bg.1,?_⟩
 ·obtain ⟨j,c,m,z,h1,h2,h3,h4⟩:=h.each i pl hi
  exact ⟨j,c,m,z,h1,h2,key _ _ h3,h4⟩
 ·obtain ⟨c,z,hc⟩:=h.bg.2
  exact ⟨c,z,key _ _ hc⟩
theorem ci.kid {lv:List pT} {bg:pT} {v:Pl} {begun args:List Nat} {opens:Nat} (h:ci lv bg v begun args opens) (many k:Nat) (p:Bs) (GG:many<=10) {c:UInt8} {z:Int} (hk:v[k]? = some (c::p,z)) :
 ci (lv++xt many k p) (k,p) v (begun++List.replicate many k) (args++List.range many) k:=by
 refine ⟨by simp [h.lb,uV],by simp [h.la,uV],fun i pl hi=>?_,rfl,c,z,hk⟩
 rcases Nat.lt_or_ge i lv.length with fT | tf
 ·rw [List.getElem?_append_left fT] at hi
  obtain ⟨j,c',m,z',h1,h2,h3,h4⟩:=h.each i pl hi
  exact ⟨j,c',m,z',by rw [List.getElem?_append_left (by rw [h.lb];exact fT)];exact h1,by rw [List.getElem?_append_left (by rw [h.la];exact fT)];exact h2,h3,h4⟩
 ·rw [List.getElem?_append_right tf] at hi
  have hl:=(List.getElem?_eq_some_iff.1 hi).1
  rw [uV] at hl
  rw [dW hl] at hi
  obtain rfl:=Option.some.inj hi
  refine ⟨i-lv.length,c,p,z,?_,?_,hk,rfl,by omega⟩
  ·rw [List.getElem?_append_right (by rw [h.lb];exact tf),h.lb];simp [hl]
  ·rw [List.getElem?_append_right (by rw [h.la];exact tf),h.la];simp [hl]
end Go.Proofs.YtjggkhmojjaomaaGreatDoor

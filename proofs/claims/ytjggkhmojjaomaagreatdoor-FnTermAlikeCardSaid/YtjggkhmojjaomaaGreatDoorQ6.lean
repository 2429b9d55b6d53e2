/- Walks of functions that the statement reaches, and plain words. No conditions. -/
import Derived.Lib.AtoiTie
import Derived.Laws.Concat
import Derived.Test.YtjggkhmojjaomaaGreatDoorQ5
set_option linter.unusedVariables false
set_option linter.unusedSimpArgs false
set_option maxHeartbeats 10000000
namespace Go.Proofs.YtjggkhmojjaomaaGreatDoor
open Go.RowKit
theorem oneCell_encN {F:Nat->Prop} {w:World} {b:Bd} {us:List Value} (h:zX F w (kE b) us):∀ u∈us,u.oneCell'=true:=by
 obtain ⟨v,a2,c2,a3,c3,rfl,_⟩:=vB h
 simp [str,Value.oneCell']
theorem Tryz.infoBo:(Tryz.prog.info? 130).map (fun i=>(i.zero,i.size,i.bytes))=some (some (.agg #[.int .i64 0,str [],.int .i64 0,.slice none 0 0,.slice none 0 0,.slice none 0 0,.slice none 0 0,.int .i64 0,.int .i64 0]),9,144):=by kernel_rfl
def qx (s text:Bs):Option Bd :=
 if (zL s).2=false\/2000<text.length then none else
 match rdN 101 (zL s).1.args text with
 | none=>none
 | some (b,rest)=>if rest=[]/\zW b<=200 then some b else none
theorem vT {l:Bs} (h:(zL l).2=true):zV (zL l).1<=15:=by
 unfold zL at *
 split at h
 ·simp at h
 ·rename_i hl
  rw [if_neg hl]
  cases hq:rdS 21 l with
  | none=>rw [hq] at h;simp at h
  | some x=>rw [hq] at h;obtain ⟨t,rest⟩:=x;simp at h;exact h.2
theorem bU {t:Ty} (h:zV t<=15):vV 101 t.args:=by
 have hm:=qw t
 have key:∀ (ts:List Ty) (x:Ty),x∈ts->zV x<=zt ts:=by
  intro ts
  induction ts with
  | nil=>intro x hx;simp at hx
  | cons y ys ih =>
    intro x hx
    rcases List.mem_cons.1 hx with rfl | hx
    ·simp [zt];omega
    ·have:=ih x hx;simp [zt];omega
 refine ⟨fun x hx=>?_,?_⟩
 ·have:=key t.args x hx;omega
 ·have:=qV t.args;omega
theorem pU {w:World} {p a:Addr} {u v:Value} (h:w.cell? a=some v) (hne:a.block≠p.block):(w.setCell p u).cell? a=some v:=by
 rw [World.cell?_of_block (w:=w) (fZ _ _ _ _ hne)];exact h
theorem wV {w w':World} {a:Addr} {v:Value} (h:w.cell? a=some v) (hk:∀ x,w.heap[a.block]? = some x->w'.heap[a.block]? = some x):w'.cell? a=some v:=by
 have fG:=e9 w a h
 rw [World.cell?_of_block (w:=w)]
 ·exact h
 ·rw [hk _ (Array.getElem?_eq_getElem fG),Array.getElem?_eq_getElem fG]
abbrev KeepS (g1 g2:Nat) (T u0 u1 u2 u3:Value) (w:World):Prop :=
 w.cell? ⟨g1,0,none⟩=some T/\w.cell? ⟨g2,0,none⟩=some u0/\w.cell? ⟨g2,1,none⟩=some u1/\w.cell? ⟨g2,2,none⟩=some u2/\w.cell? ⟨g2,3,none⟩=some u3
theorem KeepS.set {g1 g2:Nat} {T u0 u1 u2 u3:Value} {w:World} (h:KeepS g1 g2 T u0 u1 u2 u3 w) (b o:Nat) (u:Value) (h1:g1≠b) (h2:g2≠b):KeepS g1 g2 T u0 u1 u2 u3 (w.setCell ⟨b,o,none⟩ u) :=
 ⟨pU h.1 h1,pU h.2.1 h2,pU h.2.2.1 h2,pU h.2.2.2.1 h2,pU h.2.2.2.2 h2⟩
def je (s text:Bs) (w:World) (en:Ending) (w':World):Prop :=
 ∃ (a:Option Addr) (c:Nat) (s':Bs) (v':Int) (a2:Option Addr) (n2 c2:Nat) (a3:Option Addr) (n3 c3:Nat),
   en=.returned (.tuple #[.agg #[.slice a (zL s).1.args.length c],.agg #[str s',.int .i64 v',.slice a2 n2 c2,.slice a3 n3 c3],.bool (qx s text).isSome])/\Below w.heap.size w w' /\
   Rep (w.heap.size<=·) w' (kz (zL s).1) (.slice a (zL s).1.args.length c) /\
   (∀ b,qx s text=some b->zX (w.heap.size<=·) w' (kE b) [str s',.int .i64 v',.slice a2 n2 c2,.slice a3 n3 c3])
theorem je.no {s text:Bs} {w w':World} {a:Option Addr} {c:Nat} {v:Value} (hv:v=.slice a (zL s).1.args.length c) {s':Bs} {v':Int} {a2:Option Addr} {n2 c2:Nat} {a3:Option Addr} {n3 c3:Nat} {f:Bool} (hf:f=false) (hn:qx s text=none) (hb:Below w.heap.size w w')
 (hr:Rep (w.heap.size<=·) w' (kz (zL s).1) v) :
 je s text w (.returned (.tuple #[.agg #[v],.agg #[str s',.int .i64 v',.slice a2 n2 c2,.slice a3 n3 c3],.bool f])) w':=by
 subst hv;subst hf
 exact ⟨a,c,s',v',a2,n2,c2,a3,n3,c3,by rw [hn];rfl,hb,hr,fun b h=>by rw [hn] at h;simp at h⟩
theorem je.yes {s text:Bs} {w w':World} {a:Option Addr} {c:Nat} {v:Value} (hv:v=.slice a (zL s).1.args.length c) {s':Bs} {v':Int} {a2:Option Addr} {n2 c2:Nat} {a3:Option Addr} {n3 c3:Nat} {f:Bool} {b:Bd} (hf:f=true) (hn:qx s text=some b) (hb:Below w.heap.size w w')
 (hr:Rep (w.heap.size<=·) w' (kz (zL s).1) v) (rU:zX (w.heap.size<=·) w' (kE b) [str s',.int .i64 v',.slice a2 n2 c2,.slice a3 n3 c3]) :
 je s text w (.returned (.tuple #[.agg #[v],.agg #[str s',.int .i64 v',.slice a2 n2 c2,.slice a3 n3 c3],.bool f])) w':=by
 subst hv;subst hf
 exact ⟨a,c,s',v',a2,n2,c2,a3,n3,c3,by rw [hn];rfl,hb,hr,fun b' h=>by rw [hn] at h;simp at h;subst h;exact rU⟩
set_option maxRecDepth 100000 in
theorem eK (s text:Bs) (hs:Lim s.length) (hl:Lim text.length) (w:World):Calls Tryz.prog 45 #[str s,str text] w (je s text w):=by
 have aw:=hs.le
 have tH:=hl.le
 go_enter Tryz.func45,Tryz.ntmps45
 go_wp2_with fail
 refine (xZ s hs _).mono ?_
 rintro en w1 ⟨v1,rfl,fP,se⟩
 have z1:=fP.size
 rw [zK,zK] at z1
 obtain ⟨a1,c1,e1⟩:=kK se
 have E1:=ed e1
 have nw:Below w.heap.size w w1:=(((e_ w.heap.size w).alloc (ei _) _).alloc (by simp) _).trans (fP.mono (by simp;omega))
 have aO:w.heap.size<w1.heap.size:=by omega
 have nJ:w.heap.size+1<w1.heap.size:=by omega
 have r0:w1.cell? ⟨w.heap.size,0,none⟩=some (.slice none 0 0):=by rw [fP.cell (by simp only [zK];omega)];exact zJ (by simp)
 have mg:w1.frozen? ⟨w.heap.size,0,none⟩=false:=by
  rw [fP.frozen (by simp only [zK];omega)]
  rw [World.frozen?_of_block (w:=w.alloc (.cells #[.slice none 0 0] 43)) (Below.heap_alloc _ _ _ (by simp))];simp
 have hN:z9 (w.heap.size+1) 0 (.slice none 0 0) (.slice none 0 0) w1:=by
  unfold z9;rw [fP.block _ (by simp)]
  have:=zG (w.alloc (.cells #[.slice none 0 0] 43)) (.cells #[str [],.int .i64 0,.slice none 0 0,.slice none 0 0] 48)
  rw [zK] at this;exact this
 subst e1
 have Aw:Rep (w.heap.size+1 < ·) w1 (kz (zL s).1) (.slice a1 (zL s).1.args.length c1):=(Rep.keep fun b o h ho=>⟨by have:=y6 h;rw [zK] at this;omega,ho⟩).1 _ _ se
 have HS:Hid (qx s text=if (zL s).2=false\/2000<text.length then none else
  match rdN 101 (zL s).1.args text with
  | none=>none
  | some (b,rest)=>if rest=[]/\zW b<=200 then some b else none):=rfl
 have Dw:=ed (vT (l:=s))
 generalize hT:(zL s).1=t at *
 generalize hO:(zL s).2=ok at *
 have HT:=ed hT;clear hT hO se
 obtain ⟨q0,q1,q2,q3,ql,qf⟩:=hN.cells
 have qf0:=qf 0;have qf1:=qf 1;have C8:=qf 2;have GJ:=qf 3;clear qf
 by_cases mi:ok=true/\text.length<=2000
 rotate_left
 ·have hn:qx s text=none:=by
   rw [HS.out,if_pos]
   cases ok with
   | false=>exact .inl rfl
   | true=>exact .inr (by simp at mi;omega)
  have HN:=ed hn;clear hn
  have mi:ok=false\/(ok=true/\(2000:Int)<(text.length:Int)):=by
   cases ok with
   | false=>exact .inl rfl
   | true=>exact .inr ⟨rfl,by simp at mi;omega⟩
  have h0:z9 (w.heap.size+1) 0 (.slice none 0 0) (.slice none 0 0) (w1.setCell ⟨w.heap.size,0,none⟩ (.slice a1 t.args.length c1)):=by
   unfold z9;rw [fZ _ _ _ _ (by simp)];exact hN
  obtain ⟨W,hW,s0,s1,s2,s3,fD,fO⟩:=h0.store (.string ⟨#[]⟩) (.int .i64 0) (.slice none 0 0) (.slice none 0 0)
  have t0:W.cell? ⟨w.heap.size,0,none⟩=some (.slice a1 t.args.length c1):=wV (jr r0 _) fun x hx=>fO _ x (by simp) hx
  have aT:=fD _ _ (nw.setCell (p:=⟨w.heap.size,0,none⟩) (ei _) (.slice a1 t.args.length c1)) (by omega)
  have BM:Rep (w.heap.size<=·) W (kz t) (.slice a1 t.args.length c1):=(Rep.keep fun b o h ho=>⟨by omega,fO b o (by omega) (by rw [fZ _ _ _ _ (by simp;omega)];exact ho)⟩).1 _ _ Aw
  have FIN:Hid (∀ o,je s text w (.returned (.tuple #[.agg #[.slice a1 t.args.length c1],.agg #[str [],.int .i64 0,.slice none 0 0,.slice none 0 0],.bool false])) (W.alloc o)):=fun o =>
   je.no (a:=a1) (c:=c1) (by rw [HT.out]) rfl HN.out (aT.alloc aT.size o) (by rw [HT.out];exact (Rep.keep fun b o h ho=>⟨h,zY ho⟩).1 _ _ BM)
  have HW:=ed hW;clear h0 hW fD fO aT BM
  rcases mi with rfl | ⟨rfl,h⟩
  all_goals
   go_wp2_with fail
   rw [<- HW.out]
   refine bodyPost_ret (v:=.tuple #[.agg #[.slice a1 t.args.length c1],.agg #[str [],.int .i64 0,.slice none 0 0,.slice none 0 0],.bool false]) (by simp [results,Tryz.results45,go_sem,zJ t0,zJ s0,zJ s1,zJ s2,zJ s3]) rfl ?_
   exact FIN.out _
 obtain ⟨rfl,Er⟩:=mi
 have htl':¬ (2000:Int)<(text.length:Int):=by omega
 have fU:=Dw.out rfl
 have hm:qx s text=(match rdN 101 t.args text with
  | none=>none
  | some (b,rest)=>if rest=[]/\zW b<=200 then some b else none):=by rw [HS.out,if_neg (by simp;omega)]
 have HM:=ed hm;clear hm HS Dw
 have hvE:=Aw
 rw [qv] at hvE
 have hho:=bU fU
 go_wp2_with fail
 refine (l3Read_any text hl 101 0 rfl (w.heap.size+1 < ·) t.args _ 0 _ (Nat.zero_le _) hho (by exact (Rep.keep fun b o h ho=>⟨h,zY ho⟩).1 _ _ hvE)).mono ?_
 rw [List.drop_zero]
 rintro en w2 ⟨s',v',a2,n2,c2,a3,n3,c3,k,rfl,fY,sZ,tW⟩
 have z2:=fY.size
 rw [zK] at z2
 have Dr:Below w.heap.size w w2:=(nw.alloc (by omega) _).trans (fY.mono (by rw [zK];omega))
 have r0':w2.cell? ⟨w.heap.size,0,none⟩=some (.slice none 0 0):=by rw [fY.cell (by rw [zK];simp only;omega)];exact zJ r0
 have rf0':w2.frozen? ⟨w.heap.size,0,none⟩=false:=by rw [fY.frozen (by rw [zK];simp only;omega)];rw [World.frozen?_of_block (w:=w1) (Below.heap_alloc _ _ _ aO)];exact mg
 have hN':z9 (w.heap.size+1) 0 (.slice none 0 0) (.slice none 0 0) w2:=by
  unfold z9;rw [fY.block _ (by rw [zK];omega)];exact zY hN
 have D7:w2.cell? ⟨w1.heap.size,0,none⟩=some (.slice a1 t.args.length c1):=by rw [fY.cell (by rw [zK];simp only;omega)];simp
 have GS:Rep (w.heap.size+1 < ·) w2 (kz t) (.slice a1 t.args.length c1):=(Rep.keep fun b o h ho=>⟨h,by rw [fY.block b (by have:=zZ ho;rw [zK];omega)];exact zY ho⟩).1 _ _ Aw
 clear r0 mg hN q0 q1 q2 q3 ql qf0 qf1 C8 GJ hvE Aw hho
 obtain ⟨q0,q1,q2,q3,ql,qf⟩:=hN'.cells
 have qf0:=qf 0;have qf1:=qf 1;have C8:=qf 2;have GJ:=qf 3;clear qf
 have y1:w.heap.size<w2.heap.size:=by omega
 have y2:w1.heap.size<w2.heap.size:=by omega
 have fL:=ed fY;clear fY
 by_cases hk:k=(text.length:Int)
 rotate_left
 ·have g1:(k == (text.length:Int))=false:=by rw [beq_eq_false_iff_ne];exact hk
  have hn:qx s text=none:=by
   rw [HM.out]
   cases hq:rdN 101 t.args text with
   | none=>rfl
   | some x =>
     obtain ⟨b,rest⟩:=x
     have h1:=(tW b rest hq).1
     simp only
     rw [if_neg]
     rintro ⟨rfl,_⟩
     exact hk (by rw [h1];simp)
  have HN:=ed hn
  clear hn hk sZ tW
  have h0:z9 (w.heap.size+1) 0 (.slice none 0 0) (.slice none 0 0) (w2.setCell ⟨w.heap.size,0,none⟩ (.slice a1 t.args.length c1)):=by
   unfold z9;rw [fZ _ _ _ _ (by simp)];exact hN'
  obtain ⟨W,hW,s0,s1,s2,s3,fD,fO⟩:=h0.store (str s') (.int .i64 v') (.slice a2 n2 c2) (.slice a3 n3 c3)
  have t0:W.cell? ⟨w.heap.size,0,none⟩=some (.slice a1 t.args.length c1):=wV (jr r0' _) fun x hx=>fO _ x (by simp) hx
  have aT:=fD _ _ (Dr.setCell (p:=⟨w.heap.size,0,none⟩) (ei _) (.slice a1 t.args.length c1)) (by omega)
  have BM:Rep (w.heap.size<=·) W (kz t) (.slice a1 t.args.length c1):=(Rep.keep fun b o h ho=>⟨by omega,fO b o (by omega) (by rw [fZ _ _ _ _ (by simp;omega)];exact ho)⟩).1 _ _ GS
  have FIN:Hid (∀ o,je s text w (.returned (.tuple #[.agg #[.slice a1 t.args.length c1],.agg #[str s',.int .i64 v',.slice a2 n2 c2,.slice a3 n3 c3],.bool false])) (W.alloc o).drew):=fun o =>
   je.no (a:=a1) (c:=c1) (by rw [HT.out]) rfl HN.out ((aT.alloc aT.size o).drew) (by rw [HT.out];exact ((Rep.keep fun b o h ho=>⟨h,zY ho⟩).1 _ _ BM).drew)
  have HW:=ed hW;clear h0 hW fD fO aT BM
  go_wp2_with fail
  go_region
  go_wp2_with fail
  rw [<- HW.out]
  refine bodyPost_ret (v:=.tuple #[.agg #[.slice a1 t.args.length c1],.agg #[str s',.int .i64 v',.slice a2 n2 c2,.slice a3 n3 c3],.bool false]) (by simp [results,Tryz.results45,go_sem,zJ t0,zJ s0,zJ s1,zJ s2,zJ s3]) rfl ?_
  exact FIN.out _
 obtain ⟨b,hqb⟩:∃ b,rdN 101 t.args text=some (b,[]):=by
  cases hq:rdN 101 t.args text with
  | none=>have:=sZ hq;omega
  | some x =>
    obtain ⟨b,rest⟩:=x
    have h1:=(tW b rest hq).1
    have:rest.length=0:=by omega
    rw [List.eq_nil_of_length_eq_zero this];exact ⟨b,rfl⟩
 have hrB:=(tW b [] hqb).2
 have hsz:=rdN_size 101 hqb
 have hm:qx s text=if zW b<=200 then some b else none:=by
  rw [HM.out,hqb];simp
 have HM:=ed hm
 have hlB:Lim (zW b):=hl.mono (by simp at hsz;omega)
 have g1:(k == (text.length:Int))=true:=by rw [beq_iff_eq];exact hk
 clear hm hqb sZ tW hsz
 have HK:=ed hk;clear hk
 have hrA:zX (w.heap.size+1 < ·) (w2.alloc (.cells #[str s',.int .i64 v',.slice a2 n2 c2,.slice a3 n3 c3] 48)) (kE b) [str s',.int .i64 v',.slice a2 n2 c2,.slice a3 n3 c3] :=
  (Rep.keep fun b o h ho=>⟨by have:=y6 h;omega,zY ho⟩).2 _ _ hrB
 have hTA:(w2.alloc (.cells #[str s',.int .i64 v',.slice a2 n2 c2,.slice a3 n3 c3] 48)).cell? ⟨w1.heap.size,0,none⟩=some (.slice a1 t.args.length c1):=zJ D7
 have n0:(w2.alloc (.cells #[str s',.int .i64 v',.slice a2 n2 c2,.slice a3 n3 c3] 48)).cell? ⟨w2.heap.size,0,none⟩=some (str s'):=by simp
 have n1:(w2.alloc (.cells #[str s',.int .i64 v',.slice a2 n2 c2,.slice a3 n3 c3] 48)).cell? ⟨w2.heap.size,1,none⟩=some (.int .i64 v'):=by simp
 have iF:(w2.alloc (.cells #[str s',.int .i64 v',.slice a2 n2 c2,.slice a3 n3 c3] 48)).cell? ⟨w2.heap.size,2,none⟩=some (.slice a2 n2 c2):=by simp
 have lg:(w2.alloc (.cells #[str s',.int .i64 v',.slice a2 n2 c2,.slice a3 n3 c3] 48)).cell? ⟨w2.heap.size,3,none⟩=some (.slice a3 n3 c3):=by simp
 have Dt:KeepS w1.heap.size w2.heap.size (.slice a1 t.args.length c1) (str s') (.int .i64 v') (.slice a2 n2 c2) (.slice a3 n3 c3) (w2.alloc (.cells #[str s',.int .i64 v',.slice a2 n2 c2,.slice a3 n3 c3] 48)):=⟨hTA,n0,n1,iF,lg⟩
 have hK3d:KeepS w1.heap.size w2.heap.size (.slice a1 t.args.length c1) (str s') (.int .i64 v') (.slice a2 n2 c2) (.slice a3 n3 c3) (w2.alloc (.cells #[str s',.int .i64 v',.slice a2 n2 c2,.slice a3 n3 c3] 48)).drew:=Dt
 have lp:w1.heap.size≠w.heap.size:=by omega
 have C_:w2.heap.size≠w.heap.size:=by omega
 have sT:w1.heap.size≠w.heap.size+1:=by omega
 have sE:w2.heap.size≠w.heap.size+1:=by omega
 clear hTA n0 n1 iF lg
 go_wp2_with fail
 go_region_held3 (fun w'=>w'.cell? ⟨w1.heap.size,0,none⟩=some (.slice a1 t.args.length c1)/\w'.cell? ⟨w2.heap.size,0,none⟩=some (str s')/\w'.cell? ⟨w2.heap.size,1,none⟩=some (.int .i64 v')/\w'.cell? ⟨w2.heap.size,2,none⟩=some (.slice a2 n2 c2)/\w'.cell? ⟨w2.heap.size,3,none⟩=some (.slice a3 n3 c3))
  (first
   | with_reducible exact Dt
   | with_reducible exact hK3d
   | with_reducible exact iG
   | with_reducible exact iG.set _ _ _ lp C_
   | with_reducible exact (iG.set _ _ _ lp C_).set _ _ _ sT sE
   | with_reducible exact ((iG.set _ _ _ lp C_).set _ _ _ sT sE).set _ _ _ sT sE
   | with_reducible exact (((iG.set _ _ _ lp C_).set _ _ _ sT sE).set _ _ _ sT sE).set _ _ _ sT sE
   | with_reducible exact ((((iG.set _ _ _ lp C_).set _ _ _ sT sE).set _ _ _ sT sE).set _ _ _ sT sE).set _ _ _ sT sE
   | with_reducible exact iG.set _ _ _ sT sE
   | with_reducible exact (iG.set _ _ _ sT sE).set _ _ _ sT sE
   | with_reducible exact ((iG.set _ _ _ sT sE).set _ _ _ sT sE).set _ _ _ sT sE
   | with_reducible exact (((iG.set _ _ _ sT sE).set _ _ _ sT sE).set _ _ _ sT sE).set _ _ _ sT sE
   | with_reducible exact ((((iG.set _ _ _ sT sE).set _ _ _ sT sE).set _ _ _ sT sE).set _ _ _ sT sE).set _ _ _ lp C_)
  (first
   | (go_at_call 36;refine (gR (zW b) b (ei _) hlB (w.heap.size+1 < ·) _ _ _ _ _ _ _ _ _ (by exact hrA.drew)).mono ?_;rintro en w5 ⟨rfl,fv⟩;have iG:KeepS w1.heap.size w2.heap.size (.slice a1 t.args.length c1) (str s') (.int .i64 v') (.slice a2 n2 c2) (.slice a3 n3 c3) w5:=⟨(fv.cell (by simp;omega)).trans Dt.1,(fv.cell (by simp)).trans Dt.2.1,(fv.cell (by simp)).trans Dt.2.2.1,(fv.cell (by simp)).trans Dt.2.2.2.1,(fv.cell (by simp)).trans Dt.2.2.2.2⟩;have z5:=fv.size;have hz5:w.heap.size<w5.heap.size:=(by simp at z5;omega);have r5:w5.cell? ⟨w.heap.size,0,none⟩=some (.slice none 0 0):=(fv.cell (by simp;omega)).trans (zJ r0');have f5:w5.frozen? ⟨w.heap.size,0,none⟩=false:=(fv.frozen (by simp;omega)).trans ((World.frozen?_of_block (w:=w2) (Below.heap_alloc _ _ _ y1)).trans rf0');have hN5:z9 (w.heap.size+1) 0 (.slice none 0 0) (.slice none 0 0) w5:=(by unfold z9;rw [fv.block _ (by simp;omega)];exact zY hN');obtain ⟨p0,p1,p2,p3,pl,pf⟩:=hN5.cells;have pf0:=pf 0;have pf1:=pf 1;have pf2:=pf 2;have pf3:=pf 3;clear pf))
 go_wp2_with fail
 have h0:z9 (w.heap.size+1) 0 (.slice none 0 0) (.slice none 0 0) (w5.setCell ⟨w.heap.size,0,none⟩ (.slice a1 t.args.length c1)):=by
  unfold z9;rw [fZ _ _ _ _ (by simp)];exact hN5
 obtain ⟨W,hW,s0,s1,s2,s3,fD,fO⟩:=h0.store (str s') (.int .i64 v') (.slice a2 n2 c2) (.slice a3 n3 c3)
 have t0:W.cell? ⟨w.heap.size,0,none⟩=some (.slice a1 t.args.length c1):=wV (jr r5 _) fun x hx=>fO _ x (by simp) hx
 have tD:Below w2.heap.size w2 w5:=((((e_ _ _).alloc (ei _) _).drew).trans (fv.mono (by simp)))
 have hbC:=zzT Dr tD
 have aT:=fD _ _ (hbC.setCell (p:=⟨w.heap.size,0,none⟩) (ei _) (.slice a1 t.args.length c1)) (by omega)
 have keepF:∀ i o,w.heap.size+1<i->w2.heap[i]? = some o->W.heap[i]? = some o:=fun i o h ho =>
  fO i o (by omega) (by rw [fZ _ _ _ _ (by simp;omega),tD.block i (zZ ho)];exact ho)
 have BM:Rep (w.heap.size<=·) W (kz t) (.slice a1 t.args.length c1):=(Rep.keep fun b o h ho=>⟨by omega,keepF b o h ho⟩).1 _ _ GS
 have hrN:zX (w.heap.size<=·) W (kE b) [str s',.int .i64 v',.slice a2 n2 c2,.slice a3 n3 c3]:=(Rep.keep fun b o h ho=>⟨by have:=y6 h;omega,keepF b o (by have:=y6 h;omega) ho⟩).2 _ _ hrB
 rw [<- hW]
 refine bodyPost_ret (v:=.tuple #[.agg #[.slice a1 t.args.length c1],.agg #[str s',.int .i64 v',.slice a2 n2 c2,.slice a3 n3 c3],.bool (decide ((zW b:Int)<=200))]) (by simp [results,Tryz.results45,go_sem,t0,s0,s1,s2,s3]) rfl ?_
 by_cases rP:zW b<=200
 ·refine je.yes (a:=a1) (c:=c1) (by rw [HT.out]) (by rw [decide_eq_true_eq];omega) (by rw [HM.out,if_pos rP]) aT (by rw [HT.out];exact BM) hrN
 ·exact je.no (a:=a1) (c:=c1) (by rw [HT.out]) (by rw [decide_eq_false_iff_not];omega) (by rw [HM.out,if_neg rP]) aT (by rw [HT.out];exact BM)
theorem dig_iff (c:UInt8):dig c=true↔48<=c.toNat/\c.toNat<=57:=by
 simp [dig,UInt8.le_iff_toNat_le]
theorem digit_ofNat {k:Nat} (h:k<10):(UInt8.ofNat (48+k)).toNat=48+k:=by
 rw [UInt8.toNat_ofNat'];exact Nat.mod_eq_of_lt (by omega)
def uI (l:Bs):Prop:=l=[]\/∃ c r,l=c::r/\sep c=true
theorem dig_sep {c:UInt8} (h:dig c=true):sep c=false:=by
 have:=(dig_iff c).1 h
 rw [Bool.eq_false_iff];intro hs
 simp only [sep,Bool.or_eq_true,beq_iff_eq] at hs
 rcases hs with (rfl | rfl) | rfl
 ·have:(32:UInt8).toNat=32:=rfl;omega
 ·have:(40:UInt8).toNat=40:=rfl;omega
 ·have:(41:UInt8).toNat=41:=rfl;omega
theorem yJ (l:Bs):l=zu l++zS l:=(List.takeWhile_append_dropWhile).symm
theorem dN (l:Bs):uI (zS l):=by
 unfold zS
 induction l with
 | nil=>exact .inl rfl
 | cons c cs ih =>
   rw [List.dropWhile_cons]
   split
   ·exact ih
   ·rename_i h;exact .inr ⟨c,cs,rfl,by simpa using h⟩
theorem word_of {w rest:Bs} (hw:∀ c∈w,sep c=false) (hr:uI rest):zu (w++rest)=w/\zS (w++rest)=rest:=by
 unfold zu zS
 induction w with
 | nil =>
   rcases hr with rfl | ⟨c,r,rfl,hc⟩
   ·exact ⟨rfl,rfl⟩
   ·simp [hc]
 | cons x xs ih =>
   have hx:=hw x (by simp)
   have:=ih fun c hc=>hw c (by simp [hc])
   simp [hx,this.1,this.2]
theorem u7 {c:UInt8} {r:Bs}:cut [c] (c::r)=some r:=by simp [cut,List.isPrefixOf]
mutual
def jP:List Ty->Bd->Prop
 | _,.leaf _=>True
 | hand,.ask v ss y n=>∃ t,hand[v]? = some t/\jW (jg hand t.args) ss/\jP hand y/\jP hand n
def jW:List (List Ty)->List Bd->Prop
 | hs,[]=>hs=[]
 | hs,b::bs=>∃ h aw,hs=h::aw/\jP h b/\jW aw bs
end
mutual
def cS:Bd->Bd->Bool
 | .leaf c,.leaf d=>c == 117 || c == d
 | .leaf c,.ask _ _ _ _=>c == 117
 | .ask _ _ _ _,.leaf _=>false
 | .ask v ss y n,.ask v' ss' y' n'=>v == v' && (pg ss ss' && (cS y y' && cS n n'))
def pg:List Bd->List Bd->Bool
 | a::xs,b::bs=>cS a b && pg xs bs
 | [],_=>true
 | _::_,[]=>false
end
theorem uu (levels ts:List Ty):(jg levels ts).length=ts.length:=by simp [jg]
theorem bX:∀ (xs:List Bd) (bs:List Bd) (hs ks:List (List Ty)),jW hs xs->jW ks bs->jW (hs++ks) (xs++bs)
 | [],bs,hs,ks,h1,h2=>by rw [jW] at h1;subst h1;simpa using h2
 | a::xs,bs,hs,ks,h1,h2=>by
   rw [jW] at h1
   obtain ⟨h,aw,rfl,e1,e2⟩:=h1
   exact ⟨h,aw++ks,rfl,e1,bX xs bs aw ks e2 h2⟩
theorem vK:∀ (xs:List Bd) (hs:List (List Ty)),jW hs xs->hs.length=xs.length
 | [],hs,h=>by rw [jW] at h;simp [h]
 | a::xs,hs,h=>by
   rw [jW] at h
   obtain ⟨h',aw,rfl,e1,e2⟩:=h
   simp [vK xs aw e2]
theorem w_:∀ (xs:List Bd) (hs:List (List Ty)),jW hs xs->∀ (k:Nat) (a:Bd),xs[k]? = some a->∃ h,hs[k]? = some h/\jP h a
 | [],hs,h,k,a,ha=>by simp at ha
 | a::xs,hs,h,k,a',ha=>by
   rw [jW] at h
   obtain ⟨h',aw,rfl,e1,e2⟩:=h
   cases k with
   | zero=>simp at ha;subst ha;exact ⟨h',rfl,e1⟩
   | succ k=>simp at ha;simpa using w_ xs aw e2 k a' ha
theorem fitBs_pair (h k:List Ty) (y n:Bd):jW [h,k] [y,n]↔jP h y/\jP k n:=by
 constructor
 ·intro hf
  rw [jW] at hf
  obtain ⟨a,as',e,h1,h2⟩:=hf
  simp only [List.cons.injEq] at e
  obtain ⟨rfl,rfl⟩:=e
  rw [jW] at h2
  obtain ⟨a,as',e,h3,h4⟩:=h2
  simp only [List.cons.injEq] at e
  obtain ⟨rfl,rfl⟩:=e
  exact ⟨h1,h3⟩
 ·rintro ⟨h1,h2⟩
  exact ⟨h,[k],rfl,h1,k,[],rfl,h2,by rw [jW]⟩
theorem fit_parts {hand:List Ty} {v:Nat} {ss:List Bd} {y n:Bd} (h:jP hand (.ask v ss y n)):∃ t,hand[v]? = some t/\jW (jK hand t) (kI (.ask v ss y n))/\ss.length=t.args.length:=by
 rw [jP] at h
 obtain ⟨t,h1,h2,h3,h4⟩:=h
 refine ⟨t,h1,bX _ _ _ _ h2 ((fitBs_pair _ _ _ _).2 ⟨h3,h4⟩),?_⟩
 have:=vK _ _ h2
 rw [uu] at this;exact this.symm
theorem bw:∀ (xs bs:List Bd),xs.length=bs.length->(pg xs bs=true↔∀ (k:Nat) (a b:Bd),xs[k]? = some a->bs[k]? = some b->cS a b=true)
 | [],[],_=>by simp [pg]
 | a::xs,b::bs,h=>by
   simp only [pg,Bool.and_eq_true]
   rw [bw xs bs (by simpa using h)]
   constructor
   ·rintro ⟨h1,h2⟩ k a' b' ha hb
    cases k with
    | zero=>simp at ha hb;subst ha;subst hb;exact h1
    | succ k=>simp at ha hb;exact h2 k a' b' ha hb
   ·intro h
    exact ⟨h 0 a b rfl rfl,fun k a' b' ha hb=>h (k+1) a' b' (by simpa using ha) (by simpa using hb)⟩
def wD (xs bs:List Bd) (k:Nat):Prop:=∀ (j:Nat) (a b:Bd),j<k->xs[j]? = some a->bs[j]? = some b->cS a b=true
theorem wD.zero (xs bs:List Bd):wD xs bs 0:=fun j a b h=>by omega
theorem wD.next {xs bs:List Bd} {k:Nat} (h:wD xs bs k) {a b:Bd} (ha:xs[k]? = some a) (hb:bs[k]? = some b) (oT:cS a b=true):wD xs bs (k+1):=by
 intro j a' b' hj h1 h2
 rcases Nat.lt_or_ge j k with h' | h'
 ·exact h j a' b' h' h1 h2
 ·obtain rfl:j=k:=by omega
  rw [ha] at h1;rw [hb] at h2;simp at h1 h2;subst h1;subst h2;exact oT
theorem wD.all {xs bs:List Bd} (hl:xs.length=bs.length) (h:wD xs bs xs.length):pg xs bs=true :=
 (bw xs bs hl).2 fun k a b ha hb=>h k a b (List.getElem?_eq_some_iff.1 ha).1 ha hb
def lvOf:Bd->Nat
 | .leaf _=>0
 | .ask v _ _ _=>v
theorem encN_lv {F:Nat->Prop} {w:World} {b:Bd} {s v k y:Value} (h:zX F w (kE b) [s,v,k,y]):v=.int .i64 (lvOf b:Nat):=by
 cases b with
 | leaf c =>
   rw [kE] at h
   obtain ⟨_,_,e,h0,h⟩:=zQ.1 h
   simp only [List.cons.injEq] at e;obtain ⟨rfl,rfl⟩:=e
   obtain ⟨_,_,e,h1,h⟩:=zQ.1 h
   simp only [List.cons.injEq] at e;obtain ⟨rfl,rfl⟩:=e
   exact zH.1 h1
 | ask lv ss yb nb =>
   rw [kE] at h
   obtain ⟨_,_,e,h0,h⟩:=zQ.1 h
   simp only [List.cons.injEq] at e;obtain ⟨rfl,rfl⟩:=e
   obtain ⟨_,_,e,h1,h⟩:=zQ.1 h
   simp only [List.cons.injEq] at e;obtain ⟨rfl,rfl⟩:=e
   exact zH.1 h1
theorem wS (a b:Nat):((a:Int).tmod (b:Int))=((a % b:Nat):Int):=rfl
theorem dj (a b:Nat):((a:Int).tdiv (b:Int))=((a / b:Nat):Int):=rfl
theorem wN (n:Nat) (h:n<9223372036854775808):IntKind.i64.wrap (n:Int)=(n:Int):=by
 simp [IntKind.wrap,IntKind.bits,IntKind.signed];omega
def yR (r:Nat):UInt8:=UInt8.ofNat (48+r)
def dec (n:Nat):Bs:=if n<10 then [yR n] else dec (n / 10)++[yR (n % 10)]
theorem vD {n:Nat} (h:n<10):dec n=[yR n]:=by rw [dec,if_pos h]
theorem uN {n:Nat} (h:¬ n<10):dec n=dec (n / 10)++[yR (n % 10)]:=by rw [dec,if_neg h]
theorem u6 (k:Nat):∀ n,n<10 ^ (k+1)->(dec n).length<=k+1:=by
 induction k with
 | zero=>intro n h;rw [vD (by simpa using h)];simp
 | succ k ih =>
   intro n h
   by_cases Gu:n<10
   ·rw [vD Gu];simp
   ·rw [uN Gu]
    have:=ih (n / 10) (by rw [Nat.div_lt_iff_lt_mul (by omega),<- Nat.pow_succ];exact h)
    simp;omega
theorem str_add (a b:Bs):(⟨a.toArray⟩:ByteArray)++(⟨b.toArray⟩:ByteArray)=⟨(a++b).toArray⟩:=by
 have h:((⟨a.toArray⟩:ByteArray)++(⟨b.toArray⟩:ByteArray)).data=(a++b).toArray:=by
  rw [ByteArray.data_append];simp
 cases hx:(⟨a.toArray⟩:ByteArray)++(⟨b.toArray⟩:ByteArray) with
 | mk d=>rw [hx] at h;simp at h;rw [h]
theorem qR {P:Program} (a b:Bs) (h:a.length+b.length<=9223372036854775807) (w:World):(Op.stringOp .add ⟨a.toArray⟩ ⟨b.toArray⟩).run P w=.ok (str (a++b)) w:=by
 rw [run_string_add_sum w _ _ (by rw [wO,wO];exact h),str_add]
mutual
def kJ:Bd->Bs
 | .leaf c=>[c]
 | .ask v ss y n=>(((([40]++dec v++kT ss++[32])++kJ y)++[32])++kJ n)++[41]
def kT:List Bd->Bs
 | []=>[]
 | b::bs=>[32]++kJ b++kT bs
end
mutual
def lvB:Bd->Prop
 | .leaf _=>True
 | .ask v ss y n=>v<=10000/\gH ss/\lvB y/\lvB n
def gH:List Bd->Prop
 | []=>True
 | b::bs=>lvB b/\gH bs
end
theorem vX:∀ (xs ys:List Bd),kT (xs++ys)=kT xs++kT ys
 | [],ys=>by simp [kT]
 | x::xs,ys=>by simp [kT,vX xs ys]
theorem textBs_take {ts:List Bd} {k:Nat} {t:Bd} (h:ts[k]? = some t):kT (ts.take (k+1))=kT (ts.take k)++[32]++kJ t:=by
 rw [List.take_add_one,h,vX];simp [kT]
theorem dH:∀ (xs:List Bd),gH xs->∀ (k:Nat) (t:Bd),xs[k]? = some t->lvB t
 | [],_,k,t,h=>by simp at h
 | x::xs,hl,k,t,h=>by
   rw [gH] at hl
   cases k with
   | zero=>simp at h;subst h;exact hl.1
   | succ k=>simp at h;exact dH xs hl.2 k t h
mutual
theorem jo:∀ (b:Bd),lvB b->(kJ b).length+1<=12*zW b
 | .leaf c,_=>by simp [kJ,zW]
 | .ask v ss y n,h=>by
   rw [lvB] at h
   have h1:=u_ ss h.2.1
   have h2:=jo y h.2.2.1
   have h3:=jo n h.2.2.2
   have h4:(dec v).length<=5:=u6 4 v (by have:=h.1;omega)
   simp only [kJ,zW,List.length_append,List.length_cons,List.length_nil]
   omega
theorem u_:∀ (bs:List Bd),gH bs->(kT bs).length<=12*zR bs
 | [],_=>by simp [kT]
 | b::bs,h=>by
   rw [gH] at h
   have h1:=jo b h.1
   have h2:=u_ bs h.2
   simp only [kT,zR,List.length_append,List.length_cons,List.length_nil]
   omega
end
theorem dY (xs:List Bd) (k:Nat):(kT (xs.take k)).length<=(kT xs).length:=by
 have:=congrArg List.length (vX (xs.take k) (xs.drop k))
 rw [List.take_append_drop,List.length_append] at this
 omega
mutual
def zF:Ty->Bs
 | .mk ts=>textTs ts
def textTs:List Ty->Bs
 | []=>[98]
 | a::ts=>[40,62,32]++(zF a++([32]++(textTs ts++[41])))
end
theorem ue:zF (.mk [])=[98]:=by rw [zF,textTs]
theorem uX (a:Ty) (ts:List Ty):zF (.mk (a::ts))=[40,62,32]++(zF a++([32]++(zF (.mk ts)++[41]))):=by
 rw [zF,textTs,zF]
theorem jv (a:Ty) (ts:List Ty):zV (.mk (a::ts))=1+zV a+zV (.mk ts):=by
 simp only [zV,zt];omega
theorem dD (p r:Bs):cut p (p++r)=some r:=by
 unfold cut
 have h:p.isPrefixOf (p++r)=true:=List.isPrefixOf_iff_prefix.2 (List.prefix_append _ _)
 rw [if_pos h];simp
theorem noCut_b (r:Bs):pH [98] ([40,62,32]++r):=by
 show cut [98] ([40,62,32]++r)=none
 rfl
theorem wj (d:Nat):∀ (t:Ty) (r:Bs),zV t<=2*d+1->rdK d (zF t++r)=some (t,r):=by
 have hb:∀ (d:Nat) (r:Bs),rdK d (zF (.mk [])++r)=some (.mk [],r):=fun d r=>by
  rw [ue];exact wv (dD [98] r)
 induction d with
 | zero =>
   intro t r h
   obtain ⟨ts⟩:=t
   cases ts with
   | nil=>exact hb 0 r
   | cons a ts=>rw [jv] at h;have:=kr a;have:=kr (.mk ts);omega
 | succ d ih =>
   intro t r h
   obtain ⟨ts⟩:=t
   cases ts with
   | nil=>exact hb _ r
   | cons a ts =>
     rw [jv] at h
     have h1:=kr a;have h2:=kr (.mk ts)
     rw [uX]
     have e:([40,62,32]++(zF a++([32]++(zF (.mk ts)++[41]))))++r=[40,62,32]++(zF a++([32]++(zF (.mk ts)++([41]++r)))):=by simp
     rw [e,vU (noCut_b _)]
     simp only [dD,Option.bind_eq_bind,Option.bind_some,ih a _ (by omega:zV a<=2*d+1),ih (.mk ts) _ (by omega:zV (.mk ts)<=2*d+1)]
     rfl
theorem jk:∀ (n:Nat) (t:Ty),zV t<=n->(zF t).length+2=3*zV t:=by
 intro n
 induction n with
 | zero=>intro t h;have:=kr t;omega
 | succ n ih =>
   intro t h
   obtain ⟨ts⟩:=t
   cases ts with
   | nil=>rw [ue];simp [zV,zt]
   | cons a ts =>
     rw [jv] at h ⊢
     have h1:=kr a;have h2:=kr (.mk ts)
     have k1:=ih a (by omega)
     have k2:=ih (.mk ts) (by omega)
     rw [uX]
     simp only [List.length_append,List.length_cons,List.length_nil]
     omega
theorem v_ {t:Ty} (h:zV t<=15):zL (zF t)=(t,true):=by
 have hl:=jk 15 t h
 unfold zL
 rw [if_neg (by omega)]
 have:=wj 20 t [] (by omega)
 rw [List.append_nil] at this
 have h2:rdS 21 (zF t)=some (t,[]):=this
 rw [h2]
 simp [h]
inductive Clo where
 | mk (b:Bd) (env:List Clo) (begun:Nat) (path:Bs)
def Clo.body:Clo->Bd | .mk b _ _ _=>b
def Clo.env:Clo->List Clo | .mk _ e _ _=>e
def Clo.begun:Clo->Nat | .mk _ _ n _=>n
def Clo.path:Clo->Bs | .mk _ _ _ p=>p
inductive Mn where
 | op (o:Nat) (t:Ty)
 | bd (t:Ty) (b:Bd) (env:List Mn)
structure Gf where
 yes:Bd
 no:Bd
 env:List Mn
def opens:Nat->List Ty->List Mn
 | _,[]=>[]
 | n,t::ts=>.op n t::opens (n+1) ts
def owns (env:List Mn):List Ty->List Bd->List Mn
 | t::ts,s::ss=>.bd t s env::owns env ts ss
 | _,_=>[]
def kh (ev:Nat->Bd->List Mn->Nat->List Gf->Option (Bd×Nat)) (env:List Mn) (n:Nat):Nat->List Ty->List Bd->Option (List Bd×Nat)
 | l,t::ts,s::ss=>do
   let (x,l1)<-ev l s (env++opens n t.args) (n+t.args.length) []
   let (xs,l2)<-kh ev env n l1 ts ss
   some (x::xs,l2)
 | l,_,_=>some ([],l)
def ev:Nat->Nat->Bd->List Mn->Nat->List Gf->Option (Bd×Nat)
 | 0,_,_,_,_,_=>none
 | d+1,l,b,env,n,st=>match l with
   | 0=>none
   | l+1=>match b with
     | .leaf c=>if c=117 then some (.leaf c,l) else match st with
       | []=>some (.leaf c,l)
       | f::st'=>ev d l (if c=116 then f.yes else f.no) f.env n st'
     | .ask v ss y no=>match env[v]? with
       | none=>none
       | some (.bd t b' e)=>ev d l b' (e++owns env t.args ss) n (⟨y,no,env⟩::st)
       | some (.op o t)=>do
         let (xs,l1)<-kh (ev d) env n l t.args ss
         let (x,l2)<-ev d l1 y env n st
         let (z,l3)<-ev d l2 no env n st
         some (.ask o xs x z,l3)
def kD (ev:Nat->Nat->Bd->List Mn->Nat->List Gf->Option (Bd×Nat×Nat)) (env:List Mn) (n:Nat):Nat->Nat->List Ty->List Bd->Option (List Bd×Nat×Nat)
 | k,l,t::ts,s::ss=>do
   let (x,k1,l1)<-ev k l s (env++opens n t.args) (n+t.args.length) []
   let (xs,k2,l2)<-kD ev env n k1 l1 ts ss
   some (x::xs,k2,l2)
 | k,l,_,_=>some ([],k,l)
def evN:Nat->Nat->Nat->Bd->List Mn->Nat->List Gf->Option (Bd×Nat×Nat)
 | 0,_,_,_,_,_,_=>none
 | d+1,k,l,b,env,n,st=>match l with
   | 0=>none
   | l+1=>match k with
     | 0=>none
     | k+1=>match b with
       | .leaf c=>if c=117 then some (.leaf c,k,l) else match st with
         | []=>some (.leaf c,k,l)
         | f::st'=>evN d (k+1) l (if c=116 then f.yes else f.no) f.env n st'
       | .ask v ss y no=>match env[v]? with
         | none=>none
         | some (.bd t b' e)=>evN d (k+1) l b' (e++owns env t.args ss) n (⟨y,no,env⟩::st)
         | some (.op o t)=>do
           let (xs,k1,l1)<-kD (evN d) env n k l t.args ss
           let (x,k2,l2)<-evN d k1 l1 y env n st
           let (z,k3,l3)<-evN d k2 l2 no env n st
           some (.ask o xs x z,k3,l3)
def wU (k:Nat):Option (Bd×Nat)->Option (Bd×Nat×Nat)
 | none=>none
 | some (b,l)=>if zW b<=k then some (b,k-zW b,l) else none
def xf (k:Nat):Option (List Bd×Nat)->Option (List Bd×Nat×Nat)
 | none=>none
 | some (bs,l)=>if zR bs<=k then some (bs,k-zR bs,l) else none
theorem cR (k:Nat):wU k none=none:=rfl
theorem eF {k l:Nat} {b:Bd} (h:zW b<=k):wU k (some (b,l))=some (b,k-zW b,l):=by simp only [wU];rw [if_pos h]
theorem pY {k l:Nat} {b:Bd} (h:¬ zW b<=k):wU k (some (b,l))=none:=by simp only [wU];rw [if_neg h]
theorem capNs_none (k:Nat):xf k none=none:=rfl
theorem capNs_pos {k l:Nat} {b:List Bd} (h:zR b<=k):xf k (some (b,l))=some (b,k-zR b,l):=by simp only [xf];rw [if_pos h]
theorem capNs_neg {k l:Nat} {b:List Bd} (h:¬ zR b<=k):xf k (some (b,l))=none:=by simp only [xf];rw [if_neg h]
theorem eP (d:Nat) (ih:∀ k l b env n st,evN d k l b env n st=wU k (ev d l b env n st)) (env:List Mn) (n:Nat) :
 ∀ (ts:List Ty) (ss:List Bd) (k l:Nat),kD (evN d) env n k l ts ss=xf k (kh (ev d) env n l ts ss)
 | [],ss,k,l=>by cases ss <;> simp [kD,kh,xf,zR]
 | t::ts,[],k,l=>by simp [kD,kh,xf,zR]
 | t::ts,s::ss,k,l=>by
   simp only [kD,kh,Option.bind_eq_bind,ih]
   cases h1:ev d l s (env++opens n t.args) (n+t.args.length) [] with
   | none=>simp [wU,xf]
   | some x =>
     obtain ⟨x,l1⟩:=x
     simp only [wU,Option.bind_some]
     by_cases hx:zW x<=k
     ·rw [if_pos hx]
      simp only [Option.bind_some,eP d ih env n ts ss]
      cases h2:kh (ev d) env n l1 ts ss with
      | none=>simp [xf]
      | some y =>
        obtain ⟨xs,l2⟩:=y
        have hsz:zR (x::xs)=zW x+zR xs:=by simp only [zR]
        simp only [xf,Option.bind_some]
        by_cases hy:zR xs<=k-zW x
        ·rw [if_pos hy,if_pos (by omega),hsz];simp;omega
        ·rw [if_neg hy,if_neg (by omega)];rfl
     ·rw [if_neg hx]
      cases h2:kh (ev d) env n l1 ts ss with
      | none=>simp [xf]
      | some y =>
        obtain ⟨xs,l2⟩:=y
        have hsz:zR (x::xs)=zW x+zR xs:=by simp only [zR]
        simp only [xf,Option.bind_some]
        rw [if_neg (by omega)];rfl
theorem evN_eq (d:Nat):∀ (k l:Nat) (b:Bd) (env:List Mn) (n:Nat) (st:List Gf),evN d k l b env n st=wU k (ev d l b env n st):=by
 induction d with
 | zero=>intro k l b env n st;simp [evN,ev,wU]
 | succ d ih =>
   intro k l b env n st
   rw [evN.eq_def,ev.eq_def]
   cases l with
   | zero=>simp [wU]
   | succ l =>
     cases k with
     | zero =>
       simp only
       cases h:(match b with
     | .leaf c=>if c=117 then some (.leaf c,l) else match st with
       | []=>some (.leaf c,l)
       | f::st'=>ev d l (if c=116 then f.yes else f.no) f.env n st'
     | .ask v ss y no=>match env[v]? with
       | none=>none
       | some (.bd t b' e)=>ev d l b' (e++owns env t.args ss) n (⟨y,no,env⟩::st)
       | some (.op o t)=>do
         let (xs,l1)<-kh (ev d) env n l t.args ss
         let (x,l2)<-ev d l1 y env n st
         let (z,l3)<-ev d l2 no env n st
         some (.ask o xs x z,l3):Option (Bd×Nat)) with
       | none=>simp [wU]
       | some x=>obtain ⟨x,l'⟩:=x;have:=kW x;simp only [wU];rw [if_neg (by omega)]
     | succ k =>
       simp only
       cases b with
       | leaf c =>
         simp only
         by_cases hc:c=117
         ·rw [if_pos hc,if_pos hc];simp [wU,zW]
         ·rw [if_neg hc,if_neg hc]
          cases st with
          | nil=>simp [wU,zW]
          | cons f st'=>simp only;exact ih _ _ _ _ _ _
       | ask v ss y no =>
         simp only
         cases hv:env[v]? with
         | none=>simp [wU]
         | some m =>
           cases m with
           | bd t b' e=>simp only;exact ih _ _ _ _ _ _
           | op o t =>
             simp only [Option.bind_eq_bind,eP d ih,ih]
             cases h1:kh (ev d) env n l t.args ss with
             | none=>simp only [capNs_none,cR,Option.bind_none]
             | some x =>
               obtain ⟨xs,l1⟩:=x
               by_cases iu:zR xs<=k
               ·simp only [capNs_pos iu,Option.bind_some]
                cases h2:ev d l1 y env n st with
                | none=>simp only [cR,Option.bind_none]
                | some x =>
                  obtain ⟨x,l2⟩:=x
                  by_cases hx:zW x<=k-zR xs
                  ·simp only [eF hx,Option.bind_some]
                   cases h3:ev d l2 no env n st with
                   | none=>simp only [cR,Option.bind_none]
                   | some z =>
                     obtain ⟨z,l3⟩:=z
                     have hsz:zW (.ask o xs x z)=1+(zR xs+(zW x+zW z)):=by simp only [zW]
                     by_cases hz:zW z<=k-zR xs-zW x
                     ·simp only [eF hz,Option.bind_some]
                      rw [eF (by omega),hsz]
                      simp;omega
                     ·simp only [pY hz,Option.bind_some,Option.bind_none]
                      rw [pY (by omega)]
                  ·simp only [pY hx,Option.bind_some,Option.bind_none]
                   cases h3:ev d l2 no env n st with
                   | none=>rfl
                   | some z =>
                     obtain ⟨z,l3⟩:=z
                     have hsz:zW (.ask o xs x z)=1+(zR xs+(zW x+zW z)):=by simp only [zW]
                     simp only [Option.bind_some]
                     rw [pY (by omega)]
               ·simp only [capNs_neg iu,Option.bind_some,Option.bind_none]
                cases h2:ev d l1 y env n st with
                | none=>rfl
                | some x =>
                  obtain ⟨x,l2⟩:=x
                  simp only [Option.bind_some]
                  cases h3:ev d l2 no env n st with
                  | none=>rfl
                  | some z =>
                    obtain ⟨z,l3⟩:=z
                    have hsz:zW (.ask o xs x z)=1+(zR xs+(zW x+zW z)):=by simp only [zW]
                    simp only [Option.bind_some]
                    rw [pY (by omega)]
mutual
def xB (H:List Ty):Mn->Ty->Prop
 | .op o t,t'=>t=t'/\H[o]? = some t
 | .bd t b e,t'=>t=t'/\∃ h,qh H e h/\jP (h++t.args) b
def qh (H:List Ty):List Mn->List Ty->Prop
 | [],h=>h=[]
 | m::ms,h=>∃ t ts,h=t::ts/\xB H m t/\qh H ms ts
end
theorem mnFits_at {H:List Ty}:∀ (cs:List Mn) (h:List Ty),qh H cs h->∀ (i:Nat) (t:Ty),h[i]? = some t->∃ c,cs[i]? = some c/\xB H c t
 | [],h,k,i,c,hc=>by rw [qh] at k;subst k;simp at hc
 | c::cs,h,k,i,t',hc=>by
   rw [qh] at k
   obtain ⟨t,ts,rfl,k1,k2⟩:=k
   cases i with
   | zero=>simp at hc;subst hc;exact ⟨c,rfl,k1⟩
   | succ i=>simp at hc;simpa using mnFits_at cs ts k2 i t' hc
theorem yZ {H:List Ty}:∀ (xs bs:List Mn) (h k:List Ty),qh H xs h->qh H bs k->qh H (xs++bs) (h++k)
 | [],bs,h,k,h1,h2=>by rw [qh] at h1;subst h1;simpa using h2
 | a::xs,bs,h,k,h1,h2=>by
   rw [qh] at h1
   obtain ⟨t,ts,rfl,k1,k2⟩:=h1
   simp only [List.cons_append]
   rw [qh]
   exact ⟨t,ts++k,rfl,k1,yZ xs bs ts k k2 h2⟩
mutual
theorem mnFit_more {H X:List Ty}:∀ (m:Mn) (t:Ty),xB H m t->xB (H++X) m t
 | .op o t,t',h=>by
   rw [xB] at *
   exact ⟨h.1,by rw [List.getElem?_append_left (List.getElem?_eq_some_iff.1 h.2).1];exact h.2⟩
 | .bd t b e,t',h=>by
   rw [xB] at *
   obtain ⟨h1,k,h2,h3⟩:=h
   exact ⟨h1,k,wh e k h2,h3⟩
theorem wh {H X:List Ty}:∀ (ms:List Mn) (h:List Ty),qh H ms h->qh (H++X) ms h
 | [],h,k=>by rw [qh] at *;exact k
 | m::ms,h,k=>by
   rw [qh] at *
   obtain ⟨t,ts,rfl,k1,k2⟩:=k
   exact ⟨t,ts,rfl,mnFit_more m t k1,wh ms ts k2⟩
end
theorem cY {H:List Ty}:∀ (ts:List Ty) (n:Nat),(∀ i t,ts[i]? = some t->H[n+i]? = some t)->qh H (opens n ts) ts
 | [],n,h=>by rw [opens,qh]
 | t::ts,n,h=>by
   rw [opens,qh]
   refine ⟨t,ts,rfl,?_,cY ts (n+1) fun i t' hi=>?_⟩
   ·rw [xB];exact ⟨rfl,by have:=h 0 t rfl;simpa using this⟩
   ·have:=h (i+1) t' (by simpa using hi)
    rw [show n+1+i=n+(i+1) from by omega];exact this
theorem p8 (H:List Ty) (ts:List Ty):qh (H++ts) (opens H.length ts) ts :=
 cY ts H.length fun i t h=>by rw [List.getElem?_append_right (by omega),Nat.add_sub_cancel_left];exact h
theorem owns_fit {H h:List Ty} {env:List Mn} (he:qh H env h):∀ (ts:List Ty) (ss:List Bd),jW (jg h ts) ss->qh H (owns env ts ss) ts
 | [],ss,hf=>by
   rw [owns]
   ·rw [qh]
   ·intros;contradiction
 | t::ts,[],hf=>by
   rw [jW] at hf;simp [jg] at hf
 | t::ts,s::ss,hf=>by
   rw [jW] at hf
   obtain ⟨h',aw,e,h1,h2⟩:=hf
   simp only [jg,List.map_cons,List.cons.injEq] at e
   obtain ⟨rfl,rfl⟩:=e
   rw [owns,qh]
   refine ⟨t,ts,rfl,?_,owns_fit he ts ss h2⟩
   rw [xB]
   exact ⟨rfl,h,he,h1⟩
def gfFit (H:List Ty) (f:Gf):Prop:=∃ h,qh H f.env h/\jP h f.yes/\jP h f.no
structure jT (H:List Ty) (b:Bd) (env:List Mn) (st:List Gf):Prop where
 fit:∃ h,qh H env h/\jP h b
 frames:∀ f∈st,gfFit H f
theorem jT.back {H:List Ty} {b:Bd} {env:List Mn} {f:Gf} {st:List Gf} (h:jT H b env (f::st)) (c:UInt8):jT H (if c=116 then f.yes else f.no) f.env st:=by
 obtain ⟨k,k1,k2,k3⟩:=h.frames f (by simp)
 refine ⟨⟨k,k1,?_⟩,fun g hg=>h.frames g (by simp [hg])⟩
 split
 ·exact k2
 ·exact k3
theorem jT.ask {H:List Ty} {v:Nat} {ss:List Bd} {y no:Bd} {env:List Mn} {st:List Gf} (h:jT H (.ask v ss y no) env st) :
 ∃ m t hh,env[v]? = some m/\xB H m t/\qh H env hh/\jW (jg hh t.args) ss/\jP hh y/\jP hh no:=by
 obtain ⟨⟨hh,h1,h2⟩,_⟩:=h
 rw [jP] at h2
 obtain ⟨t,k1,k2,k3,k4⟩:=h2
 obtain ⟨m,m1,m2⟩:=mnFits_at _ _ h1 v t k1
 exact ⟨m,t,hh,m1,m2,h1,k2,k3,k4⟩
theorem jT.call {H:List Ty} {v:Nat} {ss:List Bd} {y no:Bd} {env:List Mn} {st:List Gf} (h:jT H (.ask v ss y no) env st) {t:Ty} {b':Bd} {e:List Mn} (he:env[v]? = some (.bd t b' e)) :
 ss.length=t.args.length/\jT H b' (e++owns env t.args ss) (⟨y,no,env⟩::st):=by
 obtain ⟨m,t',hh,m1,m2,m3,m4,m5,m6⟩:=h.ask
 rw [he] at m1;simp at m1;subst m1
 rw [xB] at m2
 obtain ⟨rfl,k,k1,k2⟩:=m2
 refine ⟨?_,⟨k++t.args,yZ _ _ _ _ k1 (owns_fit m3 _ _ m4),k2⟩,fun f hf=>?_⟩
 ·have:=vK _ _ m4;rw [uu] at this;exact this.symm
 ·rcases List.mem_cons.1 hf with rfl | hf
  ·exact ⟨hh,m3,m5,m6⟩
  ·exact h.frames f hf
theorem jT.keep {H:List Ty} {v:Nat} {ss:List Bd} {y no:Bd} {env:List Mn} {st:List Gf} (h:jT H (.ask v ss y no) env st) {t:Ty} {o:Nat} (he:env[v]? = some (.op o t)) :
 ss.length=t.args.length/\H[o]? = some t/\(∀ (k:Nat) (a:Ty) (s:Bd),t.args[k]? = some a->ss[k]? = some s->jT (H++a.args) s (env++opens H.length a.args) [])/\jT H y env st/\jT H no env st:=by
 obtain ⟨m,t',hh,m1,m2,m3,m4,m5,m6⟩:=h.ask
 rw [he] at m1;simp at m1;subst m1
 rw [xB] at m2
 obtain ⟨rfl,k1⟩:=m2
 have hl:=vK _ _ m4
 rw [uu] at hl
 refine ⟨hl.symm,k1,fun k a s ha hs=>?_,⟨⟨hh,m3,m5⟩,h.frames⟩,⟨⟨hh,m3,m6⟩,h.frames⟩⟩
 obtain ⟨x,hx,hf⟩:=w_ _ _ m4 k s hs
 have Dd:x=hh++a.args:=by simp [jg,ha] at hx;exact hx.symm
 subst Dd
 exact ⟨⟨hh++a.args,yZ _ _ _ _ (wh _ _ m3) (p8 H a.args),hf⟩,by simp⟩
theorem eW {H:List Ty} {env:List Mn} {d:Nat} (ih:∀ (H:List Ty) (l:Nat) (b:Bd) (env:List Mn) (st:List Gf) (out:Bd) (l':Nat),jT H b env st->ev d l b env H.length st=some (out,l')->jP H out) :
 ∀ (ts:List Ty) (ss:List Bd) (l:Nat) (outs:List Bd) (l':Nat),ss.length=ts.length->(∀ (k:Nat) (a:Ty) (s:Bd),ts[k]? = some a->ss[k]? = some s->jT (H++a.args) s (env++opens H.length a.args) []) ->
   kh (ev d) env H.length l ts ss=some (outs,l')->jW (jg H ts) outs
 | [],[],l,outs,l',hl,hk,h=>by simp [kh] at h;obtain ⟨rfl,rfl⟩:=h;simp [jg,jW]
 | [],s::ss,l,outs,l',hl,hk,h=>by simp at hl
 | t::ts,[],l,outs,l',hl,hk,h=>by simp at hl
 | t::ts,s::ss,l,outs,l',hl,hk,h=>by
   simp only [kh,Option.bind_eq_bind,Option.bind_eq_some_iff,Prod.exists] at h
   obtain ⟨x,l1,h1,xs,l2,h2,h3⟩:=h
   simp at h3;obtain ⟨rfl,rfl⟩:=h3
   have k0:=hk 0 t s rfl rfl
   have h1':ev d l s (env++opens H.length t.args) (H++t.args).length []=some (x,l1):=by rw [List.length_append];exact h1
   refine ⟨H++t.args,jg H ts,rfl,ih _ _ _ _ _ _ _ k0 h1',eW ih ts ss l1 xs l2 (by simpa using hl) (fun k a s' ha hs=>hk (k+1) a s' (by simpa using ha) (by simpa using hs)) h2⟩
theorem ev_fit (d:Nat):∀ (H:List Ty) (l:Nat) (b:Bd) (env:List Mn) (st:List Gf) (out:Bd) (l':Nat),jT H b env st->ev d l b env H.length st=some (out,l')->jP H out:=by
 induction d with
 | zero=>intro H l b env st out l' _ h;simp [ev] at h
 | succ d ih =>
   intro H l b env st out l' hf h
   rw [ev.eq_def] at h
   cases l with
   | zero=>simp at h
   | succ l =>
     simp only at h
     cases b with
     | leaf c =>
       simp only at h
       split at h
       ·simp at h;obtain ⟨rfl,_⟩:=h;simp [jP]
       ·cases st with
        | nil=>simp at h;obtain ⟨rfl,_⟩:=h;simp [jP]
        | cons f st'=>exact ih _ _ _ _ _ _ _ (hf.back c) h
     | ask v ss y no =>
       simp only at h
       cases hv:env[v]? with
       | none=>rw [hv] at h;simp at h
       | some m =>
         rw [hv] at h
         cases m with
         | bd t b' e=>exact ih _ _ _ _ _ _ _ (hf.call hv).2 h
         | op o t =>
           simp only [Option.bind_eq_bind,Option.bind_eq_some_iff,Prod.exists] at h
           obtain ⟨xs,l1,h1,x,l2,h2,z,l3,h3,h4⟩:=h
           simp at h4;obtain ⟨rfl,_⟩:=h4
           obtain ⟨k1,k2,k3,k4,k5⟩:=hf.keep hv
           rw [jP]
           exact ⟨t,k2,eW ih _ _ _ _ _ k1 k3 h1,ih _ _ _ _ _ _ _ k4 h2,ih _ _ _ _ _ _ _ k5 h3⟩
mutual
def wfB:Bd->Prop
 | .leaf c=>c=116\/c=102\/c=117
 | .ask _ ss y n=>yT ss/\wfB y/\wfB n
def yT:List Bd->Prop
 | []=>True
 | b::bs=>wfB b/\yT bs
end
theorem cg:∀ (xs ys:List Bd),yT xs->yT ys->yT (xs++ys)
 | [],ys,_,h=>h
 | x::xs,ys,h,k=>by rw [yT] at h;exact ⟨h.1,cg xs ys h.2 k⟩
theorem wfBs_at:∀ (xs:List Bd),yT xs->∀ (k:Nat) (b:Bd),xs[k]? = some b->wfB b
 | [],_,k,b,h=>by simp at h
 | x::xs,hw,k,b,h=>by
   rw [yT] at hw
   cases k with
   | zero=>simp at h;subst h;exact hw.1
   | succ k=>exact wfBs_at xs hw.2 k b (by simpa using h)
theorem dec_ne (n:Nat):dec n≠[]:=by
 by_cases h:n<10
 ·rw [vD h];simp
 ·rw [uN h];simp
theorem dig_digit {r:Nat} (h:r<10):dig (yR r)=true:=by
 rcases (by omega:r=0\/r=1\/r=2\/r=3\/r=4\/r=5\/r=6\/r=7\/r=8\/r=9) with rfl | rfl | rfl | rfl | rfl | rfl | rfl | rfl | rfl | rfl <;> rfl
theorem cF {r:Nat} (h:r<10):(yR r).toNat-48=r:=by
 rcases (by omega:r=0\/r=1\/r=2\/r=3\/r=4\/r=5\/r=6\/r=7\/r=8\/r=9) with rfl | rfl | rfl | rfl | rfl | rfl | rfl | rfl | rfl | rfl <;> rfl
theorem dec_all (n:Nat):∀ c∈dec n,dig c=true:=by
 induction n using Nat.strongRecOn with
 | _ n ih =>
   by_cases h:n<10
   ·rw [vD h];intro c hc;simp at hc;subst hc;exact dig_digit h
   ·rw [uN h]
    intro c hc
    rcases List.mem_append.1 hc with hc | hc
    ·exact ih (n / 10) (Nat.div_lt_self (by omega) (by omega)) c hc
    ·simp at hc;subst hc;exact dig_digit (Nat.mod_lt _ (by omega))
theorem dec_val (n:Nat):up (dec n)=n:=by
 induction n using Nat.strongRecOn with
 | _ n ih =>
   by_cases h:n<10
   ·rw [vD h];unfold up;simp only [List.foldl_cons,List.foldl_nil];rw [cF h];omega
   ·rw [uN h,dS,ih (n / 10) (Nat.div_lt_self (by omega) (by omega)),cF (Nat.mod_lt _ (by omega))];omega
theorem dec_head (n:Nat):1<(dec n).length->(dec n).head?≠some 48:=by
 induction n using Nat.strongRecOn with
 | _ n ih =>
   by_cases h:n<10
   ·rw [vD h];simp
   ·rw [uN h]
    intro _
    have hne:=dec_ne (n / 10)
    obtain ⟨c,cs,hc⟩:∃ c cs,dec (n / 10)=c::cs:=by
     cases hd:dec (n / 10) with
     | nil=>exact absurd hd hne
     | cons c cs=>exact ⟨c,cs,rfl⟩
    rw [hc]
    simp only [List.cons_append,List.head?_cons,ne_eq,Option.some.injEq]
    by_cases h1:1<(dec (n / 10)).length
    ·have:=ih (n / 10) (Nat.div_lt_self (by omega) (by omega)) h1
     rw [hc] at this;simpa using this
    ·have Gu:n / 10<10:=by
      rcases Nat.lt_or_ge (n / 10) 10 with h' | h'
      ·exact h'
      ·exfalso;apply h1
       rw [uN (by omega)]
       have:=List.length_pos_iff.2 (dec_ne (n / 10 / 10))
       simp;omega
     rw [vD Gu] at hc
     simp at hc
     obtain ⟨rfl,_⟩:=hc
     intro e
     have hv:=cF Gu
     rw [e] at hv
     have:(48:UInt8).toNat-48=0:=rfl
     omega
theorem digsOf_dec {v:Nat} (h:v<10000) (r:Bs):jH (dec v++32::r)=dec v:=by
 have h4:(dec v).length<=4:=u6 3 v (by omega)
 unfold jH
 have key:∀ (ds:Bs) (m:Nat),ds.length<=m->(∀ c∈ds,dig c=true)->((ds++32::r).take m).takeWhile dig=ds:=by
  intro ds
  induction ds with
  | nil =>
    intro m _ _
    cases m with
    | zero=>simp
    | succ m=>simp [dig]
  | cons d ds ih =>
    intro m hm hd
    cases m with
    | zero=>simp at hm
    | succ m =>
      simp only [List.cons_append,List.take_succ_cons,List.takeWhile_cons]
      rw [if_pos (hd d (by simp)),ih m (by simpa using hm) (fun c hc=>hd c (by simp [hc]))]
 exact key _ 4 h4 (dec_all v)
theorem specNum_dec {v:Nat} (h:v<10000) (r:Bs):j9 (dec v++32::r)=some (v,(dec v).length):=by
 unfold j9
 rw [digsOf_dec h,dec_val,if_neg]
 rintro (h1 | ⟨h1,h2⟩)
 ·exact dec_ne v h1
 ·have:=dec_head v h1
  apply this
  cases hd:dec v with
  | nil=>exact absurd hd (dec_ne v)
  | cons c cs=>rw [hd] at h2;simpa using h2
theorem textB_ask (v:Nat) (ss:List Bd) (y n:Bd):kJ (.ask v ss y n)=40::(dec v++(kT (ss++[y,n])++[41])):=by
 rw [kJ,vX];simp [kT]
theorem askOf_parts (v:Nat) (ss:List Bd) (y n:Bd):pW v ss.length (ss++[y,n])=some (.ask v ss y n):=by
 unfold pW
 rw [List.drop_left,List.take_left]
theorem wA {rd:RdS}:∀ (ps:List Bd) (hs:List (List Ty)) (r:Bs),hs.length=ps.length->(∀ (k:Nat) (h:List Ty) (p:Bd) (r:Bs),hs[k]? = some h->ps[k]? = some p->rd h (kJ p++r)=some (p,r))->zx rd hs (kT ps++r)=some (ps,r)
 | [],[],r,_,_=>by simp [zx,kT]
 | [],h::hs,r,hl,_=>by simp at hl
 | p::ps,[],r,hl,_=>by simp at hl
 | p::ps,h::hs,r,hl,hp=>by
   rw [kT,zx]
   have h0:=hp 0 h p (kT ps++r) rfl rfl
   have hc:cut [32] ([32]++kJ p++kT ps++r)=some (kJ p++(kT ps++r)):=by
    rw [List.append_assoc,List.append_assoc];exact dD [32] _
   simp only [qu,hc,Option.bind_eq_bind,Option.bind_some,h0,wA ps hs r (by simpa using hl) (fun k h' p' r' hh hk=>hp (k+1) h' p' r' (by simpa using hh) (by simpa using hk))]
theorem depthBs_mem {ts:List Bd} {t:Bd} (h:t∈ts):1+kR t<=kx ts:=by
 induction ts with
 | nil=>simp at h
 | cons x xs ih =>
   rcases List.mem_cons.1 h with rfl | h
   ·simp only [kx];omega
   ·have:=ih h;simp only [kx];omega
theorem rdN_text (e:Nat):∀ (hand:List Ty) (b:Bd) (r:Bs),jP hand b->wfB b->kR b<e->vV e hand->rdN e hand (kJ b++r)=some (b,r):=by
 induction e with
 | zero=>intro hand b r _ _ h;omega
 | succ e ih =>
   intro hand b r hf hw hd hh
   cases b with
   | leaf c =>
     rw [wfB] at hw
     rw [kJ]
     simp only [List.cons_append,List.nil_append,rdN]
     rw [if_pos hw]
   | ask v ss y n =>
     obtain ⟨t,ht,hfp,mm⟩:=fit_parts hf
     rw [wfB] at hw
     have hwp:yT (ss++[y,n]):=cg _ _ hw.1 ⟨hw.2.1,hw.2.2,trivial⟩
     have hv:v<10000:=by
      have h1:=(List.getElem?_eq_some_iff.1 ht).1
      have:=hh.2;omega
     rw [yu] at hd
     have hnum:j9 (dec v++(kT (ss++[y,n])++[41])++r)=some (v,(dec v).length):=by
      obtain ⟨q,hq⟩:∃ q,dec v++(kT (ss++[y,n])++[41])++r=dec v++32::q:=by
       cases ss with
       | nil=>exact ⟨kJ y++kT [n]++[41]++r,by simp [kT]⟩
       | cons s ss=>exact ⟨kJ s++kT (ss++[y,n])++[41]++r,by simp [kT]⟩
      rw [hq];exact specNum_dec hv q
     rw [textB_ask,List.cons_append,rdN.eq_def]
     simp only
     rw [if_neg (by decide),if_neg (by decide),hnum]
     simp only [ht]
     have JJ:(dec v++(kT (ss++[y,n])++[41])++r).drop (dec v).length=kT (ss++[y,n])++([41]++r):=by
      rw [List.append_assoc,List.drop_left,List.append_assoc]
     have tS:zx (rdN e) (jK hand t) (kT (ss++[y,n])++([41]++r))=some (ss++[y,n],[41]++r):=by
      refine wA _ _ _ (vK _ _ hfp) fun k h p r' hk hp=>?_
      obtain ⟨h',B3,hf'⟩:=w_ _ _ hfp k p hp
      rw [hk] at B3;simp at B3;subst B3
      have mF:p∈ss++[y,n]:=List.mem_of_getElem? hp
      have hdp:=depthBs_mem mF
      refine ih h p r' hf' (wfBs_at _ hwp k p hp) (by have:kx (ss++[y,n])<e+1:=hd;omega) ?_
      rcases Nat.lt_or_ge k t.args.length with G2 | G2
      ·obtain ⟨a,ha⟩:∃ a,t.args[k]? = some a:=⟨t.args[k],by simp [G2]⟩
       rw [be ha] at hk;simp at hk;subst hk
       exact hh.next ht (List.mem_of_getElem? ha)
      ·have aJ:k<t.args.length+2:=by
        have:=(List.getElem?_eq_some_iff.1 hk).1
        rwa [yI] at this
       rw [bf G2 aJ] at hk;simp at hk;subst hk
       have:=hh.same;rwa [List.append_nil] at this
     rw [JJ,tS]
     simp only [Option.bind_eq_bind,Option.bind_some,dD]
     rw [<- mm,askOf_parts]
     rfl
theorem wL {rd rd':RdS} (h:∀ hand l x,rd hand l=some x->rd' hand l=some x):∀ (hs:List (List Ty)) (l:Bs) (x:List Bd×Bs),zx rd hs l=some x->zx rd' hs l=some x
 | [],l,x,hx=>by simpa [zx] using hx
 | a::hs,l,x,hx=>by
   simp only [zx,qu,Option.bind_eq_bind,Option.bind_eq_some_iff,Prod.exists] at hx ⊢
   obtain ⟨b,l1,⟨l0,h0,h1⟩,bs,l2,h2,h3⟩:=hx
   exact ⟨b,l1,⟨l0,h0,h _ _ _ h1⟩,bs,l2,wL h hs l1 _ h2,h3⟩
theorem rdN_mono (e:Nat):∀ (e':Nat) (hand:List Ty) (l:Bs) (x:Bd×Bs),e<=e'->rdN e hand l=some x->rdN e' hand l=some x:=by
 induction e with
 | zero=>intro e' hand l x _ h;simp [rdN] at h
 | succ e ih =>
   intro e' hand l x he h
   cases e' with
   | zero=>omega
   | succ e' =>
     cases l with
     | nil=>simp [rdN] at h
     | cons c m =>
       simp only [rdN] at h ⊢
       split at h
       ·rename_i hc;rw [if_pos hc];exact h
       ·rename_i hc
        rw [if_neg hc]
        split at h
        ·simp at h
        ·rename_i n8
         rw [if_neg n8]
         cases hn:j9 m with
         | none=>rw [hn] at h;simp at h
         | some vk =>
           obtain ⟨v,k⟩:=vk
           rw [hn] at h
           simp only at h ⊢
           cases ht:hand[v]? with
           | none=>rw [ht] at h;simp at h
           | some t =>
             rw [ht] at h
             simp only [Option.bind_eq_bind,Option.bind_eq_some_iff,Prod.exists] at h ⊢
             obtain ⟨ps,l1,h1,h2⟩:=h
             exact ⟨ps,l1,wL (fun a b c d=>ih e' a b c (by omega) d) _ _ _ h1,h2⟩
theorem wI {rd:RdS} {P:Bd->Prop} (h:∀ hand l b r,rd hand l=some (b,r)->P b):∀ (hs:List (List Ty)) (l:Bs) (ps:List Bd) (r:Bs),zx rd hs l=some (ps,r)->∀ p∈ps,P p
 | [],l,ps,r,hx=>by simp [zx] at hx;obtain ⟨rfl,_⟩:=hx;simp
 | a::hs,l,ps,r,hx=>by
   simp only [zx,qu,Option.bind_eq_bind,Option.bind_eq_some_iff,Prod.exists] at hx
   obtain ⟨b,l1,⟨l0,h0,h1⟩,bs,l2,h2,h3⟩:=hx
   simp at h3;obtain ⟨rfl,rfl⟩:=h3
   intro p hp
   rcases List.mem_cons.1 hp with rfl | hp
   ·exact h _ _ _ _ h1
   ·exact wI h hs l1 bs l2 h2 p hp
theorem askOf_some {v n:Nat} {ps:List Bd} {b:Bd} (h:pW v n ps=some b):∃ ss y no,b=.ask v ss y no/\ps=ss++[y,no]:=by
 unfold pW at h
 split at h
 ·rename_i y no hd
  simp at h;subst h
  exact ⟨_,_,_,rfl,by rw [<- hd,List.take_append_drop]⟩
 ·simp at h
theorem wfBs_of:∀ (ps:List Bd),(∀ p∈ps,wfB p)->yT ps
 | [],_=>trivial
 | p::ps,h=>⟨h p (by simp),wfBs_of ps fun q hq=>h q (by simp [hq])⟩
theorem dR:∀ (xs ys:List Bd),yT (xs++ys)->yT xs/\yT ys
 | [],ys,h=>⟨trivial,h⟩
 | x::xs,ys,h=>by
   simp only [List.cons_append] at h;rw [yT] at h
   have:=dR xs ys h.2
   exact ⟨⟨h.1,this.1⟩,this.2⟩
theorem rdN_wf (e:Nat):∀ (hand:List Ty) (l:Bs) (b:Bd) (r:Bs),rdN e hand l=some (b,r)->wfB b/\kR b<e:=by
 induction e with
 | zero=>intro hand l b r h;simp [rdN] at h
 | succ e ih =>
   intro hand l b r h
   cases l with
   | nil=>simp [rdN] at h
   | cons c m =>
     simp only [rdN] at h
     split at h
     ·rename_i hc;simp at h;obtain ⟨rfl,_⟩:=h;exact ⟨hc,by simp [kR]⟩
     ·split at h
      ·simp at h
      ·split at h
       ·simp at h
       ·split at h
        ·simp at h
        ·simp only [Option.bind_eq_bind,Option.bind_eq_some_iff,Prod.exists] at h
         obtain ⟨ps,l1,h1,l2,h2,b',h3,h4⟩:=h
         simp at h4;obtain ⟨rfl,_⟩:=h4
         obtain ⟨ss,y,no,rfl,rfl⟩:=askOf_some h3
         have k1:=wI (P:=fun b=>wfB b/\kR b<e) (fun hand l b r h=>ih hand l b r h) _ _ _ _ h1
         have k2:=dR _ _ (wfBs_of _ fun p hp=>(k1 p hp).1)
         refine ⟨⟨k2.1,k2.2.1,k2.2.2.1⟩,?_⟩
         rw [yu]
         have key:∀ (qs:List Bd),(∀ q∈qs,kR q<e)->kx qs<=e:=by
          intro qs
          induction qs with
          | nil=>intro _;simp [kx]
          | cons q qs ihq =>
            intro hq
            have h1:=hq q (by simp)
            have h2:=ihq fun x hx=>hq x (by simp [hx])
            simp only [kx];omega
         exact Nat.lt_succ_of_le (key _ fun q hq=>(k1 q hq).2)
mutual
theorem xW:∀ (b:Bd) (hand:List Ty) (e:Nat),jP hand b->kR b<e->vV e hand->2*(kJ b).length+7<=9*zW b
 | .leaf c,hand,e,_,_,_=>by simp [kJ,zW]
 | .ask v ss y n,hand,0,_,h,_=>by omega
 | .ask v ss y n,hand,e+1,hf,hd,hh=>by
   have hf':=hf
   rw [jP] at hf
   obtain ⟨t,ht,h1,h2,h3⟩:=hf
   have hv:v<10000:=by
    have h1:=(List.getElem?_eq_some_iff.1 ht).1
    have:=hh.2;omega
   have h4:(dec v).length<=4:=u6 3 v (by omega)
   have hs:vV e hand:=by have:=hh.same;rwa [List.append_nil] at this
   simp only [kR] at hd
   have k1:=gy ss t.args hand e h1 (by omega) (fun a ha=>hh.next ht ha)
   have k2:=xW y hand e h2 (by omega) hs
   have k3:=xW n hand e h3 (by omega) hs
   rw [textB_ask,vX]
   simp only [kT,zW,List.length_append,List.length_cons,List.length_nil]
   omega
theorem gy:∀ (bs:List Bd) (ts:List Ty) (hand:List Ty) (e:Nat),jW (jg hand ts) bs->kx bs<=e->(∀ a∈ts,vV e (hand++a.args))->2*(kT bs).length<=9*zR bs
 | [],ts,hand,e,_,_,_=>by simp [kT]
 | b::bs,ts,hand,e,hf,hd,hh=>by
   rw [jW] at hf
   obtain ⟨h',aw,e',h1,h2⟩:=hf
   cases ts with
   | nil=>simp [jg] at e'
   | cons t ts =>
     simp only [jg,List.map_cons,List.cons.injEq] at e'
     obtain ⟨rfl,rfl⟩:=e'
     simp only [kx] at hd
     have k1:=xW b (hand++t.args) e h1 (by omega) (hh t (by simp))
     have k2:=gy bs ts hand e h2 (by omega) (fun a ha=>hh a (by simp [ha]))
     simp only [kT,zR,List.length_append,List.length_cons,List.length_nil]
     omega
end
theorem vV.less {d e:Nat} {levels:List Ty} (h:vV e levels) (hd:d<=e):vV d levels:=⟨h.1,by have:=h.2;omega⟩
theorem dx {t:Ty} (ht:zV t<=15) {b:Bd} (hf:jP t.args b) (hw:wfB b) (hs:zW b<=200):qx (zF t) (kJ b)=if kR b<=100 then some b else none:=by
 have hd:=px _ b (ei _)
 have hh:vV 201 t.args:=by
  have h1:=handOk_of ht
  have h2:=qw t
  have h3:=qV t.args
  exact ⟨h1.1,by omega⟩
 have hl:=xW b t.args 201 hf (by omega) hh
 unfold qx
 rw [v_ ht]
 simp only
 rw [if_neg (by simp;omega)]
 by_cases ij:kR b<=100
 ·have:=rdN_text 101 t.args b [] hf hw (by omega) (hh.less (by omega))
  rw [List.append_nil] at this
  rw [this,if_pos ij]
  simp [hs]
 ·rw [if_neg ij]
  cases hq:rdN 101 t.args (kJ b) with
  | none=>rfl
  | some x =>
    obtain ⟨b',r⟩:=x
    have h1:=rdN_mono 101 201 _ _ _ (by omega) hq
    have h2:=rdN_text 201 t.args b [] hf hw (by omega) hh
    rw [List.append_nil] at h2
    rw [h2] at h1
    simp at h1
    obtain ⟨rfl,rfl⟩:=h1
    have:=(rdN_wf _ _ _ _ _ hq).2
    omega
theorem vJ {p l r:Bs} (h:cut p l=some r):l=p++r:=by
 unfold cut at h
 split at h
 ·rename_i hp
  simp at h
  obtain ⟨q,hq⟩:=List.isPrefixOf_iff_prefix.1 hp
  subst hq
  simp at h;rw [h]
 ·simp at h
structure eh (t:Ty) (b:Bd):Prop where
 atoms:zV t<=15
 fit:jP t.args b
 wf:wfB b
 size:zW b<=200
 depth:kR b<=100
theorem vM {t:Ty} {b:Bd} (h:eh t b):qx (zF t) (kJ b)=some b:=by
 rw [dx h.atoms h.fit h.wf h.size,if_pos h.depth]
theorem rdK_canon (d:Nat):∀ (l:Bs) (t:Ty) (r:Bs),rdK d l=some (t,r)->l=zF t++r:=by
 induction d with
 | zero =>
   intro l t r h
   rcases qW [98] l with hc | ⟨r',hc⟩
   ·rw [xv hc] at h;simp at h
   ·rw [wv hc] at h;simp at h;obtain ⟨rfl,rfl⟩:=h;rw [ue];exact vJ hc.out
 | succ d ih =>
   intro l t r h
   rcases qW [98] l with hc | ⟨r',hc⟩
   ·rw [vU hc] at h
    simp only [Option.bind_eq_bind,Option.bind_eq_some_iff,Prod.exists] at h
    obtain ⟨r1,h1,a,r2,h2,r3,h3,b,r4,h4,r5,h5,h6⟩:=h
    simp at h6;obtain ⟨rfl,rfl⟩:=h6
    cases b with
    | mk bs =>
    rw [zd,uX,vJ h1,ih _ _ _ h2,vJ h3,ih _ _ _ h4,vJ h5]
    simp [Ty.args]
   ·rw [wv hc] at h;simp at h;obtain ⟨rfl,rfl⟩:=h;rw [ue];exact vJ hc.out
theorem wT {l:Bs} (h:(zL l).2=true):l=zF (zL l).1/\zV (zL l).1<=15:=by
 refine ⟨?_,vT h⟩
 unfold zL at h ⊢
 split at h
 ·simp at h
 ·rename_i hl
  rw [if_neg hl]
  cases hq:rdS 21 l with
  | none=>rw [hq] at h;simp at h
  | some x =>
    obtain ⟨t,rest⟩:=x
    rw [hq] at h
    simp at h
    obtain ⟨h1,h2⟩:=h
    have hq':rdK 20 l=some (t,rest):=hq
    have hr:=rdK_canon _ _ _ _ hq'
    simp only
    have h3:rest=[]:=by simpa using h1
    rw [h3,List.append_nil] at hr;exact hr
mutual
def wfM:Mn->Prop
 | .op _ _=>True
 | .bd _ b e=>wfB b/\xI e
def xI:List Mn->Prop
 | []=>True
 | m::ms=>wfM m/\xI ms
end
theorem jC:∀ (xs ys:List Mn),xI xs->xI ys->xI (xs++ys)
 | [],ys,_,h=>h
 | x::xs,ys,h,k=>by rw [xI] at h;exact ⟨h.1,jC xs ys h.2 k⟩
theorem wfMs_at:∀ (xs:List Mn),xI xs->∀ (k:Nat) (m:Mn),xs[k]? = some m->wfM m
 | [],_,k,b,h=>by simp at h
 | x::xs,hw,k,b,h=>by
   rw [xI] at hw
   cases k with
   | zero=>simp at h;subst h;exact hw.1
   | succ k=>exact wfMs_at xs hw.2 k b (by simpa using h)
theorem jV:∀ (ts:List Ty) (n:Nat),xI (opens n ts)
 | [],n=>trivial
 | t::ts,n=>⟨trivial,jV ts (n+1)⟩
theorem xL {env:List Mn} (he:xI env):∀ (ts:List Ty) (ss:List Bd),yT ss->xI (owns env ts ss)
 | [],ss,_=>by rw [owns];· trivial
               ·intros;contradiction
 | t::ts,[],_=>by rw [owns];· trivial
                  ·intros;contradiction
 | t::ts,s::ss,h=>by
   rw [yT] at h
   rw [owns]
   exact ⟨⟨h.1,he⟩,xL he ts ss h.2⟩
def wfG (f:Gf):Prop:=wfB f.yes/\wfB f.no/\xI f.env
theorem evSubs_wf {d n:Nat} {env:List Mn} (he:xI env) (ih:∀ (l:Nat) (b:Bd) (env:List Mn) (n:Nat) (st:List Gf) (out:Bd) (l':Nat),wfB b->xI env->(∀ f∈st,wfG f)->ev d l b env n st=some (out,l')->wfB out) :
 ∀ (ts:List Ty) (ss:List Bd) (l:Nat) (outs:List Bd) (l':Nat),yT ss->kh (ev d) env n l ts ss=some (outs,l')->yT outs
 | [],ss,l,outs,l',_,h=>by simp [kh] at h;obtain ⟨rfl,_⟩:=h;trivial
 | t::ts,[],l,outs,l',_,h=>by simp [kh] at h;obtain ⟨rfl,_⟩:=h;trivial
 | t::ts,s::ss,l,outs,l',hs,h=>by
   rw [yT] at hs
   simp only [kh,Option.bind_eq_bind,Option.bind_eq_some_iff,Prod.exists] at h
   obtain ⟨x,l1,h1,xs,l2,h2,h3⟩:=h
   simp at h3;obtain ⟨rfl,rfl⟩:=h3
   exact ⟨ih _ _ _ _ _ _ _ hs.1 (jC _ _ he (jV _ _)) (by simp) h1,evSubs_wf he ih ts ss l1 xs l2 hs.2 h2⟩
theorem ev_wf (d:Nat):∀ (l:Nat) (b:Bd) (env:List Mn) (n:Nat) (st:List Gf) (out:Bd) (l':Nat),wfB b->xI env->(∀ f∈st,wfG f)->ev d l b env n st=some (out,l')->wfB out:=by
 induction d with
 | zero=>intro l b env n st out l' _ _ _ h;simp [ev] at h
 | succ d ih =>
   intro l b env n st out l' hb he hs h
   rw [ev.eq_def] at h
   cases l with
   | zero=>simp at h
   | succ l =>
     simp only at h
     cases b with
     | leaf c =>
       simp only at h
       split at h
       ·simp at h;obtain ⟨rfl,_⟩:=h;exact hb
       ·cases st with
        | nil=>simp at h;obtain ⟨rfl,_⟩:=h;exact hb
        | cons f st' =>
          obtain ⟨k1,k2,k3⟩:=hs f (by simp)
          refine ih _ _ _ _ _ _ _ ?_ k3 (fun g hg=>hs g (by simp [hg])) h
          split
          ·exact k1
          ·exact k2
     | ask v ss y no =>
       rw [wfB] at hb
       simp only at h
       cases hv:env[v]? with
       | none=>rw [hv] at h;simp at h
       | some m =>
         rw [hv] at h
         have hm:=wfMs_at _ he _ _ hv
         cases m with
         | bd t b' e =>
           rw [wfM] at hm
           refine ih _ _ _ _ _ _ _ hm.1 (jC _ _ hm.2 (xL he _ _ hb.1)) (fun f hf=>?_) h
           rcases List.mem_cons.1 hf with rfl | hf
           ·exact ⟨hb.2.1,hb.2.2,he⟩
           ·exact hs f hf
         | op o t =>
           simp only [Option.bind_eq_bind,Option.bind_eq_some_iff,Prod.exists] at h
           obtain ⟨xs,l1,h1,x,l2,h2,z,l3,h3,h4⟩:=h
           simp at h4;obtain ⟨rfl,_⟩:=h4
           exact ⟨evSubs_wf he ih _ _ _ _ _ hb.1 h1,ih _ _ _ _ _ _ _ hb.2.1 he hs h2,ih _ _ _ _ _ _ _ hb.2.2 he hs h3⟩
def jp (b:Bd) (env:List Mn) (n:Nat):Option Bd:=match ev 20000 20000 b env n [] with
 | some (out,_)=>if zW out<=200/\kR out<=100 then some out else none
 | none=>none
def uf (b:Bd) (env:List Mn) (n:Nat):Option Bd:=(evN 20000 200 20000 b env n []).map (·.1)
theorem writes_eq (b:Bd) (env:List Mn) (n:Nat):uf b env n=match ev 20000 20000 b env n [] with
 | some (out,_)=>if zW out<=200 then some out else none
 | none=>none:=by
 unfold uf
 rw [evN_eq]
 cases ev 20000 20000 b env n [] with
 | none=>rfl
 | some x =>
   obtain ⟨out,l⟩:=x
   simp only [wU]
   split <;> rfl
theorem gQ {a:Ty} {rest:List Ty} {t:Ty} (h:t.args=a::rest):zV t=1+zV a+zV (.mk rest):=by
 cases t with
 | mk ts=>simp only [Ty.args] at h;subst h;exact jv a rest
inductive Tr where
 | am (a:Bs)
 | ls (ps:List Tr)
mutual
def zA:Tr->Bs
 | .am a=>a
 | .ls ps=>40::jA ps
def jA:List Tr->Bs
 | []=>[41]
 | p::ps=>zA p++ki ps
def ki:List Tr->Bs
 | []=>[41]
 | p::ps=>32::(zA p++ki ps)
end
mutual
def qo:Tr->Prop
 | .am a=>a≠[]/\∀ c∈a,sep c=false
 | .ls ps=>ps≠[]/\qM ps
def qM:List Tr->Prop
 | []=>True
 | p::ps=>qo p/\qM ps
end
mutual
def jZ:Tr->Nat
 | .am _=>0
 | .ls ps=>1+qN ps
def qN:List Tr->Nat
 | []=>0
 | p::ps=>max (jZ p) (qN ps)
end
mutual
def qY:Tr->Nat
 | .am _=>1
 | .ls ps=>kH ps
def kH:List Tr->Nat
 | []=>0
 | p::ps=>qY p+kH ps
end
def yH (rd:Bs->Option (Tr×Bs)):Nat->Bs->Option (List Tr×Bs)
 | 0,_=>none
 | n+1,l=>(rd l).bind fun x=>match x.2 with
   | []=>none
   | c::r=>if c=41 then some ([x.1],r) else if c=32 then (yH rd n r).map fun y=>(x.1::y.1,y.2) else none
def jf:Nat->Bs->Option (Tr×Bs)
 | 0,_=>none
 | d+1,l=>match l with
   | []=>none
   | c::r=>if c=40 then (yH (jf d) (r.length+1) r).map fun y=>(.ls y.1,y.2) else if zu l=[] then none else some (.am (zu l),zS l)
theorem pM (d:Nat) (r:Bs):jf (d+1) (40::r)=(yH (jf d) (r.length+1) r).map fun y=>(.ls y.1,y.2):=by rw [jf];simp
theorem pR (d:Nat) (c:UInt8) (r:Bs) (h:c≠40):jf (d+1) (c::r)=if zu (c::r)=[] then none else some (.am (zu (c::r)),zS (c::r)):=by rw [jf];simp [h]
theorem wordOf_pos {l:Bs} (h:zu l≠[]):(zS l).length<l.length:=by
 have:=congrArg List.length (yJ l)
 rw [List.length_append] at this
 have:0<(zu l).length:=by cases hw:zu l with
  | nil=>exact absurd hw h
  | cons c r=>simp
 omega
def Shrinks (rd:Bs->Option (Tr×Bs)):Prop:=∀ l t r,rd l=some (t,r)->r.length<l.length
theorem p7 {rd:Bs->Option (Tr×Bs)} (h:Shrinks rd):∀ (n:Nat) (l:Bs) (ps:List Tr) (r:Bs),yH rd n l=some (ps,r)->r.length<l.length
 | 0,l,ps,r,k=>by simp [yH] at k
 | n+1,l,ps,r,k=>by
   rw [yH,Option.bind_eq_some_iff] at k
   obtain ⟨⟨t,r1⟩,k1,k2⟩:=k
   have h1:=h _ _ _ k1
   cases r1 with
   | nil=>simp at k2
   | cons c r1 =>
     simp only [List.length_cons] at h1
     simp only at k2
     split at k2
     ·simp at k2;obtain ⟨_,rfl⟩:=k2;omega
     ·split at k2
      ·rw [Option.map_eq_some_iff] at k2
       obtain ⟨⟨qs,r2⟩,k3,k4⟩:=k2
       simp at k4;obtain ⟨_,rfl⟩:=k4
       have:=p7 h n _ _ _ k3
       omega
      ·simp at k2
theorem uO:∀ d,Shrinks (jf d)
 | 0=>fun l t r h=>by simp [jf] at h
 | d+1=>fun l t r h=>by
   cases l with
   | nil=>simp [jf] at h
   | cons c l =>
     by_cases hc:c=40
     ·subst hc
      rw [pM,Option.map_eq_some_iff] at h
      obtain ⟨⟨ps,r1⟩,h1,h2⟩:=h
      simp at h2;obtain ⟨_,rfl⟩:=h2
      have:=p7 (uO d) _ _ _ _ h1
      simp;omega
     ·rw [pR d c l hc] at h
      split at h
      ·simp at h
      ·rename_i hw
       simp at h;obtain ⟨_,rfl⟩:=h
       exact wordOf_pos hw
theorem da {rd:Bs->Option (Tr×Bs)} (h:Shrinks rd):∀ (n m:Nat) (l:Bs),l.length<n->l.length<m->yH rd n l=yH rd m l
 | 0,_,_,k,_=>by omega
 | _+1,0,_,_,k=>by omega
 | n+1,m+1,l,k,k'=>by
   rw [yH,yH]
   cases hq:rd l with
   | none=>rfl
   | some x =>
     obtain ⟨t,r1⟩:=x
     have h1:=h _ _ _ hq
     simp only [Option.bind_some]
     cases r1 with
     | nil=>rfl
     | cons c r1 =>
       simp only [List.length_cons] at h1
       simp only
       rw [da h n m r1 (by omega) (by omega)]
theorem tail_start (ps:List Tr) (r:Bs):uI (ki ps++r):=by
 cases ps with
 | nil=>rw [ki];exact .inr ⟨41,r,rfl,by decide⟩
 | cons p ps=>rw [ki];exact .inr ⟨32,_,rfl,by decide⟩
mutual
theorem pF:∀ (t:Tr) (d:Nat) (r:Bs),qo t->jZ t<d->uI r->jf d (zA t++r)=some (t,r)
 | .am a,d,r,ho,hd,hr=>by
   rw [qo] at ho
   obtain ⟨d,rfl⟩:∃ k,d=k+1:=⟨d-1,by omega⟩
   obtain ⟨h1,h2⟩:=word_of ho.2 hr
   rw [zA]
   cases a with
   | nil=>exact absurd rfl ho.1
   | cons c a =>
     have hc:c≠40:=by rintro rfl;have:=ho.2 40 (by simp);simp [sep] at this
     rw [List.cons_append] at *
     rw [pR d c _ hc,h1,h2,if_neg (by simp)]
 | .ls ps,d,r,ho,hd,hr=>by
   rw [qo] at ho
   rw [jZ] at hd
   obtain ⟨d,rfl⟩:∃ k,d=k+1:=⟨d-1,by omega⟩
   rw [zA,List.cons_append,pM]
   have:=db ps d r _ ho.2 ho.1 (by omega) (Nat.lt_succ_self _)
   rw [this];rfl
theorem db:∀ (ps:List Tr) (d:Nat) (r:Bs) (n:Nat),qM ps->ps≠[]->qN ps<d->(jA ps++r).length<n->yH (jf d) n (jA ps++r)=some (ps,r)
 | [],d,r,n,_,hne,_,_=>absurd rfl hne
 | p::ps,d,r,n,ho,_,hd,hn=>by
   rw [qM] at ho
   rw [qN] at hd
   obtain ⟨n,rfl⟩:∃ k,n=k+1:=⟨n-1,by omega⟩
   have h1:=pF p d (ki ps++r) ho.1 (by omega) (tail_start ps r)
   rw [jA,List.append_assoc] at *
   rw [yH,h1,Option.bind_some]
   have hl:=uO d _ _ _ h1
   cases ps with
   | nil=>rw [ki];simp
   | cons q qs =>
     rw [ki] at *
     simp only [List.cons_append]
     rw [if_neg (by decide),if_pos trivial]
     have e:jA (q::qs)=zA q++ki qs:=by rw [jA]
     have:=db (q::qs) d r n ho.2 (by simp) (by omega) (by
      rw [e]
      simp only [List.cons_append,List.length_cons,List.length_append] at hn hl ⊢
      omega)
     rw [e] at this
     rw [this];rfl
end
theorem cd {d:Nat} (ih:∀ (l:Bs) (t:Tr) (r:Bs),jf d l=some (t,r)->l=zA t++r/\qo t/\jZ t<d/\(∀ a,t=.am a->uI r)) :
 ∀ (n:Nat) (l:Bs) (ps:List Tr) (r:Bs),yH (jf d) n l=some (ps,r)->l=jA ps++r/\qM ps/\ps≠[]/\qN ps<d
 | 0,l,ps,r,k=>by simp [yH] at k
 | n+1,l,ps,r,k=>by
   rw [yH,Option.bind_eq_some_iff] at k
   obtain ⟨⟨t,r1⟩,k1,k2⟩:=k
   obtain ⟨e1,o1,d1,_⟩:=ih _ _ _ k1
   cases r1 with
   | nil=>simp at k2
   | cons c r1 =>
     simp only at k2
     split at k2
     ·rename_i hc
      simp at k2;obtain ⟨rfl,rfl⟩:=k2
      subst hc
      refine ⟨?_,?_,by simp,?_⟩
      ·rw [jA,ki,e1];simp
      ·rw [qM,qM];exact ⟨o1,trivial⟩
      ·rw [qN,qN];omega
     ·split at k2
      ·rename_i hc
       rw [Option.map_eq_some_iff] at k2
       obtain ⟨⟨qs,r2⟩,k3,k4⟩:=k2
       simp at k4;obtain ⟨rfl,rfl⟩:=k4
       obtain ⟨e2,o2,n2,d2⟩:=cd ih n _ _ _ k3
       subst hc
       refine ⟨?_,?_,by simp,?_⟩
       ·cases qs with
        | nil=>exact absurd rfl n2
        | cons q qs=>rw [jA] at e2;rw [jA,ki,e1,e2];simp
       ·rw [qM];exact ⟨o1,o2⟩
       ·rw [qN];omega
      ·simp at k2
theorem y9:∀ (d:Nat) (l:Bs) (t:Tr) (r:Bs),jf d l=some (t,r)->l=zA t++r/\qo t/\jZ t<d/\(∀ a,t=.am a->uI r)
 | 0,l,t,r,h=>by simp [jf] at h
 | d+1,l,t,r,h=>by
   cases l with
   | nil=>simp [jf] at h
   | cons c l =>
     by_cases hc:c=40
     ·subst hc
      rw [pM,Option.map_eq_some_iff] at h
      obtain ⟨⟨ps,r1⟩,h1,h2⟩:=h
      simp at h2;obtain ⟨rfl,rfl⟩:=h2
      obtain ⟨e1,o1,n1,d1⟩:=cd (y9 d) _ _ _ _ h1
      refine ⟨by rw [zA,e1];rfl,by rw [qo];exact ⟨n1,o1⟩,by rw [jZ];omega,fun a e=>by simp at e⟩
     ·rw [pR d c l hc] at h
      split at h
      ·simp at h
      ·rename_i hw
       simp at h;obtain ⟨rfl,rfl⟩:=h
       refine ⟨by rw [zA];exact yJ _,?_,by rw [jZ];omega,fun a _=>dN _⟩
       rw [qo]
       refine ⟨hw,fun x hx=>?_⟩
       have key:∀ (m:Bs),∀ y∈m.takeWhile (fun c=>!sep c),sep y=false:=by
        intro m
        induction m with
        | nil=>intro y hy;simp at hy
        | cons z m ih =>
          intro y hy
          rw [List.takeWhile_cons] at hy
          split at hy
          ·rename_i hz
           rcases List.mem_cons.1 hy with rfl | hy
           ·simpa using hz
           ·exact ih y hy
          ·simp at hy
       exact key _ x hx
def qG (s:Bs):Bool:=match s with
 | []=>false
 | c::r=>decide (r.length<=2) && (120<=c && c<=122) && r.all dig
def jI:Bs:=[108,97,109]
def vN:Bs:=[97,112,112]
def ifW:Bs:=[105,102]
def qy (a:Bs):Bool:=a == [116] || a == [102] || a == [117]
def qI:List Tr->Bs
 | .am a::_=>a
 | _=>[]
def qQ:Tr->Bs
 | .am a=>a
 | .ls _=>[]
def qS:Tr->Bool
 | .am a=>qy a || qG a
 | .ls [h,a,b]=>qI [h] == vN && qS a && qS b
 | .ls [h,a,b,c]=>(qI [h] == jI && (qG (qQ a) && (zL (zA b)).2 && qS c)) || (qI [h] == ifW && (qS a && qS b && qS c))
 | .ls _=>false
def qT (l:Bs):Option Tr:=if 1000<l.length then none else match jf 101 l with
 | some (t,[])=>if qS t && decide (qY t<=60) then some t else none
 | _=>none
inductive Tm where
 | nm (x:Bs)
 | wd (w:Bs)
 | lam (x:Bs) (k:Ty) (t:Tm)
 | app (m n:Tm)
 | ite (l m n:Tm)
def zM:Tm->Nat
 | .nm _=>1
 | .wd _=>1
 | .lam _ k t=>2+zV k+zM t
 | .app m n=>1+zM m+zM n
 | .ite l m n=>1+zM l+zM m+zM n
def trT:Ty->Tr
 | .mk ts=>trTs ts
where trTs:List Ty->Tr
 | []=>.am [98]
 | t::ts=>.ls [.am [62],trT t,trTs ts]
def z_:Tm->Tr
 | .nm x=>.am x
 | .wd w=>.am w
 | .lam x k t=>.ls [.am jI,.am x,trT k,z_ t]
 | .app m n=>.ls [.am vN,z_ m,z_ n]
 | .ite l m n=>.ls [.am ifW,z_ l,z_ m,z_ n]
def uP:Tm->Prop
 | .nm x=>qG x=true
 | .wd w=>qy w=true
 | .lam x _ t=>qG x=true/\uP t
 | .app m n=>uP m/\uP n
 | .ite l m n=>uP l/\uP m/\uP n
def kQ:Tm->Bool
 | .nm _=>true
 | .wd _=>true
 | .lam _ k t=>decide (zV k<=15) && kQ t
 | .app m n=>kQ m && kQ n
 | .ite l m n=>kQ l && kQ m && kQ n
def jB:Tm->Nat
 | .nm _=>0
 | .wd _=>0
 | .lam _ _ t=>1+jB t
 | .app m n=>1+max (jB m) (jB n)
 | .ite l m n=>1+max (jB l) (max (jB m) (jB n))
def qg:Nat->Bs->Option (Tm×Bs)
 | d,l=>match cut [40] l with
   | none=>if qG (zu l) then some (.nm (zu l),zS l) else if qy (zu l) then some (.wd (zu l),zS l) else none
   | some l1=>match d with
     | 0=>none
     | d+1 =>
       if zu l1=jI then (cut [32] (zS l1)).bind fun l3=>if qG (zu l3) then (cut [32] (zS l3)).bind fun l4=>(rdK 60 l4).bind fun k=>(cut [32] k.2).bind fun l6=>(qg d l6).bind fun t=>(cut [41] t.2).map fun l8=>(.lam (zu l3) k.1 t.1,l8) else none
       else if zu l1=vN then (cut [32] (zS l1)).bind fun l3=>(qg d l3).bind fun m=>(cut [32] m.2).bind fun l4=>(qg d l4).bind fun n=>(cut [41] n.2).map fun l5=>(.app m.1 n.1,l5)
       else if zu l1=ifW then (cut [32] (zS l1)).bind fun l3=>(qg d l3).bind fun x=>(cut [32] x.2).bind fun l4=>(qg d l4).bind fun m=>(cut [32] m.2).bind fun l5=>(qg d l5).bind fun n=>(cut [41] n.2).map fun l6=>(.ite x.1 m.1 n.1,l6)
       else none
def qE (l:Bs):Option Tm:=match qg 60 l with
 | some (t,[])=>if zM t<=60 then some t else none
 | _=>none
theorem yD {x:Bs} (h:qG x=true):x≠[]/\∀ c∈x,sep c=false:=by
 cases x with
 | nil=>simp [qG] at h
 | cons c r =>
   simp only [qG,Bool.and_eq_true,decide_eq_true_eq,List.all_eq_true] at h
   obtain ⟨⟨_,h1,h2⟩,h3⟩:=h
   refine ⟨by simp,fun y hy=>?_⟩
   rcases List.mem_cons.1 hy with rfl | hy
   ·rw [Bool.eq_false_iff];intro hs
    simp only [sep,Bool.or_eq_true,beq_iff_eq] at hs
    rcases hs with (rfl | rfl) | rfl <;> revert h1 <;> decide
   ·exact dig_sep (h3 y hy)
theorem xh {x:Bs} (h:qy x=true):x≠[]/\∀ c∈x,sep c=false:=by
 simp only [qy,Bool.or_eq_true,beq_iff_eq] at h
 rcases h with (rfl | rfl) | rfl <;> exact ⟨by simp,by intro c hc;simp at hc;subst hc;decide⟩
theorem yw {x:Bs} (h:qy x=true):qG x=false:=by
 simp only [qy,Bool.or_eq_true,beq_iff_eq] at h
 rcases h with (rfl | rfl) | rfl <;> decide
mutual
theorem jz:∀ k:Ty,zA (trT k)=zF k
 | .mk ts=>by rw [trT,textTr_Ts ts]
theorem textTr_Ts:∀ ts:List Ty,zA (trT.trTs ts)=zF (.mk ts)
 | []=>by rw [trT.trTs,zA,ue]
 | t::ts=>by rw [trT.trTs,zA,jA,ki,ki,ki,zA,jz t,textTr_Ts ts,uX];simp
end
mutual
theorem gP:∀ k:Ty,qo (trT k)
 | .mk ts=>by rw [trT];exact okTr_Ts ts
theorem okTr_Ts:∀ ts:List Ty,qo (trT.trTs ts)
 | []=>by rw [trT.trTs,qo];exact ⟨by simp,by intro c hc;simp at hc;subst hc;decide⟩
 | t::ts=>by
   rw [trT.trTs,qo,qM,qM,qM,qM]
   exact ⟨by simp,by rw [qo];exact ⟨by simp,by intro c hc;simp at hc;subst hc;decide⟩,gP t,okTr_Ts ts,trivial⟩
end
mutual
theorem xq:∀ k:Ty,qY (trT k)=zV k
 | .mk ts=>by rw [trT,sizeTr_Ts ts]
theorem sizeTr_Ts:∀ ts:List Ty,qY (trT.trTs ts)=zV (.mk ts)
 | []=>by rw [trT.trTs,qY,zV,zt]
 | t::ts=>by rw [trT.trTs,qY,kH,kH,kH,kH,qY,xq t,sizeTr_Ts ts,jv];omega
end
mutual
theorem deepTr_T:∀ k:Ty,jZ (trT k)<zV k
 | .mk ts=>by rw [trT];exact deepTr_Ts ts
theorem deepTr_Ts:∀ ts:List Ty,jZ (trT.trTs ts)<zV (.mk ts)
 | []=>by rw [trT.trTs,jZ,zV];omega
 | t::ts=>by
   have h1:=deepTr_T t
   have h2:=deepTr_Ts ts
   rw [trT.trTs,jZ,qN,qN,qN,qN,jZ,jv];omega
end
theorem j_:∀ t:Tm,uP t->qo (z_ t)
 | .nm x,h=>by rw [z_,qo];exact yD h
 | .wd w,h=>by rw [z_,qo];exact xh h
 | .lam x k t,h=>by
   rw [z_,qo,qM,qM,qM,qM,qM]
   exact ⟨by simp,by rw [qo];exact ⟨by decide,by decide⟩,by rw [qo];exact yD h.1,gP k,j_ t h.2,trivial⟩
 | .app m n,h=>by
   rw [z_,qo,qM,qM,qM,qM]
   exact ⟨by simp,by rw [qo];exact ⟨by decide,by decide⟩,j_ m h.1,j_ n h.2,trivial⟩
 | .ite l m n,h=>by
   rw [z_,qo,qM,qM,qM,qM,qM]
   exact ⟨by simp,by rw [qo];exact ⟨by decide,by decide⟩,j_ l h.1,j_ m h.2.1,j_ n h.2.2,trivial⟩
theorem uB:∀ t:Tm,qY (z_ t)=zM t
 | .nm x=>by rw [z_,qY,zM]
 | .wd w=>by rw [z_,qY,zM]
 | .lam x k t=>by rw [z_,qY,kH,kH,kH,kH,kH,qY,qY,xq,uB t,zM];omega
 | .app m n=>by rw [z_,qY,kH,kH,kH,kH,qY,uB m,uB n,zM];omega
 | .ite l m n=>by rw [z_,qY,kH,kH,kH,kH,kH,qY,uB l,uB m,uB n,zM];omega
theorem u5:∀ t:Tm,jZ (z_ t)<zM t
 | .nm x=>by rw [z_,jZ,zM];omega
 | .wd w=>by rw [z_,jZ,zM];omega
 | .lam x k t=>by
   have h1:=deepTr_T k
   have h2:=u5 t
   rw [z_,jZ,qN,qN,qN,qN,qN,jZ,jZ,zM];omega
 | .app m n=>by
   have h1:=u5 m
   have h2:=u5 n
   rw [z_,jZ,qN,qN,qN,qN,jZ,zM];omega
 | .ite l m n=>by
   have h0:=u5 l
   have h1:=u5 m
   have h2:=u5 n
   rw [z_,jZ,qN,qN,qN,qN,qN,jZ,zM];omega
theorem vu:∀ t:Tm,jB t<zM t
 | .nm x=>by rw [jB,zM];omega
 | .wd w=>by rw [jB,zM];omega
 | .lam x k t=>by have:=vu t;rw [jB,zM];omega
 | .app m n=>by have:=vu m;have:=vu n;rw [jB,zM];omega
 | .ite l m n=>by have:=vu l;have:=vu m;have:=vu n;rw [jB,zM];omega
def ze (t:Tm):Bs:=zA (z_ t)
theorem ye (x:Bs) (k:Ty) (t:Tm):ze (.lam x k t)=40::(jI++32::(x++32::(zF k++32::(ze t++[41])))):=by
 unfold ze;rw [z_,zA,jA,ki,ki,ki,ki,zA,zA,jz]
theorem ur (m n:Tm):ze (.app m n)=40::(vN++32::(ze m++32::(ze n++[41]))):=by
 unfold ze;rw [z_,zA,jA,ki,ki,ki,zA]
theorem y5 (l m n:Tm):ze (.ite l m n)=40::(ifW++32::(ze l++32::(ze m++32::(ze n++[41])))):=by
 unfold ze;rw [z_,zA,jA,ki,ki,ki,ki,zA]
theorem cut_no {c:UInt8} {l:Bs} (h:∀ r,l≠c::r):cut [c] l=none:=by
 unfold cut
 cases l with
 | nil=>rfl
 | cons d r =>
   have:d≠c:=by rintro rfl;exact h r rfl
   simp [List.isPrefixOf,this.symm]
theorem ul (c:UInt8) (r:Bs) (h:sep c=true):uI (c::r):=.inr ⟨c,r,rfl,h⟩
theorem rdTm_word {d:Nat} {w r:Bs} (hw:w≠[]/\∀ c∈w,sep c=false) (hr:uI r):qg d (w++r)=if qG w then some (.nm w,r) else if qy w then some (.wd w,r) else none:=by
 obtain ⟨h1,h2⟩:=word_of hw.2 hr
 have hc:cut [40] (w++r)=none:=cut_no fun r' e=>by
  cases w with
  | nil=>exact hw.1 rfl
  | cons c w =>
    simp at e
    have:=hw.2 c (by simp)
    rw [e.1] at this;simp [sep] at this
 rw [qg.eq_def]
 simp only [hc,h1,h2]
theorem jO {d:Nat} {l:Bs}:qg (d+1) (40::l)=(
        if zu l=jI then (cut [32] (zS l)).bind fun l3=>if qG (zu l3) then (cut [32] (zS l3)).bind fun l4=>(rdK 60 l4).bind fun k=>(cut [32] k.2).bind fun l6=>(qg d l6).bind fun t=>(cut [41] t.2).map fun l8=>(.lam (zu l3) k.1 t.1,l8) else none
        else if zu l=vN then (cut [32] (zS l)).bind fun l3=>(qg d l3).bind fun m=>(cut [32] m.2).bind fun l4=>(qg d l4).bind fun n=>(cut [41] n.2).map fun l5=>(.app m.1 n.1,l5)
        else if zu l=ifW then (cut [32] (zS l)).bind fun l3=>(qg d l3).bind fun x=>(cut [32] x.2).bind fun l4=>(qg d l4).bind fun m=>(cut [32] m.2).bind fun l5=>(qg d l5).bind fun n=>(cut [41] n.2).map fun l6=>(.ite x.1 m.1 n.1,l6)
        else none):=by
 rw [qg.eq_def]
 simp only [u7]
theorem rdTm_zero {l:Bs}:qg 0 (40::l)=none:=by
 rw [qg.eq_def]
 simp only [u7]
theorem word_w {w:Bs} (hw:∀ c∈w,sep c=false) {c:UInt8} {r:Bs} (h:sep c=true):zu (w++c::r)=w/\zS (w++c::r)=c::r:=word_of hw (ul c r h)
theorem uo:∀ (t:Tm) (d:Nat) (r:Bs),uP t->jB t<=d->zM t<=100->uI r->qg d (ze t++r)=some (t,r)
 | .nm x,d,r,ho,_,_,hr=>by
   have e:ze (.nm x)=x:=by unfold ze;rw [z_,zA]
   rw [e,rdTm_word (yD ho) hr,if_pos (show qG x=true from ho)]
 | .wd w,d,r,ho,_,_,hr=>by
   have e:ze (.wd w)=w:=by unfold ze;rw [z_,zA]
   rw [e,rdTm_word (xh ho) hr,yw ho,if_neg (by simp),if_pos (show qy w=true from ho)]
 | .lam x k t,d,r,ho,hd,hs,hr=>by
   rw [jB] at hd;rw [zM] at hs
   obtain ⟨d,rfl⟩:∃ j,d=j+1:=⟨d-1,by omega⟩
   have n1:=yD ho.1
   have e:ze (.lam x k t)++r=40::(jI++32::(x++32::(zF k++32::(ze t++41::r)))):=by rw [ye];simp
   obtain ⟨a1,a2⟩:=word_w (w:=jI) (by decide) (c:=32) (r:=x++32::(zF k++32::(ze t++41::r))) (by decide)
   obtain ⟨b1,b2⟩:=word_w n1.2 (c:=32) (r:=zF k++32::(ze t++41::r)) (by decide)
   rw [e,jO,a1,a2,if_pos rfl,u7]
   simp only [Option.bind_some]
   rw [b1,b2,if_pos ho.1,u7]
   simp only [Option.bind_some]
   rw [wj 60 k _ (by omega)]
   simp only [Option.bind_some,u7]
   rw [uo t d (41::r) ho.2 (by omega) (by omega) (ul _ _ (by decide))]
   simp only [Option.bind_some,u7,Option.map_some]
 | .app m n,d,r,ho,hd,hs,hr=>by
   rw [jB] at hd;rw [zM] at hs
   obtain ⟨d,rfl⟩:∃ j,d=j+1:=⟨d-1,by omega⟩
   have e:ze (.app m n)++r=40::(vN++32::(ze m++32::(ze n++41::r))):=by rw [ur];simp
   obtain ⟨a1,a2⟩:=word_w (w:=vN) (by decide) (c:=32) (r:=ze m++32::(ze n++41::r)) (by decide)
   rw [e,jO,a1,a2,if_neg (by decide),if_pos rfl,u7]
   simp only [Option.bind_some]
   rw [uo m d _ ho.1 (by omega) (by omega) (ul _ _ (by decide))]
   simp only [Option.bind_some,u7]
   rw [uo n d _ ho.2 (by omega) (by omega) (ul _ _ (by decide))]
   simp only [Option.bind_some,u7,Option.map_some]
 | .ite l m n,d,r,ho,hd,hs,hr=>by
   rw [jB] at hd;rw [zM] at hs
   obtain ⟨d,rfl⟩:∃ j,d=j+1:=⟨d-1,by omega⟩
   have e:ze (.ite l m n)++r=40::(ifW++32::(ze l++32::(ze m++32::(ze n++41::r)))):=by rw [y5];simp
   obtain ⟨a1,a2⟩:=word_w (w:=ifW) (by decide) (c:=32) (r:=ze l++32::(ze m++32::(ze n++41::r))) (by decide)
   rw [e,jO,a1,a2,if_neg (by decide),if_neg (by decide),if_pos rfl,u7]
   simp only [Option.bind_some]
   rw [uo l d _ ho.1 (by omega) (by omega) (ul _ _ (by decide))]
   simp only [Option.bind_some,u7]
   rw [uo m d _ ho.2.1 (by omega) (by omega) (ul _ _ (by decide))]
   simp only [Option.bind_some,u7]
   rw [uo n d _ ho.2.2 (by omega) (by omega) (ul _ _ (by decide))]
   simp only [Option.bind_some,u7,Option.map_some]
theorem gX:∀ (d:Nat) (l:Bs) (t:Tm) (r:Bs),qg d l=some (t,r)->l=ze t++r/\uP t/\jB t<=d:=by
 intro d
 induction d with
 | zero =>
   intro l t r h
   rw [qg.eq_def] at h
   cases hc:cut [40] l with
   | none =>
     simp only [hc] at h
     split at h
     ·rename_i hn
      simp at h;obtain ⟨rfl,rfl⟩:=h
      exact ⟨by unfold ze;rw [z_,zA];exact yJ l,hn,by rw [jB];omega⟩
     ·split at h
      ·rename_i hn
       simp at h;obtain ⟨rfl,rfl⟩:=h
       exact ⟨by unfold ze;rw [z_,zA];exact yJ l,hn,by rw [jB];omega⟩
      ·simp at h
   | some l1=>simp [hc] at h
 | succ d ih =>
   intro l t r h
   cases hc:cut [40] l with
   | none =>
     rw [qg.eq_def] at h
     simp only [hc] at h
     split at h
     ·rename_i hn
      simp at h;obtain ⟨rfl,rfl⟩:=h
      exact ⟨by unfold ze;rw [z_,zA];exact yJ l,hn,by rw [jB];omega⟩
     ·split at h
      ·rename_i hn
       simp at h;obtain ⟨rfl,rfl⟩:=h
       exact ⟨by unfold ze;rw [z_,zA];exact yJ l,hn,by rw [jB];omega⟩
      ·simp at h
   | some l1 =>
     have e0:=vJ hc
     rw [e0] at h ⊢
     rw [List.singleton_append] at h ⊢
     rw [jO] at h
     have ew:=yJ l1
     split at h
     ·rename_i hw
      rw [hw] at ew
      simp only [Option.bind_eq_some_iff] at h
      obtain ⟨l3,c1,h⟩:=h
      split at h
      ·rename_i hn
       simp only [Option.bind_eq_some_iff,Option.map_eq_some_iff] at h
       obtain ⟨l4,c2,⟨k,l5⟩,hk,l6,c3,⟨t',l7⟩,ht,l8,c4,e⟩:=h
       simp only [Prod.mk.injEq] at e
       obtain ⟨rfl,rfl⟩:=e
       obtain ⟨e1,o1,d1⟩:=ih _ _ _ ht
       have e2:=rdK_canon _ _ _ _ hk
       refine ⟨?_,⟨hn,o1⟩,by rw [jB];omega⟩
       rw [ye]
       simp only at c3 c4
       conv=>lhs;rw [ew,vJ c1,yJ l3,vJ c2,e2,vJ c3,e1,vJ c4]
       simp
      ·simp at h
     ·split at h
      ·rename_i hw
       rw [hw] at ew
       simp only [Option.bind_eq_some_iff,Option.map_eq_some_iff] at h
       obtain ⟨l3,c1,⟨m,l4⟩,hm,l5,c2,⟨n,l6⟩,hn,l7,c3,e⟩:=h
       simp only [Prod.mk.injEq] at e
       obtain ⟨rfl,rfl⟩:=e
       obtain ⟨e1,o1,d1⟩:=ih _ _ _ hm
       obtain ⟨e2,o2,d2⟩:=ih _ _ _ hn
       refine ⟨?_,⟨o1,o2⟩,by rw [jB];omega⟩
       rw [ur]
       simp only at c2 c3
       conv=>lhs;rw [ew,vJ c1,e1,vJ c2,e2,vJ c3]
       simp
      ·split at h
       ·rename_i hw
        rw [hw] at ew
        simp only [Option.bind_eq_some_iff,Option.map_eq_some_iff] at h
        obtain ⟨l3,c1,⟨x,l4⟩,hx,l5,c2,⟨m,l6⟩,hm,l7,c3,⟨n,l8⟩,hn,l9,c4,e⟩:=h
        simp only [Prod.mk.injEq] at e
        obtain ⟨rfl,rfl⟩:=e
        obtain ⟨e0,o0,d0⟩:=ih _ _ _ hx
        obtain ⟨e1,o1,d1⟩:=ih _ _ _ hm
        obtain ⟨e2,o2,d2⟩:=ih _ _ _ hn
        refine ⟨?_,⟨o0,o1,o2⟩,by rw [jB];omega⟩
        rw [y5]
        simp only at c2 c3 c4
        conv=>lhs;rw [ew,vJ c1,e0,vJ c2,e1,vJ c3,e2,vJ c4]
        simp
       ·simp at h
theorem gV {a b:Tr} (ha:qo a) (hb:qo b) (h:zA a=zA b):a=b:=by
 have h1:=pF a (max (jZ a) (jZ b)+1) [] ha (by omega) (.inl rfl)
 have h2:=pF b (max (jZ a) (jZ b)+1) [] hb (by omega) (.inl rfl)
 rw [h,h2] at h1
 exact (Prod.mk.inj (Option.some.inj h1)).1.symm
theorem eV (h a b:Tr):qS (.ls [h,a,b])=(qI [h] == vN && qS a && qS b):=by rw [qS]
theorem cH (h a b c:Tr):qS (.ls [h,a,b,c])=((qI [h] == jI && (qG (qQ a) && (zL (zA b)).2 && qS c)) || (qI [h] == ifW && (qS a && qS b && qS c))):=by rw [qS]
theorem head_at {h:Tr} {w:Bs} (hw:w≠[]) (e:qI [h]=w):h=.am w:=by
 cases h with
 | am a=>rw [qI] at e;rw [e]
 | ls ps=>exact absurd e.symm hw
theorem x7:∀ (n:Nat) (t:Tr),SizeOf.sizeOf t<n->qo t->qS t=true->∃ m:Tm,t=z_ m/\uP m/\kQ m=true
 | 0,_,h,_,_=>by omega
 | n+1,.am a,_,ho,hi=>by
   rw [qS,Bool.or_eq_true] at hi
   rcases hi with h | h
   ·exact ⟨.wd a,by rw [z_],h,by rw [kQ]⟩
   ·exact ⟨.nm a,by rw [z_],h,by rw [kQ]⟩
 | n+1,.ls [],_,_,hi=>by simp [qS] at hi
 | n+1,.ls [_],_,_,hi=>by simp [qS] at hi
 | n+1,.ls [_,_],_,_,hi=>by simp [qS] at hi
 | n+1,.ls [h,a,b],hs,ho,hi=>by
   rw [eV] at hi
   simp only [Bool.and_eq_true,beq_iff_eq] at hi
   obtain ⟨⟨e,h1⟩,h2⟩:=hi
   rw [qo,qM,qM,qM,qM] at ho
   obtain ⟨_,_,o1,o2,_⟩:=ho
   obtain rfl:=head_at (by decide) e
   simp only [Tr.ls.sizeOf_spec,List.cons.sizeOf_spec] at hs
   obtain ⟨m,rfl,q1,q2⟩:=x7 n a (by omega) o1 h1
   obtain ⟨k,rfl,r1,r2⟩:=x7 n b (by omega) o2 h2
   exact ⟨.app m k,by rw [z_],⟨q1,r1⟩,by rw [kQ,q2,r2];rfl⟩
 | n+1,.ls [h,a,b,c],hs,ho,hi=>by
   rw [cH] at hi
   simp only [Bool.or_eq_true,Bool.and_eq_true,beq_iff_eq] at hi
   rw [qo,qM,qM,qM,qM,qM] at ho
   obtain ⟨_,_,o1,o2,o3,_⟩:=ho
   simp only [Tr.ls.sizeOf_spec,List.cons.sizeOf_spec] at hs
   rcases hi with ⟨e,⟨h1,h2⟩,h3⟩ | ⟨e,⟨h1,h2⟩,h3⟩
   ·obtain rfl:=head_at (by decide) e
    obtain ⟨m,rfl,q1,q2⟩:=x7 n c (by omega) o3 h3
    obtain ⟨e1,l1⟩:=wT h2
    have eb:b=trT (zL (zA b)).1:=gV o2 (gP _) (by rw [jz];exact e1)
    have ea:a=.am (qQ a):=by
     cases a with
     | am x=>rw [qQ]
     | ls ps=>rw [qQ] at h1;simp [qG] at h1
    refine ⟨.lam (qQ a) (zL (zA b)).1 m,?_,⟨h1,q1⟩,by rw [kQ,q2,decide_eq_true l1];rfl⟩
    rw [z_,<- eb,<- ea]
   ·obtain rfl:=head_at (by decide) e
    obtain ⟨x,rfl,p1,p2⟩:=x7 n a (by omega) o1 h1
    obtain ⟨y,rfl,q1,q2⟩:=x7 n b (by omega) o2 h2
    obtain ⟨z,rfl,r1,r2⟩:=x7 n c (by omega) o3 h3
    exact ⟨.ite x y z,by rw [z_],⟨p1,q1,r1⟩,by rw [kQ,p2,q2,r2];rfl⟩
 | n+1,.ls (_::_::_::_::_::_),_,_,hi=>by simp [qS] at hi
theorem x8:∀ t:Tm,uP t->qS (z_ t)=kQ t
 | .nm x,h=>by rw [z_,qS,kQ,show qG x=true from h,Bool.or_true]
 | .wd w,h=>by rw [z_,qS,kQ,show qy w=true from h,Bool.true_or]
 | .lam x k t,h=>by
   rw [z_,cH,kQ,x8 t h.2,jz,qI,qQ,h.1]
   have e:(zL (zF k)).2=decide (zV k<=15):=by
    by_cases hk:zV k<=15
    ·rw [v_ hk,decide_eq_true hk]
    ·rw [decide_eq_false hk]
     cases hq:(zL (zF k)).2 with
     | false=>rfl
     | true =>
       exfalso
       obtain ⟨h1,h2⟩:=wT hq
       have:trT k=trT (zL (zF k)).1:=gV (gP _) (gP _) (by rw [jz,jz];exact h1)
       have h3:=xq k
       rw [this,xq] at h3
       omega
   rw [e]
   have a1:(jI == jI)=true:=by decide
   have a2:(jI == ifW)=false:=by decide
   rw [a1,a2];simp
 | .app m n,h=>by
   rw [z_,eV,kQ,x8 m h.1,x8 n h.2,qI]
   have a1:(vN == vN)=true:=by decide
   rw [a1];simp
 | .ite l m n,h=>by
   rw [z_,cH,kQ,x8 l h.1,x8 m h.2.1,x8 n h.2.2,qI]
   have a1:(ifW == ifW)=true:=by decide
   have a2:(ifW == jI)=false:=by decide
   rw [a1,a2];simp [Bool.and_assoc]
mutual
theorem cZ:∀ k:Ty,(zA (trT k)).length<=6*qY (trT k)
 | .mk ts=>by rw [trT];exact dL ts
theorem dL:∀ ts:List Ty,(zA (trT.trTs ts)).length<=6*qY (trT.trTs ts)
 | []=>by rw [trT.trTs,zA,qY];simp
 | t::ts=>by
   have h1:=cZ t
   have h2:=dL ts
   rw [trT.trTs,zA,jA,ki,ki,ki,zA,qY,kH,kH,kH,kH,qY]
   simp only [List.length_cons,List.length_append,List.length_nil];omega
end
theorem name_len {x:Bs} (h:qG x=true):x.length<=3:=by
 cases x with
 | nil=>simp
 | cons c r=>simp only [qG,Bool.and_eq_true,decide_eq_true_eq] at h;simp;omega
theorem leaf_len {x:Bs} (h:qy x=true):x.length<=3:=by
 simp only [qy,Bool.or_eq_true,beq_iff_eq] at h
 rcases h with (rfl | rfl) | rfl <;> simp
theorem uY:∀ t:Tm,uP t->(ze t).length<=9*zM t
 | .nm x,h=>by have:=name_len h;unfold ze;rw [z_,zA,zM];omega
 | .wd w,h=>by have:=leaf_len h;unfold ze;rw [z_,zA,zM];omega
 | .lam x k t,h=>by
   have h1:=name_len h.1
   have h2:=cZ k
   rw [jz,xq] at h2
   have h3:=uY t h.2
   rw [ye,zM]
   simp only [jI,List.length_cons,List.length_append,List.length_nil];omega
 | .app m n,h=>by
   have h1:=uY m h.1
   have h2:=uY n h.2
   rw [ur,zM]
   simp only [vN,List.length_cons,List.length_append,List.length_nil];omega
 | .ite l m n,h=>by
   have h0:=uY l h.1
   have h1:=uY m h.2.1
   have h2:=uY n h.2.2
   rw [y5,zM]
   simp only [ifW,List.length_cons,List.length_append,List.length_nil];omega
theorem vH {l:Bs} {t:Tm} (h:qE l=some t):l=ze t/\uP t/\zM t<=60:=by
 unfold qE at h
 cases hq:qg 60 l with
 | none=>rw [hq] at h;simp at h
 | some x =>
   obtain ⟨t',r⟩:=x
   rw [hq] at h
   cases r with
   | cons c r=>simp at h
   | nil =>
     simp only at h
     split at h
     ·rename_i hs
      simp at h;subst h
      obtain ⟨e,o,_⟩:=gX _ _ _ _ hq
      exact ⟨by simpa using e,o,hs⟩
     ·simp at h
theorem gZ {t:Tm} (ho:uP t) (hs:zM t<=60):qE (ze t)=some t:=by
 unfold qE
 have:=uo t 60 [] ho (by have:=vu t;omega) (by omega) (.inl rfl)
 rw [List.append_nil] at this
 rw [this]
 simp only
 rw [if_pos hs]
theorem specTerm_text {t:Tm} (ho:uP t) (hs:zM t<=60):qT (ze t)=if kQ t then some (z_ t) else none:=by
 unfold qT
 have hl:=uY t ho
 rw [if_neg (by omega)]
 have:=pF (z_ t) 101 [] (j_ t ho) (by have:=u5 t;omega) (.inl rfl)
 rw [List.append_nil] at this
 unfold ze
 rw [this]
 simp only
 rw [x8 t ho,uB,decide_eq_true hs,Bool.and_true]
theorem pi {l:Bs} {tr:Tr} (h:qT l=some tr):∃ t,tr=z_ t/\l=ze t/\uP t/\zM t<=60/\kQ t=true:=by
 unfold qT at h
 split at h
 ·simp at h
 ·split at h
  ·rename_i t' hq
   split at h
   ·rename_i hc
    simp at h;subst h
    simp only [Bool.and_eq_true,decide_eq_true_eq] at hc
    obtain ⟨e,o,_,_⟩:=y9 _ _ _ _ hq
    obtain ⟨t,rfl,q1,q2⟩:=x7 _ t' (Nat.lt_succ_self _) o hc.1
    exact ⟨t,rfl,by simpa [ze] using e,q1,by rw [<- uB];exact hc.2,q2⟩
   ·simp at h
  ·simp at h
theorem term_eq (l:Bs):qT l=(qE l).bind fun t=>if kQ t then some (z_ t) else none:=by
 cases h:qE l with
 | some t =>
   obtain ⟨rfl,ho,hs⟩:=vH h
   rw [specTerm_text ho hs];rfl
 | none =>
   cases hq:qT l with
   | none=>rfl
   | some tr =>
     obtain ⟨t,_,rfl,ho,hs,_⟩:=pi hq
     rw [gZ ho hs] at h;simp at h
def lname (v:Nat):Bs:=120::dec v
theorem cL {t:Ty} (h:zV t<=15):∀ a∈t.args,zV a<=15:=(bU h).1
theorem wd_text (x:Bs):ze (.wd x)=x:=by unfold ze;rw [z_,zA]
theorem uS {t:Ty} (h:zV t<=15):t.args.length<=14:=by
 have:=qV t.args
 have:=qw t
 omega
theorem name_no1 {s:Bs} (h:3<s.length):qG s=false:=by
 cases s with
 | nil=>simp at h
 | cons c r=>simp only [List.length_cons] at h;simp only [qG];rw [decide_eq_false (by omega)];rfl
theorem hG {s:Bs} (h:0<s.length) (hc:s[0].toNat<120\/122<s[0].toNat):qG s=false:=by
 cases s with
 | nil=>simp at h
 | cons c r =>
   simp only [List.getElem_cons_zero] at hc
   rw [Bool.eq_false_iff]
   intro hn
   simp only [qG,Bool.and_eq_true,decide_eq_true_eq,UInt8.le_iff_toNat_le] at hn
   have h1:=hn.1.2.1
   have h2:=hn.1.2.2
   have e1:(120:UInt8).toNat=120:=rfl
   have e2:(122:UInt8).toNat=122:=rfl
   omega
theorem g_ {s:Bs} {k:Nat} (h1:1<=k) (h:k<s.length) (hc:s[k].toNat<48\/57<s[k].toNat):qG s=false:=by
 cases s with
 | nil=>simp at h
 | cons c r =>
   obtain ⟨k,rfl⟩:∃ j,k=j+1:=⟨k-1,by omega⟩
   simp only [List.getElem_cons_succ] at hc
   rw [Bool.eq_false_iff]
   intro hn
   simp only [qG,Bool.and_eq_true,List.all_eq_true] at hn
   have h2:=hn.2 _ (List.getElem_mem (by simpa using h))
   simp only [dig,Bool.and_eq_true,decide_eq_true_eq,UInt8.le_iff_toNat_le] at h2
   have e1:(48:UInt8).toNat=48:=rfl
   have e2:(57:UInt8).toNat=57:=rfl
   omega
theorem name_yes {s:Bs} (h:0<s.length) (h3:s.length<=3) (hc:120<=s[0].toNat/\s[0].toNat<=122) (hd:∀ k,1<=k->∀ (hk:k<s.length),48<=s[k].toNat/\s[k].toNat<=57):qG s=true:=by
 cases s with
 | nil=>simp at h
 | cons c r =>
   simp only [List.getElem_cons_zero] at hc
   simp only [List.length_cons] at h3
   have e1:(120:UInt8).toNat=120:=rfl
   have e2:(122:UInt8).toNat=122:=rfl
   have e3:(48:UInt8).toNat=48:=rfl
   have e4:(57:UInt8).toNat=57:=rfl
   simp only [qG,Bool.and_eq_true,decide_eq_true_eq,UInt8.le_iff_toNat_le,List.all_eq_true]
   refine ⟨⟨by omega,by omega,by omega⟩,fun x hx=>?_⟩
   obtain ⟨i,hi,rfl⟩:=List.getElem_of_mem hx
   have:=hd (i+1) (by omega) (by simpa using hi)
   simp only [List.getElem_cons_succ] at this
   simp only [dig,Bool.and_eq_true,decide_eq_true_eq,UInt8.le_iff_toNat_le]
   omega
def qF (d:Nat):Nat->Bs->Option (List Tm×Bs)
 | 0,l=>some ([],l)
 | n+1,l=>(cut [32] l).bind fun l1=>(qg d l1).bind fun t=>(qF d n t.2).map fun y=>(t.1::y.1,y.2)
theorem yj (d:Nat) (l:Bs):qF d 0 l=some ([],l):=rfl
theorem x5 (d n:Nat) (l:Bs):qF d (n+1) l=(cut [32] l).bind fun l1=>(qg d l1).bind fun t=>(qF d n t.2).map fun y=>(t.1::y.1,y.2):=rfl
def d6 (w:Bs):Nat:=if w=jI then 1 else if w=vN then 2 else if w=ifW then 3 else 0
def gG (w x:Bs) (k:Ty):List Tm->Tm
 | [t]=>.lam x k t
 | [m,n]=>.app m n
 | [l,m,n]=>.ite l m n
 | _=>.wd w
theorem rdTm_lam {d:Nat} {l l3 l4 l6:Bs} {k:Ty} (hw:zu l=jI) (h1:cut [32] (zS l)=some l3) (hn:qG (zu l3)=true) (h2:cut [32] (zS l3)=some l4) (hk:rdK 60 l4=some (k,l6)) :
 qg (d+1) (40::l)=(qF d 1 l6).bind fun y=>(cut [41] y.2).map fun r=>(gG jI (zu l3) k y.1,r):=by
 rw [jO,if_pos hw,h1]
 simp only [Option.bind_some]
 rw [if_pos hn,h2]
 simp only [Option.bind_some]
 rw [hk]
 simp only [Option.bind_some,qF]
 cases cut [32] l6 with
 | none=>rfl
 | some l7 =>
   simp only [Option.bind_some]
   cases qg d l7 with
   | none=>rfl
   | some t=>rfl
theorem rdTm_app {d:Nat} {l:Bs} (x:Bs) (k:Ty) (hw:zu l=vN):qg (d+1) (40::l)=(qF d 2 (zS l)).bind fun y=>(cut [41] y.2).map fun r=>(gG vN x k y.1,r):=by
 rw [jO,if_neg (by rw [hw];decide),if_pos hw]
 simp only [qF]
 cases cut [32] (zS l) with
 | none=>rfl
 | some l3 =>
   simp only [Option.bind_some]
   cases qg d l3 with
   | none=>rfl
   | some t =>
     simp only [Option.bind_some]
     cases cut [32] t.2 with
     | none=>rfl
     | some l4 =>
       simp only [Option.bind_some]
       cases qg d l4 with
       | none=>rfl
       | some t=>rfl
theorem rdTm_ite {d:Nat} {l:Bs} (x:Bs) (k:Ty) (hw:zu l=ifW):qg (d+1) (40::l)=(qF d 3 (zS l)).bind fun y=>(cut [41] y.2).map fun r=>(gG ifW x k y.1,r):=by
 rw [jO,if_neg (by rw [hw];decide),if_neg (by rw [hw];decide),if_pos hw]
 simp only [qF]
 cases cut [32] (zS l) with
 | none=>rfl
 | some l3 =>
   simp only [Option.bind_some]
   cases qg d l3 with
   | none=>rfl
   | some t =>
     simp only [Option.bind_some]
     cases cut [32] t.2 with
     | none=>rfl
     | some l4 =>
       simp only [Option.bind_some]
       cases qg d l4 with
       | none=>rfl
       | some t2 =>
         simp only [Option.bind_some]
         cases cut [32] t2.2 with
         | none=>rfl
         | some l5 =>
           simp only [Option.bind_some]
           cases qg d l5 with
           | none=>rfl
           | some t=>rfl
theorem rdTm_lamNo1 {d:Nat} {l:Bs} (hw:zu l=jI) (h1:cut [32] (zS l)=none):qg (d+1) (40::l)=none:=by
 rw [jO,if_pos hw,h1];rfl
theorem rdTm_lamNo2 {d:Nat} {l l3:Bs} (hw:zu l=jI) (h1:cut [32] (zS l)=some l3) (hn:qG (zu l3)=false):qg (d+1) (40::l)=none:=by
 rw [jO,if_pos hw,h1]
 simp only [Option.bind_some]
 rw [if_neg (by rw [hn];decide)]
theorem rdTm_lamNo3 {d:Nat} {l l3:Bs} (hw:zu l=jI) (h1:cut [32] (zS l)=some l3) (h2:cut [32] (zS l3)=none):qg (d+1) (40::l)=none:=by
 rw [jO,if_pos hw,h1]
 simp only [Option.bind_some]
 rw [h2];split <;> rfl
theorem rdTm_lamNo4 {d:Nat} {l l3 l4:Bs} (hw:zu l=jI) (h1:cut [32] (zS l)=some l3) (h2:cut [32] (zS l3)=some l4) (hk:rdK 60 l4=none):qg (d+1) (40::l)=none:=by
 rw [jO,if_pos hw,h1]
 simp only [Option.bind_some]
 rw [h2]
 simp only [Option.bind_some]
 rw [hk];split <;> rfl
theorem rdTm_none {d:Nat} {l:Bs} (hw:d6 (zu l)=0):qg d (40::l)=none:=by
 cases d with
 | zero=>exact rdTm_zero
 | succ d =>
   unfold d6 at hw
   rw [jO]
   split
   ·rename_i h;rw [if_pos h] at hw;simp at hw
   ·rename_i h
    rw [if_neg h] at hw
    split
    ·rename_i h2;rw [if_pos h2] at hw;simp at hw
    ·rename_i h2
     rw [if_neg h2] at hw
     split
     ·rename_i h3;rw [if_pos h3] at hw;simp at hw
     ·rfl
theorem rdParTm_step {d n:Nat} {l0 l l1 r:Bs} {m:Nat} {ts:List Tm} {t:Tm} (h:qF d m l0=(qF d (n+1) l).map fun y=>(ts++y.1,y.2)) (h1:cut [32] l=some l1) (h2:qg d l1=some (t,r)) :
 qF d m l0=(qF d n r).map fun y=>((ts++[t])++y.1,y.2):=by
 rw [h,x5,h1]
 simp only [Option.bind_some]
 rw [h2]
 simp only [Option.bind_some,Option.map_map]
 congr 1
 funext y
 simp
theorem cm {d n:Nat} {l0 l:Bs} {m:Nat} {ts:List Tm} (h:qF d m l0=(qF d (n+1) l).map fun y=>(ts++y.1,y.2)) (h1:cut [32] l=none):qF d m l0=none:=by
 rw [h,x5,h1];rfl
theorem cf {d n:Nat} {l0 l l1:Bs} {m:Nat} {ts:List Tm} (h:qF d m l0=(qF d (n+1) l).map fun y=>(ts++y.1,y.2)) (h1:cut [32] l=some l1) (h2:qg d l1=none):qF d m l0=none:=by
 rw [h,x5,h1]
 simp only [Option.bind_some]
 rw [h2];rfl
theorem rdTm_le:∀ {d:Nat} {l:Bs} {t:Tm} {r:Bs},qg d l=some (t,r)->r.length<l.length:=by
 intro d l t r h
 obtain ⟨e,ho,_⟩:=gX d l t r h
 rw [e,List.length_append]
 have:0<(ze t).length:=by
  cases t with
  | nm x =>
    have:ze (.nm x)=x:=by unfold ze;rw [z_,zA]
    rw [this]
    have:=(yD ho).1
    exact List.length_pos_iff.2 this
  | wd x =>
    have:ze (.wd x)=x:=by unfold ze;rw [z_,zA]
    rw [this]
    have:=(xh ho).1
    exact List.length_pos_iff.2 this
  | lam x k t=>rw [ye];simp
  | app m n=>rw [ur];simp
  | ite l m n=>rw [y5];simp
 omega
def cA (a b:Bs):Bs:=[40,62,32]++a++[32]++b++[41]
theorem arrowText_eq (x y:Ty):cA (zF x) (zF y)=zF (zd x y):=by
 cases y with
 | mk ys=>unfold cA zd;rw [uX];simp [Ty.args]
def composeEnv (x y:Ty) (f:Bd) (zs:List Ty):List Mn:=.bd y f [.op 0 x]::opens 1 zs
mutual
def eta:Ty->Nat->Nat->Bd
 | .mk ts,v,n=>.ask v (vi ts n (n+ts.length)) (.leaf 116) (.leaf 102)
def vi:List Ty->Nat->Nat->List Bd
 | [],_,_=>[]
 | t::ts,v,n=>eta t v n::vi ts (v+1) n
end
theorem eta_eq (t:Ty) (v n:Nat):eta t v n=.ask v (vi t.args n (n+t.args.length)) (.leaf 116) (.leaf 102):=by cases t;rw [eta];rfl
theorem uM:∀ (ts:List Ty) (v n:Nat),(vi ts v n).length=ts.length
 | [],_,_=>by simp [vi]
 | t::ts,v,n=>by rw [vi,List.length_cons,uM ts,List.length_cons]
theorem dC:∀ (ts:List Ty) (v n k:Nat) (t:Ty),ts[k]? = some t->(vi ts v n)[k]? = some (eta t (v+k) n)
 | [],v,n,k,t,h=>by simp at h
 | a::ts,v,n,k,t,h=>by
   rw [vi]
   cases k with
   | zero=>simp at h;subst h;simp
   | succ k=>simp only [List.getElem?_cons_succ] at *;rw [dC ts (v+1) n k t h,show v+1+k=v+(k+1) from by omega]
mutual
theorem eta_fit:∀ (t:Ty) (v n:Nat) (hand:List Ty),hand.length=n->hand[v]? = some t->jP (hand++t.args) (eta t v n)
 | .mk ts,v,n,hand,hn,hv=>by
   rw [eta,jP]
   have fG:=(List.getElem?_eq_some_iff.1 hv).1
   refine ⟨.mk ts,by rw [List.getElem?_append_left fG];exact hv,?_,by simp [jP],by simp [jP]⟩
   refine etas_fit ts n (n+ts.length) (hand++ts) (by simp [hn]) fun j t hj=>?_
   subst hn
   rw [List.getElem?_append_right (by omega),Nat.add_sub_cancel_left];exact hj
theorem etas_fit:∀ (ts:List Ty) (v n:Nat) (hand:List Ty),hand.length=n->(∀ j t,ts[j]? = some t->hand[v+j]? = some t)->jW (jg hand ts) (vi ts v n)
 | [],v,n,hand,_,_=>by rw [vi,jW];rfl
 | t::ts,v,n,hand,hn,hv=>by
   rw [vi,jW]
   refine ⟨hand++t.args,jg hand ts,rfl,eta_fit t v n hand hn (by simpa using hv 0 t rfl),etas_fit ts (v+1) n hand hn fun j t' hj=>?_⟩
   rw [show v+1+j=v+(j+1) from by omega]
   exact hv (j+1) t' (by simpa using hj)
end
mutual
theorem eta_wf:∀ (t:Ty) (v n:Nat),wfB (eta t v n)
 | .mk ts,v,n=>by rw [eta,wfB];exact ⟨etas_wf ts n _,.inl rfl,.inr (.inl rfl)⟩
theorem etas_wf:∀ (ts:List Ty) (v n:Nat),yT (vi ts v n)
 | [],v,n=>by rw [vi];trivial
 | t::ts,v,n=>by rw [vi,yT];exact ⟨eta_wf t v n,etas_wf ts (v+1) n⟩
end
mutual
theorem eG:∀ (t:Ty) (v n:Nat),zW (eta t v n)<=3*zV t/\kR (eta t v n)<=zV t
 | .mk ts,v,n=>by
   have:=etas_size ts n (n+ts.length)
   rw [eta,zW,kR,zV]
   simp only [zW,kR] at *
   omega
theorem etas_size:∀ (ts:List Ty) (v n:Nat),zR (vi ts v n)<=3*zt ts/\kx (vi ts v n)<=zt ts
 | [],v,n=>by simp [vi,zR,kx]
 | t::ts,v,n=>by
   have h1:=eG t v n
   have h2:=etas_size ts (v+1) n
   rw [vi,zR,kx,zt]
   omega
end
def cost:Bd->Nat
 | .leaf c=>if c=117 then 1 else 2
 | .ask _ ss y n=>4+costs ss+cost y+cost n
where costs:List Bd->Nat
 | []=>0
 | s::ss=>1+cost s+costs ss
theorem ev_bd {d l v n:Nat} {ss:List Bd} {y no b':Bd} {t:Ty} {env e:List Mn} {st:List Gf} (h:env[v]? = some (.bd t b' e)) :
 ev (d+1) (l+1) (.ask v ss y no) env n st=ev d l b' (e++owns env t.args ss) n (⟨y,no,env⟩::st):=by rw [ev.eq_def];simp only [h]
theorem ev_op {d l v n o:Nat} {ss:List Bd} {y no:Bd} {t:Ty} {env:List Mn} {st:List Gf} (h:env[v]? = some (.op o t)) :
 ev (d+1) (l+1) (.ask v ss y no) env n st=(kh (ev d) env n l t.args ss).bind fun x=>(ev d x.2 y env n st).bind fun z=>(ev d z.2 no env n st).bind fun u=>some (.ask o x.1 z.1 u.1,u.2):=by rw [ev.eq_def];simp only [h];rfl
theorem ev_u {d l n:Nat} {env:List Mn} {st:List Gf}:ev (d+1) (l+1) (.leaf 117) env n st=some (.leaf 117,l):=by rw [ev.eq_def];simp
theorem ev_end {d l n:Nat} {c:UInt8} {env:List Mn}:ev (d+1) (l+1) (.leaf c) env n []=some (.leaf c,l):=by rw [ev.eq_def];simp
theorem ev_back {d l n:Nat} {c:UInt8} (h:c≠117) {env:List Mn} {f:Gf} {st:List Gf}:ev (d+1) (l+1) (.leaf c) env n (f::st)=ev d l (if c=116 then f.yes else f.no) f.env n st:=by rw [ev.eq_def];simp only [if_neg h]
theorem ge {env:List Mn}:∀ (ts:List Ty) (ss:List Bd) (k:Nat) (t:Ty) (s:Bd),ts[k]? = some t->ss[k]? = some s->(owns env ts ss)[k]? = some (.bd t s env)
 | [],ss,k,t,s,h,_=>by simp at h
 | t'::ts,[],k,t,s,_,h=>by simp at h
 | t'::ts,s'::ss,k,t,s,h1,h2=>by
   rw [owns]
   cases k with
   | zero=>simp at h1 h2;subst h1;subst h2;rfl
   | succ k=>simp only [List.getElem?_cons_succ] at *;exact ge ts ss k t s h1 h2
theorem xH {env:List Mn}:∀ (ts:List Ty) (ss:List Bd),ts.length=ss.length->(owns env ts ss).length=ts.length
 | [],[],_=>by rw [owns]
               ·rfl
               ·intros;contradiction
 | [],s::ss,h=>by simp at h
 | t::ts,[],h=>by simp at h
 | t::ts,s::ss,h=>by rw [owns];simp [xH ts ss (by simpa using h)]
theorem xw:∀ (ts:List Ty) (n k:Nat) (t:Ty),ts[k]? = some t->(opens n ts)[k]? = some (.op (n+k) t)
 | [],n,k,t,h=>by simp at h
 | a::ts,n,k,t,h=>by
   rw [opens]
   cases k with
   | zero=>simp at h;subst h;rfl
   | succ k=>simp only [List.getElem?_cons_succ] at *;rw [xw ts (n+1) k t h,show n+1+k=n+(k+1) from by omega]
theorem kL:∀ (ts:List Ty) (n:Nat),(opens n ts).length=ts.length
 | [],n=>by rw [opens];rfl
 | t::ts,n=>by rw [opens];simp [kL ts]
structure Copies (env:List Mn) (hand:List Ty):Prop where
 len:env.length=hand.length
 each:∀ i t,hand[i]? = some t->∃ (v:Nat) (e:List Mn),env[i]? = some (Mn.bd t (eta t v e.length) e)/\e[v]? = some (Mn.op i t)
theorem Copies.more {env:List Mn} {hand:List Ty} (h:Copies env hand) (e2:List Mn) (ts:List Ty) :
 Copies (env++owns (e2++opens hand.length ts) ts (vi ts e2.length (e2.length+ts.length))) (hand++ts):=by
 have hl:=h.len
 refine ⟨?_,fun i t hi=>?_⟩
 ·rw [List.length_append,List.length_append,xH _ _ (uM _ _ _).symm,hl]
 ·rcases Nat.lt_or_ge i hand.length with fG | tL
  ·rw [List.getElem?_append_left fG] at hi
   obtain ⟨v,e,h1,h2⟩:=h.each i t hi
   exact ⟨v,e,by rw [List.getElem?_append_left (by omega)];exact h1,h2⟩
  ·rw [List.getElem?_append_right tL] at hi
   have h1:=dC ts e2.length (e2.length+ts.length) _ t hi
   have h2:=ge (env:=e2++opens hand.length ts) ts _ _ t _ hi h1
   have h3:=xw ts hand.length _ t hi
   refine ⟨e2.length+(i-hand.length),e2++opens hand.length ts,?_,?_⟩
   ·rw [List.getElem?_append_right (by omega),hl,h2,List.length_append,kL]
   ·rw [List.getElem?_append_right (by omega),Nat.add_sub_cancel_left,h3,show hand.length+(i-hand.length)=i from by omega]
def cO (t:Ty):Prop:=∀ (F:Nat->Prop) (w:World) (v:Value),Rep F w (kz t) v ->
 Calls Tryz.prog 46 #[.agg #[v]] w fun en w'=>en=.returned (str (zF t))/\Below w.heap.size w w'
theorem textT_drop {ts:List Ty} {k:Nat} {t:Ty} (h:ts[k]? = some t):zF (.mk (ts.drop k))=((([40,62,32]++zF t)++[32])++zF (.mk (ts.drop (k+1))))++[41]:=by
 have hk:=(List.getElem?_eq_some_iff.1 h).1
 have e:ts[k]=t:=(List.getElem?_eq_some_iff.1 h).2
 rw [List.drop_eq_getElem_cons hk,uX,e]
 simp
theorem atomsT_drop (ts:List Ty) (k:Nat):zV (.mk (ts.drop k))<=zV (.mk ts):=by
 have:=ux (ts.take k) (ts.drop k)
 rw [List.take_append_drop] at this
 simp only [zV];omega
theorem l1Text_step (t:Ty) (hl:zV t<=1000) (ih:∀ t',zV t'<zV t->cO t'):cO t:=by
 intro F w v hv
 rw [qv] at hv
 obtain ⟨a,cap,e,_,hlen,fU⟩:=zP hv
 subst e
 have IH:=ed ih;clear ih
 have AT:=ed fU;clear fU hlen hv
 have hE:=qw t
 have hlb:t.args.length<=1000:=by have:=qV t.args;omega
 have E1:=ed hE;clear hE
 have HT:Hid (t=.mk t.args):=by show t=_;cases t;rfl
 go_enter Tryz.func46,Tryz.ntmps46
 go_wp2_with fail
 go_loopw [3,4] (fun o i wr=>∃ k:Nat,k<=t.args.length/\i=.int .i64 ((k:Int)-1)/\o=str (zF (.mk (t.args.drop k)))/\Below w.heap.size w wr/\wr.cell? ⟨w.heap.size,0,none⟩=some (.slice a t.args.length cap)) (fun _ i _=>(intOf i+1).toNat)
 case atStart=>exact ⟨t.args.length,ei _,rfl,by rw [List.drop_length,ue],(e_ _ _).alloc (ei _) _,by simp⟩
 case round =>
  obtain ⟨k,hk,rfl,rfl,hb,hc⟩:=hrel
  cases k with
  | succ k =>
    have tL:(0:Int)<=((k+1:Nat):Int)-1:=by omega
    have hki:((k+1:Nat):Int)-1=(k:Int):=by omega
    have fG:k<t.args.length:=by omega
    have mX:(k:Int)<(t.args.length:Int):=by omega
    obtain ⟨b',o,u,d,eb,_,fN,hd,hu,hr⟩:=AT.out k fG
    subst eb
    rw [vj,Option.map_eq_some_iff] at hd
    obtain ⟨t',nz,rfl⟩:=hd
    obtain ⟨ua,uc,rfl⟩:=kK hr
    have hu':wr.cell? ⟨b',o+k,none⟩=some (.slice ua t'.args.length uc):=by rw [hb.cell fN];exact hu
    have rA:=Rep.below (F':=F) hb (fun _ h=>h) hr
    have hs:=yx nz
    have mH:=uU t.args (k+1)
    have ri:=E1.out
    have IH':=ed (IH.out t' (by omega))
    have l1:=jk 1000 t' (by omega)
    have d1:=atomsT_drop t.args (k+1)
    rw [<- HT.out] at d1
    have l2:=jk 1000 (.mk (t.args.drop (k+1))) (by omega)
    have hx:=textT_drop nz
    obtain ⟨X,hX⟩:=zzN (zF t')
    rw [hX] at hx l1
    have HX:=ed hx
    have HXX:=ed hX
    clear hx hX
    generalize zF (.mk (t.args.drop (k+1)))=R at *
    obtain ⟨O1,h1⟩:=zzM ([40,62,32]++X)
    obtain ⟨O2,h2⟩:=zzM (O1++[32])
    obtain ⟨O3,h3⟩:=zzM (O2++R)
    obtain ⟨O4,h4⟩:=zzM (O3++[41])
    have m1:O1.length=X.length+3:=by rw [h1];simp
    have m2:O2.length=O1.length+1:=by rw [h2];simp
    have m3:O3.length=O2.length+R.length:=by rw [h3];simp
    have iP:=fun w0=>qR (P:=Tryz.prog) [40,62,32] X (by simp;omega) w0
    have iW:=fun w0=>qR (P:=Tryz.prog) O1 [32] (by simp;omega) w0
    have lD:=fun w0=>qR (P:=Tryz.prog) O2 R (by omega) w0
    have lC:=fun w0=>qR (P:=Tryz.prog) O3 [41] (by simp;omega) w0
    have H4:Hid (zF (.mk (t.args.drop k))=O4):=by show _=_;rw [HX.out,h4,h3,h2,h1]
    rw [<- h1] at iP;rw [<- h2] at iW;rw [<- h3] at lD;rw [<- h4] at lC
    have hz:=e9 wr _ hc
    rw [hki]
    clear hs nz ri hu hr l1 l2 d1 h1 h2 h3 h4 m1 m2 m3 mH hki tL
    go_wp2_with fail
    refine (IH'.out _ _ _ rA).mono ?_
    rintro en w2 ⟨rfl,fY⟩
    rw [HXX.out]
    have fE:=zzT hb fY
    have rD:w2.cell? ⟨w.heap.size,0,none⟩=some (.slice (some ⟨b',o,none⟩) t.args.length cap):=by rw [fY.cell hz];exact hc
    go_wp2_with fail
    go_roundw
    case rel=>exact ⟨k,by omega,rfl,by rw [H4.out],fE,rD⟩
    case measure=>simp [intOf]
  | zero =>
    have tL:¬ (0:Int)<=((0:Nat):Int)-1:=by omega
    go_wp2_with fail
    go_ret
    refine ⟨?_,hb⟩
    have e:zF (.mk t.args)=zF t:=by rw [<- HT.out]
    show Ending.returned (str (zF (.mk t.args)))=_
    rw [e]
theorem vI (n:Nat):∀ t,zV t<=n->n<=1000->cO t:=by
 induction n with
 | zero=>intro t h _;have:=kr t;omega
 | succ n ih=>exact fun t h hn=>l1Text_step t (by omega) (fun t' h'=>ih t' (by omega) (by omega))
def StrsAt (w:World) (a:Option Addr) (xs:List Bs):Prop:=∀ (k:Nat) (s:Bs),xs[k]? = some s->∃ b o,a=some ⟨b,o,none⟩/\w.cell? ⟨b,o+k,none⟩=some (str s)
theorem StrsAt.below {w w':World} {a:Option Addr} {xs:List Bs} (h:StrsAt w a xs) (hb:Below w.heap.size w w'):StrsAt w' a xs:=fun k s hs=>by
 obtain ⟨b,o,e,hc⟩:=h k s hs
 exact ⟨b,o,e,(hb.cell (e9 w _ hc)).trans hc⟩
theorem Tryz.infoStr:(Tryz.prog.info? 9).map (fun i=>(i.zero,i.size,i.bytes))=some (some (str []),1,16):=by kernel_rfl
def atT (t:Ty):Bs->Option Ty
 | []=>some t
 | c::p=>if 48<=c.toNat then (match t.args[c.toNat-48]? with | some a=>atT a p | none=>none) else none
theorem atT_nil (t:Ty):atT t []=some t:=by cases t;rfl
theorem eM (t:Ty) (c:UInt8) (p:Bs):atT t (c::p)=if 48<=c.toNat then (match t.args[c.toNat-48]? with | some a=>atT a p | none=>none) else none:=by rw [atT]
theorem eN:∀ (p q:Bs) (t:Ty),atT t (p++q)=(atT t p).bind fun a=>atT a q
 | [],q,t=>by rw [atT_nil];rfl
 | c::p,q,t=>by
   rw [List.cons_append,eM,eM]
   split
   ·cases h:t.args[c.toNat-48]? with
    | none=>rfl
    | some a=>exact eN p q a
   ·rfl
theorem digit_nat {j:Nat} (h:j<10):(yR j).toNat=48+j:=digit_ofNat h
theorem atT_digit (t:Ty) {j:Nat} (h:j<10):atT t [yR j]=t.args[j]?:=by
 rw [eM,digit_nat h,if_pos (by omega),show 48+j-48=j from by omega]
 cases t.args[j]? with
 | none=>rfl
 | some a=>exact atT_nil a
theorem args_len (t:Ty):2*t.args.length+1<=zV t:=by
 rw [qw t]
 have:∀ ts:List Ty,2*ts.length<=zt ts:=by
  intro ts
  induction ts with
  | nil=>simp
  | cons u us ih =>
    have:=kr u
    rw [show u::us=[u]++us from rfl,ux]
    have e:zt [u]=1+zV u:=by simp [zt]
    rw [e,List.length_append,List.length_singleton];omega
 have:=this t.args
 omega
abbrev Pl:=List (Bs×Int)
abbrev pG:=Nat×Bs
def xu (many begin:Nat) (path:Bs):List pG:=(List.range many).map fun i=>(begin,path++dec i)
theorem uV (m b:Nat) (p:Bs):(xu m b p).length=m:=by simp [xu]
theorem ce {m b j:Nat} {p:Bs} (h:j<m):(xu m b p)[j]? = some (b,p++dec j):=by simp [xu,h]
structure PlFit (t:Ty) (lv:List pG) (hand:List Ty) (n:Nat):Prop where
 len:lv.length=hand.length
 each:∀ (i:Nat) (a:Ty),hand[i]? = some a->∃ pl,lv[i]? = some pl/\atT t pl.2=some a/\pl.1<n
theorem PlFit.kid {t:Ty} {lv:List pG} {hand:List Ty} {n m k:Nat} (h:PlFit t lv hand n) (Dj:n<=m) (hk:k<m) {p:Bs} {a:Ty} (ha:atT t p=some a) (Gu:a.args.length<=10) :
 PlFit t (lv++xu a.args.length k p) (hand++a.args) m:=by
 refine ⟨by rw [List.length_append,List.length_append,uV,h.len],fun i b hb=>?_⟩
 rcases Nat.lt_or_ge i hand.length with hi | hi
 ·rw [List.getElem?_append_left hi] at hb
  obtain ⟨pl,h1,h2,h3⟩:=h.each i b hb
  exact ⟨pl,by rw [List.getElem?_append_left (by rw [h.len];exact hi)];exact h1,h2,by omega⟩
 ·rw [List.getElem?_append_right hi] at hb
  have fG:=(List.getElem?_eq_some_iff.1 hb).1
  refine ⟨(k,p++dec (i-hand.length)),?_,?_,hk⟩
  ·rw [List.getElem?_append_right (by rw [h.len];exact hi),h.len,ce fG]
  ·show atT t (p++dec (i-hand.length))=some b
   rw [eN,ha,Option.bind_some,vD (by omega),atT_digit _ (by omega)];exact hb
theorem PlFit.mono {t:Ty} {lv:List pG} {hand:List Ty} {n m:Nat} (h:PlFit t lv hand n) (Dj:n<=m):PlFit t lv hand m :=
 ⟨h.len,fun i a ha=>by obtain ⟨pl,h1,h2,h3⟩:=h.each i a ha;exact ⟨pl,h1,h2,by omega⟩⟩
structure cj (lv:List pG) (bg:pG) (v:Pl) (begun args:List Nat) (opens:Nat):Prop where
 lb:begun.length=lv.length
 la:args.length=lv.length
 each:∀ (i:Nat) (pl:pG),lv[i]? = some pl->∃ j m z,begun[i]? = some pl.1/\args[i]? = some j/\v[pl.1]? = some (113::m,z)/\pl.2=m++dec j/\j<10
 bg:bg.1=opens/\∃ c z,v[opens]? = some (c::bg.2,z)
theorem cj.more {lv:List pG} {bg:pG} {v:Pl} {begun args:List Nat} {opens:Nat} (h:cj lv bg v begun args opens) (xs:Pl):cj lv bg (v++xs) begun args opens:=by
 have key:∀ (i:Nat) (x:Bs×Int),v[i]? = some x->(v++xs)[i]? = some x:=fun i x hx=>by
  rw [List.getElem?_append_left (List.getElem?_eq_some_iff.1 hx).1];exact hx
 refine ⟨h.lb,h.la,fun i pl hi=>?_,h.bg.1,?_⟩
 ·obtain ⟨j,m,z,h1,h2,h3,h4⟩:=h.each i pl hi
  exact ⟨j,m,z,h1,h2,key _ _ h3,h4⟩
 ·obtain ⟨c,z,hc⟩:=h.bg.2
  exact ⟨c,z,key _ _ hc⟩
theorem cj.kid {lv:List pG} {bg:pG} {v:Pl} {begun args:List Nat} {opens:Nat} (h:cj lv bg v begun args opens) (many k:Nat) (p:Bs) (Gu:many<=10) {z:Int} (hk:v[k]? = some (113::p,z)) :
 cj (lv++xu many k p) (k,p) v (begun++List.replicate many k) (args++List.range many) k:=by
 refine ⟨by simp [h.lb,uV],by simp [h.la,uV],fun i pl hi=>?_,rfl,113,z,hk⟩
 rcases Nat.lt_or_ge i lv.length with fG | tL
 ·rw [List.getElem?_append_left fG] at hi
  obtain ⟨j,m,z',h1,h2,h3,h4⟩:=h.each i pl hi
  exact ⟨j,m,z',by rw [List.getElem?_append_left (by rw [h.lb];exact fG)];exact h1,by rw [List.getElem?_append_left (by rw [h.la];exact fG)];exact h2,h3,h4⟩
 ·rw [List.getElem?_append_right tL] at hi
  have hl:=(List.getElem?_eq_some_iff.1 hi).1
  rw [uV] at hl
  rw [ce hl] at hi
  obtain rfl:=Option.some.inj hi
  refine ⟨i-lv.length,p,z,?_,?_,hk,rfl,by omega⟩
  ·rw [List.getElem?_append_right (by rw [h.lb];exact tL),h.lb];simp [hl]
  ·rw [List.getElem?_append_right (by rw [h.la];exact tL),h.la];simp [hl]
end Go.Proofs.YtjggkhmojjaomaaGreatDoor

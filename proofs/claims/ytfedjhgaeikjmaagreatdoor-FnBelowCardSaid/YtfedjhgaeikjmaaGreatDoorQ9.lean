/- Walks of functions that the statement reaches, and plain words. No conditions. -/
import Derived.Test.YtfedjhgaeikjmaaGreatDoorQ8
set_option linter.unusedVariables false
set_option linter.unusedSimpArgs false
set_option maxHeartbeats 8000000
namespace Go.Proofs.YtfedjhgaeikjmaaGreatDoor
open Go.RowKit
theorem jK {t:Ty} (h:zY t<=15):(∀ a∈t.args,zY a<=15)/\t.args.length<=15:=by
 have hm:=kw t
 constructor
 ·intro a ha
  have key:∀ ts:List Ty,a∈ts->1+zY a<=zF ts:=by
   intro ts
   induction ts with
   | nil=>intro h;simp at h
   | cons x xs ih =>
     intro h
     rcases List.mem_cons.1 h with rfl | h
     ·simp only [zF];omega
     ·have:=ih h;simp only [zF];omega
  have:=key _ ha;omega
 ·have:=kn t.args;omega
theorem one_cellD {w:World} {b:Nat} {x:Value} {T:TypeId} (h:w.heap[b]? = some (.cells #[x] T (0,0))):w.cell? ⟨b,0,none⟩=some x:=by simp [World.cell?,h]
theorem lvBs_ofD:∀ xs:List Bd,(∀ b∈xs,lvB b)->qd xs
 | [],_=>by rw [qd];trivial
 | b::bs,h=>by rw [qd];exact ⟨h b (by simp),lvBs_ofD bs fun x hx=>h x (by simp [hx])⟩
theorem fit_lvD (n:Nat):∀ (b:Bd) (h:List Ty),zP b<=n->zm h b->(∀ t∈h,zY t<=15)->h.length+15*n<=10000->lvB b:=by
 induction n with
 | zero=>intro b h hs;have:=kX b;omega
 | succ n ih =>
   intro b h hs hf ha hl
   cases b with
   | leaf c=>rw [lvB];trivial
   | ask v ss y no =>
     rw [zm] at hf
     obtain ⟨t,ht,f1,f2,f3⟩:=hf
     rw [zP] at hs
     have hy:=kX y
     have hn:=kX no
     have hv:=(List.getElem?_eq_some_iff.1 ht).1
     have ht15:=ha t (List.mem_of_getElem? ht)
     rw [lvB]
     refine ⟨by omega,lvBs_ofD ss fun b hb=>?_,ih y h (by omega) f2 ha (by omega),ih no h (by omega) f3 ha (by omega)⟩
     have bG:=yC hb
     obtain ⟨k,hk⟩:=List.mem_iff_getElem?.1 hb
     obtain ⟨x,hx,hxf⟩:=qa _ _ f1 k b hk
     simp only [kP,List.getElem?_map,Option.map_eq_some_iff] at hx
     obtain ⟨a,haa,rfl⟩:=hx
     have sL:=(jK ht15).1 a (List.mem_of_getElem? haa)
     have rV:=jK sL
     refine ih b (h++a.args) (by omega) hxf (fun t ht=>?_) (by rw [List.length_append];omega)
     rcases List.mem_append.1 ht with h | h
     ·exact ha t h
     ·exact rV.1 t h
theorem good_lvD {t:Ty} {b:Bd} (h:Good t b):lvB b :=
 fit_lvD 200 b t.args h.size h.fit (jK h.atoms).1 (by have:=(jK h.atoms).2;omega)
theorem good_hand {t:Ty} {b:Bd} (h:Good t b):kj 2 t.args:=⟨(jK h.atoms).1,by have:=(jK h.atoms).2;omega⟩
theorem bnd2:bnd 2=307:=rfl
theorem cst2:cst 2=379:=rfl
theorem text_len {b:Bd} {n:Nat} (h:lvB b) (hs:zP b<=n) (hn:n<=1000):(kT b).length<=100000:=by
 have:=kx b h;omega
set_option maxRecDepth 100000 in
theorem l91Two_any (rd:Nat) (w:World) (hr:kW w rd 0) :
 Calls Tryz.prog 27 #[.pointer (some ⟨rd,0,none⟩)] w fun en w'=>∃ s a b:Bs,en=.returned (.tuple #[str s,str a,str b])/\s.length<=100/\a.length<=100000/\b.length<=100000/\But (· = rd) w w':=by
 go_enter Tryz.func27,Tryz.ntmps27
 go_wp2_with fail
 refine (l91Given_any rd 0 w hr (by omega)).mono ?_
 rintro en w1 ⟨s,text,rfl,hs,ht,gW,gp⟩
 have ls:Lim s.length:=show _<=_ by omega
 have lt:Lim text.length:=show _<=_ by omega
 have bY:=gZ gW
 clear gW hr
 go_wp2_with fail
 refine (j3 s text ls lt w1).mono ?_
 rintro en w2 ⟨a,c,s',v',a2,n2,c2,a3,n3,c3,rfl,gP,ry,cQ⟩
 obtain ⟨W,hW,gG,nI,x0,x1⟩:=uV w2 (.cells #[.slice a (zQ s).1.args.length c] 61) (.cells #[str s',.int .i64 v',.slice a2 n2 c2,.slice a3 n3 c3] 64)
 have nJ:Below w1.heap.size w1 W:=zzT gP gG
 have dJ:kW W rd (0+6500):=gp.below nJ
 have hBW:But (· = rd) w W:=bY.out.trans (But.ofBelow nJ)
 have hrd1:=gp.lt
 have bw:=nJ.size
 have HW:=gZ (gK hW (gK hBW (gK nI (gK x0 (gK x1 (gK gP (gK gG bw)))))))
 have tg:=gZ ry
 have HRS:=gZ cQ
 clear gP ry cQ hW gG x0 x1 nJ hBW gp
 cases hq:zX s text with
 | none =>
   clear hq
   simp only [Option.isSome_none]
   go_upto_region 3 with (fail)
   rw [HW.out.1]
   have HBx:=gZ HW.out.2.1
   go_wp2_with fail
   refine (vV rd (0+6500) W dJ (by omega)).mono ?_
   rintro en y1 ⟨ty,aC,rfl,gR,bj⟩
   have d9:=gZ (HBx.out.trans gR)
   have HTY:=gZ aC
   clear aC gR dJ
   go_wp2_with fail
   refine (jy rd _ ty HTY.out y1 bj (by omega)).mono ?_
   rintro en y2 h6
   obtain ⟨m,rfl,lm,gB,dF⟩:=strat_len h6
   have mY:=gZ (d9.out.trans gB)
   clear h6 gB dF bj
   go_wp2_with fail
   refine bodyPost_ret (v:=.tuple #[str s,str text,str m]) (by simp [results,Tryz.results27,go_sem]) rfl ?_
   exact ⟨s,text,m,rfl,hs,ht,lm,mY.out⟩
 | some b =>
   have HG:=gZ (kN hq).1
   have HRB:=gZ (HRS.out b hq)
   clear hq
   simp only [Option.isSome_some]
   go_upto_region 3 with (fail)
   rw [HW.out.1]
   go_wp2_with fail
   refine (qR rd (0+6500) 3 W dJ (by omega) (by omega) (by omega)).mono ?_
   rintro en w3 ⟨p3,rfl,fU,gF,mj⟩
   have cL:=gZ (gK (HW.out.2.1.trans gF) gF)
   clear gF dJ
   by_cases cb:p3=0
   ·subst cb
    go_wp2_with fail
    refine (vV rd (0+6500+1) w3 mj (by omega)).mono ?_
    rintro en y1 ⟨ty,aC,rfl,gR,bj⟩
    have d9:=gZ (cL.out.1.trans gR)
    have HTY:=gZ aC
    clear aC gR mj
    go_wp2_with fail
    refine (jy rd _ ty HTY.out y1 bj (by omega)).mono ?_
    rintro en y2 h6
    obtain ⟨m,rfl,lm,gB,dF⟩:=strat_len h6
    have mY:=gZ (d9.out.trans gB)
    clear h6 gB dF bj
    go_wp2_with fail
    refine bodyPost_ret (v:=.tuple #[str s,str text,str m]) (by simp [results,Tryz.results27,go_sem]) rfl ?_
    exact ⟨s,text,m,rfl,hs,ht,lm,mY.out⟩
   have hp30:((p3:Int) == 0)=false:=by rw [beq_eq_false_iff_ne];omega
   clear cb
   go_wp2_with fail
   refine (qR rd _ 2 w3 mj (by omega) (by omega) (by omega)).mono ?_
   rintro en w4 ⟨p4,rfl,bN,gS,fV⟩
   have d_:=gZ (gK (cL.out.1.trans gS) (cL.out.2.trans gS))
   clear gS mj
   have hne0:w2.heap.size≠rd:=by have h1:=HW.out.2.2.2.2.2.1.size;omega
   have mh:w2.heap.size+1≠rd:=by have h1:=HW.out.2.2.2.2.2.1.size;omega
   by_cases hz4:p4=0
   ·subst hz4
    have y0:=kZ d_.out.2 hne0 (one_cellD HW.out.2.2.2.1)
    have fJ:Rep (fun k=>w1.heap.size<=k) w4 (.sl 61 1 (zQ s).1.args.length (qQ (zQ s).1.args)) (.slice a (zQ s).1.args.length c):=by
     have h1:=tg.out
     rw [qj] at h1
     have h2:Rep (fun k=>w1.heap.size<=k) W (.sl 61 1 (zQ s).1.args.length (qQ (zQ s).1.args)) (.slice a (zQ s).1.args.length c):=Rep.below HW.out.2.2.2.2.2.2.1 (fun _ h=>h) h1
     exact Rep.but d_.out.2 (fun k hk=>⟨by show ¬ k=rd;have:w1.heap.size<=k:=hk;omega,hk⟩) h2
    have C:=gZ (xn rd 2 (by omega) 2 (zQ s).1.args (fun k=>w1.heap.size<=k) (.slice a (zQ s).1.args.length c) w4 _ (by omega) (by omega) (by rw [cst2];omega) fV (good_hand HG.out) (fun k hk=>by have:w1.heap.size<=k:=hk;omega) fJ)
    clear fJ fV
    go_wp2_with fail
    refine C.out.mono ?_
    rintro en w5 ⟨b5,s5,v5,d2,m2,k2,d3,m3,k3,rfl,gR,bj,hf5,r9,bf,eW⟩
    have gC:=text_len r9 bf (by rw [bnd2];omega)
    have HT:=gZ (yE 307 b5 (by rw [bnd2] at bf;exact bf) (by omega) r9 _ w5 _ _ _ _ eW)
    have d9:=gZ (d_.out.1.trans gR)
    clear gR bj hf5 r9 bf eW C
    go_wp2_with fail
    refine HT.out.mono ?_
    rintro en w6 ⟨rfl,gB⟩
    have mY:=gZ (d9.out.trans (But.ofBelow gB))
    clear gB HT
    generalize kT b5=M at *
    go_wp2_with fail
    refine bodyPost_ret (v:=.tuple #[str s,str text,str M]) (by simp [results,Tryz.results27,go_sem]) rfl ?_
    exact ⟨s,text,M,rfl,hs,ht,gC,mY.out⟩
   ·have hp40:((p4:Int) == 0)=false:=by rw [beq_eq_false_iff_ne];omega
    clear hz4
    obtain ⟨z0,z1,z2,z3⟩:=zc HW.out.2.2.2.2.1
    have y0:=kZ d_.out.2 mh z0
    have y1:=kZ d_.out.2 mh z1
    have y2:=kZ d_.out.2 mh z2
    have y3:=kZ d_.out.2 mh z3
    have fJ:zD (fun k=>w1.heap.size<=k/\k<W.heap.size) w4 (kF b) [str s',.int .i64 v',.slice a2 n2 c2,.slice a3 n3 c3]:=by
     have h2:zD (fun k=>w1.heap.size<=k/\k<W.heap.size) W (kF b) [str s',.int .i64 v',.slice a2 n2 c2,.slice a3 n3 c3] :=
      (Rep.keep fun k x hk hx=>⟨⟨hk,by have:=zZ hx;have:=HW.out.2.2.1;omega⟩,(HW.out.2.2.2.2.2.2.1.block k (zZ hx)).trans hx⟩).2 _ _ HRB.out
     exact zD.but d_.out.2 (fun k hk=>⟨by show ¬ k=rd;have:=hk.1;omega,hk⟩) h2
    have C:=gZ (l91Cut_any rd 200 (fun k=>w1.heap.size<=k/\k<W.heap.size) b _ _ _ _ w4 _ HG.out.size (by have:=HG.out.size;omega) (good_lvD HG.out) (fun k hk=>⟨by have h1:=d_.out.2.size;have:=hk.2;omega,by have:=hk.1;omega⟩) fV (by have:=HG.out.size;omega) fJ)
    clear fJ fV z0 z1 z2 z3
    go_wp2_with fail
    refine C.out.mono ?_
    rintro en w5 ⟨b5,s5,v5,d2,m2,k2,d3,m3,k3,rfl,gR,bj,r9,bf,eW⟩
    have nu:=HG.out.size
    have gC:=text_len r9 (gX bf nu) (by omega)
    have HT:=gZ (yE 200 b5 (gX bf nu) (by omega) r9 _ w5 _ _ _ _ eW)
    have d9:=gZ (d_.out.1.trans gR)
    clear gR bj r9 bf eW C
    go_wp2_with fail
    refine HT.out.mono ?_
    rintro en w6 ⟨rfl,gB⟩
    have mY:=gZ (d9.out.trans (But.ofBelow gB))
    clear gB HT
    generalize kT b5=M at *
    go_wp2_with fail
    refine bodyPost_ret (v:=.tuple #[str s,str M,str text]) (by simp [results,Tryz.results27,go_sem]) rfl ?_
    exact ⟨s,M,text,rfl,hs,gC,ht,mY.out⟩
theorem drawBelow_any (a:Option Addr) (len cap:Nat) (zs:List Int) (w:World) (h:Row8 w a len cap zs) (hl:len<=1048576) :
 Calls Tryz.prog 8 #[.slice a len cap] w fun en w'=>∃ s a b:Bs,en=.returned (.tuple #[str s,str a,str b])/\s.length<=100/\a.length<=100000/\b.length<=100000/\Below w.heap.size w w':=by
 go_enter Tryz.func8,Tryz.ntmps8
 go_wp2_with fail
 refine (l6Open_any a len cap zs w h hl).mono ?_
 rintro en w1 ⟨rfl,gW,gp,_⟩
 clear h
 go_wp2_with fail
 refine (l91Two_any w.heap.size w1 gp).mono ?_
 rintro en w2 ⟨s,x,y,rfl,hs,hx,hy,gP⟩
 have h_:=gZ (but_new gW (gQ _) gP)
 clear gW gp gP
 go_wp2_with fail
 refine bodyPost_ret (v:=.tuple #[str s,str x,str y]) (by simp [results,Tryz.results8,go_sem]) rfl ?_
 exact ⟨s,x,y,rfl,hs,hx,hy,h_.out⟩
def BoxV (g:Nat) (s:Value) (v k y:Value) (w:World):Prop :=
 w.cell? ⟨g,0,none⟩=some s/\w.cell? ⟨g,1,none⟩=some v/\w.cell? ⟨g,2,none⟩=some k/\w.cell? ⟨g,3,none⟩=some y
theorem BoxV.below {g:Nat} {s v k y:Value} {w w':World} (h:BoxV g s v k y w) (hb:Below w.heap.size w w'):BoxV g s v k y w':=by
 obtain ⟨h1,h2,h3,h4⟩:=h
 have:=gJ w _ h1
 exact ⟨by rw [hb.cell (by exact this)];exact h1,by rw [hb.cell (by exact this)];exact h2,by rw [hb.cell (by exact this)];exact h3,by rw [hb.cell (by exact this)];exact h4⟩
abbrev p8 (g1 g2 fl:Nat) (k1 k2:Value) (b1 o1 b2 o2:Nat) (u0 u1 u2 u3 v0 v1 v2 v3:Value) (w:World):Prop :=
 w.cell? ⟨g1,fl,none⟩=some k1/\w.cell? ⟨g2,fl,none⟩=some k2 /\
 w.cell? ⟨b1,o1,none⟩=some u0/\w.cell? ⟨b1,o1+1,none⟩=some u1/\w.cell? ⟨b1,o1+2,none⟩=some u2/\w.cell? ⟨b1,o1+3,none⟩=some u3 /\
 w.cell? ⟨b2,o2,none⟩=some v0/\w.cell? ⟨b2,o2+1,none⟩=some v1/\w.cell? ⟨b2,o2+2,none⟩=some v2/\w.cell? ⟨b2,o2+3,none⟩=some v3
theorem p8.below {g1 g2 fl:Nat} {k1 k2:Value} {b1 o1 b2 o2:Nat} {u0 u1 u2 u3 v0 v1 v2 v3:Value} {w w':World} (h:p8 g1 g2 fl k1 k2 b1 o1 b2 o2 u0 u1 u2 u3 v0 v1 v2 v3 w) (hb:Below w.drew.heap.size w.drew w') :
 p8 g1 g2 fl k1 k2 b1 o1 b2 o2 u0 u1 u2 u3 v0 v1 v2 v3 w':=by
 have key:∀ (a:Addr) (v:Value),w.cell? a=some v->w'.cell? a=some v:=fun a v ha=>by
  rw [hb.cell (show a.block<w.drew.heap.size from gJ w _ ha)];exact ha
 obtain ⟨h1,h2,h3,h4,h5,h6,h7,h8,h9,h10⟩:=h
 exact ⟨key _ _ h1,key _ _ h2,key _ _ h3,key _ _ h4,key _ _ h5,key _ _ h6,key _ _ h7,key _ _ h8,key _ _ h9,key _ _ h10⟩
theorem fit_kidsL {hand:List Ty} {b c:Bd} (hb:zm hand b) (hc:zm hand c) (ha:zH b=zH c) (hv:kf b=kf c) :
 ∃ hs,z_ hs (zL b)/\z_ hs (zL c):=by
 cases b with
 | leaf x=>cases c with
   | leaf y=>exact ⟨[],by simp [zL,z_],by simp [zL,z_]⟩
   | ask v ss y n=>simp [zH] at ha
 | ask v ss y n=>cases c with
   | leaf y=>simp [zH] at ha
   | ask v' ss' y' n' =>
     simp only [kf] at hv;subst hv
     rw [zm] at hb hc
     obtain ⟨t,h1,h2,_⟩:=hb
     obtain ⟨t',h3,h4,_⟩:=hc
     rw [h1] at h3;simp at h3;subst h3
     exact ⟨_,h2,h4⟩
theorem fit_yesL {hand:List Ty} {b c:Bd} (hb:zm hand b) (hc:zm hand c) (ha:zH b=zH c) (hv:kf b=kf c) :
 ∃ hs,z_ hs (ze b)/\z_ hs (ze c):=by
 cases b with
 | leaf x=>cases c with
   | leaf y=>exact ⟨[],by simp [ze,z_],by simp [ze,z_]⟩
   | ask v ss y n=>simp [zH] at ha
 | ask v ss y n=>cases c with
   | leaf y=>simp [zH] at ha
   | ask v' ss' y' n' =>
     rw [zm] at hb hc
     obtain ⟨t,_,_,h2,h3⟩:=hb
     obtain ⟨t',_,_,h4,h5⟩:=hc
     exact ⟨[hand,hand],(v_ _ _ _ _).2 ⟨h2,h3⟩,(v_ _ _ _ _).2 ⟨h4,h5⟩⟩
def yI (b:Bd):Prop:=∀ (c:Bd) (hand:List Ty) (F:Nat->Prop) (w:World) (s1 v1 k1 y1 s2 v2 k2 y2:Value),Lim (zP c)->zm hand b->zm hand c ->
 zD F w (kF b) [s1,v1,k1,y1]->zD F w (kF c) [s2,v2,k2,y2] ->
 Calls Tryz.prog 32 #[.agg #[s1,v1,k1,y1],.agg #[s2,v2,k2,y2]] w fun en w'=>en=.returned (.bool (zk b c))/\Below w.heap.size w w'
set_option maxRecDepth 100000 in
theorem l3Below_step (b:Bd) (hl:Lim (zP b)) (ih:∀ b',zP b'<zP b->yI b'):yI b:=by
 intro c hand F w s1 v1 k1 y1 s2 v2 k2 y2 hlc fb fc hv hu
 have e1:=wF hv
 have e2:=wF hu
 subst e1;subst e2
 obtain ⟨_,a2,c2,a3,c3,e,hk,hy⟩:=jb hv
 simp only [List.cons.injEq,and_true] at e
 obtain ⟨rfl,_,rfl,rfl⟩:=e
 obtain ⟨_,a4,c4,a5,c5,e,dy,bJ⟩:=jb hu
 simp only [List.cons.injEq,and_true] at e
 obtain ⟨rfl,_,rfl,rfl⟩:=e
 have IH:=gZ ih;clear ih
 have bC:=hl.le
 have hlc':=hlc.le
 have ci:=qN b
 have ce:=qN c
 rw [j1,kQ] at ci ce
 have l1:=zp (zL b)
 have l2:=zp (ze b)
 have l3:=zp (zL c)
 have l4:=zp (ze c)
 have n1:(zL b).length<=16777216:=by omega
 have n2:(ze b).length<=16777216:=by omega
 have n3:(zL c).length<=16777216:=by omega
 have n4:(ze c).length<=16777216:=by omega
 have rR:=gZ ci;have HSC:=gZ ce
 clear l1 l2 l3 l4 ci ce
 by_cases ga:zH b=[117]
 ·have HB:=gZ (belowB_u (c:=c) ga)
  have hd:(zH b == [117])=true:=by rw [beq_iff_eq];exact ga
  clear ga hv hu hk hy dy bJ
  go_enter Tryz.func32,Tryz.ntmps32
  go_wp2_with fail
  go_ret
  exact ⟨kB HB.out.symm,((gV _ _).alloc (gQ _) _).alloc (by simp) _⟩
 have hd:(zH b == [117])=false:=by rw [beq_eq_false_iff_ne];exact ga
 by_cases ha:zH b=zH c
 rotate_left
 ·have HB:=gZ (wQ ga ha)
  have hd2:(zH b == zH c)=false:=by rw [beq_eq_false_iff_ne];exact ha
  clear ga ha hv hu hk hy dy bJ
  go_enter Tryz.func32,Tryz.ntmps32
  go_wp2_with fail
  go_ret
  exact ⟨kB HB.out.symm,((gV _ _).alloc (gQ _) _).alloc (by simp) _⟩
 have hd2:(zH b == zH c)=true:=by rw [beq_iff_eq];exact ha
 by_cases gj:kf b=kf c
 rotate_left
 ·have HB:=gZ (belowB_lv ha gj)
  have hd3:(((kf b:Nat):Int) != ((kf c:Nat):Int))=true:=by rw [bne_iff_ne];omega
  clear ga ha gj hv hu hk hy dy bJ
  go_enter Tryz.func32,Tryz.ntmps32
  go_wp2_with fail
  go_ret
  exact ⟨kB HB.out.symm,((gV _ _).alloc (gQ _) _).alloc (by simp) _⟩
 have hd3:(((kf b:Nat):Int) != ((kf c:Nat):Int))=false:=by rw [gj];simp
 obtain ⟨kl,yl⟩:=pI fb fc ha gj
 have iy:(((zL b).length:Int) != ((zL c).length:Int))=false:=by rw [kl];simp
 obtain ⟨ge,gb1,gc1⟩:=fit_kidsL fb fc ha gj
 obtain ⟨g7,gb2,gc2⟩:=fit_yesL fb fc ha gj
 have GB1:=gZ gb1;have GC1:=gZ gc1;have GB2:=gZ gb2;have GC2:=gZ gc2
 have HB:=gZ (belowB_kids fb fc ha gj)
 have th:=gZ kl;have se:=gZ yl
 obtain ⟨_,_,ek,atk⟩:=xD.of hk
 simp only [Value.slice.injEq,true_and] at ek
 rw [<- ek.1] at atk;clear ek
 obtain ⟨_,_,ek,aty⟩:=xD.of hy
 simp only [Value.slice.injEq,true_and] at ek
 rw [<- ek.1] at aty;clear ek
 obtain ⟨_,_,ek,sx⟩:=xD.of dy
 simp only [Value.slice.injEq,true_and] at ek
 rw [<- ek.1] at sx;clear ek
 obtain ⟨_,_,ek,sy⟩:=xD.of bJ
 simp only [Value.slice.injEq,true_and] at ek
 rw [<- ek.1] at sy;clear ek
 have ATK:=gZ atk;have ATY:=gZ aty;have ATK2:=gZ sx;have ATY2:=gZ sy
 clear ga ha gj hv hu hk hy dy bJ gb1 gc1 gb2 gc2 kl yl atk aty sx sy fb fc
 go_enter Tryz.func32,Tryz.ntmps32
 go_wp2_with fail
 go_loopw [5] (fun i wr=>∃ k:Nat,k<=(zL b).length/\i=.int .i64 k/\qx (zL b) (zL c) k/\Below w.heap.size w wr/\BoxV w.heap.size (str (zH b)) (.int .i64 (kf b:Nat)) (.slice a2 (zL b).length c2) (.slice a3 (ze b).length c3) wr/\BoxV (w.heap.size+1) (str (zH c)) (.int .i64 (kf c:Nat)) (.slice a4 (zL c).length c4) (.slice a5 (ze c).length c5) wr) (fun i _=>(zL b).length-(intOf i).toNat)
 case atStart=>exact ⟨0,Nat.zero_le _,rfl,qx.zero _ _,((gV _ _).alloc (gQ _) _).alloc (by simp) _,⟨by simp,by simp,by simp,by simp⟩,⟨by simp,by simp,by simp,by simp⟩⟩
 case round =>
  obtain ⟨k,hk,rfl,fQ,hb,cX,bX⟩:=hrel
  have TO:=gZ fQ;clear fQ
  obtain ⟨x10,mW,tn,nE⟩:=id cX
  obtain ⟨x20,x21,tt,tr⟩:=id bX
  have lj:=gZ cX;have lq:=gZ bX;clear cX bX
  by_cases gH:k<(zL b).length
  ·obtain ⟨bb,o,s',v',b2,m2,d2,b3,m3,d3,tb,eb,hbb,eV,u0,u1,u2,u3,dE⟩:=ATK.out k gH
   obtain ⟨bc,oc,s'',v'',b4,m4,d4,b5,m5,d5,tc,ec,bF,eJ,z0,z1,z2,z3,fL⟩:=ATK2.out k (by rw [<- th.out];exact gH)
   subst eb;subst ec
   have KP:p8 w.heap.size (w.heap.size+1) 2 (.slice (some ⟨bb,o,none⟩) (zL b).length c2) (.slice (some ⟨bc,oc,none⟩) (zL c).length c4) bb (o+k*4) bc (oc+k*4) (str s') (.int .i64 v') (.slice b2 m2 d2) (.slice b3 m3 d3) (str s'') (.int .i64 v'') (.slice b4 m4 d4) (.slice b5 m5 d5) wr :=
    ⟨tn,tt,(hb.cell hbb).trans u0,(hb.cell hbb).trans u1,(hb.cell hbb).trans u2,(hb.cell hbb).trans u3,(hb.cell bF).trans z0,(hb.cell bF).trans z1,(hb.cell bF).trans z2,(hb.cell bF).trans z3⟩
   obtain ⟨_,_,q0,q1,q2,q3,p0,p1,p2,p3⟩:=id KP
   have tx:p8 w.heap.size (w.heap.size+1) 2 (.slice (some ⟨bb,o,none⟩) (zL b).length c2) (.slice (some ⟨bc,oc,none⟩) (zL c).length c4) bb (o+k*4) bc (oc+k*4) (str s') (.int .i64 v') (.slice b2 m2 d2) (.slice b3 m3 d3) (str s'') (.int .i64 v'') (.slice b4 m4 d4) (.slice b5 m5 d5) wr.drew:=KP
   have dD:=(zD.below (F':=fun _=>True) hb (fun _ _=>trivial) dE).drew
   have dC:=(zD.below (F':=fun _=>True) hb (fun _ _=>trivial) fL).drew
   obtain ⟨h1,n7,rH⟩:=qa _ _ GB1.out k tb eV
   obtain ⟨h2,ff,rG⟩:=qa _ _ GC1.out k tc eJ
   rw [n7] at ff;simp only [Option.some.injEq] at ff;subst ff
   have ge:=kR eV
   have g7:=z9 (zL b) (k+1)
   have bS:=kR eJ
   have bm:=z9 (zL c) (k+1)
   have bf:=rR.out
   have bh:=HSC.out
   have C:=IH.out tb (by omega) tc h1 _ wr.drew _ _ _ _ _ _ _ _ (show zP tc<=_ by omega) rH rG dD dC
   have rN:=gZ eV;have rM:=gZ eJ
   have bA:(k:Int)<((zL b).length:Int):=by omega
   have iP:(k:Int)<((zL c).length:Int):=by rw [<- th.out];exact bA
   cases hq:zk tb tc
   all_goals
    rw [hq] at C
    have C':=gZ C;clear C
    have HQ:=gZ hq
    clear hq ge g7 bS bm bf bh rH rG n7 eV eJ u0 u1 u2 u3 z0 z1 z2 z3 dE fL dD dC
    go_wp2_with fail
    go_region_held3 (fun w'=>w'.cell? ⟨w.heap.size,2,none⟩=some (.slice (some ⟨bb,o,none⟩) (zL b).length c2)/\w'.cell? ⟨w.heap.size+1,2,none⟩=some (.slice (some ⟨bc,oc,none⟩) (zL c).length c4)/\w'.cell? ⟨bb,o+k*4,none⟩=some (str s')/\w'.cell? ⟨bb,o+k*4+1,none⟩=some (.int .i64 v')/\w'.cell? ⟨bb,o+k*4+2,none⟩=some (.slice b2 m2 d2)/\w'.cell? ⟨bb,o+k*4+3,none⟩=some (.slice b3 m3 d3)/\w'.cell? ⟨bc,oc+k*4,none⟩=some (str s'')/\w'.cell? ⟨bc,oc+k*4+1,none⟩=some (.int .i64 v'')/\w'.cell? ⟨bc,oc+k*4+2,none⟩=some (.slice b4 m4 d4)/\w'.cell? ⟨bc,oc+k*4+3,none⟩=some (.slice b5 m5 d5))
     (first
      | with_reducible exact tx
      | with_reducible exact eE)
     (first
      | (go_at_call 32;refine C'.out.mono ?_;rintro en w3 ⟨rfl,gF⟩;have eE:=KP.below gF))
    have gS:=hb.trans ((((gV _ wr).drew).trans gF).mono hb.size)
    have sI:=lj.out.below (((gV _ wr).drew).trans gF)
    have tj:=lq.out.below (((gV _ wr).drew).trans gF)
   ·have HN:=gZ (px th.out rN.out rM.out HQ.out)
    go_wp2_with fail
    go_ret
    exact ⟨kB (by rw [HB.out,HN.out];simp),gS⟩
   ·have TO':=gZ (TO.out.next rN.out rM.out HQ.out)
    have sg:=gZ sI;have sw:=gZ tj
    obtain ⟨x10,mW,tn,nE⟩:=sI
    obtain ⟨x20,x21,tt,tr⟩:=tj
    go_wp2_with fail
    go_roundw
    case rel=>exact ⟨k+1,by omega,by go_num,TO'.out,gS,sg.out,sw.out⟩
    case measure=>simp [intOf];omega
  ·obtain rfl:k=(zL b).length:=by omega
   have hnl:¬ (((zL b).length:Int)<((zL b).length:Int)):=by omega
   have DONE:=gZ (TO.out.all th.out)
   have DK:=DONE
   clear DONE
   go_wp2_with fail
   have dq:=hb
   have HY1:=lj;have HY2:=lq
   clear hb x10 mW tn nE x20 x21 tt tr lj lq TO hk gH
   go_loopw [6] (fun i wr=>∃ k:Nat,k<=(ze b).length/\i=.int .i64 k/\qx (ze b) (ze c) k/\Below w.heap.size w wr/\BoxV w.heap.size (str (zH b)) (.int .i64 (kf b:Nat)) (.slice a2 (zL b).length c2) (.slice a3 (ze b).length c3) wr/\BoxV (w.heap.size+1) (str (zH c)) (.int .i64 (kf c:Nat)) (.slice a4 (zL c).length c4) (.slice a5 (ze c).length c5) wr) (fun i _=>(ze b).length-(intOf i).toNat)
   case atStart=>exact ⟨0,Nat.zero_le _,rfl,qx.zero _ _,dq,HY1.out,HY2.out⟩
   case round =>
    clear dq
    obtain ⟨k,hk,rfl,fQ,hb,cX,bX⟩:=hrel
    have TO:=gZ fQ;clear fQ
    obtain ⟨x10,mW,tn,nE⟩:=id cX
    obtain ⟨x20,x21,tt,tr⟩:=id bX
    have lj:=gZ cX;have lq:=gZ bX;clear cX bX
    by_cases gH:k<(ze b).length
    ·obtain ⟨bb,o,s',v',b2,m2,d2,b3,m3,d3,tb,eb,hbb,eV,u0,u1,u2,u3,dE⟩:=ATY.out k gH
     obtain ⟨bc,oc,s'',v'',b4,m4,d4,b5,m5,d5,tc,ec,bF,eJ,z0,z1,z2,z3,fL⟩:=ATY2.out k (by rw [<- se.out];exact gH)
     subst eb;subst ec
     have KP:p8 w.heap.size (w.heap.size+1) 3 (.slice (some ⟨bb,o,none⟩) (ze b).length c3) (.slice (some ⟨bc,oc,none⟩) (ze c).length c5) bb (o+k*4) bc (oc+k*4) (str s') (.int .i64 v') (.slice b2 m2 d2) (.slice b3 m3 d3) (str s'') (.int .i64 v'') (.slice b4 m4 d4) (.slice b5 m5 d5) wr :=
      ⟨nE,tr,(hb.cell hbb).trans u0,(hb.cell hbb).trans u1,(hb.cell hbb).trans u2,(hb.cell hbb).trans u3,(hb.cell bF).trans z0,(hb.cell bF).trans z1,(hb.cell bF).trans z2,(hb.cell bF).trans z3⟩
     obtain ⟨_,_,q0,q1,q2,q3,p0,p1,p2,p3⟩:=id KP
     have tx:p8 w.heap.size (w.heap.size+1) 3 (.slice (some ⟨bb,o,none⟩) (ze b).length c3) (.slice (some ⟨bc,oc,none⟩) (ze c).length c5) bb (o+k*4) bc (oc+k*4) (str s') (.int .i64 v') (.slice b2 m2 d2) (.slice b3 m3 d3) (str s'') (.int .i64 v'') (.slice b4 m4 d4) (.slice b5 m5 d5) wr.drew:=KP
     have dD:=(zD.below (F':=fun _=>True) hb (fun _ _=>trivial) dE).drew
     have dC:=(zD.below (F':=fun _=>True) hb (fun _ _=>trivial) fL).drew
     obtain ⟨h1,n7,rH⟩:=qa _ _ GB2.out k tb eV
     obtain ⟨h2,ff,rG⟩:=qa _ _ GC2.out k tc eJ
     rw [n7] at ff;simp only [Option.some.injEq] at ff;subst ff
     have ge:=kR eV
     have g7:=z9 (ze b) (k+1)
     have bS:=kR eJ
     have bm:=z9 (ze c) (k+1)
     have bf:=rR.out
     have bh:=HSC.out
     have C:=IH.out tb (by omega) tc h1 _ wr.drew _ _ _ _ _ _ _ _ (show zP tc<=_ by omega) rH rG dD dC
     have rN:=gZ eV;have rM:=gZ eJ
     have bA:(k:Int)<((ze b).length:Int):=by omega
     have iP:(k:Int)<((ze c).length:Int):=by rw [<- se.out];exact bA
     cases hq:zk tb tc
     all_goals
      rw [hq] at C
      have C':=gZ C;clear C
      have HQ:=gZ hq
      clear hq ge g7 bS bm bf bh rH rG n7 eV eJ u0 u1 u2 u3 z0 z1 z2 z3 dE fL dD dC
      go_wp2_with fail
      go_region_held3 (fun w'=>w'.cell? ⟨w.heap.size,3,none⟩=some (.slice (some ⟨bb,o,none⟩) (ze b).length c3)/\w'.cell? ⟨w.heap.size+1,3,none⟩=some (.slice (some ⟨bc,oc,none⟩) (ze c).length c5)/\w'.cell? ⟨bb,o+k*4,none⟩=some (str s')/\w'.cell? ⟨bb,o+k*4+1,none⟩=some (.int .i64 v')/\w'.cell? ⟨bb,o+k*4+2,none⟩=some (.slice b2 m2 d2)/\w'.cell? ⟨bb,o+k*4+3,none⟩=some (.slice b3 m3 d3)/\w'.cell? ⟨bc,oc+k*4,none⟩=some (str s'')/\w'.cell? ⟨bc,oc+k*4+1,none⟩=some (.int .i64 v'')/\w'.cell? ⟨bc,oc+k*4+2,none⟩=some (.slice b4 m4 d4)/\w'.cell? ⟨bc,oc+k*4+3,none⟩=some (.slice b5 m5 d5))
       (first
        | with_reducible exact tx
        | with_reducible exact eE)
       (first
        | (go_at_call 32;refine C'.out.mono ?_;rintro en w3 ⟨rfl,gF⟩;have eE:=KP.below gF))
      have gS:=hb.trans ((((gV _ wr).drew).trans gF).mono hb.size)
      have sI:=lj.out.below (((gV _ wr).drew).trans gF)
      have tj:=lq.out.below (((gV _ wr).drew).trans gF)
     ·have HN:=gZ (px se.out rN.out rM.out HQ.out)
      go_wp2_with fail
      go_ret
      exact ⟨kB (by rw [HB.out,HN.out];simp),gS⟩
     ·have TO':=gZ (TO.out.next rN.out rM.out HQ.out)
      have sg:=gZ sI;have sw:=gZ tj
      obtain ⟨x10,mW,tn,nE⟩:=sI
      obtain ⟨x20,x21,tt,tr⟩:=tj
      go_wp2_with fail
      go_roundw
      case rel=>exact ⟨k+1,by omega,by go_num,TO'.out,gS,sg.out,sw.out⟩
      case measure=>simp [intOf];omega
    ·obtain rfl:k=(ze b).length:=by omega
     have hnl:¬ (((ze b).length:Int)<((ze b).length:Int)):=by omega
     have DONE:=gZ (TO.out.all se.out)
     go_wp2_with fail
     go_ret
     exact ⟨kB (by rw [HB.out,DK.out,DONE.out];rfl),hb⟩
theorem l3Below_any (n:Nat):∀ b,zP b<=n->Lim n->yI b:=by
 induction n with
 | zero=>intro b h _;have:=kX b;omega
 | succ n ih=>exact fun b h hn=>l3Below_step b (hn.mono h) (fun b' h'=>ih b' (by omega) (hn.mono (by omega)))
set_option maxRecDepth 100000 in
theorem specBelow_any (s x y:Bs) (hs:Lim s.length) (hx:Lim x.length) (hy:Lim y.length) (w:World) :
 Calls Tryz.prog 10 #[str s,str x,str y] w fun en w'=>en=.returned (.bool (qF (zX s x) (zX s y)))/\Below w.heap.size w w':=by
 go_enter Tryz.func10,Tryz.ntmps10
 go_wp2_with fail
 refine (j3 s x hs hx w).mono ?_
 rintro en w1 ⟨a,c,s',v',a2,n2,c2,a3,n3,c3,rfl,gW,_,cQ⟩
 have HR1:=gZ cQ;clear cQ
 go_wp2_with fail
 refine (j3 s y hs hy _).mono ?_
 rintro en w2 ⟨aa,cc,ss',vv',rE,nA,rC,rD,nT,rB,rfl,gP,_,aN⟩
 have HR2:=gZ aN;clear aN
 have h1:Below w.heap.size w ((w1.alloc (.cells #[.slice a (zQ s).1.args.length c] 61)).alloc (.cells #[str s',.int .i64 v',.slice a2 n2 c2,.slice a3 n3 c3] 64)):=(gW.alloc gW.size _).alloc (by have:=gW.size;simp;omega) _
 have h2:=zzT h1 gP
 have h3:Below w.heap.size w ((w2.alloc (.cells #[.slice aa (zQ s).1.args.length cc] 61)).alloc (.cells #[str ss',.int .i64 vv',.slice rE nA rC,.slice rD nT rB] 64)):=(h2.alloc h2.size _).alloc (by have:=h2.size;simp;omega) _
 have z2:=gP.size
 have gH:w1.heap.size+1<w2.heap.size:=by simp at z2;omega
 have e0:=(gP.cell (p:=⟨w1.heap.size+1,0,none⟩) (by simp)).trans (show _=some (str s') by simp)
 have e1:=(gP.cell (p:=⟨w1.heap.size+1,1,none⟩) (by simp)).trans (show _=some (.int .i64 v') by simp)
 have e2:=(gP.cell (p:=⟨w1.heap.size+1,2,none⟩) (by simp)).trans (show _=some (.slice a2 n2 c2) by simp)
 have e3:=(gP.cell (p:=⟨w1.heap.size+1,3,none⟩) (by simp)).trans (show _=some (.slice a3 n3 c3) by simp)
 have d0:((w2.alloc (.cells #[.slice aa (zQ s).1.args.length cc] 61)).alloc (.cells #[str ss',.int .i64 vv',.slice rE nA rC,.slice rD nT rB] 64)).cell? ⟨w1.heap.size+1,0,none⟩=some (str s'):=zV (zV e0)
 have d1:((w2.alloc (.cells #[.slice aa (zQ s).1.args.length cc] 61)).alloc (.cells #[str ss',.int .i64 vv',.slice rE nA rC,.slice rD nT rB] 64)).cell? ⟨w1.heap.size+1,1,none⟩=some (.int .i64 v'):=zV (zV e1)
 have d2:((w2.alloc (.cells #[.slice aa (zQ s).1.args.length cc] 61)).alloc (.cells #[str ss',.int .i64 vv',.slice rE nA rC,.slice rD nT rB] 64)).cell? ⟨w1.heap.size+1,2,none⟩=some (.slice a2 n2 c2):=zV (zV e2)
 have d3:((w2.alloc (.cells #[.slice aa (zQ s).1.args.length cc] 61)).alloc (.cells #[str ss',.int .i64 vv',.slice rE nA rC,.slice rD nT rB] 64)).cell? ⟨w1.heap.size+1,3,none⟩=some (.slice a3 n3 c3):=zV (zV e3)
 clear e0 e1 e2 e3
 cases hq:zX s x with
 | none =>
   have HQ:=gZ hq;clear hq
   cases g6:zX s y
   all_goals
    clear g6
    simp only [Option.isSome_none,Option.isSome_some]
    go_wp2_with fail
    go_ret
    exact ⟨kB (by rw [HQ.out,uU]),h3⟩
 | some b1 =>
   have sf:=gZ (gK hq (gK (vD hq) (jl hq)))
   cases g6:zX s y with
   | none =>
     have HQ:=gZ g6;clear hq g6
     simp only [Option.isSome_none,Option.isSome_some]
     go_wp2_with fail
     go_ret
     exact ⟨kB (by rw [HQ.out,yV]),h3⟩
   | some b2 =>
     have dW:=gZ (gK g6 (gK (vD g6) (jl g6)))
     have r1:=HR1.out b1 hq
     have r2:=HR2.out b2 g6
     have r1':zD (fun _=>True) ((w2.alloc (.cells #[.slice aa (zQ s).1.args.length cc] 61)).alloc (.cells #[str ss',.int .i64 vv',.slice rE nA rC,.slice rD nT rB] 64)) (kF b1) [str s',.int .i64 v',.slice a2 n2 c2,.slice a3 n3 c3] :=
      (Rep.keep fun b o _ ho=>⟨trivial,zG (zG ho)⟩).2 _ _ (zD.below (F':=fun _=>True) gP (fun _ _=>trivial) ((Rep.keep fun b o h ho=>⟨h,zG (zG ho)⟩).2 _ _ r1))
     have r2':zD (fun _=>True) ((w2.alloc (.cells #[.slice aa (zQ s).1.args.length cc] 61)).alloc (.cells #[str ss',.int .i64 vv',.slice rE nA rC,.slice rD nT rB] 64)) (kF b2) [str ss',.int .i64 vv',.slice rE nA rC,.slice rD nT rB] :=
      (Rep.keep fun b o _ ho=>⟨trivial,zG (zG ho)⟩).2 _ _ r2
     have C:=gZ (l3Below_any 200 b1 sf.out.2.2 (show _<=_ by omega) b2 _ _ _ _ _ _ _ _ _ _ _ (show _<=_ by have:=dW.out.2.2;omega) sf.out.2.1 dW.out.2.1 r1' r2')
     clear hq g6 r1 r2 r1' r2'
     simp only [Option.isSome_some]
     go_wp2_with fail
     refine C.out.mono ?_
     rintro en w3 ⟨rfl,gF⟩
     go_wp2_with fail
     go_ret
     exact ⟨kB (by rw [sf.out.1,dW.out.1];rfl),zzT h3 gF⟩
theorem ww (a b:Bs):decide ((⟨a.toArray⟩:ByteArray)=⟨b.toArray⟩)=decide (a=b):=by
 by_cases h:a=b
 ·subst h;simp
 ·rw [decide_eq_false h,decide_eq_false]
  intro e
  apply h
  have:=congrArg ByteArray.data e
  simpa using this
set_option maxRecDepth 100000 in
theorem fnBelow_any (a0:Option Addr) (len cap:Nat) (zs:List Int) (w:World) (h8:Row8 w a0 len cap zs) (hg:qE w) :
 Calls Tryz.prog 3 #[.slice a0 len cap] w fun en w'=>en=.returned (.bool true)/\Below w.heap.size w w':=by
 by_cases hl:1048576<len
 ·have bC:(1048576:Int)<(len:Int):=by omega
  go_enter Tryz.func3,Tryz.ntmps3
  go_wp2_with fail
  go_ret
  exact ⟨rfl,gV _ _⟩
 have bC:¬ (1048576:Int)<(len:Int):=by omega
 have CD:=gZ (drawBelow_any a0 len cap zs w h8 (by omega))
 have HG:=gZ hg
 clear h8 hg hl
 go_enter Tryz.func3,Tryz.ntmps3
 go_wp2_with fail
 (with_reducible refine CD.out.mono ?_)
 rintro en w1 ⟨s,a,b,rfl,hs,ha,hb,gW⟩
 have ls:Lim s.length:=show _<=_ by omega
 have la:Lim a.length:=show _<=_ by omega
 have lb:Lim b.length:=show _<=_ by omega
 have bY:=gZ gW
 have CI:=gZ (fun (y:World) (hy:Below w.heap.size w y)=>yJ s a b ls la lb y (HG.out.below hy))
 have CS:=gZ (fun (y:World)=>specBelow_any s a b ls la lb y)
 have CB:=gZ (fun (y:World) (hy:Below w.heap.size w y)=>yJ s b a ls lb la y (HG.out.below hy))
 have CP:=gZ (fun (y:World) (hy:Below w.heap.size w y)=>(uE s a 5 y (HG.out.below hy) ls la).mono fun _ _ h=>h.views)
 have CF:=gZ (fun (y:World) (hy:Below w.heap.size w y) (u:Pl) (mv pt:Value) (hp:kG y u mv pt) (cp:∀ x∈u,Lim x.1.length)=>vk (fun _=>True) s b mv pt (u.map (·.1)) (u.map (·.2)) y (HG.out.below hy) ls lb (hp.mv fun _ _=>trivial).1.ms (hp.mv fun _ _=>trivial).2.ps (fun x hx=>by
  obtain ⟨z,hz,rfl⟩:=List.mem_map.1 hx
  exact cp z hz))
 have fZ:=gZ (fun L (h:kL s a 5=some L) u (hu:u∈L)=>show ∀ x∈u,Lim x.1.length from by
  obtain ⟨b,hb,h0,h8,rfl,cE⟩:=ve h
  have hg:=(kN hb).1
  exact xO hg.atoms (pY hg.atoms hg.fit hg.wf _ (by omega) u hu).1.ok)
 have rL:=gZ (fun (h:qF (zX s a) (zX s b)=true) L (hL:kL s a 5=some L) i u (hu:L[i]? = some u)=>below_plays h hL i u hu)
 have rI:=gZ (fun (h:qF (zX s a) (zX s b)=true)=>below_back h)
 have HBND:=gZ (yQ s a 5)
 obtain ⟨hL,hl⟩:=yQ s a 5
 generalize kL s a 5=o at *
 generalize hx:qF (zX s a) (zX s b)=x at *
 generalize hxb:qF (zX s b) (zX s a)=xb at *
 clear hx hxb hs ha hb gW CD ls la lb hl
 go_wp2_with fail
 (with_reducible refine (CI.out _ bY.out).mono ?_)
 rintro en w2 ⟨rfl,gP⟩
 have h_:=gZ (zzT bY.out gP)
 clear gP
 go_wp2_with fail
 (with_reducible refine (CS.out w2).mono ?_)
 rintro en w3 ⟨rfl,gF⟩
 have cL:=gZ (zzT h_.out gF)
 clear gF
 cases x with
 | false =>
   go_wp2_with fail
   go_ret
   exact ⟨rfl,cL.out⟩
 | true =>
   have HBK:=gZ (rI.out rfl)
   have HEA:=gZ (rL.out rfl)
   clear rI rL CI CS
   go_wp2_with fail
   (with_reducible refine (CP.out w3 cL.out).mono ?_)
   unfold PlsPost
   cases o with
   | none =>
     rintro en w4 ⟨v1,mE,rfl,gS,bN,_⟩
     change jd w4 [] v1 mE at bN
     obtain ⟨a1,c1,e1⟩:=jd.slice' bN
     change v1=.slice a1 0 c1 at e1
     subst e1
     have d_:=gZ (zzT cL.out gS)
     clear gS bN
     go_wp2_with fail
     go_loopw [10] (fun x wr=>x=.int .i64 0/\∃ wz:World,wz=wr/\Below w4.heap.size w4 wz) (fun _ _=>0)
     case atStart=>exact ⟨rfl,_,rfl,gV _ _⟩
     case round =>
      obtain ⟨rfl,wr,rfl,hB⟩:=hrel
      have d9:=gZ (zzT d_.out hB)
      clear hB
      go_wp2_with fail
      (with_reducible refine (CB.out _ d9.out).mono ?_)
      rintro en w6 ⟨rfl,gB⟩
      rw [HBK.out]
      have mY:=gZ (zzT d9.out gB)
      clear gB
      go_wp2_with fail
      go_ret
      exact ⟨by simp [ww];by_cases h:a=b <;> simp [h],mY.out⟩
   | some L =>
     rintro en w4 ⟨v1,mE,rfl,gS,bN,_⟩
     rw [Option.getD_some] at bN
     have HLM:=gZ (fZ.out L rfl)
     have HEL:=gZ (HEA.out L rfl)
     obtain ⟨n1,iY⟩:=zzN (L.length)
     have hn300:n1<=300:=by have:(Option.getD (some L) []).length<=300:=hL;rw [Option.getD_some] at this;omega
     have HN:=gZ iY
     clear fZ HEA hL iY
     obtain ⟨a1,c1,e1⟩:=jd.slice' bN
     rw [HN.out] at e1
     subst e1
     have H4:=gZ (gK (zzT cL.out gS) (show RdR 0 L a1 n1 c1 mE w4 from ⟨HN.out,by rw [bN.length,HN.out],by have h:=bN.own;rwa [bN.length,HN.out] at h,fun i u l hu hl=>bN.play hu hl,fun _ _=>Nat.zero_le _⟩))
     clear gS bN
     go_wp2_with fail
     go_loopw [10] (fun x wr=>∃ (i:Nat) (wz:World),wz=wr/\i<=n1/\x=.int .i64 i/\Below w4.heap.size w4 wz) (fun x _=>n1-(intOf x).toNat)
     case atStart=>exact ⟨0,_,rfl,Nat.zero_le _,rfl,gV _ _⟩
     case round =>
      obtain ⟨i,wr,rfl,hi,rfl,hB⟩:=hrel
      have HB:=gZ hB
      have hR:=H4.out.2.below hB
      clear hB
      by_cases dY:i<n1
      ·have hiI:(i:Int)<(n1:Int):=by omega
       obtain ⟨u,l,hu,hl,gO⟩:=hR.at dY
       obtain ⟨g,rfl,k1,k2⟩:=hR.cells hu
       obtain ⟨lv,lc,e1⟩:=gO.1.slice
       obtain ⟨lp,ld,e2⟩:=gO.2.slice
       rw [e1] at k1 gO;rw [e2] at k2 gO
       have bi:=HEL.out i l hl
       have tf:=CF.out wr (zzT H4.out.1 HB.out) l _ _ gO (HLM.out l (List.mem_of_getElem? hl))
       rw [bi] at tf
       have tf:=gZ tf
       obtain ⟨k,hk⟩:=zzN (l.length)
       rw [hk] at k1 k2 tf
       clear hu hl gO e1 e2 bi hk
       go_wp2_with fail
       (with_reducible refine tf.out.mono ?_)
       rintro en x4 ⟨rfl,gS⟩
       have d_:=gZ (zzT HB.out gS)
       clear gS tf
       go_wp2_with fail
       go_roundw
       case rel=>exact ⟨i+1,_,rfl,by omega,by go_num,d_.out⟩
       case measure=>simp [intOf];omega
      ·have hiI:¬ (i:Int)<(n1:Int):=by omega
       have d9:=gZ (zzT H4.out.1 HB.out)
       clear hR
       go_wp2_with fail
       (with_reducible refine (CB.out _ d9.out).mono ?_)
       rintro en w6 ⟨rfl,gB⟩
       rw [HBK.out]
       have mY:=gZ (zzT d9.out gB)
       clear gB
       go_wp2_with fail
       go_ret
       exact ⟨by simp [ww];by_cases h:a=b <;> simp [h],mY.out⟩
end Go.Proofs.YtfedjhgaeikjmaaGreatDoor

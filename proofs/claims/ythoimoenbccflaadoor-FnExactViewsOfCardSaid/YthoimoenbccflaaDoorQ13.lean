/- Walks of functions that the statement reaches, and plain words. No conditions. -/
import Derived.Test.YthoimoenbccflaaDoorQ11
set_option linter.unusedVariables false
set_option linter.unusedSimpArgs false
set_option maxHeartbeats 4000000
namespace Go.Proofs.YthoimoenbccflaaDoor
open Go.RowKit
def LAtPost (F:Nat->Prop) (t:Ty) (p:Bs) (w:World) (en:Ending) (w':World):Prop :=
 ∃ v,en=.returned (.tuple #[.agg #[v],.bool (atT t p).isSome])/\Below w.heap.size w w'/\∀ a,atT t p=some a->Rep F w (encS a) v
theorem one_cell {w:World} {b:Nat} {x:Value} {T:TypeId} (h:w.heap[b]? = some (.cells #[x] T (0,0))):w.cell? ⟨b,0,none⟩=some x:=by simp [World.cell?,h]
theorem set_one {w:World} {b:Nat} {x:Value} {T:TypeId} (h:w.heap[b]? = some (.cells #[x] T (0,0))) (u:Value):(w.setCell ⟨b,0,none⟩ u).heap[b]? = some (.cells #[u] T (0,0)):=by
 rw [setCell_at' h];rfl
set_option maxRecDepth 100000 in
theorem l1At_any (F:Nat->Prop) (t:Ty) (p:Bs) (tv:Value) (w:World) (h:Rep F w (encS t) tv) (ht:atomsT t<=15) (hp:Lim p.length) :
 Calls Tryd.prog 26 #[.agg #[tv],str p] w (LAtPost F t p w):=by
 have hl':=hp.le
 obtain ⟨ta,tc,rfl⟩:=encS_slice h
 obtain ⟨W,hW,hbW,hz,b0,b1⟩:=boxes_2 w (.cells #[.slice ta t.args.length tc] 30) (.cells #[.slice none 0 0] 30)
 have HW:=Lib.hid (And.intro hW (And.intro hbW (And.intro b0 b1)))
 have H:=Lib.hid h
 clear hW hbW hz b0 b1 h
 go_enter Tryd.func26,Tryd.ntmps26
 go_upto_region 1 with (fail)
 rw [HW.out.1]
 go_wp2_with fail
 go_loopw [6] (fun i wr=>∃ (j:Nat) (a:Ty) (v:Value),j<=p.length/\i=.int .i64 j/\atT t (p.take j)=some a/\Rep F w (encS a) v/\wr.heap[w.heap.size]? = some (.cells #[v] 30 (0,0))/\wr.heap[w.heap.size+1]? = some (.cells #[.slice none 0 0] 30 (0,0))/\Below w.heap.size w wr) (fun i _=>p.length-(intOf i).toNat)
 case atStart=>exact ⟨0,t,_,Nat.zero_le _,rfl,by rw [List.take_zero];exact atT_nil t,H.out,HW.out.2.2.1,HW.out.2.2.2,HW.out.2.1⟩
 case round =>
  rename_i wr
  obtain ⟨j,a,v,hj,rfl,hat,hr,hb0,hb1,hbl⟩:=hrel
  obtain ⟨va,vc,rfl⟩:=encS_slice hr
  have c0:=one_cell hb0
  have c1:=one_cell hb1
  have f0:=frozen_4 hb0 0
  have f1:=frozen_4 hb1 0
  have HB:=Lib.hid (And.intro hb0 (And.intro hb1 hbl))
  by_cases hlt:j<p.length
  ·have hlt':(j:Int)<(p.length:Int):=by omega
   have hr':=hr
   rw [encS_eq] at hr'
   obtain ⟨sa,sc,e,hcap,hlen,hats⟩:=Rep_sl1_open hr'
   simp only [Value.slice.injEq] at e
   obtain ⟨rfl,_,rfl⟩:=e
   have ha15:=atT_len _ _ _ hat
   have hargs:=args_len a
   have hal:a.args.length<=7:=by omega
   obtain ⟨x,hx⟩:∃ x:Nat,p[j].toNat=x:=⟨_,rfl⟩
   have hx256:x<256:=by rw [<- hx];exact UInt8.toNat_lt _
   have B:((((⟨p.toArray⟩:ByteArray)[j]'(lt_str hlt)).toNat:Int))=(x:Int):=by rw [byte_int hlt,hx]
   have hw1:IntKind.i64.wrap (x:Int)=(x:Int):=wrap_nat x (by omega)
   have hw3:IntKind.i64.wrap ((a.args.length:Int)-1)=(a.args.length:Int)-1:=by simp [IntKind.wrap,IntKind.bits,IntKind.signed];omega
   have hst:=atT_step hlt hat
   rw [hx] at hst
   have HS:=Lib.hid hst
   have HH:=Lib.hid (And.intro hats (And.intro hlen (And.intro hcap hr)))
   clear hst hats hlen hcap hr hr' hat ha15 hargs hx hb0 hb1 hbl
   by_cases hA:x<48
   ·have hw2:IntKind.i64.wrap ((x:Int)-48)=(x:Int)-48:=by simp [IntKind.wrap,IntKind.bits,IntKind.signed];omega
    have HN:=Lib.hid (show atT t p=none from atT_none (j:=j+1) (by rw [HS.out,if_neg (show ¬ 48<=x by omega)]))
    have hd:(decide ((0:Int)<=(x:Int)-48) && decide ((x:Int)-48<=(a.args.length:Int)-1))=false:=by
     rw [Bool.and_eq_false_iff];exact .inl (by simp;omega)
    have HD:=Lib.hid hd
    clear hA HS HH hd
    go_wp2_with fail
    refine (l6In_any _ _ _ _).mono ?_
    rintro en w1 ⟨rfl,e⟩
    subst w1
    rw [HD.out]
    go_wp2_with fail
    refine bodyPost_ret (v:=.tuple #[.agg #[.slice va a.args.length vc],.bool false]) (by simp [results,Tryd.results26,go_sem,one_cell (set_one HB.out.2.1 (.slice va a.args.length vc))]) rfl ?_
    exact ⟨_,by rw [HN.out];rfl,HB.out.2.2.setCell (p:=⟨w.heap.size+1,0,none⟩) (Nat.le_succ _) _,fun b hb=>by rw [HN.out] at hb;simp at hb⟩
   ·obtain ⟨n,hnx⟩:∃ n,x=n+48:=⟨x-48,by omega⟩
    have hw2:IntKind.i64.wrap ((x:Int)-48)=(n:Int):=by rw [show (x:Int)-48=(n:Int) from by omega];exact wrap_nat n (by omega)
    have hs2:=HS.out
    rw [if_pos (show 48<=x by omega),show x-48=n from by omega] at hs2
    have HS2:=Lib.hid hs2
    clear hs2 HS hA hx256 hnx
    by_cases hB:a.args.length<=n
    ·have HN:=Lib.hid (show atT t p=none from atT_none (j:=j+1) (by rw [HS2.out];exact List.getElem?_eq_none hB))
     have hd:(decide ((0:Int)<=(n:Int)) && decide ((n:Int)<=(a.args.length:Int)-1))=false:=by
      rw [Bool.and_eq_false_iff];exact .inr (by simp;omega)
     have HD:=Lib.hid hd
     clear hB HH hd
     go_wp2_with fail
     refine (l6In_any _ _ _ _).mono ?_
     rintro en w1 ⟨rfl,e⟩
     subst w1
     rw [HD.out]
     go_wp2_with fail
     refine bodyPost_ret (v:=.tuple #[.agg #[.slice va a.args.length vc],.bool false]) (by simp [results,Tryd.results26,go_sem,one_cell (set_one HB.out.2.1 (.slice va a.args.length vc))]) rfl ?_
     exact ⟨_,by rw [HN.out];rfl,HB.out.2.2.setCell (p:=⟨w.heap.size+1,0,none⟩) (Nat.le_succ _) _,fun b hb=>by rw [HN.out] at hb;simp at hb⟩
    ·have hd:(decide ((0:Int)<=(n:Int)) && decide ((n:Int)<=(a.args.length:Int)-1))=true:=by
      rw [Bool.and_eq_true];exact ⟨by simp,by simp;omega⟩
     have HD:=Lib.hid hd
     have hn0:(0:Int)<=(n:Int):=by omega
     have hnl:(n:Int)<(a.args.length:Int):=by omega
     obtain ⟨b,o,u,d,ea,hFb,hblt,hd2,hc,hru⟩:=HH.out.1 n (by omega)
     subst ea
     rw [encSs_at,Option.map_eq_some_iff] at hd2
     obtain ⟨c,hcn,rfl⟩:=hd2
     obtain ⟨ua,uc,rfl⟩:=encS_slice hru
     have hcw:=(HB.out.2.2.cell (p:=⟨b,o+n,none⟩) hblt).trans hc
     have HC:=Lib.hid (And.intro hcn hru)
     clear hd hcn hru hc hB hFb
     go_wp2_with fail
     refine (l6In_any _ _ _ _).mono ?_
     rintro en w1 ⟨rfl,e⟩
     subst w1
     rw [HD.out]
     go_wp2_with fail
     go_roundw
     case rel =>
      refine ⟨j+1,c,_,by omega,by go_num,by rw [HS2.out];exact HC.out.1,HC.out.2,set_one HB.out.1 _,?_,HB.out.2.2.setCell (p:=⟨w.heap.size,0,none⟩) (Nat.le_refl _) _⟩
      rw [Below.heap_setCell _ _ _ _ (by show w.heap.size+1≠w.heap.size;omega)];exact HB.out.2.1
     case measure=>simp [intOf];omega
  ·obtain rfl:j=p.length:=by omega
   rw [List.take_length] at hat
   have HA:=Lib.hid (And.intro hat hr)
   clear hat hr hb0 hb1 hbl hlt hj
   go_wp2_with fail
   refine bodyPost_ret (v:=.tuple #[.agg #[.slice va a.args.length vc],.bool true]) (by simp [results,Tryd.results26,go_sem,one_cell (set_one HB.out.2.1 (.slice va a.args.length vc))]) rfl ?_
   exact ⟨_,by rw [HA.out.1];rfl,HB.out.2.2.setCell (p:=⟨w.heap.size+1,0,none⟩) (Nat.le_succ _) _,fun b hb=>by rw [HA.out.1] at hb;obtain rfl:=Option.some.inj hb;exact HA.out.2⟩
def numD (ns:List Nat):DV:=.sl 3 1 ns.length (ns.map fun n=>DV.val (.int .i64 (n:Nat)))
theorem numD_open {F:Nat->Prop} {w:World} {ns:List Nat} {x:Value} (h:Rep F w (numD ns) x):∃ a c,x=.slice a ns.length c/\∀ (i n:Nat),ns[i]? = some n->∃ b o,a=some ⟨b,o,none⟩/\F b/\b<w.heap.size/\w.cell? ⟨b,o+i,none⟩=some (.int .i64 (n:Nat)):=by
 obtain ⟨a,c,e,_,_,hats⟩:=Rep_sl1_open h
 refine ⟨a,c,e,fun i n hi=>?_⟩
 obtain ⟨b,o,u,d,ea,hF,hlt,hd,hc,hr⟩:=hats i (List.getElem?_eq_some_iff.1 hi).1
 rw [List.getElem?_map,hi] at hd
 obtain rfl:=Option.some.inj hd
 rw [Rep_val] at hr
 subst hr
 exact ⟨b,o,ea,hF,hlt,hc⟩
theorem numD_src {F:Nat->Prop} {w:World} {ns:List Nat} {x:Value} (h:Rep F w (numD ns) x):SrcSl 1 x ns.length (ns.map fun n=>Value.int .i64 (n:Nat)) w:=by
 have h':Rep F w (.sl 3 1 ns.length ((ns.map fun n=>Value.int .i64 (n:Nat)).map DV.val)) x:=by rw [List.map_map];exact h
 obtain ⟨xs,hx,hs⟩:=SrcSl.ofRep h' (fun us hu u hm=>by
  rw [(Reps_vals _ _).1 hu] at hm
  obtain ⟨m,_,rfl⟩:=List.mem_map.1 hm
  simp [Value.oneCell'])
 rw [(Reps_vals _ _).1 hx] at hs;exact hs
theorem MvRep.cells {F:Nat->Prop} {w:World} {v:Pl} {x:Value} (h:MvRep F w v x):∃ a c,x=.slice a v.length c/\∀ (i:Nat) (m:Bs×Int),v[i]? = some m->∃ b o,a=some ⟨b,o,none⟩/\F b/\b<w.heap.size/\w.cell? ⟨b,o+i,none⟩=some (str m.1):=by
 obtain ⟨a,c,e,_,_,hats⟩:=Rep_sl1_open h
 refine ⟨a,c,e,fun i m hi=>?_⟩
 obtain ⟨b,o,u,d,ea,hF,hlt,hd,hc,hr⟩:=hats i (List.getElem?_eq_some_iff.1 hi).1
 rw [List.getElem?_map,hi] at hd
 obtain rfl:=Option.some.inj hd
 rw [Rep_val] at hr
 subst hr
 exact ⟨b,o,ea,hF,hlt,hc⟩
def AtD (b:Bd) (begun args:List Nat) (opens:Nat):List DV:=encN b++[numD begun,numD args,.val (.int .i64 (opens:Nat))]
def SpAt (F:Nat->Prop) (w:World) (b:Bd) (lv:List Place) (bg:Place) (v:Pl) (vs:List Value):Prop :=
 ∃ begun args opens,SpecPl lv bg v begun args opens/\Reps F w (AtD b begun args opens) vs
theorem AtD_open {F:Nat->Prop} {w:World} {b:Bd} {begun args:List Nat} {opens:Nat} {vs:List Value} (h:Reps F w (AtD b begun args opens) vs) :
 ∃ a2 c2 a3 c3 ba bc aa ac,vs=[str (atomOf b),.int .i64 (lvOf b:Nat),.slice a2 (kidsOf b).length c2,.slice a3 (yesOf b).length c3,.slice ba begun.length bc,.slice aa args.length ac,.int .i64 (opens:Nat)] /\
   Reps F w (encN b) [str (atomOf b),.int .i64 (lvOf b:Nat),.slice a2 (kidsOf b).length c2,.slice a3 (yesOf b).length c3]/\Rep F w (numD begun) (.slice ba begun.length bc)/\Rep F w (numD args) (.slice aa args.length ac):=by
 have h0:=h.length
 obtain ⟨h1,h2⟩:=Reps.split h
 rw [encN_length] at h1 h2
 obtain ⟨v,a2,c2,a3,c3,e,_,_⟩:=encN_open h1
 have hv:=encN_lv (e ▸ h1)
 simp only [Value.int.injEq,true_and] at hv
 subst hv
 obtain ⟨x1,r1,e1,k1,h2⟩:=Reps_cons.1 h2
 obtain ⟨x2,r2,e2,k2,h2⟩:=Reps_cons.1 h2
 obtain ⟨x3,r3,e3,k3,h2⟩:=Reps_cons.1 h2
 rw [Reps_nil] at h2
 subst h2;subst e3;subst e2
 rw [Rep_val] at k3
 subst k3
 obtain ⟨ba,bc,rfl,_⟩:=numD_open k1
 obtain ⟨aa,ac,rfl,_⟩:=numD_open k2
 refine ⟨a2,c2,a3,c3,ba,bc,aa,ac,?_,e ▸ h1,k1,k2⟩
 rw [<- List.take_append_drop 4 vs,e,e1];rfl
theorem cells_7 {w:World} {b:Nat} {x0 x1 x2 x3 x4 x5 x6:Value} {T:TypeId} (h:w.heap[b]? = some (.cells #[x0,x1,x2,x3,x4,x5,x6] T (0,0))):w.cell? ⟨b,0,none⟩=some x0/\w.cell? ⟨b,1,none⟩=some x1/\w.cell? ⟨b,2,none⟩=some x2/\w.cell? ⟨b,3,none⟩=some x3/\w.cell? ⟨b,4,none⟩=some x4/\w.cell? ⟨b,5,none⟩=some x5/\w.cell? ⟨b,6,none⟩=some x6 :=
 ⟨by simp [World.cell?,h],by simp [World.cell?,h],by simp [World.cell?,h],by simp [World.cell?,h],by simp [World.cell?,h],by simp [World.cell?,h],by simp [World.cell?,h]⟩
def STellP (m:Bs) (i:Nat) (ok:Bool) (w:World) (en:Ending) (w':World):Prop:=en=.returned (.tuple #[str m,.int .i64 (i:Nat),.bool ok])/\Below w.heap.size w w'
set_option maxRecDepth 100000 in
theorem l3Tell_u (F:Nat->Prop) (lv:List Place) (bg:Place) (v:Pl) (mv pt x0 x1 x2 x3 x4 x5 x6:Value) (w:World) (h:SpAt F w (.leaf 117) lv bg v [x0,x1,x2,x3,x4,x5,x6]) (hm:MvRep F w v mv) (hp:PtRep F w v pt) :
 Calls Tryd.prog 23 #[.agg #[mv,pt],.agg #[x0,x1,x2,x3,x4,x5,x6]] w (STellP [] 0 false w):=by
 obtain ⟨begun,args,opens,_,hr⟩:=h
 obtain ⟨a2,c2,a3,c3,ba,bc,aa,ac,e,_⟩:=AtD_open hr
 simp only [List.cons.injEq,and_true] at e
 obtain ⟨rfl,rfl,rfl,rfl,rfl,rfl,rfl⟩:=e
 obtain ⟨ma,mc,rfl⟩:=hm.src.slice
 obtain ⟨pa,pc,rfl⟩:=hp.src.slice
 obtain ⟨W,hW,hbW,hz,b0,b1⟩:=boxes_2 w (.cells #[.slice ma v.length mc,.slice pa v.length pc] 39) (.cells #[str [117],.int .i64 (lvOf (.leaf 117):Nat),.slice a2 (kidsOf (.leaf 117)).length c2,.slice a3 (yesOf (.leaf 117)).length c3,.slice ba begun.length bc,.slice aa args.length ac,.int .i64 (opens:Nat)] 42)
 obtain ⟨e0,_⟩:=cells_7 b1
 have HW:=Lib.hid (And.intro hW hbW)
 clear hW hbW hz b0 b1 hr hm hp
 rw [show atomOf (.leaf 117)=[117] from rfl]
 go_enter Tryd.func23,Tryd.ntmps23
 go_upto_region 1 with (fail)
 rw [HW.out.1]
 go_wp2_with fail
 refine bodyPost_ret (v:=.tuple #[str [],.int .i64 (0:Nat),.bool false]) (by simp [results,Tryd.results23,go_sem]) rfl ?_
 exact ⟨rfl,HW.out.2⟩
set_option maxRecDepth 100000 in
theorem l3Tell_leaf (F:Nat->Prop) (c:UInt8) (hc:c=116\/c=102) (lv:List Place) (bg:Place) (v:Pl) (mv pt x0 x1 x2 x3 x4 x5 x6:Value) (w:World) (h:SpAt F w (.leaf c) lv bg v [x0,x1,x2,x3,x4,x5,x6]) (hm:MvRep F w v mv) (hp:PtRep F w v pt) (hl:bg.2.length<=1000) (hv:v.length<=1000) :
 Calls Tryd.prog 23 #[.agg #[mv,pt],.agg #[x0,x1,x2,x3,x4,x5,x6]] w (STellP (c::bg.2) bg.1 true w):=by
 obtain ⟨begun,args,opens,hsp,hr⟩:=h
 obtain ⟨a2,c2,a3,c3,ba,bc,aa,ac,e,_⟩:=AtD_open hr
 simp only [List.cons.injEq,and_true] at e
 obtain ⟨rfl,rfl,rfl,rfl,rfl,rfl,rfl⟩:=e
 obtain ⟨ma,mc,rfl,hmc⟩:=hm.cells
 obtain ⟨pa,pc,rfl⟩:=hp.src.slice
 obtain ⟨hbg1,c',z',hop⟩:=hsp.bg
 obtain ⟨mb,mo,rfl,_,hmb,hcell⟩:=hmc opens _ hop
 have hol:=(List.getElem?_eq_some_iff.1 hop).1
 have holI:(opens:Int)<(v.length:Int):=by omega
 obtain ⟨W,hW,hbW,hz,b0,b1⟩:=boxes_2 w (.cells #[.slice (some ⟨mb,mo,none⟩) v.length mc,.slice pa v.length pc] 39) (.cells #[str [c],.int .i64 (lvOf (.leaf c):Nat),.slice a2 (kidsOf (.leaf c)).length c2,.slice a3 (yesOf (.leaf c)).length c3,.slice ba begun.length bc,.slice aa args.length ac,.int .i64 (opens:Nat)] 42)
 have hcW:W.cell? ⟨mb,mo+opens,none⟩=some (str (c'::bg.2)):=(hbW.cell (p:=⟨mb,mo+opens,none⟩) hmb).trans hcell
 obtain ⟨e0,e1,e2,e3,e4,e5,e6⟩:=cells_7 b1
 obtain ⟨p0,_,_,_⟩:=cells_2 b0
 have a1:=fun w0=>add_str (P:=Tryd.prog) [c] bg.2 (by simp;omega) w0
 rw [List.singleton_append] at a1
 have ex:(⟨(c'::bg.2).toArray⟩:ByteArray).extract 1 (bg.2.length+1)=⟨bg.2.toArray⟩:=ext_tail c' bg.2
 have HO:=Lib.hid hbg1
 have HW:=Lib.hid (And.intro hW hbW)
 have q1:(([c]:Bs) == [117])=false:=by rcases hc with rfl | rfl <;> rfl
 clear hW hbW hz b0 b1 hr hm hp hsp hop hmc hcell hbg1 hol hmb
 rw [show atomOf (.leaf c)=[c] from rfl]
 rcases hc with rfl | rfl
 ·go_enter Tryd.func23,Tryd.ntmps23
  go_upto_region 1 with (fail)
  rw [HW.out.1]
  go_wp2_with fail
  go_quiet (fail)
  go_wp2_with fail
  refine bodyPost_ret (v:=.tuple #[str (116::bg.2),.int .i64 (opens:Nat),.bool true]) (by simp [results,Tryd.results23,go_sem]) rfl ?_
  exact ⟨by rw [HO.out],below_dN HW.out.2 _⟩
 ·go_enter Tryd.func23,Tryd.ntmps23
  go_upto_region 1 with (fail)
  rw [HW.out.1]
  go_wp2_with fail
  go_quiet (fail)
  go_wp2_with fail
  refine bodyPost_ret (v:=.tuple #[str (102::bg.2),.int .i64 (opens:Nat),.bool true]) (by simp [results,Tryd.results23,go_sem]) rfl ?_
  exact ⟨by rw [HO.out],below_dN HW.out.2 _⟩
set_option maxRecDepth 100000 in
theorem l3Tell_ask (F:Nat->Prop) (l:Nat) (ss:List Bd) (y n:Bd) (lv:List Place) (bg pl:Place) (v:Pl) (mv pt x0 x1 x2 x3 x4 x5 x6:Value) (w:World) (h:SpAt F w (.ask l ss y n) lv bg v [x0,x1,x2,x3,x4,x5,x6]) (hm:MvRep F w v mv) (hp:PtRep F w v pt) (hpl:lv[l]? = some pl) (hl:pl.2.length<=1000) (hv:v.length<=1000) (hll:lv.length<=100000) :
 Calls Tryd.prog 23 #[.agg #[mv,pt],.agg #[x0,x1,x2,x3,x4,x5,x6]] w (STellP (113::pl.2) pl.1 true w):=by
 obtain ⟨begun,args,opens,hsp,hr⟩:=h
 obtain ⟨a2,c2,a3,c3,ba,bc,aa,ac,e,_,hrb,hra⟩:=AtD_open hr
 simp only [List.cons.injEq,and_true] at e
 obtain ⟨rfl,rfl,rfl,rfl,rfl,rfl,rfl⟩:=e
 obtain ⟨ma,mc,rfl,hmc⟩:=hm.cells
 obtain ⟨pa,pc,rfl⟩:=hp.src.slice
 obtain ⟨j,m,z,hb,ha,hvk,hpe,hj⟩:=hsp.each l pl hpl
 obtain ⟨mb,mo,rfl,_,hmb,hcell⟩:=hmc pl.1 _ hvk
 obtain ⟨_,_,e,hbc⟩:=numD_open hrb
 simp only [Value.slice.injEq] at e
 obtain ⟨rfl,_,rfl⟩:=e
 obtain ⟨_,_,e,hac⟩:=numD_open hra
 simp only [Value.slice.injEq] at e
 obtain ⟨rfl,_,rfl⟩:=e
 obtain ⟨bb,bo,rfl,_,hbb,hbcell⟩:=hbc l _ hb
 obtain ⟨ab,ao,rfl,_,hab,hacell⟩:=hac l _ ha
 have h1:=(List.getElem?_eq_some_iff.1 hvk).1
 have h2:=(List.getElem?_eq_some_iff.1 hb).1
 have h3:=(List.getElem?_eq_some_iff.1 ha).1
 have i1:(pl.1:Int)<(v.length:Int):=by omega
 have i2:(l:Int)<(begun.length:Int):=by omega
 have i3:(l:Int)<(args.length:Int):=by omega
 have hml:m.length<=1000:=by rw [hpe,List.length_append] at hl;omega
 obtain ⟨W,hW,hbW,hz,b0,b1⟩:=boxes_2 w (.cells #[.slice (some ⟨mb,mo,none⟩) v.length mc,.slice pa v.length pc] 39) (.cells #[str [],.int .i64 (l:Nat),.slice a2 (kidsOf (.ask l ss y n)).length c2,.slice a3 (yesOf (.ask l ss y n)).length c3,.slice (some ⟨bb,bo,none⟩) begun.length bc,.slice (some ⟨ab,ao,none⟩) args.length ac,.int .i64 (opens:Nat)] 42)
 have hcW:W.cell? ⟨mb,mo+pl.1,none⟩=some (str (113::m)):=(hbW.cell (p:=⟨mb,mo+pl.1,none⟩) hmb).trans hcell
 have hbWc:W.cell? ⟨bb,bo+l,none⟩=some (.int .i64 (pl.1:Nat)):=(hbW.cell (p:=⟨bb,bo+l,none⟩) hbb).trans hbcell
 have haWc:W.cell? ⟨ab,ao+l,none⟩=some (.int .i64 (j:Nat)):=(hbW.cell (p:=⟨ab,ao+l,none⟩) hab).trans hacell
 obtain ⟨e0,e1,e2,e3,e4,e5,e6⟩:=cells_7 b1
 obtain ⟨p0,_,_,_⟩:=cells_2 b0
 have KEY:Hid (∀ x,Below W.heap.size W x->x.cell? ⟨w.heap.size,0,none⟩=some (.slice (some ⟨mb,mo,none⟩) v.length mc)/\x.cell? ⟨mb,mo+pl.1,none⟩=some (str (113::m))/\x.cell? ⟨w.heap.size+1,5,none⟩=some (.slice (some ⟨ab,ao,none⟩) args.length ac)/\x.cell? ⟨w.heap.size+1,1,none⟩=some (.int .i64 (l:Nat))/\x.cell? ⟨ab,ao+l,none⟩=some (.int .i64 (j:Nat))):=Lib.hid (fun x hx =>
  ⟨(hx.cell (World.block_lt_of_cell? _ _ p0)).trans p0,(hx.cell (World.block_lt_of_cell? _ _ hcW)).trans hcW,(hx.cell (World.block_lt_of_cell? _ _ e5)).trans e5,(hx.cell (World.block_lt_of_cell? _ _ e1)).trans e1,(hx.cell (World.block_lt_of_cell? _ _ haWc)).trans haWc⟩)
 have CD:=Lib.hid (fun x=>l6Dec_any j (by omega) x)
 have a1:=fun w0=>add_str (P:=Tryd.prog) (113::m) (dec j) (by rw [dec_small hj];simp;omega) w0
 obtain ⟨R,hR⟩:∃ R,R=113::m++dec j:=⟨_,rfl⟩
 rw [<- hR] at a1
 have HR:=Lib.hid (show R=113::pl.2 by rw [hR,hpe];rfl)
 have HW:=Lib.hid (And.intro hW hbW)
 clear hW hbW hz b0 b1 hr hm hp hsp hmc hcell hmb hb ha hvk hpe hbc hac hbb hab hbcell hacell hR hrb hra h1 h2 h3
 rw [show atomOf (.ask l ss y n)=[] from rfl,show lvOf (.ask l ss y n)=l from rfl]
 go_enter Tryd.func23,Tryd.ntmps23
 go_upto_region 1 with (fail)
 rw [HW.out.1]
 go_upto_region 8 with (fail)
 refine wp_region_noPanic ?_
 refine wp_region_S (fun w'=>Below W.heap.size W w') (fun _=>false) (by kernel_rfl) ?_
 have hSd:(fun w'=>Below W.heap.size W w') W.drew:=Below.drew (Below.refl _ _)
 refine wpAnyS_take 0 (v:=?_) (by kernel_rfl) (by kernel_rfl) (by kernel_rfl) (by kernel_rfl) (fun _ _ _ _ h=>h) hSd ?_ ?_
 rotate_left
 ·(intro oi ho;simp at ho;subst ho;refine Or.inl ⟨by rfl,fun w' hw'=>?_⟩;go_simp;try with_reducible rfl)
 (intro d hd;simp at hd;subst hd;simp only [Act.put,List.setIfInBounds_toArray,List.set_cons_zero,List.set_cons_succ])
 refine wpAnyS_take 1 (v:=?_) (by kernel_rfl) (by kernel_rfl) (by kernel_rfl) (by kernel_rfl) (fun _ _ _ _ h=>h) hSd ?_ ?_
 rotate_left
 ·(intro oi ho;simp at ho;subst ho;refine Or.inl ⟨by rfl,fun w' hw'=>?_⟩;obtain ⟨e0,e1,e2,e3,e4⟩:=KEY.out w' hw';go_simp;try with_reducible rfl)
 (intro d hd;simp at hd;subst hd;simp only [Act.put,List.setIfInBounds_toArray,List.set_cons_zero,List.set_cons_succ])
 refine wpAnyS_take 2 (v:=?_) (by kernel_rfl) (by kernel_rfl) (by kernel_rfl) (by kernel_rfl) (fun _ _ _ _ h=>h) hSd ?_ ?_
 rotate_left
 ·(intro oi ho;simp at ho;subst ho;refine Or.inl ⟨by rfl,fun w' hw'=>?_⟩;go_simp;try with_reducible rfl)
 (intro d hd;simp at hd;subst hd;simp only [Act.put,List.setIfInBounds_toArray,List.set_cons_zero,List.set_cons_succ])
 refine wpAnyS_take 3 (v:=?_) (by kernel_rfl) (by kernel_rfl) (by kernel_rfl) (by kernel_rfl) (fun _ _ _ _ h=>h) hSd ?_ ?_
 rotate_left
 ·(intro oi ho;simp at ho;subst ho;refine Or.inl ⟨by rfl,fun w' hw'=>?_⟩;go_simp;try with_reducible rfl)
 (intro d hd;simp at hd;subst hd;simp only [Act.put,List.setIfInBounds_toArray,List.set_cons_zero,List.set_cons_succ])
 refine wpAnyS_take 4 (v:=?_) (by kernel_rfl) (by kernel_rfl) (by kernel_rfl) (by kernel_rfl) (fun _ _ _ _ h=>h) hSd ?_ ?_
 rotate_left
 ·(intro oi ho;simp at ho;subst ho;refine Or.inl ⟨by rfl,fun w' hw'=>?_⟩;obtain ⟨e0,e1,e2,e3,e4⟩:=KEY.out w' hw';go_simp;try with_reducible rfl)
 (intro d hd;simp at hd;subst hd;simp only [Act.put,List.setIfInBounds_toArray,List.set_cons_zero,List.set_cons_succ])
 refine wpAnyS_take 5 (v:=?_) (by kernel_rfl) (by kernel_rfl) (by kernel_rfl) (by kernel_rfl) (fun _ _ _ _ h=>h) hSd ?_ ?_
 rotate_left
 ·(intro oi ho;simp at ho;subst ho;refine Or.inl ⟨by rfl,fun w' hw'=>?_⟩;go_simp;try with_reducible rfl)
 (intro d hd;simp at hd;subst hd;simp only [Act.put,List.setIfInBounds_toArray,List.set_cons_zero,List.set_cons_succ])
 refine wpAnyS_take 6 (v:=?_) (by kernel_rfl) (by kernel_rfl) (by kernel_rfl) (by kernel_rfl) (fun _ _ _ _ h=>h) hSd ?_ ?_
 rotate_left
 ·(intro oi ho;simp at ho;subst ho;refine Or.inl ⟨by rfl,fun w' hw'=>?_⟩;obtain ⟨e0,e1,e2,e3,e4⟩:=KEY.out w' hw';go_simp;try with_reducible rfl)
 (intro d hd;simp at hd;subst hd;simp only [Act.put,List.setIfInBounds_toArray,List.set_cons_zero,List.set_cons_succ])
 refine wpAnyS_take 7 (v:=?_) (by kernel_rfl) (by kernel_rfl) (by kernel_rfl) (by kernel_rfl) (fun _ _ _ _ h=>h) hSd ?_ ?_
 rotate_left
 ·(intro oi ho;simp at ho;subst ho;refine Or.inl ⟨by rfl,fun w' hw'=>?_⟩;go_simp;try with_reducible rfl)
 (intro d hd;simp at hd;subst hd;simp only [Act.put,List.setIfInBounds_toArray,List.set_cons_zero,List.set_cons_succ])
 refine wpAnyS_take 8 (v:=?_) (by kernel_rfl) (by kernel_rfl) (by kernel_rfl) (by kernel_rfl) (fun _ _ _ _ h=>h) hSd ?_ ?_
 rotate_left
 ·(intro oi ho;simp at ho;subst ho;refine Or.inl ⟨by rfl,fun w' hw'=>?_⟩;go_simp;try with_reducible rfl)
 (intro d hd;simp at hd;subst hd;simp only [Act.put,List.setIfInBounds_toArray,List.set_cons_zero,List.set_cons_succ])
 refine wpAnyS_take 9 (v:=?_) (by kernel_rfl) (by kernel_rfl) (by kernel_rfl) (by kernel_rfl) (fun _ _ _ _ h=>h) hSd ?_ ?_
 rotate_left
 ·(intro oi ho;simp at ho;subst ho;refine Or.inl ⟨by rfl,fun w' hw'=>?_⟩;obtain ⟨e0,e1,e2,e3,e4⟩:=KEY.out w' hw';go_simp;try with_reducible rfl)
 (intro d hd;simp at hd;subst hd;simp only [Act.put,List.setIfInBounds_toArray,List.set_cons_zero,List.set_cons_succ])
 refine wpAnyS_take 10 (v:=?_) (by kernel_rfl) (by kernel_rfl) (by kernel_rfl) (by kernel_rfl) (fun _ _ _ _ h=>h) hSd ?_ ?_
 rotate_left
 ·(intro oi ho;simp at ho;subst ho;refine Or.inl ⟨by rfl,fun w' hw'=>?_⟩;go_simp;try with_reducible rfl)
 (intro d hd;simp at hd;subst hd;simp only [Act.put,List.setIfInBounds_toArray,List.set_cons_zero,List.set_cons_succ])
 refine wpAnyS_take 11 (v:=?_) (by kernel_rfl) (by kernel_rfl) (by kernel_rfl) (by kernel_rfl) (fun _ _ _ _ h=>h) hSd ?_ ?_
 rotate_left
 ·(intro oi ho;simp at ho;subst ho;refine Or.inl ⟨by rfl,fun w' hw'=>?_⟩;obtain ⟨e0,e1,e2,e3,e4⟩:=KEY.out w' hw';go_simp;try with_reducible rfl)
 (intro d hd;simp at hd;subst hd;simp only [Act.put,List.setIfInBounds_toArray,List.set_cons_zero,List.set_cons_succ])
 refine wpAnyS_take 14 (v:=?_) (by kernel_rfl) (by kernel_rfl) (by kernel_rfl) (by kernel_rfl) (fun _ _ _ _ h=>h) hSd ?_ ?_
 rotate_left
 ·(intro oi ho;simp at ho;subst ho;refine Or.inl ⟨by rfl,fun w' hw'=>?_⟩;go_simp;try with_reducible rfl)
 (intro d hd;simp at hd;subst hd;simp only [Act.put,List.setIfInBounds_toArray,List.set_cons_zero,List.set_cons_succ])
 refine wpAnyS_one 12 (by kernel_rfl) ?_
 (intro o12 ho K' hK;simp at ho;subst ho)
 go_simp
 go_at_call 25
 (with_reducible refine (CD.out _).mono ?_)
 rintro en x12 ⟨rfl,hb12⟩
 have hB12:Below W.heap.size W x12:=Below.trans hSd (hb12.mono (Below.size hSd))
 refine hK.out _ _ ?_ ?_
 ·exact fun _=>hB12
 clear hK K'
 (try simp only [Act.put,List.setIfInBounds_toArray,List.set_cons_zero,List.set_cons_succ])
 have hS12:=hB12
 refine wpAnyS_one 13 (by kernel_rfl) ?_
 (intro o13 ho K' hK;simp at ho;subst ho)
 go_simp
 refine hK.out _ _ ?_ ?_
 ·exact fun _=>hB12
 clear hK K'
 (try simp only [Act.put,List.setIfInBounds_toArray,List.set_cons_zero,List.set_cons_succ])
 have hS13:=hB12
 refine wpAnyS_one 15 (by kernel_rfl) ?_
 (intro o15 ho K' hK;simp at ho;subst ho)
 go_simp
 refine hK.out _ _ ?_ ?_
 ·exact fun _=>hB12
 clear hK K'
 (try simp only [Act.put,List.setIfInBounds_toArray,List.set_cons_zero,List.set_cons_succ])
 have hS15:=hB12
 refine wpAnyS_one 16 (by kernel_rfl) ?_
 (intro o16 ho K' hK;simp at ho;subst ho)
 go_simp
 refine hK.out _ _ ?_ ?_
 ·exact fun _=>hB12
 clear hK K'
 (try simp only [Act.put,List.setIfInBounds_toArray,List.set_cons_zero,List.set_cons_succ])
 have hS16:=hB12
 refine wpAnyS_one 17 (by kernel_rfl) ?_
 (intro o17 ho K' hK;simp at ho;subst ho)
 go_simp
 refine hK.out _ _ ?_ ?_
 ·exact fun _=>hB12
 clear hK K'
 (try simp only [Act.put,List.setIfInBounds_toArray,List.set_cons_zero,List.set_cons_succ])
 refine wpAnyS_done (by kernel_rfl) (NoPanic.normal ?_) _
 have HB:=Lib.hid (HW.out.2.trans (hB12.mono HW.out.2.size))
 clear hB12 hSd hb12
 go_wp2_with fail
 refine bodyPost_ret (v:=.tuple #[str R,.int .i64 (pl.1:Nat),.bool true]) (by simp [results,Tryd.results23,go_sem]) rfl ?_
 exact ⟨by rw [HR.out],HB.out⟩
end Go.Proofs.YthoimoenbccflaaDoor

/- Walks of functions that the statement reaches, and plain words. No conditions. -/
import Derived.Test.YtdfkiicodfbibaaGreatDoorQ11
set_option linter.unusedVariables false
set_option linter.unusedSimpArgs false
set_option maxHeartbeats 8000000
namespace Go.Proofs.YtdfkiicodfbibaaGreatDoor
open Go.RowKit
def tellN (s:St):Bs×Nat×Bool:=match told s with
 | none=>([],0,false)
 | some x=>(x.1,x.2.toNat,true)
theorem l3Tell_any {t:Ty} {hand:List Ty} {s:St} {n:Nat} (v:Pl) (mv pt x0 x1 x2 x3 x4 x5 x6:Value) (w:World) (hs:StFit t hand s n) (h15:atomsT t<=15) (hn:n<=100) (hv:v.length<=1000)
 (hr:SpAt (fun _=>True) w s.1 s.2.1 s.2.2 v [x0,x1,x2,x3,x4,x5,x6]) (hm:MvRep (fun _=>True) w v mv) (hp:PtRep (fun _=>True) w v pt) :
 Calls Tryz.prog 134 #[.agg #[mv,pt],.agg #[x0,x1,x2,x3,x4,x5,x6]] w (STellP (tellN s).1 (tellN s).2.1 (tellN s).2.2 w):=by
 obtain ⟨ta,hta⟩:=hs.bgt
 have hbl:=atT_len _ _ _ hta
 have hll:=hs.ll
 have hwf:=hs.wf
 obtain ⟨b,lv,bg⟩:=s
 have hbl':bg.2.length<=1000:=by
  have:((b,lv,bg):St).2.2.2.length<=100:=by omega
  have h2:bg.2.length<=100:=this
  omega
 cases b with
 | leaf c =>
   rw [show ((Bd.leaf c,lv,bg):St).1=.leaf c from rfl,wfB] at hwf
   by_cases hc:c=117
   ·subst hc
    have e:tellN (Bd.leaf 117,lv,bg)=([],0,false):=rfl
    rw [e]
    exact l3Tell_u (fun _=>True) lv bg v mv pt x0 x1 x2 x3 x4 x5 x6 w hr hm hp
   ·have hc2:c=116\/c=102:=by
     rcases hwf with h | h | h
     ·exact .inl h
     ·exact .inr h
     ·exact absurd h hc
    have e:tellN (Bd.leaf c,lv,bg)=(c::bg.2,bg.1,true):=by unfold tellN told;simp only [if_neg hc,Int.toNat_natCast]
    rw [e]
    exact l3Tell_leaf (fun _=>True) c hc2 lv bg v mv pt x0 x1 x2 x3 x4 x5 x6 w hr hm hp hbl' hv
 | ask l ss y nn =>
   have hf:=hs.fit
   rw [show ((Bd.ask l ss y nn,lv,bg):St).1=.ask l ss y nn from rfl,fitB] at hf
   obtain ⟨a,h1,_⟩:=hf
   obtain ⟨pl,hl,hat,_⟩:=hs.pf.each l a h1
   have hl':lv[l]? = some pl:=hl
   have hpl:=atT_len _ _ _ hat
   have hll':lv.length<=8*n:=hll
   have e:tellN (Bd.ask l ss y nn,lv,bg)=(113::pl.2,pl.1,true):=by unfold tellN told;simp only [hl',Option.map_some,Int.toNat_natCast]
   rw [e]
   exact l3Tell_ask (fun _=>True) l ss y nn lv bg pl v mv pt x0 x1 x2 x3 x4 x5 x6 w hr hm hp hl' (by omega) hv (by omega)
def ReplyQ (s:St) (v:Pl) (mv pt:Value) (w:World) (en:Ending) (w':World):Prop :=
 ∃ a1 n1 c1 a2 n2 c2,en=.returned (.tuple #[.agg #[.slice a1 n1 c1,.slice a2 n2 c2],.bool (told s).isSome])/\Below w.heap.size w w'/\(told s=none->.slice a1 n1 c1=mv/\.slice a2 n2 c2=pt) /\
   ∀ x,told s=some x->PlayAt w' (v++[x]) (.slice a1 n1 c1) (.slice a2 n2 c2)/\∀ g,(Value.slice a1 n1 c1).ownBlock=some g\/(Value.slice a2 n2 c2).ownBlock=some g->w.heap.size<=g
theorem told_nat {s:St} {x:Bs×Int} (h:told s=some x):x.2=((x.2.toNat:Nat):Int):=by
 unfold told at h
 split at h
 ·split at h
  ·simp at h
  ·obtain rfl:=Option.some.inj h;simp
 ·rw [Option.map_eq_some_iff] at h
  obtain ⟨pl,_,rfl⟩:=h
  simp
theorem set_two' {w:World} {b:Nat} {x y:Value} {T:TypeId} (h:w.heap[b]? = some (.cells #[x,y] T (0,0))) (u v:Value):((w.setCell ⟨b,0,none⟩ u).setCell ⟨b,1,none⟩ v).heap[b]? = some (.cells #[u,v] T (0,0)):=by
 rw [setCell_at' (setCell_at' h)];rfl
set_option maxRecDepth 100000 in
theorem l3Reply_any (F:Nat->Prop) (t:Ty) (b:Bd) (v:Pl) (k:Nat) (s0:St) (tv mv pt:Value) (nv:List Value) (w:World) (hk:Rep F w (encS t) tv) (hb:Reps F w (encN b) nv) (hm:PlIn F t v mv pt w)
 (h15:atomsT t<=15) (hf:fitB t.args b) (hw:wfB b) (hvk:v.length=k+1) (hke:k % 2=0) (hfo:followsTo t b v k) (hs0:placeAt t b v (k+1)=some s0) :
 Calls Tryz.prog 76 #[.agg #[tv],.agg nv.toArray,.agg #[mv,pt]] w (ReplyQ s0 v mv pt w):=by
 have h60:=valid_len hm.ok
 obtain ⟨s1,hand,hs1,hfit⟩:=place_fits h15 hf hw hm.ok k (by omega) hke hfo
 obtain rfl:s0=s1:=Option.some.inj (hs0.symm.trans hs1)
 obtain ⟨vi,a2,c2,a3,c3,rfl,_,_⟩:=encN_open hb
 obtain ⟨ta,tc,rfl⟩:=encS_slice hk
 obtain ⟨ma,mc,rfl,_⟩:=hm.m.cells
 obtain ⟨pa,pc,rfl,_⟩:=hm.p.cells
 generalize hq0:atomOf b=q0 at *
 generalize hq2:(kidsOf b).length=q2 at *
 generalize hq3:(yesOf b).length=q3 at *
 obtain ⟨W,hW,hbW,hz,b0,b1,b2,b3⟩:=boxes_4 w (.cells #[.slice ta t.args.length tc] 78) (.cells #[str q0,.int .i64 vi,.slice a2 q2 c2,.slice a3 q3 c3] 81) (.cells #[.slice ma v.length mc,.slice pa v.length pc] 33) (.cells #[.slice none 0 0,.slice none 0 0] 33)
 have CW:Hid (Calls Tryz.prog 133 #[.agg #[.slice ta t.args.length tc],.agg #[str q0,.int .i64 vi,.slice a2 q2 c2,.slice a3 q3 c3],.agg #[.slice ma v.length mc,.slice pa v.length pc]] W (WalkQ s0 v W)) :=
  Lib.hid (l3Walk_any F t b v k s0 (.slice ta t.args.length tc) (.slice ma v.length mc) (.slice pa v.length pc) [str q0,.int .i64 vi,.slice a2 q2 c2,.slice a3 q3 c3] W (hk.below hbW fun _ h=>h) ((Rep.keep fun i o hi ho=>⟨hi,by rw [hbW.block i (lt_of_heap ho)];exact ho⟩).2 _ _ hb) (hm.below hbW) h15 hf hw hvk hke hfo hs0)
 have HI:=Lib.hid (And.intro hm (And.intro h15 hfit))
 have HW:=Lib.hid (And.intro hW (And.intro hbW (And.intro hz (And.intro b2 b3))))
 have hv1000:v.length<=1000:=by omega
 have HK:=Lib.hid (show k+1<=100 by omega)
 have g0:=one_cell b0
 obtain ⟨n0,n1,n2,n3⟩:=cells_4 b1
 obtain ⟨c0,c1,_,_⟩:=cells_2 b2
 clear hk hb hm h15 hf hw hvk hke hfo hs0 hs1 hfit hW hbW hz b0 b1 b2 b3
 go_enter Tryz.func76,Tryz.ntmps76
 go_upto_region 1 with (fail)
 rw [HW.out.1]
 go_wp2_with fail
 (with_reducible refine CW.out.mono ?_)
 rintro en w1 ⟨x0,x1,x2,x3,x4,x5,x6,rfl,hb1,hsp⟩
 obtain ⟨begun,args,opens,hspl,hat⟩:=hsp
 obtain ⟨n2',d2,n3',d3,na,da,nb,db,ex,_⟩:=AtD_open hat
 generalize atomOf s0.1=u0 at ex
 generalize lvOf s0.1=u1 at ex
 generalize (kidsOf s0.1).length=u2 at ex
 generalize (yesOf s0.1).length=u3 at ex
 simp only [List.cons.injEq,and_true] at ex
 obtain ⟨rfl,rfl,rfl,rfl,rfl,rfl,rfl⟩:=ex
 obtain ⟨X,hX,hbX,hzX,x0⟩:=box_1 w1 (.cells #[str u0,.int .i64 (u1:Nat),.slice n2' u2 d2,.slice n3' u3 d3,.slice na begun.length da,.slice nb args.length db,.int .i64 (opens:Nat)] 177)
 have hWX:Below W.heap.size W X:=zzT hb1 hbX
 have hwX:Below w.heap.size w X:=zzT HW.out.2.1 hWX
 have hmX:=HI.out.1.below hwX
 have hmT:MvRep (fun _=>True) X v (.slice ma v.length mc):=(Rep.keep fun i o _ ho=>⟨trivial,ho⟩).1 _ _ hmX.m
 have hpT:PtRep (fun _=>True) X v (.slice pa v.length pc):=(Rep.keep fun i o _ ho=>⟨trivial,ho⟩).1 _ _ hmX.p
 have CT:=l3Tell_any v (.slice ma v.length mc) (.slice pa v.length pc) _ _ _ _ _ _ _ X HI.out.2.2 HI.out.2.1 HK.out hv1000 ⟨begun,args,opens,hspl,(Rep.keep fun i o _ ho=>⟨trivial,by rw [hbX.block i (lt_of_heap ho)];exact ho⟩).2 _ _ hat⟩ hmT hpT
 have CWT:=Lib.hid (fun (y:World) (hy:Below X.heap.size X y) (m:Bs) (z:Int)=>l2WithPl v (.slice ma v.length mc) (.slice pa v.length pc) m z y (MvRep.src (Rep.below hy (fun _ h=>h) hmT)) (PtRep.src (Rep.below hy (fun _ h=>h) hpT)) hv1000)
 have p0:=(hWX.cell (World.block_lt_of_cell? _ _ c0)).trans c0
 have p1:=(hWX.cell (World.block_lt_of_cell? _ _ c1)).trans c1
 have b3:=(hWX.block _ (lt_of_heap HW.out.2.2.2.2)).trans HW.out.2.2.2.2
 obtain ⟨e0,e1,e2,e3,e4,e5,e6⟩:=cells_7 x0
 have HX:=Lib.hid (And.intro hX (And.intro hwX b3))
 have hzW:=Lib.hid HW.out.2.2.1
 clear hX hbX hzX x0 hWX hwX hmX hmT hpT b3 hb1 hspl hat c0 c1 g0 n0 n1 n2 n3 CW
 obtain ⟨o,ho⟩:=zzN (told s0)
 cases o with
 | none =>
   have et:tellN s0=([],0,false):=by unfold tellN;rw [ho]
   rw [et] at CT
   have CT:=Lib.hid CT
   have HO:=Lib.hid ho
   clear et ho CWT
   go_upto_region 2 with (fail)
   rw [HX.out.1]
   go_wp2_with fail
   (with_reducible refine CT.out.mono ?_)
   rintro en w2 ⟨rfl,hb2⟩
   have p0':=(hb2.cell (World.block_lt_of_cell? _ _ p0)).trans p0
   have p1':=(hb2.cell (World.block_lt_of_cell? _ _ p1)).trans p1
   have b3:=(hb2.block _ (lt_of_heap HX.out.2.2)).trans HX.out.2.2
   obtain ⟨z0,z1,f0,f1⟩:=cells_2 b3
   have HB:=Lib.hid (And.intro (zzT HX.out.2.1 hb2) b3)
   clear hb2 p0 p1 e0 e1 e2 e3 e4 e5 e6 b3 CT
   go_wp2_with fail
   have hV:=set_two' HB.out.2 (.slice ma v.length mc) (.slice pa v.length pc)
   obtain ⟨s0',s1',_,_⟩:=cells_2 hV
   refine bodyPost_ret (v:=.tuple #[.agg #[.slice ma v.length mc,.slice pa v.length pc],.bool false]) (by simp [results,Tryz.results76,go_sem,s0',s1']) rfl ?_
   refine ⟨_,_,_,_,_,_,by rw [HO.out];rfl,(HB.out.1.setCell (p:=⟨w.heap.size+3,0,none⟩) (Nat.le_add_right _ _) _).setCell (p:=⟨w.heap.size+3,1,none⟩) (Nat.le_add_right _ _) _,fun _=>⟨rfl,rfl⟩,fun x h=>?_⟩
   rw [HO.out] at h;simp at h
 | some x =>
   have et:tellN s0=(x.1,x.2.toNat,true):=by unfold tellN;rw [ho]
   rw [et] at CT
   have hxn:=told_nat ho
   obtain ⟨m,z⟩:=x
   simp only at CT hxn
   obtain ⟨zn,hzn⟩:∃ zn:Nat,z.toNat=zn:=⟨_,rfl⟩
   rw [hzn] at CT hxn
   subst hxn
   have CT:=Lib.hid CT
   have HO:=Lib.hid ho
   clear et ho hzn
   go_upto_region 2 with (fail)
   rw [HX.out.1]
   go_wp2_with fail
   (with_reducible refine CT.out.mono ?_)
   rintro en w2 ⟨rfl,hb2⟩
   have p0':=(hb2.cell (World.block_lt_of_cell? _ _ p0)).trans p0
   have p1':=(hb2.cell (World.block_lt_of_cell? _ _ p1)).trans p1
   have b3:=(hb2.block _ (lt_of_heap HX.out.2.2)).trans HX.out.2.2
   have CW2:=Lib.hid (CWT.out w2 hb2 m (zn:Int))
   have HB:=Lib.hid (And.intro (zzT HX.out.2.1 hb2) b3)
   clear hb2 p0 p1 e0 e1 e2 e3 e4 e5 e6 b3 CT CWT
   go_wp2_with fail
   (with_reducible refine CW2.out.mono ?_)
   rintro en w3 ⟨mvn,ptn,rfl,hpn,hb3,hfn⟩
   obtain ⟨a8,c8,e8⟩:=hpn.1.slice
   obtain ⟨a9,c9,e9⟩:=hpn.2.slice
   subst e8;subst e9
   have b3:=(hb3.block _ (lt_of_heap HB.out.2)).trans HB.out.2
   obtain ⟨z0,z1,f0,f1⟩:=cells_2 b3
   have HB3:=Lib.hid (And.intro (zzT HB.out.1 hb3) (And.intro b3 (And.intro hpn (And.intro hfn (show w.heap.size+3<w2.heap.size from lt_of_heap HB.out.2)))))
   clear hb3 p0' p1' b3 hpn hfn CW2
   generalize hL:(v++[(m,(zn:Int))]).length=L at *
   go_wp2_with fail
   have hV:=set_two' HB3.out.2.1 (.slice a8 L c8) (.slice a9 L c9)
   obtain ⟨s0',s1',_,_⟩:=cells_2 hV
   have hoth:∀ g,g≠w.heap.size+3->((w3.setCell ⟨w.heap.size+3,0,none⟩ (.slice a8 L c8)).setCell ⟨w.heap.size+3,1,none⟩ (.slice a9 L c9)).heap[g]? = w3.heap[g]?:=fun g hg=>by
    rw [Below.heap_setCell _ _ _ _ (by show g≠w.heap.size+3;exact hg),Below.heap_setCell _ _ _ _ (by show g≠w.heap.size+3;exact hg)]
   refine bodyPost_ret (v:=.tuple #[.agg #[.slice a8 L c8,.slice a9 L c9],.bool true]) (by simp [results,Tryz.results76,go_sem,s0',s1']) rfl ?_
   refine ⟨_,_,_,_,_,_,by rw [HO.out];rfl,(HB3.out.1.setCell (p:=⟨w.heap.size+3,0,none⟩) (Nat.le_add_right _ _) _).setCell (p:=⟨w.heap.size+3,1,none⟩) (Nat.le_add_right _ _) _,fun h=>?_,fun x h=>?_⟩
   ·rw [HO.out] at h;simp at h
   ·rw [HO.out] at h
    obtain rfl:=Option.some.inj h
    have hlt:=HB3.out.2.2.2.2
    refine ⟨⟨HB3.out.2.2.1.1.keep fun g o hg ho=>?_,HB3.out.2.2.1.2.keep fun g o hg ho=>?_⟩,fun g hg=>?_⟩
    ·have:=HB3.out.2.2.2.1 g (.inl hg)
     rw [hoth g (by omega)];exact ho
    ·have:=HB3.out.2.2.2.1 g (.inr hg)
     rw [hoth g (by omega)];exact ho
    ·have:=HB3.out.2.2.2.1 g hg;omega
theorem take_at (v:Pl) {n i:Nat} (h:i<n):(v.take n)[i]? = v[i]?:=by rw [List.getElem?_take,if_pos h]
theorem okAt_take (t:Ty) (v:Pl) {n i:Nat} (h:i<n):okAt t (v.take n) i=okAt t v i:=by
 unfold okAt
 rw [take_at v h]
 cases hv:v[i]? with
 | none=>rfl
 | some x =>
   simp only
   by_cases hi:i=0
   ·rw [if_pos hi,if_pos hi]
   ·rw [if_neg hi,if_neg hi]
    by_cases hz:0<=x.2/\x.2<(i:Int)
    ·rw [take_at v (show x.2.toNat<n by omega)]
    ·have:(decide (0<=x.2) && decide (x.2<(i:Int)))=false:=by
      rw [Bool.and_eq_false_iff,decide_eq_false_iff_not,decide_eq_false_iff_not]
      by_cases h0:0<=x.2
      ·exact .inr fun h1=>hz ⟨h0,h1⟩
      ·exact .inl h0
     rw [this,Bool.false_and,Bool.false_and,Bool.false_and]
theorem allAt_take (t:Ty) (v:Pl) {n:Nat}:∀ m,m<=n->allAt t (v.take n) m=allAt t v m
 | 0,_=>rfl
 | m+1,h=>by rw [allAt,allAt,allAt_take t v m (by omega),okAt_take t v (by omega)]
theorem allAt_of {t:Ty} {v:Pl}:∀ {m:Nat},(∀ i,i<m->okAt t v i=true)->allAt t v m=true
 | 0,_=>rfl
 | m+1,h=>by rw [allAt,allAt_of (fun i hi=>h i (by omega)),h m (by omega)];rfl
theorem valid_take {t:Ty} {v:Pl} (h:validPl t v=true) (n:Nat):validPl t (v.take n)=true:=by
 have h60:=valid_len h
 unfold validPl at h ⊢
 rw [Bool.and_eq_true] at h ⊢
 refine ⟨by rw [decide_eq_true_eq,List.length_take];omega,?_⟩
 rw [allAt_take t v _ (by rw [List.length_take];omega)]
 exact allAt_of fun i hi=>allAt_at h.2 (by rw [List.length_take] at hi;omega)
theorem placeF_take {t:Ty} {v:Pl} (h:validPl t v=true) (b:Bd) {n:Nat}:∀ f m,m<=n->m<=v.length->placeF t b (v.take n) f m=placeF t b v f m
 | 0,_,_,_=>rfl
 | f+1,m,hm,hl=>by
   rw [placeF,placeF]
   by_cases h1:m<=1
   ·rw [if_pos h1,if_pos h1]
   ·rw [if_neg h1,if_neg h1,take_at v (show m-1<n by omega)]
    obtain ⟨c,p,z,hv,ho⟩:=valid_at h (show m-1<v.length by omega)
    rw [hv]
    have:=(ho.pos (by omega)).2.1
    simp only
    rw [placeF_take h b f z.toNat (by omega) (by omega)]
theorem placeAt_take {t:Ty} {v:Pl} (h:validPl t v=true) (b:Bd) {n m:Nat} (hm:m<=n) (hl:m<=v.length):placeAt t b (v.take n) m=placeAt t b v m:=placeF_take h b _ m hm hl
theorem follows_take {t:Ty} {v:Pl} (h:validPl t v=true) (b:Bd) {n m:Nat} (hm:m<=n) (hl:m<=v.length) (hf:followsTo t b v m):followsTo t b (v.take n) m:=fun i hi ho=>by
 unfold replyAt
 rw [placeAt_take h b (by omega) (by omega),take_at v (by omega)]
 exact hf i hi ho
theorem PlIn.take {F:Nat->Prop} {t:Ty} {v:Pl} {mv pt:Value} {w:World} (h:PlIn F t v mv pt w) {n:Nat} {mv' pt':Value} (hm:MvRep F w (v.take n) mv') (hp:PtRep F w (v.take n) pt'):PlIn F t (v.take n) mv' pt' w :=
 ⟨hm,hp,valid_take h.ok n,fun x hx=>h.l x (List.mem_of_mem_take hx)⟩
theorem Rep_take {F:Nat->Prop} {w:World} {e:TypeId} {n k:Nat} {cs:List DV} {a:Option Addr} {c:Nat} (h:Rep F w (.sl e 1 n cs) (.slice a n c)) (hk:k<=n) (ha:a≠none):Rep F w (.sl e 1 k (cs.take k)) (.slice a k c):=by
 rw [Rep_sl] at h ⊢
 obtain ⟨hl,a',cap,hv,hn,hz,h⟩:=h
 simp only [Value.slice.injEq,true_and] at hv
 obtain ⟨rfl,rfl⟩:=hv
 rw [Nat.mul_one] at hl
 refine ⟨by rw [List.length_take];omega,a,c,rfl,by omega,fun h=>absurd h ha,?_⟩
 rcases h with h | ⟨b,o,xs,fr,ea,hb,hc,hr⟩
 ·exact .inl (by omega)
 ·refine .inr ⟨b,o,xs,fr,ea,hb,hc,?_⟩
  rw [Nat.mul_one] at hr ⊢
  have h2:=Reps.split (ds:=cs.take k) (es:=cs.drop k) (by rw [List.take_append_drop];exact hr)
  have h3:=h2.1
  rw [List.length_take,show min k cs.length=k from by omega,List.take_take,show min k n=k from by omega] at h3
  exact h3
theorem Own.notBox {w:World} {e T:TypeId} {sz n:Nat} {v:Value} {xs:List Value} (h:Own w e sz v n xs) {g:Nat} {c:Array Value} {fr:Nat×Nat} (hb:w.heap[g]? = some (.cells c T fr)) (he:e≠T):v.ownBlock≠some g:=by
 intro hg
 rcases h.2 with ⟨rfl,_⟩ | ⟨b,cap,cur,rfl,_,hb1,_⟩
 ·simp [Value.ownBlock] at hg
 ·simp [Value.ownBlock] at hg
  subst hg
  rw [hb1] at hb
  simp at hb
  exact he hb.2.1
theorem PlayAt.notBox {w:World} {l:Pl} {mv pt:Value} (h:PlayAt w l mv pt) {T:TypeId} {g:Nat} {c:Array Value} {fr:Nat×Nat} (hb:w.heap[g]? = some (.cells c T fr)) (h1:9≠T) (h2:3≠T):∀ i,mv.ownBlock=some i\/pt.ownBlock=some i->¬ i=g:=by
 intro i hi e
 subst e
 exact hi.elim (h.1.notBox hb h1) (h.2.notBox hb h2)
set_option maxRecDepth 100000 in
theorem l3Cut_at (b1 o1 c1 b2 o2 c2 L L2 n:Nat) (w:World) (h1:n<=c1) (h2:n<=c2) :
 Calls Tryz.prog 116 #[.agg #[.slice (some ⟨b1,o1,none⟩) L c1,.slice (some ⟨b2,o2,none⟩) L2 c2],.int .i64 (n:Nat)] w fun en w'=>en=.returned (.agg #[.slice (some ⟨b1,o1,none⟩) n c1,.slice (some ⟨b2,o2,none⟩) n c2])/\Below w.heap.size w w':=by
 obtain ⟨W,hW,hbW,hz,p0,p1⟩:=boxes_2 w (.cells #[.slice (some ⟨b1,o1,none⟩) L c1,.slice (some ⟨b2,o2,none⟩) L2 c2] 33) (.cells #[.slice none 0 0,.slice none 0 0] 33)
 have h1I:(n:Int)<=(c1:Int):=by omega
 have h2I:(n:Int)<=(c2:Int):=by omega
 have HW:=Lib.hid (And.intro hW (And.intro hbW (And.intro hz (And.intro p0 p1))))
 have KEY:=Lib.hid (fun (y:World) (hy:Below W.heap.size W y)=>(show y.cell? ⟨w.heap.size,0,none⟩=some (.slice (some ⟨b1,o1,none⟩) L c1)/\y.cell? ⟨w.heap.size,1,none⟩=some (.slice (some ⟨b2,o2,none⟩) L2 c2) from by
  obtain ⟨c0,c1,_,_⟩:=cells_2 p0
  exact ⟨(hy.cell (World.block_lt_of_cell? _ _ c0)).trans c0,(hy.cell (World.block_lt_of_cell? _ _ c1)).trans c1⟩))
 clear hW hbW hz p0 p1 h1 h2
 go_enter Tryz.func116,Tryz.ntmps116
 go_upto_region 1 with (fail)
 rw [HW.out.1]
 refine wp_region_noPanic ?_
 refine wp_region_S (fun w'=>Below W.heap.size W w') (fun i=>i=9) (by kernel_rfl) ?_
 have hSd:(fun w'=>Below W.heap.size W w') W.drew:=Below.drew (Below.refl _ _)
 refine wpAnyS_take 0 (v:=?_) (by kernel_rfl) (by kernel_rfl) (by kernel_rfl) (by kernel_rfl) (fun _ _ _ _ h=>h) hSd ?_ ?_
 rotate_left
 ·(intro oi ho;simp at ho;subst ho;refine Or.inl ⟨by rfl,fun w' hw'=>?_⟩;go_simp;try with_reducible rfl)
 (intro d hd;simp at hd;subst hd;simp only [Act.put,List.setIfInBounds_toArray,List.set_cons_zero,List.set_cons_succ])
 refine wpAnyS_take 1 (v:=?_) (by kernel_rfl) (by kernel_rfl) (by kernel_rfl) (by kernel_rfl) (fun _ _ _ _ h=>h) hSd ?_ ?_
 rotate_left
 ·(intro oi ho;simp at ho;subst ho;refine Or.inl ⟨by rfl,fun w' hw'=>?_⟩;have e0:=(KEY.out w' hw').1;go_simp;try with_reducible rfl)
 (intro d hd;simp at hd;subst hd;simp only [Act.put,List.setIfInBounds_toArray,List.set_cons_zero,List.set_cons_succ])
 refine wpAnyS_take 2 (v:=?_) (by kernel_rfl) (by kernel_rfl) (by kernel_rfl) (by kernel_rfl) (fun _ _ _ _ h=>h) hSd ?_ ?_
 rotate_left
 ·(intro oi ho;simp at ho;subst ho;refine Or.inl ⟨by rfl,fun w' hw'=>?_⟩;go_simp;try with_reducible rfl)
 (intro d hd;simp at hd;subst hd;simp only [Act.put,List.setIfInBounds_toArray,List.set_cons_zero,List.set_cons_succ])
 refine wpAnyS_take 3 (v:=?_) (by kernel_rfl) (by kernel_rfl) (by kernel_rfl) (by kernel_rfl) (fun _ _ _ _ h=>h) hSd ?_ ?_
 rotate_left
 ·(intro oi ho;simp at ho;subst ho;refine Or.inl ⟨by rfl,fun w' hw'=>?_⟩;go_simp;try with_reducible rfl)
 (intro d hd;simp at hd;subst hd;simp only [Act.put,List.setIfInBounds_toArray,List.set_cons_zero,List.set_cons_succ])
 refine wpAnyS_take 4 (v:=?_) (by kernel_rfl) (by kernel_rfl) (by kernel_rfl) (by kernel_rfl) (fun _ _ _ _ h=>h) hSd ?_ ?_
 rotate_left
 ·(intro oi ho;simp at ho;subst ho;refine Or.inl ⟨by rfl,fun w' hw'=>?_⟩;go_simp;try with_reducible rfl)
 (intro d hd;simp at hd;subst hd;simp only [Act.put,List.setIfInBounds_toArray,List.set_cons_zero,List.set_cons_succ])
 refine wpAnyS_take 5 (v:=?_) (by kernel_rfl) (by kernel_rfl) (by kernel_rfl) (by kernel_rfl) (fun _ _ _ _ h=>h) hSd ?_ ?_
 rotate_left
 ·(intro oi ho;simp at ho;subst ho;refine Or.inl ⟨by rfl,fun w' hw'=>?_⟩;have e0:=(KEY.out w' hw').2;go_simp;try with_reducible rfl)
 (intro d hd;simp at hd;subst hd;simp only [Act.put,List.setIfInBounds_toArray,List.set_cons_zero,List.set_cons_succ])
 refine wpAnyS_take 6 (v:=?_) (by kernel_rfl) (by kernel_rfl) (by kernel_rfl) (by kernel_rfl) (fun _ _ _ _ h=>h) hSd ?_ ?_
 rotate_left
 ·(intro oi ho;simp at ho;subst ho;refine Or.inl ⟨by rfl,fun w' hw'=>?_⟩;go_simp;try with_reducible rfl)
 (intro d hd;simp at hd;subst hd;simp only [Act.put,List.setIfInBounds_toArray,List.set_cons_zero,List.set_cons_succ])
 refine wpAnyS_take 7 (v:=?_) (by kernel_rfl) (by kernel_rfl) (by kernel_rfl) (by kernel_rfl) (fun _ _ _ _ h=>h) hSd ?_ ?_
 rotate_left
 ·(intro oi ho;simp at ho;subst ho;refine Or.inl ⟨by rfl,fun w' hw'=>?_⟩;go_simp;try with_reducible rfl)
 (intro d hd;simp at hd;subst hd;simp only [Act.put,List.setIfInBounds_toArray,List.set_cons_zero,List.set_cons_succ])
 refine wpAnyS_take 8 (v:=?_) (by kernel_rfl) (by kernel_rfl) (by kernel_rfl) (by kernel_rfl) (fun _ _ _ _ h=>h) hSd ?_ ?_
 rotate_left
 ·(intro oi ho;simp at ho;subst ho;refine Or.inl ⟨by rfl,fun w' hw'=>?_⟩;go_simp;try with_reducible rfl)
 (intro d hd;simp at hd;subst hd;simp only [Act.put,List.setIfInBounds_toArray,List.set_cons_zero,List.set_cons_succ])
 refine wpAnyS_one 9 (by kernel_rfl) ?_
 (intro o9 ho K' hK;simp at ho;subst ho)
 have xx:=HW.out.2.2.2.2
 obtain ⟨e0,e1,f0,f1⟩:=cells_2 (w:=W.drew) xx
 obtain ⟨e0',e1',f0',f1'⟩:=cells_2 xx
 go_simp
 refine hK.out _ _ ?_ ?_
 ·intro h;simp at h
 clear hK K'
 (try simp only [Act.put,List.setIfInBounds_toArray,List.set_cons_zero,List.set_cons_succ])
 refine wpAnyS_done (by kernel_rfl) (NoPanic.normal ?_) _
 have xx:=HW.out.2.2.2.2
 have hV:=set_two' (w:=W.drew) xx (.slice (some ⟨b1,o1,none⟩) n c1) (.slice (some ⟨b2,o2,none⟩) n c2)
 obtain ⟨s0',s1',_,_⟩:=cells_2 hV
 have hV1:(W.setCell ⟨w.heap.size+1,0,none⟩ (.slice (some ⟨b1,o1,none⟩) n c1)).heap[w.heap.size+1]? = some (.cells #[.slice (some ⟨b1,o1,none⟩) n c1,.slice none 0 0] 33 (0,0)):=by rw [setCell_at' xx];rfl
 obtain ⟨t0,_,_,_⟩:=cells_2 hV1
 have hV2:=set_two' xx (.slice (some ⟨b1,o1,none⟩) n c1) (.slice (some ⟨b2,o2,none⟩) n c2)
 obtain ⟨r0,r1,_,_⟩:=cells_2 hV2
 go_wp2_with fail
 have hbF:=((HW.out.2.1.drew).setCell (p:=⟨w.heap.size+1,0,none⟩) (Nat.le_succ _) (.slice (some ⟨b1,o1,none⟩) n c1)).setCell (p:=⟨w.heap.size+1,1,none⟩) (Nat.le_succ _) (.slice (some ⟨b2,o2,none⟩) n c2)
 refine bodyPost_ret (v:=.agg #[.slice (some ⟨b1,o1,none⟩) n c1,.slice (some ⟨b2,o2,none⟩) n c2]) (by simp [results,Tryz.results116,go_sem,s0',s1',t0,r0,r1]) rfl ?_
 exact ⟨rfl,hbF⟩
def replyTo (t:Ty) (b:Bd) (v:Pl):Option Pl:=if v.length=60 then none else (replyAt t b v v.length).map fun x=>v++[x]
set_option maxRecDepth 100000 in
theorem l3Follows_any (t:Ty) (b:Bd) (v:Pl) (tv mv pt:Value) (nv:List Value) (w:World) (hk:Rep (fun _=>True) w (encS t) tv) (hb:Reps (fun _=>True) w (encN b) nv) (hm:PlIn (fun _=>True) t v mv pt w)
 (h15:atomsT t<=15) (hf:fitB t.args b) (hw:wfB b) :
 Calls Tryz.prog 62 #[.agg #[tv],.agg nv.toArray,.agg #[mv,pt]] w fun en w'=>en=.returned (.bool (decide (followsTo t b v v.length)))/\Below w.heap.size w w':=by
 have h60:=valid_len hm.ok
 obtain ⟨vi,a2,c2,a3,c3,rfl,_,_⟩:=encN_open hb
 obtain ⟨ta,tc,rfl⟩:=encS_slice hk
 obtain ⟨ma,mc,rfl,hmcap,_⟩:=Rep_sl1_open hm.m
 obtain ⟨pa,pc,rfl,hpcap,_⟩:=Rep_sl1_open hm.p
 obtain ⟨_,_,e1,hmc⟩:=hm.m.cells
 obtain ⟨_,_,e2,hpc⟩:=hm.p.cells
 simp only [Value.slice.injEq,true_and] at e1 e2
 obtain ⟨rfl,rfl⟩:=e1
 obtain ⟨rfl,rfl⟩:=e2
 generalize hq0:atomOf b=q0 at *
 generalize hq2:(kidsOf b).length=q2 at *
 generalize hq3:(yesOf b).length=q3 at *
 obtain ⟨W,hW,hbW,hz,b0,b1,b2⟩:=boxes_3 w (.cells #[.slice ta t.args.length tc] 78) (.cells #[str q0,.int .i64 vi,.slice a2 q2 c2,.slice a3 q3 c3] 81) (.cells #[.slice ma v.length mc,.slice pa v.length pc] 33)
 have PF:=Lib.hid (fun e (he:e<v.length) (he2:e % 2=0)=>place_fits h15 hf hw hm.ok e he he2)
 have RPL:=Lib.hid (fun (y:World) (hy:Below w.heap.size w y) (k n:Nat) (s0:St) (hnk:n=k+1) (hkv:n<=v.length) (hke:k % 2=0) (hfo:followsTo t b v k) (hs0:placeAt t b v (k+1)=some s0) (mv' pt':Value) (h1:MvRep (fun _=>True) w (v.take n) mv') (h2:PtRep (fun _=>True) w (v.take n) pt') =>
  l3Reply_any (fun _=>True) t b (v.take n) k s0 (.slice ta t.args.length tc) mv' pt' [str q0,.int .i64 vi,.slice a2 q2 c2,.slice a3 q3 c3] y (hk.below hy fun _ h=>h) ((Rep.keep fun i o hi ho=>⟨hi,by rw [hy.block i (lt_of_heap ho)];exact ho⟩).2 _ _ hb) ((hm.take h1 h2).below hy) h15 hf hw (by rw [List.length_take];omega) hke (follows_take hm.ok b (by omega) (by omega) hfo) (by rw [placeAt_take hm.ok b (by omega) (by omega)];exact hs0))
 have HH:=Lib.hid (And.intro hmc (And.intro hpc (And.intro hbW (And.intro hm (And.intro hmcap hpcap)))))
 have HW:=Lib.hid (And.intro hW (And.intro hz (And.intro b0 (And.intro b1 b2))))
 clear hm hmc hpc hz b0 b1 b2 hbW hW hk hb h15 hf hw hmcap hpcap
 obtain ⟨c0,c1,_,_⟩:=cells_2 HW.out.2.2.2.2
 go_enter Tryz.func62,Tryz.ntmps62
 go_upto_region 1 with (fail)
 rw [HW.out.1]
 go_wp2_with fail
 go_loopw [7] (fun i wr=>∃ (wz:World) (k n:Nat),wz=wr/\n=k+1/\k % 2=0/\k<=v.length+1/\i=.int .i64 (n:Nat)/\followsTo t b v n/\Below W.heap.size W wz) (fun i _=>v.length+5-(intOf i).toNat)
 case atStart=>exact ⟨_,0,1,rfl,rfl,rfl,by omega,rfl,fun i hi h=>by omega,Below.refl _ _⟩
 case round =>
  obtain ⟨wr,k,n,rfl,hnk,hke,hkl,rfl,hfo,hB⟩:=hrel
  have d0:=(hB.cell (World.block_lt_of_cell? _ _ c0)).trans c0
  have d1:=(hB.cell (World.block_lt_of_cell? _ _ c1)).trans c1
  clear c0 c1
  have HB:=Lib.hid (And.intro hB (zzT HH.out.2.2.1 hB))
  clear hB
  by_cases hlt:n<v.length
  ·have hltI:(n:Int)<(v.length:Int):=by omega
   obtain ⟨x,p,z,hvk,hok⟩:=valid_at HH.out.2.2.2.1.ok hlt
   obtain ⟨mb,mo,rfl,_,hmb,hmk⟩:=HH.out.1 n _ hvk
   obtain ⟨pb,po,rfl,_,hpb,hpk⟩:=HH.out.2.1 n _ hvk
   have hmcap:=HH.out.2.2.2.2.1
   have hpcap:=HH.out.2.2.2.2.2
   have hlt2:(v.take n).length=n:=by rw [List.length_take];omega
   have HM:MvRep (fun _=>True) w (v.take n) (.slice (some ⟨mb,mo,none⟩) n mc):=by
    have:=Rep_take HH.out.2.2.2.1.m (show n<=v.length by omega) (by simp)
    unfold MvRep;rw [hlt2,List.map_take];exact this
   have HP:PtRep (fun _=>True) w (v.take n) (.slice (some ⟨pb,po,none⟩) n pc):=by
    have:=Rep_take HH.out.2.2.2.1.p (show n<=v.length by omega) (by simp)
    unfold PtRep;rw [hlt2,List.map_take];exact this
   have CCU:=Lib.hid (fun (y:World)=>l3Cut_at mb mo mc pb po pc v.length v.length n y (by omega) (by omega))
   obtain ⟨s,hand,hs0,hfit⟩:=PF.out k (by omega) hke (fun i hi h=>hfo i (by omega) h)
   have CRE:∀ y,Below wr.heap.size wr y->Calls Tryz.prog 76 #[.agg #[.slice ta t.args.length tc],.agg #[str q0,.int .i64 vi,.slice a2 q2 c2,.slice a3 q3 c3],.agg #[.slice (some ⟨mb,mo,none⟩) n mc,.slice (some ⟨pb,po,none⟩) n pc]] y (ReplyQ s (v.take n) (.slice (some ⟨mb,mo,none⟩) n mc) (.slice (some ⟨pb,po,none⟩) n pc) y):=fun y hy =>
    RPL.out y (zzT HB.out.2 hy) k n s hnk (by omega) hke (fun i hi h=>hfo i (by omega) h) hs0 _ _ HM HP
   have hrep:replyAt t b v n=told s:=by unfold replyAt;rw [hnk,hs0];rfl
   have KEY:=Lib.hid (fun (y:World) (hy:Below wr.heap.size wr y)=>(show (y.cell? ⟨w.heap.size+2,0,none⟩=some (.slice (some ⟨mb,mo,none⟩) v.length mc)/\y.cell? ⟨w.heap.size+2,1,none⟩=some (.slice (some ⟨pb,po,none⟩) v.length pc))/\y.cell? ⟨mb,mo+n,none⟩=some (str (x::p))/\y.cell? ⟨pb,po+n,none⟩=some (.int .i64 z)/\y.cell? ⟨w.heap.size,0,none⟩=some (.slice ta t.args.length tc)/\y.cell? ⟨w.heap.size+1,0,none⟩=some (str q0)/\y.cell? ⟨w.heap.size+1,1,none⟩=some (.int .i64 vi)/\y.cell? ⟨w.heap.size+1,2,none⟩=some (.slice a2 q2 c2)/\y.cell? ⟨w.heap.size+1,3,none⟩=some (.slice a3 q3 c3) from by
    have hk:∀ (a:Addr) (u:Value),wr.cell? a=some u->y.cell? a=some u:=fun a u h=>(hy.cell (World.block_lt_of_cell? _ _ h)).trans h
    have hkW:∀ (a:Addr) (u:Value),W.cell? a=some u->y.cell? a=some u:=fun a u h=>hk a u ((HB.out.1.cell (World.block_lt_of_cell? _ _ h)).trans h)
    obtain ⟨i0,i1,i2,i3⟩:=cells_4 HW.out.2.2.2.1
    exact ⟨⟨hk _ _ d0,hk _ _ d1⟩,hk _ _ ((HB.out.2.cell (p:=⟨mb,mo+n,none⟩) hmb).trans hmk),hk _ _ ((HB.out.2.cell (p:=⟨pb,po+n,none⟩) hpb).trans hpk),hkW _ _ (one_cell HW.out.2.2.1),hkW _ _ i0,hkW _ _ i1,hkW _ _ i2,hkW _ _ i3⟩))
   have HF:=Lib.hid (And.intro hfo (And.intro hnk (And.intro hke (And.intro hkl (And.intro hlt (And.intro hvk hrep))))))
   have HLT:=Lib.hid hlt2
   obtain ⟨M,hM⟩:=zzM (x::p)
   rw [<- hM] at KEY
   have HMM:=Lib.hid hM
   have hw2:IntKind.i64.wrap ((n:Int)+2)=((n+2:Nat):Int):=by rw [wrap_low _ (by omega) (by omega)];omega
   obtain ⟨oo,ho⟩:=zzN (told s)
   have HO:=Lib.hid ho
   clear hvk hok hmb hmk hpb hpk hs0 hfit hrep hfo hnk hke hkl hM RPL PF HM HP hmcap hpcap hlt2
   cases oo with
   | none =>
     have CRN:=Lib.hid (fun (y:World) (hy:Below wr.heap.size wr y)=>(show Calls Tryz.prog 76 #[.agg #[.slice ta t.args.length tc],.agg #[str q0,.int .i64 vi,.slice a2 q2 c2,.slice a3 q3 c3],.agg #[.slice (some ⟨mb,mo,none⟩) n mc,.slice (some ⟨pb,po,none⟩) n pc]] y (fun en w'=>en=.returned (.tuple #[.agg #[.slice (some ⟨mb,mo,none⟩) n mc,.slice (some ⟨pb,po,none⟩) n pc],.bool false])/\Below y.heap.size y w') from by
      refine (CRE y hy).mono ?_
      rintro en w' ⟨r1,m1,e1,r2,m2,e2,rfl,hb,hno,_⟩
      obtain ⟨h1,h2⟩:=hno ho
      rw [h1,h2,ho];exact ⟨rfl,hb⟩))
     clear CRE ho
     go_upto_region 4 with (fail)
     clear d0 d1
     refine cut_code (X:=Nat) (fun zz x=>(((((((((((zz.put (some 18) (.agg #[.slice ta t.args.length tc])).put (some 19) (.agg #[str q0,.int .i64 vi,.slice a2 q2 c2,.slice a3 q3 c3])).put (some 20) (.agg #[.slice (some ⟨mb,mo,none⟩) v.length mc,.slice (some ⟨pb,po,none⟩) v.length pc])).put (some 21) (.int .i64 (n:Nat))).put (some 22) (.agg #[.slice (some ⟨mb,mo,none⟩) n mc,.slice (some ⟨pb,po,none⟩) n pc])).put (some 23) (.tuple #[.agg #[.slice (some ⟨mb,mo,none⟩) n mc,.slice (some ⟨pb,po,none⟩) n pc],.bool false])).put (some 17) (.tuple #[.agg #[.slice (some ⟨mb,mo,none⟩) n mc,.slice (some ⟨pb,po,none⟩) n pc],.bool false])).put (some 24) (.agg #[.slice (some ⟨mb,mo,none⟩) n mc,.slice (some ⟨pb,po,none⟩) n pc])).put (some 25) (.bool false)).put (some 8) (.pointer (some ⟨x,0,none⟩))).put (some 9) (.bool false))) (fun x w7=>Below wr.heap.size wr w7) ?_ ?_
     ·refine wp_region_noPanic ?_
      refine wp_region_S (fun w'=>Below wr.heap.size wr w') (fun _=>false) (by kernel_rfl) ?_
      obtain ⟨y0,hy0⟩:=zzN (wr.drew)
      rw [hy0]
      have hBy0:Below wr.heap.size wr y0:=by rw [<- hy0];exact Below.drew (Below.refl _ _)
      obtain ⟨tg0,htg0⟩:∃ x:Nat->Nat,x=fun _=>0:=⟨_,rfl⟩
      clear hy0 htg0
      refine wpAnyS_take 0 (v:=?_) (by kernel_rfl) (by kernel_rfl) (by kernel_rfl) (by kernel_rfl) (fun _ _ _ _ h=>h) hBy0 ?_ ?_
      rotate_left
      ·(intro oi ho;simp at ho;subst ho;refine Or.inl ⟨by rfl,fun w' hw'=>?_⟩;have e0:=(KEY.out w' hw').2.2.2.1;go_simp;try with_reducible rfl)
      (intro d hd;simp at hd;subst hd;simp only [Act.put,List.setIfInBounds_toArray,List.set_cons_zero,List.set_cons_succ])
      refine wpAnyS_take 1 (v:=?_) (by kernel_rfl) (by kernel_rfl) (by kernel_rfl) (by kernel_rfl) (fun _ _ _ _ h=>h) hBy0 ?_ ?_
      rotate_left
      ·(intro oi ho;simp at ho;subst ho;refine Or.inl ⟨by rfl,fun w' hw'=>?_⟩;obtain ⟨_,_,_,_,e0,e1,e2,e3⟩:=KEY.out w' hw';go_simp;try with_reducible rfl)
      (intro d hd;simp at hd;subst hd;simp only [Act.put,List.setIfInBounds_toArray,List.set_cons_zero,List.set_cons_succ])
      refine wpAnyS_take 2 (v:=?_) (by kernel_rfl) (by kernel_rfl) (by kernel_rfl) (by kernel_rfl) (fun _ _ _ _ h=>h) hBy0 ?_ ?_
      rotate_left
      ·(intro oi ho;simp at ho;subst ho;refine Or.inl ⟨by rfl,fun w' hw'=>?_⟩;obtain ⟨e0,e1⟩:=(KEY.out w' hw').1;go_simp;try with_reducible rfl)
      (intro d hd;simp at hd;subst hd;simp only [Act.put,List.setIfInBounds_toArray,List.set_cons_zero,List.set_cons_succ])
      refine wpAnyS_take 3 (v:=?_) (by kernel_rfl) (by kernel_rfl) (by kernel_rfl) (by kernel_rfl) (fun _ _ _ _ h=>h) hBy0 ?_ ?_
      rotate_left
      ·(intro oi ho;simp at ho;subst ho;refine Or.inl ⟨by rfl,fun w' hw'=>?_⟩;go_simp;try with_reducible rfl)
      (intro d hd;simp at hd;subst hd;simp only [Act.put,List.setIfInBounds_toArray,List.set_cons_zero,List.set_cons_succ])
      refine wpAnyS_two 4 9 (by kernel_rfl) ?_ ?_
      ·(intro o4 ho K' hK;simp at ho;subst ho)
       go_simp
       go_at_call 116
       (with_reducible refine (CCU.out _).mono ?_)
       rintro en y1 ⟨rfl,hb⟩
       have hBy1:Below wr.heap.size wr y1:=zzT hBy0 hb
       have hby1:=Lib.hid hb;clear hb
       refine hK.out _ _ (fun _=>?_) ?_
       ·exact hBy1
       clear hK K'
       (try simp only [Act.put,List.setIfInBounds_toArray,List.set_cons_zero,List.set_cons_succ])
       refine wpAnyS_two 5 9 (by kernel_rfl) ?_ ?_
       ·(intro o5 ho K' hK;simp at ho;subst ho)
        go_simp
        go_at_call 76
        (with_reducible refine (CRN.out _ hBy1).mono ?_)
        rintro en y2 ⟨rfl,hb⟩
        have hBy2:Below wr.heap.size wr y2:=zzT hBy1 hb
        have hby2:=Lib.hid hb;clear hb
        refine hK.out _ _ (fun _=>?_) ?_
        ·exact hBy2
        clear hK K'
        (try simp only [Act.put,List.setIfInBounds_toArray,List.set_cons_zero,List.set_cons_succ])
        refine wpAnyS_take 6 (v:=?_) (by kernel_rfl) (by kernel_rfl) (by kernel_rfl) (by kernel_rfl) (fun _ _ _ _ h=>h) hBy2 ?_ ?_
        rotate_left
        ·(intro oi ho;simp at ho;subst ho;refine Or.inl ⟨by rfl,fun w' hw'=>?_⟩;go_simp;try with_reducible rfl)
        (intro d hd;simp at hd;subst hd;simp only [Act.put,List.setIfInBounds_toArray,List.set_cons_zero,List.set_cons_succ])
        refine wpAnyS_take 7 (v:=?_) (by kernel_rfl) (by kernel_rfl) (by kernel_rfl) (by kernel_rfl) (fun _ _ _ _ h=>h) hBy2 ?_ ?_
        rotate_left
        ·(intro oi ho;simp at ho;subst ho;refine Or.inl ⟨by rfl,fun w' hw'=>?_⟩;go_simp;try with_reducible rfl)
        (intro d hd;simp at hd;subst hd;simp only [Act.put,List.setIfInBounds_toArray,List.set_cons_zero,List.set_cons_succ])
        refine wpAnyS_take 8 (v:=?_) (by kernel_rfl) (by kernel_rfl) (by kernel_rfl) (by kernel_rfl) (fun _ _ _ _ h=>h) hBy2 ?_ ?_
        rotate_left
        ·(intro oi ho;simp at ho;subst ho;refine Or.inl ⟨by rfl,fun w' hw'=>?_⟩;go_simp;try with_reducible rfl)
        (intro d hd;simp at hd;subst hd;simp only [Act.put,List.setIfInBounds_toArray,List.set_cons_zero,List.set_cons_succ])
        refine wpAnyS_one 9 (by kernel_rfl) ?_
        (intro o9 ho K' hK;simp at ho;subst ho)
        go_simp
        refine hK.out _ _ (fun _=>?_) ?_
        ·exact hBy2.alloc hBy2.size _
        clear hK K'
        (try simp only [Act.put,List.setIfInBounds_toArray,List.set_cons_zero,List.set_cons_succ])
        obtain ⟨y3,hnew⟩:=zzN (y2.alloc (.cells #[.slice none 0 0,.slice none 0 0] 33))
        obtain ⟨gX,hgX⟩:=zzN (y2.heap.size)
        rw [hnew,hgX]
        have hBy3:Below wr.heap.size wr y3:=by rw [<- hnew];exact hBy2.alloc hBy2.size _
        obtain ⟨tg3,htg⟩:=zzN (retag tg0 gX 1)
        have EX:Hid (y3.heap[gX]? = some (.cells #[.slice none 0 0,.slice none 0 0] 33 (0,0))/\tg3 gX=1/\wr.heap.size<=gX):=by rw [<- hnew,<- htg,<- hgX];exact ⟨heap_new _ _,by unfold retag;rw [if_pos rfl],hBy2.size⟩
        clear hnew hgX htg
        refine wpAnyS_one 10 (by kernel_rfl) ?_
        (intro o10 ho K' hK;simp at ho;subst ho)
        obtain ⟨uX0,cX0⟩:∃ u,y3.cell? ⟨gX,0,none⟩=some u:=⟨_,by simp [World.cell?,EX.out.1];rfl⟩
        have fX0:y3.frozen? ⟨gX,0,none⟩=false:=by simp [World.frozen?,EX.out.1]
        obtain ⟨uX1,cX1⟩:∃ u,y3.cell? ⟨gX,1,none⟩=some u:=⟨_,by simp [World.cell?,EX.out.1];rfl⟩
        have fX1:y3.frozen? ⟨gX,1,none⟩=false:=by simp [World.frozen?,EX.out.1]
        go_simp
        refine hK.out _ _ (fun _=>?_) ?_
        ·exact ((hBy3.setCell (p:=⟨gX,0,none⟩) EX.out.2.2 _).setCell (p:=⟨gX,1,none⟩) EX.out.2.2 _)
        clear hK K'
        (try simp only [Act.put,List.setIfInBounds_toArray,List.set_cons_zero,List.set_cons_succ])
        obtain ⟨y4,hnew⟩:=zzN (((y3.setCell ⟨gX,0,none⟩ (.slice (some ⟨mb,mo,none⟩) n mc)).setCell ⟨gX,1,none⟩ (.slice (some ⟨pb,po,none⟩) n pc)))
        rw [hnew]
        have hBy4:Below wr.heap.size wr y4:=by rw [<- hnew];exact ((hBy3.setCell (p:=⟨gX,0,none⟩) EX.out.2.2 _).setCell (p:=⟨gX,1,none⟩) EX.out.2.2 _)
        have hbt:But (fun i=>i=gX) y3 y4:=by rw [<- hnew];exact (((But.refl (fun i=>i=gX) y3).setCell (p:=⟨gX,0,none⟩) (.inl rfl) _).setCell (p:=⟨gX,1,none⟩) (.inl rfl) _)
        have htg:∀ g,g=gX->tg3 g=1:=fun g e=>by rw [e];exact EX.out.2.1
        have EX:Hid (y4.heap[gX]? = some (.cells #[.slice (some ⟨mb,mo,none⟩) n mc,.slice (some ⟨pb,po,none⟩) n pc] 33 (0,0))/\tg3 gX=1/\wr.heap.size<=gX):=⟨by rw [<- hnew];exact (setCell_at' (setCell_at' EX.out.1)),EX.out.2⟩
        clear hnew hbt htg cX0 fX0 cX1 fX1
        refine wpAnyS_one 11 (by kernel_rfl) ?_
        (intro o11 ho K' hK;simp at ho;subst ho)
        go_simp
        refine hK.out _ _ (fun _=>?_) ?_
        ·exact hBy4
        clear hK K'
        (try simp only [Act.put,List.setIfInBounds_toArray,List.set_cons_zero,List.set_cons_succ])
        refine wpAnyS_done (by kernel_rfl) (NoPanic.normal ?_) _
        exact ⟨rfl,gX,by rfl,hBy4⟩
       ·(intro o9 ho K' hK;simp at ho;subst ho)
        go_simp
        refine hK.out _ _ (fun _=>?_) ?_
        ·exact hBy1.alloc hBy1.size _
        clear hK K'
        (try simp only [Act.put,List.setIfInBounds_toArray,List.set_cons_zero,List.set_cons_succ])
        obtain ⟨y6,hnew⟩:=zzN (y1.alloc (.cells #[.slice none 0 0,.slice none 0 0] 33))
        obtain ⟨gX,hgX⟩:=zzN (y1.heap.size)
        rw [hnew,hgX]
        have hBy6:Below wr.heap.size wr y6:=by rw [<- hnew];exact hBy1.alloc hBy1.size _
        obtain ⟨tg6,htg⟩:=zzN (retag tg0 gX 1)
        have EX:Hid (y6.heap[gX]? = some (.cells #[.slice none 0 0,.slice none 0 0] 33 (0,0))/\tg6 gX=1/\wr.heap.size<=gX):=by rw [<- hnew,<- htg,<- hgX];exact ⟨heap_new _ _,by unfold retag;rw [if_pos rfl],hBy1.size⟩
        clear hnew hgX htg
        refine wpAnyS_one 5 (by kernel_rfl) ?_
        (intro o5 ho K' hK;simp at ho;subst ho)
        go_simp
        go_at_call 76
        (with_reducible refine (CRN.out _ hBy6).mono ?_)
        rintro en y7 ⟨rfl,hb⟩
        have hBy7:Below wr.heap.size wr y7:=zzT hBy6 hb
        have EX:Hid (y7.heap[gX]? = some (.cells #[.slice none 0 0,.slice none 0 0] 33 (0,0))/\tg6 gX=1/\wr.heap.size<=gX):=⟨(hb.block _ (lt_of_heap EX.out.1)).trans EX.out.1,EX.out.2⟩
        have hby7:=Lib.hid hb;clear hb
        refine hK.out _ _ (fun _=>?_) ?_
        ·exact hBy7
        clear hK K'
        (try simp only [Act.put,List.setIfInBounds_toArray,List.set_cons_zero,List.set_cons_succ])
        refine wpAnyS_take 6 (v:=?_) (by kernel_rfl) (by kernel_rfl) (by kernel_rfl) (by kernel_rfl) (fun _ _ _ _ h=>h) hBy7 ?_ ?_
        rotate_left
        ·(intro oi ho;simp at ho;subst ho;refine Or.inl ⟨by rfl,fun w' hw'=>?_⟩;go_simp;try with_reducible rfl)
        (intro d hd;simp at hd;subst hd;simp only [Act.put,List.setIfInBounds_toArray,List.set_cons_zero,List.set_cons_succ])
        refine wpAnyS_take 7 (v:=?_) (by kernel_rfl) (by kernel_rfl) (by kernel_rfl) (by kernel_rfl) (fun _ _ _ _ h=>h) hBy7 ?_ ?_
        rotate_left
        ·(intro oi ho;simp at ho;subst ho;refine Or.inl ⟨by rfl,fun w' hw'=>?_⟩;go_simp;try with_reducible rfl)
        (intro d hd;simp at hd;subst hd;simp only [Act.put,List.setIfInBounds_toArray,List.set_cons_zero,List.set_cons_succ])
        refine wpAnyS_take 8 (v:=?_) (by kernel_rfl) (by kernel_rfl) (by kernel_rfl) (by kernel_rfl) (fun _ _ _ _ h=>h) hBy7 ?_ ?_
        rotate_left
        ·(intro oi ho;simp at ho;subst ho;refine Or.inl ⟨by rfl,fun w' hw'=>?_⟩;go_simp;try with_reducible rfl)
        (intro d hd;simp at hd;subst hd;simp only [Act.put,List.setIfInBounds_toArray,List.set_cons_zero,List.set_cons_succ])
        refine wpAnyS_one 10 (by kernel_rfl) ?_
        (intro o10 ho K' hK;simp at ho;subst ho)
        obtain ⟨uX0,cX0⟩:∃ u,y7.cell? ⟨gX,0,none⟩=some u:=⟨_,by simp [World.cell?,EX.out.1];rfl⟩
        have fX0:y7.frozen? ⟨gX,0,none⟩=false:=by simp [World.frozen?,EX.out.1]
        obtain ⟨uX1,cX1⟩:∃ u,y7.cell? ⟨gX,1,none⟩=some u:=⟨_,by simp [World.cell?,EX.out.1];rfl⟩
        have fX1:y7.frozen? ⟨gX,1,none⟩=false:=by simp [World.frozen?,EX.out.1]
        go_simp
        refine hK.out _ _ (fun _=>?_) ?_
        ·exact ((hBy7.setCell (p:=⟨gX,0,none⟩) EX.out.2.2 _).setCell (p:=⟨gX,1,none⟩) EX.out.2.2 _)
        clear hK K'
        (try simp only [Act.put,List.setIfInBounds_toArray,List.set_cons_zero,List.set_cons_succ])
        obtain ⟨y8,hnew⟩:=zzN (((y7.setCell ⟨gX,0,none⟩ (.slice (some ⟨mb,mo,none⟩) n mc)).setCell ⟨gX,1,none⟩ (.slice (some ⟨pb,po,none⟩) n pc)))
        rw [hnew]
        have hBy8:Below wr.heap.size wr y8:=by rw [<- hnew];exact ((hBy7.setCell (p:=⟨gX,0,none⟩) EX.out.2.2 _).setCell (p:=⟨gX,1,none⟩) EX.out.2.2 _)
        have hbt:But (fun i=>i=gX) y7 y8:=by rw [<- hnew];exact (((But.refl (fun i=>i=gX) y7).setCell (p:=⟨gX,0,none⟩) (.inl rfl) _).setCell (p:=⟨gX,1,none⟩) (.inl rfl) _)
        have htg:∀ g,g=gX->tg6 g=1:=fun g e=>by rw [e];exact EX.out.2.1
        have EX:Hid (y8.heap[gX]? = some (.cells #[.slice (some ⟨mb,mo,none⟩) n mc,.slice (some ⟨pb,po,none⟩) n pc] 33 (0,0))/\tg6 gX=1/\wr.heap.size<=gX):=⟨by rw [<- hnew];exact (setCell_at' (setCell_at' EX.out.1)),EX.out.2⟩
        clear hnew hbt htg cX0 fX0 cX1 fX1
        refine wpAnyS_one 11 (by kernel_rfl) ?_
        (intro o11 ho K' hK;simp at ho;subst ho)
        go_simp
        refine hK.out _ _ (fun _=>?_) ?_
        ·exact hBy8
        clear hK K'
        (try simp only [Act.put,List.setIfInBounds_toArray,List.set_cons_zero,List.set_cons_succ])
        refine wpAnyS_done (by kernel_rfl) (NoPanic.normal ?_) _
        exact ⟨rfl,gX,by rfl,hBy8⟩
      ·(intro o9 ho K' hK;simp at ho;subst ho)
       go_simp
       refine hK.out _ _ (fun _=>?_) ?_
       ·exact hBy0.alloc hBy0.size _
       clear hK K'
       (try simp only [Act.put,List.setIfInBounds_toArray,List.set_cons_zero,List.set_cons_succ])
       obtain ⟨y10,hnew⟩:=zzN (y0.alloc (.cells #[.slice none 0 0,.slice none 0 0] 33))
       obtain ⟨gX,hgX⟩:=zzN (y0.heap.size)
       rw [hnew,hgX]
       have hBy10:Below wr.heap.size wr y10:=by rw [<- hnew];exact hBy0.alloc hBy0.size _
       obtain ⟨tg10,htg⟩:=zzN (retag tg0 gX 1)
       have EX:Hid (y10.heap[gX]? = some (.cells #[.slice none 0 0,.slice none 0 0] 33 (0,0))/\tg10 gX=1/\wr.heap.size<=gX):=by rw [<- hnew,<- htg,<- hgX];exact ⟨heap_new _ _,by unfold retag;rw [if_pos rfl],hBy0.size⟩
       clear hnew hgX htg
       refine wpAnyS_one 4 (by kernel_rfl) ?_
       (intro o4 ho K' hK;simp at ho;subst ho)
       go_simp
       go_at_call 116
       (with_reducible refine (CCU.out _).mono ?_)
       rintro en y11 ⟨rfl,hb⟩
       have hBy11:Below wr.heap.size wr y11:=zzT hBy10 hb
       have EX:Hid (y11.heap[gX]? = some (.cells #[.slice none 0 0,.slice none 0 0] 33 (0,0))/\tg10 gX=1/\wr.heap.size<=gX):=⟨(hb.block _ (lt_of_heap EX.out.1)).trans EX.out.1,EX.out.2⟩
       have hby11:=Lib.hid hb;clear hb
       refine hK.out _ _ (fun _=>?_) ?_
       ·exact hBy11
       clear hK K'
       (try simp only [Act.put,List.setIfInBounds_toArray,List.set_cons_zero,List.set_cons_succ])
       refine wpAnyS_one 5 (by kernel_rfl) ?_
       (intro o5 ho K' hK;simp at ho;subst ho)
       go_simp
       go_at_call 76
       (with_reducible refine (CRN.out _ hBy11).mono ?_)
       rintro en y12 ⟨rfl,hb⟩
       have hBy12:Below wr.heap.size wr y12:=zzT hBy11 hb
       have EX:Hid (y12.heap[gX]? = some (.cells #[.slice none 0 0,.slice none 0 0] 33 (0,0))/\tg10 gX=1/\wr.heap.size<=gX):=⟨(hb.block _ (lt_of_heap EX.out.1)).trans EX.out.1,EX.out.2⟩
       have hby12:=Lib.hid hb;clear hb
       refine hK.out _ _ (fun _=>?_) ?_
       ·exact hBy12
       clear hK K'
       (try simp only [Act.put,List.setIfInBounds_toArray,List.set_cons_zero,List.set_cons_succ])
       refine wpAnyS_take 6 (v:=?_) (by kernel_rfl) (by kernel_rfl) (by kernel_rfl) (by kernel_rfl) (fun _ _ _ _ h=>h) hBy12 ?_ ?_
       rotate_left
       ·(intro oi ho;simp at ho;subst ho;refine Or.inl ⟨by rfl,fun w' hw'=>?_⟩;go_simp;try with_reducible rfl)
       (intro d hd;simp at hd;subst hd;simp only [Act.put,List.setIfInBounds_toArray,List.set_cons_zero,List.set_cons_succ])
       refine wpAnyS_take 7 (v:=?_) (by kernel_rfl) (by kernel_rfl) (by kernel_rfl) (by kernel_rfl) (fun _ _ _ _ h=>h) hBy12 ?_ ?_
       rotate_left
       ·(intro oi ho;simp at ho;subst ho;refine Or.inl ⟨by rfl,fun w' hw'=>?_⟩;go_simp;try with_reducible rfl)
       (intro d hd;simp at hd;subst hd;simp only [Act.put,List.setIfInBounds_toArray,List.set_cons_zero,List.set_cons_succ])
       refine wpAnyS_take 8 (v:=?_) (by kernel_rfl) (by kernel_rfl) (by kernel_rfl) (by kernel_rfl) (fun _ _ _ _ h=>h) hBy12 ?_ ?_
       rotate_left
       ·(intro oi ho;simp at ho;subst ho;refine Or.inl ⟨by rfl,fun w' hw'=>?_⟩;go_simp;try with_reducible rfl)
       (intro d hd;simp at hd;subst hd;simp only [Act.put,List.setIfInBounds_toArray,List.set_cons_zero,List.set_cons_succ])
       refine wpAnyS_one 10 (by kernel_rfl) ?_
       (intro o10 ho K' hK;simp at ho;subst ho)
       obtain ⟨uX0,cX0⟩:∃ u,y12.cell? ⟨gX,0,none⟩=some u:=⟨_,by simp [World.cell?,EX.out.1];rfl⟩
       have fX0:y12.frozen? ⟨gX,0,none⟩=false:=by simp [World.frozen?,EX.out.1]
       obtain ⟨uX1,cX1⟩:∃ u,y12.cell? ⟨gX,1,none⟩=some u:=⟨_,by simp [World.cell?,EX.out.1];rfl⟩
       have fX1:y12.frozen? ⟨gX,1,none⟩=false:=by simp [World.frozen?,EX.out.1]
       go_simp
       refine hK.out _ _ (fun _=>?_) ?_
       ·exact ((hBy12.setCell (p:=⟨gX,0,none⟩) EX.out.2.2 _).setCell (p:=⟨gX,1,none⟩) EX.out.2.2 _)
       clear hK K'
       (try simp only [Act.put,List.setIfInBounds_toArray,List.set_cons_zero,List.set_cons_succ])
       obtain ⟨y13,hnew⟩:=zzN (((y12.setCell ⟨gX,0,none⟩ (.slice (some ⟨mb,mo,none⟩) n mc)).setCell ⟨gX,1,none⟩ (.slice (some ⟨pb,po,none⟩) n pc)))
       rw [hnew]
       have hBy13:Below wr.heap.size wr y13:=by rw [<- hnew];exact ((hBy12.setCell (p:=⟨gX,0,none⟩) EX.out.2.2 _).setCell (p:=⟨gX,1,none⟩) EX.out.2.2 _)
       have hbt:But (fun i=>i=gX) y12 y13:=by rw [<- hnew];exact (((But.refl (fun i=>i=gX) y12).setCell (p:=⟨gX,0,none⟩) (.inl rfl) _).setCell (p:=⟨gX,1,none⟩) (.inl rfl) _)
       have htg:∀ g,g=gX->tg10 g=1:=fun g e=>by rw [e];exact EX.out.2.1
       have EX:Hid (y13.heap[gX]? = some (.cells #[.slice (some ⟨mb,mo,none⟩) n mc,.slice (some ⟨pb,po,none⟩) n pc] 33 (0,0))/\tg10 gX=1/\wr.heap.size<=gX):=⟨by rw [<- hnew];exact (setCell_at' (setCell_at' EX.out.1)),EX.out.2⟩
       clear hnew hbt htg cX0 fX0 cX1 fX1
       refine wpAnyS_one 11 (by kernel_rfl) ?_
       (intro o11 ho K' hK;simp at ho;subst ho)
       go_simp
       refine hK.out _ _ (fun _=>?_) ?_
       ·exact hBy13
       clear hK K'
       (try simp only [Act.put,List.setIfInBounds_toArray,List.set_cons_zero,List.set_cons_succ])
       refine wpAnyS_done (by kernel_rfl) (NoPanic.normal ?_) _
       exact ⟨rfl,gX,by rfl,hBy13⟩
     rintro gX W7 hB7
     simp only [pQ,pN,pZ,pS]
     have hwr7:=zzT HB.out.2 hB7
     go_upto_region 5 with (fail)
     refine wp_region_noPanic ?_
     refine wp_region_S (fun w'=>Below W7.heap.size W7 w') (fun _=>false) (by kernel_rfl) ?_
     have hSd:(fun w'=>Below W7.heap.size W7 w') W7.drew:=Below.drew (Below.refl _ _)
     refine wpAnyS_take 0 (v:=?_) (by kernel_rfl) (by kernel_rfl) (by kernel_rfl) (by kernel_rfl) (fun _ _ _ _ h=>h) hSd ?_ ?_
     rotate_left
     ·(intro oi ho;simp at ho;subst ho;refine Or.inl ⟨by rfl,fun w' hw'=>?_⟩;go_simp;try with_reducible rfl)
     (intro d hd;simp at hd;subst hd;simp only [Act.put,List.setIfInBounds_toArray,List.set_cons_zero,List.set_cons_succ])
     refine wpAnyS_take 1 (v:=?_) (by kernel_rfl) (by kernel_rfl) (by kernel_rfl) (by kernel_rfl) (fun _ _ _ _ h=>h) hSd ?_ ?_
     rotate_left
     ·(intro oi ho;simp at ho;subst ho;refine Or.inl ⟨by rfl,fun w' hw'=>?_⟩;go_simp;try with_reducible rfl)
     (intro d hd;simp at hd;subst hd;simp only [Act.put,List.setIfInBounds_toArray,List.set_cons_zero,List.set_cons_succ])
     refine wpAnyS_take 2 (v:=?_) (by kernel_rfl) (by kernel_rfl) (by kernel_rfl) (by kernel_rfl) (fun _ _ _ _ h=>h) hSd ?_ ?_
     rotate_left
     ·(intro oi ho;simp at ho;subst ho;refine Or.inl ⟨by rfl,fun w' hw'=>?_⟩;go_simp;try with_reducible rfl)
     (intro d hd;simp at hd;subst hd;simp only [Act.put,List.setIfInBounds_toArray,List.set_cons_zero,List.set_cons_succ])
     refine wpAnyS_take 3 (v:=undef) (by kernel_rfl) (by kernel_rfl) (by kernel_rfl) (by kernel_rfl) (fun _ _ _ _ h=>h) hSd (fun oi ho=>by simp at ho;subst ho;exact Or.inr ⟨by rfl,rfl⟩) ?_
     (intro d hd;simp at hd;subst hd;simp only [Act.put,List.setIfInBounds_toArray,List.set_cons_zero,List.set_cons_succ])
     refine wpAnyS_take 4 (v:=undef) (by kernel_rfl) (by kernel_rfl) (by kernel_rfl) (by kernel_rfl) (fun _ _ _ _ h=>h) hSd (fun oi ho=>by simp at ho;subst ho;exact Or.inr ⟨by rfl,rfl⟩) ?_
     (intro d hd;simp at hd;subst hd;simp only [Act.put,List.setIfInBounds_toArray,List.set_cons_zero,List.set_cons_succ])
     refine wpAnyS_take 5 (v:=undef) (by kernel_rfl) (by kernel_rfl) (by kernel_rfl) (by kernel_rfl) (fun _ _ _ _ h=>h) hSd (fun oi ho=>by simp at ho;subst ho;exact Or.inr ⟨by rfl,rfl⟩) ?_
     (intro d hd;simp at hd;subst hd;simp only [Act.put,List.setIfInBounds_toArray,List.set_cons_zero,List.set_cons_succ])
     refine wpAnyS_take 6 (v:=undef) (by kernel_rfl) (by kernel_rfl) (by kernel_rfl) (by kernel_rfl) (fun _ _ _ _ h=>h) hSd (fun oi ho=>by simp at ho;subst ho;exact Or.inr ⟨by rfl,rfl⟩) ?_
     (intro d hd;simp at hd;subst hd;simp only [Act.put,List.setIfInBounds_toArray,List.set_cons_zero,List.set_cons_succ])
     refine wpAnyS_take 7 (v:=undef) (by kernel_rfl) (by kernel_rfl) (by kernel_rfl) (by kernel_rfl) (fun _ _ _ _ h=>h) hSd (fun oi ho=>by simp at ho;subst ho;exact Or.inr ⟨by rfl,rfl⟩) ?_
     (intro d hd;simp at hd;subst hd;simp only [Act.put,List.setIfInBounds_toArray,List.set_cons_zero,List.set_cons_succ])
     refine wpAnyS_take 8 (v:=undef) (by kernel_rfl) (by kernel_rfl) (by kernel_rfl) (by kernel_rfl) (fun _ _ _ _ h=>h) hSd (fun oi ho=>by simp at ho;subst ho;exact Or.inr ⟨by rfl,rfl⟩) ?_
     (intro d hd;simp at hd;subst hd;simp only [Act.put,List.setIfInBounds_toArray,List.set_cons_zero,List.set_cons_succ])
     refine wpAnyS_take 9 (v:=undef) (by kernel_rfl) (by kernel_rfl) (by kernel_rfl) (by kernel_rfl) (fun _ _ _ _ h=>h) hSd (fun oi ho=>by simp at ho;subst ho;exact Or.inr ⟨by rfl,rfl⟩) ?_
     (intro d hd;simp at hd;subst hd;simp only [Act.put,List.setIfInBounds_toArray,List.set_cons_zero,List.set_cons_succ])
     refine wpAnyS_take 10 (v:=undef) (by kernel_rfl) (by kernel_rfl) (by kernel_rfl) (by kernel_rfl) (fun _ _ _ _ h=>h) hSd (fun oi ho=>by simp at ho;subst ho;exact Or.inr ⟨by rfl,rfl⟩) ?_
     (intro d hd;simp at hd;subst hd;simp only [Act.put,List.setIfInBounds_toArray,List.set_cons_zero,List.set_cons_succ])
     refine wpAnyS_take 11 (v:=undef) (by kernel_rfl) (by kernel_rfl) (by kernel_rfl) (by kernel_rfl) (fun _ _ _ _ h=>h) hSd (fun oi ho=>by simp at ho;subst ho;exact Or.inr ⟨by rfl,rfl⟩) ?_
     (intro d hd;simp at hd;subst hd;simp only [Act.put,List.setIfInBounds_toArray,List.set_cons_zero,List.set_cons_succ])
     refine wpAnyS_take 12 (v:=undef) (by kernel_rfl) (by kernel_rfl) (by kernel_rfl) (by kernel_rfl) (fun _ _ _ _ h=>h) hSd (fun oi ho=>by simp at ho;subst ho;exact Or.inr ⟨by rfl,rfl⟩) ?_
     (intro d hd;simp at hd;subst hd;simp only [Act.put,List.setIfInBounds_toArray,List.set_cons_zero,List.set_cons_succ])
     refine wpAnyS_take 13 (v:=undef) (by kernel_rfl) (by kernel_rfl) (by kernel_rfl) (by kernel_rfl) (fun _ _ _ _ h=>h) hSd (fun oi ho=>by simp at ho;subst ho;exact Or.inr ⟨by rfl,rfl⟩) ?_
     (intro d hd;simp at hd;subst hd;simp only [Act.put,List.setIfInBounds_toArray,List.set_cons_zero,List.set_cons_succ])
     refine wpAnyS_take 14 (v:=?_) (by kernel_rfl) (by kernel_rfl) (by kernel_rfl) (by kernel_rfl) (fun _ _ _ _ h=>h) hSd ?_ ?_
     rotate_left
     ·(intro oi ho;simp at ho;subst ho;refine Or.inl ⟨by rfl,fun w' hw'=>?_⟩;go_simp;try with_reducible rfl)
     (intro d hd;simp at hd;subst hd;simp only [Act.put,List.setIfInBounds_toArray,List.set_cons_zero,List.set_cons_succ])
     refine wpAnyS_take 15 (v:=?_) (by kernel_rfl) (by kernel_rfl) (by kernel_rfl) (by kernel_rfl) (fun _ _ _ _ h=>h) hSd ?_ ?_
     rotate_left
     ·(intro oi ho;simp at ho;subst ho;refine Or.inl ⟨by rfl,fun w' hw'=>?_⟩;go_simp;try with_reducible rfl)
     (intro d hd;simp at hd;subst hd;simp only [Act.put,List.setIfInBounds_toArray,List.set_cons_zero,List.set_cons_succ])
     refine wpAnyS_take 16 (v:=undef) (by kernel_rfl) (by kernel_rfl) (by kernel_rfl) (by kernel_rfl) (fun _ _ _ _ h=>h) hSd (fun oi ho=>by simp at ho;subst ho;exact Or.inr ⟨by rfl,rfl⟩) ?_
     (intro d hd;simp at hd;subst hd;simp only [Act.put,List.setIfInBounds_toArray,List.set_cons_zero,List.set_cons_succ])
     refine wpAnyS_take 17 (v:=undef) (by kernel_rfl) (by kernel_rfl) (by kernel_rfl) (by kernel_rfl) (fun _ _ _ _ h=>h) hSd (fun oi ho=>by simp at ho;subst ho;exact Or.inr ⟨by rfl,rfl⟩) ?_
     (intro d hd;simp at hd;subst hd;simp only [Act.put,List.setIfInBounds_toArray,List.set_cons_zero,List.set_cons_succ])
     refine wpAnyS_take 18 (v:=undef) (by kernel_rfl) (by kernel_rfl) (by kernel_rfl) (by kernel_rfl) (fun _ _ _ _ h=>h) hSd (fun oi ho=>by simp at ho;subst ho;exact Or.inr ⟨by rfl,rfl⟩) ?_
     (intro d hd;simp at hd;subst hd;simp only [Act.put,List.setIfInBounds_toArray,List.set_cons_zero,List.set_cons_succ])
     refine wpAnyS_take 19 (v:=undef) (by kernel_rfl) (by kernel_rfl) (by kernel_rfl) (by kernel_rfl) (fun _ _ _ _ h=>h) hSd (fun oi ho=>by simp at ho;subst ho;exact Or.inr ⟨by rfl,rfl⟩) ?_
     (intro d hd;simp at hd;subst hd;simp only [Act.put,List.setIfInBounds_toArray,List.set_cons_zero,List.set_cons_succ])
     refine wpAnyS_take 20 (v:=undef) (by kernel_rfl) (by kernel_rfl) (by kernel_rfl) (by kernel_rfl) (fun _ _ _ _ h=>h) hSd (fun oi ho=>by simp at ho;subst ho;exact Or.inr ⟨by rfl,rfl⟩) ?_
     (intro d hd;simp at hd;subst hd;simp only [Act.put,List.setIfInBounds_toArray,List.set_cons_zero,List.set_cons_succ])
     refine wpAnyS_take 21 (v:=undef) (by kernel_rfl) (by kernel_rfl) (by kernel_rfl) (by kernel_rfl) (fun _ _ _ _ h=>h) hSd (fun oi ho=>by simp at ho;subst ho;exact Or.inr ⟨by rfl,rfl⟩) ?_
     (intro d hd;simp at hd;subst hd;simp only [Act.put,List.setIfInBounds_toArray,List.set_cons_zero,List.set_cons_succ])
     refine wpAnyS_take 22 (v:=undef) (by kernel_rfl) (by kernel_rfl) (by kernel_rfl) (by kernel_rfl) (fun _ _ _ _ h=>h) hSd (fun oi ho=>by simp at ho;subst ho;exact Or.inr ⟨by rfl,rfl⟩) ?_
     (intro d hd;simp at hd;subst hd;simp only [Act.put,List.setIfInBounds_toArray,List.set_cons_zero,List.set_cons_succ])
     refine wpAnyS_take 23 (v:=undef) (by kernel_rfl) (by kernel_rfl) (by kernel_rfl) (by kernel_rfl) (fun _ _ _ _ h=>h) hSd (fun oi ho=>by simp at ho;subst ho;exact Or.inr ⟨by rfl,rfl⟩) ?_
     (intro d hd;simp at hd;subst hd;simp only [Act.put,List.setIfInBounds_toArray,List.set_cons_zero,List.set_cons_succ])
     refine wpAnyS_take 24 (v:=undef) (by kernel_rfl) (by kernel_rfl) (by kernel_rfl) (by kernel_rfl) (fun _ _ _ _ h=>h) hSd (fun oi ho=>by simp at ho;subst ho;exact Or.inr ⟨by rfl,rfl⟩) ?_
     (intro d hd;simp at hd;subst hd;simp only [Act.put,List.setIfInBounds_toArray,List.set_cons_zero,List.set_cons_succ])
     refine wpAnyS_take 25 (v:=undef) (by kernel_rfl) (by kernel_rfl) (by kernel_rfl) (by kernel_rfl) (fun _ _ _ _ h=>h) hSd (fun oi ho=>by simp at ho;subst ho;exact Or.inr ⟨by rfl,rfl⟩) ?_
     (intro d hd;simp at hd;subst hd;simp only [Act.put,List.setIfInBounds_toArray,List.set_cons_zero,List.set_cons_succ])
     refine wpAnyS_take 26 (v:=undef) (by kernel_rfl) (by kernel_rfl) (by kernel_rfl) (by kernel_rfl) (fun _ _ _ _ h=>h) hSd (fun oi ho=>by simp at ho;subst ho;exact Or.inr ⟨by rfl,rfl⟩) ?_
     (intro d hd;simp at hd;subst hd;simp only [Act.put,List.setIfInBounds_toArray,List.set_cons_zero,List.set_cons_succ])
     refine wpAnyS_take 27 (v:=?_) (by kernel_rfl) (by kernel_rfl) (by kernel_rfl) (by kernel_rfl) (fun _ _ _ _ h=>h) hSd ?_ ?_
     rotate_left
     ·(intro oi ho;simp at ho;subst ho;refine Or.inl ⟨by rfl,fun w' hw'=>?_⟩;go_simp;try with_reducible rfl)
     (intro d hd;simp at hd;subst hd;simp only [Act.put,List.setIfInBounds_toArray,List.set_cons_zero,List.set_cons_succ])
     refine wpAnyS_done (by kernel_rfl) (NoPanic.normal ?_) _
     have E:=Lib.hid (show decide (followsTo t b v v.length)=false by
      rw [decide_eq_false_iff_not]
      intro h
      have h1:=HF.out.2.1;have h2:=HF.out.2.2.1
      have h3:=h n HF.out.2.2.2.2.1 (by omega)
      rw [HF.out.2.2.2.2.2.2,HO.out,HF.out.2.2.2.2.2.1] at h3
      simp at h3)
     have HB7:=Lib.hid hwr7
     clear hSd hB7 hwr7 KEY
     go_wp2_with fail
     go_ret
     exact ⟨by rw [E.out];rfl,HB7.out.drew⟩
   | some xx =>
     obtain ⟨m,zz⟩:=xx
     have CRS:=Lib.hid (fun (y:World) (hy:Below wr.heap.size wr y)=>(show Calls Tryz.prog 76 #[.agg #[.slice ta t.args.length tc],.agg #[str q0,.int .i64 vi,.slice a2 q2 c2,.slice a3 q3 c3],.agg #[.slice (some ⟨mb,mo,none⟩) n mc,.slice (some ⟨pb,po,none⟩) n pc]] y (fun en w'=>∃ r1 e1 r2 e2,en=.returned (.tuple #[.agg #[.slice r1 (n+1) e1,.slice r2 (n+1) e2],.bool true])/\Below y.heap.size y w'/\PlayAt w' (v.take n++[(m,zz)]) (.slice r1 (n+1) e1) (.slice r2 (n+1) e2)) from by
      refine (CRE y hy).mono ?_
      rintro en w' ⟨r1,m1,e1,r2,m2,e2,rfl,hb,_,hyes⟩
      obtain ⟨hp,_⟩:=hyes _ ho
      obtain ⟨_,_,q1⟩:=hp.1.slice
      obtain ⟨_,_,q2⟩:=hp.2.slice
      simp only [Value.slice.injEq] at q1 q2
      have l1:(v.take n++[(m,zz)]).length=n+1:=by rw [List.length_append,HLT.out];rfl
      obtain rfl:m1=n+1:=q1.2.1.trans l1
      obtain rfl:m2=n+1:=q2.2.1.trans l1
      rw [ho];exact ⟨r1,e1,r2,e2,rfl,hb,hp⟩))
     clear CRE ho
     go_upto_region 4 with (fail)
     clear d0 d1
     refine cut_code (X:=Option Addr×Nat×Option Addr×Nat×Nat) (fun zx x=>(((((((((((zx.put (some 18) (.agg #[.slice ta t.args.length tc])).put (some 19) (.agg #[str q0,.int .i64 vi,.slice a2 q2 c2,.slice a3 q3 c3])).put (some 20) (.agg #[.slice (some ⟨mb,mo,none⟩) v.length mc,.slice (some ⟨pb,po,none⟩) v.length pc])).put (some 21) (.int .i64 (n:Nat))).put (some 22) (.agg #[.slice (some ⟨mb,mo,none⟩) n mc,.slice (some ⟨pb,po,none⟩) n pc])).put (some 23) (.tuple #[.agg #[.slice x.1 (n+1) x.2.1,.slice x.2.2.1 (n+1) x.2.2.2.1],.bool true])).put (some 17) (.tuple #[.agg #[.slice x.1 (n+1) x.2.1,.slice x.2.2.1 (n+1) x.2.2.2.1],.bool true])).put (some 24) (.agg #[.slice x.1 (n+1) x.2.1,.slice x.2.2.1 (n+1) x.2.2.2.1])).put (some 25) (.bool true)).put (some 8) (.pointer (some ⟨x.2.2.2.2,0,none⟩))).put (some 9) (.bool true))) (fun x w7=>Below wr.heap.size wr w7/\w7.heap[x.2.2.2.2]? = some (.cells #[.slice x.1 (n+1) x.2.1,.slice x.2.2.1 (n+1) x.2.2.2.1] 33 (0,0))/\PlayAt w7 (v.take n++[(m,zz)]) (.slice x.1 (n+1) x.2.1) (.slice x.2.2.1 (n+1) x.2.2.2.1)) ?_ ?_
     ·refine wp_region_noPanic ?_
      refine wp_region_S (fun w'=>Below wr.heap.size wr w') (fun _=>false) (by kernel_rfl) ?_
      obtain ⟨y0,hy0⟩:=zzN (wr.drew)
      rw [hy0]
      have hBy0:Below wr.heap.size wr y0:=by rw [<- hy0];exact Below.drew (Below.refl _ _)
      obtain ⟨tg0,htg0⟩:∃ x:Nat->Nat,x=fun _=>0:=⟨_,rfl⟩
      clear hy0 htg0
      refine wpAnyS_take 0 (v:=?_) (by kernel_rfl) (by kernel_rfl) (by kernel_rfl) (by kernel_rfl) (fun _ _ _ _ h=>h) hBy0 ?_ ?_
      rotate_left
      ·(intro oi ho;simp at ho;subst ho;refine Or.inl ⟨by rfl,fun w' hw'=>?_⟩;have e0:=(KEY.out w' hw').2.2.2.1;go_simp;try with_reducible rfl)
      (intro d hd;simp at hd;subst hd;simp only [Act.put,List.setIfInBounds_toArray,List.set_cons_zero,List.set_cons_succ])
      refine wpAnyS_take 1 (v:=?_) (by kernel_rfl) (by kernel_rfl) (by kernel_rfl) (by kernel_rfl) (fun _ _ _ _ h=>h) hBy0 ?_ ?_
      rotate_left
      ·(intro oi ho;simp at ho;subst ho;refine Or.inl ⟨by rfl,fun w' hw'=>?_⟩;obtain ⟨_,_,_,_,e0,e1,e2,e3⟩:=KEY.out w' hw';go_simp;try with_reducible rfl)
      (intro d hd;simp at hd;subst hd;simp only [Act.put,List.setIfInBounds_toArray,List.set_cons_zero,List.set_cons_succ])
      refine wpAnyS_take 2 (v:=?_) (by kernel_rfl) (by kernel_rfl) (by kernel_rfl) (by kernel_rfl) (fun _ _ _ _ h=>h) hBy0 ?_ ?_
      rotate_left
      ·(intro oi ho;simp at ho;subst ho;refine Or.inl ⟨by rfl,fun w' hw'=>?_⟩;obtain ⟨e0,e1⟩:=(KEY.out w' hw').1;go_simp;try with_reducible rfl)
      (intro d hd;simp at hd;subst hd;simp only [Act.put,List.setIfInBounds_toArray,List.set_cons_zero,List.set_cons_succ])
      refine wpAnyS_take 3 (v:=?_) (by kernel_rfl) (by kernel_rfl) (by kernel_rfl) (by kernel_rfl) (fun _ _ _ _ h=>h) hBy0 ?_ ?_
      rotate_left
      ·(intro oi ho;simp at ho;subst ho;refine Or.inl ⟨by rfl,fun w' hw'=>?_⟩;go_simp;try with_reducible rfl)
      (intro d hd;simp at hd;subst hd;simp only [Act.put,List.setIfInBounds_toArray,List.set_cons_zero,List.set_cons_succ])
      refine wpAnyS_two 4 9 (by kernel_rfl) ?_ ?_
      ·(intro o4 ho K' hK;simp at ho;subst ho)
       go_simp
       go_at_call 116
       (with_reducible refine (CCU.out _).mono ?_)
       rintro en y1 ⟨rfl,hb⟩
       have hBy1:Below wr.heap.size wr y1:=zzT hBy0 hb
       have hby1:=Lib.hid hb;clear hb
       refine hK.out _ _ (fun _=>?_) ?_
       ·exact hBy1
       clear hK K'
       (try simp only [Act.put,List.setIfInBounds_toArray,List.set_cons_zero,List.set_cons_succ])
       refine wpAnyS_two 5 9 (by kernel_rfl) ?_ ?_
       ·(intro o5 ho K' hK;simp at ho;subst ho)
        go_simp
        go_at_call 76
        (with_reducible refine (CRS.out _ hBy1).mono ?_)
        rintro en y2 ⟨r1,e1,r2,e2,rfl,hb,hp⟩
        have CP:Hid (PlayAt y2 (v.take n++[(m,zz)]) (.slice r1 (n+1) e1) (.slice r2 (n+1) e2)):=hp
        clear hp
        have hBy2:Below wr.heap.size wr y2:=zzT hBy1 hb
        have hby2:=Lib.hid hb;clear hb
        refine hK.out _ _ (fun _=>?_) ?_
        ·exact hBy2
        clear hK K'
        (try simp only [Act.put,List.setIfInBounds_toArray,List.set_cons_zero,List.set_cons_succ])
        refine wpAnyS_take 6 (v:=?_) (by kernel_rfl) (by kernel_rfl) (by kernel_rfl) (by kernel_rfl) (fun _ _ _ _ h=>h) hBy2 ?_ ?_
        rotate_left
        ·(intro oi ho;simp at ho;subst ho;refine Or.inl ⟨by rfl,fun w' hw'=>?_⟩;go_simp;try with_reducible rfl)
        (intro d hd;simp at hd;subst hd;simp only [Act.put,List.setIfInBounds_toArray,List.set_cons_zero,List.set_cons_succ])
        refine wpAnyS_take 7 (v:=?_) (by kernel_rfl) (by kernel_rfl) (by kernel_rfl) (by kernel_rfl) (fun _ _ _ _ h=>h) hBy2 ?_ ?_
        rotate_left
        ·(intro oi ho;simp at ho;subst ho;refine Or.inl ⟨by rfl,fun w' hw'=>?_⟩;go_simp;try with_reducible rfl)
        (intro d hd;simp at hd;subst hd;simp only [Act.put,List.setIfInBounds_toArray,List.set_cons_zero,List.set_cons_succ])
        refine wpAnyS_take 8 (v:=?_) (by kernel_rfl) (by kernel_rfl) (by kernel_rfl) (by kernel_rfl) (fun _ _ _ _ h=>h) hBy2 ?_ ?_
        rotate_left
        ·(intro oi ho;simp at ho;subst ho;refine Or.inl ⟨by rfl,fun w' hw'=>?_⟩;go_simp;try with_reducible rfl)
        (intro d hd;simp at hd;subst hd;simp only [Act.put,List.setIfInBounds_toArray,List.set_cons_zero,List.set_cons_succ])
        refine wpAnyS_one 9 (by kernel_rfl) ?_
        (intro o9 ho K' hK;simp at ho;subst ho)
        go_simp
        refine hK.out _ _ (fun _=>?_) ?_
        ·exact hBy2.alloc hBy2.size _
        clear hK K'
        (try simp only [Act.put,List.setIfInBounds_toArray,List.set_cons_zero,List.set_cons_succ])
        obtain ⟨y3,hnew⟩:=zzN (y2.alloc (.cells #[.slice none 0 0,.slice none 0 0] 33))
        obtain ⟨gX,hgX⟩:=zzN (y2.heap.size)
        rw [hnew,hgX]
        have hBy3:Below wr.heap.size wr y3:=by rw [<- hnew];exact hBy2.alloc hBy2.size _
        obtain ⟨tg3,htg⟩:=zzN (retag tg0 gX 1)
        have CP:Hid (PlayAt y3 (v.take n++[(m,zz)]) (.slice r1 (n+1) e1) (.slice r2 (n+1) e2)):=by rw [<- hnew];exact CP.out.below ((Below.refl _ _).alloc (Nat.le_refl _) _)
        have EX:Hid (y3.heap[gX]? = some (.cells #[.slice none 0 0,.slice none 0 0] 33 (0,0))/\tg3 gX=1/\wr.heap.size<=gX):=by rw [<- hnew,<- htg,<- hgX];exact ⟨heap_new _ _,by unfold retag;rw [if_pos rfl],hBy2.size⟩
        clear hnew hgX htg
        refine wpAnyS_one 10 (by kernel_rfl) ?_
        (intro o10 ho K' hK;simp at ho;subst ho)
        obtain ⟨uX0,cX0⟩:∃ u,y3.cell? ⟨gX,0,none⟩=some u:=⟨_,by simp [World.cell?,EX.out.1];rfl⟩
        have fX0:y3.frozen? ⟨gX,0,none⟩=false:=by simp [World.frozen?,EX.out.1]
        obtain ⟨uX1,cX1⟩:∃ u,y3.cell? ⟨gX,1,none⟩=some u:=⟨_,by simp [World.cell?,EX.out.1];rfl⟩
        have fX1:y3.frozen? ⟨gX,1,none⟩=false:=by simp [World.frozen?,EX.out.1]
        go_simp
        refine hK.out _ _ (fun _=>?_) ?_
        ·exact ((hBy3.setCell (p:=⟨gX,0,none⟩) EX.out.2.2 _).setCell (p:=⟨gX,1,none⟩) EX.out.2.2 _)
        clear hK K'
        (try simp only [Act.put,List.setIfInBounds_toArray,List.set_cons_zero,List.set_cons_succ])
        obtain ⟨y4,hnew⟩:=zzN (((y3.setCell ⟨gX,0,none⟩ (.slice r1 (n+1) e1)).setCell ⟨gX,1,none⟩ (.slice r2 (n+1) e2)))
        rw [hnew]
        have hBy4:Below wr.heap.size wr y4:=by rw [<- hnew];exact ((hBy3.setCell (p:=⟨gX,0,none⟩) EX.out.2.2 _).setCell (p:=⟨gX,1,none⟩) EX.out.2.2 _)
        have hbt:But (fun i=>i=gX) y3 y4:=by rw [<- hnew];exact (((But.refl (fun i=>i=gX) y3).setCell (p:=⟨gX,0,none⟩) (.inl rfl) _).setCell (p:=⟨gX,1,none⟩) (.inl rfl) _)
        have htg:∀ g,g=gX->tg3 g=1:=fun g e=>by rw [e];exact EX.out.2.1
        have CP:Hid (PlayAt y4 (v.take n++[(m,zz)]) (.slice r1 (n+1) e1) (.slice r2 (n+1) e2)):=CP.out.but hbt (CP.out.notBox EX.out.1 (by decide) (by decide))
        have EX:Hid (y4.heap[gX]? = some (.cells #[.slice r1 (n+1) e1,.slice r2 (n+1) e2] 33 (0,0))/\tg3 gX=1/\wr.heap.size<=gX):=⟨by rw [<- hnew];exact (setCell_at' (setCell_at' EX.out.1)),EX.out.2⟩
        clear hnew hbt htg cX0 fX0 cX1 fX1
        refine wpAnyS_one 11 (by kernel_rfl) ?_
        (intro o11 ho K' hK;simp at ho;subst ho)
        go_simp
        refine hK.out _ _ (fun _=>?_) ?_
        ·exact hBy4
        clear hK K'
        (try simp only [Act.put,List.setIfInBounds_toArray,List.set_cons_zero,List.set_cons_succ])
        refine wpAnyS_done (by kernel_rfl) (NoPanic.normal ?_) _
        exact ⟨rfl,⟨r1,e1,r2,e2,gX⟩,by rfl,hBy4,EX.out.1,CP.out⟩
       ·(intro o9 ho K' hK;simp at ho;subst ho)
        go_simp
        refine hK.out _ _ (fun _=>?_) ?_
        ·exact hBy1.alloc hBy1.size _
        clear hK K'
        (try simp only [Act.put,List.setIfInBounds_toArray,List.set_cons_zero,List.set_cons_succ])
        obtain ⟨y6,hnew⟩:=zzN (y1.alloc (.cells #[.slice none 0 0,.slice none 0 0] 33))
        obtain ⟨gX,hgX⟩:=zzN (y1.heap.size)
        rw [hnew,hgX]
        have hBy6:Below wr.heap.size wr y6:=by rw [<- hnew];exact hBy1.alloc hBy1.size _
        obtain ⟨tg6,htg⟩:=zzN (retag tg0 gX 1)
        have EX:Hid (y6.heap[gX]? = some (.cells #[.slice none 0 0,.slice none 0 0] 33 (0,0))/\tg6 gX=1/\wr.heap.size<=gX):=by rw [<- hnew,<- htg,<- hgX];exact ⟨heap_new _ _,by unfold retag;rw [if_pos rfl],hBy1.size⟩
        clear hnew hgX htg
        refine wpAnyS_one 5 (by kernel_rfl) ?_
        (intro o5 ho K' hK;simp at ho;subst ho)
        go_simp
        go_at_call 76
        (with_reducible refine (CRS.out _ hBy6).mono ?_)
        rintro en y7 ⟨r1,e1,r2,e2,rfl,hb,hp⟩
        have CP:Hid (PlayAt y7 (v.take n++[(m,zz)]) (.slice r1 (n+1) e1) (.slice r2 (n+1) e2)):=hp
        clear hp
        have hBy7:Below wr.heap.size wr y7:=zzT hBy6 hb
        have EX:Hid (y7.heap[gX]? = some (.cells #[.slice none 0 0,.slice none 0 0] 33 (0,0))/\tg6 gX=1/\wr.heap.size<=gX):=⟨(hb.block _ (lt_of_heap EX.out.1)).trans EX.out.1,EX.out.2⟩
        have hby7:=Lib.hid hb;clear hb
        refine hK.out _ _ (fun _=>?_) ?_
        ·exact hBy7
        clear hK K'
        (try simp only [Act.put,List.setIfInBounds_toArray,List.set_cons_zero,List.set_cons_succ])
        refine wpAnyS_take 6 (v:=?_) (by kernel_rfl) (by kernel_rfl) (by kernel_rfl) (by kernel_rfl) (fun _ _ _ _ h=>h) hBy7 ?_ ?_
        rotate_left
        ·(intro oi ho;simp at ho;subst ho;refine Or.inl ⟨by rfl,fun w' hw'=>?_⟩;go_simp;try with_reducible rfl)
        (intro d hd;simp at hd;subst hd;simp only [Act.put,List.setIfInBounds_toArray,List.set_cons_zero,List.set_cons_succ])
        refine wpAnyS_take 7 (v:=?_) (by kernel_rfl) (by kernel_rfl) (by kernel_rfl) (by kernel_rfl) (fun _ _ _ _ h=>h) hBy7 ?_ ?_
        rotate_left
        ·(intro oi ho;simp at ho;subst ho;refine Or.inl ⟨by rfl,fun w' hw'=>?_⟩;go_simp;try with_reducible rfl)
        (intro d hd;simp at hd;subst hd;simp only [Act.put,List.setIfInBounds_toArray,List.set_cons_zero,List.set_cons_succ])
        refine wpAnyS_take 8 (v:=?_) (by kernel_rfl) (by kernel_rfl) (by kernel_rfl) (by kernel_rfl) (fun _ _ _ _ h=>h) hBy7 ?_ ?_
        rotate_left
        ·(intro oi ho;simp at ho;subst ho;refine Or.inl ⟨by rfl,fun w' hw'=>?_⟩;go_simp;try with_reducible rfl)
        (intro d hd;simp at hd;subst hd;simp only [Act.put,List.setIfInBounds_toArray,List.set_cons_zero,List.set_cons_succ])
        refine wpAnyS_one 10 (by kernel_rfl) ?_
        (intro o10 ho K' hK;simp at ho;subst ho)
        obtain ⟨uX0,cX0⟩:∃ u,y7.cell? ⟨gX,0,none⟩=some u:=⟨_,by simp [World.cell?,EX.out.1];rfl⟩
        have fX0:y7.frozen? ⟨gX,0,none⟩=false:=by simp [World.frozen?,EX.out.1]
        obtain ⟨uX1,cX1⟩:∃ u,y7.cell? ⟨gX,1,none⟩=some u:=⟨_,by simp [World.cell?,EX.out.1];rfl⟩
        have fX1:y7.frozen? ⟨gX,1,none⟩=false:=by simp [World.frozen?,EX.out.1]
        go_simp
        refine hK.out _ _ (fun _=>?_) ?_
        ·exact ((hBy7.setCell (p:=⟨gX,0,none⟩) EX.out.2.2 _).setCell (p:=⟨gX,1,none⟩) EX.out.2.2 _)
        clear hK K'
        (try simp only [Act.put,List.setIfInBounds_toArray,List.set_cons_zero,List.set_cons_succ])
        obtain ⟨y8,hnew⟩:=zzN (((y7.setCell ⟨gX,0,none⟩ (.slice r1 (n+1) e1)).setCell ⟨gX,1,none⟩ (.slice r2 (n+1) e2)))
        rw [hnew]
        have hBy8:Below wr.heap.size wr y8:=by rw [<- hnew];exact ((hBy7.setCell (p:=⟨gX,0,none⟩) EX.out.2.2 _).setCell (p:=⟨gX,1,none⟩) EX.out.2.2 _)
        have hbt:But (fun i=>i=gX) y7 y8:=by rw [<- hnew];exact (((But.refl (fun i=>i=gX) y7).setCell (p:=⟨gX,0,none⟩) (.inl rfl) _).setCell (p:=⟨gX,1,none⟩) (.inl rfl) _)
        have htg:∀ g,g=gX->tg6 g=1:=fun g e=>by rw [e];exact EX.out.2.1
        have CP:Hid (PlayAt y8 (v.take n++[(m,zz)]) (.slice r1 (n+1) e1) (.slice r2 (n+1) e2)):=CP.out.but hbt (CP.out.notBox EX.out.1 (by decide) (by decide))
        have EX:Hid (y8.heap[gX]? = some (.cells #[.slice r1 (n+1) e1,.slice r2 (n+1) e2] 33 (0,0))/\tg6 gX=1/\wr.heap.size<=gX):=⟨by rw [<- hnew];exact (setCell_at' (setCell_at' EX.out.1)),EX.out.2⟩
        clear hnew hbt htg cX0 fX0 cX1 fX1
        refine wpAnyS_one 11 (by kernel_rfl) ?_
        (intro o11 ho K' hK;simp at ho;subst ho)
        go_simp
        refine hK.out _ _ (fun _=>?_) ?_
        ·exact hBy8
        clear hK K'
        (try simp only [Act.put,List.setIfInBounds_toArray,List.set_cons_zero,List.set_cons_succ])
        refine wpAnyS_done (by kernel_rfl) (NoPanic.normal ?_) _
        exact ⟨rfl,⟨r1,e1,r2,e2,gX⟩,by rfl,hBy8,EX.out.1,CP.out⟩
      ·(intro o9 ho K' hK;simp at ho;subst ho)
       go_simp
       refine hK.out _ _ (fun _=>?_) ?_
       ·exact hBy0.alloc hBy0.size _
       clear hK K'
       (try simp only [Act.put,List.setIfInBounds_toArray,List.set_cons_zero,List.set_cons_succ])
       obtain ⟨y10,hnew⟩:=zzN (y0.alloc (.cells #[.slice none 0 0,.slice none 0 0] 33))
       obtain ⟨gX,hgX⟩:=zzN (y0.heap.size)
       rw [hnew,hgX]
       have hBy10:Below wr.heap.size wr y10:=by rw [<- hnew];exact hBy0.alloc hBy0.size _
       obtain ⟨tg10,htg⟩:=zzN (retag tg0 gX 1)
       have EX:Hid (y10.heap[gX]? = some (.cells #[.slice none 0 0,.slice none 0 0] 33 (0,0))/\tg10 gX=1/\wr.heap.size<=gX):=by rw [<- hnew,<- htg,<- hgX];exact ⟨heap_new _ _,by unfold retag;rw [if_pos rfl],hBy0.size⟩
       clear hnew hgX htg
       refine wpAnyS_one 4 (by kernel_rfl) ?_
       (intro o4 ho K' hK;simp at ho;subst ho)
       go_simp
       go_at_call 116
       (with_reducible refine (CCU.out _).mono ?_)
       rintro en y11 ⟨rfl,hb⟩
       have hBy11:Below wr.heap.size wr y11:=zzT hBy10 hb
       have EX:Hid (y11.heap[gX]? = some (.cells #[.slice none 0 0,.slice none 0 0] 33 (0,0))/\tg10 gX=1/\wr.heap.size<=gX):=⟨(hb.block _ (lt_of_heap EX.out.1)).trans EX.out.1,EX.out.2⟩
       have hby11:=Lib.hid hb;clear hb
       refine hK.out _ _ (fun _=>?_) ?_
       ·exact hBy11
       clear hK K'
       (try simp only [Act.put,List.setIfInBounds_toArray,List.set_cons_zero,List.set_cons_succ])
       refine wpAnyS_one 5 (by kernel_rfl) ?_
       (intro o5 ho K' hK;simp at ho;subst ho)
       go_simp
       go_at_call 76
       (with_reducible refine (CRS.out _ hBy11).mono ?_)
       rintro en y12 ⟨r1,e1,r2,e2,rfl,hb,hp⟩
       have CP:Hid (PlayAt y12 (v.take n++[(m,zz)]) (.slice r1 (n+1) e1) (.slice r2 (n+1) e2)):=hp
       clear hp
       have hBy12:Below wr.heap.size wr y12:=zzT hBy11 hb
       have EX:Hid (y12.heap[gX]? = some (.cells #[.slice none 0 0,.slice none 0 0] 33 (0,0))/\tg10 gX=1/\wr.heap.size<=gX):=⟨(hb.block _ (lt_of_heap EX.out.1)).trans EX.out.1,EX.out.2⟩
       have hby12:=Lib.hid hb;clear hb
       refine hK.out _ _ (fun _=>?_) ?_
       ·exact hBy12
       clear hK K'
       (try simp only [Act.put,List.setIfInBounds_toArray,List.set_cons_zero,List.set_cons_succ])
       refine wpAnyS_take 6 (v:=?_) (by kernel_rfl) (by kernel_rfl) (by kernel_rfl) (by kernel_rfl) (fun _ _ _ _ h=>h) hBy12 ?_ ?_
       rotate_left
       ·(intro oi ho;simp at ho;subst ho;refine Or.inl ⟨by rfl,fun w' hw'=>?_⟩;go_simp;try with_reducible rfl)
       (intro d hd;simp at hd;subst hd;simp only [Act.put,List.setIfInBounds_toArray,List.set_cons_zero,List.set_cons_succ])
       refine wpAnyS_take 7 (v:=?_) (by kernel_rfl) (by kernel_rfl) (by kernel_rfl) (by kernel_rfl) (fun _ _ _ _ h=>h) hBy12 ?_ ?_
       rotate_left
       ·(intro oi ho;simp at ho;subst ho;refine Or.inl ⟨by rfl,fun w' hw'=>?_⟩;go_simp;try with_reducible rfl)
       (intro d hd;simp at hd;subst hd;simp only [Act.put,List.setIfInBounds_toArray,List.set_cons_zero,List.set_cons_succ])
       refine wpAnyS_take 8 (v:=?_) (by kernel_rfl) (by kernel_rfl) (by kernel_rfl) (by kernel_rfl) (fun _ _ _ _ h=>h) hBy12 ?_ ?_
       rotate_left
       ·(intro oi ho;simp at ho;subst ho;refine Or.inl ⟨by rfl,fun w' hw'=>?_⟩;go_simp;try with_reducible rfl)
       (intro d hd;simp at hd;subst hd;simp only [Act.put,List.setIfInBounds_toArray,List.set_cons_zero,List.set_cons_succ])
       refine wpAnyS_one 10 (by kernel_rfl) ?_
       (intro o10 ho K' hK;simp at ho;subst ho)
       obtain ⟨uX0,cX0⟩:∃ u,y12.cell? ⟨gX,0,none⟩=some u:=⟨_,by simp [World.cell?,EX.out.1];rfl⟩
       have fX0:y12.frozen? ⟨gX,0,none⟩=false:=by simp [World.frozen?,EX.out.1]
       obtain ⟨uX1,cX1⟩:∃ u,y12.cell? ⟨gX,1,none⟩=some u:=⟨_,by simp [World.cell?,EX.out.1];rfl⟩
       have fX1:y12.frozen? ⟨gX,1,none⟩=false:=by simp [World.frozen?,EX.out.1]
       go_simp
       refine hK.out _ _ (fun _=>?_) ?_
       ·exact ((hBy12.setCell (p:=⟨gX,0,none⟩) EX.out.2.2 _).setCell (p:=⟨gX,1,none⟩) EX.out.2.2 _)
       clear hK K'
       (try simp only [Act.put,List.setIfInBounds_toArray,List.set_cons_zero,List.set_cons_succ])
       obtain ⟨y13,hnew⟩:=zzN (((y12.setCell ⟨gX,0,none⟩ (.slice r1 (n+1) e1)).setCell ⟨gX,1,none⟩ (.slice r2 (n+1) e2)))
       rw [hnew]
       have hBy13:Below wr.heap.size wr y13:=by rw [<- hnew];exact ((hBy12.setCell (p:=⟨gX,0,none⟩) EX.out.2.2 _).setCell (p:=⟨gX,1,none⟩) EX.out.2.2 _)
       have hbt:But (fun i=>i=gX) y12 y13:=by rw [<- hnew];exact (((But.refl (fun i=>i=gX) y12).setCell (p:=⟨gX,0,none⟩) (.inl rfl) _).setCell (p:=⟨gX,1,none⟩) (.inl rfl) _)
       have htg:∀ g,g=gX->tg10 g=1:=fun g e=>by rw [e];exact EX.out.2.1
       have CP:Hid (PlayAt y13 (v.take n++[(m,zz)]) (.slice r1 (n+1) e1) (.slice r2 (n+1) e2)):=CP.out.but hbt (CP.out.notBox EX.out.1 (by decide) (by decide))
       have EX:Hid (y13.heap[gX]? = some (.cells #[.slice r1 (n+1) e1,.slice r2 (n+1) e2] 33 (0,0))/\tg10 gX=1/\wr.heap.size<=gX):=⟨by rw [<- hnew];exact (setCell_at' (setCell_at' EX.out.1)),EX.out.2⟩
       clear hnew hbt htg cX0 fX0 cX1 fX1
       refine wpAnyS_one 11 (by kernel_rfl) ?_
       (intro o11 ho K' hK;simp at ho;subst ho)
       go_simp
       refine hK.out _ _ (fun _=>?_) ?_
       ·exact hBy13
       clear hK K'
       (try simp only [Act.put,List.setIfInBounds_toArray,List.set_cons_zero,List.set_cons_succ])
       refine wpAnyS_done (by kernel_rfl) (NoPanic.normal ?_) _
       exact ⟨rfl,⟨r1,e1,r2,e2,gX⟩,by rfl,hBy13,EX.out.1,CP.out⟩
     rintro ⟨r1,e1,r2,e2,gX⟩ W7 ⟨hB7,hX7,hP7⟩
     dsimp only at hX7 hP7
     simp only [pQ,pN,pZ,pS]
     obtain ⟨hm7,hp7⟩:=hP7.mv (F:=fun _=>True) (fun _ _=>trivial)
     have hgL:(v.take n++[(m,zz)])[n]? = some (m,zz):=by rw [List.getElem?_append_right (by rw [HLT.out];exact Nat.le_refl _),HLT.out];simp
     obtain ⟨_,_,u1,hc1⟩:=hm7.cells
     obtain ⟨_,_,u2,hc2⟩:=hp7.cells
     simp only [Value.slice.injEq] at u1 u2
     obtain ⟨rfl,q8,rfl⟩:=u1
     obtain ⟨rfl,q9,rfl⟩:=u2
     clear q8 q9
     obtain ⟨rb,ro,rfl,_,_,hrm⟩:=hc1 n _ hgL
     obtain ⟨rb2,ro2,rfl,_,_,hrp⟩:=hc2 n _ hgL
     have hwr7:=zzT HB.out.2 hB7
     have KEY7:=Lib.hid (fun (y:World) (hy:Below W7.heap.size W7 y)=>(show (y.cell? ⟨gX,0,none⟩=some (.slice (some ⟨rb,ro,none⟩) (n+1) e1)/\y.cell? ⟨gX,1,none⟩=some (.slice (some ⟨rb2,ro2,none⟩) (n+1) e2))/\y.cell? ⟨rb,ro+n,none⟩=some (str m)/\y.cell? ⟨rb2,ro2+n,none⟩=some (.int .i64 zz)/\_ from by
      have hk:∀ (a:Addr) (u:Value),W7.cell? a=some u->y.cell? a=some u:=fun a u h=>(hy.cell (World.block_lt_of_cell? _ _ h)).trans h
      obtain ⟨i0,i1,_,_⟩:=cells_2 hX7
      exact ⟨⟨hk _ _ i0,hk _ _ i1⟩,hk _ _ hrm,hk _ _ hrp,KEY.out y (zzT hB7 hy)⟩))
     have HB7:=Lib.hid (And.intro (zzT HB.out.1 hB7) hwr7)
     have hn1I:(n:Int)<(n:Int)+1:=by omega
     clear hB7 hX7 hP7 hm7 hp7 hgL hc1 hc2 hrm hrp hwr7 KEY
     by_cases hm:m=M
     ·have hmm:(m == M)=true:=by simp [hm]
      have hmm2:(m != M)=false:=by simp [hm]
      obtain ⟨cn,hcn⟩:∃ cn,(zz != z)=cn:=⟨_,rfl⟩
      have HC:=Lib.hid (And.intro hm hcn)
      clear hm
      go_upto_region 5 with (fail)
      refine wp_region_noPanic ?_
      refine wp_region_S (fun w'=>Below W7.heap.size W7 w') (fun _=>false) (by kernel_rfl) ?_
      have hSd:(fun w'=>Below W7.heap.size W7 w') W7.drew:=Below.drew (Below.refl _ _)
      refine wpAnyS_take 0 (v:=?_) (by kernel_rfl) (by kernel_rfl) (by kernel_rfl) (by kernel_rfl) (fun _ _ _ _ h=>h) hSd ?_ ?_
      rotate_left
      ·(intro oi ho;simp at ho;subst ho;refine Or.inl ⟨by rfl,fun w' hw'=>?_⟩;go_simp;try with_reducible rfl)
      (intro d hd;simp at hd;subst hd;simp only [Act.put,List.setIfInBounds_toArray,List.set_cons_zero,List.set_cons_succ])
      refine wpAnyS_take 1 (v:=?_) (by kernel_rfl) (by kernel_rfl) (by kernel_rfl) (by kernel_rfl) (fun _ _ _ _ h=>h) hSd ?_ ?_
      rotate_left
      ·(intro oi ho;simp at ho;subst ho;refine Or.inl ⟨by rfl,fun w' hw'=>?_⟩;go_simp;try with_reducible rfl)
      (intro d hd;simp at hd;subst hd;simp only [Act.put,List.setIfInBounds_toArray,List.set_cons_zero,List.set_cons_succ])
      refine wpAnyS_take 2 (v:=?_) (by kernel_rfl) (by kernel_rfl) (by kernel_rfl) (by kernel_rfl) (fun _ _ _ _ h=>h) hSd ?_ ?_
      rotate_left
      ·(intro oi ho;simp at ho;subst ho;refine Or.inl ⟨by rfl,fun w' hw'=>?_⟩;go_simp;try with_reducible rfl)
      (intro d hd;simp at hd;subst hd;simp only [Act.put,List.setIfInBounds_toArray,List.set_cons_zero,List.set_cons_succ])
      refine wpAnyS_take 3 (v:=?_) (by kernel_rfl) (by kernel_rfl) (by kernel_rfl) (by kernel_rfl) (fun _ _ _ _ h=>h) hSd ?_ ?_
      rotate_left
      ·(intro oi ho;simp at ho;subst ho;refine Or.inl ⟨by rfl,fun w' hw'=>?_⟩;go_simp;try with_reducible rfl)
      (intro d hd;simp at hd;subst hd;simp only [Act.put,List.setIfInBounds_toArray,List.set_cons_zero,List.set_cons_succ])
      refine wpAnyS_take 4 (v:=?_) (by kernel_rfl) (by kernel_rfl) (by kernel_rfl) (by kernel_rfl) (fun _ _ _ _ h=>h) hSd ?_ ?_
      rotate_left
      ·(intro oi ho;simp at ho;subst ho;refine Or.inl ⟨by rfl,fun w' hw'=>?_⟩;have e0:=(KEY7.out w' hw').1.1;go_simp;try with_reducible rfl)
      (intro d hd;simp at hd;subst hd;simp only [Act.put,List.setIfInBounds_toArray,List.set_cons_zero,List.set_cons_succ])
      refine wpAnyS_take 5 (v:=?_) (by kernel_rfl) (by kernel_rfl) (by kernel_rfl) (by kernel_rfl) (fun _ _ _ _ h=>h) hSd ?_ ?_
      rotate_left
      ·(intro oi ho;simp at ho;subst ho;refine Or.inl ⟨by rfl,fun w' hw'=>?_⟩;go_simp;try with_reducible rfl)
      (intro d hd;simp at hd;subst hd;simp only [Act.put,List.setIfInBounds_toArray,List.set_cons_zero,List.set_cons_succ])
      refine wpAnyS_take 6 (v:=?_) (by kernel_rfl) (by kernel_rfl) (by kernel_rfl) (by kernel_rfl) (fun _ _ _ _ h=>h) hSd ?_ ?_
      rotate_left
      ·(intro oi ho;simp at ho;subst ho;refine Or.inl ⟨by rfl,fun w' hw'=>?_⟩;go_simp;try with_reducible rfl)
      (intro d hd;simp at hd;subst hd;simp only [Act.put,List.setIfInBounds_toArray,List.set_cons_zero,List.set_cons_succ])
      refine wpAnyS_take 7 (v:=?_) (by kernel_rfl) (by kernel_rfl) (by kernel_rfl) (by kernel_rfl) (fun _ _ _ _ h=>h) hSd ?_ ?_
      rotate_left
      ·(intro oi ho;simp at ho;subst ho;refine Or.inl ⟨by rfl,fun w' hw'=>?_⟩;have e0:=(KEY7.out w' hw').2.1;go_simp;try with_reducible rfl)
      (intro d hd;simp at hd;subst hd;simp only [Act.put,List.setIfInBounds_toArray,List.set_cons_zero,List.set_cons_succ])
      refine wpAnyS_take 8 (v:=?_) (by kernel_rfl) (by kernel_rfl) (by kernel_rfl) (by kernel_rfl) (fun _ _ _ _ h=>h) hSd ?_ ?_
      rotate_left
      ·(intro oi ho;simp at ho;subst ho;refine Or.inl ⟨by rfl,fun w' hw'=>?_⟩;go_simp;try with_reducible rfl)
      (intro d hd;simp at hd;subst hd;simp only [Act.put,List.setIfInBounds_toArray,List.set_cons_zero,List.set_cons_succ])
      refine wpAnyS_take 9 (v:=?_) (by kernel_rfl) (by kernel_rfl) (by kernel_rfl) (by kernel_rfl) (fun _ _ _ _ h=>h) hSd ?_ ?_
      rotate_left
      ·(intro oi ho;simp at ho;subst ho;refine Or.inl ⟨by rfl,fun w' hw'=>?_⟩;have e0:=(KEY7.out w' hw').2.2.2.1.1;go_simp;try with_reducible rfl)
      (intro d hd;simp at hd;subst hd;simp only [Act.put,List.setIfInBounds_toArray,List.set_cons_zero,List.set_cons_succ])
      refine wpAnyS_take 10 (v:=?_) (by kernel_rfl) (by kernel_rfl) (by kernel_rfl) (by kernel_rfl) (fun _ _ _ _ h=>h) hSd ?_ ?_
      rotate_left
      ·(intro oi ho;simp at ho;subst ho;refine Or.inl ⟨by rfl,fun w' hw'=>?_⟩;go_simp;try with_reducible rfl)
      (intro d hd;simp at hd;subst hd;simp only [Act.put,List.setIfInBounds_toArray,List.set_cons_zero,List.set_cons_succ])
      refine wpAnyS_take 11 (v:=?_) (by kernel_rfl) (by kernel_rfl) (by kernel_rfl) (by kernel_rfl) (fun _ _ _ _ h=>h) hSd ?_ ?_
      rotate_left
      ·(intro oi ho;simp at ho;subst ho;refine Or.inl ⟨by rfl,fun w' hw'=>?_⟩;go_simp;try with_reducible rfl)
      (intro d hd;simp at hd;subst hd;simp only [Act.put,List.setIfInBounds_toArray,List.set_cons_zero,List.set_cons_succ])
      refine wpAnyS_take 12 (v:=?_) (by kernel_rfl) (by kernel_rfl) (by kernel_rfl) (by kernel_rfl) (fun _ _ _ _ h=>h) hSd ?_ ?_
      rotate_left
      ·(intro oi ho;simp at ho;subst ho;refine Or.inl ⟨by rfl,fun w' hw'=>?_⟩;have e0:=(KEY7.out w' hw').2.2.2.2.1;go_simp;try with_reducible rfl)
      (intro d hd;simp at hd;subst hd;simp only [Act.put,List.setIfInBounds_toArray,List.set_cons_zero,List.set_cons_succ])
      refine wpAnyS_take 13 (v:=?_) (by kernel_rfl) (by kernel_rfl) (by kernel_rfl) (by kernel_rfl) (fun _ _ _ _ h=>h) hSd ?_ ?_
      rotate_left
      ·(intro oi ho;simp at ho;subst ho;refine Or.inl ⟨by rfl,fun w' hw'=>?_⟩;go_simp;try with_reducible rfl)
      (intro d hd;simp at hd;subst hd;simp only [Act.put,List.setIfInBounds_toArray,List.set_cons_zero,List.set_cons_succ])
      refine wpAnyS_take 14 (v:=?_) (by kernel_rfl) (by kernel_rfl) (by kernel_rfl) (by kernel_rfl) (fun _ _ _ _ h=>h) hSd ?_ ?_
      rotate_left
      ·(intro oi ho;simp at ho;subst ho;refine Or.inl ⟨by rfl,fun w' hw'=>?_⟩;go_simp;try with_reducible rfl)
      (intro d hd;simp at hd;subst hd;simp only [Act.put,List.setIfInBounds_toArray,List.set_cons_zero,List.set_cons_succ])
      refine wpAnyS_take 15 (v:=?_) (by kernel_rfl) (by kernel_rfl) (by kernel_rfl) (by kernel_rfl) (fun _ _ _ _ h=>h) hSd ?_ ?_
      rotate_left
      ·(intro oi ho;simp at ho;subst ho;refine Or.inl ⟨by rfl,fun w' hw'=>?_⟩;go_simp;try with_reducible rfl)
      (intro d hd;simp at hd;subst hd;simp only [Act.put,List.setIfInBounds_toArray,List.set_cons_zero,List.set_cons_succ])
      refine wpAnyS_take 16 (v:=?_) (by kernel_rfl) (by kernel_rfl) (by kernel_rfl) (by kernel_rfl) (fun _ _ _ _ h=>h) hSd ?_ ?_
      rotate_left
      ·(intro oi ho;simp at ho;subst ho;refine Or.inl ⟨by rfl,fun w' hw'=>?_⟩;go_simp;try with_reducible rfl)
      (intro d hd;simp at hd;subst hd;simp only [Act.put,List.setIfInBounds_toArray,List.set_cons_zero,List.set_cons_succ])
      refine wpAnyS_take 17 (v:=?_) (by kernel_rfl) (by kernel_rfl) (by kernel_rfl) (by kernel_rfl) (fun _ _ _ _ h=>h) hSd ?_ ?_
      rotate_left
      ·(intro oi ho;simp at ho;subst ho;refine Or.inl ⟨by rfl,fun w' hw'=>?_⟩;have e0:=(KEY7.out w' hw').1.2;go_simp;try with_reducible rfl)
      (intro d hd;simp at hd;subst hd;simp only [Act.put,List.setIfInBounds_toArray,List.set_cons_zero,List.set_cons_succ])
      refine wpAnyS_take 18 (v:=?_) (by kernel_rfl) (by kernel_rfl) (by kernel_rfl) (by kernel_rfl) (fun _ _ _ _ h=>h) hSd ?_ ?_
      rotate_left
      ·(intro oi ho;simp at ho;subst ho;refine Or.inl ⟨by rfl,fun w' hw'=>?_⟩;go_simp;try with_reducible rfl)
      (intro d hd;simp at hd;subst hd;simp only [Act.put,List.setIfInBounds_toArray,List.set_cons_zero,List.set_cons_succ])
      refine wpAnyS_take 19 (v:=?_) (by kernel_rfl) (by kernel_rfl) (by kernel_rfl) (by kernel_rfl) (fun _ _ _ _ h=>h) hSd ?_ ?_
      rotate_left
      ·(intro oi ho;simp at ho;subst ho;refine Or.inl ⟨by rfl,fun w' hw'=>?_⟩;go_simp;try with_reducible rfl)
      (intro d hd;simp at hd;subst hd;simp only [Act.put,List.setIfInBounds_toArray,List.set_cons_zero,List.set_cons_succ])
      refine wpAnyS_take 20 (v:=?_) (by kernel_rfl) (by kernel_rfl) (by kernel_rfl) (by kernel_rfl) (fun _ _ _ _ h=>h) hSd ?_ ?_
      rotate_left
      ·(intro oi ho;simp at ho;subst ho;refine Or.inl ⟨by rfl,fun w' hw'=>?_⟩;have e0:=(KEY7.out w' hw').2.2.1;go_simp;try with_reducible rfl)
      (intro d hd;simp at hd;subst hd;simp only [Act.put,List.setIfInBounds_toArray,List.set_cons_zero,List.set_cons_succ])
      refine wpAnyS_take 21 (v:=?_) (by kernel_rfl) (by kernel_rfl) (by kernel_rfl) (by kernel_rfl) (fun _ _ _ _ h=>h) hSd ?_ ?_
      rotate_left
      ·(intro oi ho;simp at ho;subst ho;refine Or.inl ⟨by rfl,fun w' hw'=>?_⟩;go_simp;try with_reducible rfl)
      (intro d hd;simp at hd;subst hd;simp only [Act.put,List.setIfInBounds_toArray,List.set_cons_zero,List.set_cons_succ])
      refine wpAnyS_take 22 (v:=?_) (by kernel_rfl) (by kernel_rfl) (by kernel_rfl) (by kernel_rfl) (fun _ _ _ _ h=>h) hSd ?_ ?_
      rotate_left
      ·(intro oi ho;simp at ho;subst ho;refine Or.inl ⟨by rfl,fun w' hw'=>?_⟩;have e0:=(KEY7.out w' hw').2.2.2.1.2;go_simp;try with_reducible rfl)
      (intro d hd;simp at hd;subst hd;simp only [Act.put,List.setIfInBounds_toArray,List.set_cons_zero,List.set_cons_succ])
      refine wpAnyS_take 23 (v:=?_) (by kernel_rfl) (by kernel_rfl) (by kernel_rfl) (by kernel_rfl) (fun _ _ _ _ h=>h) hSd ?_ ?_
      rotate_left
      ·(intro oi ho;simp at ho;subst ho;refine Or.inl ⟨by rfl,fun w' hw'=>?_⟩;go_simp;try with_reducible rfl)
      (intro d hd;simp at hd;subst hd;simp only [Act.put,List.setIfInBounds_toArray,List.set_cons_zero,List.set_cons_succ])
      refine wpAnyS_take 24 (v:=?_) (by kernel_rfl) (by kernel_rfl) (by kernel_rfl) (by kernel_rfl) (fun _ _ _ _ h=>h) hSd ?_ ?_
      rotate_left
      ·(intro oi ho;simp at ho;subst ho;refine Or.inl ⟨by rfl,fun w' hw'=>?_⟩;go_simp;try with_reducible rfl)
      (intro d hd;simp at hd;subst hd;simp only [Act.put,List.setIfInBounds_toArray,List.set_cons_zero,List.set_cons_succ])
      refine wpAnyS_take 25 (v:=?_) (by kernel_rfl) (by kernel_rfl) (by kernel_rfl) (by kernel_rfl) (fun _ _ _ _ h=>h) hSd ?_ ?_
      rotate_left
      ·(intro oi ho;simp at ho;subst ho;refine Or.inl ⟨by rfl,fun w' hw'=>?_⟩;have e0:=(KEY7.out w' hw').2.2.2.2.2.1;go_simp;try with_reducible rfl)
      (intro d hd;simp at hd;subst hd;simp only [Act.put,List.setIfInBounds_toArray,List.set_cons_zero,List.set_cons_succ])
      refine wpAnyS_take 26 (v:=?_) (by kernel_rfl) (by kernel_rfl) (by kernel_rfl) (by kernel_rfl) (fun _ _ _ _ h=>h) hSd ?_ ?_
      rotate_left
      ·(intro oi ho;simp at ho;subst ho;refine Or.inl ⟨by rfl,fun w' hw'=>?_⟩;go_simp;try with_reducible rfl)
      (intro d hd;simp at hd;subst hd;simp only [Act.put,List.setIfInBounds_toArray,List.set_cons_zero,List.set_cons_succ])
      refine wpAnyS_take 27 (v:=?_) (by kernel_rfl) (by kernel_rfl) (by kernel_rfl) (by kernel_rfl) (fun _ _ _ _ h=>h) hSd ?_ ?_
      rotate_left
      ·(intro oi ho;simp at ho;subst ho;refine Or.inl ⟨by rfl,fun w' hw'=>?_⟩;go_simp;try with_reducible rfl)
      (intro d hd;simp at hd;subst hd;simp only [Act.put,List.setIfInBounds_toArray,List.set_cons_zero,List.set_cons_succ])
      refine wpAnyS_done (by kernel_rfl) (NoPanic.normal ?_) _
      clear hSd KEY7
      cases cn with
      | false =>
        have hz:zz=z:=by have h:=HC.out.2;simpa using h
        have E:=Lib.hid (show followsTo t b v (n+2) from fun i hi h=>by
         have h1:=HF.out.2.1;have h2:=HF.out.2.2.1
         rcases Nat.lt_or_ge i n with h3 | h3
         ·exact HF.out.1 i h3 h
         ·obtain rfl:i=n:=by omega
          rw [HF.out.2.2.2.2.2.2,HO.out,HF.out.2.2.2.2.2.1,HC.out.1,HMM.out,hz])
        have HE:=Lib.hid (show (n+1) % 2=0/\n+1<=v.length+1 by
         have h1:=HF.out.2.1;have h2:=HF.out.2.2.1;have h3:=HF.out.2.2.2.2.1;omega)
        clear hz hcn
        go_wp2_with fail
        go_roundw
        case rel=>exact ⟨_,n+1,n+2,rfl,rfl,HE.out.1,HE.out.2,rfl,E.out,HB7.out.1.drew⟩
        case measure=>simp [intOf];omega
      | true =>
        have E:=Lib.hid (show decide (followsTo t b v v.length)=false by
         rw [decide_eq_false_iff_not]
         intro h
         have h1:=HF.out.2.1;have h2:=HF.out.2.2.1
         have h3:=h n HF.out.2.2.2.2.1 (by omega)
         rw [HF.out.2.2.2.2.2.2,HO.out,HF.out.2.2.2.2.2.1] at h3
         have h4:=HC.out.2
         simp only [Option.some.injEq,Prod.mk.injEq] at h3
         simp [h3.2] at h4)
        clear hcn
        go_wp2_with fail
        go_ret
        exact ⟨by rw [E.out];rfl,HB7.out.2.drew⟩
     ·have hmm:(m == M)=false:=by simp [hm]
      have hmm2:(m != M)=true:=by simp [hm]
      have E:=Lib.hid (show decide (followsTo t b v v.length)=false by
       rw [decide_eq_false_iff_not]
       intro h
       have h1:=HF.out.2.1;have h2:=HF.out.2.2.1
       have h3:=h n HF.out.2.2.2.2.1 (by omega)
       rw [HF.out.2.2.2.2.2.2,HO.out,HF.out.2.2.2.2.2.1] at h3
       simp only [Option.some.injEq,Prod.mk.injEq] at h3
       exact hm (h3.1.trans HMM.out.symm))
      clear hm
      go_upto_region 5 with (fail)
      refine wp_region_noPanic ?_
      refine wp_region_S (fun w'=>Below W7.heap.size W7 w') (fun _=>false) (by kernel_rfl) ?_
      have hSd:(fun w'=>Below W7.heap.size W7 w') W7.drew:=Below.drew (Below.refl _ _)
      refine wpAnyS_take 0 (v:=?_) (by kernel_rfl) (by kernel_rfl) (by kernel_rfl) (by kernel_rfl) (fun _ _ _ _ h=>h) hSd ?_ ?_
      rotate_left
      ·(intro oi ho;simp at ho;subst ho;refine Or.inl ⟨by rfl,fun w' hw'=>?_⟩;go_simp;try with_reducible rfl)
      (intro d hd;simp at hd;subst hd;simp only [Act.put,List.setIfInBounds_toArray,List.set_cons_zero,List.set_cons_succ])
      refine wpAnyS_take 1 (v:=?_) (by kernel_rfl) (by kernel_rfl) (by kernel_rfl) (by kernel_rfl) (fun _ _ _ _ h=>h) hSd ?_ ?_
      rotate_left
      ·(intro oi ho;simp at ho;subst ho;refine Or.inl ⟨by rfl,fun w' hw'=>?_⟩;go_simp;try with_reducible rfl)
      (intro d hd;simp at hd;subst hd;simp only [Act.put,List.setIfInBounds_toArray,List.set_cons_zero,List.set_cons_succ])
      refine wpAnyS_take 2 (v:=?_) (by kernel_rfl) (by kernel_rfl) (by kernel_rfl) (by kernel_rfl) (fun _ _ _ _ h=>h) hSd ?_ ?_
      rotate_left
      ·(intro oi ho;simp at ho;subst ho;refine Or.inl ⟨by rfl,fun w' hw'=>?_⟩;go_simp;try with_reducible rfl)
      (intro d hd;simp at hd;subst hd;simp only [Act.put,List.setIfInBounds_toArray,List.set_cons_zero,List.set_cons_succ])
      refine wpAnyS_take 3 (v:=?_) (by kernel_rfl) (by kernel_rfl) (by kernel_rfl) (by kernel_rfl) (fun _ _ _ _ h=>h) hSd ?_ ?_
      rotate_left
      ·(intro oi ho;simp at ho;subst ho;refine Or.inl ⟨by rfl,fun w' hw'=>?_⟩;go_simp;try with_reducible rfl)
      (intro d hd;simp at hd;subst hd;simp only [Act.put,List.setIfInBounds_toArray,List.set_cons_zero,List.set_cons_succ])
      refine wpAnyS_take 4 (v:=?_) (by kernel_rfl) (by kernel_rfl) (by kernel_rfl) (by kernel_rfl) (fun _ _ _ _ h=>h) hSd ?_ ?_
      rotate_left
      ·(intro oi ho;simp at ho;subst ho;refine Or.inl ⟨by rfl,fun w' hw'=>?_⟩;have e0:=(KEY7.out w' hw').1.1;go_simp;try with_reducible rfl)
      (intro d hd;simp at hd;subst hd;simp only [Act.put,List.setIfInBounds_toArray,List.set_cons_zero,List.set_cons_succ])
      refine wpAnyS_take 5 (v:=?_) (by kernel_rfl) (by kernel_rfl) (by kernel_rfl) (by kernel_rfl) (fun _ _ _ _ h=>h) hSd ?_ ?_
      rotate_left
      ·(intro oi ho;simp at ho;subst ho;refine Or.inl ⟨by rfl,fun w' hw'=>?_⟩;go_simp;try with_reducible rfl)
      (intro d hd;simp at hd;subst hd;simp only [Act.put,List.setIfInBounds_toArray,List.set_cons_zero,List.set_cons_succ])
      refine wpAnyS_take 6 (v:=?_) (by kernel_rfl) (by kernel_rfl) (by kernel_rfl) (by kernel_rfl) (fun _ _ _ _ h=>h) hSd ?_ ?_
      rotate_left
      ·(intro oi ho;simp at ho;subst ho;refine Or.inl ⟨by rfl,fun w' hw'=>?_⟩;go_simp;try with_reducible rfl)
      (intro d hd;simp at hd;subst hd;simp only [Act.put,List.setIfInBounds_toArray,List.set_cons_zero,List.set_cons_succ])
      refine wpAnyS_take 7 (v:=?_) (by kernel_rfl) (by kernel_rfl) (by kernel_rfl) (by kernel_rfl) (fun _ _ _ _ h=>h) hSd ?_ ?_
      rotate_left
      ·(intro oi ho;simp at ho;subst ho;refine Or.inl ⟨by rfl,fun w' hw'=>?_⟩;have e0:=(KEY7.out w' hw').2.1;go_simp;try with_reducible rfl)
      (intro d hd;simp at hd;subst hd;simp only [Act.put,List.setIfInBounds_toArray,List.set_cons_zero,List.set_cons_succ])
      refine wpAnyS_take 8 (v:=?_) (by kernel_rfl) (by kernel_rfl) (by kernel_rfl) (by kernel_rfl) (fun _ _ _ _ h=>h) hSd ?_ ?_
      rotate_left
      ·(intro oi ho;simp at ho;subst ho;refine Or.inl ⟨by rfl,fun w' hw'=>?_⟩;go_simp;try with_reducible rfl)
      (intro d hd;simp at hd;subst hd;simp only [Act.put,List.setIfInBounds_toArray,List.set_cons_zero,List.set_cons_succ])
      refine wpAnyS_take 9 (v:=?_) (by kernel_rfl) (by kernel_rfl) (by kernel_rfl) (by kernel_rfl) (fun _ _ _ _ h=>h) hSd ?_ ?_
      rotate_left
      ·(intro oi ho;simp at ho;subst ho;refine Or.inl ⟨by rfl,fun w' hw'=>?_⟩;have e0:=(KEY7.out w' hw').2.2.2.1.1;go_simp;try with_reducible rfl)
      (intro d hd;simp at hd;subst hd;simp only [Act.put,List.setIfInBounds_toArray,List.set_cons_zero,List.set_cons_succ])
      refine wpAnyS_take 10 (v:=?_) (by kernel_rfl) (by kernel_rfl) (by kernel_rfl) (by kernel_rfl) (fun _ _ _ _ h=>h) hSd ?_ ?_
      rotate_left
      ·(intro oi ho;simp at ho;subst ho;refine Or.inl ⟨by rfl,fun w' hw'=>?_⟩;go_simp;try with_reducible rfl)
      (intro d hd;simp at hd;subst hd;simp only [Act.put,List.setIfInBounds_toArray,List.set_cons_zero,List.set_cons_succ])
      refine wpAnyS_take 11 (v:=?_) (by kernel_rfl) (by kernel_rfl) (by kernel_rfl) (by kernel_rfl) (fun _ _ _ _ h=>h) hSd ?_ ?_
      rotate_left
      ·(intro oi ho;simp at ho;subst ho;refine Or.inl ⟨by rfl,fun w' hw'=>?_⟩;go_simp;try with_reducible rfl)
      (intro d hd;simp at hd;subst hd;simp only [Act.put,List.setIfInBounds_toArray,List.set_cons_zero,List.set_cons_succ])
      refine wpAnyS_take 12 (v:=?_) (by kernel_rfl) (by kernel_rfl) (by kernel_rfl) (by kernel_rfl) (fun _ _ _ _ h=>h) hSd ?_ ?_
      rotate_left
      ·(intro oi ho;simp at ho;subst ho;refine Or.inl ⟨by rfl,fun w' hw'=>?_⟩;have e0:=(KEY7.out w' hw').2.2.2.2.1;go_simp;try with_reducible rfl)
      (intro d hd;simp at hd;subst hd;simp only [Act.put,List.setIfInBounds_toArray,List.set_cons_zero,List.set_cons_succ])
      refine wpAnyS_take 13 (v:=?_) (by kernel_rfl) (by kernel_rfl) (by kernel_rfl) (by kernel_rfl) (fun _ _ _ _ h=>h) hSd ?_ ?_
      rotate_left
      ·(intro oi ho;simp at ho;subst ho;refine Or.inl ⟨by rfl,fun w' hw'=>?_⟩;go_simp;try with_reducible rfl)
      (intro d hd;simp at hd;subst hd;simp only [Act.put,List.setIfInBounds_toArray,List.set_cons_zero,List.set_cons_succ])
      refine wpAnyS_take 14 (v:=?_) (by kernel_rfl) (by kernel_rfl) (by kernel_rfl) (by kernel_rfl) (fun _ _ _ _ h=>h) hSd ?_ ?_
      rotate_left
      ·(intro oi ho;simp at ho;subst ho;refine Or.inl ⟨by rfl,fun w' hw'=>?_⟩;go_simp;try with_reducible rfl)
      (intro d hd;simp at hd;subst hd;simp only [Act.put,List.setIfInBounds_toArray,List.set_cons_zero,List.set_cons_succ])
      refine wpAnyS_take 15 (v:=?_) (by kernel_rfl) (by kernel_rfl) (by kernel_rfl) (by kernel_rfl) (fun _ _ _ _ h=>h) hSd ?_ ?_
      rotate_left
      ·(intro oi ho;simp at ho;subst ho;refine Or.inl ⟨by rfl,fun w' hw'=>?_⟩;go_simp;try with_reducible rfl)
      (intro d hd;simp at hd;subst hd;simp only [Act.put,List.setIfInBounds_toArray,List.set_cons_zero,List.set_cons_succ])
      refine wpAnyS_take 16 (v:=undef) (by kernel_rfl) (by kernel_rfl) (by kernel_rfl) (by kernel_rfl) (fun _ _ _ _ h=>h) hSd (fun oi ho=>by simp at ho;subst ho;exact Or.inr ⟨by rfl,rfl⟩) ?_
      (intro d hd;simp at hd;subst hd;simp only [Act.put,List.setIfInBounds_toArray,List.set_cons_zero,List.set_cons_succ])
      refine wpAnyS_take 17 (v:=undef) (by kernel_rfl) (by kernel_rfl) (by kernel_rfl) (by kernel_rfl) (fun _ _ _ _ h=>h) hSd (fun oi ho=>by simp at ho;subst ho;exact Or.inr ⟨by rfl,rfl⟩) ?_
      (intro d hd;simp at hd;subst hd;simp only [Act.put,List.setIfInBounds_toArray,List.set_cons_zero,List.set_cons_succ])
      refine wpAnyS_take 18 (v:=undef) (by kernel_rfl) (by kernel_rfl) (by kernel_rfl) (by kernel_rfl) (fun _ _ _ _ h=>h) hSd (fun oi ho=>by simp at ho;subst ho;exact Or.inr ⟨by rfl,rfl⟩) ?_
      (intro d hd;simp at hd;subst hd;simp only [Act.put,List.setIfInBounds_toArray,List.set_cons_zero,List.set_cons_succ])
      refine wpAnyS_take 19 (v:=undef) (by kernel_rfl) (by kernel_rfl) (by kernel_rfl) (by kernel_rfl) (fun _ _ _ _ h=>h) hSd (fun oi ho=>by simp at ho;subst ho;exact Or.inr ⟨by rfl,rfl⟩) ?_
      (intro d hd;simp at hd;subst hd;simp only [Act.put,List.setIfInBounds_toArray,List.set_cons_zero,List.set_cons_succ])
      refine wpAnyS_take 20 (v:=undef) (by kernel_rfl) (by kernel_rfl) (by kernel_rfl) (by kernel_rfl) (fun _ _ _ _ h=>h) hSd (fun oi ho=>by simp at ho;subst ho;exact Or.inr ⟨by rfl,rfl⟩) ?_
      (intro d hd;simp at hd;subst hd;simp only [Act.put,List.setIfInBounds_toArray,List.set_cons_zero,List.set_cons_succ])
      refine wpAnyS_take 21 (v:=undef) (by kernel_rfl) (by kernel_rfl) (by kernel_rfl) (by kernel_rfl) (fun _ _ _ _ h=>h) hSd (fun oi ho=>by simp at ho;subst ho;exact Or.inr ⟨by rfl,rfl⟩) ?_
      (intro d hd;simp at hd;subst hd;simp only [Act.put,List.setIfInBounds_toArray,List.set_cons_zero,List.set_cons_succ])
      refine wpAnyS_take 22 (v:=undef) (by kernel_rfl) (by kernel_rfl) (by kernel_rfl) (by kernel_rfl) (fun _ _ _ _ h=>h) hSd (fun oi ho=>by simp at ho;subst ho;exact Or.inr ⟨by rfl,rfl⟩) ?_
      (intro d hd;simp at hd;subst hd;simp only [Act.put,List.setIfInBounds_toArray,List.set_cons_zero,List.set_cons_succ])
      refine wpAnyS_take 23 (v:=undef) (by kernel_rfl) (by kernel_rfl) (by kernel_rfl) (by kernel_rfl) (fun _ _ _ _ h=>h) hSd (fun oi ho=>by simp at ho;subst ho;exact Or.inr ⟨by rfl,rfl⟩) ?_
      (intro d hd;simp at hd;subst hd;simp only [Act.put,List.setIfInBounds_toArray,List.set_cons_zero,List.set_cons_succ])
      refine wpAnyS_take 24 (v:=undef) (by kernel_rfl) (by kernel_rfl) (by kernel_rfl) (by kernel_rfl) (fun _ _ _ _ h=>h) hSd (fun oi ho=>by simp at ho;subst ho;exact Or.inr ⟨by rfl,rfl⟩) ?_
      (intro d hd;simp at hd;subst hd;simp only [Act.put,List.setIfInBounds_toArray,List.set_cons_zero,List.set_cons_succ])
      refine wpAnyS_take 25 (v:=undef) (by kernel_rfl) (by kernel_rfl) (by kernel_rfl) (by kernel_rfl) (fun _ _ _ _ h=>h) hSd (fun oi ho=>by simp at ho;subst ho;exact Or.inr ⟨by rfl,rfl⟩) ?_
      (intro d hd;simp at hd;subst hd;simp only [Act.put,List.setIfInBounds_toArray,List.set_cons_zero,List.set_cons_succ])
      refine wpAnyS_take 26 (v:=undef) (by kernel_rfl) (by kernel_rfl) (by kernel_rfl) (by kernel_rfl) (fun _ _ _ _ h=>h) hSd (fun oi ho=>by simp at ho;subst ho;exact Or.inr ⟨by rfl,rfl⟩) ?_
      (intro d hd;simp at hd;subst hd;simp only [Act.put,List.setIfInBounds_toArray,List.set_cons_zero,List.set_cons_succ])
      refine wpAnyS_take 27 (v:=?_) (by kernel_rfl) (by kernel_rfl) (by kernel_rfl) (by kernel_rfl) (fun _ _ _ _ h=>h) hSd ?_ ?_
      rotate_left
      ·(intro oi ho;simp at ho;subst ho;refine Or.inl ⟨by rfl,fun w' hw'=>?_⟩;go_simp;try with_reducible rfl)
      (intro d hd;simp at hd;subst hd;simp only [Act.put,List.setIfInBounds_toArray,List.set_cons_zero,List.set_cons_succ])
      refine wpAnyS_done (by kernel_rfl) (NoPanic.normal ?_) _
      clear hSd KEY7
      go_wp2_with fail
      go_ret
      exact ⟨by rw [E.out];rfl,HB7.out.2.drew⟩
  ·have hltI:¬ (n:Int)<(v.length:Int):=by omega
   have E:=Lib.hid (show decide (followsTo t b v v.length)=true from decide_eq_true fun i hi h=>hfo i (by omega) h)
   clear hfo hnk
   go_wp2_with fail
   go_ret
   exact ⟨by rw [E.out];rfl,HB.out.2⟩

end Go.Proofs.YtdfkiicodfbibaaGreatDoor

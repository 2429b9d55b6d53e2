/- Walks of functions that the statement reaches, and plain words. No conditions. -/
import Derived.Test.YtdfkiicodfbibaaGreatDoorQ11
set_option linter.unusedVariables false
set_option linter.unusedSimpArgs false
set_option maxHeartbeats 8000000
namespace Go.Proofs.YtdfkiicodfbibaaGreatDoor
open Go.RowKit
section
variable {P:Program} {ops:Array Oper} {Q:Exit->Act->World->Prop} {md:Region.Mode} {S:World->Prop} {T:Nat->Bool}
end
structure Kv (va:Nat) (vw:Value) (w:World) (vw':Value) (w':World):Prop where
 but:But (Mv va vw) w w'
 row:∀ g,vw'.ownBlock=some g->vw.ownBlock=some g\/w.heap.size<=g
theorem Kv.obj {va:Nat} {vw vw':Value} {w w':World} (h:Kv va vw w vw' w') {b:Nat} {o:Obj} (hF:Fv va vw b) (ho:w.heap[b]? = some o):Fv va vw' b/\w'.heap[b]? = some o :=
 ⟨⟨hF.1,fun e=>by
   rcases h.row b e with h1 | h1
   ·exact hF.2 h1
   ·have:=lt_of_heap ho;omega⟩,by rw [h.but.block b (lt_of_heap ho) (fun e=>e.elim hF.1 hF.2)];exact ho⟩
theorem Kv.rep {va:Nat} {vw vw':Value} {w w':World} (h:Kv va vw w vw' w') {d:DV} {x:Value} (hr:Rep (Fv va vw) w d x):Rep (Fv va vw') w' d x:=Fv.keep h.but h.row hr
theorem Kv.trans {va:Nat} {vw vw' vw'':Value} {w w' w'':World} (h:Kv va vw w vw' w') (k:Kv va vw' w' vw'' w''):Kv va vw w vw'' w'' :=
 ⟨h.but.trans' k.but (fun i hi hm=>hm.imp id (fun e=>(h.row i e).resolve_right (by omega))),fun g hg=>(k.row g hg).elim (fun e=>h.row g e) (fun e=>.inr (Nat.le_trans h.but.size e))⟩
theorem Kv.below {va:Nat} {vw:Value} {w w':World} (hb:Below w.heap.size w w'):Kv va vw w vw w':=⟨But.ofBelow hb,fun _ hg=>.inl hg⟩
structure AskV (t:Ty) (l:Nat) (ss:List Bd) (y n:Bd) (lv:List Place) (bg:Place) (asked:Pl) (kv bv lsl mv pt:Value) (B0 B1:Nat) (va:Nat) (vw:Value) (w:World):Prop where
 g:Glob w
 ng:∀ g,Mv va vw g->NotG g
 rk:Rep (Fv va vw) w (encK t) kv
 rb:Rep (Fv va vw) w (encB (.ask l ss y n)) bv
 rl:LvRep (Fv va vw) w lv lsl
 rm:MvRep (Fv va vw) w asked mv
 rp:PtRep (Fv va vw) w asked pt
 f0:Fv va vw B0
 b0:w.heap[B0]? = some (.cells #[bv,lsl,.int .i64 (bg.1:Nat),str bg.2] 150 (0,0))
 f1:Fv va vw B1
 b1:w.heap[B1]? = some (.cells #[mv,pt] 33 (0,0))
theorem AskV.keep {t:Ty} {l:Nat} {ss:List Bd} {y n:Bd} {lv:List Place} {bg:Place} {asked:Pl} {kv bv lsl mv pt:Value} {B0 B1:Nat} {va:Nat} {vw vw':Value} {w w':World}
 (h:AskV t l ss y n lv bg asked kv bv lsl mv pt B0 B1 va vw w) (k:Kv va vw w vw' w'):AskV t l ss y n lv bg asked kv bv lsl mv pt B0 B1 va vw' w' :=
 ⟨h.g.but k.but h.ng,fun g hg=>hg.elim (fun e=>h.ng g (.inl e)) (fun e=>(k.row g e).elim (fun e=>h.ng g (.inr e)) (fun e=>h.g.new e)),k.rep h.rk,k.rep h.rb,k.rep h.rl,k.rep h.rm,k.rep h.rp,
  (k.obj h.f0 h.b0).1,(k.obj h.f0 h.b0).2,(k.obj h.f1 h.b1).1,(k.obj h.f1 h.b1).2⟩
structure Ko (vw:Value) (w:World) (vw':Value) (w':World):Prop where
 but:But (fun i=>vw.ownBlock=some i) w w'
 row:∀ g,vw'.ownBlock=some g->vw.ownBlock=some g\/w.heap.size<=g
abbrev Fo (vw:Value) (i:Nat):Prop:=¬ vw.ownBlock=some i
theorem Ko.obj {vw vw':Value} {w w':World} (h:Ko vw w vw' w') {b:Nat} {o:Obj} (hF:Fo vw b) (ho:w.heap[b]? = some o):Fo vw' b/\w'.heap[b]? = some o :=
 ⟨fun e=>by
  rcases h.row b e with h1 | h1
  ·exact hF h1
  ·have:=lt_of_heap ho;omega,by rw [h.but.block b (lt_of_heap ho) hF];exact ho⟩
theorem Ko.rep {vw vw':Value} {w w':World} (h:Ko vw w vw' w') {d:DV} {x:Value} (hr:Rep (Fo vw) w d x):Rep (Fo vw') w' d x:=(Rep.keep fun _ _ hF ho=>h.obj hF ho).1 _ _ hr
theorem Ko.reps {vw vw':Value} {w w':World} (h:Ko vw w vw' w') {d:List DV} {x:List Value} (hr:Reps (Fo vw) w d x):Reps (Fo vw') w' d x:=(Rep.keep fun _ _ hF ho=>h.obj hF ho).2 _ _ hr
theorem Ko.trans {vw vw' vw'':Value} {w w' w'':World} (h:Ko vw w vw' w') (k:Ko vw' w' vw'' w''):Ko vw w vw'' w'' :=
 ⟨h.but.trans' k.but (fun i hi hm=>(h.row i hm).resolve_right (by omega)),fun g hg=>(k.row g hg).elim (fun e=>h.row g e) (fun e=>.inr (Nat.le_trans h.but.size e))⟩
theorem Ko.below {vw:Value} {w w':World} (hb:Below w.heap.size w w'):Ko vw w vw w':=⟨But.ofBelow hb,fun _ hg=>.inl hg⟩
theorem SpAt.ko {vw vw':Value} {w w':World} (h:Ko vw w vw' w') {b:Bd} {lv:List Place} {bg:Place} {v:Pl} {vs:List Value} (hr:SpAt (Fo vw) w b lv bg v vs):SpAt (Fo vw') w' b lv bg v vs:=by
 obtain ⟨begun,args,opens,h1,h2⟩:=hr
 exact ⟨begun,args,opens,h1,h.reps h2⟩
theorem SpAt.below {F:Nat->Prop} {w w':World} (hb:Below w.heap.size w w') {b:Bd} {lv:List Place} {bg:Place} {v:Pl} {vs:List Value} (hr:SpAt F w b lv bg v vs):SpAt F w' b lv bg v vs:=by
 obtain ⟨begun,args,opens,h1,h2⟩:=hr
 exact ⟨begun,args,opens,h1,h2.below hb (fun _ h=>h)⟩
def TvOut (o:Option (List Pl)) (vw:Value) (us:List (Value×Value)) (L:List Pl) (w:World) (en:Ending) (w':World):Prop :=
 ∃ a n c,en=.returned (.tuple #[.slice a n c,.bool o.isSome])/\But (fun i=>vw.ownBlock=some i) w w'/\∀ out,o=some out->∃ us',PlsAt w' (L++out) (.slice a n c) (us++us')/\(∀ g,(Value.slice a n c).ownBlock=some g->vw.ownBlock=some g\/w.heap.size<=g)/\∀ u∈us',∀ g,u.1.ownBlock=some g\/u.2.ownBlock=some g->w.heap.size<=g
theorem TvOut.no {t:Ty} {b:Bd} {lv:List Place} {bg:Place} {v:Pl} {vw:Value} {us:List (Value×Value)} {L:List Pl} {w w':World} {a:Option Addr} {n c:Nat} (hb:But (fun i=>vw.ownBlock=some i) w w') (e:viewsB t b lv bg v=none) :
 TvOut (viewsB t b lv bg v) vw us L w (.returned (.tuple #[.slice a n c,.bool false])) w':=by
 rw [e]
 exact ⟨a,n,c,rfl,hb,fun out h=>by simp at h⟩
theorem boxes_3 (w:World) (A B C:Obj):∃ W,((w.alloc A).alloc B).alloc C=W/\Below w.heap.size w W/\W.heap.size=w.heap.size+3/\W.heap[w.heap.size]? = some A/\W.heap[w.heap.size+1]? = some B/\W.heap[w.heap.size+2]? = some C:=by
 obtain ⟨X,hX,hbX,hz,x0,x1⟩:=boxes_2 w A B
 obtain ⟨Y,hY,hbY,hz2,y0⟩:=box_1 X C
 rw [hX,hY]
 exact ⟨Y,rfl,zzT hbX hbY,by omega,(hbY.block _ (lt_of_heap x0)).trans x0,(hbY.block _ (lt_of_heap x1)).trans x1,by rw [<- hz];exact y0⟩
theorem l2WithPl (v:Pl) (mv pt:Value) (s:Bs) (p:Int) (w:World) (h1:SrcSl 1 mv v.length (logM v) w) (h2:SrcSl 1 pt v.length (logP v) w) (hl:v.length<=1000) :
 Calls Tryz.prog 126 #[.agg #[mv,pt],str s,.int .i64 p] w (CopyP (v++[(s,p)]) w):=by
 refine (l2With_any v.length v.length mv pt (logM v) (logP v) s p w h1 h2 (by omega) (by omega)).mono ?_
 rintro en w' ⟨a1,c1,a2,c2,rfl,hb,ho1,ho2,hf1,hf2⟩
 refine ⟨_,_,rfl,⟨?_,?_⟩,hb,fun g hg=>hg.elim (hf1 g) (hf2 g)⟩
 ·rw [show logM (v++[(s,p)])=logM v++[str s] from by simp [logM],List.length_append];exact ho1
 ·rw [show logP (v++[(s,p)])=logP v++[.int .i64 p] from by simp [logP],List.length_append];exact ho2
def tellN (s:St):Bs×Nat×Bool:=match told s with
 | none=>([],0,false)
 | some x=>(x.1,x.2.toNat,true)
theorem l3Tell_any {t:Ty} {hand:List Ty} {s:St} {n:Nat} (v:Pl) (mv pt x0 x1 x2 x3 x4 x5 x6:Value) (w:World) (hs:StFit t hand s n) (h15:atomsT t<=15) (hn:n<=100) (hv:v.length<=1000)
 (hr:SpAt (fun _=>True) w s.1 s.2.1 s.2.2 v [x0,x1,x2,x3,x4,x5,x6]) (hm:MvRep (fun _=>True) w v mv) (hp:PtRep (fun _=>True) w v pt) :
 Calls Tryz.prog 134 #[.agg #[mv,pt],.agg #[x0,x1,x2,x3,x4,x5,x6]] w (STellP (tellN s).1 (tellN s).2.1 (tellN s).2.2 w):=by
 obtain ⟨ta,hta⟩:=hs.bgt
 have hbl:=atT_len _ _ _ hta
 have hll:=hs.ll
 have hwf:=hs.wf
 obtain ⟨b,lv,bg⟩:=s
 have hbl':bg.2.length<=1000:=by
  have:((b,lv,bg):St).2.2.2.length<=100:=by omega
  have h2:bg.2.length<=100:=this
  omega
 cases b with
 | leaf c =>
   rw [show ((Bd.leaf c,lv,bg):St).1=.leaf c from rfl,wfB] at hwf
   by_cases hc:c=117
   ·subst hc
    have e:tellN (Bd.leaf 117,lv,bg)=([],0,false):=rfl
    rw [e]
    exact l3Tell_u (fun _=>True) lv bg v mv pt x0 x1 x2 x3 x4 x5 x6 w hr hm hp
   ·have hc2:c=116\/c=102:=by
     rcases hwf with h | h | h
     ·exact .inl h
     ·exact .inr h
     ·exact absurd h hc
    have e:tellN (Bd.leaf c,lv,bg)=(c::bg.2,bg.1,true):=by unfold tellN told;simp only [if_neg hc,Int.toNat_natCast]
    rw [e]
    exact l3Tell_leaf (fun _=>True) c hc2 lv bg v mv pt x0 x1 x2 x3 x4 x5 x6 w hr hm hp hbl' hv
 | ask l ss y nn =>
   have hf:=hs.fit
   rw [show ((Bd.ask l ss y nn,lv,bg):St).1=.ask l ss y nn from rfl,fitB] at hf
   obtain ⟨a,h1,_⟩:=hf
   obtain ⟨pl,hl,hat,_⟩:=hs.pf.each l a h1
   have hl':lv[l]? = some pl:=hl
   have hpl:=atT_len _ _ _ hat
   have hll':lv.length<=8*n:=hll
   have e:tellN (Bd.ask l ss y nn,lv,bg)=(113::pl.2,pl.1,true):=by unfold tellN told;simp only [hl',Option.map_some,Int.toNat_natCast]
   rw [e]
   exact l3Tell_ask (fun _=>True) l ss y nn lv bg pl v mv pt x0 x1 x2 x3 x4 x5 x6 w hr hm hp hl' (by omega) hv (by omega)
def ReplyQ (s:St) (v:Pl) (mv pt:Value) (w:World) (en:Ending) (w':World):Prop :=
 ∃ a1 n1 c1 a2 n2 c2,en=.returned (.tuple #[.agg #[.slice a1 n1 c1,.slice a2 n2 c2],.bool (told s).isSome])/\Below w.heap.size w w'/\(told s=none->.slice a1 n1 c1=mv/\.slice a2 n2 c2=pt) /\
   ∀ x,told s=some x->PlayAt w' (v++[x]) (.slice a1 n1 c1) (.slice a2 n2 c2)/\∀ g,(Value.slice a1 n1 c1).ownBlock=some g\/(Value.slice a2 n2 c2).ownBlock=some g->w.heap.size<=g
theorem told_nat {s:St} {x:Bs×Int} (h:told s=some x):x.2=((x.2.toNat:Nat):Int):=by
 unfold told at h
 split at h
 ·split at h
  ·simp at h
  ·obtain rfl:=Option.some.inj h;simp
 ·rw [Option.map_eq_some_iff] at h
  obtain ⟨pl,_,rfl⟩:=h
  simp
theorem set_two' {w:World} {b:Nat} {x y:Value} {T:TypeId} (h:w.heap[b]? = some (.cells #[x,y] T (0,0))) (u v:Value):((w.setCell ⟨b,0,none⟩ u).setCell ⟨b,1,none⟩ v).heap[b]? = some (.cells #[u,v] T (0,0)):=by
 rw [setCell_at' (setCell_at' h)];rfl
set_option maxRecDepth 100000 in
theorem l3Reply_any (F:Nat->Prop) (t:Ty) (b:Bd) (v:Pl) (k:Nat) (s0:St) (tv mv pt:Value) (nv:List Value) (w:World) (hk:Rep F w (encS t) tv) (hb:Reps F w (encN b) nv) (hm:PlIn F t v mv pt w)
 (h15:atomsT t<=15) (hf:fitB t.args b) (hw:wfB b) (hvk:v.length=k+1) (hke:k % 2=0) (hfo:followsTo t b v k) (hs0:placeAt t b v (k+1)=some s0) :
 Calls Tryz.prog 76 #[.agg #[tv],.agg nv.toArray,.agg #[mv,pt]] w (ReplyQ s0 v mv pt w):=by
 have h60:=valid_len hm.ok
 obtain ⟨s1,hand,hs1,hfit⟩:=place_fits h15 hf hw hm.ok k (by omega) hke hfo
 obtain rfl:s0=s1:=Option.some.inj (hs0.symm.trans hs1)
 obtain ⟨vi,a2,c2,a3,c3,rfl,_,_⟩:=encN_open hb
 obtain ⟨ta,tc,rfl⟩:=encS_slice hk
 obtain ⟨ma,mc,rfl,_⟩:=hm.m.cells
 obtain ⟨pa,pc,rfl,_⟩:=hm.p.cells
 generalize hq0:atomOf b=q0 at *
 generalize hq2:(kidsOf b).length=q2 at *
 generalize hq3:(yesOf b).length=q3 at *
 obtain ⟨W,hW,hbW,hz,b0,b1,b2,b3⟩:=boxes_4 w (.cells #[.slice ta t.args.length tc] 78) (.cells #[str q0,.int .i64 vi,.slice a2 q2 c2,.slice a3 q3 c3] 81) (.cells #[.slice ma v.length mc,.slice pa v.length pc] 33) (.cells #[.slice none 0 0,.slice none 0 0] 33)
 have CW:Hid (Calls Tryz.prog 133 #[.agg #[.slice ta t.args.length tc],.agg #[str q0,.int .i64 vi,.slice a2 q2 c2,.slice a3 q3 c3],.agg #[.slice ma v.length mc,.slice pa v.length pc]] W (WalkQ s0 v W)) :=
  Lib.hid (l3Walk_any F t b v k s0 (.slice ta t.args.length tc) (.slice ma v.length mc) (.slice pa v.length pc) [str q0,.int .i64 vi,.slice a2 q2 c2,.slice a3 q3 c3] W (hk.below hbW fun _ h=>h) ((Rep.keep fun i o hi ho=>⟨hi,by rw [hbW.block i (lt_of_heap ho)];exact ho⟩).2 _ _ hb) (hm.below hbW) h15 hf hw hvk hke hfo hs0)
 have HI:=Lib.hid (And.intro hm (And.intro h15 hfit))
 have HW:=Lib.hid (And.intro hW (And.intro hbW (And.intro hz (And.intro b2 b3))))
 have hv1000:v.length<=1000:=by omega
 have HK:=Lib.hid (show k+1<=100 by omega)
 have g0:=one_cell b0
 obtain ⟨n0,n1,n2,n3⟩:=cells_4 b1
 obtain ⟨c0,c1,_,_⟩:=cells_2 b2
 clear hk hb hm h15 hf hw hvk hke hfo hs0 hs1 hfit hW hbW hz b0 b1 b2 b3
 go_enter Tryz.func76,Tryz.ntmps76
 go_upto_region 1 with (fail)
 rw [HW.out.1]
 go_wp2_with fail
 (with_reducible refine CW.out.mono ?_)
 rintro en w1 ⟨x0,x1,x2,x3,x4,x5,x6,rfl,hb1,hsp⟩
 obtain ⟨begun,args,opens,hspl,hat⟩:=hsp
 obtain ⟨n2',d2,n3',d3,na,da,nb,db,ex,_⟩:=AtD_open hat
 generalize atomOf s0.1=u0 at ex
 generalize lvOf s0.1=u1 at ex
 generalize (kidsOf s0.1).length=u2 at ex
 generalize (yesOf s0.1).length=u3 at ex
 simp only [List.cons.injEq,and_true] at ex
 obtain ⟨rfl,rfl,rfl,rfl,rfl,rfl,rfl⟩:=ex
 obtain ⟨X,hX,hbX,hzX,x0⟩:=box_1 w1 (.cells #[str u0,.int .i64 (u1:Nat),.slice n2' u2 d2,.slice n3' u3 d3,.slice na begun.length da,.slice nb args.length db,.int .i64 (opens:Nat)] 177)
 have hWX:Below W.heap.size W X:=zzT hb1 hbX
 have hwX:Below w.heap.size w X:=zzT HW.out.2.1 hWX
 have hmX:=HI.out.1.below hwX
 have hmT:MvRep (fun _=>True) X v (.slice ma v.length mc):=(Rep.keep fun i o _ ho=>⟨trivial,ho⟩).1 _ _ hmX.m
 have hpT:PtRep (fun _=>True) X v (.slice pa v.length pc):=(Rep.keep fun i o _ ho=>⟨trivial,ho⟩).1 _ _ hmX.p
 have CT:=l3Tell_any v (.slice ma v.length mc) (.slice pa v.length pc) _ _ _ _ _ _ _ X HI.out.2.2 HI.out.2.1 HK.out hv1000 ⟨begun,args,opens,hspl,(Rep.keep fun i o _ ho=>⟨trivial,by rw [hbX.block i (lt_of_heap ho)];exact ho⟩).2 _ _ hat⟩ hmT hpT
 have CWT:=Lib.hid (fun (y:World) (hy:Below X.heap.size X y) (m:Bs) (z:Int)=>l2WithPl v (.slice ma v.length mc) (.slice pa v.length pc) m z y (MvRep.src (Rep.below hy (fun _ h=>h) hmT)) (PtRep.src (Rep.below hy (fun _ h=>h) hpT)) hv1000)
 have p0:=(hWX.cell (World.block_lt_of_cell? _ _ c0)).trans c0
 have p1:=(hWX.cell (World.block_lt_of_cell? _ _ c1)).trans c1
 have b3:=(hWX.block _ (lt_of_heap HW.out.2.2.2.2)).trans HW.out.2.2.2.2
 obtain ⟨e0,e1,e2,e3,e4,e5,e6⟩:=cells_7 x0
 have HX:=Lib.hid (And.intro hX (And.intro hwX b3))
 have hzW:=Lib.hid HW.out.2.2.1
 clear hX hbX hzX x0 hWX hwX hmX hmT hpT b3 hb1 hspl hat c0 c1 g0 n0 n1 n2 n3 CW
 obtain ⟨o,ho⟩:=zzN (told s0)
 cases o with
 | none =>
   have et:tellN s0=([],0,false):=by unfold tellN;rw [ho]
   rw [et] at CT
   have CT:=Lib.hid CT
   have HO:=Lib.hid ho
   clear et ho CWT
   go_upto_region 2 with (fail)
   rw [HX.out.1]
   go_wp2_with fail
   (with_reducible refine CT.out.mono ?_)
   rintro en w2 ⟨rfl,hb2⟩
   have p0':=(hb2.cell (World.block_lt_of_cell? _ _ p0)).trans p0
   have p1':=(hb2.cell (World.block_lt_of_cell? _ _ p1)).trans p1
   have b3:=(hb2.block _ (lt_of_heap HX.out.2.2)).trans HX.out.2.2
   obtain ⟨z0,z1,f0,f1⟩:=cells_2 b3
   have HB:=Lib.hid (And.intro (zzT HX.out.2.1 hb2) b3)
   clear hb2 p0 p1 e0 e1 e2 e3 e4 e5 e6 b3 CT
   go_wp2_with fail
   have hV:=set_two' HB.out.2 (.slice ma v.length mc) (.slice pa v.length pc)
   obtain ⟨s0',s1',_,_⟩:=cells_2 hV
   refine bodyPost_ret (v:=.tuple #[.agg #[.slice ma v.length mc,.slice pa v.length pc],.bool false]) (by simp [results,Tryz.results76,go_sem,s0',s1']) rfl ?_
   refine ⟨_,_,_,_,_,_,by rw [HO.out];rfl,(HB.out.1.setCell (p:=⟨w.heap.size+3,0,none⟩) (Nat.le_add_right _ _) _).setCell (p:=⟨w.heap.size+3,1,none⟩) (Nat.le_add_right _ _) _,fun _=>⟨rfl,rfl⟩,fun x h=>?_⟩
   rw [HO.out] at h;simp at h
 | some x =>
   have et:tellN s0=(x.1,x.2.toNat,true):=by unfold tellN;rw [ho]
   rw [et] at CT
   have hxn:=told_nat ho
   obtain ⟨m,z⟩:=x
   simp only at CT hxn
   obtain ⟨zn,hzn⟩:∃ zn:Nat,z.toNat=zn:=⟨_,rfl⟩
   rw [hzn] at CT hxn
   subst hxn
   have CT:=Lib.hid CT
   have HO:=Lib.hid ho
   clear et ho hzn
   go_upto_region 2 with (fail)
   rw [HX.out.1]
   go_wp2_with fail
   (with_reducible refine CT.out.mono ?_)
   rintro en w2 ⟨rfl,hb2⟩
   have p0':=(hb2.cell (World.block_lt_of_cell? _ _ p0)).trans p0
   have p1':=(hb2.cell (World.block_lt_of_cell? _ _ p1)).trans p1
   have b3:=(hb2.block _ (lt_of_heap HX.out.2.2)).trans HX.out.2.2
   have CW2:=Lib.hid (CWT.out w2 hb2 m (zn:Int))
   have HB:=Lib.hid (And.intro (zzT HX.out.2.1 hb2) b3)
   clear hb2 p0 p1 e0 e1 e2 e3 e4 e5 e6 b3 CT CWT
   go_wp2_with fail
   (with_reducible refine CW2.out.mono ?_)
   rintro en w3 ⟨mvn,ptn,rfl,hpn,hb3,hfn⟩
   obtain ⟨a8,c8,e8⟩:=hpn.1.slice
   obtain ⟨a9,c9,e9⟩:=hpn.2.slice
   subst e8;subst e9
   have b3:=(hb3.block _ (lt_of_heap HB.out.2)).trans HB.out.2
   obtain ⟨z0,z1,f0,f1⟩:=cells_2 b3
   have HB3:=Lib.hid (And.intro (zzT HB.out.1 hb3) (And.intro b3 (And.intro hpn (And.intro hfn (show w.heap.size+3<w2.heap.size from lt_of_heap HB.out.2)))))
   clear hb3 p0' p1' b3 hpn hfn CW2
   generalize hL:(v++[(m,(zn:Int))]).length=L at *
   go_wp2_with fail
   have hV:=set_two' HB3.out.2.1 (.slice a8 L c8) (.slice a9 L c9)
   obtain ⟨s0',s1',_,_⟩:=cells_2 hV
   have hoth:∀ g,g≠w.heap.size+3->((w3.setCell ⟨w.heap.size+3,0,none⟩ (.slice a8 L c8)).setCell ⟨w.heap.size+3,1,none⟩ (.slice a9 L c9)).heap[g]? = w3.heap[g]?:=fun g hg=>by
    rw [Below.heap_setCell _ _ _ _ (by show g≠w.heap.size+3;exact hg),Below.heap_setCell _ _ _ _ (by show g≠w.heap.size+3;exact hg)]
   refine bodyPost_ret (v:=.tuple #[.agg #[.slice a8 L c8,.slice a9 L c9],.bool true]) (by simp [results,Tryz.results76,go_sem,s0',s1']) rfl ?_
   refine ⟨_,_,_,_,_,_,by rw [HO.out];rfl,(HB3.out.1.setCell (p:=⟨w.heap.size+3,0,none⟩) (Nat.le_add_right _ _) _).setCell (p:=⟨w.heap.size+3,1,none⟩) (Nat.le_add_right _ _) _,fun h=>?_,fun x h=>?_⟩
   ·rw [HO.out] at h;simp at h
   ·rw [HO.out] at h
    obtain rfl:=Option.some.inj h
    have hlt:=HB3.out.2.2.2.2
    refine ⟨⟨HB3.out.2.2.1.1.keep fun g o hg ho=>?_,HB3.out.2.2.1.2.keep fun g o hg ho=>?_⟩,fun g hg=>?_⟩
    ·have:=HB3.out.2.2.2.1 g (.inl hg)
     rw [hoth g (by omega)];exact ho
    ·have:=HB3.out.2.2.2.1 g (.inr hg)
     rw [hoth g (by omega)];exact ho
    ·have:=HB3.out.2.2.2.1 g hg;omega
theorem take_at (v:Pl) {n i:Nat} (h:i<n):(v.take n)[i]? = v[i]?:=by rw [List.getElem?_take,if_pos h]
theorem okAt_take (t:Ty) (v:Pl) {n i:Nat} (h:i<n):okAt t (v.take n) i=okAt t v i:=by
 unfold okAt
 rw [take_at v h]
 cases hv:v[i]? with
 | none=>rfl
 | some x =>
   simp only
   by_cases hi:i=0
   ·rw [if_pos hi,if_pos hi]
   ·rw [if_neg hi,if_neg hi]
    by_cases hz:0<=x.2/\x.2<(i:Int)
    ·rw [take_at v (show x.2.toNat<n by omega)]
    ·have:(decide (0<=x.2) && decide (x.2<(i:Int)))=false:=by
      rw [Bool.and_eq_false_iff,decide_eq_false_iff_not,decide_eq_false_iff_not]
      by_cases h0:0<=x.2
      ·exact .inr fun h1=>hz ⟨h0,h1⟩
      ·exact .inl h0
     rw [this,Bool.false_and,Bool.false_and,Bool.false_and]
theorem allAt_take (t:Ty) (v:Pl) {n:Nat}:∀ m,m<=n->allAt t (v.take n) m=allAt t v m
 | 0,_=>rfl
 | m+1,h=>by rw [allAt,allAt,allAt_take t v m (by omega),okAt_take t v (by omega)]
theorem allAt_of {t:Ty} {v:Pl}:∀ {m:Nat},(∀ i,i<m->okAt t v i=true)->allAt t v m=true
 | 0,_=>rfl
 | m+1,h=>by rw [allAt,allAt_of (fun i hi=>h i (by omega)),h m (by omega)];rfl
theorem valid_take {t:Ty} {v:Pl} (h:validPl t v=true) (n:Nat):validPl t (v.take n)=true:=by
 have h60:=valid_len h
 unfold validPl at h ⊢
 rw [Bool.and_eq_true] at h ⊢
 refine ⟨by rw [decide_eq_true_eq,List.length_take];omega,?_⟩
 rw [allAt_take t v _ (by rw [List.length_take];omega)]
 exact allAt_of fun i hi=>allAt_at h.2 (by rw [List.length_take] at hi;omega)
theorem placeF_take {t:Ty} {v:Pl} (h:validPl t v=true) (b:Bd) {n:Nat}:∀ f m,m<=n->m<=v.length->placeF t b (v.take n) f m=placeF t b v f m
 | 0,_,_,_=>rfl
 | f+1,m,hm,hl=>by
   rw [placeF,placeF]
   by_cases h1:m<=1
   ·rw [if_pos h1,if_pos h1]
   ·rw [if_neg h1,if_neg h1,take_at v (show m-1<n by omega)]
    obtain ⟨c,p,z,hv,ho⟩:=valid_at h (show m-1<v.length by omega)
    rw [hv]
    have:=(ho.pos (by omega)).2.1
    simp only
    rw [placeF_take h b f z.toNat (by omega) (by omega)]
theorem placeAt_take {t:Ty} {v:Pl} (h:validPl t v=true) (b:Bd) {n m:Nat} (hm:m<=n) (hl:m<=v.length):placeAt t b (v.take n) m=placeAt t b v m:=placeF_take h b _ m hm hl
theorem follows_take {t:Ty} {v:Pl} (h:validPl t v=true) (b:Bd) {n m:Nat} (hm:m<=n) (hl:m<=v.length) (hf:followsTo t b v m):followsTo t b (v.take n) m:=fun i hi ho=>by
 unfold replyAt
 rw [placeAt_take h b (by omega) (by omega),take_at v (by omega)]
 exact hf i hi ho
theorem PlIn.take {F:Nat->Prop} {t:Ty} {v:Pl} {mv pt:Value} {w:World} (h:PlIn F t v mv pt w) {n:Nat} {mv' pt':Value} (hm:MvRep F w (v.take n) mv') (hp:PtRep F w (v.take n) pt'):PlIn F t (v.take n) mv' pt' w :=
 ⟨hm,hp,valid_take h.ok n,fun x hx=>h.l x (List.mem_of_mem_take hx)⟩
theorem Rep_take {F:Nat->Prop} {w:World} {e:TypeId} {n k:Nat} {cs:List DV} {a:Option Addr} {c:Nat} (h:Rep F w (.sl e 1 n cs) (.slice a n c)) (hk:k<=n) (ha:a≠none):Rep F w (.sl e 1 k (cs.take k)) (.slice a k c):=by
 rw [Rep_sl] at h ⊢
 obtain ⟨hl,a',cap,hv,hn,hz,h⟩:=h
 simp only [Value.slice.injEq,true_and] at hv
 obtain ⟨rfl,rfl⟩:=hv
 rw [Nat.mul_one] at hl
 refine ⟨by rw [List.length_take];omega,a,c,rfl,by omega,fun h=>absurd h ha,?_⟩
 rcases h with h | ⟨b,o,xs,fr,ea,hb,hc,hr⟩
 ·exact .inl (by omega)
 ·refine .inr ⟨b,o,xs,fr,ea,hb,hc,?_⟩
  rw [Nat.mul_one] at hr ⊢
  have h2:=Reps.split (ds:=cs.take k) (es:=cs.drop k) (by rw [List.take_append_drop];exact hr)
  have h3:=h2.1
  rw [List.length_take,show min k cs.length=k from by omega,List.take_take,show min k n=k from by omega] at h3
  exact h3
theorem Own.notBox {w:World} {e T:TypeId} {sz n:Nat} {v:Value} {xs:List Value} (h:Own w e sz v n xs) {g:Nat} {c:Array Value} {fr:Nat×Nat} (hb:w.heap[g]? = some (.cells c T fr)) (he:e≠T):v.ownBlock≠some g:=by
 intro hg
 rcases h.2 with ⟨rfl,_⟩ | ⟨b,cap,cur,rfl,_,hb1,_⟩
 ·simp [Value.ownBlock] at hg
 ·simp [Value.ownBlock] at hg
  subst hg
  rw [hb1] at hb
  simp at hb
  exact he hb.2.1
theorem PlayAt.notBox {w:World} {l:Pl} {mv pt:Value} (h:PlayAt w l mv pt) {T:TypeId} {g:Nat} {c:Array Value} {fr:Nat×Nat} (hb:w.heap[g]? = some (.cells c T fr)) (h1:9≠T) (h2:3≠T):∀ i,mv.ownBlock=some i\/pt.ownBlock=some i->¬ i=g:=by
 intro i hi e
 subst e
 exact hi.elim (h.1.notBox hb h1) (h.2.notBox hb h2)
set_option maxRecDepth 100000 in
theorem l3Cut_at (b1 o1 c1 b2 o2 c2 L L2 n:Nat) (w:World) (h1:n<=c1) (h2:n<=c2) :
 Calls Tryz.prog 116 #[.agg #[.slice (some ⟨b1,o1,none⟩) L c1,.slice (some ⟨b2,o2,none⟩) L2 c2],.int .i64 (n:Nat)] w fun en w'=>en=.returned (.agg #[.slice (some ⟨b1,o1,none⟩) n c1,.slice (some ⟨b2,o2,none⟩) n c2])/\Below w.heap.size w w':=by
 obtain ⟨W,hW,hbW,hz,p0,p1⟩:=boxes_2 w (.cells #[.slice (some ⟨b1,o1,none⟩) L c1,.slice (some ⟨b2,o2,none⟩) L2 c2] 33) (.cells #[.slice none 0 0,.slice none 0 0] 33)
 have h1I:(n:Int)<=(c1:Int):=by omega
 have h2I:(n:Int)<=(c2:Int):=by omega
 have HW:=Lib.hid (And.intro hW (And.intro hbW (And.intro hz (And.intro p0 p1))))
 have KEY:=Lib.hid (fun (y:World) (hy:Below W.heap.size W y)=>(show y.cell? ⟨w.heap.size,0,none⟩=some (.slice (some ⟨b1,o1,none⟩) L c1)/\y.cell? ⟨w.heap.size,1,none⟩=some (.slice (some ⟨b2,o2,none⟩) L2 c2) from by
  obtain ⟨c0,c1,_,_⟩:=cells_2 p0
  exact ⟨(hy.cell (World.block_lt_of_cell? _ _ c0)).trans c0,(hy.cell (World.block_lt_of_cell? _ _ c1)).trans c1⟩))
 clear hW hbW hz p0 p1 h1 h2
 go_enter Tryz.func116,Tryz.ntmps116
 go_upto_region 1 with (fail)
 rw [HW.out.1]
 refine wp_region_noPanic ?_
 refine wp_region_S (fun w'=>Below W.heap.size W w') (fun i=>i=9) (by kernel_rfl) ?_
 have hSd:(fun w'=>Below W.heap.size W w') W.drew:=Below.drew (Below.refl _ _)
 refine wpAnyS_take 0 (v:=?_) (by kernel_rfl) (by kernel_rfl) (by kernel_rfl) (by kernel_rfl) (fun _ _ _ _ h=>h) hSd ?_ ?_
 rotate_left
 ·(intro oi ho;simp at ho;subst ho;refine Or.inl ⟨by rfl,fun w' hw'=>?_⟩;go_simp;try with_reducible rfl)
 (intro d hd;simp at hd;subst hd;simp only [Act.put,List.setIfInBounds_toArray,List.set_cons_zero,List.set_cons_succ])
 refine wpAnyS_take 1 (v:=?_) (by kernel_rfl) (by kernel_rfl) (by kernel_rfl) (by kernel_rfl) (fun _ _ _ _ h=>h) hSd ?_ ?_
 rotate_left
 ·(intro oi ho;simp at ho;subst ho;refine Or.inl ⟨by rfl,fun w' hw'=>?_⟩;have e0:=(KEY.out w' hw').1;go_simp;try with_reducible rfl)
 (intro d hd;simp at hd;subst hd;simp only [Act.put,List.setIfInBounds_toArray,List.set_cons_zero,List.set_cons_succ])
 refine wpAnyS_take 2 (v:=?_) (by kernel_rfl) (by kernel_rfl) (by kernel_rfl) (by kernel_rfl) (fun _ _ _ _ h=>h) hSd ?_ ?_
 rotate_left
 ·(intro oi ho;simp at ho;subst ho;refine Or.inl ⟨by rfl,fun w' hw'=>?_⟩;go_simp;try with_reducible rfl)
 (intro d hd;simp at hd;subst hd;simp only [Act.put,List.setIfInBounds_toArray,List.set_cons_zero,List.set_cons_succ])
 refine wpAnyS_take 3 (v:=?_) (by kernel_rfl) (by kernel_rfl) (by kernel_rfl) (by kernel_rfl) (fun _ _ _ _ h=>h) hSd ?_ ?_
 rotate_left
 ·(intro oi ho;simp at ho;subst ho;refine Or.inl ⟨by rfl,fun w' hw'=>?_⟩;go_simp;try with_reducible rfl)
 (intro d hd;simp at hd;subst hd;simp only [Act.put,List.setIfInBounds_toArray,List.set_cons_zero,List.set_cons_succ])
 refine wpAnyS_take 4 (v:=?_) (by kernel_rfl) (by kernel_rfl) (by kernel_rfl) (by kernel_rfl) (fun _ _ _ _ h=>h) hSd ?_ ?_
 rotate_left
 ·(intro oi ho;simp at ho;subst ho;refine Or.inl ⟨by rfl,fun w' hw'=>?_⟩;go_simp;try with_reducible rfl)
 (intro d hd;simp at hd;subst hd;simp only [Act.put,List.setIfInBounds_toArray,List.set_cons_zero,List.set_cons_succ])
 refine wpAnyS_take 5 (v:=?_) (by kernel_rfl) (by kernel_rfl) (by kernel_rfl) (by kernel_rfl) (fun _ _ _ _ h=>h) hSd ?_ ?_
 rotate_left
 ·(intro oi ho;simp at ho;subst ho;refine Or.inl ⟨by rfl,fun w' hw'=>?_⟩;have e0:=(KEY.out w' hw').2;go_simp;try with_reducible rfl)
 (intro d hd;simp at hd;subst hd;simp only [Act.put,List.setIfInBounds_toArray,List.set_cons_zero,List.set_cons_succ])
 refine wpAnyS_take 6 (v:=?_) (by kernel_rfl) (by kernel_rfl) (by kernel_rfl) (by kernel_rfl) (fun _ _ _ _ h=>h) hSd ?_ ?_
 rotate_left
 ·(intro oi ho;simp at ho;subst ho;refine Or.inl ⟨by rfl,fun w' hw'=>?_⟩;go_simp;try with_reducible rfl)
 (intro d hd;simp at hd;subst hd;simp only [Act.put,List.setIfInBounds_toArray,List.set_cons_zero,List.set_cons_succ])
 refine wpAnyS_take 7 (v:=?_) (by kernel_rfl) (by kernel_rfl) (by kernel_rfl) (by kernel_rfl) (fun _ _ _ _ h=>h) hSd ?_ ?_
 rotate_left
 ·(intro oi ho;simp at ho;subst ho;refine Or.inl ⟨by rfl,fun w' hw'=>?_⟩;go_simp;try with_reducible rfl)
 (intro d hd;simp at hd;subst hd;simp only [Act.put,List.setIfInBounds_toArray,List.set_cons_zero,List.set_cons_succ])
 refine wpAnyS_take 8 (v:=?_) (by kernel_rfl) (by kernel_rfl) (by kernel_rfl) (by kernel_rfl) (fun _ _ _ _ h=>h) hSd ?_ ?_
 rotate_left
 ·(intro oi ho;simp at ho;subst ho;refine Or.inl ⟨by rfl,fun w' hw'=>?_⟩;go_simp;try with_reducible rfl)
 (intro d hd;simp at hd;subst hd;simp only [Act.put,List.setIfInBounds_toArray,List.set_cons_zero,List.set_cons_succ])
 refine wpAnyS_one 9 (by kernel_rfl) ?_
 (intro o9 ho K' hK;simp at ho;subst ho)
 have xx:=HW.out.2.2.2.2
 obtain ⟨e0,e1,f0,f1⟩:=cells_2 (w:=W.drew) xx
 obtain ⟨e0',e1',f0',f1'⟩:=cells_2 xx
 go_simp
 refine hK.out _ _ ?_ ?_
 ·intro h;simp at h
 clear hK K'
 (try simp only [Act.put,List.setIfInBounds_toArray,List.set_cons_zero,List.set_cons_succ])
 refine wpAnyS_done (by kernel_rfl) (NoPanic.normal ?_) _
 have xx:=HW.out.2.2.2.2
 have hV:=set_two' (w:=W.drew) xx (.slice (some ⟨b1,o1,none⟩) n c1) (.slice (some ⟨b2,o2,none⟩) n c2)
 obtain ⟨s0',s1',_,_⟩:=cells_2 hV
 have hV1:(W.setCell ⟨w.heap.size+1,0,none⟩ (.slice (some ⟨b1,o1,none⟩) n c1)).heap[w.heap.size+1]? = some (.cells #[.slice (some ⟨b1,o1,none⟩) n c1,.slice none 0 0] 33 (0,0)):=by rw [setCell_at' xx];rfl
 obtain ⟨t0,_,_,_⟩:=cells_2 hV1
 have hV2:=set_two' xx (.slice (some ⟨b1,o1,none⟩) n c1) (.slice (some ⟨b2,o2,none⟩) n c2)
 obtain ⟨r0,r1,_,_⟩:=cells_2 hV2
 go_wp2_with fail
 have hbF:=((HW.out.2.1.drew).setCell (p:=⟨w.heap.size+1,0,none⟩) (Nat.le_succ _) (.slice (some ⟨b1,o1,none⟩) n c1)).setCell (p:=⟨w.heap.size+1,1,none⟩) (Nat.le_succ _) (.slice (some ⟨b2,o2,none⟩) n c2)
 refine bodyPost_ret (v:=.agg #[.slice (some ⟨b1,o1,none⟩) n c1,.slice (some ⟨b2,o2,none⟩) n c2]) (by simp [results,Tryz.results116,go_sem,s0',s1',t0,r0,r1]) rfl ?_
 exact ⟨rfl,hbF⟩
end Go.Proofs.YtdfkiicodfbibaaGreatDoor

/- Walks of functions that the statement reaches, and plain words. No conditions. -/
import Derived.Maps.Own
import Derived.Maps.Views
import Derived.Test.YtfedjhgaeikjmaaGreatDoorQ6
set_option linter.unusedVariables false
set_option linter.unusedSimpArgs false
set_option maxHeartbeats 8000000
namespace Go.Proofs.YtfedjhgaeikjmaaGreatDoor
open Go.RowKit
theorem wpAnyS_named {P:Program} {md:Region.Mode} {ops:Array Oper} {Q:Exit->Act->World->Prop} {S:World->Prop} {T:Nat->Bool} {f:Nat} {l:Array Bool} {a:Act} {w:World} (h:∀ G:Nat->Array Bool->Act->World->Prop,G=kR P md ops Q S T->∀ b:Act,b=a->G f l b w):kR P md ops Q S T f l a w:=h _ rfl _ rfl
theorem ofL {G:Nat->Array Bool->Act->World->Prop} {f:Nat} {l l':Array Bool} {a a':Act} {w:World} (k:G f l a w) (hl:l=l') (ha:a=a'):G f l' a' w:=by subst hl ha;exact k
theorem boxes_4 (w:World) (A B C D:Obj):∃ W,(((w.alloc A).alloc B).alloc C).alloc D=W/\Below w.heap.size w W/\W.heap.size=w.heap.size+4/\W.heap[w.heap.size]? = some A/\W.heap[w.heap.size+1]? = some B/\W.heap[w.heap.size+2]? = some C/\W.heap[w.heap.size+3]? = some D:=by
 obtain ⟨X,hX,dp,hz,x0,x1⟩:=kH w A B
 obtain ⟨Y,hY,fF,mG,y0,y1⟩:=kH X C D
 rw [hX,hY]
 have hl:=dp.size
 refine ⟨Y,rfl,dp.trans (fF.mono hl),by omega,(fF.block _ (zZ x0)).trans x0,(fF.block _ (zZ x1)).trans x1,?_,?_⟩
 ·rw [<- hz];exact y0
 ·rw [show w.heap.size+3=X.heap.size+1 from by omega];exact y1
def BegP (s:Bs) (v:Int) (a2:Option Addr) (n2 c2:Nat) (a3:Option Addr) (n3 c3:Nat) (begun args:List Nat) (n idx:Nat) (w:World) (en:Ending) (w':World):Prop :=
 ∃ ba bc aa ac,en=.returned (.agg #[str s,.int .i64 v,.slice a2 n2 c2,.slice a3 n3 c3,.slice ba (begun.length+n) bc,.slice aa (args.length+n) ac,.int .i64 (idx:Nat)])/\Below w.heap.size w w' /\
   Rep (w.heap.size<=·) w' (numD (begun++List.replicate n idx)) (.slice ba (begun.length+n) bc)/\Rep (w.heap.size<=·) w' (numD (args++List.range n)) (.slice aa (args.length+n) ac)
def zT (ns:List Nat):List Value:=ns.map fun n=>Value.int .i64 (n:Nat)
theorem Own.numD {F:Nat->Prop} {w:World} {ns:List Nat} {a:Option Addr} {n c:Nat} (h:Own w 3 1 (.slice a n c) n (zT ns)) (hn:n=ns.length) (hF:∀ g,(Value.slice a n c).ownBlock=some g->F g):Rep F w (numD ns) (.slice a n c):=by
 subst hn
 refine h.rep hF ?_
 rw [show (ns.map fun n=>DV.val (.int .i64 (n:Nat)))=(zT ns).map DV.val from by simp [zT,Function.comp_def]]
 exact (qK _ _).2 rfl
theorem cells7_set4 {w:World} {b:Nat} {x0 x1 x2 x3 x4 x5 x6:Value} {T:TypeId} (h:w.heap[b]? = some (.cells #[x0,x1,x2,x3,x4,x5,x6] T (0,0))) (u:Value):(w.setCell ⟨b,4,none⟩ u).heap[b]? = some (.cells #[x0,x1,x2,x3,u,x5,x6] T (0,0)):=by rw [zK h];rfl
theorem cells7_set5 {w:World} {b:Nat} {x0 x1 x2 x3 x4 x5 x6:Value} {T:TypeId} (h:w.heap[b]? = some (.cells #[x0,x1,x2,x3,x4,x5,x6] T (0,0))) (u:Value):(w.setCell ⟨b,5,none⟩ u).heap[b]? = some (.cells #[x0,x1,x2,x3,x4,u,x6] T (0,0)):=by rw [zK h];rfl
theorem wY {w:World} {b:Nat} {x0 x1 x2 x3 x4 x5 x6:Value} {T:TypeId} (h:w.heap[b]? = some (.cells #[x0,x1,x2,x3,x4,x5,x6] T (0,0))) (y0 y1 y2 y3 y4 y5 y6:Value) :
 (((((((w.setCell ⟨b,0,none⟩ y0).setCell ⟨b,1,none⟩ y1).setCell ⟨b,2,none⟩ y2).setCell ⟨b,3,none⟩ y3).setCell ⟨b,4,none⟩ y4).setCell ⟨b,5,none⟩ y5).setCell ⟨b,6,none⟩ y6).heap[b]? = some (.cells #[y0,y1,y2,y3,y4,y5,y6] T (0,0)):=by
 rw [zK (zK (zK (zK (zK (zK (zK h))))))];rfl
structure BegI (g:Nat) (s:Bs) (v:Int) (a2:Option Addr) (n2 c2:Nat) (a3:Option Addr) (n3 c3:Nat) (nb na:Nat) (xs ys:List Nat) (idx:Nat) (k:Nat) (a5:Option Addr) (c5:Nat) (a6:Option Addr) (c6:Nat) (w wr:World):Prop where
 below:Below w.heap.size w wr
 box:wr.heap[g]? = some (.cells #[str s,.int .i64 v,.slice a2 n2 c2,.slice a3 n3 c3,.slice a5 (nb+k) c5,.slice a6 (na+k) c6,.int .i64 (idx:Nat)] 145 (0,0))
 o5:Own wr 3 1 (.slice a5 (nb+k) c5) (nb+k) (zT xs++List.replicate k (.int .i64 (idx:Nat)))
 o6:Own wr 3 1 (.slice a6 (na+k) c6) (na+k) (zT ys++zT (List.range k))
 gw:w.heap.size<=g
 f5:∀ i,(Value.slice a5 (nb+k) c5).ownBlock=some i->w.heap.size<=i/\i≠g
 f6:∀ i,(Value.slice a6 (na+k) c6).ownBlock=some i->w.heap.size<=i/\i≠g
 ap:∀ i,(Value.slice a5 (nb+k) c5).ownBlock=some i->(Value.slice a6 (na+k) c6).ownBlock≠some i
theorem BegI.half {g:Nat} {s:Bs} {v:Int} {a2:Option Addr} {n2 c2:Nat} {a3:Option Addr} {n3 c3:Nat} {nb na:Nat} {xs ys:List Nat} {idx k:Nat} {a5:Option Addr} {c5:Nat} {a6:Option Addr} {c6:Nat} {w wr:World} (h:BegI g s v a2 n2 c2 a3 n3 c3 nb na xs ys idx k a5 c5 a6 c6 w wr)
 {a7:Option Addr} {c7:Nat} {w7:World} {o:Obj} (ho:Own w7 3 1 (.slice a7 (nb+k+1) c7) (nb+k+1) (zT xs++List.replicate k (.int .i64 (idx:Nat))++[.int .i64 (idx:Nat)])) (hb:But (fun b=>(Value.slice a5 (nb+k) c5).ownBlock=some b) (wr.alloc o) w7)
 (hg:∀ i,(Value.slice a7 (nb+k+1) c7).ownBlock=some i->(Value.slice a5 (nb+k) c5).ownBlock=some i\/i=wr.heap.size+1) :
 ∃ W7,w7.setCell ⟨g,4,none⟩ (.slice a7 (nb+k+1) c7)=W7/\Below w.heap.size w W7/\W7.heap[g]? = some (.cells #[str s,.int .i64 v,.slice a2 n2 c2,.slice a3 n3 c3,.slice a7 (nb+k+1) c7,.slice a6 (na+k) c6,.int .i64 (idx:Nat)] 145 (0,0)) /\
   Own W7 3 1 (.slice a7 (nb+k+1) c7) (nb+k+1) (zT xs++List.replicate (k+1) (.int .i64 (idx:Nat)))/\Own W7 3 1 (.slice a6 (na+k) c6) (na+k) (zT ys++zT (List.range k)) /\
   (∀ i,(Value.slice a7 (nb+k+1) c7).ownBlock=some i->w.heap.size<=i/\i≠g)/\(∀ i,(Value.slice a7 (nb+k+1) c7).ownBlock=some i->(Value.slice a6 (na+k) c6).ownBlock≠some i):=by
 have hz:=h.below.size
 have Be:=zZ h.box
 have Dd:∀ i,(Value.slice a6 (na+k) c6).ownBlock=some i->i<wr.heap.size:=fun i hi=>h.o6.lt hi
 have hlt5:∀ i,(Value.slice a5 (nb+k) c5).ownBlock=some i->i<wr.heap.size:=fun i hi=>h.o5.lt hi
 have Af:∀ i,(Value.slice a7 (nb+k+1) c7).ownBlock=some i->w.heap.size<=i/\i≠g:=fun i hi=>by
  rcases hg i hi with e | e
  ·exact h.f5 i e
  ·omega
 have DR:w7.heap[g]? = some (.cells #[str s,.int .i64 v,.slice a2 n2 c2,.slice a3 n3 c3,.slice a5 (nb+k) c5,.slice a6 (na+k) c6,.int .i64 (idx:Nat)] 145 (0,0)) :=
  (hb.block g (by rw [zQ];omega) (fun e=>(h.f5 g e).2 rfl)).trans (zD h.box)
 refine ⟨_,rfl,?_,cells7_set4 DR _,?_,?_,Af,fun i hi=>?_⟩
 ·exact ((h.below.alloc hz o).trans (hb.toBelow (by rw [zQ];omega) fun i hi e=>by have:=(h.f5 i e).1;omega)).setCell (p:=⟨g,4,none⟩) h.gw _
 ·rw [List.append_assoc] at ho
  rw [List.replicate_succ']
  exact ho.keep fun i x hi hx=>by rw [bG _ _ _ _ (by show i≠g;exact (Af i hi).2)];exact hx
 ·exact h.o6.keep fun i x hi hx=>by
   rw [bG _ _ _ _ (by show i≠g;exact (h.f6 i hi).2),hb.block i (by rw [zQ];have:=Dd i hi;omega) (fun e=>h.ap i e hi)];exact zD hx
 ·rcases hg i hi with e | e
  ·exact h.ap i e
  ·intro e6;have:=Dd i e6;omega
theorem BegI.next {g:Nat} {s:Bs} {v:Int} {a2:Option Addr} {n2 c2:Nat} {a3:Option Addr} {n3 c3:Nat} {nb na:Nat} {xs ys:List Nat} {idx k:Nat} {a7:Option Addr} {c7:Nat} {a6:Option Addr} {c6:Nat} {w wr:World} (fT:Below w.heap.size w wr) (hgw:w.heap.size<=g)
 (mY:wr.heap[g]? = some (.cells #[str s,.int .i64 v,.slice a2 n2 c2,.slice a3 n3 c3,.slice a7 (nb+k+1) c7,.slice a6 (na+k) c6,.int .i64 (idx:Nat)] 145 (0,0)))
 (o5:Own wr 3 1 (.slice a7 (nb+k+1) c7) (nb+k+1) (zT xs++List.replicate (k+1) (.int .i64 (idx:Nat)))) (o6:Own wr 3 1 (.slice a6 (na+k) c6) (na+k) (zT ys++zT (List.range k)))
 (f5:∀ i,(Value.slice a7 (nb+k+1) c7).ownBlock=some i->w.heap.size<=i/\i≠g) (f6:∀ i,(Value.slice a6 (na+k) c6).ownBlock=some i->w.heap.size<=i/\i≠g) (ap:∀ i,(Value.slice a7 (nb+k+1) c7).ownBlock=some i->(Value.slice a6 (na+k) c6).ownBlock≠some i)
 {a8:Option Addr} {c8:Nat} {w8:World} {o:Obj} (ho:Own w8 3 1 (.slice a8 (na+k+1) c8) (na+k+1) (zT ys++zT (List.range k)++[.int .i64 (k:Nat)])) (hb:But (fun b=>(Value.slice a6 (na+k) c6).ownBlock=some b) (wr.alloc o) w8)
 (hg:∀ i,(Value.slice a8 (na+k+1) c8).ownBlock=some i->(Value.slice a6 (na+k) c6).ownBlock=some i\/i=wr.heap.size+1) :
 BegI g s v a2 n2 c2 a3 n3 c3 nb na xs ys idx (k+1) a7 c7 a8 c8 w (w8.setCell ⟨g,5,none⟩ (.slice a8 (na+k+1) c8)):=by
 have hz:=fT.size
 have Be:=zZ mY
 have Dc:∀ i,(Value.slice a7 (nb+k+1) c7).ownBlock=some i->i<wr.heap.size:=fun i hi=>o5.lt hi
 have hf8:∀ i,(Value.slice a8 (na+k+1) c8).ownBlock=some i->w.heap.size<=i/\i≠g:=fun i hi=>by
  rcases hg i hi with e | e
  ·exact f6 i e
  ·omega
 have m7:w8.heap[g]? = some (.cells #[str s,.int .i64 v,.slice a2 n2 c2,.slice a3 n3 c3,.slice a7 (nb+k+1) c7,.slice a6 (na+k) c6,.int .i64 (idx:Nat)] 145 (0,0)) :=
  (hb.block g (by rw [zQ];omega) (fun e=>(f6 g e).2 rfl)).trans (zD mY)
 refine ⟨?_,cells7_set5 m7 _,?_,?_,hgw,f5,hf8,fun i hi e8=>?_⟩
 ·exact ((fT.alloc hz o).trans (hb.toBelow (by rw [zQ];omega) fun i hi e=>by have:=(f6 i e).1;omega)).setCell (p:=⟨g,5,none⟩) hgw _
 ·exact o5.keep fun i x hi hx=>by
   rw [bG _ _ _ _ (by show i≠g;exact (f5 i hi).2),hb.block i (by rw [zQ];have:=Dc i hi;omega) (fun e=>ap i hi e)];exact zD hx
 ·have e:zT ys++zT (List.range (k+1))=zT ys++zT (List.range k)++[.int .i64 (k:Nat)]:=by simp [zT,List.range_succ]
  rw [e]
  exact ho.keep fun i x hi hx=>by rw [bG _ _ _ _ (by show i≠g;exact (hf8 i hi).2)];exact hx
 ·rcases hg i e8 with e | e
  ·exact ap i hi e
  ·have:=Dc i hi;omega
set_option maxRecDepth 100000 in
theorem wl (F:Nat->Prop) (begun args:List Nat) (s0:Bs) (v0:Int) (p2:Option Addr) (m2 d2:Nat) (p3:Option Addr) (m3 d3:Nat) (ba:Option Addr) (bc:Nat) (aa:Option Addr) (ac:Nat) (op:Int) (s:Bs) (v:Int) (a2:Option Addr) (n2 c2:Nat) (a3:Option Addr) (n3 c3:Nat) (t:Ty) (tv:Value) (idx:Nat) (w:World)
 (nF:Rep F w (numD begun) (.slice ba begun.length bc)) (har:Rep F w (numD args) (.slice aa args.length ac)) (ht:Rep F w (qZ t) tv) (bL:t.args.length<=20) (aH:begun.length<=1000) (Di:args.length<=1000) :
 Calls Tryz.prog 128 #[.agg #[str s0,.int .i64 v0,.slice p2 m2 d2,.slice p3 m3 d3,.slice ba begun.length bc,.slice aa args.length ac,.int .i64 op],.agg #[str s,.int .i64 v,.slice a2 n2 c2,.slice a3 n3 c3],.agg #[tv],.int .i64 (idx:Nat)] w (BegP s v a2 n2 c2 a3 n3 c3 begun args t.args.length idx w):=by
 obtain ⟨ta,tc,rfl⟩:=zu ht
 obtain ⟨W,hW,bM,hz,b0,b1,b2,b3⟩:=boxes_4 w (.cells #[str s0,.int .i64 v0,.slice p2 m2 d2,.slice p3 m3 d3,.slice ba begun.length bc,.slice aa args.length ac,.int .i64 op] 145) (.cells #[str s,.int .i64 v,.slice a2 n2 c2,.slice a3 n3 c3] 64) (.cells #[.slice ta t.args.length tc] 61) (.cells #[str [],.int .i64 0,.slice none 0 0,.slice none 0 0,.slice none 0 0,.slice none 0 0,.int .i64 0] 145)
 have SB:=bU (fun x (hx:Below W.heap.size W x)=>((numD_src nF).below bM).below hx)
 have SA:=bU (fun x (hx:Below W.heap.size W x)=>((numD_src har).below bM).below hx)
 have KEY:Hid (∀ x,Below W.heap.size W x->x.cell? ⟨w.heap.size,4,none⟩=some (.slice ba begun.length bc)/\x.cell? ⟨w.heap.size,5,none⟩=some (.slice aa args.length ac)/\x.cell? ⟨w.heap.size+1,0,none⟩=some (str s)/\x.cell? ⟨w.heap.size+1,1,none⟩=some (.int .i64 v)/\x.cell? ⟨w.heap.size+1,2,none⟩=some (.slice a2 n2 c2)/\x.cell? ⟨w.heap.size+1,3,none⟩=some (.slice a3 n3 c3)/\x.cell? ⟨w.heap.size+2,0,none⟩=some (.slice ta t.args.length tc)):=bU (fun x hx=>by
  obtain ⟨_,_,_,_,k4,k5,_⟩:=qh b0
  obtain ⟨k0,k1,k2,k3⟩:=zl b1
  have k6:=kP b2
  exact ⟨(hx.cell (bW _ _ k4)).trans k4,(hx.cell (bW _ _ k5)).trans k5,(hx.cell (bW _ _ k0)).trans k0,(hx.cell (bW _ _ k1)).trans k1,(hx.cell (bW _ _ k2)).trans k2,(hx.cell (bW _ _ k3)).trans k3,(hx.cell (bW _ _ k6)).trans k6⟩)
 have HW:=bU (bY hW (bY bM (bY hz b3)))
 clear hW bM hz b0 b1 b2 b3 nF har ht
 go_enter Tryz.func128,Tryz.ntmps128
 go_upto_region 1 with (fail)
 rw [HW.out.1]
 refine ji (X:=Nat×Nat×Nat×Option Addr×Nat×Option Addr×Nat) (fun zz x=>((((((((((((zz.put (some 11) (.agg #[str s,.int .i64 v,.slice a2 n2 c2,.slice a3 n3 c3])).put (some 12) (.slice (some ⟨x.1,0,none⟩) 0 0)).put (some 13) (.pointer (some ⟨w.heap.size,4,none⟩))).put (some 14) (.slice ba begun.length bc)).put (some 15) (.slice x.2.2.2.1 begun.length x.2.2.2.2.1)).put (some 16) (.slice (some ⟨x.2.1,0,none⟩) 0 0)).put (some 17) (.pointer (some ⟨w.heap.size,5,none⟩))).put (some 18) (.slice aa args.length ac)).put (some 19) (.slice x.2.2.2.2.2.1 args.length x.2.2.2.2.2.2)).put (some 20) (.int .i64 (idx:Nat))).put (some 21) (.agg #[str s,.int .i64 v,.slice a2 n2 c2,.slice a3 n3 c3,.slice x.2.2.2.1 begun.length x.2.2.2.2.1,.slice x.2.2.2.2.2.1 args.length x.2.2.2.2.2.2,.int .i64 (idx:Nat)])).put (some 9) (.pointer (some ⟨x.2.2.1,0,none⟩)))) (fun x w7=>BegI x.2.2.1 s v a2 n2 c2 a3 n3 c3 begun.length args.length begun args idx 0 x.2.2.2.1 x.2.2.2.2.1 x.2.2.2.2.2.1 x.2.2.2.2.2.2 W w7) ?_ ?_
 ·refine wp_region_noPanic ?_
  refine zX (fun w'=>Below W.heap.size W w') (fun _=>false) (by kernel_rfl) ?_
  obtain ⟨y0,cM⟩:=zzN (W.drew)
  rw [cM]
  have bO:Below W.heap.size W y0:=by rw [<- cM];exact Below.drew (bP _ _)
  obtain ⟨dr,dH⟩:∃ x:Nat->Nat,x=fun _=>0:=⟨_,rfl⟩
  clear cM dH
  (try simp only [pQ,pN,pZ,pS])
  refine wpAnyS_named fun GG hG bF hb=>?_
  have ST0:∀ (gA:Nat) (gB:Nat) (gP:Nat) (aA:Option Addr) (cA:Nat) (aB:Option Addr) (cB:Nat) (y:World) (tg:Nat->Nat),Below W.heap.size W y->Hid (Res W.heap.size tg 1 y 3 (.slice aA (begun.length) cA) begun.length (zT begun))->Hid (Res W.heap.size tg 2 y 3 (.slice aB (args.length) cB) args.length (zT args))->Hid (y.heap[gP]? = some (.cells #[str s,.int .i64 v,.slice a2 n2 c2,.slice a3 n3 c3,.slice aA begun.length cA,.slice aB args.length cB,.int .i64 (idx:Nat)] 145 (0,0))/\tg gP=3/\W.heap.size<=gP)->GG 0 #[true,true,true,true,true,true,true,true,true,true,true,true,true] ((((((((((((bF.put (some 11) (.agg #[str s,.int .i64 v,.slice a2 n2 c2,.slice a3 n3 c3])).put (some 12) (.slice (some ⟨gA,0,none⟩) 0 0)).put (some 13) (.pointer (some ⟨w.heap.size,4,none⟩))).put (some 14) (.slice ba begun.length bc)).put (some 15) (.slice aA begun.length cA)).put (some 16) (.slice (some ⟨gB,0,none⟩) 0 0)).put (some 17) (.pointer (some ⟨w.heap.size,5,none⟩))).put (some 18) (.slice aa args.length ac)).put (some 19) (.slice aB args.length cB)).put (some 20) (.int .i64 (idx:Nat))).put (some 21) (.agg #[str s,.int .i64 v,.slice a2 n2 c2,.slice a3 n3 c3,.slice aA begun.length cA,.slice aB args.length cB,.int .i64 (idx:Nat)])).put (some 9) (.pointer (some ⟨gP,0,none⟩))) y:=by
   intro gA gB gP aA cA aB cB y tg bz RA RB EP
   rw [hG,hb]
   (try simp only [pQ,pN,pZ,pS])
   clear hG hb
   refine zU (by kernel_rfl) (NoPanic.normal ?_) _
   refine ⟨rfl,⟨gA,gB,gP,aA,cA,aB,cB⟩,by rfl,?_⟩
   exact { below:=bz,box:=EP.out.1,o5:=by rw [List.replicate_zero,List.append_nil];exact RA.out.1,o6:=by rw [show zT args++zT (List.range 0)=zT args from by simp [zT]];exact RB.out.1,gw:=EP.out.2.2,f5:=fun i hi=>⟨(RA.out.2 i hi).2,fun e=>by have h1:=(RA.out.2 i hi).1;rw [e,EP.out.2.1] at h1;exact absurd h1 (by decide)⟩,f6:=fun i hi=>⟨(RB.out.2 i hi).2,fun e=>by have h1:=(RB.out.2 i hi).1;rw [e,EP.out.2.1] at h1;exact absurd h1 (by decide)⟩,ap:=fun i hi e=>by have h1:=(RA.out.2 i hi).1;have h2:=(RB.out.2 i e).1;rw [h1] at h2;exact absurd h2 (by decide) }
  have ST1:∀ (gA:Nat) (gB:Nat) (gP:Nat) (aA:Option Addr) (cA:Nat) (aB:Option Addr) (cB:Nat) (y:World) (tg:Nat->Nat),Below W.heap.size W y->Hid (Res W.heap.size tg 1 y 3 (.slice aA (begun.length) cA) begun.length (zT begun))->Hid (Res W.heap.size tg 2 y 3 (.slice aB (args.length) cB) args.length (zT args))->Hid (y.heap[gP]? = some (.cells #[str [],.int .i64 0,.slice none 0 0,.slice none 0 0,.slice none 0 0,.slice none 0 0,.int .i64 0] 145 (0,0))/\tg gP=3/\W.heap.size<=gP)->GG 1 #[true,true,true,true,true,true,true,true,true,true,true,true,false] ((((((((((((bF.put (some 11) (.agg #[str s,.int .i64 v,.slice a2 n2 c2,.slice a3 n3 c3])).put (some 12) (.slice (some ⟨gA,0,none⟩) 0 0)).put (some 13) (.pointer (some ⟨w.heap.size,4,none⟩))).put (some 14) (.slice ba begun.length bc)).put (some 15) (.slice aA begun.length cA)).put (some 16) (.slice (some ⟨gB,0,none⟩) 0 0)).put (some 17) (.pointer (some ⟨w.heap.size,5,none⟩))).put (some 18) (.slice aa args.length ac)).put (some 19) (.slice aB args.length cB)).put (some 20) (.int .i64 (idx:Nat))).put (some 21) (.agg #[str s,.int .i64 v,.slice a2 n2 c2,.slice a3 n3 c3,.slice aA begun.length cA,.slice aB args.length cB,.int .i64 (idx:Nat)])).put (some 9) (.pointer (some ⟨gP,0,none⟩))) y:=by
   intro gA gB gP aA cA aB cB y tg bz RA RB EP
   rw [hG,hb]
   (try simp only [pQ,pN,pZ,pS])
   (refine on 12 ?_;intro o ho K' hK;simp at ho;subst ho)
   obtain ⟨uP0,cP0⟩:∃ u,y.cell? ⟨gP,0,none⟩=some u:=⟨_,by simp [World.cell?,EP.out.1];rfl⟩
   have fP0:y.frozen? ⟨gP,0,none⟩=false:=by simp [World.frozen?,EP.out.1]
   obtain ⟨uP1,cP1⟩:∃ u,y.cell? ⟨gP,1,none⟩=some u:=⟨_,by simp [World.cell?,EP.out.1];rfl⟩
   have fP1:y.frozen? ⟨gP,1,none⟩=false:=by simp [World.frozen?,EP.out.1]
   obtain ⟨uP2,cP2⟩:∃ u,y.cell? ⟨gP,2,none⟩=some u:=⟨_,by simp [World.cell?,EP.out.1];rfl⟩
   have fP2:y.frozen? ⟨gP,2,none⟩=false:=by simp [World.frozen?,EP.out.1]
   obtain ⟨uP3,cP3⟩:∃ u,y.cell? ⟨gP,3,none⟩=some u:=⟨_,by simp [World.cell?,EP.out.1];rfl⟩
   have fP3:y.frozen? ⟨gP,3,none⟩=false:=by simp [World.frozen?,EP.out.1]
   obtain ⟨uP4,cP4⟩:∃ u,y.cell? ⟨gP,4,none⟩=some u:=⟨_,by simp [World.cell?,EP.out.1];rfl⟩
   have fP4:y.frozen? ⟨gP,4,none⟩=false:=by simp [World.frozen?,EP.out.1]
   obtain ⟨uP5,cP5⟩:∃ u,y.cell? ⟨gP,5,none⟩=some u:=⟨_,by simp [World.cell?,EP.out.1];rfl⟩
   have fP5:y.frozen? ⟨gP,5,none⟩=false:=by simp [World.frozen?,EP.out.1]
   obtain ⟨uP6,cP6⟩:∃ u,y.cell? ⟨gP,6,none⟩=some u:=⟨_,by simp [World.cell?,EP.out.1];rfl⟩
   have fP6:y.frozen? ⟨gP,6,none⟩=false:=by simp [World.frozen?,EP.out.1]
   go_simp
   (refine hK.out _ _ (fun _=>(((((((bz.setCell (p:=⟨gP,0,none⟩) EP.out.2.2 _).setCell (p:=⟨gP,1,none⟩) EP.out.2.2 _).setCell (p:=⟨gP,2,none⟩) EP.out.2.2 _).setCell (p:=⟨gP,3,none⟩) EP.out.2.2 _).setCell (p:=⟨gP,4,none⟩) EP.out.2.2 _).setCell (p:=⟨gP,5,none⟩) EP.out.2.2 _).setCell (p:=⟨gP,6,none⟩) EP.out.2.2 _)) ?_;clear hK K';try simp only [pQ,pN,pZ,pS])
   obtain ⟨z,bD⟩:=zzN ((((((((y.setCell ⟨gP,0,none⟩ (str s)).setCell ⟨gP,1,none⟩ (.int .i64 v)).setCell ⟨gP,2,none⟩ (.slice a2 n2 c2)).setCell ⟨gP,3,none⟩ (.slice a3 n3 c3)).setCell ⟨gP,4,none⟩ (.slice aA begun.length cA)).setCell ⟨gP,5,none⟩ (.slice aB args.length cB)).setCell ⟨gP,6,none⟩ (.int .i64 (idx:Nat))))
   rw [bD]
   have cW:Below W.heap.size W z:=by rw [<- bD];exact (((((((bz.setCell (p:=⟨gP,0,none⟩) EP.out.2.2 _).setCell (p:=⟨gP,1,none⟩) EP.out.2.2 _).setCell (p:=⟨gP,2,none⟩) EP.out.2.2 _).setCell (p:=⟨gP,3,none⟩) EP.out.2.2 _).setCell (p:=⟨gP,4,none⟩) EP.out.2.2 _).setCell (p:=⟨gP,5,none⟩) EP.out.2.2 _).setCell (p:=⟨gP,6,none⟩) EP.out.2.2 _)
   have bf:But (fun i=>i=gP) y z:=by rw [<- bD];exact ((((((((But.refl (fun i=>i=gP) y).setCell (p:=⟨gP,0,none⟩) (.inl rfl) _).setCell (p:=⟨gP,1,none⟩) (.inl rfl) _).setCell (p:=⟨gP,2,none⟩) (.inl rfl) _).setCell (p:=⟨gP,3,none⟩) (.inl rfl) _).setCell (p:=⟨gP,4,none⟩) (.inl rfl) _).setCell (p:=⟨gP,5,none⟩) (.inl rfl) _).setCell (p:=⟨gP,6,none⟩) (.inl rfl) _)
   have bT:∀ g,g=gP->tg g=3:=fun g e=>by rw [e];exact EP.out.2.1
   have RA:Hid (Res W.heap.size tg 1 z 3 (.slice aA (begun.length) cA) begun.length (zT begun)):=⟨RA.out.1.keep fun g o hg ho=>by rw [bf.block g (zZ ho) (fun e=>by have:=(RA.out.2 g hg).1;rw [bT g e] at this;exact absurd this (by decide))];exact ho,RA.out.2⟩
   have RB:Hid (Res W.heap.size tg 2 z 3 (.slice aB (args.length) cB) args.length (zT args)):=⟨RB.out.1.keep fun g o hg ho=>by rw [bf.block g (zZ ho) (fun e=>by have:=(RB.out.2 g hg).1;rw [bT g e] at this;exact absurd this (by decide))];exact ho,RB.out.2⟩
   have EP:Hid (z.heap[gP]? = some (.cells #[str s,.int .i64 v,.slice a2 n2 c2,.slice a3 n3 c3,.slice aA begun.length cA,.slice aB args.length cB,.int .i64 (idx:Nat)] 145 (0,0))/\tg gP=3/\W.heap.size<=gP):=⟨by rw [<- bD];exact (zK (zK (zK (zK (zK (zK (zK EP.out.1))))))),EP.out.2⟩
   clear bD bf bT cP0 fP0 cP1 fP1 cP2 fP2 cP3 fP3 cP4 fP4 cP5 fP5 cP6 fP6
   rw [<- hG]
   exact ofL (ST0 gA gB gP aA cA aB cB z tg cW RA RB EP) (by kernel_rfl) (by rw [hb];kernel_rfl)
  have ST2:∀ (gA:Nat) (gB:Nat) (aA:Option Addr) (cA:Nat) (aB:Option Addr) (cB:Nat) (y:World) (tg:Nat->Nat),Below W.heap.size W y->Hid (Res W.heap.size tg 1 y 3 (.slice aA (begun.length) cA) begun.length (zT begun))->Hid (Res W.heap.size tg 2 y 3 (.slice aB (args.length) cB) args.length (zT args))->GG 2 #[true,true,true,true,true,true,true,true,true,true,true,false,false] (((((((((((bF.put (some 11) (.agg #[str s,.int .i64 v,.slice a2 n2 c2,.slice a3 n3 c3])).put (some 12) (.slice (some ⟨gA,0,none⟩) 0 0)).put (some 13) (.pointer (some ⟨w.heap.size,4,none⟩))).put (some 14) (.slice ba begun.length bc)).put (some 15) (.slice aA begun.length cA)).put (some 16) (.slice (some ⟨gB,0,none⟩) 0 0)).put (some 17) (.pointer (some ⟨w.heap.size,5,none⟩))).put (some 18) (.slice aa args.length ac)).put (some 19) (.slice aB args.length cB)).put (some 20) (.int .i64 (idx:Nat))).put (some 21) (.agg #[str s,.int .i64 v,.slice a2 n2 c2,.slice a3 n3 c3,.slice aA begun.length cA,.slice aB args.length cB,.int .i64 (idx:Nat)])) y:=by
   intro gA gB aA cA aB cB y tg bz RA RB
   rw [hG,hb]
   (try simp only [pQ,pN,pZ,pS])
   (refine on 11 ?_;intro o ho K' hK;simp at ho;subst ho;go_simp)
   (refine hK.out _ _ (fun _=>bz.alloc bz.size _) ?_;clear hK K';try simp only [pQ,pN,pZ,pS])
   obtain ⟨z,bD⟩:=zzN (y.alloc (.cells #[str [],.int .i64 0,.slice none 0 0,.slice none 0 0,.slice none 0 0,.slice none 0 0,.int .i64 0] 145))
   obtain ⟨gP,dG⟩:=zzN (y.heap.size)
   rw [bD,dG]
   have cW:Below W.heap.size W z:=by rw [<- bD];exact bz.alloc bz.size _
   obtain ⟨tz,bT⟩:=zzN (zF tg gP 3)
   have RA:Hid (Res W.heap.size tz 1 z 3 (.slice aA (begun.length) cA) begun.length (zT begun)):=by rw [<- bD,<- bT,<- dG];exact RA.out.alloc _ 3
   have RB:Hid (Res W.heap.size tz 2 z 3 (.slice aB (args.length) cB) args.length (zT args)):=by rw [<- bD,<- bT,<- dG];exact RB.out.alloc _ 3
   have EP:Hid (z.heap[gP]? = some (.cells #[str [],.int .i64 0,.slice none 0 0,.slice none 0 0,.slice none 0 0,.slice none 0 0,.int .i64 0] 145 (0,0))/\tz gP=3/\W.heap.size<=gP):=by rw [<- bD,<- bT,<- dG];exact ⟨zS _ _,by unfold zF;rw [if_pos rfl],bz.size⟩
   clear bD dG bT
   rw [<- hG]
   exact ofL (ST1 gA gB gP aA cA aB cB z tz cW RA RB EP) (by kernel_rfl) (by rw [hb];kernel_rfl)
  have ST3:∀ (gA:Nat) (gB:Nat) (gP:Nat) (aA:Option Addr) (cA:Nat) (y:World) (tg:Nat->Nat),Below W.heap.size W y->Hid (Res W.heap.size tg 1 y 3 (.slice aA (begun.length) cA) begun.length (zT begun))->Hid (Res W.heap.size tg 2 y 3 (.slice (some ⟨gB,0,none⟩) 0 0) 0 [])->Hid (y.heap[gP]? = some (.cells #[str [],.int .i64 0,.slice none 0 0,.slice none 0 0,.slice none 0 0,.slice none 0 0,.int .i64 0] 145 (0,0))/\tg gP=3/\W.heap.size<=gP)->GG 3 #[true,true,true,true,true,true,true,true,false,true,false,true,false] ((((((((((bF.put (some 11) (.agg #[str s,.int .i64 v,.slice a2 n2 c2,.slice a3 n3 c3])).put (some 12) (.slice (some ⟨gA,0,none⟩) 0 0)).put (some 13) (.pointer (some ⟨w.heap.size,4,none⟩))).put (some 14) (.slice ba begun.length bc)).put (some 15) (.slice aA begun.length cA)).put (some 16) (.slice (some ⟨gB,0,none⟩) 0 0)).put (some 17) (.pointer (some ⟨w.heap.size,5,none⟩))).put (some 18) (.slice aa args.length ac)).put (some 20) (.int .i64 (idx:Nat))).put (some 9) (.pointer (some ⟨gP,0,none⟩))) y:=by
   intro gA gB gP aA cA y tg bz RA RB EP
   rw [hG,hb]
   (try simp only [pQ,pN,pZ,pS])
   (refine on 8 ?_;intro o ho K' hK;simp at ho;subst ho)
   refine zE (by rfl) _ _ _ (by rfl) 3 (.int .i64 0) 1 8 Tryz.underlying31 Tryz.infoInt2 rfl (by decide) (.slice (some ⟨gB,0,none⟩) 0 0) 0 [] (by rfl) RB.out.1 _ args.length (zT args) (by rfl) (SA.out y bz) (by unfold maxLen;omega) (by omega) ?_
   intro aB cB z mK dN cX
   simp only [Nat.zero_add,List.nil_append] at mK cX ⊢
   have cW:Below W.heap.size W z:=bz.trans (dN.toBelow bz.size fun i hi e=>by have:=(RB.out.2 i e).2;omega)
   (refine hK.out _ _ (fun _=>cW) ?_;clear hK K';try simp only [pQ,pN,pZ,pS])
   obtain ⟨tz,bT⟩:=zzN (zF tg y.heap.size 2)
   have RA:Hid (Res W.heap.size tz 1 z 3 (.slice aA (begun.length) cA) begun.length (zT begun)):=by rw [<- bT];exact RA.out.but dN (fun g hg=>by rw [(RB.out.2 g hg).1];decide) 2
   have EP:Hid (z.heap[gP]? = some (.cells #[str [],.int .i64 0,.slice none 0 0,.slice none 0 0,.slice none 0 0,.slice none 0 0,.int .i64 0] 145 (0,0))/\tz gP=3/\W.heap.size<=gP):=by rw [<- bT];exact ⟨(dN.block _ (zZ EP.out.1) (fun e=>by have:=(RB.out.2 _ e).1;rw [EP.out.2.1] at this;exact absurd this (by decide))).trans EP.out.1,by unfold zF;rw [if_neg (by have:=zZ EP.out.1;omega)];exact EP.out.2.1,EP.out.2.2⟩
   have RB:Hid (Res W.heap.size tz 2 z 3 (.slice aB (args.length) cB) args.length (zT args)):=by rw [<- bT];exact RB.out.app bz.size mK cX
   clear mK dN cX bT
   refine tk [10] cW ?_
   (intro d hd;simp [tkD] at hd;subst hd;simp only [tks,pQ,pZ,pS])
   (refine ⟨?_,?_,?_⟩;rotate_left;· (intro oi ho;simp at ho;subst ho;refine Or.inl ⟨by rfl,fun w' bR=>?_⟩;go_simp;try with_reducible rfl))
   rw [<- hG]
   exact ofL (ST1 gA gB gP aA cA aB cB z tz cW RA RB EP) (by kernel_rfl) (by rw [hb];kernel_rfl)
  have ST4:∀ (gA:Nat) (gB:Nat) (aA:Option Addr) (cA:Nat) (y:World) (tg:Nat->Nat),Below W.heap.size W y->Hid (Res W.heap.size tg 1 y 3 (.slice aA (begun.length) cA) begun.length (zT begun))->Hid (Res W.heap.size tg 2 y 3 (.slice (some ⟨gB,0,none⟩) 0 0) 0 [])->GG 4 #[true,true,true,true,true,true,true,true,false,true,false,false,false] (((((((((bF.put (some 11) (.agg #[str s,.int .i64 v,.slice a2 n2 c2,.slice a3 n3 c3])).put (some 12) (.slice (some ⟨gA,0,none⟩) 0 0)).put (some 13) (.pointer (some ⟨w.heap.size,4,none⟩))).put (some 14) (.slice ba begun.length bc)).put (some 15) (.slice aA begun.length cA)).put (some 16) (.slice (some ⟨gB,0,none⟩) 0 0)).put (some 17) (.pointer (some ⟨w.heap.size,5,none⟩))).put (some 18) (.slice aa args.length ac)).put (some 20) (.int .i64 (idx:Nat))) y:=by
   intro gA gB aA cA y tg bz RA RB
   rw [hG,hb]
   (try simp only [pQ,pN,pZ,pS])
   refine kK 8 11 (by kernel_rfl) ?_ ?_
   ·(intro o8 ho K' hK;simp at ho;subst ho)
    refine zE (by rfl) _ _ _ (by rfl) 3 (.int .i64 0) 1 8 Tryz.underlying31 Tryz.infoInt2 rfl (by decide) (.slice (some ⟨gB,0,none⟩) 0 0) 0 [] (by rfl) RB.out.1 _ args.length (zT args) (by rfl) (SA.out y bz) (by unfold maxLen;omega) (by omega) ?_
    intro aB cB z mK dN cX
    simp only [Nat.zero_add,List.nil_append] at mK cX ⊢
    have cW:Below W.heap.size W z:=bz.trans (dN.toBelow bz.size fun i hi e=>by have:=(RB.out.2 i e).2;omega)
    (refine hK.out _ _ (fun _=>cW) ?_;clear hK K';try simp only [pQ,pN,pZ,pS])
    obtain ⟨tz,bT⟩:=zzN (zF tg y.heap.size 2)
    have RA:Hid (Res W.heap.size tz 1 z 3 (.slice aA (begun.length) cA) begun.length (zT begun)):=by rw [<- bT];exact RA.out.but dN (fun g hg=>by rw [(RB.out.2 g hg).1];decide) 2
    have RB:Hid (Res W.heap.size tz 2 z 3 (.slice aB (args.length) cB) args.length (zT args)):=by rw [<- bT];exact RB.out.app bz.size mK cX
    clear mK dN cX bT
    refine tk [10] cW ?_
    (intro d hd;simp [tkD] at hd;subst hd;simp only [tks,pQ,pZ,pS])
    (refine ⟨?_,?_,?_⟩;rotate_left;· (intro oi ho;simp at ho;subst ho;refine Or.inl ⟨by rfl,fun w' bR=>?_⟩;go_simp;try with_reducible rfl))
    rw [<- hG]
    exact ofL (ST2 gA gB aA cA aB cB z tz cW RA RB) (by kernel_rfl) (by rw [hb];kernel_rfl)
   ·(intro BL ho K' hK;simp at ho;subst ho)
    go_simp
    (refine hK.out _ _ (fun _=>bz.alloc bz.size _) ?_;clear hK K';try simp only [pQ,pN,pZ,pS])
    obtain ⟨z,bD⟩:=zzN (y.alloc (.cells #[str [],.int .i64 0,.slice none 0 0,.slice none 0 0,.slice none 0 0,.slice none 0 0,.int .i64 0] 145))
    obtain ⟨gP,dG⟩:=zzN (y.heap.size)
    rw [bD,dG]
    have cW:Below W.heap.size W z:=by rw [<- bD];exact bz.alloc bz.size _
    obtain ⟨tz,bT⟩:=zzN (zF tg gP 3)
    have RA:Hid (Res W.heap.size tz 1 z 3 (.slice aA (begun.length) cA) begun.length (zT begun)):=by rw [<- bD,<- bT,<- dG];exact RA.out.alloc _ 3
    have RB:Hid (Res W.heap.size tz 2 z 3 (.slice (some ⟨gB,0,none⟩) 0 0) 0 []):=by rw [<- bD,<- bT,<- dG];exact RB.out.alloc _ 3
    have EP:Hid (z.heap[gP]? = some (.cells #[str [],.int .i64 0,.slice none 0 0,.slice none 0 0,.slice none 0 0,.slice none 0 0,.int .i64 0] 145 (0,0))/\tz gP=3/\W.heap.size<=gP):=by rw [<- bD,<- bT,<- dG];exact ⟨zS _ _,by unfold zF;rw [if_pos rfl],bz.size⟩
    clear bD dG bT
    rw [<- hG]
    exact ofL (ST3 gA gB gP aA cA z tz cW RA RB EP) (by kernel_rfl) (by rw [hb];kernel_rfl)
  have ST5:∀ (gA:Nat) (gP:Nat) (aA:Option Addr) (cA:Nat) (y:World) (tg:Nat->Nat),Below W.heap.size W y->Hid (Res W.heap.size tg 1 y 3 (.slice aA (begun.length) cA) begun.length (zT begun))->Hid (y.heap[gP]? = some (.cells #[str [],.int .i64 0,.slice none 0 0,.slice none 0 0,.slice none 0 0,.slice none 0 0,.int .i64 0] 145 (0,0))/\tg gP=3/\W.heap.size<=gP)->GG 4 #[true,true,true,true,true,false,true,true,false,true,false,true,false] (((((((((bF.put (some 11) (.agg #[str s,.int .i64 v,.slice a2 n2 c2,.slice a3 n3 c3])).put (some 12) (.slice (some ⟨gA,0,none⟩) 0 0)).put (some 13) (.pointer (some ⟨w.heap.size,4,none⟩))).put (some 14) (.slice ba begun.length bc)).put (some 15) (.slice aA begun.length cA)).put (some 17) (.pointer (some ⟨w.heap.size,5,none⟩))).put (some 18) (.slice aa args.length ac)).put (some 20) (.int .i64 (idx:Nat))).put (some 9) (.pointer (some ⟨gP,0,none⟩))) y:=by
   intro gA gP aA cA y tg bz RA EP
   rw [hG,hb]
   (try simp only [pQ,pN,pZ,pS])
   (refine on 5 ?_;intro o ho K' hK;simp at ho;subst ho;go_simp)
   (refine hK.out _ _ (fun _=>bz.alloc bz.size _) ?_;clear hK K';try simp only [pQ,pN,pZ,pS])
   obtain ⟨z,bD⟩:=zzN (y.alloc (.cells #[] 3))
   obtain ⟨gB,cX⟩:=zzN (y.heap.size)
   rw [bD,cX]
   have cW:Below W.heap.size W z:=by rw [<- bD];exact bz.alloc bz.size _
   obtain ⟨tz,bT⟩:=zzN (zF tg gB 2)
   have RA:Hid (Res W.heap.size tz 1 z 3 (.slice aA (begun.length) cA) begun.length (zT begun)):=by rw [<- bD,<- bT,<- cX];exact RA.out.alloc _ 2
   have EP:Hid (z.heap[gP]? = some (.cells #[str [],.int .i64 0,.slice none 0 0,.slice none 0 0,.slice none 0 0,.slice none 0 0,.int .i64 0] 145 (0,0))/\tz gP=3/\W.heap.size<=gP):=by rw [<- bD,<- bT];exact ⟨zD EP.out.1,by unfold zF;rw [if_neg (by have:=zZ EP.out.1;omega)];exact EP.out.2.1,EP.out.2.2⟩
   have RB:Hid (Res W.heap.size tz 2 z 3 (.slice (some ⟨gB,0,none⟩) 0 0) 0 []):=by rw [<- bD,<- bT,<- cX];exact Res.lit tg 2 bz.size 3 #[] 0 (by unfold maxLen;omega) rfl
   clear bD cX bT
   rw [<- hG]
   exact ofL (ST3 gA gB gP aA cA z tz cW RA RB EP) (by kernel_rfl) (by rw [hb];kernel_rfl)
  have ST6:∀ (gA:Nat) (aA:Option Addr) (cA:Nat) (y:World) (tg:Nat->Nat),Below W.heap.size W y->Hid (Res W.heap.size tg 1 y 3 (.slice aA (begun.length) cA) begun.length (zT begun))->GG 5 #[true,true,true,true,true,false,true,true,false,true,false,false,false] ((((((((bF.put (some 11) (.agg #[str s,.int .i64 v,.slice a2 n2 c2,.slice a3 n3 c3])).put (some 12) (.slice (some ⟨gA,0,none⟩) 0 0)).put (some 13) (.pointer (some ⟨w.heap.size,4,none⟩))).put (some 14) (.slice ba begun.length bc)).put (some 15) (.slice aA begun.length cA)).put (some 17) (.pointer (some ⟨w.heap.size,5,none⟩))).put (some 18) (.slice aa args.length ac)).put (some 20) (.int .i64 (idx:Nat))) y:=by
   intro gA aA cA y tg bz RA
   rw [hG,hb]
   (try simp only [pQ,pN,pZ,pS])
   refine kK 5 11 (by kernel_rfl) ?_ ?_
   ·(intro o5 ho K' hK;simp at ho;subst ho)
    go_simp
    (refine hK.out _ _ (fun _=>bz.alloc bz.size _) ?_;clear hK K';try simp only [pQ,pN,pZ,pS])
    obtain ⟨z,bD⟩:=zzN (y.alloc (.cells #[] 3))
    obtain ⟨gB,cX⟩:=zzN (y.heap.size)
    rw [bD,cX]
    have cW:Below W.heap.size W z:=by rw [<- bD];exact bz.alloc bz.size _
    obtain ⟨tz,bT⟩:=zzN (zF tg gB 2)
    have RA:Hid (Res W.heap.size tz 1 z 3 (.slice aA (begun.length) cA) begun.length (zT begun)):=by rw [<- bD,<- bT,<- cX];exact RA.out.alloc _ 2
    have RB:Hid (Res W.heap.size tz 2 z 3 (.slice (some ⟨gB,0,none⟩) 0 0) 0 []):=by rw [<- bD,<- bT,<- cX];exact Res.lit tg 2 bz.size 3 #[] 0 (by unfold maxLen;omega) rfl
    clear bD cX bT
    rw [<- hG]
    exact ofL (ST4 gA gB aA cA z tz cW RA RB) (by kernel_rfl) (by rw [hb];kernel_rfl)
   ·(intro BL ho K' hK;simp at ho;subst ho)
    go_simp
    (refine hK.out _ _ (fun _=>bz.alloc bz.size _) ?_;clear hK K';try simp only [pQ,pN,pZ,pS])
    obtain ⟨z,bD⟩:=zzN (y.alloc (.cells #[str [],.int .i64 0,.slice none 0 0,.slice none 0 0,.slice none 0 0,.slice none 0 0,.int .i64 0] 145))
    obtain ⟨gP,dG⟩:=zzN (y.heap.size)
    rw [bD,dG]
    have cW:Below W.heap.size W z:=by rw [<- bD];exact bz.alloc bz.size _
    obtain ⟨tz,bT⟩:=zzN (zF tg gP 3)
    have RA:Hid (Res W.heap.size tz 1 z 3 (.slice aA (begun.length) cA) begun.length (zT begun)):=by rw [<- bD,<- bT,<- dG];exact RA.out.alloc _ 3
    have EP:Hid (z.heap[gP]? = some (.cells #[str [],.int .i64 0,.slice none 0 0,.slice none 0 0,.slice none 0 0,.slice none 0 0,.int .i64 0] 145 (0,0))/\tz gP=3/\W.heap.size<=gP):=by rw [<- bD,<- bT,<- dG];exact ⟨zS _ _,by unfold zF;rw [if_pos rfl],bz.size⟩
    clear bD dG bT
    rw [<- hG]
    exact ofL (ST5 gA gP aA cA z tz cW RA EP) (by kernel_rfl) (by rw [hb];kernel_rfl)
  have ST7:∀ (gA:Nat) (gB:Nat) (gP:Nat) (y:World) (tg:Nat->Nat),Below W.heap.size W y->Hid (Res W.heap.size tg 1 y 3 (.slice (some ⟨gA,0,none⟩) 0 0) 0 [])->Hid (Res W.heap.size tg 2 y 3 (.slice (some ⟨gB,0,none⟩) 0 0) 0 [])->Hid (y.heap[gP]? = some (.cells #[str [],.int .i64 0,.slice none 0 0,.slice none 0 0,.slice none 0 0,.slice none 0 0,.int .i64 0] 145 (0,0))/\tg gP=3/\W.heap.size<=gP)->GG 4 #[true,true,true,true,false,true,true,true,false,true,false,true,false] (((((((((bF.put (some 11) (.agg #[str s,.int .i64 v,.slice a2 n2 c2,.slice a3 n3 c3])).put (some 12) (.slice (some ⟨gA,0,none⟩) 0 0)).put (some 13) (.pointer (some ⟨w.heap.size,4,none⟩))).put (some 14) (.slice ba begun.length bc)).put (some 16) (.slice (some ⟨gB,0,none⟩) 0 0)).put (some 17) (.pointer (some ⟨w.heap.size,5,none⟩))).put (some 18) (.slice aa args.length ac)).put (some 20) (.int .i64 (idx:Nat))).put (some 9) (.pointer (some ⟨gP,0,none⟩))) y:=by
   intro gA gB gP y tg bz RA RB EP
   rw [hG,hb]
   (try simp only [pQ,pN,pZ,pS])
   (refine on 4 ?_;intro o ho K' hK;simp at ho;subst ho)
   refine zE (by rfl) _ _ _ (by rfl) 3 (.int .i64 0) 1 8 Tryz.underlying31 Tryz.infoInt2 rfl (by decide) (.slice (some ⟨gA,0,none⟩) 0 0) 0 [] (by rfl) RA.out.1 _ begun.length (zT begun) (by rfl) (SB.out y bz) (by unfold maxLen;omega) (by omega) ?_
   intro aA cA z eJ cz cQ
   simp only [Nat.zero_add,List.nil_append] at eJ cQ ⊢
   have cW:Below W.heap.size W z:=bz.trans (cz.toBelow bz.size fun i hi e=>by have:=(RA.out.2 i e).2;omega)
   (refine hK.out _ _ (fun _=>cW) ?_;clear hK K';try simp only [pQ,pN,pZ,pS])
   obtain ⟨tz,bT⟩:=zzN (zF tg y.heap.size 1)
   have RB:Hid (Res W.heap.size tz 2 z 3 (.slice (some ⟨gB,0,none⟩) 0 0) 0 []):=by rw [<- bT];exact RB.out.but cz (fun g hg=>by rw [(RA.out.2 g hg).1];decide) 1
   have EP:Hid (z.heap[gP]? = some (.cells #[str [],.int .i64 0,.slice none 0 0,.slice none 0 0,.slice none 0 0,.slice none 0 0,.int .i64 0] 145 (0,0))/\tz gP=3/\W.heap.size<=gP):=by rw [<- bT];exact ⟨(cz.block _ (zZ EP.out.1) (fun e=>by have:=(RA.out.2 _ e).1;rw [EP.out.2.1] at this;exact absurd this (by decide))).trans EP.out.1,by unfold zF;rw [if_neg (by have:=zZ EP.out.1;omega)];exact EP.out.2.1,EP.out.2.2⟩
   have RA:Hid (Res W.heap.size tz 1 z 3 (.slice aA (begun.length) cA) begun.length (zT begun)):=by rw [<- bT];exact RA.out.app bz.size eJ cQ
   clear eJ cz cQ bT
   rw [<- hG]
   exact ofL (ST3 gA gB gP aA cA z tz cW RA RB EP) (by kernel_rfl) (by rw [hb];kernel_rfl)
  have ST8:∀ (gA:Nat) (gB:Nat) (y:World) (tg:Nat->Nat),Below W.heap.size W y->Hid (Res W.heap.size tg 1 y 3 (.slice (some ⟨gA,0,none⟩) 0 0) 0 [])->Hid (Res W.heap.size tg 2 y 3 (.slice (some ⟨gB,0,none⟩) 0 0) 0 [])->GG 5 #[true,true,true,true,false,true,true,true,false,true,false,false,false] ((((((((bF.put (some 11) (.agg #[str s,.int .i64 v,.slice a2 n2 c2,.slice a3 n3 c3])).put (some 12) (.slice (some ⟨gA,0,none⟩) 0 0)).put (some 13) (.pointer (some ⟨w.heap.size,4,none⟩))).put (some 14) (.slice ba begun.length bc)).put (some 16) (.slice (some ⟨gB,0,none⟩) 0 0)).put (some 17) (.pointer (some ⟨w.heap.size,5,none⟩))).put (some 18) (.slice aa args.length ac)).put (some 20) (.int .i64 (idx:Nat))) y:=by
   intro gA gB y tg bz RA RB
   rw [hG,hb]
   (try simp only [pQ,pN,pZ,pS])
   refine kK 4 11 (by kernel_rfl) ?_ ?_
   ·(intro o4 ho K' hK;simp at ho;subst ho)
    refine zE (by rfl) _ _ _ (by rfl) 3 (.int .i64 0) 1 8 Tryz.underlying31 Tryz.infoInt2 rfl (by decide) (.slice (some ⟨gA,0,none⟩) 0 0) 0 [] (by rfl) RA.out.1 _ begun.length (zT begun) (by rfl) (SB.out y bz) (by unfold maxLen;omega) (by omega) ?_
    intro aA cA z eJ cz cQ
    simp only [Nat.zero_add,List.nil_append] at eJ cQ ⊢
    have cW:Below W.heap.size W z:=bz.trans (cz.toBelow bz.size fun i hi e=>by have:=(RA.out.2 i e).2;omega)
    (refine hK.out _ _ (fun _=>cW) ?_;clear hK K';try simp only [pQ,pN,pZ,pS])
    obtain ⟨tz,bT⟩:=zzN (zF tg y.heap.size 1)
    have RB:Hid (Res W.heap.size tz 2 z 3 (.slice (some ⟨gB,0,none⟩) 0 0) 0 []):=by rw [<- bT];exact RB.out.but cz (fun g hg=>by rw [(RA.out.2 g hg).1];decide) 1
    have RA:Hid (Res W.heap.size tz 1 z 3 (.slice aA (begun.length) cA) begun.length (zT begun)):=by rw [<- bT];exact RA.out.app bz.size eJ cQ
    clear eJ cz cQ bT
    rw [<- hG]
    exact ofL (ST4 gA gB aA cA z tz cW RA RB) (by kernel_rfl) (by rw [hb];kernel_rfl)
   ·(intro BL ho K' hK;simp at ho;subst ho)
    go_simp
    (refine hK.out _ _ (fun _=>bz.alloc bz.size _) ?_;clear hK K';try simp only [pQ,pN,pZ,pS])
    obtain ⟨z,bD⟩:=zzN (y.alloc (.cells #[str [],.int .i64 0,.slice none 0 0,.slice none 0 0,.slice none 0 0,.slice none 0 0,.int .i64 0] 145))
    obtain ⟨gP,dG⟩:=zzN (y.heap.size)
    rw [bD,dG]
    have cW:Below W.heap.size W z:=by rw [<- bD];exact bz.alloc bz.size _
    obtain ⟨tz,bT⟩:=zzN (zF tg gP 3)
    have RA:Hid (Res W.heap.size tz 1 z 3 (.slice (some ⟨gA,0,none⟩) 0 0) 0 []):=by rw [<- bD,<- bT,<- dG];exact RA.out.alloc _ 3
    have RB:Hid (Res W.heap.size tz 2 z 3 (.slice (some ⟨gB,0,none⟩) 0 0) 0 []):=by rw [<- bD,<- bT,<- dG];exact RB.out.alloc _ 3
    have EP:Hid (z.heap[gP]? = some (.cells #[str [],.int .i64 0,.slice none 0 0,.slice none 0 0,.slice none 0 0,.slice none 0 0,.int .i64 0] 145 (0,0))/\tz gP=3/\W.heap.size<=gP):=by rw [<- bD,<- bT,<- dG];exact ⟨zS _ _,by unfold zF;rw [if_pos rfl],bz.size⟩
    clear bD dG bT
    rw [<- hG]
    exact ofL (ST7 gA gB gP z tz cW RA RB EP) (by kernel_rfl) (by rw [hb];kernel_rfl)
  have ST9:∀ (gA:Nat) (gP:Nat) (y:World) (tg:Nat->Nat),Below W.heap.size W y->Hid (Res W.heap.size tg 1 y 3 (.slice (some ⟨gA,0,none⟩) 0 0) 0 [])->Hid (y.heap[gP]? = some (.cells #[str [],.int .i64 0,.slice none 0 0,.slice none 0 0,.slice none 0 0,.slice none 0 0,.int .i64 0] 145 (0,0))/\tg gP=3/\W.heap.size<=gP)->GG 5 #[true,true,true,true,false,false,true,true,false,true,false,true,false] ((((((((bF.put (some 11) (.agg #[str s,.int .i64 v,.slice a2 n2 c2,.slice a3 n3 c3])).put (some 12) (.slice (some ⟨gA,0,none⟩) 0 0)).put (some 13) (.pointer (some ⟨w.heap.size,4,none⟩))).put (some 14) (.slice ba begun.length bc)).put (some 17) (.pointer (some ⟨w.heap.size,5,none⟩))).put (some 18) (.slice aa args.length ac)).put (some 20) (.int .i64 (idx:Nat))).put (some 9) (.pointer (some ⟨gP,0,none⟩))) y:=by
   intro gA gP y tg bz RA EP
   rw [hG,hb]
   (try simp only [pQ,pN,pZ,pS])
   refine kK 4 5 (by kernel_rfl) ?_ ?_
   ·(intro o4 ho K' hK;simp at ho;subst ho)
    refine zE (by rfl) _ _ _ (by rfl) 3 (.int .i64 0) 1 8 Tryz.underlying31 Tryz.infoInt2 rfl (by decide) (.slice (some ⟨gA,0,none⟩) 0 0) 0 [] (by rfl) RA.out.1 _ begun.length (zT begun) (by rfl) (SB.out y bz) (by unfold maxLen;omega) (by omega) ?_
    intro aA cA z eJ cz cQ
    simp only [Nat.zero_add,List.nil_append] at eJ cQ ⊢
    have cW:Below W.heap.size W z:=bz.trans (cz.toBelow bz.size fun i hi e=>by have:=(RA.out.2 i e).2;omega)
    (refine hK.out _ _ (fun _=>cW) ?_;clear hK K';try simp only [pQ,pN,pZ,pS])
    obtain ⟨tz,bT⟩:=zzN (zF tg y.heap.size 1)
    have EP:Hid (z.heap[gP]? = some (.cells #[str [],.int .i64 0,.slice none 0 0,.slice none 0 0,.slice none 0 0,.slice none 0 0,.int .i64 0] 145 (0,0))/\tz gP=3/\W.heap.size<=gP):=by rw [<- bT];exact ⟨(cz.block _ (zZ EP.out.1) (fun e=>by have:=(RA.out.2 _ e).1;rw [EP.out.2.1] at this;exact absurd this (by decide))).trans EP.out.1,by unfold zF;rw [if_neg (by have:=zZ EP.out.1;omega)];exact EP.out.2.1,EP.out.2.2⟩
    have RA:Hid (Res W.heap.size tz 1 z 3 (.slice aA (begun.length) cA) begun.length (zT begun)):=by rw [<- bT];exact RA.out.app bz.size eJ cQ
    clear eJ cz cQ bT
    rw [<- hG]
    exact ofL (ST5 gA gP aA cA z tz cW RA EP) (by kernel_rfl) (by rw [hb];kernel_rfl)
   ·(intro o5 ho K' hK;simp at ho;subst ho)
    go_simp
    (refine hK.out _ _ (fun _=>bz.alloc bz.size _) ?_;clear hK K';try simp only [pQ,pN,pZ,pS])
    obtain ⟨z,bD⟩:=zzN (y.alloc (.cells #[] 3))
    obtain ⟨gB,cX⟩:=zzN (y.heap.size)
    rw [bD,cX]
    have cW:Below W.heap.size W z:=by rw [<- bD];exact bz.alloc bz.size _
    obtain ⟨tz,bT⟩:=zzN (zF tg gB 2)
    have RA:Hid (Res W.heap.size tz 1 z 3 (.slice (some ⟨gA,0,none⟩) 0 0) 0 []):=by rw [<- bD,<- bT,<- cX];exact RA.out.alloc _ 2
    have EP:Hid (z.heap[gP]? = some (.cells #[str [],.int .i64 0,.slice none 0 0,.slice none 0 0,.slice none 0 0,.slice none 0 0,.int .i64 0] 145 (0,0))/\tz gP=3/\W.heap.size<=gP):=by rw [<- bD,<- bT];exact ⟨zD EP.out.1,by unfold zF;rw [if_neg (by have:=zZ EP.out.1;omega)];exact EP.out.2.1,EP.out.2.2⟩
    have RB:Hid (Res W.heap.size tz 2 z 3 (.slice (some ⟨gB,0,none⟩) 0 0) 0 []):=by rw [<- bD,<- bT,<- cX];exact Res.lit tg 2 bz.size 3 #[] 0 (by unfold maxLen;omega) rfl
    clear bD cX bT
    rw [<- hG]
    exact ofL (ST7 gA gB gP z tz cW RA RB EP) (by kernel_rfl) (by rw [hb];kernel_rfl)
  have ST10:∀ (gA:Nat) (y:World) (tg:Nat->Nat),Below W.heap.size W y->Hid (Res W.heap.size tg 1 y 3 (.slice (some ⟨gA,0,none⟩) 0 0) 0 [])->GG 6 #[true,true,true,true,false,false,true,true,false,true,false,false,false] (((((((bF.put (some 11) (.agg #[str s,.int .i64 v,.slice a2 n2 c2,.slice a3 n3 c3])).put (some 12) (.slice (some ⟨gA,0,none⟩) 0 0)).put (some 13) (.pointer (some ⟨w.heap.size,4,none⟩))).put (some 14) (.slice ba begun.length bc)).put (some 17) (.pointer (some ⟨w.heap.size,5,none⟩))).put (some 18) (.slice aa args.length ac)).put (some 20) (.int .i64 (idx:Nat))) y:=by
   intro gA y tg bz RA
   rw [hG,hb]
   (try simp only [pQ,pN,pZ,pS])
   refine xU 4 5 11 (by kernel_rfl) ?_ ?_ ?_
   ·(intro o4 ho K' hK;simp at ho;subst ho)
    refine zE (by rfl) _ _ _ (by rfl) 3 (.int .i64 0) 1 8 Tryz.underlying31 Tryz.infoInt2 rfl (by decide) (.slice (some ⟨gA,0,none⟩) 0 0) 0 [] (by rfl) RA.out.1 _ begun.length (zT begun) (by rfl) (SB.out y bz) (by unfold maxLen;omega) (by omega) ?_
    intro aA cA z eJ cz cQ
    simp only [Nat.zero_add,List.nil_append] at eJ cQ ⊢
    have cW:Below W.heap.size W z:=bz.trans (cz.toBelow bz.size fun i hi e=>by have:=(RA.out.2 i e).2;omega)
    (refine hK.out _ _ (fun _=>cW) ?_;clear hK K';try simp only [pQ,pN,pZ,pS])
    obtain ⟨tz,bT⟩:=zzN (zF tg y.heap.size 1)
    have RA:Hid (Res W.heap.size tz 1 z 3 (.slice aA (begun.length) cA) begun.length (zT begun)):=by rw [<- bT];exact RA.out.app bz.size eJ cQ
    clear eJ cz cQ bT
    rw [<- hG]
    exact ofL (ST6 gA aA cA z tz cW RA) (by kernel_rfl) (by rw [hb];kernel_rfl)
   ·(intro o5 ho K' hK;simp at ho;subst ho)
    go_simp
    (refine hK.out _ _ (fun _=>bz.alloc bz.size _) ?_;clear hK K';try simp only [pQ,pN,pZ,pS])
    obtain ⟨z,bD⟩:=zzN (y.alloc (.cells #[] 3))
    obtain ⟨gB,cX⟩:=zzN (y.heap.size)
    rw [bD,cX]
    have cW:Below W.heap.size W z:=by rw [<- bD];exact bz.alloc bz.size _
    obtain ⟨tz,bT⟩:=zzN (zF tg gB 2)
    have RA:Hid (Res W.heap.size tz 1 z 3 (.slice (some ⟨gA,0,none⟩) 0 0) 0 []):=by rw [<- bD,<- bT,<- cX];exact RA.out.alloc _ 2
    have RB:Hid (Res W.heap.size tz 2 z 3 (.slice (some ⟨gB,0,none⟩) 0 0) 0 []):=by rw [<- bD,<- bT,<- cX];exact Res.lit tg 2 bz.size 3 #[] 0 (by unfold maxLen;omega) rfl
    clear bD cX bT
    rw [<- hG]
    exact ofL (ST8 gA gB z tz cW RA RB) (by kernel_rfl) (by rw [hb];kernel_rfl)
   ·(intro BL ho K' hK;simp at ho;subst ho)
    go_simp
    (refine hK.out _ _ (fun _=>bz.alloc bz.size _) ?_;clear hK K';try simp only [pQ,pN,pZ,pS])
    obtain ⟨z,bD⟩:=zzN (y.alloc (.cells #[str [],.int .i64 0,.slice none 0 0,.slice none 0 0,.slice none 0 0,.slice none 0 0,.int .i64 0] 145))
    obtain ⟨gP,dG⟩:=zzN (y.heap.size)
    rw [bD,dG]
    have cW:Below W.heap.size W z:=by rw [<- bD];exact bz.alloc bz.size _
    obtain ⟨tz,bT⟩:=zzN (zF tg gP 3)
    have RA:Hid (Res W.heap.size tz 1 z 3 (.slice (some ⟨gA,0,none⟩) 0 0) 0 []):=by rw [<- bD,<- bT,<- dG];exact RA.out.alloc _ 3
    have EP:Hid (z.heap[gP]? = some (.cells #[str [],.int .i64 0,.slice none 0 0,.slice none 0 0,.slice none 0 0,.slice none 0 0,.int .i64 0] 145 (0,0))/\tz gP=3/\W.heap.size<=gP):=by rw [<- bD,<- bT,<- dG];exact ⟨zS _ _,by unfold zF;rw [if_pos rfl],bz.size⟩
    clear bD dG bT
    rw [<- hG]
    exact ofL (ST9 gA gP z tz cW RA EP) (by kernel_rfl) (by rw [hb];kernel_rfl)
  have EH:∀ (gB:Nat) (gP:Nat) (y:World) (tg:Nat->Nat),Below W.heap.size W y->Hid (Res W.heap.size tg 2 y 3 (.slice (some ⟨gB,0,none⟩) 0 0) 0 [])->Hid (y.heap[gP]? = some (.cells #[str [],.int .i64 0,.slice none 0 0,.slice none 0 0,.slice none 0 0,.slice none 0 0,.int .i64 0] 145 (0,0))/\tg gP=3/\W.heap.size<=gP)->GG 5 #[true,false,true,true,false,true,true,true,false,true,false,true,false] ((((((((bF.put (some 11) (.agg #[str s,.int .i64 v,.slice a2 n2 c2,.slice a3 n3 c3])).put (some 13) (.pointer (some ⟨w.heap.size,4,none⟩))).put (some 14) (.slice ba begun.length bc)).put (some 16) (.slice (some ⟨gB,0,none⟩) 0 0)).put (some 17) (.pointer (some ⟨w.heap.size,5,none⟩))).put (some 18) (.slice aa args.length ac)).put (some 20) (.int .i64 (idx:Nat))).put (some 9) (.pointer (some ⟨gP,0,none⟩))) y:=by
   intro gB gP y tg bz RB EP
   rw [hG,hb]
   (try simp only [pQ,pN,pZ,pS])
   (refine on 1 ?_;intro o ho K' hK;simp at ho;subst ho;go_simp)
   (refine hK.out _ _ (fun _=>bz.alloc bz.size _) ?_;clear hK K';try simp only [pQ,pN,pZ,pS])
   obtain ⟨z,bD⟩:=zzN (y.alloc (.cells #[] 3))
   obtain ⟨gA,cQ⟩:=zzN (y.heap.size)
   rw [bD,cQ]
   have cW:Below W.heap.size W z:=by rw [<- bD];exact bz.alloc bz.size _
   obtain ⟨tz,bT⟩:=zzN (zF tg gA 1)
   have RB:Hid (Res W.heap.size tz 2 z 3 (.slice (some ⟨gB,0,none⟩) 0 0) 0 []):=by rw [<- bD,<- bT,<- cQ];exact RB.out.alloc _ 1
   have EP:Hid (z.heap[gP]? = some (.cells #[str [],.int .i64 0,.slice none 0 0,.slice none 0 0,.slice none 0 0,.slice none 0 0,.int .i64 0] 145 (0,0))/\tz gP=3/\W.heap.size<=gP):=by rw [<- bD,<- bT];exact ⟨zD EP.out.1,by unfold zF;rw [if_neg (by have:=zZ EP.out.1;omega)];exact EP.out.2.1,EP.out.2.2⟩
   have RA:Hid (Res W.heap.size tz 1 z 3 (.slice (some ⟨gA,0,none⟩) 0 0) 0 []):=by rw [<- bD,<- bT,<- cQ];exact Res.lit tg 1 bz.size 3 #[] 0 (by unfold maxLen;omega) rfl
   clear bD cQ bT
   rw [<- hG]
   exact ofL (ST7 gA gB gP z tz cW RA RB EP) (by kernel_rfl) (by rw [hb];kernel_rfl)
  have ST12:∀ (gB:Nat) (y:World) (tg:Nat->Nat),Below W.heap.size W y->Hid (Res W.heap.size tg 2 y 3 (.slice (some ⟨gB,0,none⟩) 0 0) 0 [])->GG 6 #[true,false,true,true,false,true,true,true,false,true,false,false,false] (((((((bF.put (some 11) (.agg #[str s,.int .i64 v,.slice a2 n2 c2,.slice a3 n3 c3])).put (some 13) (.pointer (some ⟨w.heap.size,4,none⟩))).put (some 14) (.slice ba begun.length bc)).put (some 16) (.slice (some ⟨gB,0,none⟩) 0 0)).put (some 17) (.pointer (some ⟨w.heap.size,5,none⟩))).put (some 18) (.slice aa args.length ac)).put (some 20) (.int .i64 (idx:Nat))) y:=by
   intro gB y tg bz RB
   rw [hG,hb]
   (try simp only [pQ,pN,pZ,pS])
   refine kK 1 11 (by kernel_rfl) ?_ ?_
   ·(intro o1 ho K' hK;simp at ho;subst ho)
    go_simp
    (refine hK.out _ _ (fun _=>bz.alloc bz.size _) ?_;clear hK K';try simp only [pQ,pN,pZ,pS])
    obtain ⟨z,bD⟩:=zzN (y.alloc (.cells #[] 3))
    obtain ⟨gA,cQ⟩:=zzN (y.heap.size)
    rw [bD,cQ]
    have cW:Below W.heap.size W z:=by rw [<- bD];exact bz.alloc bz.size _
    obtain ⟨tz,bT⟩:=zzN (zF tg gA 1)
    have RB:Hid (Res W.heap.size tz 2 z 3 (.slice (some ⟨gB,0,none⟩) 0 0) 0 []):=by rw [<- bD,<- bT,<- cQ];exact RB.out.alloc _ 1
    have RA:Hid (Res W.heap.size tz 1 z 3 (.slice (some ⟨gA,0,none⟩) 0 0) 0 []):=by rw [<- bD,<- bT,<- cQ];exact Res.lit tg 1 bz.size 3 #[] 0 (by unfold maxLen;omega) rfl
    clear bD cQ bT
    rw [<- hG]
    exact ofL (ST8 gA gB z tz cW RA RB) (by kernel_rfl) (by rw [hb];kernel_rfl)
   ·(intro BL ho K' hK;simp at ho;subst ho)
    go_simp
    (refine hK.out _ _ (fun _=>bz.alloc bz.size _) ?_;clear hK K';try simp only [pQ,pN,pZ,pS])
    obtain ⟨z,bD⟩:=zzN (y.alloc (.cells #[str [],.int .i64 0,.slice none 0 0,.slice none 0 0,.slice none 0 0,.slice none 0 0,.int .i64 0] 145))
    obtain ⟨gP,dG⟩:=zzN (y.heap.size)
    rw [bD,dG]
    have cW:Below W.heap.size W z:=by rw [<- bD];exact bz.alloc bz.size _
    obtain ⟨tz,bT⟩:=zzN (zF tg gP 3)
    have RB:Hid (Res W.heap.size tz 2 z 3 (.slice (some ⟨gB,0,none⟩) 0 0) 0 []):=by rw [<- bD,<- bT,<- dG];exact RB.out.alloc _ 3
    have EP:Hid (z.heap[gP]? = some (.cells #[str [],.int .i64 0,.slice none 0 0,.slice none 0 0,.slice none 0 0,.slice none 0 0,.int .i64 0] 145 (0,0))/\tz gP=3/\W.heap.size<=gP):=by rw [<- bD,<- bT,<- dG];exact ⟨zS _ _,by unfold zF;rw [if_pos rfl],bz.size⟩
    clear bD dG bT
    rw [<- hG]
    exact ofL (EH gB gP z tz cW RB EP) (by kernel_rfl) (by rw [hb];kernel_rfl)
  have ST13:∀ (gP:Nat) (y:World) (tg:Nat->Nat),Below W.heap.size W y->Hid (y.heap[gP]? = some (.cells #[str [],.int .i64 0,.slice none 0 0,.slice none 0 0,.slice none 0 0,.slice none 0 0,.int .i64 0] 145 (0,0))/\tg gP=3/\W.heap.size<=gP)->GG 6 #[true,false,true,true,false,false,true,true,false,true,false,true,false] (((((((bF.put (some 11) (.agg #[str s,.int .i64 v,.slice a2 n2 c2,.slice a3 n3 c3])).put (some 13) (.pointer (some ⟨w.heap.size,4,none⟩))).put (some 14) (.slice ba begun.length bc)).put (some 17) (.pointer (some ⟨w.heap.size,5,none⟩))).put (some 18) (.slice aa args.length ac)).put (some 20) (.int .i64 (idx:Nat))).put (some 9) (.pointer (some ⟨gP,0,none⟩))) y:=by
   intro gP y tg bz EP
   rw [hG,hb]
   (try simp only [pQ,pN,pZ,pS])
   refine kK 1 5 (by kernel_rfl) ?_ ?_
   ·(intro o1 ho K' hK;simp at ho;subst ho)
    go_simp
    (refine hK.out _ _ (fun _=>bz.alloc bz.size _) ?_;clear hK K';try simp only [pQ,pN,pZ,pS])
    obtain ⟨z,bD⟩:=zzN (y.alloc (.cells #[] 3))
    obtain ⟨gA,cQ⟩:=zzN (y.heap.size)
    rw [bD,cQ]
    have cW:Below W.heap.size W z:=by rw [<- bD];exact bz.alloc bz.size _
    obtain ⟨tz,bT⟩:=zzN (zF tg gA 1)
    have EP:Hid (z.heap[gP]? = some (.cells #[str [],.int .i64 0,.slice none 0 0,.slice none 0 0,.slice none 0 0,.slice none 0 0,.int .i64 0] 145 (0,0))/\tz gP=3/\W.heap.size<=gP):=by rw [<- bD,<- bT];exact ⟨zD EP.out.1,by unfold zF;rw [if_neg (by have:=zZ EP.out.1;omega)];exact EP.out.2.1,EP.out.2.2⟩
    have RA:Hid (Res W.heap.size tz 1 z 3 (.slice (some ⟨gA,0,none⟩) 0 0) 0 []):=by rw [<- bD,<- bT,<- cQ];exact Res.lit tg 1 bz.size 3 #[] 0 (by unfold maxLen;omega) rfl
    clear bD cQ bT
    rw [<- hG]
    exact ofL (ST9 gA gP z tz cW RA EP) (by kernel_rfl) (by rw [hb];kernel_rfl)
   ·(intro o5 ho K' hK;simp at ho;subst ho)
    go_simp
    (refine hK.out _ _ (fun _=>bz.alloc bz.size _) ?_;clear hK K';try simp only [pQ,pN,pZ,pS])
    obtain ⟨z,bD⟩:=zzN (y.alloc (.cells #[] 3))
    obtain ⟨gB,cX⟩:=zzN (y.heap.size)
    rw [bD,cX]
    have cW:Below W.heap.size W z:=by rw [<- bD];exact bz.alloc bz.size _
    obtain ⟨tz,bT⟩:=zzN (zF tg gB 2)
    have EP:Hid (z.heap[gP]? = some (.cells #[str [],.int .i64 0,.slice none 0 0,.slice none 0 0,.slice none 0 0,.slice none 0 0,.int .i64 0] 145 (0,0))/\tz gP=3/\W.heap.size<=gP):=by rw [<- bD,<- bT];exact ⟨zD EP.out.1,by unfold zF;rw [if_neg (by have:=zZ EP.out.1;omega)];exact EP.out.2.1,EP.out.2.2⟩
    have RB:Hid (Res W.heap.size tz 2 z 3 (.slice (some ⟨gB,0,none⟩) 0 0) 0 []):=by rw [<- bD,<- bT,<- cX];exact Res.lit tg 2 bz.size 3 #[] 0 (by unfold maxLen;omega) rfl
    clear bD cX bT
    rw [<- hG]
    exact ofL (EH gB gP z tz cW RB EP) (by kernel_rfl) (by rw [hb];kernel_rfl)
  have ST14:∀ (y:World) (tg:Nat->Nat),Below W.heap.size W y->GG 7 #[true,false,true,true,false,false,true,true,false,true,false,false,false] ((((((bF.put (some 11) (.agg #[str s,.int .i64 v,.slice a2 n2 c2,.slice a3 n3 c3])).put (some 13) (.pointer (some ⟨w.heap.size,4,none⟩))).put (some 14) (.slice ba begun.length bc)).put (some 17) (.pointer (some ⟨w.heap.size,5,none⟩))).put (some 18) (.slice aa args.length ac)).put (some 20) (.int .i64 (idx:Nat))) y:=by
   intro y tg bz
   rw [hG,hb]
   (try simp only [pQ,pN,pZ,pS])
   refine xU 1 5 11 (by kernel_rfl) ?_ ?_ ?_
   ·(intro o1 ho K' hK;simp at ho;subst ho)
    go_simp
    (refine hK.out _ _ (fun _=>bz.alloc bz.size _) ?_;clear hK K';try simp only [pQ,pN,pZ,pS])
    obtain ⟨z,bD⟩:=zzN (y.alloc (.cells #[] 3))
    obtain ⟨gA,cQ⟩:=zzN (y.heap.size)
    rw [bD,cQ]
    have cW:Below W.heap.size W z:=by rw [<- bD];exact bz.alloc bz.size _
    obtain ⟨tz,bT⟩:=zzN (zF tg gA 1)
    have RA:Hid (Res W.heap.size tz 1 z 3 (.slice (some ⟨gA,0,none⟩) 0 0) 0 []):=by rw [<- bD,<- bT,<- cQ];exact Res.lit tg 1 bz.size 3 #[] 0 (by unfold maxLen;omega) rfl
    clear bD cQ bT
    rw [<- hG]
    exact ofL (ST10 gA z tz cW RA) (by kernel_rfl) (by rw [hb];kernel_rfl)
   ·(intro o5 ho K' hK;simp at ho;subst ho)
    go_simp
    (refine hK.out _ _ (fun _=>bz.alloc bz.size _) ?_;clear hK K';try simp only [pQ,pN,pZ,pS])
    obtain ⟨z,bD⟩:=zzN (y.alloc (.cells #[] 3))
    obtain ⟨gB,cX⟩:=zzN (y.heap.size)
    rw [bD,cX]
    have cW:Below W.heap.size W z:=by rw [<- bD];exact bz.alloc bz.size _
    obtain ⟨tz,bT⟩:=zzN (zF tg gB 2)
    have RB:Hid (Res W.heap.size tz 2 z 3 (.slice (some ⟨gB,0,none⟩) 0 0) 0 []):=by rw [<- bD,<- bT,<- cX];exact Res.lit tg 2 bz.size 3 #[] 0 (by unfold maxLen;omega) rfl
    clear bD cX bT
    rw [<- hG]
    exact ofL (ST12 gB z tz cW RB) (by kernel_rfl) (by rw [hb];kernel_rfl)
   ·(intro BL ho K' hK;simp at ho;subst ho)
    go_simp
    (refine hK.out _ _ (fun _=>bz.alloc bz.size _) ?_;clear hK K';try simp only [pQ,pN,pZ,pS])
    obtain ⟨z,bD⟩:=zzN (y.alloc (.cells #[str [],.int .i64 0,.slice none 0 0,.slice none 0 0,.slice none 0 0,.slice none 0 0,.int .i64 0] 145))
    obtain ⟨gP,dG⟩:=zzN (y.heap.size)
    rw [bD,dG]
    have cW:Below W.heap.size W z:=by rw [<- bD];exact bz.alloc bz.size _
    obtain ⟨tz,bT⟩:=zzN (zF tg gP 3)
    have EP:Hid (z.heap[gP]? = some (.cells #[str [],.int .i64 0,.slice none 0 0,.slice none 0 0,.slice none 0 0,.slice none 0 0,.int .i64 0] 145 (0,0))/\tz gP=3/\W.heap.size<=gP):=by rw [<- bD,<- bT,<- dG];exact ⟨zS _ _,by unfold zF;rw [if_pos rfl],bz.size⟩
    clear bD dG bT
    rw [<- hG]
    exact ofL (ST13 gP z tz cW EP) (by kernel_rfl) (by rw [hb];kernel_rfl)
  rw [hb]
  rw [hG]
  refine tk [0,2,3,6,7,9] bO ?_
  (intro d hd;simp [tkD] at hd;subst hd;simp only [tks,pQ,pZ,pS])
  iterate 6 (refine ⟨?_,?_,?_⟩;rotate_left;· (intro oi ho;simp at ho;subst ho;refine Or.inl ⟨by rfl,fun w' bR=>?_⟩;obtain ⟨e0,e1,e2,e3,e4,e5,e6⟩:=KEY.out w' bR;go_simp;try with_reducible rfl))
  rw [<- hG]
  exact ofL (ST14 y0 dr bO) (by kernel_rfl) (by rw [hb];kernel_rfl)
 rintro ⟨gA,gB,g,a5,c5,a6,c6⟩ w7 hI
 simp only [pQ,pN,pZ,pS]
 go_wp2_with fail
 go_loopw [10] (fun i wr=>∃ (k:Nat) (a5:Option Addr) (c5:Nat) (a6:Option Addr) (c6:Nat),k<=t.args.length/\i=.int .i64 k/\BegI g s v a2 n2 c2 a3 n3 c3 begun.length args.length begun args idx k a5 c5 a6 c6 W wr) (fun i _=>t.args.length-(intOf i).toNat)
 case atStart=>exact ⟨0,a5,c5,a6,c6,Nat.zero_le _,rfl,hI⟩
 case round =>
  rename_i wr
  obtain ⟨k,a5,c5,a6,c6,hk,rfl,hI⟩:=hrel
  obtain ⟨_,_,_,_,_,_,t0⟩:=KEY.out wr hI.below
  obtain ⟨q0,q1,q2,q3,q4,q5,q6⟩:=qh hI.box
  have fz:=zH hI.box 4
  have HI:=bU hI
  clear hI
  by_cases bA:k<t.args.length
  ·have fS:(k:Int)<(t.args.length:Int):=by omega
   clear q0 q1 q2 q3 q5 q6
   have q4a:=fun o=>zG (o:=o) q4
   go_wp2_with (at_builtin;refine zB rfl _ _ 31 rfl 3 (.int .i64 0) 1 8 Tryz.underlying31 Tryz.infoInt2 rfl (by decide) (.slice a5 (begun.length+k) c5) (begun.length+k) (zT begun++List.replicate k (.int .i64 (idx:Nat))) rfl ?c1 _ 1 [.int .i64 (idx:Nat)] rfl ?c2 ?c3 ?c4 ?_)
   case c1=>exact HI.out.o5.alloc _
   case c2=>exact zR.litk #[.int .i64 (idx:Nat)] rfl (by simp [Value.oneCell']) _ (by rfl)
   case c3=>unfold maxLen;omega
   case c4=>omega
   intro a7 c7 w8 rY dg rc
   obtain ⟨W8,ik,DT,m7,o58,o68,f58,ap8⟩:=HI.out.half (by rw [List.append_assoc];exact rY) dg rc
   have q48:w8.cell? ⟨g,4,none⟩=some (.slice a5 (begun.length+k) c5):=(dg.cell (p:=⟨g,4,none⟩) (by rw [zQ];have:=zZ HI.out.box;show g<_;omega) (fun e=>(HI.out.f5 g e).2 rfl)).trans (zG q4)
   have fz8:w8.frozen? ⟨g,4,none⟩=false:=by
    have:=(dg.block g (by rw [zQ];have:=zZ HI.out.box;omega) (fun e=>(HI.out.f5 g e).2 rfl)).trans (zD HI.out.box)
    simp [World.frozen?,this]
   obtain ⟨_,_,_,_,_,q5,_⟩:=qh m7
   have H8:=bU (bY ik (bY DT (bY m7 (bY o58 (bY o68 (bY f58 ap8))))))
   clear rY dg rc ik DT m7 o58 o68 f58 ap8 q4a
   go_upto_region 6 with (fail)
   rw [H8.out.1]
   clear q4 q48 fz fz8 t0
   go_wp2_with (at_builtin;refine zB rfl _ _ 31 rfl 3 (.int .i64 0) 1 8 Tryz.underlying31 Tryz.infoInt2 rfl (by decide) (.slice a6 (args.length+k) c6) (args.length+k) (zT args++zT (List.range k)) rfl ?c1 _ 1 [.int .i64 (k:Nat)] rfl ?c2 ?c3 ?c4 ?_)
   case c1=>exact H8.out.2.2.2.2.1.alloc _
   case c2=>exact zR.litk #[.int .i64 (k:Nat)] rfl (by simp [Value.oneCell']) _ (by rfl)
   case c3=>unfold maxLen;omega
   case c4=>omega
   intro a9 c9 w9 ho9 Bk hg9
   have hI9:=BegI.next H8.out.2.1 HI.out.gw H8.out.2.2.1 H8.out.2.2.2.1 H8.out.2.2.2.2.1 H8.out.2.2.2.2.2.1 HI.out.f6 H8.out.2.2.2.2.2.2 (by rw [List.append_assoc];exact ho9) Bk hg9
   have eo:=(Bk.block g (by rw [zQ];have:=zZ H8.out.2.2.1;omega) (fun e=>(HI.out.f6 g e).2 rfl)).trans (zD H8.out.2.2.1)
   obtain ⟨_,_,_,_,_,q59,_⟩:=qh eo
   have fz9:=zH eo 5
   obtain ⟨W9,Bm⟩:=zzN (w9.setCell ⟨g,5,none⟩ (.slice a9 (args.length+k+1) c9))
   rw [Bm] at hI9
   have H9:=bU (bY Bm hI9)
   clear hI9 Bm ho9 Bk hg9 eo
   go_upto_region 4 with (fail)
   rw [H9.out.1]
   clear q5 q59 fz9
   go_wp2_with fail
   go_roundw
   case rel=>exact ⟨k+1,a7,c7,a9,c9,by omega,by go_num,H9.out.2⟩
   case measure=>simp [intOf];omega
  ·obtain rfl:k=t.args.length:=by omega
   have z3:=(HI.out.below.block _ (zZ HW.out.2.2.2)).trans HW.out.2.2.2
   have bm:g≠w.heap.size+3:=by have h1:=HI.out.gw;have h2:=HW.out.2.2.1;omega
   have HZ:=bU (bY z3 bm)
   have g0:=zH z3 0;have g1:=zH z3 1;have g2:=zH z3 2;have g3:=zH z3 3;have g4:=zH z3 4;have g5:=zH z3 5;have g6:=zH z3 6
   obtain ⟨z0,z1,z2,z3',z4,z5,z6⟩:=qh z3
   clear z3 bm
   go_wp2_with fail
   have hV:=wY HZ.out.1 (str s) (.int .i64 v) (.slice a2 n2 c2) (.slice a3 n3 c3) (.slice a5 (begun.length+t.args.length) c5) (.slice a6 (args.length+t.args.length) c6) (.int .i64 (idx:Nat))
   obtain ⟨mR,mN,BI,BH,s4',s5',s6'⟩:=qh hV
   refine bodyPost_ret (v:=.agg #[str s,.int .i64 v,.slice a2 n2 c2,.slice a3 n3 c3,.slice a5 (begun.length+t.args.length) c5,.slice a6 (args.length+t.args.length) c6,.int .i64 (idx:Nat)]) (by simp [results,Tryz.results128,go_sem,mR,mN,BI,BH,s4',s5',s6']) rfl ?_
   have hz4:=HW.out.2.2.1
   have rH:Below w.heap.size w wr:=HW.out.2.1.trans (HI.out.below.mono (by omega))
   have far:∀ (x:World) (p:Addr) (u:Value) (i:Nat),p.block=w.heap.size+3->W.heap.size<=i->(x.setCell p u).heap[i]? = x.heap[i]?:=fun x p u i hp hi=>bG _ _ _ _ (by rw [hp];omega)
   have keep:∀ {e:TypeId} {n:Nat} {r:Value} {ys:List Value},Own wr e 1 r n ys->(∀ i,r.ownBlock=some i->W.heap.size<=i)->Own (((((((wr.setCell ⟨w.heap.size+3,0,none⟩ (str s)).setCell ⟨w.heap.size+3,1,none⟩ (.int .i64 v)).setCell ⟨w.heap.size+3,2,none⟩ (.slice a2 n2 c2)).setCell ⟨w.heap.size+3,3,none⟩ (.slice a3 n3 c3)).setCell ⟨w.heap.size+3,4,none⟩ (.slice a5 (begun.length+t.args.length) c5)).setCell ⟨w.heap.size+3,5,none⟩ (.slice a6 (args.length+t.args.length) c6)).setCell ⟨w.heap.size+3,6,none⟩ (.int .i64 (idx:Nat))) e 1 r n ys :=
    fun ho hf=>ho.keep fun i x hi hx=>by
     have h:=hf i hi
     rw [far _ _ _ _ rfl h,far _ _ _ _ rfl h,far _ _ _ _ rfl h,far _ _ _ _ rfl h,far _ _ _ _ rfl h,far _ _ _ _ rfl h,far _ _ _ _ rfl h];exact hx
   refine ⟨_,_,_,_,rfl,((((((rH.setCell (p:=⟨w.heap.size+3,0,none⟩) (Nat.le_add_right _ _) _).setCell (p:=⟨w.heap.size+3,1,none⟩) (Nat.le_add_right _ _) _).setCell (p:=⟨w.heap.size+3,2,none⟩) (Nat.le_add_right _ _) _).setCell (p:=⟨w.heap.size+3,3,none⟩) (Nat.le_add_right _ _) _).setCell (p:=⟨w.heap.size+3,4,none⟩) (Nat.le_add_right _ _) _).setCell (p:=⟨w.heap.size+3,5,none⟩) (Nat.le_add_right _ _) _).setCell (p:=⟨w.heap.size+3,6,none⟩) (Nat.le_add_right _ _) _,?_,?_⟩
   ·refine Own.numD ?_ (by simp) (fun i hi=>by have:=(HI.out.f5 i hi).1;omega)
    rw [show zT (begun++List.replicate t.args.length idx)=zT begun++List.replicate t.args.length (.int .i64 (idx:Nat)) from by simp [zT]]
    exact keep HI.out.o5 (fun i hi=>(HI.out.f5 i hi).1)
   ·refine Own.numD ?_ (by simp) (fun i hi=>by have:=(HI.out.f6 i hi).1;omega)
    rw [show zT (args++List.range t.args.length)=zT args++zT (List.range t.args.length) from by simp [zT]]
    exact keep HI.out.o6 (fun i hi=>(HI.out.f6 i hi).1)
def uu (w:World) (ns:List Nat) (x:Value):Prop:=∃ b o c,x=.slice (some ⟨b,o,none⟩) ns.length c/\b<w.heap.size/\∀ (i n:Nat),ns[i]? = some n->w.cell? ⟨b,o+i,none⟩=some (.int .i64 (n:Nat))
theorem uu.below {w w':World} {ns:List Nat} {x:Value} (h:uu w ns x) (hb:Below w.heap.size w w'):uu w' ns x:=by
 obtain ⟨b,o,c,e,hl,hc⟩:=h
 exact ⟨b,o,c,e,bH hl hb.size,fun i n hi=>(hb.cell (p:=⟨b,o+i,none⟩) hl).trans (hc i n hi)⟩
theorem Own.cells1 {w:World} {ns:List Nat} {v:Value} (h:Own w 3 1 v ns.length (zT ns)) (hp:0<ns.length):∃ b c,v=.slice (some ⟨b,0,none⟩) ns.length c/\b<w.heap.size/\∀ (i n:Nat),ns[i]? = some n->w.cell? ⟨b,i,none⟩=some (.int .i64 (n:Nat))/\w.frozen? ⟨b,i,none⟩=false:=by
 rcases h.2 with ⟨_,h0⟩ | ⟨g,cap,cur,e,_,hg,sP,_,hcs,ht⟩
 ·omega
 ·refine ⟨g,cap,e,zZ hg,fun i n hi=>?_⟩
  have Aa:=(List.getElem?_eq_some_iff.1 hi).1
  have h2:(zT ns)[i]? = some (.int .i64 (n:Nat)):=by unfold zT;rw [List.getElem?_map,hi];rfl
  rw [<- ht,List.getElem?_take,if_pos (by omega),Array.getElem?_toList] at h2
  exact ⟨by simp only [World.cell?,hg];simpa using h2,by simp [World.frozen?,hg]⟩
theorem Own.natAt {w:World} {ns:List Nat} {v:Value} (h:Own w 3 1 v ns.length (zT ns)) (hp:0<ns.length):uu w ns v:=by
 obtain ⟨b,c,e,hl,hc⟩:=h.cells1 hp
 exact ⟨b,0,c,e,hl,fun i n hi=>by rw [Nat.zero_add];exact (hc i n hi).1⟩
theorem pV {B b:Nat} (hb:B<=b) {a:World}:∀ (vs:List Value) (o:Nat) (w:World),Below B a w->Below B a (w.setCells b o vs)
 | [],_,_,h=>h
 | v::r,o,_,h=>pV hb r (o+1) _ (h.setCell (p:=⟨b,o,none⟩) hb v)
theorem reversed_at {w w':World} {ns:List Nat} {b c:Nat} {B:Nat} (hB:B<=b) (hl:b<w.heap.size) (hc:∀ (i n:Nat),ns[i]? = some n->w.cell? ⟨b,i,none⟩=some (.int .i64 (n:Nat))/\w.frozen? ⟨b,i,none⟩=false) {q:Nat}
 (e:w'=(w.drewN q).setCells b 0 ((ns.map fun n=>((n:Nat):Int)).reverse.map (Value.int .i64))):uu w' ns.reverse (.slice (some ⟨b,0,none⟩) ns.length c)/\Below B w w':=by
 have e2:(ns.map fun n=>((n:Nat):Int)).reverse.map (Value.int .i64)=zT ns.reverse:=by unfold zT;rw [<- List.map_reverse,List.map_map];rfl
 rw [e2] at e
 have bI:(zT ns.reverse).length=ns.length:=by unfold zT;simp
 have hb:Below B w w':=by
  rw [e]
  exact pV hB _ _ _ (z8 (bP _ _) q)
 refine ⟨⟨b,0,c,by rw [List.length_reverse],bH hl hb.size,fun i n hi=>?_⟩,hb⟩
 have Aa:=(List.getElem?_eq_some_iff.1 hi).1
 rw [List.length_reverse] at Aa
 have h3:=World.cell?_setCells_in b (zT ns.reverse) 0 (w.drewN q) (fun j hj=>by
  rw [bI] at hj
  have:=(hc j (ns[j]) (List.getElem?_eq_getElem hj)).1
  rw [Nat.zero_add]
  rw [show (w.drewN q).cell? ⟨b,j,none⟩=w.cell? ⟨b,j,none⟩ from (z8 (bP w.heap.size w) q).cell hl,this];rfl) i (by omega)
 rw [e,h3]
 congr 1
 have h2:(zT ns.reverse)[i]? = some (.int .i64 (n:Nat)):=by unfold zT;rw [List.getElem?_map,hi];rfl
 exact (List.getElem?_eq_some_iff.1 h2).2
theorem qD (x:Int) (h1 : -2000<=x) (h2:x<=1000000):IntKind.i64.wrap x=x:=by
 simp [IntKind.wrap,IntKind.bits,IntKind.signed];omega
theorem intsV_append (a b:List Nat):zT (a++b)=zT a++zT b:=by simp [zT]
theorem xp {t:Ty} {v:Pl} {i:Nat} {c:UInt8} {p:Bs} {z:Int} (h:OkMv t v i c p z) : -1<=z/\z<(i:Int):=by
 rcases Nat.eq_zero_or_pos i with h0 | h0
 ·have:=(h.zero h0).2.2;omega
 ·have:=h.pos h0;omega
set_option maxRecDepth 100000 in
theorem view_any (F:Nat->Prop) (t:Ty) (v:Pl) (opp:Bool) (n:Nat) (mv pt:Value) (w:World) (hm:qH F w v mv) (hp:qG F w v pt) (hv:zv t v=true) (A8:0<n) (hn:n<=v.length) (hl:∀ x∈v,x.1.length<=16777216) :
 Calls Tryz.prog 54 #[.agg #[mv,pt],.int .i64 (n:Nat),.bool opp] w fun en w'=>∃ x,en=.returned x/\Below w.heap.size w w'/\uu w' (kW v opp n) x:=by
 have ci:=ze hv
 obtain ⟨ma,mc,rfl,cH⟩:=hm.cells
 obtain ⟨pa,pc,rfl,cw⟩:=hp.cells
 obtain ⟨W,hW,bM,hz,b0⟩:=kJ w (.cells #[.slice ma v.length mc,.slice pa v.length pc] 33)
 obtain ⟨c0,c1,_,_⟩:=zJ b0
 have hwn:IntKind.i64.wrap ((n:Int)-1)=(n:Int)-1:=wrap_small _ (by omega) (by omega)
 have HH:=bU (bY cH (bY cw (bY bM (bY hv hl))))
 have HW:=bU hW
 clear hm hp cH cw hz b0 bM hW hl hv
 go_enter Tryz.func54,Tryz.ntmps54
 go_upto_region 1 with (fail)
 rw [HW.out]
 go_wp2_with fail
 go_loopw [7,8] (fun o i wr=>∃ (r f:Nat) (ds:List Nat) (a:Option Addr) (c:Nat),i=.int .i64 ((r:Int)-1)/\r<=f/\ds.length+f=n/\ds++qv v opp f r=qv v opp n n/\o=.slice a ds.length c/\Own wr 3 1 (.slice a ds.length c) ds.length (zT ds)/\Below W.heap.size W wr/\(∀ g,(Value.slice a ds.length c).ownBlock=some g->W.heap.size<=g)) (fun _ i _=>(intOf i+1).toNat)
 case atStart=>exact ⟨n,n,[],none,0,rfl,bX _,by simp,rfl,rfl,World.ownsRow_nil _ _ _ _,bP _ _,fun g h=>by simp [Value.ownBlock] at h⟩
 case round =>
  obtain ⟨r,f,ds,a,c,rfl,hrf,hdf,BV,rfl,ho,hB,hf⟩:=hrel
  have HO:=bU ho;have HF:=bU hf;have HB:=bU hB;have HV:=bU BV
  clear ho hf hB BV
  cases r with
  | zero =>
    have e0:(((0:Nat):Int)-1) = -1:=rfl
    rw [e0]
    have nx:ds=qv v opp n n:=by
     have h:=HV.out
     rw [jR,List.append_nil] at h;exact h
    have De:0<ds.length:=by
     rw [nx]
     obtain ⟨n',rfl⟩:∃ n',n=n'+1:=⟨n-1,by omega⟩
     rw [kS,List.length_cons];omega
    obtain ⟨g,c',ev,Be,aE⟩:=Own.cells1 HO.out De
    simp only [Value.slice.injEq,true_and] at ev
    obtain ⟨rfl,rfl⟩:=ev
    have C:=bU (Tryz.slices_Reverse_int_cells g 0 ds.length c (ds.map fun n=>((n:Nat):Int)) wr (by simp) (by omega) (fun j hj=>by
     rw [List.length_map] at hj
     rw [Nat.zero_add,(aE j ds[j] (List.getElem?_eq_getElem hj)).1,List.getD_eq_getElem?_getD,List.getElem?_map,List.getElem?_eq_getElem hj];rfl) (fun j hj=>by
     rw [Nat.zero_add];exact (aE j ds[j] (List.getElem?_eq_getElem hj)).2))
    have HG:=bU (bY Be aE)
    have HD:=bU nx
    clear Be aE De nx
    go_wp2_with fail
    (with_reducible refine C.out.mono ?_)
    rintro en w1 ⟨rfl,q,e⟩
    obtain ⟨hN,hb⟩:=reversed_at (B:=W.heap.size) (c:=c) (HF.out g rfl) HG.out.1 HG.out.2 (e.trans (by rw [List.take_of_length_le (by simp)]))
    have HN:=bU (bY hN (HB.out.trans hb))
    clear e hN hb C
    go_wp2_with fail
    go_ret
    refine ⟨_,rfl,zzT HH.out.2.2.1 HN.out.2,?_⟩
    unfold kW
    rw [<- HD.out]
    exact HN.out.1
  | succ k =>
    have ek:(((k+1:Nat):Int)-1)=(k:Int):=by omega
    rw [ek]
    have rP:k<v.length:=by omega
    have od:(k:Int)<(v.length:Int):=by omega
    obtain ⟨x,p,z,bi,b4⟩:=kV HH.out.2.2.2.1 rP
    have bw:=HH.out.2.2.2.2 _ (List.mem_of_getElem? bi)
    rw [List.length_cons] at bw
    obtain ⟨mb,mo,rfl,_,cr,cf⟩:=HH.out.1 k _ bi
    obtain ⟨pb,po,rfl,_,cd,dZ⟩:=HH.out.2.1 k _ bi
    have hz:=xp b4
    have i_:IntKind.i64.wrap ((k:Int)-1)=(k:Int)-1:=qD _ (by omega) (by omega)
    obtain ⟨f',rfl⟩:∃ f',f=f'+1:=⟨f-1,by omega⟩
    have KEY:Hid (∀ y,Below W.heap.size W y->y.cell? ⟨w.heap.size,0,none⟩=some (.slice (some ⟨mb,mo,none⟩) v.length mc)/\y.cell? ⟨w.heap.size,1,none⟩=some (.slice (some ⟨pb,po,none⟩) v.length pc)/\y.cell? ⟨mb,mo+k,none⟩=some (str (x::p))/\y.cell? ⟨pb,po+k,none⟩=some (.int .i64 z)):=bU (fun y hy=>by
     have ee:=zzT HH.out.2.2.1 hy
     exact ⟨(hy.cell (bW _ _ c0)).trans c0,(hy.cell (bW _ _ c1)).trans c1,(ee.cell (p:=⟨mb,mo+k,none⟩) cr).trans cf,(ee.cell (p:=⟨pb,po+k,none⟩) cd).trans dZ⟩)
    have CB:=vT x p (show p.length<=16777216 by omega)
    have Bi:jA v opp (k+1-1)=jA v opp k:=rfl
    have HN:Hid (ds++[k]++qv v opp f' (if kC (x::p)=opp then k else (z+1).toNat)=qv v opp n n):=bU (by
     have h:=HV.out
     rw [kS] at h
     unfold jA at h
     rw [bi] at h
     rw [List.append_assoc];exact h)
    obtain ⟨bo,dq⟩:=zzN (kC (x::p))
    rw [dq] at CB HN
    have CB:=bU CB
    clear c0 c1 bi b4 bw cr cf cd dZ dq Bi
    go_wp2_with (at_builtin;refine zB rfl _ _ 31 rfl 3 (.int .i64 0) 1 8 Tryz.underlying31 Tryz.infoInt2 rfl (by decide) (.slice a ds.length c) ds.length (zT ds) rfl ?c1 _ 1 [.int .i64 (k:Nat)] rfl ?c2 ?c3 ?c4 ?_)
    case c1=>exact HO.out.alloc _
    case c2=>exact zR.litk #[.int .i64 (k:Nat)] rfl (by simp [Value.oneCell']) _ (by rfl)
    case c3=>unfold maxLen;omega
    case c4=>omega
    intro a7 c7 w8 rY dg rc
    have rR:=HB.out.size
    have dh:Below W.heap.size W w8:=(HB.out.alloc rR _).trans (dg.toBelow (by rw [zQ];omega) fun i hi e=>by have:=HF.out i e;omega)
    have aS:∀ g,(Value.slice a7 (ds.length+1) c7).ownBlock=some g->W.heap.size<=g:=fun g hg=>by
     rcases rc g hg with e | e
     ·exact HF.out g e
     ·omega
    have Co:Own w8 3 1 (.slice a7 (ds++[k]).length c7) (ds++[k]).length (zT (ds++[k])):=by rw [intsV_append,List.length_append];exact rY
    obtain ⟨d0,d1,m0,p0⟩:=KEY.out w8 dh
    have H8:=bU (bY Co (bY dh (by rw [show ds.length+1=(ds++[k]).length from by simp] at aS;exact aS)))
    have el:ds.length+1=(ds++[k]).length:=by simp
    rw [el]
    generalize nx:ds++[k]=ds' at *
    have aF:ds'.length=ds.length+1:=el.symm
    clear rY dg rc dh aS Co KEY rR el nx HO HF HV
    go_wp2_with fail
    (with_reducible refine (CB.out _).mono ?_)
    rintro en w9 ⟨rfl,e⟩
    subst w9
    by_cases dq:bo=opp
    ·rw [if_pos dq] at HN
     have bE:(bo == opp)=true:=by simp [dq]
     clear dq CB d1 p0
     go_wp2_with fail
     go_roundw
     case rel=>exact ⟨k,f',ds',a7,c7,rfl,by omega,by omega,HN.out,by rw [aF],H8.out.1,H8.out.2.1,H8.out.2.2⟩
     case measure=>simp [intOf]
    ·rw [if_neg dq] at HN
     have bE:(bo == opp)=false:=by simp [dq]
     clear dq CB d0 m0
     go_wp2_with fail
     go_roundw
     case rel=>exact ⟨(z+1).toNat,f',ds',a7,c7,by congr 1;omega,by omega,by omega,HN.out,by rw [aF],H8.out.1,H8.out.2.1,H8.out.2.2⟩
     case measure=>simp [intOf];omega
theorem Own.srcN {w:World} {e:TypeId} {n:Nat} {v:Value} {ns:List Nat} (h:Own w e 1 v n (zT ns)):zR 1 v n (zT ns) w:=by
 refine ⟨h.1,fun u hu=>?_,?_⟩
 ·obtain ⟨m,_,rfl⟩:=List.mem_map.1 hu
  simp [Value.oneCell']
 ·rcases h.2 with ⟨e1,e2⟩ | ⟨g,cap,cur,e1,_,hg,_,_,_,ht⟩
  ·exact .inr ⟨e1,e2⟩
  ·refine .inl ⟨_,cap,e1,fun j u hu=>?_⟩
   rw [<- ht,List.getElem?_take] at hu
   split at hu
   ·unfold Addr.add
    split
    ·subst j;simp only [World.cell?,hg];simpa using hu
    ·simp only [World.cell?,hg];simpa using hu
   ·simp at hu
def pX (opp:Bool):Nat:=if opp then 0 else 1
theorem who_eq (m:Bs) (opp:Bool):(((plN m:Nat):Int) == ((pX opp:Nat):Int))=(kC m == opp):=by
 unfold plN pX
 cases kC m <;> cases opp <;> rfl
set_option maxRecDepth 100000 in
theorem yi (F:Nat->Prop) (t:Ty) (v:Pl) (opp:Bool) (n:Nat) (mv pt:Value) (w:World) (hm:qH F w v mv) (hp:qG F w v pt) (hv:zv t v=true) (A8:0<n) (hn:n<=v.length) (hl:∀ x∈v,x.1.length<=16777216) :
 Calls Tryz.prog 126 #[.agg #[mv,pt],.int .i64 (pX opp:Nat),.int .i64 (n:Nat)] w fun en w'=>∃ x,en=.returned x/\Below w.heap.size w w'/\uu w' (kW v opp n) x:=by
 have ci:=ze hv
 obtain ⟨ma,mc,rfl,cH⟩:=hm.cells
 obtain ⟨pa,pc,rfl,cw⟩:=hp.cells
 obtain ⟨W,hW,bM,hz,b0⟩:=kJ w (.cells #[.slice ma v.length mc,.slice pa v.length pc] 33)
 obtain ⟨c0,c1,_,_⟩:=zJ b0
 have HH:=bU (bY cH (bY cw (bY bM (bY hv hl))))
 have HW:=bU hW
 have HWH:=bU (fun m=>who_eq m opp)
 generalize pX opp=who at *
 clear hm hp cH cw hz b0 bM hW hl hv
 go_enter Tryz.func126,Tryz.ntmps126
 go_upto_region 1 with (fail)
 rw [HW.out]
 go_wp2_with fail
 go_loopw [2,7,8] (fun i o _ wr=>∃ (r f:Nat) (os:List Nat) (a:Option Addr) (c:Nat),i=.int .i64 (r:Nat)/\r<=f/\os.length+f=n/\os.reverse++qv v opp f r=qv v opp n n/\o=.slice a os.length c/\Own wr 3 1 (.slice a os.length c) os.length (zT os)/\Below W.heap.size W wr/\(∀ g,(Value.slice a os.length c).ownBlock=some g->W.heap.size<=g)) (fun i _ _ _=>(intOf i).toNat)
 case atStart=>exact ⟨n,n,[],_,_,rfl,bX _,by simp,rfl,rfl,Own.litAt #[] 0 _ rfl (by decide) rfl,(bP _ _).alloc (bX _) _,gS (bX _)⟩
 case round =>
  obtain ⟨r,f,os,a,c,rfl,hrf,hdf,BV,rfl,ho,hB,hf⟩:=hrel
  have HO:=bU ho;have HF:=bU hf;have HB:=bU hB;have HV:=bU BV
  clear ho hf hB BV
  cases r with
  | zero =>
    have nx:os.reverse=qv v opp n n:=by
     have h:=HV.out
     rw [jR,List.append_nil] at h;exact h
    have De:0<os.length:=by
     rw [<- List.length_reverse,nx]
     obtain ⟨n',rfl⟩:∃ n',n=n'+1:=⟨n-1,by omega⟩
     rw [kS,List.length_cons];omega
    have HN:=bU (show uu wr (kW v opp n) (.slice a os.length c) by
     unfold kW
     rw [<- nx,List.reverse_reverse]
     exact Own.natAt HO.out De)
    clear De nx
    go_wp2_with fail
    go_ret
    exact ⟨_,rfl,zzT HH.out.2.2.1 HB.out,HN.out⟩
  | succ k =>
    have hkp:(0:Int)<((k+1:Nat):Int):=by omega
    have aC:(0<k+1)=True:=by simp
    have i_:IntKind.i64.wrap (((k+1:Nat):Int)-1)=(k:Int):=by rw [show ((k+1:Nat):Int)-1=(k:Int) from by omega];exact ki _ (by omega)
    have rP:k<v.length:=by omega
    have od:(k:Int)<(v.length:Int):=by omega
    obtain ⟨x,p,z,bi,b4⟩:=kV HH.out.2.2.2.1 rP
    have bw:=HH.out.2.2.2.2 _ (List.mem_of_getElem? bi)
    rw [List.length_cons] at bw
    obtain ⟨mb,mo,rfl,_,cr,cf⟩:=HH.out.1 k _ bi
    obtain ⟨pb,po,rfl,_,cd,dZ⟩:=HH.out.2.1 k _ bi
    have hz:=xp b4
    obtain ⟨f',rfl⟩:∃ f',f=f'+1:=⟨f-1,by omega⟩
    have KEY:Hid (∀ y,Below W.heap.size W y->y.cell? ⟨w.heap.size,0,none⟩=some (.slice (some ⟨mb,mo,none⟩) v.length mc)/\y.cell? ⟨w.heap.size,1,none⟩=some (.slice (some ⟨pb,po,none⟩) v.length pc)/\y.cell? ⟨mb,mo+k,none⟩=some (str (x::p))/\y.cell? ⟨pb,po+k,none⟩=some (.int .i64 z)):=bU (fun y hy=>by
     have ee:=zzT HH.out.2.2.1 hy
     exact ⟨(hy.cell (bW _ _ c0)).trans c0,(hy.cell (bW _ _ c1)).trans c1,(ee.cell (p:=⟨mb,mo+k,none⟩) cr).trans cf,(ee.cell (p:=⟨pb,po+k,none⟩) cd).trans dZ⟩)
    have CB:=j_ x p (show p.length<=16777216 by omega)
    have HN:Hid ((k::os).reverse++qv v opp f' (if kC (x::p)=opp then k else (z+1).toNat)=qv v opp n n):=bU (by
     have h:=HV.out
     rw [kS] at h
     unfold jA at h
     rw [bi] at h
     rw [List.reverse_cons,List.append_assoc];exact h)
    have HQ:=HWH.out (x::p)
    obtain ⟨bo,dq⟩:=zzN (kC (x::p))
    obtain ⟨pn,cR⟩:=zzN (plN (x::p))
    rw [dq] at HN HQ
    rw [cR] at CB HQ
    have CB:=bU CB
    clear c0 c1 bi b4 bw cr cf cd dZ dq cR
    go_wp2_with (at_builtin;refine zB rfl _ _ 31 rfl 3 (.int .i64 0) 1 8 Tryz.underlying31 Tryz.infoInt2 rfl (by decide) (.slice (some ⟨wr.heap.size,0,none⟩) 1 1) 1 (zT [k]) rfl ?c1 _ os.length (zT os) rfl ?c2 ?c3 ?c4 ?_)
    case c1=>exact Own.litAt #[.int .i64 (k:Nat)] 1 _ rfl (by decide) rfl
    case c2=>exact HO.out.srcN.alloc _
    case c3=>unfold maxLen;omega
    case c4=>omega
    intro a7 c7 w8 rY dg rc
    have rR:=HB.out.size
    have dh:Below W.heap.size W w8:=(HB.out.alloc rR _).trans (dg.toBelow (by rw [zQ];omega) fun i hi e=>by
     simp [Value.ownBlock] at e;omega)
    have aS:∀ g,(Value.slice a7 (1+os.length) c7).ownBlock=some g->W.heap.size<=g:=fun g hg=>by
     rcases rc g hg with e | e
     ·simp [Value.ownBlock] at e;omega
     ·omega
    have el:1+os.length=(k::os).length:=by rw [List.length_cons];omega
    rw [<- show zT (k::os)=zT [k]++zT os from rfl] at rY
    rw [el] at rY aS ⊢
    obtain ⟨d0,d1,m0,p0⟩:=KEY.out w8 dh
    have H8:=bU (bY rY (bY dh aS))
    generalize nx:k::os=os' at *
    have aF:os'.length=os.length+1:=by rw [<- el];omega
    clear rY dg rc dh aS KEY rR el nx HO HF HV
    go_wp2_with fail
    (with_reducible refine (CB.out _).mono ?_)
    rintro en w9 ⟨rfl,e⟩
    subst w9
    by_cases dq:bo=opp
    ·rw [if_pos dq] at HN
     have bE:((pn:Int) == (who:Int))=true:=by rw [HQ];simp [dq]
     clear dq CB d1 p0 HQ
     go_wp2_with fail
     go_roundw
     case rel=>exact ⟨k,f',os',a7,c7,rfl,by omega,by omega,HN.out,by rw [aF],H8.out.1,H8.out.2.1,H8.out.2.2⟩
     case measure=>simp [intOf]
    ·rw [if_neg dq] at HN
     have bE:((pn:Int) == (who:Int))=false:=by rw [HQ];simp [dq]
     clear dq CB d0 m0 HQ
     by_cases fq:z<0
     ·go_wp2_with fail
      go_roundw
      case rel=>exact ⟨0,f',os',a7,c7,rfl,by omega,by omega,by have h:=HN.out;rw [show (z+1).toNat=0 from by omega] at h;exact h,by rw [aF],H8.out.1,H8.out.2.1,H8.out.2.2⟩
      case measure=>simp [intOf]
     ·have hwz:IntKind.i64.wrap (z+1)=z+1:=qD _ (by omega) (by omega)
      go_wp2_with fail
      go_roundw
      case rel=>exact ⟨(z+1).toNat,f',os',a7,c7,by congr 1;omega,by omega,by omega,HN.out,by rw [aF],H8.out.1,H8.out.2.1,H8.out.2.2⟩
      case measure=>simp [intOf];omega
def kL (v:Pl):Nat->List Int->Int
 | 0,_=>-1
 | k+1,ans=>match v[k]? with
   | none=>-1
   | some x=>if isQ x.1 then (if ans.contains (k:Int) then kL v k ans else (k:Int)) else kL v k (ans++[x.2])
theorem v9 {v:Pl} {k:Nat} {m:Bs} {z:Int} (h:v[k]? = some (m,z)) (ans:List Int):kL v (k+1) ans=if isQ m then (if ans.contains (k:Int) then kL v k ans else (k:Int)) else kL v k (ans++[z]):=by
 rw [kL,h]
def setD (ans:List Int):DataW Unit:=ans.foldl (fun D z=>D.put (.int .i64 z) (.lit (.bool true))) (.map [])
theorem setD_snoc (ans:List Int) (z:Int):setD (ans++[z])=(setD ans).put (.int .i64 z) (.lit (.bool true)):=by
 unfold setD;rw [List.foldl_append];rfl
theorem gc (z:Int):∀ (ans:List Int) (D:DataW Unit) (b:Bool),Maps.IsMap D->D.atKey (.int .i64 z) (.lit (.bool false))=.lit (.bool b)->(ans.foldl (fun D z=>D.put (.int .i64 z) (.lit (.bool true))) D).atKey (.int .i64 z) (.lit (.bool false))=.lit (.bool (b || ans.contains z))
 | [],D,b,_,h=>by simpa using h
 | x::r,D,b,hm,h=>by
   rw [List.foldl_cons]
   by_cases hx:z=x
   ·subst hx
    rw [gc z r _ true (hm.put _ _) (Maps.atKey_put_same hm (show WideAt.IsKeyLit (.int .i64 z) from trivial) _ _)]
    simp
   ·rw [gc z r _ b (hm.put _ _) (by rw [Maps.atKey_put_other (by simpa using hx)];exact h)]
    simp [hx]
theorem setD_at (ans:List Int) (z:Int):(setD ans).atKey (.int .i64 z) (.lit (.bool false))=.lit (.bool (ans.contains z)):=by
 unfold setD
 rw [gc z ans _ false Maps.isMap_empty rfl,Bool.false_or]
theorem ownsMap_bool {P:Program} {k:TypeId} {w:World} {b n:Nat} {D:DataW Unit} {t e:TypeId} (h:w.ownsMap P k (plainElem P e) b n D) (K:Maps.Keyed P k) (ht:P.underlying t=some (.map k e)) (he:P.underlying e=some .bool) (hz:(zeroValue e).run P w=.ok (.bool false) w)
 {key:Value} {kl:Lit} (hkey:keyOf P k key=some kl):∃ c,(Instr.lookup t (.map (some b)) key false).run P w=.ok (.bool c) w/\D.atKey kl (.lit (.bool false))=.lit (.bool c):=by
 obtain ⟨v,ps,iY,hv⟩:=h.lookup K ht hz (plainElem_bool he false) hkey
 unfold plainElem at hv
 rw [he] at hv
 cases v <;> simp at hv
 exact ⟨_,iY,hv.1.symm⟩
theorem Tryz.lawI:Maps.Keyed Tryz.prog 3:=Maps.int_keyed Tryz.underlying3
theorem Tryz.zeroB (w:World):(zeroValue 4).run Tryz.prog w=.ok (.bool false) w:=by kernel_rfl
theorem keyI {z:Int} (h1 : -2000<=z) (h2:z<=1000000):keyOf Tryz.prog 3 (.int .i64 z)=some (.int .i64 z):=Maps.keyOf_int_mk Tryz.underlying3 (WalkArith.wf_i64 ⟨by omega,by omega⟩)
set_option maxRecDepth 100000 in
theorem pending_any (F:Nat->Prop) (t:Ty) (v:Pl) (n:Nat) (mv pt:Value) (w:World) (hm:qH F w v mv) (hp:qG F w v pt) (hv:zv t v=true) (hn:n<=v.length) :
 Calls Tryz.prog 115 #[.agg #[mv,pt],.int .i64 (n:Nat)] w fun en w'=>en=.returned (.int .i64 (kL v n []))/\Below w.heap.size w w':=by
 have ci:=ze hv
 obtain ⟨ma,mc,rfl,cH⟩:=hm.cells
 obtain ⟨pa,pc,rfl,cw⟩:=hp.cells
 obtain ⟨W,hW,bM,hz,b0⟩:=kJ w (.cells #[.slice ma v.length mc,.slice pa v.length pc] 33)
 obtain ⟨c0,c1,_,_⟩:=zJ b0
 have hwn:IntKind.i64.wrap ((n:Int)-1)=(n:Int)-1:=qD _ (by omega) (by omega)
 have HH:=bU (bY cH (bY cw (bY bM hv)))
 have HW:=bU hW
 have lB:=@run_makeMap Tryz.prog
 clear hm hp cH cw hz b0 bM hW hv
 go_enter Tryz.func115,Tryz.ntmps115
 go_upto_region 1 with (fail)
 rw [HW.out]
 go_wp2_with fail
 go_loopw [6] (fun i wr=>∃ (r:Nat) (ans:List Int),i=.int .i64 ((r:Int)-1)/\r+ans.length<=n/\kL v r ans=kL v n []/\wr.ownsMap Tryz.prog 3 (plainElem (H:=Unit) Tryz.prog 4) W.heap.size ans.length (setD ans)/\Below W.heap.size W wr) (fun i _=>(intOf i+1).toNat)
 case atStart=>exact ⟨n,[],rfl,by simp,rfl,World.ownsMap_made _ _ _ _,(bP _ _).alloc (bX _) _⟩
 case round =>
  obtain ⟨r,ans,rfl,se,mu,ho,hB⟩:=hrel
  have HB:=bU hB;have HP:=bU mu;have HO:=bU ho
  clear hB mu ho
  cases r with
  | zero =>
    have e0:(((0:Nat):Int)-1) = -1:=rfl
    have E:=bU (show kL v n [] = -1 by rw [<- HP.out];rfl)
    rw [e0]
    go_wp2_with fail
    go_ret
    exact ⟨by rw [E.out];rfl,zzT HH.out.2.2.1 HB.out⟩
  | succ k =>
    have ek:(((k+1:Nat):Int)-1)=(k:Int):=by omega
    rw [ek]
    have rP:k<v.length:=by omega
    have od:(k:Int)<(v.length:Int):=by omega
    obtain ⟨x,p,z,bi,b4⟩:=kV HH.out.2.2.2 rP
    obtain ⟨mb,mo,rfl,_,cr,cf⟩:=HH.out.1 k _ bi
    obtain ⟨pb,po,rfl,_,cd,dZ⟩:=HH.out.2.1 k _ bi
    have hz:=xp b4
    have i_:IntKind.i64.wrap ((k:Int)-1)=(k:Int)-1:=qD _ (by omega) (by omega)
    obtain ⟨d0,d1,m0,p0⟩:wr.cell? ⟨w.heap.size,0,none⟩=some (.slice (some ⟨mb,mo,none⟩) v.length mc)/\wr.cell? ⟨w.heap.size,1,none⟩=some (.slice (some ⟨pb,po,none⟩) v.length pc)/\wr.cell? ⟨mb,mo+k,none⟩=some (str (x::p))/\wr.cell? ⟨pb,po+k,none⟩=some (.int .i64 z):=by
     have hy:=HB.out
     have ee:=zzT HH.out.2.2.1 hy
     exact ⟨(hy.cell (bW _ _ c0)).trans c0,(hy.cell (bW _ _ c1)).trans c1,(ee.cell (p:=⟨mb,mo+k,none⟩) cr).trans cf,(ee.cell (p:=⟨pb,po+k,none⟩) cd).trans dZ⟩
    have CB:=ju x p wr
    have HQ:=v9 bi ans
    cases hq:isQ (x::p) with
    | false =>
      rw [hq] at CB HQ
      have E:=bU (HP.out.symm.trans HQ)
      have CB:=bU CB
      have kz:=bU (keyI (z:=z) (by omega) (by omega))
      clear c0 c1 bi b4 cr cf cd dZ hq HQ
      go_wp2_with fail
      (with_reducible refine CB.out.mono ?_)
      rintro en w9 ⟨rfl,e⟩
      subst w9
      go_wp2_with (at_mapUpdate;refine wpList_mapUpdate_own (H:=Unit) _ rfl _ _ _ 207 rfl 3 4 Tryz.lawI Tryz.underlying207 (plainElem Tryz.prog 4) W.heap.size ans.length _ rfl HO.out (by unfold maxLen;omega) _ _ _ rfl rfl kz.out _ [] (plainElem_bool Tryz.underlying4 true) ?_)
      intro w1 Cs Bf
      have nM:Below W.heap.size W w1:=HB.out.trans ((But.ofGrown Bf).toBelow HB.out.size fun i hi e=>by simp at e;omega)
      rw [<- setD_snoc] at Cs
      have H1:=bU (bY Cs nM)
      clear Cs Bf nM d0 d1 m0 p0
      go_wp2_with fail
      go_roundw
      case rel=>exact ⟨k,ans++[z],rfl,by rw [List.length_append];simp;omega,E.out.symm,by rw [List.length_append];exact H1.out.1,H1.out.2⟩
      case measure=>simp [intOf]
    | true =>
      rw [hq] at CB HQ
      obtain ⟨c,iY,hat⟩:=ownsMap_bool HO.out Tryz.lawI Tryz.underlying207 Tryz.underlying4 (Tryz.zeroB _) (keyI (z:=(k:Int)) (by omega) (by omega))
      rw [setD_at] at hat
      obtain rfl:ans.contains (k:Int)=c:=by simpa using hat
      have E:=bU (HP.out.symm.trans HQ)
      have CB:=bU CB
      clear c0 c1 bi b4 cr cf cd dZ hq HQ hat
      cases hc:ans.contains (k:Int) with
      | true =>
        rw [hc] at iY E
        clear hc
        go_wp2_with fail
        (with_reducible refine CB.out.mono ?_)
        rintro en w9 ⟨rfl,e⟩
        subst w9
        go_wp2_with fail
        go_roundw
        case rel=>exact ⟨k,ans,rfl,by omega,E.out.symm,HO.out,HB.out⟩
        case measure=>simp [intOf]
      | false =>
        rw [hc] at iY E
        clear hc
        go_wp2_with fail
        (with_reducible refine CB.out.mono ?_)
        rintro en w9 ⟨rfl,e⟩
        subst w9
        go_wp2_with fail
        go_ret
        exact ⟨by rw [E.out];rfl,zzT HH.out.2.2.1 HB.out⟩
def IntAt (w:World) (zs:List Int) (x:Value):Prop:=∃ a c,x=.slice a zs.length c/\∀ (i:Nat) (z:Int),zs[i]? = some z->∃ b o,a=some ⟨b,o,none⟩/\b<w.heap.size/\w.cell? ⟨b,o+i,none⟩=some (.int .i64 z)
theorem uu.ints {w:World} {ns:List Nat} {x:Value} (h:uu w ns x):IntAt w (ns.map fun n=>((n:Nat):Int)) x:=by
 obtain ⟨b,o,c,e,hl,hc⟩:=h
 refine ⟨some ⟨b,o,none⟩,c,by rw [List.length_map];exact e,fun i z hz=>?_⟩
 rw [List.getElem?_map,Option.map_eq_some_iff] at hz
 obtain ⟨n,hn,rfl⟩:=hz
 exact ⟨b,o,rfl,hl,hc i n hn⟩
def zsV (zs:List Int):List Value:=zs.map fun z=>Value.int .i64 z
theorem Own.intAt {w:World} {zs:List Int} {v:Value} (h:Own w 3 1 v zs.length (zsV zs)):IntAt w zs v:=by
 rcases h.2 with ⟨e,h0⟩ | ⟨g,cap,cur,e,_,hg,sP,_,hcs,ht⟩
 ·refine ⟨none,0,by rw [e,h0],fun i z hz=>?_⟩
  have:=(List.getElem?_eq_some_iff.1 hz).1;omega
 ·refine ⟨some ⟨g,0,none⟩,cap,e,fun i z hz=>⟨g,0,rfl,zZ hg,?_⟩⟩
  have Aa:=(List.getElem?_eq_some_iff.1 hz).1
  have h2:(zsV zs)[i]? = some (.int .i64 z):=by unfold zsV;rw [List.getElem?_map,hz];rfl
  rw [<- ht,List.getElem?_take,if_pos (by omega),Array.getElem?_toList] at h2
  rw [Nat.zero_add]
  simp only [World.cell?,hg];simpa using h2
theorem take_has {zs:List Int} {k:Nat} {z n:Int} (h:zs[k]? = some z):(zs.take (k+1)).contains n=((zs.take k).contains n || (z == n)):=by
 rw [List.take_add_one,h]
 rw [Bool.eq_iff_iff,List.contains_iff_mem,Bool.or_eq_true,List.contains_iff_mem,beq_iff_eq,List.mem_append,Option.toList_some,List.mem_singleton]
 constructor
 ·rintro (h | h)
  ·exact .inl h
  ·exact .inr h.symm
 ·rintro (h | h)
  ·exact .inl h
  ·exact .inr h.symm
set_option maxRecDepth 20000 in
theorem wM (zs:List Int) (n:Int) (x:Value) (w:World) (h:IntAt w zs x) (hl:zs.length<=1000000) :
 Calls Tryz.prog 125 #[x,.int .i64 n] w fun en w'=>en=.returned (.bool (zs.contains n))/\w'=w:=by
 obtain ⟨a,c,rfl,hat⟩:=h
 have HA:=bU hat
 clear hat
 go_enter Tryz.func125,Tryz.ntmps125
 go_wp2_with fail
 go_loopw [5] (fun i wr=>wr=w/\∃ k:Nat,k<=zs.length/\i=.int .i64 k/\(zs.take k).contains n=false) (fun i _=>zs.length-(intOf i).toNat)
 case atStart=>exact ⟨rfl,0,Nat.zero_le _,rfl,rfl⟩
 case round =>
  obtain ⟨rfl,k,hk,rfl,dU⟩:=hrel
  by_cases bA:k<zs.length
  ·have cT:(k:Int)<(zs.length:Int):=by omega
   obtain ⟨z,hz⟩:∃ z,zs[k]? = some z:=⟨_,List.getElem?_eq_getElem bA⟩
   obtain ⟨b,o,rfl,_,hc⟩:=HA.out k z hz
   have HT:=bU ((take_has (n:=n) hz).trans (by rw [dU,Bool.false_or]))
   clear hz dU
   cases ae:(z == n) with
   | true =>
     have E:=bU (show zs.contains n=true by
      have h:=HT.out
      rw [ae,List.contains_iff_mem] at h
      rw [List.contains_iff_mem];exact List.mem_of_mem_take h)
     clear HT
     go_wp2_with fail
     go_ret
     exact ⟨by rw [E.out];rfl,by first | trivial | rfl⟩
   | false =>
     have E:=bU (HT.out.trans ae)
     clear HT
     go_wp2_with fail
     go_roundw
     case rel=>exact ⟨by first | trivial | rfl,k+1,by omega,by go_num,E.out⟩
     case measure=>simp [intOf];omega
  ·obtain rfl:k=zs.length:=by omega
   rw [List.take_length] at dU
   have E:=bU dU
   clear dU
   go_wp2_with fail
   go_ret
   exact ⟨by rw [E.out];rfl,by first | trivial | rfl⟩
theorem q_ne (c:UInt8) (p:Bs):((c.toNat:Int) != 113) = !isQ (c::p):=by
 rw [kw,bne,q_int]
theorem zsV_append (a b:List Int):zsV (a++b)=zsV a++zsV b:=by simp [zsV]
set_option maxRecDepth 100000 in
theorem yw (F:Nat->Prop) (t:Ty) (v:Pl) (n:Nat) (mv pt:Value) (w:World) (hm:qH F w v mv) (hp:qG F w v pt) (hv:zv t v=true) (hn:n<=v.length) (hl:∀ x∈v,x.1.length<=16777216) :
 Calls Tryz.prog 127 #[.agg #[mv,pt],.int .i64 (n:Nat)] w fun en w'=>en=.returned (.int .i64 (kL v n []))/\Below w.heap.size w w':=by
 have ci:=ze hv
 obtain ⟨ma,mc,rfl,cH⟩:=hm.cells
 obtain ⟨pa,pc,rfl,cw⟩:=hp.cells
 obtain ⟨W,hW,bM,hz,b0⟩:=kJ w (.cells #[.slice ma v.length mc,.slice pa v.length pc] 33)
 obtain ⟨c0,c1,_,_⟩:=zJ b0
 have hwn:IntKind.i64.wrap ((n:Int)-1)=(n:Int)-1:=qD _ (by omega) (by omega)
 have HH:=bU (bY cH (bY cw (bY bM (bY hv hl))))
 have HW:=bU hW
 clear hm hp cH cw hz b0 bM hW hv hl
 go_enter Tryz.func127,Tryz.ntmps127
 go_upto_region 1 with (fail)
 rw [HW.out]
 go_wp2_with fail
 go_loopw [5,6] (fun o i wr=>∃ (r:Nat) (ans:List Int) (a:Option Addr) (c:Nat),i=.int .i64 ((r:Int)-1)/\r+ans.length<=n/\kL v r ans=kL v n []/\o=.slice a ans.length c/\Own wr 3 1 (.slice a ans.length c) ans.length (zsV ans)/\Below W.heap.size W wr/\(∀ g,(Value.slice a ans.length c).ownBlock=some g->W.heap.size<=g)) (fun _ i _=>(intOf i+1).toNat)
 case atStart=>exact ⟨n,[],_,_,rfl,by simp,rfl,rfl,Own.litAt #[] 0 _ rfl (by decide) rfl,(bP _ _).alloc (bX _) _,gS (bX _)⟩
 case round =>
  obtain ⟨r,ans,a,c,rfl,se,mu,rfl,ho,hB,hf⟩:=hrel
  have HB:=bU hB;have HP:=bU mu;have HO:=bU ho;have HF:=bU hf
  clear hB mu ho hf
  cases r with
  | zero =>
    have e0:(((0:Nat):Int)-1) = -1:=rfl
    have E:=bU (show kL v n [] = -1 by rw [<- HP.out];rfl)
    rw [e0]
    go_wp2_with fail
    go_ret
    exact ⟨by rw [E.out];rfl,zzT HH.out.2.2.1 HB.out⟩
  | succ k =>
    have ek:(((k+1:Nat):Int)-1)=(k:Int):=by omega
    rw [ek]
    have rP:k<v.length:=by omega
    have od:(k:Int)<(v.length:Int):=by omega
    obtain ⟨x,p,z,bi,b4⟩:=kV HH.out.2.2.2.1 rP
    obtain ⟨mb,mo,rfl,_,cr,cf⟩:=HH.out.1 k _ bi
    obtain ⟨pb,po,rfl,_,cd,dZ⟩:=HH.out.2.1 k _ bi
    have hz:=xp b4
    have i_:IntKind.i64.wrap ((k:Int)-1)=(k:Int)-1:=qD _ (by omega) (by omega)
    obtain ⟨d0,d1,m0,p0⟩:wr.cell? ⟨w.heap.size,0,none⟩=some (.slice (some ⟨mb,mo,none⟩) v.length mc)/\wr.cell? ⟨w.heap.size,1,none⟩=some (.slice (some ⟨pb,po,none⟩) v.length pc)/\wr.cell? ⟨mb,mo+k,none⟩=some (str (x::p))/\wr.cell? ⟨pb,po+k,none⟩=some (.int .i64 z):=by
     have hy:=HB.out
     have ee:=zzT HH.out.2.2.1 hy
     exact ⟨(hy.cell (bW _ _ c0)).trans c0,(hy.cell (bW _ _ c1)).trans c1,(ee.cell (p:=⟨mb,mo+k,none⟩) cr).trans cf,(ee.cell (p:=⟨pb,po+k,none⟩) cd).trans dZ⟩
    have HQ:=v9 bi ans
    have bm:=q_ne x p
    obtain ⟨M,hM⟩:=zzM (x::p)
    have dS:0<M.length:=by rw [hM];simp
    have nJ:(0:Int)<(M.length:Int):=by omega
    have B0:((((⟨M.toArray⟩:ByteArray)[0]'(kY dS)).toNat:Int))=(x.toNat:Int):=by rw [kh dS];subst hM;rfl
    cases hq:isQ (x::p) with
    | false =>
      rw [hq] at HQ bm
      have E:=bU (HP.out.symm.trans HQ)
      rw [<- hM] at m0
      clear c0 c1 bi b4 cr cf cd dZ hq HQ hM
      go_wp2_with (at_builtin;refine zB rfl _ _ 31 rfl 3 (.int .i64 0) 1 8 Tryz.underlying31 Tryz.infoInt2 rfl (by decide) (.slice a ans.length c) ans.length (zsV ans) rfl ?c1 _ 1 [.int .i64 z] rfl ?c2 ?c3 ?c4 ?_)
      case c1=>exact HO.out.alloc _
      case c2=>exact zR.litk #[.int .i64 z] rfl (by simp [Value.oneCell']) _ (by rfl)
      case c3=>unfold maxLen;omega
      case c4=>omega
      intro a7 c7 w8 rY dg rc
      have rR:=HB.out.size
      have dh:Below W.heap.size W w8:=(HB.out.alloc rR _).trans (dg.toBelow (by rw [zQ];omega) fun i hi e=>by have:=HF.out i e;omega)
      have aS:∀ g,(Value.slice a7 (ans.length+1) c7).ownBlock=some g->W.heap.size<=g:=fun g hg=>by
       rcases rc g hg with e | e
       ·exact HF.out g e
       ·omega
      have el:ans.length+1=(ans++[z]).length:=by simp
      rw [<- show zsV (ans++[z])=zsV ans++[.int .i64 z] from zsV_append _ _] at rY
      have H8:=bU (bY rY (bY dh aS))
      clear rY dg rc dh aS d0 d1 m0 p0
      go_wp2_with fail
      go_roundw
      case rel=>exact ⟨k,ans++[z],a7,c7,rfl,by rw [<- el];omega,E.out.symm,by rw [<- el],by rw [<- el];exact H8.out.1,H8.out.2.1,by rw [<- el];exact H8.out.2.2⟩
      case measure=>simp [intOf]
    | true =>
      rw [hq] at HQ bm
      have E:=bU (HP.out.symm.trans HQ)
      have CH:=bU (wM ans (k:Int) _ wr (Own.intAt HO.out) (by omega))
      rw [<- hM] at m0
      clear c0 c1 bi b4 cr cf cd dZ hq HQ hM
      cases hc:ans.contains (k:Int) with
      | true =>
        rw [hc] at E CH
        clear hc
        go_wp2_with fail
        (with_reducible refine CH.out.mono ?_)
        rintro en w9 ⟨rfl,e⟩
        subst w9
        go_wp2_with fail
        go_roundw
        case rel=>exact ⟨k,ans,a,c,rfl,by omega,E.out.symm,rfl,HO.out,HB.out,HF.out⟩
        case measure=>simp [intOf]
      | false =>
        rw [hc] at E CH
        clear hc
        go_wp2_with fail
        (with_reducible refine CH.out.mono ?_)
        rintro en w9 ⟨rfl,e⟩
        subst w9
        go_wp2_with fail
        go_ret
        exact ⟨by rw [E.out];rfl,zzT HH.out.2.2.1 HB.out⟩
def jL (p:Nat->Bool):Nat->Bool
 | 0=>true
 | n+1=>jL p n && p n
theorem vh {p:Nat->Bool}:∀ {n i:Nat},jL p n=true->i<n->p i=true
 | 0,i,_,hi=>absurd hi (by omega)
 | n+1,i,h,hi=>by
   rw [jL,Bool.and_eq_true] at h
   rcases Nat.lt_or_ge i n with h' | h'
   ·exact vh h.1 h'
   ·obtain rfl:i=n:=by omega
    exact h.2
theorem pj {p:Nat->Bool} {n i:Nat} (h:p i=false) (hi:i<n):jL p n=false:=by
 cases hh:jL p n with
 | false=>rfl
 | true=>rw [vh hh hi] at h;simp at h
theorem yI {p:Nat->Bool}:∀ {n:Nat},(∀ i,i<n->p i=true)->jL p n=true
 | 0,_=>rfl
 | n+1,h=>by rw [jL,yI (fun i hi=>h i (by omega)),h n (by omega)];rfl
theorem allP_le {p:Nat->Bool} {n m:Nat} (h:jL p n=true) (hm:m<=n):jL p m=true:=yI fun i hi=>vh h (by omega)
def vk (v:Pl) (i:Nat):Bool:=if i=0 then true else match v[i]? with
 | none=>true
 | some x=>((kW v (kC x.1) i).map fun n=>((n:Nat):Int)).contains x.2
def yk (v:Pl) (i:Nat):Bool:=match v[i]? with
 | none=>true
 | some x=>isQ x.1 || x.2 == kL v i []
def xY (v:Pl):Bool:=jL (vk v) v.length
def brP (v:Pl):Bool:=jL (yk v) v.length
def qd (v:Pl):Bool:=xY v && brP v
theorem xX {v:Pl} {i:Nat} {m:Bs} {z:Int} (h:v[i]? = some (m,z)) (hi:0<i):vk v i=((kW v (kC m) i).map fun n=>((n:Nat):Int)).contains z:=by
 unfold vk;rw [if_neg (by omega),h]
theorem xt {v:Pl} {i:Nat} {m:Bs} {z:Int} (h:v[i]? = some (m,z)):yk v i=(isQ m || z == kL v i []):=by
 unfold yk;rw [h]
theorem viewP_pos (v:Pl) (opp:Bool) {n:Nat} (hn:0<n):0<(kW v opp n).length:=by
 obtain ⟨k,rfl⟩:∃ k,n=k+1:=⟨n-1,by omega⟩
 unfold kW
 rw [kS,List.length_reverse,List.length_cons];omega
theorem viewD_len (v:Pl) (opp:Bool):∀ f n,(qv v opp f n).length<=f
 | 0,_=>by simp [qv]
 | f+1,0=>by rw [jR];simp
 | f+1,n+1=>by rw [kS,List.length_cons];have:=viewD_len v opp f (jA v opp n);omega
theorem wQ (v:Pl) (opp:Bool) (n:Nat):(kW v opp n).length<=n:=by
 unfold kW;rw [List.length_reverse];exact viewD_len v opp n n
theorem contains_view {w:World} {ns:List Nat} {x:Value} (h:uu w ns x) (hl:ns.length<=1000000) (z:Int) :
 Calls Tryz.prog 113 #[x,.int .i64 z] w fun en w'=>en=.returned (.bool ((ns.map fun n=>((n:Nat):Int)).contains z))/\w'=w:=by
 obtain ⟨b,o,c,rfl,hb,hc⟩:=h
 refine (Tryz.slices_Contains_int b o ns.length c (ns.map fun n=>((n:Nat):Int)) z w (by simp) (by omega) (fun j hj=>?_)).mono ?_
 ·rw [List.length_map] at hj
  rw [hc j ns[j] (List.getElem?_eq_getElem hj),List.getD_eq_getElem?_getD,List.getElem?_map,List.getElem?_eq_getElem hj];rfl
 ·rintro en w' ⟨rfl,e⟩
  exact ⟨by rw [List.take_of_length_le (by simp)],e⟩
structure vU (F:Nat->Prop) (t:Ty) (v:Pl) (mv pt:Value) (w:World):Prop where
 m:qH F w v mv
 p:qG F w v pt
 ok:zv t v=true
 l:∀ x∈v,x.1.length<=16777216
theorem vU.below {F:Nat->Prop} {t:Ty} {v:Pl} {mv pt:Value} {w w':World} (h:vU F t v mv pt w) (hb:Below w.heap.size w w'):vU F t v mv pt w':=⟨Rep.below hb (fun _ h=>h) h.m,Rep.below hb (fun _ h=>h) h.p,h.ok,h.l⟩
set_option maxRecDepth 100000 in
theorem visible_any (F:Nat->Prop) (t:Ty) (v:Pl) (mv pt:Value) (w:World) (h:vU F t v mv pt w) :
 Calls Tryz.prog 79 #[.agg #[mv,pt]] w fun en w'=>en=.returned (.bool (xY v))/\Below w.heap.size w w':=by
 have ci:=ze h.ok
 obtain ⟨ma,mc,rfl,cH⟩:=h.m.cells
 obtain ⟨pa,pc,rfl,cw⟩:=h.p.cells
 obtain ⟨W,hW,bM,hz,b0⟩:=kJ w (.cells #[.slice ma v.length mc,.slice pa v.length pc] 33)
 obtain ⟨c0,c1,_,_⟩:=zJ b0
 have HH:=bU (bY cH (bY cw (bY bM (h.below bM))))
 have HW:=bU hW
 clear h cH cw hz b0 bM hW
 go_enter Tryz.func79,Tryz.ntmps79
 go_upto_region 1 with (fail)
 rw [HW.out]
 go_wp2_with fail
 go_loopw [3] (fun i wr=>∃ (wz:World) (k:Nat),wz=wr/\1<=k/\k<=v.length+1/\i=.int .i64 k/\jL (vk v) k=true/\Below W.heap.size W wz) (fun i _=>v.length+1-(intOf i).toNat)
 case atStart=>exact ⟨_,1,rfl,bX _,by omega,rfl,rfl,bP _ _⟩
 case round =>
  obtain ⟨wr,k,rfl,hk1,hk,rfl,be,hB⟩:=hrel
  have d0:=(hB.cell (bW _ _ c0)).trans c0
  have d1:=(hB.cell (bW _ _ c1)).trans c1
  clear c0 c1
  have HB:=bU (bY hB (zzT HH.out.2.2.1 hB))
  clear hB
  by_cases bA:k<v.length
  ·have cT:(k:Int)<(v.length:Int):=by omega
   obtain ⟨x,p,z,bi,b4⟩:=kV HH.out.2.2.2.ok bA
   have bw:=HH.out.2.2.2.l _ (List.mem_of_getElem? bi)
   rw [List.length_cons] at bw
   obtain ⟨mb,mo,rfl,_,cr,cf⟩:=HH.out.1 k _ bi
   obtain ⟨pb,po,rfl,_,cd,dZ⟩:=HH.out.2.1 k _ bi
   have m0:=(HB.out.2.cell (p:=⟨mb,mo+k,none⟩) cr).trans cf
   have p0:=(HB.out.2.cell (p:=⟨pb,po+k,none⟩) cd).trans dZ
   have PLR:=bU (fun (y:World) (hy:Below wr.heap.size wr y)=>(HH.out.2.2.2.below HB.out.1).below hy)
   have VK:=xX bi (by omega)
   have CB:=bU (vT x p (show p.length<=16777216 by omega))
   obtain ⟨bo,dq⟩:=zzN (kC (x::p))
   rw [dq] at VK CB
   obtain ⟨cn,eO⟩:=zzN (vk v k)
   rw [eO] at VK
   have CV:=bU (fun (y:World) (hy:Below wr.heap.size wr y)=>view_any F t v bo k _ _ y (PLR.out y hy).m (PLR.out y hy).p HH.out.2.2.2.ok (by omega) (by omega) HH.out.2.2.2.l)
   have HV:=bU (bY VK (bY eO (bY be bA)))
   have KEY:=bU (fun (y:World) (hy:Below wr.heap.size wr y)=>(show y.cell? ⟨w.heap.size,0,none⟩=some (.slice (some ⟨mb,mo,none⟩) v.length mc)/\y.cell? ⟨w.heap.size,1,none⟩=some (.slice (some ⟨pb,po,none⟩) v.length pc)/\y.cell? ⟨mb,mo+k,none⟩=some (str (x::p))/\y.cell? ⟨pb,po+k,none⟩=some (.int .i64 z) from
    ⟨(hy.cell (bW _ _ d0)).trans d0,(hy.cell (bW _ _ d1)).trans d1,(hy.cell (bW _ _ m0)).trans m0,(hy.cell (bW _ _ p0)).trans p0⟩))
   clear bi b4 bw cr cf cd dZ dq eO VK be
   go_upto_region 4 with (fail)
   clear d0 d1 m0 p0
   refine wp_region_noPanic ?_
   refine zX (fun w'=>Below wr.heap.size wr w') (fun _=>false) (by kernel_rfl) ?_
   have bS:(fun w'=>Below wr.heap.size wr w') wr.drew:=Below.drew (bP _ _)
   refine tk [0,1,2] bS ?_
   (intro d hd;simp [tkD] at hd;subst hd;simp only [tks,pQ,pZ,pS])
   iterate 3 (refine ⟨?_,?_,?_⟩;rotate_left;· (intro oi ho;simp at ho;subst ho;refine Or.inl ⟨by rfl,fun w' bR=>?_⟩;have e0:=(KEY.out w' bR).1;have e1:=(KEY.out w' bR).2.1;go_simp;try with_reducible rfl))
   refine tk [3,4,5] bS ?_
   (intro d hd;simp [tkD] at hd;subst hd;simp only [tks,pQ,pZ,pS])
   iterate 3 (refine ⟨?_,?_,?_⟩;rotate_left;· (intro oi ho;simp at ho;subst ho;refine Or.inl ⟨by rfl,fun w' bR=>?_⟩;have e0:=(KEY.out w' bR).1;go_simp;try with_reducible rfl))
   refine tk [6,9] bS ?_
   (intro d hd;simp [tkD] at hd;subst hd;simp only [tks,pQ,pZ,pS])
   iterate 2 (refine ⟨?_,?_,?_⟩;rotate_left;· (intro oi ho;simp at ho;subst ho;refine Or.inl ⟨by rfl,fun w' bR=>?_⟩;have e0:=(KEY.out w' bR).2.2.1;go_simp;try with_reducible rfl))
   refine tk [10,11,12] bS ?_
   (intro d hd;simp [tkD] at hd;subst hd;simp only [tks,pQ,pZ,pS])
   iterate 3 (refine ⟨?_,?_,?_⟩;rotate_left;· (intro oi ho;simp at ho;subst ho;refine Or.inl ⟨by rfl,fun w' bR=>?_⟩;have e0:=(KEY.out w' bR).2.1;go_simp;try with_reducible rfl))
   refine tk [13] bS ?_
   (intro d hd;simp [tkD] at hd;subst hd;simp only [tks,pQ,pZ,pS])
   (refine ⟨?_,?_,?_⟩;rotate_left;· (intro oi ho;simp at ho;subst ho;refine Or.inl ⟨by rfl,fun w' bR=>?_⟩;have e0:=(KEY.out w' bR).2.2.2;go_simp;try with_reducible rfl))
   (refine on 7 ?_;intro o ho K' hK;simp at ho;subst ho;go_simp)
   go_at_call 94
   (with_reducible refine (CB.out _).mono ?_)
   rintro en x7 ⟨rfl,e⟩
   subst x7
   (refine hK.out _ _ (fun _=>bS) ?_;clear hK K';try simp only [pQ,pN,pZ,pS])
   (refine on 8 ?_;intro o ho K' hK;simp at ho;subst ho;go_simp)
   go_at_call 54
   (with_reducible refine (CV.out _ bS).mono ?_)
   rintro en x8 ⟨xv,rfl,dg,CU⟩
   have dh:Below wr.heap.size wr x8:=zzT bS dg
   have CC:=contains_view CU (by have:=wQ v bo k;omega) z
   rw [<- HV.out.1] at CC
   (refine hK.out _ _ (fun _=>dh) ?_;clear hK K';try simp only [pQ,pN,pZ,pS])
   (refine on 14 ?_;intro o ho K' hK;simp at ho;subst ho;go_simp)
   go_at_call 113
   (with_reducible refine CC.mono ?_)
   rintro en oK ⟨rfl,e⟩
   subst oK
   clear CC
   (refine hK.out _ _ (fun _=>dh) ?_;clear hK K';try simp only [pQ,pN,pZ,pS])
   have iq:=dh
   refine tk [15] iq ?_
   (intro d hd;simp [tkD] at hd;subst hd;simp only [tks,pQ,pZ,pS])
   (refine ⟨?_,?_,?_⟩;rotate_left;· (intro oi ho;simp at ho;subst ho;refine Or.inl ⟨by rfl,fun w' bR=>?_⟩;go_simp;try with_reducible rfl))
   refine zU (by kernel_rfl) (NoPanic.normal ?_) _
   have t_:=bU dh
   clear dh dg CU bS iq KEY CV CB PLR
   cases cn with
   | true =>
     have E:=bU (show jL (vk v) (k+1)=true by rw [jL,HV.out.2.2.1,HV.out.2.1];rfl)
     go_wp2_with fail
     go_roundw
     case rel=>exact ⟨_,k+1,rfl,by omega,by omega,by go_num,E.out,zzT HB.out.1 t_.out⟩
     case measure=>simp [intOf];omega
   | false =>
     have E:=bU (show xY v=false from pj HV.out.2.1 HV.out.2.2.2)
     go_wp2_with fail
     go_ret
     exact ⟨by rw [E.out];rfl,zzT HB.out.2 t_.out⟩
  ·have E:=bU (show xY v=true from allP_le be (by omega))
   have cT:¬ (k:Int)<(v.length:Int):=by omega
   clear be
   go_wp2_with fail
   go_ret
   exact ⟨by rw [E.out];rfl,HB.out.2⟩
end Go.Proofs.YtfedjhgaeikjmaaGreatDoor

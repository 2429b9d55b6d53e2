/- Walks of functions that the statement reaches, and plain words. No conditions. -/
import Derived.Maps.Own
import Derived.Maps.Views
import Derived.Test.YtfedjhgaeikjmaaGreatDoorQ6
set_option linter.unusedVariables false
set_option linter.unusedSimpArgs false
set_option maxHeartbeats 8000000
namespace Go.Proofs.YtfedjhgaeikjmaaGreatDoor
open Go.RowKit
theorem wpAnyS_named {P:Program} {md:Region.Mode} {ops:Array Oper} {Q:Exit->Act->World->Prop} {S:World->Prop} {T:Nat->Bool} {f:Nat} {l:Array Bool} {a:Act} {w:World} (h:∀ G:Nat->Array Bool->Act->World->Prop,G=kI P md ops Q S T->∀ b:Act,b=a->G f l b w):kI P md ops Q S T f l a w:=h _ rfl _ rfl
theorem ofL {G:Nat->Array Bool->Act->World->Prop} {f:Nat} {l l':Array Bool} {a a':Act} {w:World} (k:G f l a w) (hl:l=l') (ha:a=a'):G f l' a' w:=by subst hl ha;exact k
theorem boxes_4 (w:World) (A B C D:Obj):∃ W,(((w.alloc A).alloc B).alloc C).alloc D=W/\Below w.heap.size w W/\W.heap.size=w.heap.size+4/\W.heap[w.heap.size]? = some A/\W.heap[w.heap.size+1]? = some B/\W.heap[w.heap.size+2]? = some C/\W.heap[w.heap.size+3]? = some D:=by
 obtain ⟨X,hX,eW,hz,x0,x1⟩:=kD w A B
 obtain ⟨Y,hY,mU,mp,y0,y1⟩:=kD X C D
 rw [hX,hY]
 have hl:=eW.size
 refine ⟨Y,rfl,eW.trans (mU.mono hl),by omega,(mU.block _ (zZ x0)).trans x0,(mU.block _ (zZ x1)).trans x1,?_,?_⟩
 ·rw [<- hz];exact y0
 ·rw [show w.heap.size+3=X.heap.size+1 from by omega];exact y1
def BegP (s:Bs) (v:Int) (a2:Option Addr) (n2 c2:Nat) (a3:Option Addr) (n3 c3:Nat) (begun args:List Nat) (n idx:Nat) (w:World) (en:Ending) (w':World):Prop :=
 ∃ ba bc aa ac,en=.returned (.agg #[str s,.int .i64 v,.slice a2 n2 c2,.slice a3 n3 c3,.slice ba (begun.length+n) bc,.slice aa (args.length+n) ac,.int .i64 (idx:Nat)])/\Below w.heap.size w w' /\
   Rep (w.heap.size<=·) w' (numD (begun++List.replicate n idx)) (.slice ba (begun.length+n) bc)/\Rep (w.heap.size<=·) w' (numD (args++List.range n)) (.slice aa (args.length+n) ac)
def zT (ns:List Nat):List Value:=ns.map fun n=>Value.int .i64 (n:Nat)
theorem Own.numD {F:Nat->Prop} {w:World} {ns:List Nat} {a:Option Addr} {n c:Nat} (h:Own w 3 1 (.slice a n c) n (zT ns)) (hn:n=ns.length) (hF:∀ g,(Value.slice a n c).ownBlock=some g->F g):Rep F w (numD ns) (.slice a n c):=by
 subst hn
 refine h.rep hF ?_
 rw [show (ns.map fun n=>DV.val (.int .i64 (n:Nat)))=(zT ns).map DV.val from by simp [zT,Function.comp_def]]
 exact (qJ _ _).2 rfl
theorem cells7_set4 {w:World} {b:Nat} {x0 x1 x2 x3 x4 x5 x6:Value} {T:TypeId} (h:w.heap[b]? = some (.cells #[x0,x1,x2,x3,x4,x5,x6] T (0,0))) (u:Value):(w.setCell ⟨b,4,none⟩ u).heap[b]? = some (.cells #[x0,x1,x2,x3,u,x5,x6] T (0,0)):=by rw [zQ h];rfl
theorem cells7_set5 {w:World} {b:Nat} {x0 x1 x2 x3 x4 x5 x6:Value} {T:TypeId} (h:w.heap[b]? = some (.cells #[x0,x1,x2,x3,x4,x5,x6] T (0,0))) (u:Value):(w.setCell ⟨b,5,none⟩ u).heap[b]? = some (.cells #[x0,x1,x2,x3,x4,u,x6] T (0,0)):=by rw [zQ h];rfl
theorem wA {w:World} {b:Nat} {x0 x1 x2 x3 x4 x5 x6:Value} {T:TypeId} (h:w.heap[b]? = some (.cells #[x0,x1,x2,x3,x4,x5,x6] T (0,0))) (y0 y1 y2 y3 y4 y5 y6:Value) :
 (((((((w.setCell ⟨b,0,none⟩ y0).setCell ⟨b,1,none⟩ y1).setCell ⟨b,2,none⟩ y2).setCell ⟨b,3,none⟩ y3).setCell ⟨b,4,none⟩ y4).setCell ⟨b,5,none⟩ y5).setCell ⟨b,6,none⟩ y6).heap[b]? = some (.cells #[y0,y1,y2,y3,y4,y5,y6] T (0,0)):=by
 rw [zQ (zQ (zQ (zQ (zQ (zQ (zQ h))))))];rfl
structure BegI (g:Nat) (s:Bs) (v:Int) (a2:Option Addr) (n2 c2:Nat) (a3:Option Addr) (n3 c3:Nat) (nb na:Nat) (xs ys:List Nat) (idx:Nat) (k:Nat) (a5:Option Addr) (c5:Nat) (a6:Option Addr) (c6:Nat) (w wr:World):Prop where
 below:Below w.heap.size w wr
 box:wr.heap[g]? = some (.cells #[str s,.int .i64 v,.slice a2 n2 c2,.slice a3 n3 c3,.slice a5 (nb+k) c5,.slice a6 (na+k) c6,.int .i64 (idx:Nat)] 145 (0,0))
 o5:Own wr 3 1 (.slice a5 (nb+k) c5) (nb+k) (zT xs++List.replicate k (.int .i64 (idx:Nat)))
 o6:Own wr 3 1 (.slice a6 (na+k) c6) (na+k) (zT ys++zT (List.range k))
 gw:w.heap.size<=g
 f5:∀ i,(Value.slice a5 (nb+k) c5).ownBlock=some i->w.heap.size<=i/\i≠g
 f6:∀ i,(Value.slice a6 (na+k) c6).ownBlock=some i->w.heap.size<=i/\i≠g
 ap:∀ i,(Value.slice a5 (nb+k) c5).ownBlock=some i->(Value.slice a6 (na+k) c6).ownBlock≠some i
theorem BegI.half {g:Nat} {s:Bs} {v:Int} {a2:Option Addr} {n2 c2:Nat} {a3:Option Addr} {n3 c3:Nat} {nb na:Nat} {xs ys:List Nat} {idx k:Nat} {a5:Option Addr} {c5:Nat} {a6:Option Addr} {c6:Nat} {w wr:World} (h:BegI g s v a2 n2 c2 a3 n3 c3 nb na xs ys idx k a5 c5 a6 c6 w wr)
 {a7:Option Addr} {c7:Nat} {w7:World} {o:Obj} (ho:Own w7 3 1 (.slice a7 (nb+k+1) c7) (nb+k+1) (zT xs++List.replicate k (.int .i64 (idx:Nat))++[.int .i64 (idx:Nat)])) (hb:But (fun b=>(Value.slice a5 (nb+k) c5).ownBlock=some b) (wr.alloc o) w7)
 (hg:∀ i,(Value.slice a7 (nb+k+1) c7).ownBlock=some i->(Value.slice a5 (nb+k) c5).ownBlock=some i\/i=wr.heap.size+1) :
 ∃ W7,w7.setCell ⟨g,4,none⟩ (.slice a7 (nb+k+1) c7)=W7/\Below w.heap.size w W7/\W7.heap[g]? = some (.cells #[str s,.int .i64 v,.slice a2 n2 c2,.slice a3 n3 c3,.slice a7 (nb+k+1) c7,.slice a6 (na+k) c6,.int .i64 (idx:Nat)] 145 (0,0)) /\
   Own W7 3 1 (.slice a7 (nb+k+1) c7) (nb+k+1) (zT xs++List.replicate (k+1) (.int .i64 (idx:Nat)))/\Own W7 3 1 (.slice a6 (na+k) c6) (na+k) (zT ys++zT (List.range k)) /\
   (∀ i,(Value.slice a7 (nb+k+1) c7).ownBlock=some i->w.heap.size<=i/\i≠g)/\(∀ i,(Value.slice a7 (nb+k+1) c7).ownBlock=some i->(Value.slice a6 (na+k) c6).ownBlock≠some i):=by
 have hz:=h.below.size
 have ou:=zZ h.box
 have aZ:∀ i,(Value.slice a6 (na+k) c6).ownBlock=some i->i<wr.heap.size:=fun i hi=>h.o6.lt hi
 have hlt5:∀ i,(Value.slice a5 (nb+k) c5).ownBlock=some i->i<wr.heap.size:=fun i hi=>h.o5.lt hi
 have sQ:∀ i,(Value.slice a7 (nb+k+1) c7).ownBlock=some i->w.heap.size<=i/\i≠g:=fun i hi=>by
  rcases hg i hi with e | e
  ·exact h.f5 i e
  ·omega
 have aM:w7.heap[g]? = some (.cells #[str s,.int .i64 v,.slice a2 n2 c2,.slice a3 n3 c3,.slice a5 (nb+k) c5,.slice a6 (na+k) c6,.int .i64 (idx:Nat)] 145 (0,0)) :=
  (hb.block g (by rw [zK];omega) (fun e=>(h.f5 g e).2 rfl)).trans (zD h.box)
 refine ⟨_,rfl,?_,cells7_set4 aM _,?_,?_,sQ,fun i hi=>?_⟩
 ·exact ((h.below.alloc hz o).trans (hb.toBelow (by rw [zK];omega) fun i hi e=>by have:=(h.f5 i e).1;omega)).setCell (p:=⟨g,4,none⟩) h.gw _
 ·rw [List.append_assoc] at ho
  rw [List.replicate_succ']
  exact ho.keep fun i x hi hx=>by rw [bf _ _ _ _ (by show i≠g;exact (sQ i hi).2)];exact hx
 ·exact h.o6.keep fun i x hi hx=>by
   rw [bf _ _ _ _ (by show i≠g;exact (h.f6 i hi).2),hb.block i (by rw [zK];have:=aZ i hi;omega) (fun e=>h.ap i e hi)];exact zD hx
 ·rcases hg i hi with e | e
  ·exact h.ap i e
  ·intro e6;have:=aZ i e6;omega
theorem BegI.next {g:Nat} {s:Bs} {v:Int} {a2:Option Addr} {n2 c2:Nat} {a3:Option Addr} {n3 c3:Nat} {nb na:Nat} {xs ys:List Nat} {idx k:Nat} {a7:Option Addr} {c7:Nat} {a6:Option Addr} {c6:Nat} {w wr:World} (eD:Below w.heap.size w wr) (lE:w.heap.size<=g)
 (fF:wr.heap[g]? = some (.cells #[str s,.int .i64 v,.slice a2 n2 c2,.slice a3 n3 c3,.slice a7 (nb+k+1) c7,.slice a6 (na+k) c6,.int .i64 (idx:Nat)] 145 (0,0)))
 (o5:Own wr 3 1 (.slice a7 (nb+k+1) c7) (nb+k+1) (zT xs++List.replicate (k+1) (.int .i64 (idx:Nat)))) (o6:Own wr 3 1 (.slice a6 (na+k) c6) (na+k) (zT ys++zT (List.range k)))
 (f5:∀ i,(Value.slice a7 (nb+k+1) c7).ownBlock=some i->w.heap.size<=i/\i≠g) (f6:∀ i,(Value.slice a6 (na+k) c6).ownBlock=some i->w.heap.size<=i/\i≠g) (ap:∀ i,(Value.slice a7 (nb+k+1) c7).ownBlock=some i->(Value.slice a6 (na+k) c6).ownBlock≠some i)
 {a8:Option Addr} {c8:Nat} {w8:World} {o:Obj} (ho:Own w8 3 1 (.slice a8 (na+k+1) c8) (na+k+1) (zT ys++zT (List.range k)++[.int .i64 (k:Nat)])) (hb:But (fun b=>(Value.slice a6 (na+k) c6).ownBlock=some b) (wr.alloc o) w8)
 (hg:∀ i,(Value.slice a8 (na+k+1) c8).ownBlock=some i->(Value.slice a6 (na+k) c6).ownBlock=some i\/i=wr.heap.size+1) :
 BegI g s v a2 n2 c2 a3 n3 c3 nb na xs ys idx (k+1) a7 c7 a8 c8 w (w8.setCell ⟨g,5,none⟩ (.slice a8 (na+k+1) c8)):=by
 have hz:=eD.size
 have ou:=zZ fF
 have t_:∀ i,(Value.slice a7 (nb+k+1) c7).ownBlock=some i->i<wr.heap.size:=fun i hi=>o5.lt hi
 have Ew:∀ i,(Value.slice a8 (na+k+1) c8).ownBlock=some i->w.heap.size<=i/\i≠g:=fun i hi=>by
  rcases hg i hi with e | e
  ·exact f6 i e
  ·omega
 have d9:w8.heap[g]? = some (.cells #[str s,.int .i64 v,.slice a2 n2 c2,.slice a3 n3 c3,.slice a7 (nb+k+1) c7,.slice a6 (na+k) c6,.int .i64 (idx:Nat)] 145 (0,0)) :=
  (hb.block g (by rw [zK];omega) (fun e=>(f6 g e).2 rfl)).trans (zD fF)
 refine ⟨?_,cells7_set5 d9 _,?_,?_,lE,f5,Ew,fun i hi e8=>?_⟩
 ·exact ((eD.alloc hz o).trans (hb.toBelow (by rw [zK];omega) fun i hi e=>by have:=(f6 i e).1;omega)).setCell (p:=⟨g,5,none⟩) lE _
 ·exact o5.keep fun i x hi hx=>by
   rw [bf _ _ _ _ (by show i≠g;exact (f5 i hi).2),hb.block i (by rw [zK];have:=t_ i hi;omega) (fun e=>ap i hi e)];exact zD hx
 ·have e:zT ys++zT (List.range (k+1))=zT ys++zT (List.range k)++[.int .i64 (k:Nat)]:=by simp [zT,List.range_succ]
  rw [e]
  exact ho.keep fun i x hi hx=>by rw [bf _ _ _ _ (by show i≠g;exact (Ew i hi).2)];exact hx
 ·rcases hg i e8 with e | e
  ·exact ap i hi e
  ·have:=t_ i hi;omega
set_option maxRecDepth 100000 in
theorem pE (F:Nat->Prop) (begun args:List Nat) (s0:Bs) (v0:Int) (p2:Option Addr) (m2 d2:Nat) (p3:Option Addr) (m3 d3:Nat) (ba:Option Addr) (bc:Nat) (aa:Option Addr) (ac:Nat) (op:Int) (s:Bs) (v:Int) (a2:Option Addr) (n2 c2:Nat) (a3:Option Addr) (n3 c3:Nat) (t:Ty) (tv:Value) (idx:Nat) (w:World)
 (rU:Rep F w (numD begun) (.slice ba begun.length bc)) (har:Rep F w (numD args) (.slice aa args.length ac)) (ht:Rep F w (qP t) tv) (cJ:t.args.length<=20) (iA:begun.length<=1000) (Ej:args.length<=1000) :
 Calls Tryz.prog 128 #[.agg #[str s0,.int .i64 v0,.slice p2 m2 d2,.slice p3 m3 d3,.slice ba begun.length bc,.slice aa args.length ac,.int .i64 op],.agg #[str s,.int .i64 v,.slice a2 n2 c2,.slice a3 n3 c3],.agg #[tv],.int .i64 (idx:Nat)] w (BegP s v a2 n2 c2 a3 n3 c3 begun args t.args.length idx w):=by
 obtain ⟨ta,tc,rfl⟩:=zp ht
 obtain ⟨W,hW,b9,hz,b0,b1,b2,b3⟩:=boxes_4 w (.cells #[str s0,.int .i64 v0,.slice p2 m2 d2,.slice p3 m3 d3,.slice ba begun.length bc,.slice aa args.length ac,.int .i64 op] 145) (.cells #[str s,.int .i64 v,.slice a2 n2 c2,.slice a3 n3 c3] 64) (.cells #[.slice ta t.args.length tc] 61) (.cells #[str [],.int .i64 0,.slice none 0 0,.slice none 0 0,.slice none 0 0,.slice none 0 0,.int .i64 0] 145)
 have SB:=bz (fun x (hx:Below W.heap.size W x)=>((numD_src rU).below b9).below hx)
 have SA:=bz (fun x (hx:Below W.heap.size W x)=>((numD_src har).below b9).below hx)
 have KEY:Hid (∀ x,Below W.heap.size W x->x.cell? ⟨w.heap.size,4,none⟩=some (.slice ba begun.length bc)/\x.cell? ⟨w.heap.size,5,none⟩=some (.slice aa args.length ac)/\x.cell? ⟨w.heap.size+1,0,none⟩=some (str s)/\x.cell? ⟨w.heap.size+1,1,none⟩=some (.int .i64 v)/\x.cell? ⟨w.heap.size+1,2,none⟩=some (.slice a2 n2 c2)/\x.cell? ⟨w.heap.size+1,3,none⟩=some (.slice a3 n3 c3)/\x.cell? ⟨w.heap.size+2,0,none⟩=some (.slice ta t.args.length tc)):=bz (fun x hx=>by
  obtain ⟨_,_,_,_,k4,k5,_⟩:=qc b0
  obtain ⟨k0,k1,k2,k3⟩:=kK b1
  have k6:=kF b2
  exact ⟨(hx.cell (bp _ _ k4)).trans k4,(hx.cell (bp _ _ k5)).trans k5,(hx.cell (bp _ _ k0)).trans k0,(hx.cell (bp _ _ k1)).trans k1,(hx.cell (bp _ _ k2)).trans k2,(hx.cell (bp _ _ k3)).trans k3,(hx.cell (bp _ _ k6)).trans k6⟩)
 have HW:=bz (bj hW (bj b9 (bj hz b3)))
 clear hW b9 hz b0 b1 b2 b3 rU har ht
 go_enter Tryz.func128,Tryz.ntmps128
 go_upto_region 1 with (fail)
 rw [HW.out.1]
 refine j9 (X:=Nat×Nat×Nat×Option Addr×Nat×Option Addr×Nat) (fun zz x=>((((((((((((zz.put (some 11) (.agg #[str s,.int .i64 v,.slice a2 n2 c2,.slice a3 n3 c3])).put (some 12) (.slice (some ⟨x.1,0,none⟩) 0 0)).put (some 13) (.pointer (some ⟨w.heap.size,4,none⟩))).put (some 14) (.slice ba begun.length bc)).put (some 15) (.slice x.2.2.2.1 begun.length x.2.2.2.2.1)).put (some 16) (.slice (some ⟨x.2.1,0,none⟩) 0 0)).put (some 17) (.pointer (some ⟨w.heap.size,5,none⟩))).put (some 18) (.slice aa args.length ac)).put (some 19) (.slice x.2.2.2.2.2.1 args.length x.2.2.2.2.2.2)).put (some 20) (.int .i64 (idx:Nat))).put (some 21) (.agg #[str s,.int .i64 v,.slice a2 n2 c2,.slice a3 n3 c3,.slice x.2.2.2.1 begun.length x.2.2.2.2.1,.slice x.2.2.2.2.2.1 args.length x.2.2.2.2.2.2,.int .i64 (idx:Nat)])).put (some 9) (.pointer (some ⟨x.2.2.1,0,none⟩)))) (fun x w7=>BegI x.2.2.1 s v a2 n2 c2 a3 n3 c3 begun.length args.length begun args idx 0 x.2.2.2.1 x.2.2.2.2.1 x.2.2.2.2.2.1 x.2.2.2.2.2.2 W w7) ?_ ?_
 ·refine wp_region_noPanic ?_
  refine zW (fun w'=>Below W.heap.size W w') (fun _=>false) (by kernel_rfl) ?_
  obtain ⟨y0,dH⟩:=zzN (W.drew)
  rw [dH]
  have cX:Below W.heap.size W y0:=by rw [<- dH];exact Below.drew (bh _ _)
  obtain ⟨fT,eG⟩:∃ x:Nat->Nat,x=fun _=>0:=⟨_,rfl⟩
  clear dH eG
  (try simp only [pQ,pN,pZ,pS])
  refine wpAnyS_named fun GG hG bF hb=>?_
  have ST0:∀ (gA:Nat) (gB:Nat) (gP:Nat) (aA:Option Addr) (cA:Nat) (aB:Option Addr) (cB:Nat) (y:World) (tg:Nat->Nat),Below W.heap.size W y->Hid (Res W.heap.size tg 1 y 3 (.slice aA (begun.length) cA) begun.length (zT begun))->Hid (Res W.heap.size tg 2 y 3 (.slice aB (args.length) cB) args.length (zT args))->Hid (y.heap[gP]? = some (.cells #[str s,.int .i64 v,.slice a2 n2 c2,.slice a3 n3 c3,.slice aA begun.length cA,.slice aB args.length cB,.int .i64 (idx:Nat)] 145 (0,0))/\tg gP=3/\W.heap.size<=gP)->GG 0 #[true,true,true,true,true,true,true,true,true,true,true,true,true] ((((((((((((bF.put (some 11) (.agg #[str s,.int .i64 v,.slice a2 n2 c2,.slice a3 n3 c3])).put (some 12) (.slice (some ⟨gA,0,none⟩) 0 0)).put (some 13) (.pointer (some ⟨w.heap.size,4,none⟩))).put (some 14) (.slice ba begun.length bc)).put (some 15) (.slice aA begun.length cA)).put (some 16) (.slice (some ⟨gB,0,none⟩) 0 0)).put (some 17) (.pointer (some ⟨w.heap.size,5,none⟩))).put (some 18) (.slice aa args.length ac)).put (some 19) (.slice aB args.length cB)).put (some 20) (.int .i64 (idx:Nat))).put (some 21) (.agg #[str s,.int .i64 v,.slice a2 n2 c2,.slice a3 n3 c3,.slice aA begun.length cA,.slice aB args.length cB,.int .i64 (idx:Nat)])).put (some 9) (.pointer (some ⟨gP,0,none⟩))) y:=by
   intro gA gB gP aA cA aB cB y tg cW RA RB EP
   rw [hG,hb]
   (try simp only [pQ,pN,pZ,pS])
   clear hG hb
   refine zU (by kernel_rfl) (NoPanic.normal ?_) _
   refine ⟨rfl,⟨gA,gB,gP,aA,cA,aB,cB⟩,by rfl,?_⟩
   exact { below:=cW,box:=EP.out.1,o5:=by rw [List.replicate_zero,List.append_nil];exact RA.out.1,o6:=by rw [show zT args++zT (List.range 0)=zT args from by simp [zT]];exact RB.out.1,gw:=EP.out.2.2,f5:=fun i hi=>⟨(RA.out.2 i hi).2,fun e=>by have h1:=(RA.out.2 i hi).1;rw [e,EP.out.2.1] at h1;exact absurd h1 (by decide)⟩,f6:=fun i hi=>⟨(RB.out.2 i hi).2,fun e=>by have h1:=(RB.out.2 i hi).1;rw [e,EP.out.2.1] at h1;exact absurd h1 (by decide)⟩,ap:=fun i hi e=>by have h1:=(RA.out.2 i hi).1;have h2:=(RB.out.2 i e).1;rw [h1] at h2;exact absurd h2 (by decide) }
  have ST1:∀ (gA:Nat) (gB:Nat) (gP:Nat) (aA:Option Addr) (cA:Nat) (aB:Option Addr) (cB:Nat) (y:World) (tg:Nat->Nat),Below W.heap.size W y->Hid (Res W.heap.size tg 1 y 3 (.slice aA (begun.length) cA) begun.length (zT begun))->Hid (Res W.heap.size tg 2 y 3 (.slice aB (args.length) cB) args.length (zT args))->Hid (y.heap[gP]? = some (.cells #[str [],.int .i64 0,.slice none 0 0,.slice none 0 0,.slice none 0 0,.slice none 0 0,.int .i64 0] 145 (0,0))/\tg gP=3/\W.heap.size<=gP)->GG 1 #[true,true,true,true,true,true,true,true,true,true,true,true,false] ((((((((((((bF.put (some 11) (.agg #[str s,.int .i64 v,.slice a2 n2 c2,.slice a3 n3 c3])).put (some 12) (.slice (some ⟨gA,0,none⟩) 0 0)).put (some 13) (.pointer (some ⟨w.heap.size,4,none⟩))).put (some 14) (.slice ba begun.length bc)).put (some 15) (.slice aA begun.length cA)).put (some 16) (.slice (some ⟨gB,0,none⟩) 0 0)).put (some 17) (.pointer (some ⟨w.heap.size,5,none⟩))).put (some 18) (.slice aa args.length ac)).put (some 19) (.slice aB args.length cB)).put (some 20) (.int .i64 (idx:Nat))).put (some 21) (.agg #[str s,.int .i64 v,.slice a2 n2 c2,.slice a3 n3 c3,.slice aA begun.length cA,.slice aB args.length cB,.int .i64 (idx:Nat)])).put (some 9) (.pointer (some ⟨gP,0,none⟩))) y:=by
   intro gA gB gP aA cA aB cB y tg cW RA RB EP
   rw [hG,hb]
   (try simp only [pQ,pN,pZ,pS])
   (refine on 12 ?_;intro o ho K' hK;simp at ho;subst ho)
   obtain ⟨uP0,cP0⟩:∃ u,y.cell? ⟨gP,0,none⟩=some u:=⟨_,by simp [World.cell?,EP.out.1];rfl⟩
   have fP0:y.frozen? ⟨gP,0,none⟩=false:=by simp [World.frozen?,EP.out.1]
   obtain ⟨uP1,cP1⟩:∃ u,y.cell? ⟨gP,1,none⟩=some u:=⟨_,by simp [World.cell?,EP.out.1];rfl⟩
   have fP1:y.frozen? ⟨gP,1,none⟩=false:=by simp [World.frozen?,EP.out.1]
   obtain ⟨uP2,cP2⟩:∃ u,y.cell? ⟨gP,2,none⟩=some u:=⟨_,by simp [World.cell?,EP.out.1];rfl⟩
   have fP2:y.frozen? ⟨gP,2,none⟩=false:=by simp [World.frozen?,EP.out.1]
   obtain ⟨uP3,cP3⟩:∃ u,y.cell? ⟨gP,3,none⟩=some u:=⟨_,by simp [World.cell?,EP.out.1];rfl⟩
   have fP3:y.frozen? ⟨gP,3,none⟩=false:=by simp [World.frozen?,EP.out.1]
   obtain ⟨uP4,cP4⟩:∃ u,y.cell? ⟨gP,4,none⟩=some u:=⟨_,by simp [World.cell?,EP.out.1];rfl⟩
   have fP4:y.frozen? ⟨gP,4,none⟩=false:=by simp [World.frozen?,EP.out.1]
   obtain ⟨uP5,cP5⟩:∃ u,y.cell? ⟨gP,5,none⟩=some u:=⟨_,by simp [World.cell?,EP.out.1];rfl⟩
   have fP5:y.frozen? ⟨gP,5,none⟩=false:=by simp [World.frozen?,EP.out.1]
   obtain ⟨uP6,cP6⟩:∃ u,y.cell? ⟨gP,6,none⟩=some u:=⟨_,by simp [World.cell?,EP.out.1];rfl⟩
   have fP6:y.frozen? ⟨gP,6,none⟩=false:=by simp [World.frozen?,EP.out.1]
   go_simp
   (refine hK.out _ _ (fun _=>(((((((cW.setCell (p:=⟨gP,0,none⟩) EP.out.2.2 _).setCell (p:=⟨gP,1,none⟩) EP.out.2.2 _).setCell (p:=⟨gP,2,none⟩) EP.out.2.2 _).setCell (p:=⟨gP,3,none⟩) EP.out.2.2 _).setCell (p:=⟨gP,4,none⟩) EP.out.2.2 _).setCell (p:=⟨gP,5,none⟩) EP.out.2.2 _).setCell (p:=⟨gP,6,none⟩) EP.out.2.2 _)) ?_;clear hK K';try simp only [pQ,pN,pZ,pS])
   obtain ⟨z,be⟩:=zzN ((((((((y.setCell ⟨gP,0,none⟩ (str s)).setCell ⟨gP,1,none⟩ (.int .i64 v)).setCell ⟨gP,2,none⟩ (.slice a2 n2 c2)).setCell ⟨gP,3,none⟩ (.slice a3 n3 c3)).setCell ⟨gP,4,none⟩ (.slice aA begun.length cA)).setCell ⟨gP,5,none⟩ (.slice aB args.length cB)).setCell ⟨gP,6,none⟩ (.int .i64 (idx:Nat))))
   rw [be]
   have ct:Below W.heap.size W z:=by rw [<- be];exact (((((((cW.setCell (p:=⟨gP,0,none⟩) EP.out.2.2 _).setCell (p:=⟨gP,1,none⟩) EP.out.2.2 _).setCell (p:=⟨gP,2,none⟩) EP.out.2.2 _).setCell (p:=⟨gP,3,none⟩) EP.out.2.2 _).setCell (p:=⟨gP,4,none⟩) EP.out.2.2 _).setCell (p:=⟨gP,5,none⟩) EP.out.2.2 _).setCell (p:=⟨gP,6,none⟩) EP.out.2.2 _)
   have cR:But (fun i=>i=gP) y z:=by rw [<- be];exact ((((((((But.refl (fun i=>i=gP) y).setCell (p:=⟨gP,0,none⟩) (.inl rfl) _).setCell (p:=⟨gP,1,none⟩) (.inl rfl) _).setCell (p:=⟨gP,2,none⟩) (.inl rfl) _).setCell (p:=⟨gP,3,none⟩) (.inl rfl) _).setCell (p:=⟨gP,4,none⟩) (.inl rfl) _).setCell (p:=⟨gP,5,none⟩) (.inl rfl) _).setCell (p:=⟨gP,6,none⟩) (.inl rfl) _)
   have cV:∀ g,g=gP->tg g=3:=fun g e=>by rw [e];exact EP.out.2.1
   have RA:Hid (Res W.heap.size tg 1 z 3 (.slice aA (begun.length) cA) begun.length (zT begun)):=⟨RA.out.1.keep fun g o hg ho=>by rw [cR.block g (zZ ho) (fun e=>by have:=(RA.out.2 g hg).1;rw [cV g e] at this;exact absurd this (by decide))];exact ho,RA.out.2⟩
   have RB:Hid (Res W.heap.size tg 2 z 3 (.slice aB (args.length) cB) args.length (zT args)):=⟨RB.out.1.keep fun g o hg ho=>by rw [cR.block g (zZ ho) (fun e=>by have:=(RB.out.2 g hg).1;rw [cV g e] at this;exact absurd this (by decide))];exact ho,RB.out.2⟩
   have EP:Hid (z.heap[gP]? = some (.cells #[str s,.int .i64 v,.slice a2 n2 c2,.slice a3 n3 c3,.slice aA begun.length cA,.slice aB args.length cB,.int .i64 (idx:Nat)] 145 (0,0))/\tg gP=3/\W.heap.size<=gP):=⟨by rw [<- be];exact (zQ (zQ (zQ (zQ (zQ (zQ (zQ EP.out.1))))))),EP.out.2⟩
   clear be cR cV cP0 fP0 cP1 fP1 cP2 fP2 cP3 fP3 cP4 fP4 cP5 fP5 cP6 fP6
   rw [<- hG]
   exact ofL (ST0 gA gB gP aA cA aB cB z tg ct RA RB EP) (by kernel_rfl) (by rw [hb];kernel_rfl)
  have ST2:∀ (gA:Nat) (gB:Nat) (aA:Option Addr) (cA:Nat) (aB:Option Addr) (cB:Nat) (y:World) (tg:Nat->Nat),Below W.heap.size W y->Hid (Res W.heap.size tg 1 y 3 (.slice aA (begun.length) cA) begun.length (zT begun))->Hid (Res W.heap.size tg 2 y 3 (.slice aB (args.length) cB) args.length (zT args))->GG 2 #[true,true,true,true,true,true,true,true,true,true,true,false,false] (((((((((((bF.put (some 11) (.agg #[str s,.int .i64 v,.slice a2 n2 c2,.slice a3 n3 c3])).put (some 12) (.slice (some ⟨gA,0,none⟩) 0 0)).put (some 13) (.pointer (some ⟨w.heap.size,4,none⟩))).put (some 14) (.slice ba begun.length bc)).put (some 15) (.slice aA begun.length cA)).put (some 16) (.slice (some ⟨gB,0,none⟩) 0 0)).put (some 17) (.pointer (some ⟨w.heap.size,5,none⟩))).put (some 18) (.slice aa args.length ac)).put (some 19) (.slice aB args.length cB)).put (some 20) (.int .i64 (idx:Nat))).put (some 21) (.agg #[str s,.int .i64 v,.slice a2 n2 c2,.slice a3 n3 c3,.slice aA begun.length cA,.slice aB args.length cB,.int .i64 (idx:Nat)])) y:=by
   intro gA gB aA cA aB cB y tg cW RA RB
   rw [hG,hb]
   (try simp only [pQ,pN,pZ,pS])
   (refine on 11 ?_;intro o ho K' hK;simp at ho;subst ho;go_simp)
   (refine hK.out _ _ (fun _=>cW.alloc cW.size _) ?_;clear hK K';try simp only [pQ,pN,pZ,pS])
   obtain ⟨z,be⟩:=zzN (y.alloc (.cells #[str [],.int .i64 0,.slice none 0 0,.slice none 0 0,.slice none 0 0,.slice none 0 0,.int .i64 0] 145))
   obtain ⟨gP,dm⟩:=zzN (y.heap.size)
   rw [be,dm]
   have ct:Below W.heap.size W z:=by rw [<- be];exact cW.alloc cW.size _
   obtain ⟨tz,cV⟩:=zzN (zS tg gP 3)
   have RA:Hid (Res W.heap.size tz 1 z 3 (.slice aA (begun.length) cA) begun.length (zT begun)):=by rw [<- be,<- cV,<- dm];exact RA.out.alloc _ 3
   have RB:Hid (Res W.heap.size tz 2 z 3 (.slice aB (args.length) cB) args.length (zT args)):=by rw [<- be,<- cV,<- dm];exact RB.out.alloc _ 3
   have EP:Hid (z.heap[gP]? = some (.cells #[str [],.int .i64 0,.slice none 0 0,.slice none 0 0,.slice none 0 0,.slice none 0 0,.int .i64 0] 145 (0,0))/\tz gP=3/\W.heap.size<=gP):=by rw [<- be,<- cV,<- dm];exact ⟨zR _ _,by unfold zS;rw [if_pos rfl],cW.size⟩
   clear be dm cV
   rw [<- hG]
   exact ofL (ST1 gA gB gP aA cA aB cB z tz ct RA RB EP) (by kernel_rfl) (by rw [hb];kernel_rfl)
  have ST3:∀ (gA:Nat) (gB:Nat) (gP:Nat) (aA:Option Addr) (cA:Nat) (y:World) (tg:Nat->Nat),Below W.heap.size W y->Hid (Res W.heap.size tg 1 y 3 (.slice aA (begun.length) cA) begun.length (zT begun))->Hid (Res W.heap.size tg 2 y 3 (.slice (some ⟨gB,0,none⟩) 0 0) 0 [])->Hid (y.heap[gP]? = some (.cells #[str [],.int .i64 0,.slice none 0 0,.slice none 0 0,.slice none 0 0,.slice none 0 0,.int .i64 0] 145 (0,0))/\tg gP=3/\W.heap.size<=gP)->GG 3 #[true,true,true,true,true,true,true,true,false,true,false,true,false] ((((((((((bF.put (some 11) (.agg #[str s,.int .i64 v,.slice a2 n2 c2,.slice a3 n3 c3])).put (some 12) (.slice (some ⟨gA,0,none⟩) 0 0)).put (some 13) (.pointer (some ⟨w.heap.size,4,none⟩))).put (some 14) (.slice ba begun.length bc)).put (some 15) (.slice aA begun.length cA)).put (some 16) (.slice (some ⟨gB,0,none⟩) 0 0)).put (some 17) (.pointer (some ⟨w.heap.size,5,none⟩))).put (some 18) (.slice aa args.length ac)).put (some 20) (.int .i64 (idx:Nat))).put (some 9) (.pointer (some ⟨gP,0,none⟩))) y:=by
   intro gA gB gP aA cA y tg cW RA RB EP
   rw [hG,hb]
   (try simp only [pQ,pN,pZ,pS])
   (refine on 8 ?_;intro o ho K' hK;simp at ho;subst ho)
   refine zq (by rfl) _ _ _ (by rfl) 3 (.int .i64 0) 1 8 Tryz.underlying31 Tryz.infoInt2 rfl (by decide) (.slice (some ⟨gB,0,none⟩) 0 0) 0 [] (by rfl) RB.out.1 _ args.length (zT args) (by rfl) (SA.out y cW) (by unfold maxLen;omega) (by omega) ?_
   intro aB cB z AA fi dn
   simp only [Nat.zero_add,List.nil_append] at AA dn ⊢
   have ct:Below W.heap.size W z:=cW.trans (fi.toBelow cW.size fun i hi e=>by have:=(RB.out.2 i e).2;omega)
   (refine hK.out _ _ (fun _=>ct) ?_;clear hK K';try simp only [pQ,pN,pZ,pS])
   obtain ⟨tz,cV⟩:=zzN (zS tg y.heap.size 2)
   have RA:Hid (Res W.heap.size tz 1 z 3 (.slice aA (begun.length) cA) begun.length (zT begun)):=by rw [<- cV];exact RA.out.but fi (fun g hg=>by rw [(RB.out.2 g hg).1];decide) 2
   have EP:Hid (z.heap[gP]? = some (.cells #[str [],.int .i64 0,.slice none 0 0,.slice none 0 0,.slice none 0 0,.slice none 0 0,.int .i64 0] 145 (0,0))/\tz gP=3/\W.heap.size<=gP):=by rw [<- cV];exact ⟨(fi.block _ (zZ EP.out.1) (fun e=>by have:=(RB.out.2 _ e).1;rw [EP.out.2.1] at this;exact absurd this (by decide))).trans EP.out.1,by unfold zS;rw [if_neg (by have:=zZ EP.out.1;omega)];exact EP.out.2.1,EP.out.2.2⟩
   have RB:Hid (Res W.heap.size tz 2 z 3 (.slice aB (args.length) cB) args.length (zT args)):=by rw [<- cV];exact RB.out.app cW.size AA dn
   clear AA fi dn cV
   refine tk [10] ct ?_
   (intro d hd;simp [tkD] at hd;subst hd;simp only [tks,pQ,pZ,pS])
   (refine ⟨?_,?_,?_⟩;rotate_left;· (intro oi ho;simp at ho;subst ho;refine Or.inl ⟨by rfl,fun w' b_=>?_⟩;go_simp;try with_reducible rfl))
   rw [<- hG]
   exact ofL (ST1 gA gB gP aA cA aB cB z tz ct RA RB EP) (by kernel_rfl) (by rw [hb];kernel_rfl)
  have ST4:∀ (gA:Nat) (gB:Nat) (aA:Option Addr) (cA:Nat) (y:World) (tg:Nat->Nat),Below W.heap.size W y->Hid (Res W.heap.size tg 1 y 3 (.slice aA (begun.length) cA) begun.length (zT begun))->Hid (Res W.heap.size tg 2 y 3 (.slice (some ⟨gB,0,none⟩) 0 0) 0 [])->GG 4 #[true,true,true,true,true,true,true,true,false,true,false,false,false] (((((((((bF.put (some 11) (.agg #[str s,.int .i64 v,.slice a2 n2 c2,.slice a3 n3 c3])).put (some 12) (.slice (some ⟨gA,0,none⟩) 0 0)).put (some 13) (.pointer (some ⟨w.heap.size,4,none⟩))).put (some 14) (.slice ba begun.length bc)).put (some 15) (.slice aA begun.length cA)).put (some 16) (.slice (some ⟨gB,0,none⟩) 0 0)).put (some 17) (.pointer (some ⟨w.heap.size,5,none⟩))).put (some 18) (.slice aa args.length ac)).put (some 20) (.int .i64 (idx:Nat))) y:=by
   intro gA gB aA cA y tg cW RA RB
   rw [hG,hb]
   (try simp only [pQ,pN,pZ,pS])
   refine kH 8 11 (by kernel_rfl) ?_ ?_
   ·(intro o8 ho K' hK;simp at ho;subst ho)
    refine zq (by rfl) _ _ _ (by rfl) 3 (.int .i64 0) 1 8 Tryz.underlying31 Tryz.infoInt2 rfl (by decide) (.slice (some ⟨gB,0,none⟩) 0 0) 0 [] (by rfl) RB.out.1 _ args.length (zT args) (by rfl) (SA.out y cW) (by unfold maxLen;omega) (by omega) ?_
    intro aB cB z AA fi dn
    simp only [Nat.zero_add,List.nil_append] at AA dn ⊢
    have ct:Below W.heap.size W z:=cW.trans (fi.toBelow cW.size fun i hi e=>by have:=(RB.out.2 i e).2;omega)
    (refine hK.out _ _ (fun _=>ct) ?_;clear hK K';try simp only [pQ,pN,pZ,pS])
    obtain ⟨tz,cV⟩:=zzN (zS tg y.heap.size 2)
    have RA:Hid (Res W.heap.size tz 1 z 3 (.slice aA (begun.length) cA) begun.length (zT begun)):=by rw [<- cV];exact RA.out.but fi (fun g hg=>by rw [(RB.out.2 g hg).1];decide) 2
    have RB:Hid (Res W.heap.size tz 2 z 3 (.slice aB (args.length) cB) args.length (zT args)):=by rw [<- cV];exact RB.out.app cW.size AA dn
    clear AA fi dn cV
    refine tk [10] ct ?_
    (intro d hd;simp [tkD] at hd;subst hd;simp only [tks,pQ,pZ,pS])
    (refine ⟨?_,?_,?_⟩;rotate_left;· (intro oi ho;simp at ho;subst ho;refine Or.inl ⟨by rfl,fun w' b_=>?_⟩;go_simp;try with_reducible rfl))
    rw [<- hG]
    exact ofL (ST2 gA gB aA cA aB cB z tz ct RA RB) (by kernel_rfl) (by rw [hb];kernel_rfl)
   ·(intro De ho K' hK;simp at ho;subst ho)
    go_simp
    (refine hK.out _ _ (fun _=>cW.alloc cW.size _) ?_;clear hK K';try simp only [pQ,pN,pZ,pS])
    obtain ⟨z,be⟩:=zzN (y.alloc (.cells #[str [],.int .i64 0,.slice none 0 0,.slice none 0 0,.slice none 0 0,.slice none 0 0,.int .i64 0] 145))
    obtain ⟨gP,dm⟩:=zzN (y.heap.size)
    rw [be,dm]
    have ct:Below W.heap.size W z:=by rw [<- be];exact cW.alloc cW.size _
    obtain ⟨tz,cV⟩:=zzN (zS tg gP 3)
    have RA:Hid (Res W.heap.size tz 1 z 3 (.slice aA (begun.length) cA) begun.length (zT begun)):=by rw [<- be,<- cV,<- dm];exact RA.out.alloc _ 3
    have RB:Hid (Res W.heap.size tz 2 z 3 (.slice (some ⟨gB,0,none⟩) 0 0) 0 []):=by rw [<- be,<- cV,<- dm];exact RB.out.alloc _ 3
    have EP:Hid (z.heap[gP]? = some (.cells #[str [],.int .i64 0,.slice none 0 0,.slice none 0 0,.slice none 0 0,.slice none 0 0,.int .i64 0] 145 (0,0))/\tz gP=3/\W.heap.size<=gP):=by rw [<- be,<- cV,<- dm];exact ⟨zR _ _,by unfold zS;rw [if_pos rfl],cW.size⟩
    clear be dm cV
    rw [<- hG]
    exact ofL (ST3 gA gB gP aA cA z tz ct RA RB EP) (by kernel_rfl) (by rw [hb];kernel_rfl)
  have ST5:∀ (gA:Nat) (gP:Nat) (aA:Option Addr) (cA:Nat) (y:World) (tg:Nat->Nat),Below W.heap.size W y->Hid (Res W.heap.size tg 1 y 3 (.slice aA (begun.length) cA) begun.length (zT begun))->Hid (y.heap[gP]? = some (.cells #[str [],.int .i64 0,.slice none 0 0,.slice none 0 0,.slice none 0 0,.slice none 0 0,.int .i64 0] 145 (0,0))/\tg gP=3/\W.heap.size<=gP)->GG 4 #[true,true,true,true,true,false,true,true,false,true,false,true,false] (((((((((bF.put (some 11) (.agg #[str s,.int .i64 v,.slice a2 n2 c2,.slice a3 n3 c3])).put (some 12) (.slice (some ⟨gA,0,none⟩) 0 0)).put (some 13) (.pointer (some ⟨w.heap.size,4,none⟩))).put (some 14) (.slice ba begun.length bc)).put (some 15) (.slice aA begun.length cA)).put (some 17) (.pointer (some ⟨w.heap.size,5,none⟩))).put (some 18) (.slice aa args.length ac)).put (some 20) (.int .i64 (idx:Nat))).put (some 9) (.pointer (some ⟨gP,0,none⟩))) y:=by
   intro gA gP aA cA y tg cW RA EP
   rw [hG,hb]
   (try simp only [pQ,pN,pZ,pS])
   (refine on 5 ?_;intro o ho K' hK;simp at ho;subst ho;go_simp)
   (refine hK.out _ _ (fun _=>cW.alloc cW.size _) ?_;clear hK K';try simp only [pQ,pN,pZ,pS])
   obtain ⟨z,be⟩:=zzN (y.alloc (.cells #[] 3))
   obtain ⟨gB,dn⟩:=zzN (y.heap.size)
   rw [be,dn]
   have ct:Below W.heap.size W z:=by rw [<- be];exact cW.alloc cW.size _
   obtain ⟨tz,cV⟩:=zzN (zS tg gB 2)
   have RA:Hid (Res W.heap.size tz 1 z 3 (.slice aA (begun.length) cA) begun.length (zT begun)):=by rw [<- be,<- cV,<- dn];exact RA.out.alloc _ 2
   have EP:Hid (z.heap[gP]? = some (.cells #[str [],.int .i64 0,.slice none 0 0,.slice none 0 0,.slice none 0 0,.slice none 0 0,.int .i64 0] 145 (0,0))/\tz gP=3/\W.heap.size<=gP):=by rw [<- be,<- cV];exact ⟨zD EP.out.1,by unfold zS;rw [if_neg (by have:=zZ EP.out.1;omega)];exact EP.out.2.1,EP.out.2.2⟩
   have RB:Hid (Res W.heap.size tz 2 z 3 (.slice (some ⟨gB,0,none⟩) 0 0) 0 []):=by rw [<- be,<- cV,<- dn];exact Res.lit tg 2 cW.size 3 #[] 0 (by unfold maxLen;omega) rfl
   clear be dn cV
   rw [<- hG]
   exact ofL (ST3 gA gB gP aA cA z tz ct RA RB EP) (by kernel_rfl) (by rw [hb];kernel_rfl)
  have ST6:∀ (gA:Nat) (aA:Option Addr) (cA:Nat) (y:World) (tg:Nat->Nat),Below W.heap.size W y->Hid (Res W.heap.size tg 1 y 3 (.slice aA (begun.length) cA) begun.length (zT begun))->GG 5 #[true,true,true,true,true,false,true,true,false,true,false,false,false] ((((((((bF.put (some 11) (.agg #[str s,.int .i64 v,.slice a2 n2 c2,.slice a3 n3 c3])).put (some 12) (.slice (some ⟨gA,0,none⟩) 0 0)).put (some 13) (.pointer (some ⟨w.heap.size,4,none⟩))).put (some 14) (.slice ba begun.length bc)).put (some 15) (.slice aA begun.length cA)).put (some 17) (.pointer (some ⟨w.heap.size,5,none⟩))).put (some 18) (.slice aa args.length ac)).put (some 20) (.int .i64 (idx:Nat))) y:=by
   intro gA aA cA y tg cW RA
   rw [hG,hb]
   (try simp only [pQ,pN,pZ,pS])
   refine kH 5 11 (by kernel_rfl) ?_ ?_
   ·(intro o5 ho K' hK;simp at ho;subst ho)
    go_simp
    (refine hK.out _ _ (fun _=>cW.alloc cW.size _) ?_;clear hK K';try simp only [pQ,pN,pZ,pS])
    obtain ⟨z,be⟩:=zzN (y.alloc (.cells #[] 3))
    obtain ⟨gB,dn⟩:=zzN (y.heap.size)
    rw [be,dn]
    have ct:Below W.heap.size W z:=by rw [<- be];exact cW.alloc cW.size _
    obtain ⟨tz,cV⟩:=zzN (zS tg gB 2)
    have RA:Hid (Res W.heap.size tz 1 z 3 (.slice aA (begun.length) cA) begun.length (zT begun)):=by rw [<- be,<- cV,<- dn];exact RA.out.alloc _ 2
    have RB:Hid (Res W.heap.size tz 2 z 3 (.slice (some ⟨gB,0,none⟩) 0 0) 0 []):=by rw [<- be,<- cV,<- dn];exact Res.lit tg 2 cW.size 3 #[] 0 (by unfold maxLen;omega) rfl
    clear be dn cV
    rw [<- hG]
    exact ofL (ST4 gA gB aA cA z tz ct RA RB) (by kernel_rfl) (by rw [hb];kernel_rfl)
   ·(intro De ho K' hK;simp at ho;subst ho)
    go_simp
    (refine hK.out _ _ (fun _=>cW.alloc cW.size _) ?_;clear hK K';try simp only [pQ,pN,pZ,pS])
    obtain ⟨z,be⟩:=zzN (y.alloc (.cells #[str [],.int .i64 0,.slice none 0 0,.slice none 0 0,.slice none 0 0,.slice none 0 0,.int .i64 0] 145))
    obtain ⟨gP,dm⟩:=zzN (y.heap.size)
    rw [be,dm]
    have ct:Below W.heap.size W z:=by rw [<- be];exact cW.alloc cW.size _
    obtain ⟨tz,cV⟩:=zzN (zS tg gP 3)
    have RA:Hid (Res W.heap.size tz 1 z 3 (.slice aA (begun.length) cA) begun.length (zT begun)):=by rw [<- be,<- cV,<- dm];exact RA.out.alloc _ 3
    have EP:Hid (z.heap[gP]? = some (.cells #[str [],.int .i64 0,.slice none 0 0,.slice none 0 0,.slice none 0 0,.slice none 0 0,.int .i64 0] 145 (0,0))/\tz gP=3/\W.heap.size<=gP):=by rw [<- be,<- cV,<- dm];exact ⟨zR _ _,by unfold zS;rw [if_pos rfl],cW.size⟩
    clear be dm cV
    rw [<- hG]
    exact ofL (ST5 gA gP aA cA z tz ct RA EP) (by kernel_rfl) (by rw [hb];kernel_rfl)
  have ST7:∀ (gA:Nat) (gB:Nat) (gP:Nat) (y:World) (tg:Nat->Nat),Below W.heap.size W y->Hid (Res W.heap.size tg 1 y 3 (.slice (some ⟨gA,0,none⟩) 0 0) 0 [])->Hid (Res W.heap.size tg 2 y 3 (.slice (some ⟨gB,0,none⟩) 0 0) 0 [])->Hid (y.heap[gP]? = some (.cells #[str [],.int .i64 0,.slice none 0 0,.slice none 0 0,.slice none 0 0,.slice none 0 0,.int .i64 0] 145 (0,0))/\tg gP=3/\W.heap.size<=gP)->GG 4 #[true,true,true,true,false,true,true,true,false,true,false,true,false] (((((((((bF.put (some 11) (.agg #[str s,.int .i64 v,.slice a2 n2 c2,.slice a3 n3 c3])).put (some 12) (.slice (some ⟨gA,0,none⟩) 0 0)).put (some 13) (.pointer (some ⟨w.heap.size,4,none⟩))).put (some 14) (.slice ba begun.length bc)).put (some 16) (.slice (some ⟨gB,0,none⟩) 0 0)).put (some 17) (.pointer (some ⟨w.heap.size,5,none⟩))).put (some 18) (.slice aa args.length ac)).put (some 20) (.int .i64 (idx:Nat))).put (some 9) (.pointer (some ⟨gP,0,none⟩))) y:=by
   intro gA gB gP y tg cW RA RB EP
   rw [hG,hb]
   (try simp only [pQ,pN,pZ,pS])
   (refine on 4 ?_;intro o ho K' hK;simp at ho;subst ho)
   refine zq (by rfl) _ _ _ (by rfl) 3 (.int .i64 0) 1 8 Tryz.underlying31 Tryz.infoInt2 rfl (by decide) (.slice (some ⟨gA,0,none⟩) 0 0) 0 [] (by rfl) RA.out.1 _ begun.length (zT begun) (by rfl) (SB.out y cW) (by unfold maxLen;omega) (by omega) ?_
   intro aA cA z rD dg dG
   simp only [Nat.zero_add,List.nil_append] at rD dG ⊢
   have ct:Below W.heap.size W z:=cW.trans (dg.toBelow cW.size fun i hi e=>by have:=(RA.out.2 i e).2;omega)
   (refine hK.out _ _ (fun _=>ct) ?_;clear hK K';try simp only [pQ,pN,pZ,pS])
   obtain ⟨tz,cV⟩:=zzN (zS tg y.heap.size 1)
   have RB:Hid (Res W.heap.size tz 2 z 3 (.slice (some ⟨gB,0,none⟩) 0 0) 0 []):=by rw [<- cV];exact RB.out.but dg (fun g hg=>by rw [(RA.out.2 g hg).1];decide) 1
   have EP:Hid (z.heap[gP]? = some (.cells #[str [],.int .i64 0,.slice none 0 0,.slice none 0 0,.slice none 0 0,.slice none 0 0,.int .i64 0] 145 (0,0))/\tz gP=3/\W.heap.size<=gP):=by rw [<- cV];exact ⟨(dg.block _ (zZ EP.out.1) (fun e=>by have:=(RA.out.2 _ e).1;rw [EP.out.2.1] at this;exact absurd this (by decide))).trans EP.out.1,by unfold zS;rw [if_neg (by have:=zZ EP.out.1;omega)];exact EP.out.2.1,EP.out.2.2⟩
   have RA:Hid (Res W.heap.size tz 1 z 3 (.slice aA (begun.length) cA) begun.length (zT begun)):=by rw [<- cV];exact RA.out.app cW.size rD dG
   clear rD dg dG cV
   rw [<- hG]
   exact ofL (ST3 gA gB gP aA cA z tz ct RA RB EP) (by kernel_rfl) (by rw [hb];kernel_rfl)
  have ST8:∀ (gA:Nat) (gB:Nat) (y:World) (tg:Nat->Nat),Below W.heap.size W y->Hid (Res W.heap.size tg 1 y 3 (.slice (some ⟨gA,0,none⟩) 0 0) 0 [])->Hid (Res W.heap.size tg 2 y 3 (.slice (some ⟨gB,0,none⟩) 0 0) 0 [])->GG 5 #[true,true,true,true,false,true,true,true,false,true,false,false,false] ((((((((bF.put (some 11) (.agg #[str s,.int .i64 v,.slice a2 n2 c2,.slice a3 n3 c3])).put (some 12) (.slice (some ⟨gA,0,none⟩) 0 0)).put (some 13) (.pointer (some ⟨w.heap.size,4,none⟩))).put (some 14) (.slice ba begun.length bc)).put (some 16) (.slice (some ⟨gB,0,none⟩) 0 0)).put (some 17) (.pointer (some ⟨w.heap.size,5,none⟩))).put (some 18) (.slice aa args.length ac)).put (some 20) (.int .i64 (idx:Nat))) y:=by
   intro gA gB y tg cW RA RB
   rw [hG,hb]
   (try simp only [pQ,pN,pZ,pS])
   refine kH 4 11 (by kernel_rfl) ?_ ?_
   ·(intro o4 ho K' hK;simp at ho;subst ho)
    refine zq (by rfl) _ _ _ (by rfl) 3 (.int .i64 0) 1 8 Tryz.underlying31 Tryz.infoInt2 rfl (by decide) (.slice (some ⟨gA,0,none⟩) 0 0) 0 [] (by rfl) RA.out.1 _ begun.length (zT begun) (by rfl) (SB.out y cW) (by unfold maxLen;omega) (by omega) ?_
    intro aA cA z rD dg dG
    simp only [Nat.zero_add,List.nil_append] at rD dG ⊢
    have ct:Below W.heap.size W z:=cW.trans (dg.toBelow cW.size fun i hi e=>by have:=(RA.out.2 i e).2;omega)
    (refine hK.out _ _ (fun _=>ct) ?_;clear hK K';try simp only [pQ,pN,pZ,pS])
    obtain ⟨tz,cV⟩:=zzN (zS tg y.heap.size 1)
    have RB:Hid (Res W.heap.size tz 2 z 3 (.slice (some ⟨gB,0,none⟩) 0 0) 0 []):=by rw [<- cV];exact RB.out.but dg (fun g hg=>by rw [(RA.out.2 g hg).1];decide) 1
    have RA:Hid (Res W.heap.size tz 1 z 3 (.slice aA (begun.length) cA) begun.length (zT begun)):=by rw [<- cV];exact RA.out.app cW.size rD dG
    clear rD dg dG cV
    rw [<- hG]
    exact ofL (ST4 gA gB aA cA z tz ct RA RB) (by kernel_rfl) (by rw [hb];kernel_rfl)
   ·(intro De ho K' hK;simp at ho;subst ho)
    go_simp
    (refine hK.out _ _ (fun _=>cW.alloc cW.size _) ?_;clear hK K';try simp only [pQ,pN,pZ,pS])
    obtain ⟨z,be⟩:=zzN (y.alloc (.cells #[str [],.int .i64 0,.slice none 0 0,.slice none 0 0,.slice none 0 0,.slice none 0 0,.int .i64 0] 145))
    obtain ⟨gP,dm⟩:=zzN (y.heap.size)
    rw [be,dm]
    have ct:Below W.heap.size W z:=by rw [<- be];exact cW.alloc cW.size _
    obtain ⟨tz,cV⟩:=zzN (zS tg gP 3)
    have RA:Hid (Res W.heap.size tz 1 z 3 (.slice (some ⟨gA,0,none⟩) 0 0) 0 []):=by rw [<- be,<- cV,<- dm];exact RA.out.alloc _ 3
    have RB:Hid (Res W.heap.size tz 2 z 3 (.slice (some ⟨gB,0,none⟩) 0 0) 0 []):=by rw [<- be,<- cV,<- dm];exact RB.out.alloc _ 3
    have EP:Hid (z.heap[gP]? = some (.cells #[str [],.int .i64 0,.slice none 0 0,.slice none 0 0,.slice none 0 0,.slice none 0 0,.int .i64 0] 145 (0,0))/\tz gP=3/\W.heap.size<=gP):=by rw [<- be,<- cV,<- dm];exact ⟨zR _ _,by unfold zS;rw [if_pos rfl],cW.size⟩
    clear be dm cV
    rw [<- hG]
    exact ofL (ST7 gA gB gP z tz ct RA RB EP) (by kernel_rfl) (by rw [hb];kernel_rfl)
  have ST9:∀ (gA:Nat) (gP:Nat) (y:World) (tg:Nat->Nat),Below W.heap.size W y->Hid (Res W.heap.size tg 1 y 3 (.slice (some ⟨gA,0,none⟩) 0 0) 0 [])->Hid (y.heap[gP]? = some (.cells #[str [],.int .i64 0,.slice none 0 0,.slice none 0 0,.slice none 0 0,.slice none 0 0,.int .i64 0] 145 (0,0))/\tg gP=3/\W.heap.size<=gP)->GG 5 #[true,true,true,true,false,false,true,true,false,true,false,true,false] ((((((((bF.put (some 11) (.agg #[str s,.int .i64 v,.slice a2 n2 c2,.slice a3 n3 c3])).put (some 12) (.slice (some ⟨gA,0,none⟩) 0 0)).put (some 13) (.pointer (some ⟨w.heap.size,4,none⟩))).put (some 14) (.slice ba begun.length bc)).put (some 17) (.pointer (some ⟨w.heap.size,5,none⟩))).put (some 18) (.slice aa args.length ac)).put (some 20) (.int .i64 (idx:Nat))).put (some 9) (.pointer (some ⟨gP,0,none⟩))) y:=by
   intro gA gP y tg cW RA EP
   rw [hG,hb]
   (try simp only [pQ,pN,pZ,pS])
   refine kH 4 5 (by kernel_rfl) ?_ ?_
   ·(intro o4 ho K' hK;simp at ho;subst ho)
    refine zq (by rfl) _ _ _ (by rfl) 3 (.int .i64 0) 1 8 Tryz.underlying31 Tryz.infoInt2 rfl (by decide) (.slice (some ⟨gA,0,none⟩) 0 0) 0 [] (by rfl) RA.out.1 _ begun.length (zT begun) (by rfl) (SB.out y cW) (by unfold maxLen;omega) (by omega) ?_
    intro aA cA z rD dg dG
    simp only [Nat.zero_add,List.nil_append] at rD dG ⊢
    have ct:Below W.heap.size W z:=cW.trans (dg.toBelow cW.size fun i hi e=>by have:=(RA.out.2 i e).2;omega)
    (refine hK.out _ _ (fun _=>ct) ?_;clear hK K';try simp only [pQ,pN,pZ,pS])
    obtain ⟨tz,cV⟩:=zzN (zS tg y.heap.size 1)
    have EP:Hid (z.heap[gP]? = some (.cells #[str [],.int .i64 0,.slice none 0 0,.slice none 0 0,.slice none 0 0,.slice none 0 0,.int .i64 0] 145 (0,0))/\tz gP=3/\W.heap.size<=gP):=by rw [<- cV];exact ⟨(dg.block _ (zZ EP.out.1) (fun e=>by have:=(RA.out.2 _ e).1;rw [EP.out.2.1] at this;exact absurd this (by decide))).trans EP.out.1,by unfold zS;rw [if_neg (by have:=zZ EP.out.1;omega)];exact EP.out.2.1,EP.out.2.2⟩
    have RA:Hid (Res W.heap.size tz 1 z 3 (.slice aA (begun.length) cA) begun.length (zT begun)):=by rw [<- cV];exact RA.out.app cW.size rD dG
    clear rD dg dG cV
    rw [<- hG]
    exact ofL (ST5 gA gP aA cA z tz ct RA EP) (by kernel_rfl) (by rw [hb];kernel_rfl)
   ·(intro o5 ho K' hK;simp at ho;subst ho)
    go_simp
    (refine hK.out _ _ (fun _=>cW.alloc cW.size _) ?_;clear hK K';try simp only [pQ,pN,pZ,pS])
    obtain ⟨z,be⟩:=zzN (y.alloc (.cells #[] 3))
    obtain ⟨gB,dn⟩:=zzN (y.heap.size)
    rw [be,dn]
    have ct:Below W.heap.size W z:=by rw [<- be];exact cW.alloc cW.size _
    obtain ⟨tz,cV⟩:=zzN (zS tg gB 2)
    have RA:Hid (Res W.heap.size tz 1 z 3 (.slice (some ⟨gA,0,none⟩) 0 0) 0 []):=by rw [<- be,<- cV,<- dn];exact RA.out.alloc _ 2
    have EP:Hid (z.heap[gP]? = some (.cells #[str [],.int .i64 0,.slice none 0 0,.slice none 0 0,.slice none 0 0,.slice none 0 0,.int .i64 0] 145 (0,0))/\tz gP=3/\W.heap.size<=gP):=by rw [<- be,<- cV];exact ⟨zD EP.out.1,by unfold zS;rw [if_neg (by have:=zZ EP.out.1;omega)];exact EP.out.2.1,EP.out.2.2⟩
    have RB:Hid (Res W.heap.size tz 2 z 3 (.slice (some ⟨gB,0,none⟩) 0 0) 0 []):=by rw [<- be,<- cV,<- dn];exact Res.lit tg 2 cW.size 3 #[] 0 (by unfold maxLen;omega) rfl
    clear be dn cV
    rw [<- hG]
    exact ofL (ST7 gA gB gP z tz ct RA RB EP) (by kernel_rfl) (by rw [hb];kernel_rfl)
  have ST10:∀ (gA:Nat) (y:World) (tg:Nat->Nat),Below W.heap.size W y->Hid (Res W.heap.size tg 1 y 3 (.slice (some ⟨gA,0,none⟩) 0 0) 0 [])->GG 6 #[true,true,true,true,false,false,true,true,false,true,false,false,false] (((((((bF.put (some 11) (.agg #[str s,.int .i64 v,.slice a2 n2 c2,.slice a3 n3 c3])).put (some 12) (.slice (some ⟨gA,0,none⟩) 0 0)).put (some 13) (.pointer (some ⟨w.heap.size,4,none⟩))).put (some 14) (.slice ba begun.length bc)).put (some 17) (.pointer (some ⟨w.heap.size,5,none⟩))).put (some 18) (.slice aa args.length ac)).put (some 20) (.int .i64 (idx:Nat))) y:=by
   intro gA y tg cW RA
   rw [hG,hb]
   (try simp only [pQ,pN,pZ,pS])
   refine xL 4 5 11 (by kernel_rfl) ?_ ?_ ?_
   ·(intro o4 ho K' hK;simp at ho;subst ho)
    refine zq (by rfl) _ _ _ (by rfl) 3 (.int .i64 0) 1 8 Tryz.underlying31 Tryz.infoInt2 rfl (by decide) (.slice (some ⟨gA,0,none⟩) 0 0) 0 [] (by rfl) RA.out.1 _ begun.length (zT begun) (by rfl) (SB.out y cW) (by unfold maxLen;omega) (by omega) ?_
    intro aA cA z rD dg dG
    simp only [Nat.zero_add,List.nil_append] at rD dG ⊢
    have ct:Below W.heap.size W z:=cW.trans (dg.toBelow cW.size fun i hi e=>by have:=(RA.out.2 i e).2;omega)
    (refine hK.out _ _ (fun _=>ct) ?_;clear hK K';try simp only [pQ,pN,pZ,pS])
    obtain ⟨tz,cV⟩:=zzN (zS tg y.heap.size 1)
    have RA:Hid (Res W.heap.size tz 1 z 3 (.slice aA (begun.length) cA) begun.length (zT begun)):=by rw [<- cV];exact RA.out.app cW.size rD dG
    clear rD dg dG cV
    rw [<- hG]
    exact ofL (ST6 gA aA cA z tz ct RA) (by kernel_rfl) (by rw [hb];kernel_rfl)
   ·(intro o5 ho K' hK;simp at ho;subst ho)
    go_simp
    (refine hK.out _ _ (fun _=>cW.alloc cW.size _) ?_;clear hK K';try simp only [pQ,pN,pZ,pS])
    obtain ⟨z,be⟩:=zzN (y.alloc (.cells #[] 3))
    obtain ⟨gB,dn⟩:=zzN (y.heap.size)
    rw [be,dn]
    have ct:Below W.heap.size W z:=by rw [<- be];exact cW.alloc cW.size _
    obtain ⟨tz,cV⟩:=zzN (zS tg gB 2)
    have RA:Hid (Res W.heap.size tz 1 z 3 (.slice (some ⟨gA,0,none⟩) 0 0) 0 []):=by rw [<- be,<- cV,<- dn];exact RA.out.alloc _ 2
    have RB:Hid (Res W.heap.size tz 2 z 3 (.slice (some ⟨gB,0,none⟩) 0 0) 0 []):=by rw [<- be,<- cV,<- dn];exact Res.lit tg 2 cW.size 3 #[] 0 (by unfold maxLen;omega) rfl
    clear be dn cV
    rw [<- hG]
    exact ofL (ST8 gA gB z tz ct RA RB) (by kernel_rfl) (by rw [hb];kernel_rfl)
   ·(intro De ho K' hK;simp at ho;subst ho)
    go_simp
    (refine hK.out _ _ (fun _=>cW.alloc cW.size _) ?_;clear hK K';try simp only [pQ,pN,pZ,pS])
    obtain ⟨z,be⟩:=zzN (y.alloc (.cells #[str [],.int .i64 0,.slice none 0 0,.slice none 0 0,.slice none 0 0,.slice none 0 0,.int .i64 0] 145))
    obtain ⟨gP,dm⟩:=zzN (y.heap.size)
    rw [be,dm]
    have ct:Below W.heap.size W z:=by rw [<- be];exact cW.alloc cW.size _
    obtain ⟨tz,cV⟩:=zzN (zS tg gP 3)
    have RA:Hid (Res W.heap.size tz 1 z 3 (.slice (some ⟨gA,0,none⟩) 0 0) 0 []):=by rw [<- be,<- cV,<- dm];exact RA.out.alloc _ 3
    have EP:Hid (z.heap[gP]? = some (.cells #[str [],.int .i64 0,.slice none 0 0,.slice none 0 0,.slice none 0 0,.slice none 0 0,.int .i64 0] 145 (0,0))/\tz gP=3/\W.heap.size<=gP):=by rw [<- be,<- cV,<- dm];exact ⟨zR _ _,by unfold zS;rw [if_pos rfl],cW.size⟩
    clear be dm cV
    rw [<- hG]
    exact ofL (ST9 gA gP z tz ct RA EP) (by kernel_rfl) (by rw [hb];kernel_rfl)
  have FV:∀ (gB:Nat) (gP:Nat) (y:World) (tg:Nat->Nat),Below W.heap.size W y->Hid (Res W.heap.size tg 2 y 3 (.slice (some ⟨gB,0,none⟩) 0 0) 0 [])->Hid (y.heap[gP]? = some (.cells #[str [],.int .i64 0,.slice none 0 0,.slice none 0 0,.slice none 0 0,.slice none 0 0,.int .i64 0] 145 (0,0))/\tg gP=3/\W.heap.size<=gP)->GG 5 #[true,false,true,true,false,true,true,true,false,true,false,true,false] ((((((((bF.put (some 11) (.agg #[str s,.int .i64 v,.slice a2 n2 c2,.slice a3 n3 c3])).put (some 13) (.pointer (some ⟨w.heap.size,4,none⟩))).put (some 14) (.slice ba begun.length bc)).put (some 16) (.slice (some ⟨gB,0,none⟩) 0 0)).put (some 17) (.pointer (some ⟨w.heap.size,5,none⟩))).put (some 18) (.slice aa args.length ac)).put (some 20) (.int .i64 (idx:Nat))).put (some 9) (.pointer (some ⟨gP,0,none⟩))) y:=by
   intro gB gP y tg cW RB EP
   rw [hG,hb]
   (try simp only [pQ,pN,pZ,pS])
   (refine on 1 ?_;intro o ho K' hK;simp at ho;subst ho;go_simp)
   (refine hK.out _ _ (fun _=>cW.alloc cW.size _) ?_;clear hK K';try simp only [pQ,pN,pZ,pS])
   obtain ⟨z,be⟩:=zzN (y.alloc (.cells #[] 3))
   obtain ⟨gA,dG⟩:=zzN (y.heap.size)
   rw [be,dG]
   have ct:Below W.heap.size W z:=by rw [<- be];exact cW.alloc cW.size _
   obtain ⟨tz,cV⟩:=zzN (zS tg gA 1)
   have RB:Hid (Res W.heap.size tz 2 z 3 (.slice (some ⟨gB,0,none⟩) 0 0) 0 []):=by rw [<- be,<- cV,<- dG];exact RB.out.alloc _ 1
   have EP:Hid (z.heap[gP]? = some (.cells #[str [],.int .i64 0,.slice none 0 0,.slice none 0 0,.slice none 0 0,.slice none 0 0,.int .i64 0] 145 (0,0))/\tz gP=3/\W.heap.size<=gP):=by rw [<- be,<- cV];exact ⟨zD EP.out.1,by unfold zS;rw [if_neg (by have:=zZ EP.out.1;omega)];exact EP.out.2.1,EP.out.2.2⟩
   have RA:Hid (Res W.heap.size tz 1 z 3 (.slice (some ⟨gA,0,none⟩) 0 0) 0 []):=by rw [<- be,<- cV,<- dG];exact Res.lit tg 1 cW.size 3 #[] 0 (by unfold maxLen;omega) rfl
   clear be dG cV
   rw [<- hG]
   exact ofL (ST7 gA gB gP z tz ct RA RB EP) (by kernel_rfl) (by rw [hb];kernel_rfl)
  have ST12:∀ (gB:Nat) (y:World) (tg:Nat->Nat),Below W.heap.size W y->Hid (Res W.heap.size tg 2 y 3 (.slice (some ⟨gB,0,none⟩) 0 0) 0 [])->GG 6 #[true,false,true,true,false,true,true,true,false,true,false,false,false] (((((((bF.put (some 11) (.agg #[str s,.int .i64 v,.slice a2 n2 c2,.slice a3 n3 c3])).put (some 13) (.pointer (some ⟨w.heap.size,4,none⟩))).put (some 14) (.slice ba begun.length bc)).put (some 16) (.slice (some ⟨gB,0,none⟩) 0 0)).put (some 17) (.pointer (some ⟨w.heap.size,5,none⟩))).put (some 18) (.slice aa args.length ac)).put (some 20) (.int .i64 (idx:Nat))) y:=by
   intro gB y tg cW RB
   rw [hG,hb]
   (try simp only [pQ,pN,pZ,pS])
   refine kH 1 11 (by kernel_rfl) ?_ ?_
   ·(intro o1 ho K' hK;simp at ho;subst ho)
    go_simp
    (refine hK.out _ _ (fun _=>cW.alloc cW.size _) ?_;clear hK K';try simp only [pQ,pN,pZ,pS])
    obtain ⟨z,be⟩:=zzN (y.alloc (.cells #[] 3))
    obtain ⟨gA,dG⟩:=zzN (y.heap.size)
    rw [be,dG]
    have ct:Below W.heap.size W z:=by rw [<- be];exact cW.alloc cW.size _
    obtain ⟨tz,cV⟩:=zzN (zS tg gA 1)
    have RB:Hid (Res W.heap.size tz 2 z 3 (.slice (some ⟨gB,0,none⟩) 0 0) 0 []):=by rw [<- be,<- cV,<- dG];exact RB.out.alloc _ 1
    have RA:Hid (Res W.heap.size tz 1 z 3 (.slice (some ⟨gA,0,none⟩) 0 0) 0 []):=by rw [<- be,<- cV,<- dG];exact Res.lit tg 1 cW.size 3 #[] 0 (by unfold maxLen;omega) rfl
    clear be dG cV
    rw [<- hG]
    exact ofL (ST8 gA gB z tz ct RA RB) (by kernel_rfl) (by rw [hb];kernel_rfl)
   ·(intro De ho K' hK;simp at ho;subst ho)
    go_simp
    (refine hK.out _ _ (fun _=>cW.alloc cW.size _) ?_;clear hK K';try simp only [pQ,pN,pZ,pS])
    obtain ⟨z,be⟩:=zzN (y.alloc (.cells #[str [],.int .i64 0,.slice none 0 0,.slice none 0 0,.slice none 0 0,.slice none 0 0,.int .i64 0] 145))
    obtain ⟨gP,dm⟩:=zzN (y.heap.size)
    rw [be,dm]
    have ct:Below W.heap.size W z:=by rw [<- be];exact cW.alloc cW.size _
    obtain ⟨tz,cV⟩:=zzN (zS tg gP 3)
    have RB:Hid (Res W.heap.size tz 2 z 3 (.slice (some ⟨gB,0,none⟩) 0 0) 0 []):=by rw [<- be,<- cV,<- dm];exact RB.out.alloc _ 3
    have EP:Hid (z.heap[gP]? = some (.cells #[str [],.int .i64 0,.slice none 0 0,.slice none 0 0,.slice none 0 0,.slice none 0 0,.int .i64 0] 145 (0,0))/\tz gP=3/\W.heap.size<=gP):=by rw [<- be,<- cV,<- dm];exact ⟨zR _ _,by unfold zS;rw [if_pos rfl],cW.size⟩
    clear be dm cV
    rw [<- hG]
    exact ofL (FV gB gP z tz ct RB EP) (by kernel_rfl) (by rw [hb];kernel_rfl)
  have ST13:∀ (gP:Nat) (y:World) (tg:Nat->Nat),Below W.heap.size W y->Hid (y.heap[gP]? = some (.cells #[str [],.int .i64 0,.slice none 0 0,.slice none 0 0,.slice none 0 0,.slice none 0 0,.int .i64 0] 145 (0,0))/\tg gP=3/\W.heap.size<=gP)->GG 6 #[true,false,true,true,false,false,true,true,false,true,false,true,false] (((((((bF.put (some 11) (.agg #[str s,.int .i64 v,.slice a2 n2 c2,.slice a3 n3 c3])).put (some 13) (.pointer (some ⟨w.heap.size,4,none⟩))).put (some 14) (.slice ba begun.length bc)).put (some 17) (.pointer (some ⟨w.heap.size,5,none⟩))).put (some 18) (.slice aa args.length ac)).put (some 20) (.int .i64 (idx:Nat))).put (some 9) (.pointer (some ⟨gP,0,none⟩))) y:=by
   intro gP y tg cW EP
   rw [hG,hb]
   (try simp only [pQ,pN,pZ,pS])
   refine kH 1 5 (by kernel_rfl) ?_ ?_
   ·(intro o1 ho K' hK;simp at ho;subst ho)
    go_simp
    (refine hK.out _ _ (fun _=>cW.alloc cW.size _) ?_;clear hK K';try simp only [pQ,pN,pZ,pS])
    obtain ⟨z,be⟩:=zzN (y.alloc (.cells #[] 3))
    obtain ⟨gA,dG⟩:=zzN (y.heap.size)
    rw [be,dG]
    have ct:Below W.heap.size W z:=by rw [<- be];exact cW.alloc cW.size _
    obtain ⟨tz,cV⟩:=zzN (zS tg gA 1)
    have EP:Hid (z.heap[gP]? = some (.cells #[str [],.int .i64 0,.slice none 0 0,.slice none 0 0,.slice none 0 0,.slice none 0 0,.int .i64 0] 145 (0,0))/\tz gP=3/\W.heap.size<=gP):=by rw [<- be,<- cV];exact ⟨zD EP.out.1,by unfold zS;rw [if_neg (by have:=zZ EP.out.1;omega)];exact EP.out.2.1,EP.out.2.2⟩
    have RA:Hid (Res W.heap.size tz 1 z 3 (.slice (some ⟨gA,0,none⟩) 0 0) 0 []):=by rw [<- be,<- cV,<- dG];exact Res.lit tg 1 cW.size 3 #[] 0 (by unfold maxLen;omega) rfl
    clear be dG cV
    rw [<- hG]
    exact ofL (ST9 gA gP z tz ct RA EP) (by kernel_rfl) (by rw [hb];kernel_rfl)
   ·(intro o5 ho K' hK;simp at ho;subst ho)
    go_simp
    (refine hK.out _ _ (fun _=>cW.alloc cW.size _) ?_;clear hK K';try simp only [pQ,pN,pZ,pS])
    obtain ⟨z,be⟩:=zzN (y.alloc (.cells #[] 3))
    obtain ⟨gB,dn⟩:=zzN (y.heap.size)
    rw [be,dn]
    have ct:Below W.heap.size W z:=by rw [<- be];exact cW.alloc cW.size _
    obtain ⟨tz,cV⟩:=zzN (zS tg gB 2)
    have EP:Hid (z.heap[gP]? = some (.cells #[str [],.int .i64 0,.slice none 0 0,.slice none 0 0,.slice none 0 0,.slice none 0 0,.int .i64 0] 145 (0,0))/\tz gP=3/\W.heap.size<=gP):=by rw [<- be,<- cV];exact ⟨zD EP.out.1,by unfold zS;rw [if_neg (by have:=zZ EP.out.1;omega)];exact EP.out.2.1,EP.out.2.2⟩
    have RB:Hid (Res W.heap.size tz 2 z 3 (.slice (some ⟨gB,0,none⟩) 0 0) 0 []):=by rw [<- be,<- cV,<- dn];exact Res.lit tg 2 cW.size 3 #[] 0 (by unfold maxLen;omega) rfl
    clear be dn cV
    rw [<- hG]
    exact ofL (FV gB gP z tz ct RB EP) (by kernel_rfl) (by rw [hb];kernel_rfl)
  have ST14:∀ (y:World) (tg:Nat->Nat),Below W.heap.size W y->GG 7 #[true,false,true,true,false,false,true,true,false,true,false,false,false] ((((((bF.put (some 11) (.agg #[str s,.int .i64 v,.slice a2 n2 c2,.slice a3 n3 c3])).put (some 13) (.pointer (some ⟨w.heap.size,4,none⟩))).put (some 14) (.slice ba begun.length bc)).put (some 17) (.pointer (some ⟨w.heap.size,5,none⟩))).put (some 18) (.slice aa args.length ac)).put (some 20) (.int .i64 (idx:Nat))) y:=by
   intro y tg cW
   rw [hG,hb]
   (try simp only [pQ,pN,pZ,pS])
   refine xL 1 5 11 (by kernel_rfl) ?_ ?_ ?_
   ·(intro o1 ho K' hK;simp at ho;subst ho)
    go_simp
    (refine hK.out _ _ (fun _=>cW.alloc cW.size _) ?_;clear hK K';try simp only [pQ,pN,pZ,pS])
    obtain ⟨z,be⟩:=zzN (y.alloc (.cells #[] 3))
    obtain ⟨gA,dG⟩:=zzN (y.heap.size)
    rw [be,dG]
    have ct:Below W.heap.size W z:=by rw [<- be];exact cW.alloc cW.size _
    obtain ⟨tz,cV⟩:=zzN (zS tg gA 1)
    have RA:Hid (Res W.heap.size tz 1 z 3 (.slice (some ⟨gA,0,none⟩) 0 0) 0 []):=by rw [<- be,<- cV,<- dG];exact Res.lit tg 1 cW.size 3 #[] 0 (by unfold maxLen;omega) rfl
    clear be dG cV
    rw [<- hG]
    exact ofL (ST10 gA z tz ct RA) (by kernel_rfl) (by rw [hb];kernel_rfl)
   ·(intro o5 ho K' hK;simp at ho;subst ho)
    go_simp
    (refine hK.out _ _ (fun _=>cW.alloc cW.size _) ?_;clear hK K';try simp only [pQ,pN,pZ,pS])
    obtain ⟨z,be⟩:=zzN (y.alloc (.cells #[] 3))
    obtain ⟨gB,dn⟩:=zzN (y.heap.size)
    rw [be,dn]
    have ct:Below W.heap.size W z:=by rw [<- be];exact cW.alloc cW.size _
    obtain ⟨tz,cV⟩:=zzN (zS tg gB 2)
    have RB:Hid (Res W.heap.size tz 2 z 3 (.slice (some ⟨gB,0,none⟩) 0 0) 0 []):=by rw [<- be,<- cV,<- dn];exact Res.lit tg 2 cW.size 3 #[] 0 (by unfold maxLen;omega) rfl
    clear be dn cV
    rw [<- hG]
    exact ofL (ST12 gB z tz ct RB) (by kernel_rfl) (by rw [hb];kernel_rfl)
   ·(intro De ho K' hK;simp at ho;subst ho)
    go_simp
    (refine hK.out _ _ (fun _=>cW.alloc cW.size _) ?_;clear hK K';try simp only [pQ,pN,pZ,pS])
    obtain ⟨z,be⟩:=zzN (y.alloc (.cells #[str [],.int .i64 0,.slice none 0 0,.slice none 0 0,.slice none 0 0,.slice none 0 0,.int .i64 0] 145))
    obtain ⟨gP,dm⟩:=zzN (y.heap.size)
    rw [be,dm]
    have ct:Below W.heap.size W z:=by rw [<- be];exact cW.alloc cW.size _
    obtain ⟨tz,cV⟩:=zzN (zS tg gP 3)
    have EP:Hid (z.heap[gP]? = some (.cells #[str [],.int .i64 0,.slice none 0 0,.slice none 0 0,.slice none 0 0,.slice none 0 0,.int .i64 0] 145 (0,0))/\tz gP=3/\W.heap.size<=gP):=by rw [<- be,<- cV,<- dm];exact ⟨zR _ _,by unfold zS;rw [if_pos rfl],cW.size⟩
    clear be dm cV
    rw [<- hG]
    exact ofL (ST13 gP z tz ct EP) (by kernel_rfl) (by rw [hb];kernel_rfl)
  rw [hb]
  rw [hG]
  refine tk [0,2,3,6,7,9] cX ?_
  (intro d hd;simp [tkD] at hd;subst hd;simp only [tks,pQ,pZ,pS])
  iterate 6 (refine ⟨?_,?_,?_⟩;rotate_left;· (intro oi ho;simp at ho;subst ho;refine Or.inl ⟨by rfl,fun w' b_=>?_⟩;obtain ⟨e0,e1,e2,e3,e4,e5,e6⟩:=KEY.out w' b_;go_simp;try with_reducible rfl))
  rw [<- hG]
  exact ofL (ST14 y0 fT cX) (by kernel_rfl) (by rw [hb];kernel_rfl)
 rintro ⟨gA,gB,g,a5,c5,a6,c6⟩ w7 hI
 simp only [pQ,pN,pZ,pS]
 go_wp2_with fail
 go_loopw [10] (fun i wr=>∃ (k:Nat) (a5:Option Addr) (c5:Nat) (a6:Option Addr) (c6:Nat),k<=t.args.length/\i=.int .i64 k/\BegI g s v a2 n2 c2 a3 n3 c3 begun.length args.length begun args idx k a5 c5 a6 c6 W wr) (fun i _=>t.args.length-(intOf i).toNat)
 case atStart=>exact ⟨0,a5,c5,a6,c6,Nat.zero_le _,rfl,hI⟩
 case round =>
  rename_i wr
  obtain ⟨k,a5,c5,a6,c6,hk,rfl,hI⟩:=hrel
  obtain ⟨_,_,_,_,_,_,t0⟩:=KEY.out wr hI.below
  obtain ⟨q0,q1,q2,q3,q4,q5,q6⟩:=qc hI.box
  have fz:=zB hI.box 4
  have HI:=bz hI
  clear hI
  by_cases cQ:k<t.args.length
  ·have mH:(k:Int)<(t.args.length:Int):=by omega
   clear q0 q1 q2 q3 q5 q6
   have q4a:=fun o=>zH (o:=o) q4
   go_wp2_with (at_builtin;refine zC rfl _ _ 31 rfl 3 (.int .i64 0) 1 8 Tryz.underlying31 Tryz.infoInt2 rfl (by decide) (.slice a5 (begun.length+k) c5) (begun.length+k) (zT begun++List.replicate k (.int .i64 (idx:Nat))) rfl ?c1 _ 1 [.int .i64 (idx:Nat)] rfl ?c2 ?c3 ?c4 ?_)
   case c1=>exact HI.out.o5.alloc _
   case c2=>exact zM.litk #[.int .i64 (idx:Nat)] rfl (by simp [Value.oneCell']) _ (by rfl)
   case c3=>unfold maxLen;omega
   case c4=>omega
   intro a7 c7 w8 rn em aP
   obtain ⟨W8,rq,aN,d9,Dd,Dc,FN,FU⟩:=HI.out.half (by rw [List.append_assoc];exact rn) em aP
   have q48:w8.cell? ⟨g,4,none⟩=some (.slice a5 (begun.length+k) c5):=(em.cell (p:=⟨g,4,none⟩) (by rw [zK];have:=zZ HI.out.box;show g<_;omega) (fun e=>(HI.out.f5 g e).2 rfl)).trans (zH q4)
   have fz8:w8.frozen? ⟨g,4,none⟩=false:=by
    have:=(em.block g (by rw [zK];have:=zZ HI.out.box;omega) (fun e=>(HI.out.f5 g e).2 rfl)).trans (zD HI.out.box)
    simp [World.frozen?,this]
   obtain ⟨_,_,_,_,_,q5,_⟩:=qc d9
   have H8:=bz (bj rq (bj aN (bj d9 (bj Dd (bj Dc (bj FN FU))))))
   clear rn em aP rq aN d9 Dd Dc FN FU q4a
   go_upto_region 6 with (fail)
   rw [H8.out.1]
   clear q4 q48 fz fz8 t0
   go_wp2_with (at_builtin;refine zC rfl _ _ 31 rfl 3 (.int .i64 0) 1 8 Tryz.underlying31 Tryz.infoInt2 rfl (by decide) (.slice a6 (args.length+k) c6) (args.length+k) (zT args++zT (List.range k)) rfl ?c1 _ 1 [.int .i64 (k:Nat)] rfl ?c2 ?c3 ?c4 ?_)
   case c1=>exact H8.out.2.2.2.2.1.alloc _
   case c2=>exact zM.litk #[.int .i64 (k:Nat)] rfl (by simp [Value.oneCell']) _ (by rfl)
   case c3=>unfold maxLen;omega
   case c4=>omega
   intro a9 c9 w9 ho9 A8 hg9
   have Bj:=BegI.next H8.out.2.1 HI.out.gw H8.out.2.2.1 H8.out.2.2.2.1 H8.out.2.2.2.2.1 H8.out.2.2.2.2.2.1 HI.out.f6 H8.out.2.2.2.2.2.2 (by rw [List.append_assoc];exact ho9) A8 hg9
   have ed:=(A8.block g (by rw [zK];have:=zZ H8.out.2.2.1;omega) (fun e=>(HI.out.f6 g e).2 rfl)).trans (zD H8.out.2.2.1)
   obtain ⟨_,_,_,_,_,q59,_⟩:=qc ed
   have fz9:=zB ed 5
   obtain ⟨W9,hW9⟩:=zzN (w9.setCell ⟨g,5,none⟩ (.slice a9 (args.length+k+1) c9))
   rw [hW9] at Bj
   have H9:=bz (bj hW9 Bj)
   clear Bj hW9 ho9 A8 hg9 ed
   go_upto_region 4 with (fail)
   rw [H9.out.1]
   clear q5 q59 fz9
   go_wp2_with fail
   go_roundw
   case rel=>exact ⟨k+1,a7,c7,a9,c9,by omega,by go_num,H9.out.2⟩
   case measure=>simp [intOf];omega
  ·obtain rfl:k=t.args.length:=by omega
   have z3:=(HI.out.below.block _ (zZ HW.out.2.2.2)).trans HW.out.2.2.2
   have cE:g≠w.heap.size+3:=by have h1:=HI.out.gw;have h2:=HW.out.2.2.1;omega
   have HZ:=bz (bj z3 cE)
   have g0:=zB z3 0;have g1:=zB z3 1;have g2:=zB z3 2;have g3:=zB z3 3;have g4:=zB z3 4;have g5:=zB z3 5;have g6:=zB z3 6
   obtain ⟨z0,z1,z2,z3',z4,z5,z6⟩:=qc z3
   clear z3 cE
   go_wp2_with fail
   have hV:=wA HZ.out.1 (str s) (.int .i64 v) (.slice a2 n2 c2) (.slice a3 n3 c3) (.slice a5 (begun.length+t.args.length) c5) (.slice a6 (args.length+t.args.length) c6) (.int .i64 (idx:Nat))
   obtain ⟨nD,nC,C9,C0,s4',s5',s6'⟩:=qc hV
   refine bodyPost_ret (v:=.agg #[str s,.int .i64 v,.slice a2 n2 c2,.slice a3 n3 c3,.slice a5 (begun.length+t.args.length) c5,.slice a6 (args.length+t.args.length) c6,.int .i64 (idx:Nat)]) (by simp [results,Tryz.results128,go_sem,nD,nC,C9,C0,s4',s5',s6']) rfl ?_
   have hz4:=HW.out.2.2.1
   have aF:Below w.heap.size w wr:=HW.out.2.1.trans (HI.out.below.mono (by omega))
   have far:∀ (x:World) (p:Addr) (u:Value) (i:Nat),p.block=w.heap.size+3->W.heap.size<=i->(x.setCell p u).heap[i]? = x.heap[i]?:=fun x p u i hp hi=>bf _ _ _ _ (by rw [hp];omega)
   have keep:∀ {e:TypeId} {n:Nat} {r:Value} {ys:List Value},Own wr e 1 r n ys->(∀ i,r.ownBlock=some i->W.heap.size<=i)->Own (((((((wr.setCell ⟨w.heap.size+3,0,none⟩ (str s)).setCell ⟨w.heap.size+3,1,none⟩ (.int .i64 v)).setCell ⟨w.heap.size+3,2,none⟩ (.slice a2 n2 c2)).setCell ⟨w.heap.size+3,3,none⟩ (.slice a3 n3 c3)).setCell ⟨w.heap.size+3,4,none⟩ (.slice a5 (begun.length+t.args.length) c5)).setCell ⟨w.heap.size+3,5,none⟩ (.slice a6 (args.length+t.args.length) c6)).setCell ⟨w.heap.size+3,6,none⟩ (.int .i64 (idx:Nat))) e 1 r n ys :=
    fun ho hf=>ho.keep fun i x hi hx=>by
     have h:=hf i hi
     rw [far _ _ _ _ rfl h,far _ _ _ _ rfl h,far _ _ _ _ rfl h,far _ _ _ _ rfl h,far _ _ _ _ rfl h,far _ _ _ _ rfl h,far _ _ _ _ rfl h];exact hx
   refine ⟨_,_,_,_,rfl,((((((aF.setCell (p:=⟨w.heap.size+3,0,none⟩) (Nat.le_add_right _ _) _).setCell (p:=⟨w.heap.size+3,1,none⟩) (Nat.le_add_right _ _) _).setCell (p:=⟨w.heap.size+3,2,none⟩) (Nat.le_add_right _ _) _).setCell (p:=⟨w.heap.size+3,3,none⟩) (Nat.le_add_right _ _) _).setCell (p:=⟨w.heap.size+3,4,none⟩) (Nat.le_add_right _ _) _).setCell (p:=⟨w.heap.size+3,5,none⟩) (Nat.le_add_right _ _) _).setCell (p:=⟨w.heap.size+3,6,none⟩) (Nat.le_add_right _ _) _,?_,?_⟩
   ·refine Own.numD ?_ (by simp) (fun i hi=>by have:=(HI.out.f5 i hi).1;omega)
    rw [show zT (begun++List.replicate t.args.length idx)=zT begun++List.replicate t.args.length (.int .i64 (idx:Nat)) from by simp [zT]]
    exact keep HI.out.o5 (fun i hi=>(HI.out.f5 i hi).1)
   ·refine Own.numD ?_ (by simp) (fun i hi=>by have:=(HI.out.f6 i hi).1;omega)
    rw [show zT (args++List.range t.args.length)=zT args++zT (List.range t.args.length) from by simp [zT]]
    exact keep HI.out.o6 (fun i hi=>(HI.out.f6 i hi).1)
def v9 (w:World) (ns:List Nat) (x:Value):Prop:=∃ b o c,x=.slice (some ⟨b,o,none⟩) ns.length c/\b<w.heap.size/\∀ (i n:Nat),ns[i]? = some n->w.cell? ⟨b,o+i,none⟩=some (.int .i64 (n:Nat))
theorem v9.below {w w':World} {ns:List Nat} {x:Value} (h:v9 w ns x) (hb:Below w.heap.size w w'):v9 w' ns x:=by
 obtain ⟨b,o,c,e,hl,hc⟩:=h
 exact ⟨b,o,c,e,bm hl hb.size,fun i n hi=>(hb.cell (p:=⟨b,o+i,none⟩) hl).trans (hc i n hi)⟩
theorem Own.cells1 {w:World} {ns:List Nat} {v:Value} (h:Own w 3 1 v ns.length (zT ns)) (hp:0<ns.length):∃ b c,v=.slice (some ⟨b,0,none⟩) ns.length c/\b<w.heap.size/\∀ (i n:Nat),ns[i]? = some n->w.cell? ⟨b,i,none⟩=some (.int .i64 (n:Nat))/\w.frozen? ⟨b,i,none⟩=false:=by
 rcases h.2 with ⟨_,h0⟩ | ⟨g,cap,cur,e,_,hg,s_,_,hcs,ht⟩
 ·omega
 ·refine ⟨g,cap,e,zZ hg,fun i n hi=>?_⟩
  have oq:=(List.getElem?_eq_some_iff.1 hi).1
  have h2:(zT ns)[i]? = some (.int .i64 (n:Nat)):=by unfold zT;rw [List.getElem?_map,hi];rfl
  rw [<- ht,List.getElem?_take,if_pos (by omega),Array.getElem?_toList] at h2
  exact ⟨by simp only [World.cell?,hg];simpa using h2,by simp [World.frozen?,hg]⟩
theorem Own.natAt {w:World} {ns:List Nat} {v:Value} (h:Own w 3 1 v ns.length (zT ns)) (hp:0<ns.length):v9 w ns v:=by
 obtain ⟨b,c,e,hl,hc⟩:=h.cells1 hp
 exact ⟨b,0,c,e,hl,fun i n hi=>by rw [Nat.zero_add];exact (hc i n hi).1⟩
theorem pL {B b:Nat} (hb:B<=b) {a:World}:∀ (vs:List Value) (o:Nat) (w:World),Below B a w->Below B a (w.setCells b o vs)
 | [],_,_,h=>h
 | v::r,o,_,h=>pL hb r (o+1) _ (h.setCell (p:=⟨b,o,none⟩) hb v)
theorem reversed_at {w w':World} {ns:List Nat} {b c:Nat} {B:Nat} (hB:B<=b) (hl:b<w.heap.size) (hc:∀ (i n:Nat),ns[i]? = some n->w.cell? ⟨b,i,none⟩=some (.int .i64 (n:Nat))/\w.frozen? ⟨b,i,none⟩=false) {q:Nat}
 (e:w'=(w.drewN q).setCells b 0 ((ns.map fun n=>((n:Nat):Int)).reverse.map (Value.int .i64))):v9 w' ns.reverse (.slice (some ⟨b,0,none⟩) ns.length c)/\Below B w w':=by
 have e2:(ns.map fun n=>((n:Nat):Int)).reverse.map (Value.int .i64)=zT ns.reverse:=by unfold zT;rw [<- List.map_reverse,List.map_map];rfl
 rw [e2] at e
 have cU:(zT ns.reverse).length=ns.length:=by unfold zT;simp
 have hb:Below B w w':=by
  rw [e]
  exact pL hB _ _ _ (z9 (bh _ _) q)
 refine ⟨⟨b,0,c,by rw [List.length_reverse],bm hl hb.size,fun i n hi=>?_⟩,hb⟩
 have oq:=(List.getElem?_eq_some_iff.1 hi).1
 rw [List.length_reverse] at oq
 have h3:=World.cell?_setCells_in b (zT ns.reverse) 0 (w.drewN q) (fun j hj=>by
  rw [cU] at hj
  have:=(hc j (ns[j]) (List.getElem?_eq_getElem hj)).1
  rw [Nat.zero_add]
  rw [show (w.drewN q).cell? ⟨b,j,none⟩=w.cell? ⟨b,j,none⟩ from (z9 (bh w.heap.size w) q).cell hl,this];rfl) i (by omega)
 rw [e,h3]
 congr 1
 have h2:(zT ns.reverse)[i]? = some (.int .i64 (n:Nat)):=by unfold zT;rw [List.getElem?_map,hi];rfl
 exact (List.getElem?_eq_some_iff.1 h2).2
theorem qV (x:Int) (h1 : -2000<=x) (h2:x<=1000000):IntKind.i64.wrap x=x:=by
 simp [IntKind.wrap,IntKind.bits,IntKind.signed];omega
theorem intsV_append (a b:List Nat):zT (a++b)=zT a++zT b:=by simp [zT]
theorem wQ {t:Ty} {v:Pl} {i:Nat} {c:UInt8} {p:Bs} {z:Int} (h:OkMv t v i c p z) : -1<=z/\z<(i:Int):=by
 rcases Nat.eq_zero_or_pos i with h0 | h0
 ·have:=(h.zero h0).2.2;omega
 ·have:=h.pos h0;omega
set_option maxRecDepth 100000 in
theorem gF (F:Nat->Prop) (t:Ty) (v:Pl) (opp:Bool) (n:Nat) (mv pt:Value) (w:World) (hm:qC F w v mv) (hp:qB F w v pt) (hv:zO t v=true) (B9:0<n) (hn:n<=v.length) (hl:∀ x∈v,x.1.length<=16777216) :
 Calls Tryz.prog 54 #[.agg #[mv,pt],.int .i64 (n:Nat),.bool opp] w fun en w'=>∃ x,en=.returned x/\Below w.heap.size w w'/\v9 w' (zd v opp n) x:=by
 have dE:=za hv
 obtain ⟨ma,mc,rfl,cb⟩:=hm.cells
 obtain ⟨pa,pc,rfl,dP⟩:=hp.cells
 obtain ⟨W,hW,b9,hz,b0⟩:=kV w (.cells #[.slice ma v.length mc,.slice pa v.length pc] 33)
 obtain ⟨c0,c1,_,_⟩:=zJ b0
 have hwn:IntKind.i64.wrap ((n:Int)-1)=(n:Int)-1:=wrap_small _ (by omega) (by omega)
 have HH:=bz (bj cb (bj dP (bj b9 (bj hv hl))))
 have HW:=bz hW
 clear hm hp cb dP hz b0 b9 hW hl hv
 go_enter Tryz.func54,Tryz.ntmps54
 go_upto_region 1 with (fail)
 rw [HW.out]
 go_wp2_with fail
 go_loopw [7,8] (fun o i wr=>∃ (r f:Nat) (ds:List Nat) (a:Option Addr) (c:Nat),i=.int .i64 ((r:Int)-1)/\r<=f/\ds.length+f=n/\ds++qS v opp f r=qS v opp n n/\o=.slice a ds.length c/\Own wr 3 1 (.slice a ds.length c) ds.length (zT ds)/\Below W.heap.size W wr/\(∀ g,(Value.slice a ds.length c).ownBlock=some g->W.heap.size<=g)) (fun _ i _=>(intOf i+1).toNat)
 case atStart=>exact ⟨n,n,[],none,0,rfl,bw _,by simp,rfl,rfl,World.ownsRow_nil _ _ _ _,bh _ _,fun g h=>by simp [Value.ownBlock] at h⟩
 case round =>
  obtain ⟨r,f,ds,a,c,rfl,B5,hdf,Dn,rfl,ho,hB,hf⟩:=hrel
  have HO:=bz ho;have HF:=bz hf;have HB:=bz hB;have HV:=bz Dn
  clear ho hf hB Dn
  cases r with
  | zero =>
    have e0:(((0:Nat):Int)-1) = -1:=rfl
    rw [e0]
    have rT:ds=qS v opp n n:=by
     have h:=HV.out
     rw [jK,List.append_nil] at h;exact h
    have Ef:0<ds.length:=by
     rw [rT]
     obtain ⟨n',rfl⟩:∃ n',n=n'+1:=⟨n-1,by omega⟩
     rw [kB,List.length_cons];omega
    obtain ⟨g,c',ev,ou,iI⟩:=Own.cells1 HO.out Ef
    simp only [Value.slice.injEq,true_and] at ev
    obtain ⟨rfl,rfl⟩:=ev
    have C:=bz (Tryz.slices_Reverse_int_cells g 0 ds.length c (ds.map fun n=>((n:Nat):Int)) wr (by simp) (by omega) (fun j hj=>by
     rw [List.length_map] at hj
     rw [Nat.zero_add,(iI j ds[j] (List.getElem?_eq_getElem hj)).1,List.getD_eq_getElem?_getD,List.getElem?_map,List.getElem?_eq_getElem hj];rfl) (fun j hj=>by
     rw [Nat.zero_add];exact (iI j ds[j] (List.getElem?_eq_getElem hj)).2))
    have HG:=bz (bj ou iI)
    have HD:=bz rT
    clear ou iI Ef rT
    go_wp2_with fail
    (with_reducible refine C.out.mono ?_)
    rintro en w1 ⟨rfl,q,e⟩
    obtain ⟨hN,hb⟩:=reversed_at (B:=W.heap.size) (c:=c) (HF.out g rfl) HG.out.1 HG.out.2 (e.trans (by rw [List.take_of_length_le (by simp)]))
    have HN:=bz (bj hN (HB.out.trans hb))
    clear e hN hb C
    go_wp2_with fail
    go_ret
    refine ⟨_,rfl,zzT HH.out.2.2.1 HN.out.2,?_⟩
    unfold zd
    rw [<- HD.out]
    exact HN.out.1
  | succ k =>
    have ek:(((k+1:Nat):Int)-1)=(k:Int):=by omega
    rw [ek]
    have sK:k<v.length:=by omega
    have AN:(k:Int)<(v.length:Int):=by omega
    obtain ⟨x,p,z,cS,cD⟩:=kQ HH.out.2.2.2.1 sK
    have cG:=HH.out.2.2.2.2 _ (List.mem_of_getElem? cS)
    rw [List.length_cons] at cG
    obtain ⟨mb,mo,rfl,_,dD,dC⟩:=HH.out.1 k _ cS
    obtain ⟨pb,po,rfl,_,dB,dN⟩:=HH.out.2.1 k _ cS
    have hz:=wQ cD
    have oP:IntKind.i64.wrap ((k:Int)-1)=(k:Int)-1:=qV _ (by omega) (by omega)
    obtain ⟨f',rfl⟩:∃ f',f=f'+1:=⟨f-1,by omega⟩
    have KEY:Hid (∀ y,Below W.heap.size W y->y.cell? ⟨w.heap.size,0,none⟩=some (.slice (some ⟨mb,mo,none⟩) v.length mc)/\y.cell? ⟨w.heap.size,1,none⟩=some (.slice (some ⟨pb,po,none⟩) v.length pc)/\y.cell? ⟨mb,mo+k,none⟩=some (str (x::p))/\y.cell? ⟨pb,po+k,none⟩=some (.int .i64 z)):=bz (fun y hy=>by
     have fq:=zzT HH.out.2.2.1 hy
     exact ⟨(hy.cell (bp _ _ c0)).trans c0,(hy.cell (bp _ _ c1)).trans c1,(fq.cell (p:=⟨mb,mo+k,none⟩) dD).trans dC,(fq.cell (p:=⟨pb,po+k,none⟩) dB).trans dN⟩)
    have CB:=vp x p (show p.length<=16777216 by omega)
    have Ci:jv v opp (k+1-1)=jv v opp k:=rfl
    have HN:Hid (ds++[k]++qS v opp f' (if kG (x::p)=opp then k else (z+1).toNat)=qS v opp n n):=bz (by
     have h:=HV.out
     rw [kB] at h
     unfold jv at h
     rw [cS] at h
     rw [List.append_assoc];exact h)
    obtain ⟨bo,eJ⟩:=zzN (kG (x::p))
    rw [eJ] at CB HN
    have CB:=bz CB
    clear c0 c1 cS cD cG dD dC dB dN eJ Ci
    go_wp2_with (at_builtin;refine zC rfl _ _ 31 rfl 3 (.int .i64 0) 1 8 Tryz.underlying31 Tryz.infoInt2 rfl (by decide) (.slice a ds.length c) ds.length (zT ds) rfl ?c1 _ 1 [.int .i64 (k:Nat)] rfl ?c2 ?c3 ?c4 ?_)
    case c1=>exact HO.out.alloc _
    case c2=>exact zM.litk #[.int .i64 (k:Nat)] rfl (by simp [Value.oneCell']) _ (by rfl)
    case c3=>unfold maxLen;omega
    case c4=>omega
    intro a7 c7 w8 rn em aP
    have sG:=HB.out.size
    have eP:Below W.heap.size W w8:=(HB.out.alloc sG _).trans (em.toBelow (by rw [zK];omega) fun i hi e=>by have:=HF.out i e;omega)
    have iv:∀ g,(Value.slice a7 (ds.length+1) c7).ownBlock=some g->W.heap.size<=g:=fun g hg=>by
     rcases aP g hg with e | e
     ·exact HF.out g e
     ·omega
    have DQ:Own w8 3 1 (.slice a7 (ds++[k]).length c7) (ds++[k]).length (zT (ds++[k])):=by rw [intsV_append,List.length_append];exact rn
    obtain ⟨d0,d1,m0,p0⟩:=KEY.out w8 eP
    have H8:=bz (bj DQ (bj eP (by rw [show ds.length+1=(ds++[k]).length from by simp] at iv;exact iv)))
    have el:ds.length+1=(ds++[k]).length:=by simp
    rw [el]
    generalize rT:ds++[k]=ds' at *
    have iz:ds'.length=ds.length+1:=el.symm
    clear rn em aP eP iv DQ KEY sG el rT HO HF HV
    go_wp2_with fail
    (with_reducible refine (CB.out _).mono ?_)
    rintro en w9 ⟨rfl,e⟩
    subst w9
    by_cases eJ:bo=opp
    ·rw [if_pos eJ] at HN
     have bi:(bo == opp)=true:=by simp [eJ]
     clear eJ CB d1 p0
     go_wp2_with fail
     go_roundw
     case rel=>exact ⟨k,f',ds',a7,c7,rfl,by omega,by omega,HN.out,by rw [iz],H8.out.1,H8.out.2.1,H8.out.2.2⟩
     case measure=>simp [intOf]
    ·rw [if_neg eJ] at HN
     have bi:(bo == opp)=false:=by simp [eJ]
     clear eJ CB d0 m0
     go_wp2_with fail
     go_roundw
     case rel=>exact ⟨(z+1).toNat,f',ds',a7,c7,by congr 1;omega,by omega,by omega,HN.out,by rw [iz],H8.out.1,H8.out.2.1,H8.out.2.2⟩
     case measure=>simp [intOf];omega
theorem Own.srcN {w:World} {e:TypeId} {n:Nat} {v:Value} {ns:List Nat} (h:Own w e 1 v n (zT ns)):zM 1 v n (zT ns) w:=by
 refine ⟨h.1,fun u hu=>?_,?_⟩
 ·obtain ⟨m,_,rfl⟩:=List.mem_map.1 hu
  simp [Value.oneCell']
 ·rcases h.2 with ⟨e1,e2⟩ | ⟨g,cap,cur,e1,_,hg,_,_,_,ht⟩
  ·exact .inr ⟨e1,e2⟩
  ·refine .inl ⟨_,cap,e1,fun j u hu=>?_⟩
   rw [<- ht,List.getElem?_take] at hu
   split at hu
   ·unfold Addr.add
    split
    ·subst j;simp only [World.cell?,hg];simpa using hu
    ·simp only [World.cell?,hg];simpa using hu
   ·simp at hu
def pz (opp:Bool):Nat:=if opp then 0 else 1
theorem who_eq (m:Bs) (opp:Bool):(((plN m:Nat):Int) == ((pz opp:Nat):Int))=(kG m == opp):=by
 unfold plN pz
 cases kG m <;> cases opp <;> rfl
set_option maxRecDepth 100000 in
theorem xF (F:Nat->Prop) (t:Ty) (v:Pl) (opp:Bool) (n:Nat) (mv pt:Value) (w:World) (hm:qC F w v mv) (hp:qB F w v pt) (hv:zO t v=true) (B9:0<n) (hn:n<=v.length) (hl:∀ x∈v,x.1.length<=16777216) :
 Calls Tryz.prog 126 #[.agg #[mv,pt],.int .i64 (pz opp:Nat),.int .i64 (n:Nat)] w fun en w'=>∃ x,en=.returned x/\Below w.heap.size w w'/\v9 w' (zd v opp n) x:=by
 have dE:=za hv
 obtain ⟨ma,mc,rfl,cb⟩:=hm.cells
 obtain ⟨pa,pc,rfl,dP⟩:=hp.cells
 obtain ⟨W,hW,b9,hz,b0⟩:=kV w (.cells #[.slice ma v.length mc,.slice pa v.length pc] 33)
 obtain ⟨c0,c1,_,_⟩:=zJ b0
 have HH:=bz (bj cb (bj dP (bj b9 (bj hv hl))))
 have HW:=bz hW
 have HWH:=bz (fun m=>who_eq m opp)
 generalize pz opp=who at *
 clear hm hp cb dP hz b0 b9 hW hl hv
 go_enter Tryz.func126,Tryz.ntmps126
 go_upto_region 1 with (fail)
 rw [HW.out]
 go_wp2_with fail
 go_loopw [2,7,8] (fun i o _ wr=>∃ (r f:Nat) (os:List Nat) (a:Option Addr) (c:Nat),i=.int .i64 (r:Nat)/\r<=f/\os.length+f=n/\os.reverse++qS v opp f r=qS v opp n n/\o=.slice a os.length c/\Own wr 3 1 (.slice a os.length c) os.length (zT os)/\Below W.heap.size W wr/\(∀ g,(Value.slice a os.length c).ownBlock=some g->W.heap.size<=g)) (fun i _ _ _=>(intOf i).toNat)
 case atStart=>exact ⟨n,n,[],_,_,rfl,bw _,by simp,rfl,rfl,Own.litAt #[] 0 _ rfl (by decide) rfl,(bh _ _).alloc (bw _) _,ga (bw _)⟩
 case round =>
  obtain ⟨r,f,os,a,c,rfl,B5,hdf,Dn,rfl,ho,hB,hf⟩:=hrel
  have HO:=bz ho;have HF:=bz hf;have HB:=bz hB;have HV:=bz Dn
  clear ho hf hB Dn
  cases r with
  | zero =>
    have rT:os.reverse=qS v opp n n:=by
     have h:=HV.out
     rw [jK,List.append_nil] at h;exact h
    have Ef:0<os.length:=by
     rw [<- List.length_reverse,rT]
     obtain ⟨n',rfl⟩:∃ n',n=n'+1:=⟨n-1,by omega⟩
     rw [kB,List.length_cons];omega
    have HN:=bz (show v9 wr (zd v opp n) (.slice a os.length c) by
     unfold zd
     rw [<- rT,List.reverse_reverse]
     exact Own.natAt HO.out Ef)
    clear Ef rT
    go_wp2_with fail
    go_ret
    exact ⟨_,rfl,zzT HH.out.2.2.1 HB.out,HN.out⟩
  | succ k =>
    have hkp:(0:Int)<((k+1:Nat):Int):=by omega
    have tJ:(0<k+1)=True:=by simp
    have oP:IntKind.i64.wrap (((k+1:Nat):Int)-1)=(k:Int):=by rw [show ((k+1:Nat):Int)-1=(k:Int) from by omega];exact k_ _ (by omega)
    have sK:k<v.length:=by omega
    have AN:(k:Int)<(v.length:Int):=by omega
    obtain ⟨x,p,z,cS,cD⟩:=kQ HH.out.2.2.2.1 sK
    have cG:=HH.out.2.2.2.2 _ (List.mem_of_getElem? cS)
    rw [List.length_cons] at cG
    obtain ⟨mb,mo,rfl,_,dD,dC⟩:=HH.out.1 k _ cS
    obtain ⟨pb,po,rfl,_,dB,dN⟩:=HH.out.2.1 k _ cS
    have hz:=wQ cD
    obtain ⟨f',rfl⟩:∃ f',f=f'+1:=⟨f-1,by omega⟩
    have KEY:Hid (∀ y,Below W.heap.size W y->y.cell? ⟨w.heap.size,0,none⟩=some (.slice (some ⟨mb,mo,none⟩) v.length mc)/\y.cell? ⟨w.heap.size,1,none⟩=some (.slice (some ⟨pb,po,none⟩) v.length pc)/\y.cell? ⟨mb,mo+k,none⟩=some (str (x::p))/\y.cell? ⟨pb,po+k,none⟩=some (.int .i64 z)):=bz (fun y hy=>by
     have fq:=zzT HH.out.2.2.1 hy
     exact ⟨(hy.cell (bp _ _ c0)).trans c0,(hy.cell (bp _ _ c1)).trans c1,(fq.cell (p:=⟨mb,mo+k,none⟩) dD).trans dC,(fq.cell (p:=⟨pb,po+k,none⟩) dB).trans dN⟩)
    have CB:=vH x p (show p.length<=16777216 by omega)
    have HN:Hid ((k::os).reverse++qS v opp f' (if kG (x::p)=opp then k else (z+1).toNat)=qS v opp n n):=bz (by
     have h:=HV.out
     rw [kB] at h
     unfold jv at h
     rw [cS] at h
     rw [List.reverse_cons,List.append_assoc];exact h)
    have HQ:=HWH.out (x::p)
    obtain ⟨bo,eJ⟩:=zzN (kG (x::p))
    obtain ⟨pn,c_⟩:=zzN (plN (x::p))
    rw [eJ] at HN HQ
    rw [c_] at CB HQ
    have CB:=bz CB
    clear c0 c1 cS cD cG dD dC dB dN eJ c_
    go_wp2_with (at_builtin;refine zC rfl _ _ 31 rfl 3 (.int .i64 0) 1 8 Tryz.underlying31 Tryz.infoInt2 rfl (by decide) (.slice (some ⟨wr.heap.size,0,none⟩) 1 1) 1 (zT [k]) rfl ?c1 _ os.length (zT os) rfl ?c2 ?c3 ?c4 ?_)
    case c1=>exact Own.litAt #[.int .i64 (k:Nat)] 1 _ rfl (by decide) rfl
    case c2=>exact HO.out.srcN.alloc _
    case c3=>unfold maxLen;omega
    case c4=>omega
    intro a7 c7 w8 rn em aP
    have sG:=HB.out.size
    have eP:Below W.heap.size W w8:=(HB.out.alloc sG _).trans (em.toBelow (by rw [zK];omega) fun i hi e=>by
     simp [Value.ownBlock] at e;omega)
    have iv:∀ g,(Value.slice a7 (1+os.length) c7).ownBlock=some g->W.heap.size<=g:=fun g hg=>by
     rcases aP g hg with e | e
     ·simp [Value.ownBlock] at e;omega
     ·omega
    have el:1+os.length=(k::os).length:=by rw [List.length_cons];omega
    rw [<- show zT (k::os)=zT [k]++zT os from rfl] at rn
    rw [el] at rn iv ⊢
    obtain ⟨d0,d1,m0,p0⟩:=KEY.out w8 eP
    have H8:=bz (bj rn (bj eP iv))
    generalize rT:k::os=os' at *
    have iz:os'.length=os.length+1:=by rw [<- el];omega
    clear rn em aP eP iv KEY sG el rT HO HF HV
    go_wp2_with fail
    (with_reducible refine (CB.out _).mono ?_)
    rintro en w9 ⟨rfl,e⟩
    subst w9
    by_cases eJ:bo=opp
    ·rw [if_pos eJ] at HN
     have bi:((pn:Int) == (who:Int))=true:=by rw [HQ];simp [eJ]
     clear eJ CB d1 p0 HQ
     go_wp2_with fail
     go_roundw
     case rel=>exact ⟨k,f',os',a7,c7,rfl,by omega,by omega,HN.out,by rw [iz],H8.out.1,H8.out.2.1,H8.out.2.2⟩
     case measure=>simp [intOf]
    ·rw [if_neg eJ] at HN
     have bi:((pn:Int) == (who:Int))=false:=by rw [HQ];simp [eJ]
     clear eJ CB d0 m0 HQ
     by_cases mN:z<0
     ·go_wp2_with fail
      go_roundw
      case rel=>exact ⟨0,f',os',a7,c7,rfl,by omega,by omega,by have h:=HN.out;rw [show (z+1).toNat=0 from by omega] at h;exact h,by rw [iz],H8.out.1,H8.out.2.1,H8.out.2.2⟩
      case measure=>simp [intOf]
     ·have hwz:IntKind.i64.wrap (z+1)=z+1:=qV _ (by omega) (by omega)
      go_wp2_with fail
      go_roundw
      case rel=>exact ⟨(z+1).toNat,f',os',a7,c7,by congr 1;omega,by omega,by omega,HN.out,by rw [iz],H8.out.1,H8.out.2.1,H8.out.2.2⟩
      case measure=>simp [intOf];omega
def kj (v:Pl):Nat->List Int->Int
 | 0,_=>-1
 | k+1,ans=>match v[k]? with
   | none=>-1
   | some x=>if isQ x.1 then (if ans.contains (k:Int) then kj v k ans else (k:Int)) else kj v k (ans++[x.2])
theorem vj {v:Pl} {k:Nat} {m:Bs} {z:Int} (h:v[k]? = some (m,z)) (ans:List Int):kj v (k+1) ans=if isQ m then (if ans.contains (k:Int) then kj v k ans else (k:Int)) else kj v k (ans++[z]):=by
 rw [kj,h]
def setD (ans:List Int):DataW Unit:=ans.foldl (fun D z=>D.put (.int .i64 z) (.lit (.bool true))) (.map [])
theorem setD_snoc (ans:List Int) (z:Int):setD (ans++[z])=(setD ans).put (.int .i64 z) (.lit (.bool true)):=by
 unfold setD;rw [List.foldl_append];rfl
theorem bJ (z:Int):∀ (ans:List Int) (D:DataW Unit) (b:Bool),Maps.IsMap D->D.atKey (.int .i64 z) (.lit (.bool false))=.lit (.bool b)->(ans.foldl (fun D z=>D.put (.int .i64 z) (.lit (.bool true))) D).atKey (.int .i64 z) (.lit (.bool false))=.lit (.bool (b || ans.contains z))
 | [],D,b,_,h=>by simpa using h
 | x::r,D,b,hm,h=>by
   rw [List.foldl_cons]
   by_cases hx:z=x
   ·subst hx
    rw [bJ z r _ true (hm.put _ _) (Maps.atKey_put_same hm (show WideAt.IsKeyLit (.int .i64 z) from trivial) _ _)]
    simp
   ·rw [bJ z r _ b (hm.put _ _) (by rw [Maps.atKey_put_other (by simpa using hx)];exact h)]
    simp [hx]
theorem setD_at (ans:List Int) (z:Int):(setD ans).atKey (.int .i64 z) (.lit (.bool false))=.lit (.bool (ans.contains z)):=by
 unfold setD
 rw [bJ z ans _ false Maps.isMap_empty rfl,Bool.false_or]
theorem ownsMap_bool {P:Program} {k:TypeId} {w:World} {b n:Nat} {D:DataW Unit} {t e:TypeId} (h:w.ownsMap P k (plainElem P e) b n D) (K:Maps.Keyed P k) (ht:P.underlying t=some (.map k e)) (he:P.underlying e=some .bool) (hz:(zeroValue e).run P w=.ok (.bool false) w)
 {key:Value} {kl:Lit} (hkey:keyOf P k key=some kl):∃ c,(Instr.lookup t (.map (some b)) key false).run P w=.ok (.bool c) w/\D.atKey kl (.lit (.bool false))=.lit (.bool c):=by
 obtain ⟨v,ps,lK,hv⟩:=h.lookup K ht hz (plainElem_bool he false) hkey
 unfold plainElem at hv
 rw [he] at hv
 cases v <;> simp at hv
 exact ⟨_,lK,hv.1.symm⟩
theorem Tryz.lawI:Maps.Keyed Tryz.prog 3:=Maps.int_keyed Tryz.underlying3
theorem Tryz.zeroB (w:World):(zeroValue 4).run Tryz.prog w=.ok (.bool false) w:=by kernel_rfl
theorem keyI {z:Int} (h1 : -2000<=z) (h2:z<=1000000):keyOf Tryz.prog 3 (.int .i64 z)=some (.int .i64 z):=Maps.keyOf_int_mk Tryz.underlying3 (WalkArith.wf_i64 ⟨by omega,by omega⟩)
set_option maxRecDepth 100000 in
theorem pending_any (F:Nat->Prop) (t:Ty) (v:Pl) (n:Nat) (mv pt:Value) (w:World) (hm:qC F w v mv) (hp:qB F w v pt) (hv:zO t v=true) (hn:n<=v.length) :
 Calls Tryz.prog 115 #[.agg #[mv,pt],.int .i64 (n:Nat)] w fun en w'=>en=.returned (.int .i64 (kj v n []))/\Below w.heap.size w w':=by
 have dE:=za hv
 obtain ⟨ma,mc,rfl,cb⟩:=hm.cells
 obtain ⟨pa,pc,rfl,dP⟩:=hp.cells
 obtain ⟨W,hW,b9,hz,b0⟩:=kV w (.cells #[.slice ma v.length mc,.slice pa v.length pc] 33)
 obtain ⟨c0,c1,_,_⟩:=zJ b0
 have hwn:IntKind.i64.wrap ((n:Int)-1)=(n:Int)-1:=qV _ (by omega) (by omega)
 have HH:=bz (bj cb (bj dP (bj b9 hv)))
 have HW:=bz hW
 have tr:=@run_makeMap Tryz.prog
 clear hm hp cb dP hz b0 b9 hW hv
 go_enter Tryz.func115,Tryz.ntmps115
 go_upto_region 1 with (fail)
 rw [HW.out]
 go_wp2_with fail
 go_loopw [6] (fun i wr=>∃ (r:Nat) (ans:List Int),i=.int .i64 ((r:Int)-1)/\r+ans.length<=n/\kj v r ans=kj v n []/\wr.ownsMap Tryz.prog 3 (plainElem (H:=Unit) Tryz.prog 4) W.heap.size ans.length (setD ans)/\Below W.heap.size W wr) (fun i _=>(intOf i+1).toNat)
 case atStart=>exact ⟨n,[],rfl,by simp,rfl,World.ownsMap_made _ _ _ _,(bh _ _).alloc (bw _) _⟩
 case round =>
  obtain ⟨r,ans,rfl,tu,nS,ho,hB⟩:=hrel
  have HB:=bz hB;have HP:=bz nS;have HO:=bz ho
  clear hB nS ho
  cases r with
  | zero =>
    have e0:(((0:Nat):Int)-1) = -1:=rfl
    have E:=bz (show kj v n [] = -1 by rw [<- HP.out];rfl)
    rw [e0]
    go_wp2_with fail
    go_ret
    exact ⟨by rw [E.out];rfl,zzT HH.out.2.2.1 HB.out⟩
  | succ k =>
    have ek:(((k+1:Nat):Int)-1)=(k:Int):=by omega
    rw [ek]
    have sK:k<v.length:=by omega
    have AN:(k:Int)<(v.length:Int):=by omega
    obtain ⟨x,p,z,cS,cD⟩:=kQ HH.out.2.2.2 sK
    obtain ⟨mb,mo,rfl,_,dD,dC⟩:=HH.out.1 k _ cS
    obtain ⟨pb,po,rfl,_,dB,dN⟩:=HH.out.2.1 k _ cS
    have hz:=wQ cD
    have oP:IntKind.i64.wrap ((k:Int)-1)=(k:Int)-1:=qV _ (by omega) (by omega)
    obtain ⟨d0,d1,m0,p0⟩:wr.cell? ⟨w.heap.size,0,none⟩=some (.slice (some ⟨mb,mo,none⟩) v.length mc)/\wr.cell? ⟨w.heap.size,1,none⟩=some (.slice (some ⟨pb,po,none⟩) v.length pc)/\wr.cell? ⟨mb,mo+k,none⟩=some (str (x::p))/\wr.cell? ⟨pb,po+k,none⟩=some (.int .i64 z):=by
     have hy:=HB.out
     have fq:=zzT HH.out.2.2.1 hy
     exact ⟨(hy.cell (bp _ _ c0)).trans c0,(hy.cell (bp _ _ c1)).trans c1,(fq.cell (p:=⟨mb,mo+k,none⟩) dD).trans dC,(fq.cell (p:=⟨pb,po+k,none⟩) dB).trans dN⟩
    have CB:=jd x p wr
    have HQ:=vj cS ans
    cases hq:isQ (x::p) with
    | false =>
      rw [hq] at CB HQ
      have E:=bz (HP.out.symm.trans HQ)
      have CB:=bz CB
      have kz:=bz (keyI (z:=z) (by omega) (by omega))
      clear c0 c1 cS cD dD dC dB dN hq HQ
      go_wp2_with fail
      (with_reducible refine CB.out.mono ?_)
      rintro en w9 ⟨rfl,e⟩
      subst w9
      go_wp2_with (at_mapUpdate;refine wpList_mapUpdate_own (H:=Unit) _ rfl _ _ _ 207 rfl 3 4 Tryz.lawI Tryz.underlying207 (plainElem Tryz.prog 4) W.heap.size ans.length _ rfl HO.out (by unfold maxLen;omega) _ _ _ rfl rfl kz.out _ [] (plainElem_bool Tryz.underlying4 true) ?_)
      intro w1 oR Ce
      have rX:Below W.heap.size W w1:=HB.out.trans ((But.ofGrown Ce).toBelow HB.out.size fun i hi e=>by simp at e;omega)
      rw [<- setD_snoc] at oR
      have H1:=bz (bj oR rX)
      clear oR Ce rX d0 d1 m0 p0
      go_wp2_with fail
      go_roundw
      case rel=>exact ⟨k,ans++[z],rfl,by rw [List.length_append];simp;omega,E.out.symm,by rw [List.length_append];exact H1.out.1,H1.out.2⟩
      case measure=>simp [intOf]
    | true =>
      rw [hq] at CB HQ
      obtain ⟨c,lK,hat⟩:=ownsMap_bool HO.out Tryz.lawI Tryz.underlying207 Tryz.underlying4 (Tryz.zeroB _) (keyI (z:=(k:Int)) (by omega) (by omega))
      rw [setD_at] at hat
      obtain rfl:ans.contains (k:Int)=c:=by simpa using hat
      have E:=bz (HP.out.symm.trans HQ)
      have CB:=bz CB
      clear c0 c1 cS cD dD dC dB dN hq HQ hat
      cases hc:ans.contains (k:Int) with
      | true =>
        rw [hc] at lK E
        clear hc
        go_wp2_with fail
        (with_reducible refine CB.out.mono ?_)
        rintro en w9 ⟨rfl,e⟩
        subst w9
        go_wp2_with fail
        go_roundw
        case rel=>exact ⟨k,ans,rfl,by omega,E.out.symm,HO.out,HB.out⟩
        case measure=>simp [intOf]
      | false =>
        rw [hc] at lK E
        clear hc
        go_wp2_with fail
        (with_reducible refine CB.out.mono ?_)
        rintro en w9 ⟨rfl,e⟩
        subst w9
        go_wp2_with fail
        go_ret
        exact ⟨by rw [E.out];rfl,zzT HH.out.2.2.1 HB.out⟩
def IntAt (w:World) (zs:List Int) (x:Value):Prop:=∃ a c,x=.slice a zs.length c/\∀ (i:Nat) (z:Int),zs[i]? = some z->∃ b o,a=some ⟨b,o,none⟩/\b<w.heap.size/\w.cell? ⟨b,o+i,none⟩=some (.int .i64 z)
theorem v9.ints {w:World} {ns:List Nat} {x:Value} (h:v9 w ns x):IntAt w (ns.map fun n=>((n:Nat):Int)) x:=by
 obtain ⟨b,o,c,e,hl,hc⟩:=h
 refine ⟨some ⟨b,o,none⟩,c,by rw [List.length_map];exact e,fun i z hz=>?_⟩
 rw [List.getElem?_map,Option.map_eq_some_iff] at hz
 obtain ⟨n,hn,rfl⟩:=hz
 exact ⟨b,o,rfl,hl,hc i n hn⟩
def zsV (zs:List Int):List Value:=zs.map fun z=>Value.int .i64 z
theorem Own.intAt {w:World} {zs:List Int} {v:Value} (h:Own w 3 1 v zs.length (zsV zs)):IntAt w zs v:=by
 rcases h.2 with ⟨e,h0⟩ | ⟨g,cap,cur,e,_,hg,s_,_,hcs,ht⟩
 ·refine ⟨none,0,by rw [e,h0],fun i z hz=>?_⟩
  have:=(List.getElem?_eq_some_iff.1 hz).1;omega
 ·refine ⟨some ⟨g,0,none⟩,cap,e,fun i z hz=>⟨g,0,rfl,zZ hg,?_⟩⟩
  have oq:=(List.getElem?_eq_some_iff.1 hz).1
  have h2:(zsV zs)[i]? = some (.int .i64 z):=by unfold zsV;rw [List.getElem?_map,hz];rfl
  rw [<- ht,List.getElem?_take,if_pos (by omega),Array.getElem?_toList] at h2
  rw [Nat.zero_add]
  simp only [World.cell?,hg];simpa using h2
theorem take_has {zs:List Int} {k:Nat} {z n:Int} (h:zs[k]? = some z):(zs.take (k+1)).contains n=((zs.take k).contains n || (z == n)):=by
 rw [List.take_add_one,h]
 rw [Bool.eq_iff_iff,List.contains_iff_mem,Bool.or_eq_true,List.contains_iff_mem,beq_iff_eq,List.mem_append,Option.toList_some,List.mem_singleton]
 constructor
 ·rintro (h | h)
  ·exact .inl h
  ·exact .inr h.symm
 ·rintro (h | h)
  ·exact .inl h
  ·exact .inr h.symm
set_option maxRecDepth 20000 in
theorem wb (zs:List Int) (n:Int) (x:Value) (w:World) (h:IntAt w zs x) (hl:zs.length<=1000000) :
 Calls Tryz.prog 125 #[x,.int .i64 n] w fun en w'=>en=.returned (.bool (zs.contains n))/\w'=w:=by
 obtain ⟨a,c,rfl,hat⟩:=h
 have HA:=bz hat
 clear hat
 go_enter Tryz.func125,Tryz.ntmps125
 go_wp2_with fail
 go_loopw [5] (fun i wr=>wr=w/\∃ k:Nat,k<=zs.length/\i=.int .i64 k/\(zs.take k).contains n=false) (fun i _=>zs.length-(intOf i).toNat)
 case atStart=>exact ⟨rfl,0,Nat.zero_le _,rfl,rfl⟩
 case round =>
  obtain ⟨rfl,k,hk,rfl,du⟩:=hrel
  by_cases cQ:k<zs.length
  ·have dU:(k:Int)<(zs.length:Int):=by omega
   obtain ⟨z,hz⟩:∃ z,zs[k]? = some z:=⟨_,List.getElem?_eq_getElem cQ⟩
   obtain ⟨b,o,rfl,_,hc⟩:=HA.out k z hz
   have HT:=bz ((take_has (n:=n) hz).trans (by rw [du,Bool.false_or]))
   clear hz du
   cases io:(z == n) with
   | true =>
     have E:=bz (show zs.contains n=true by
      have h:=HT.out
      rw [io,List.contains_iff_mem] at h
      rw [List.contains_iff_mem];exact List.mem_of_mem_take h)
     clear HT
     go_wp2_with fail
     go_ret
     exact ⟨by rw [E.out];rfl,by first | trivial | rfl⟩
   | false =>
     have E:=bz (HT.out.trans io)
     clear HT
     go_wp2_with fail
     go_roundw
     case rel=>exact ⟨by first | trivial | rfl,k+1,by omega,by go_num,E.out⟩
     case measure=>simp [intOf];omega
  ·obtain rfl:k=zs.length:=by omega
   rw [List.take_length] at du
   have E:=bz du
   clear du
   go_wp2_with fail
   go_ret
   exact ⟨by rw [E.out];rfl,by first | trivial | rfl⟩
theorem q_ne (c:UInt8) (p:Bs):((c.toNat:Int) != 113) = !isQ (c::p):=by
 rw [kf,bne,q_int]
theorem zsV_append (a b:List Int):zsV (a++b)=zsV a++zsV b:=by simp [zsV]
set_option maxRecDepth 100000 in
theorem xJ (F:Nat->Prop) (t:Ty) (v:Pl) (n:Nat) (mv pt:Value) (w:World) (hm:qC F w v mv) (hp:qB F w v pt) (hv:zO t v=true) (hn:n<=v.length) (hl:∀ x∈v,x.1.length<=16777216) :
 Calls Tryz.prog 127 #[.agg #[mv,pt],.int .i64 (n:Nat)] w fun en w'=>en=.returned (.int .i64 (kj v n []))/\Below w.heap.size w w':=by
 have dE:=za hv
 obtain ⟨ma,mc,rfl,cb⟩:=hm.cells
 obtain ⟨pa,pc,rfl,dP⟩:=hp.cells
 obtain ⟨W,hW,b9,hz,b0⟩:=kV w (.cells #[.slice ma v.length mc,.slice pa v.length pc] 33)
 obtain ⟨c0,c1,_,_⟩:=zJ b0
 have hwn:IntKind.i64.wrap ((n:Int)-1)=(n:Int)-1:=qV _ (by omega) (by omega)
 have HH:=bz (bj cb (bj dP (bj b9 (bj hv hl))))
 have HW:=bz hW
 clear hm hp cb dP hz b0 b9 hW hv hl
 go_enter Tryz.func127,Tryz.ntmps127
 go_upto_region 1 with (fail)
 rw [HW.out]
 go_wp2_with fail
 go_loopw [5,6] (fun o i wr=>∃ (r:Nat) (ans:List Int) (a:Option Addr) (c:Nat),i=.int .i64 ((r:Int)-1)/\r+ans.length<=n/\kj v r ans=kj v n []/\o=.slice a ans.length c/\Own wr 3 1 (.slice a ans.length c) ans.length (zsV ans)/\Below W.heap.size W wr/\(∀ g,(Value.slice a ans.length c).ownBlock=some g->W.heap.size<=g)) (fun _ i _=>(intOf i+1).toNat)
 case atStart=>exact ⟨n,[],_,_,rfl,by simp,rfl,rfl,Own.litAt #[] 0 _ rfl (by decide) rfl,(bh _ _).alloc (bw _) _,ga (bw _)⟩
 case round =>
  obtain ⟨r,ans,a,c,rfl,tu,nS,rfl,ho,hB,hf⟩:=hrel
  have HB:=bz hB;have HP:=bz nS;have HO:=bz ho;have HF:=bz hf
  clear hB nS ho hf
  cases r with
  | zero =>
    have e0:(((0:Nat):Int)-1) = -1:=rfl
    have E:=bz (show kj v n [] = -1 by rw [<- HP.out];rfl)
    rw [e0]
    go_wp2_with fail
    go_ret
    exact ⟨by rw [E.out];rfl,zzT HH.out.2.2.1 HB.out⟩
  | succ k =>
    have ek:(((k+1:Nat):Int)-1)=(k:Int):=by omega
    rw [ek]
    have sK:k<v.length:=by omega
    have AN:(k:Int)<(v.length:Int):=by omega
    obtain ⟨x,p,z,cS,cD⟩:=kQ HH.out.2.2.2.1 sK
    obtain ⟨mb,mo,rfl,_,dD,dC⟩:=HH.out.1 k _ cS
    obtain ⟨pb,po,rfl,_,dB,dN⟩:=HH.out.2.1 k _ cS
    have hz:=wQ cD
    have oP:IntKind.i64.wrap ((k:Int)-1)=(k:Int)-1:=qV _ (by omega) (by omega)
    obtain ⟨d0,d1,m0,p0⟩:wr.cell? ⟨w.heap.size,0,none⟩=some (.slice (some ⟨mb,mo,none⟩) v.length mc)/\wr.cell? ⟨w.heap.size,1,none⟩=some (.slice (some ⟨pb,po,none⟩) v.length pc)/\wr.cell? ⟨mb,mo+k,none⟩=some (str (x::p))/\wr.cell? ⟨pb,po+k,none⟩=some (.int .i64 z):=by
     have hy:=HB.out
     have fq:=zzT HH.out.2.2.1 hy
     exact ⟨(hy.cell (bp _ _ c0)).trans c0,(hy.cell (bp _ _ c1)).trans c1,(fq.cell (p:=⟨mb,mo+k,none⟩) dD).trans dC,(fq.cell (p:=⟨pb,po+k,none⟩) dB).trans dN⟩
    have HQ:=vj cS ans
    have cE:=q_ne x p
    obtain ⟨M,hM⟩:=zzM (x::p)
    have d_:0<M.length:=by rw [hM];simp
    have nc:(0:Int)<(M.length:Int):=by omega
    have B0:((((⟨M.toArray⟩:ByteArray)[0]'(kP d_)).toNat:Int))=(x.toNat:Int):=by rw [kr d_];subst hM;rfl
    cases hq:isQ (x::p) with
    | false =>
      rw [hq] at HQ cE
      have E:=bz (HP.out.symm.trans HQ)
      rw [<- hM] at m0
      clear c0 c1 cS cD dD dC dB dN hq HQ hM
      go_wp2_with (at_builtin;refine zC rfl _ _ 31 rfl 3 (.int .i64 0) 1 8 Tryz.underlying31 Tryz.infoInt2 rfl (by decide) (.slice a ans.length c) ans.length (zsV ans) rfl ?c1 _ 1 [.int .i64 z] rfl ?c2 ?c3 ?c4 ?_)
      case c1=>exact HO.out.alloc _
      case c2=>exact zM.litk #[.int .i64 z] rfl (by simp [Value.oneCell']) _ (by rfl)
      case c3=>unfold maxLen;omega
      case c4=>omega
      intro a7 c7 w8 rn em aP
      have sG:=HB.out.size
      have eP:Below W.heap.size W w8:=(HB.out.alloc sG _).trans (em.toBelow (by rw [zK];omega) fun i hi e=>by have:=HF.out i e;omega)
      have iv:∀ g,(Value.slice a7 (ans.length+1) c7).ownBlock=some g->W.heap.size<=g:=fun g hg=>by
       rcases aP g hg with e | e
       ·exact HF.out g e
       ·omega
      have el:ans.length+1=(ans++[z]).length:=by simp
      rw [<- show zsV (ans++[z])=zsV ans++[.int .i64 z] from zsV_append _ _] at rn
      have H8:=bz (bj rn (bj eP iv))
      clear rn em aP eP iv d0 d1 m0 p0
      go_wp2_with fail
      go_roundw
      case rel=>exact ⟨k,ans++[z],a7,c7,rfl,by rw [<- el];omega,E.out.symm,by rw [<- el],by rw [<- el];exact H8.out.1,H8.out.2.1,by rw [<- el];exact H8.out.2.2⟩
      case measure=>simp [intOf]
    | true =>
      rw [hq] at HQ cE
      have E:=bz (HP.out.symm.trans HQ)
      have CH:=bz (wb ans (k:Int) _ wr (Own.intAt HO.out) (by omega))
      rw [<- hM] at m0
      clear c0 c1 cS cD dD dC dB dN hq HQ hM
      cases hc:ans.contains (k:Int) with
      | true =>
        rw [hc] at E CH
        clear hc
        go_wp2_with fail
        (with_reducible refine CH.out.mono ?_)
        rintro en w9 ⟨rfl,e⟩
        subst w9
        go_wp2_with fail
        go_roundw
        case rel=>exact ⟨k,ans,a,c,rfl,by omega,E.out.symm,rfl,HO.out,HB.out,HF.out⟩
        case measure=>simp [intOf]
      | false =>
        rw [hc] at E CH
        clear hc
        go_wp2_with fail
        (with_reducible refine CH.out.mono ?_)
        rintro en w9 ⟨rfl,e⟩
        subst w9
        go_wp2_with fail
        go_ret
        exact ⟨by rw [E.out];rfl,zzT HH.out.2.2.1 HB.out⟩
def ju (p:Nat->Bool):Nat->Bool
 | 0=>true
 | n+1=>ju p n && p n
theorem up {p:Nat->Bool}:∀ {n i:Nat},ju p n=true->i<n->p i=true
 | 0,i,_,hi=>absurd hi (by omega)
 | n+1,i,h,hi=>by
   rw [ju,Bool.and_eq_true] at h
   rcases Nat.lt_or_ge i n with h' | h'
   ·exact up h.1 h'
   ·obtain rfl:i=n:=by omega
    exact h.2
theorem gU {p:Nat->Bool} {n i:Nat} (h:p i=false) (hi:i<n):ju p n=false:=by
 cases hh:ju p n with
 | false=>rfl
 | true=>rw [up hh hi] at h;simp at h
theorem gV {p:Nat->Bool}:∀ {n:Nat},(∀ i,i<n->p i=true)->ju p n=true
 | 0,_=>rfl
 | n+1,h=>by rw [ju,gV (fun i hi=>h i (by omega)),h n (by omega)];rfl
theorem allP_le {p:Nat->Bool} {n m:Nat} (h:ju p n=true) (hm:m<=n):ju p m=true:=gV fun i hi=>up h (by omega)
def vN (v:Pl) (i:Nat):Bool:=if i=0 then true else match v[i]? with
 | none=>true
 | some x=>((zd v (kG x.1) i).map fun n=>((n:Nat):Int)).contains x.2
def y_ (v:Pl) (i:Nat):Bool:=match v[i]? with
 | none=>true
 | some x=>isQ x.1 || x.2 == kj v i []
def ym (v:Pl):Bool:=ju (vN v) v.length
def brP (v:Pl):Bool:=ju (y_ v) v.length
def qO (v:Pl):Bool:=ym v && brP v
theorem uU {v:Pl} {i:Nat} {m:Bs} {z:Int} (h:v[i]? = some (m,z)) (hi:0<i):vN v i=((zd v (kG m) i).map fun n=>((n:Nat):Int)).contains z:=by
 unfold vN;rw [if_neg (by omega),h]
theorem yh {v:Pl} {i:Nat} {m:Bs} {z:Int} (h:v[i]? = some (m,z)):y_ v i=(isQ m || z == kj v i []):=by
 unfold y_;rw [h]
theorem viewP_pos (v:Pl) (opp:Bool) {n:Nat} (hn:0<n):0<(zd v opp n).length:=by
 obtain ⟨k,rfl⟩:∃ k,n=k+1:=⟨n-1,by omega⟩
 unfold zd
 rw [kB,List.length_reverse,List.length_cons];omega
theorem viewD_len (v:Pl) (opp:Bool):∀ f n,(qS v opp f n).length<=f
 | 0,_=>by simp [qS]
 | f+1,0=>by rw [jK];simp
 | f+1,n+1=>by rw [kB,List.length_cons];have:=viewD_len v opp f (jv v opp n);omega
theorem wM (v:Pl) (opp:Bool) (n:Nat):(zd v opp n).length<=n:=by
 unfold zd;rw [List.length_reverse];exact viewD_len v opp n n
theorem contains_view {w:World} {ns:List Nat} {x:Value} (h:v9 w ns x) (hl:ns.length<=1000000) (z:Int) :
 Calls Tryz.prog 113 #[x,.int .i64 z] w fun en w'=>en=.returned (.bool ((ns.map fun n=>((n:Nat):Int)).contains z))/\w'=w:=by
 obtain ⟨b,o,c,rfl,hb,hc⟩:=h
 refine (Tryz.slices_Contains_int b o ns.length c (ns.map fun n=>((n:Nat):Int)) z w (by simp) (by omega) (fun j hj=>?_)).mono ?_
 ·rw [List.length_map] at hj
  rw [hc j ns[j] (List.getElem?_eq_getElem hj),List.getD_eq_getElem?_getD,List.getElem?_map,List.getElem?_eq_getElem hj];rfl
 ·rintro en w' ⟨rfl,e⟩
  exact ⟨by rw [List.take_of_length_le (by simp)],e⟩
structure vK (F:Nat->Prop) (t:Ty) (v:Pl) (mv pt:Value) (w:World):Prop where
 m:qC F w v mv
 p:qB F w v pt
 ok:zO t v=true
 l:∀ x∈v,x.1.length<=16777216
theorem vK.below {F:Nat->Prop} {t:Ty} {v:Pl} {mv pt:Value} {w w':World} (h:vK F t v mv pt w) (hb:Below w.heap.size w w'):vK F t v mv pt w':=⟨Rep.below hb (fun _ h=>h) h.m,Rep.below hb (fun _ h=>h) h.p,h.ok,h.l⟩
set_option maxRecDepth 100000 in
theorem pW (F:Nat->Prop) (t:Ty) (v:Pl) (mv pt:Value) (w:World) (h:vK F t v mv pt w) :
 Calls Tryz.prog 79 #[.agg #[mv,pt]] w fun en w'=>en=.returned (.bool (ym v))/\Below w.heap.size w w':=by
 have dE:=za h.ok
 obtain ⟨ma,mc,rfl,cb⟩:=h.m.cells
 obtain ⟨pa,pc,rfl,dP⟩:=h.p.cells
 obtain ⟨W,hW,b9,hz,b0⟩:=kV w (.cells #[.slice ma v.length mc,.slice pa v.length pc] 33)
 obtain ⟨c0,c1,_,_⟩:=zJ b0
 have HH:=bz (bj cb (bj dP (bj b9 (h.below b9))))
 have HW:=bz hW
 clear h cb dP hz b0 b9 hW
 go_enter Tryz.func79,Tryz.ntmps79
 go_upto_region 1 with (fail)
 rw [HW.out]
 go_wp2_with fail
 go_loopw [3] (fun i wr=>∃ (wz:World) (k:Nat),wz=wr/\1<=k/\k<=v.length+1/\i=.int .i64 k/\ju (vN v) k=true/\Below W.heap.size W wz) (fun i _=>v.length+1-(intOf i).toNat)
 case atStart=>exact ⟨_,1,rfl,bw _,by omega,rfl,rfl,bh _ _⟩
 case round =>
  obtain ⟨wr,k,rfl,hk1,hk,rfl,cF,hB⟩:=hrel
  have d0:=(hB.cell (bp _ _ c0)).trans c0
  have d1:=(hB.cell (bp _ _ c1)).trans c1
  clear c0 c1
  have HB:=bz (bj hB (zzT HH.out.2.2.1 hB))
  clear hB
  by_cases cQ:k<v.length
  ·have dU:(k:Int)<(v.length:Int):=by omega
   obtain ⟨x,p,z,cS,cD⟩:=kQ HH.out.2.2.2.ok cQ
   have cG:=HH.out.2.2.2.l _ (List.mem_of_getElem? cS)
   rw [List.length_cons] at cG
   obtain ⟨mb,mo,rfl,_,dD,dC⟩:=HH.out.1 k _ cS
   obtain ⟨pb,po,rfl,_,dB,dN⟩:=HH.out.2.1 k _ cS
   have m0:=(HB.out.2.cell (p:=⟨mb,mo+k,none⟩) dD).trans dC
   have p0:=(HB.out.2.cell (p:=⟨pb,po+k,none⟩) dB).trans dN
   have PLR:=bz (fun (y:World) (hy:Below wr.heap.size wr y)=>(HH.out.2.2.2.below HB.out.1).below hy)
   have VK:=uU cS (by omega)
   have CB:=bz (vp x p (show p.length<=16777216 by omega))
   obtain ⟨bo,eJ⟩:=zzN (kG (x::p))
   rw [eJ] at VK CB
   obtain ⟨cn,fE⟩:=zzN (vN v k)
   rw [fE] at VK
   have CV:=bz (fun (y:World) (hy:Below wr.heap.size wr y)=>gF F t v bo k _ _ y (PLR.out y hy).m (PLR.out y hy).p HH.out.2.2.2.ok (by omega) (by omega) HH.out.2.2.2.l)
   have HV:=bz (bj VK (bj fE (bj cF cQ)))
   have KEY:=bz (fun (y:World) (hy:Below wr.heap.size wr y)=>(show y.cell? ⟨w.heap.size,0,none⟩=some (.slice (some ⟨mb,mo,none⟩) v.length mc)/\y.cell? ⟨w.heap.size,1,none⟩=some (.slice (some ⟨pb,po,none⟩) v.length pc)/\y.cell? ⟨mb,mo+k,none⟩=some (str (x::p))/\y.cell? ⟨pb,po+k,none⟩=some (.int .i64 z) from
    ⟨(hy.cell (bp _ _ d0)).trans d0,(hy.cell (bp _ _ d1)).trans d1,(hy.cell (bp _ _ m0)).trans m0,(hy.cell (bp _ _ p0)).trans p0⟩))
   clear cS cD cG dD dC dB dN eJ fE VK cF
   go_upto_region 4 with (fail)
   clear d0 d1 m0 p0
   refine wp_region_noPanic ?_
   refine zW (fun w'=>Below wr.heap.size wr w') (fun _=>false) (by kernel_rfl) ?_
   have cZ:(fun w'=>Below wr.heap.size wr w') wr.drew:=Below.drew (bh _ _)
   refine tk [0,1,2] cZ ?_
   (intro d hd;simp [tkD] at hd;subst hd;simp only [tks,pQ,pZ,pS])
   iterate 3 (refine ⟨?_,?_,?_⟩;rotate_left;· (intro oi ho;simp at ho;subst ho;refine Or.inl ⟨by rfl,fun w' b_=>?_⟩;have e0:=(KEY.out w' b_).1;have e1:=(KEY.out w' b_).2.1;go_simp;try with_reducible rfl))
   refine tk [3,4,5] cZ ?_
   (intro d hd;simp [tkD] at hd;subst hd;simp only [tks,pQ,pZ,pS])
   iterate 3 (refine ⟨?_,?_,?_⟩;rotate_left;· (intro oi ho;simp at ho;subst ho;refine Or.inl ⟨by rfl,fun w' b_=>?_⟩;have e0:=(KEY.out w' b_).1;go_simp;try with_reducible rfl))
   refine tk [6,9] cZ ?_
   (intro d hd;simp [tkD] at hd;subst hd;simp only [tks,pQ,pZ,pS])
   iterate 2 (refine ⟨?_,?_,?_⟩;rotate_left;· (intro oi ho;simp at ho;subst ho;refine Or.inl ⟨by rfl,fun w' b_=>?_⟩;have e0:=(KEY.out w' b_).2.2.1;go_simp;try with_reducible rfl))
   refine tk [10,11,12] cZ ?_
   (intro d hd;simp [tkD] at hd;subst hd;simp only [tks,pQ,pZ,pS])
   iterate 3 (refine ⟨?_,?_,?_⟩;rotate_left;· (intro oi ho;simp at ho;subst ho;refine Or.inl ⟨by rfl,fun w' b_=>?_⟩;have e0:=(KEY.out w' b_).2.1;go_simp;try with_reducible rfl))
   refine tk [13] cZ ?_
   (intro d hd;simp [tkD] at hd;subst hd;simp only [tks,pQ,pZ,pS])
   (refine ⟨?_,?_,?_⟩;rotate_left;· (intro oi ho;simp at ho;subst ho;refine Or.inl ⟨by rfl,fun w' b_=>?_⟩;have e0:=(KEY.out w' b_).2.2.2;go_simp;try with_reducible rfl))
   (refine on 7 ?_;intro o ho K' hK;simp at ho;subst ho;go_simp)
   go_at_call 94
   (with_reducible refine (CB.out _).mono ?_)
   rintro en x7 ⟨rfl,e⟩
   subst x7
   (refine hK.out _ _ (fun _=>cZ) ?_;clear hK K';try simp only [pQ,pN,pZ,pS])
   (refine on 8 ?_;intro o ho K' hK;simp at ho;subst ho;go_simp)
   go_at_call 54
   (with_reducible refine (CV.out _ cZ).mono ?_)
   rintro en x8 ⟨xv,rfl,em,D7⟩
   have eP:Below wr.heap.size wr x8:=zzT cZ em
   have CC:=contains_view D7 (by have:=wM v bo k;omega) z
   rw [<- HV.out.1] at CC
   (refine hK.out _ _ (fun _=>eP) ?_;clear hK K';try simp only [pQ,pN,pZ,pS])
   (refine on 14 ?_;intro o ho K' hK;simp at ho;subst ho;go_simp)
   go_at_call 113
   (with_reducible refine CC.mono ?_)
   rintro en Ag ⟨rfl,e⟩
   subst Ag
   clear CC
   (refine hK.out _ _ (fun _=>eP) ?_;clear hK K';try simp only [pQ,pN,pZ,pS])
   have lj:=eP
   refine tk [15] lj ?_
   (intro d hd;simp [tkD] at hd;subst hd;simp only [tks,pQ,pZ,pS])
   (refine ⟨?_,?_,?_⟩;rotate_left;· (intro oi ho;simp at ho;subst ho;refine Or.inl ⟨by rfl,fun w' b_=>?_⟩;go_simp;try with_reducible rfl))
   refine zU (by kernel_rfl) (NoPanic.normal ?_) _
   have rW:=bz eP
   clear eP em D7 cZ lj KEY CV CB PLR
   cases cn with
   | true =>
     have E:=bz (show ju (vN v) (k+1)=true by rw [ju,HV.out.2.2.1,HV.out.2.1];rfl)
     go_wp2_with fail
     go_roundw
     case rel=>exact ⟨_,k+1,rfl,by omega,by omega,by go_num,E.out,zzT HB.out.1 rW.out⟩
     case measure=>simp [intOf];omega
   | false =>
     have E:=bz (show ym v=false from gU HV.out.2.1 HV.out.2.2.2)
     go_wp2_with fail
     go_ret
     exact ⟨by rw [E.out];rfl,zzT HB.out.2 rW.out⟩
  ·have E:=bz (show ym v=true from allP_le cF (by omega))
   have dU:¬ (k:Int)<(v.length:Int):=by omega
   clear cF
   go_wp2_with fail
   go_ret
   exact ⟨by rw [E.out];rfl,HB.out.2⟩
end Go.Proofs.YtfedjhgaeikjmaaGreatDoor

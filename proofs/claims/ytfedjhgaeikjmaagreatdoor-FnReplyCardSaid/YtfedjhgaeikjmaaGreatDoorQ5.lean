/- Walks of functions that the statement reaches, and plain words. No conditions. -/
import Derived.Test.YtfedjhgaeikjmaaGreatDoorQ4
set_option linter.unusedVariables false
set_option linter.unusedSimpArgs false
set_option maxHeartbeats 4000000
namespace Go.Proofs.YtfedjhgaeikjmaaGreatDoor
open Go.RowKit
theorem Tryz.infoInt2:(Tryz.prog.info? 3).map (fun i=>(i.zero,i.size,i.bytes))=some (some (.int .i64 0),1,8):=by kernel_rfl
theorem Tryz.infoStr2:(Tryz.prog.info? 9).map (fun i=>(i.zero,i.size,i.bytes))=some (some (str []),1,16):=by kernel_rfl
def WithPost (n m:Nat) (xs ys:List Value) (s:Bs) (p:Int) (w:World) (en:Ending) (w':World):Prop :=
 ∃ a1 c1 a2 c2,en=.returned (.agg #[.slice a1 (n+1) c1,.slice a2 (m+1) c2])/\Below w.heap.size w w'/\Own w' 9 1 (.slice a1 (n+1) c1) (n+1) (xs++[str s])/\Own w' 3 1 (.slice a2 (m+1) c2) (m+1) (ys++[.int .i64 p]) /\
   (∀ g,(Value.slice a1 (n+1) c1).ownBlock=some g->w.heap.size<=g)/\(∀ g,(Value.slice a2 (m+1) c2).ownBlock=some g->w.heap.size<=g)
structure WI (n m:Nat) (mv pt:Value) (xs ys:List Value) (s:Bs) (p:Int) (w W0:World) (b:Nat->Bool) (t7 t8 t9 e_ fI fW fX fY fL fU eo fA fV t20 t21:Value) (tag:Nat->Nat) (wr:World):Prop where
 f1:b 1=true->t8=.pointer (some ⟨w.heap.size,0,none⟩)
 f2:b 2=true->t9=mv
 f4:b 4=true->fI=str s
 f8:b 8=true->fL=.pointer (some ⟨w.heap.size,1,none⟩)
 f9:b 9=true->fU=pt
 f11:b 11=true->fA=.int .i64 p
 f14:b 14=true->t21=.agg #[fX,t20]
 g14:b 14=true->b 6=true/\b 13=true
 g15:b 15=true->∀ k,k<15->b k=true
 r1:kq W0.heap.size tag 1 2 9 n xs (str s) (b 0) (b 3) (b 5) (b 6) t7 e_ fW fX wr
 r2:kq W0.heap.size tag 3 4 3 m ys (.int .i64 p) (b 7) (b 10) (b 12) (b 13) fY eo fV t20 wr
 w0:b 15=false->Below W0.heap.size W0 wr
 w1:b 15=true->But (· = w.heap.size+1) W0 wr/\wr.heap[w.heap.size+1]? = some (.cells #[fX,t20] 33 (0,0))
theorem WI.not15 {n m:Nat} {mv pt:Value} {xs ys:List Value} {s:Bs} {p:Int} {w W0:World} {b:Nat->Bool} {t7 t8 t9 e_ fI fW fX fY fL fU eo fA fV t20 t21:Value} {tag:Nat->Nat} {wr:World} (h:WI n m mv pt xs ys s p w W0 b t7 t8 t9 e_ fI fW fX fY fL fU eo fA fV t20 t21 tag wr) {i:Nat} (hi:i<15) (hb:b i=false):b 15=false:=by
 cases cJ:b 15 with
 | false=>rfl
 | true=>have:=h.g15 cJ i hi;rw [hb] at this;exact this.symm
def actW (mv pt:Value) (s:Bs) (p:Int) (B:Nat) (t7 t8 t9 e_ fI fW fX fY fL fU eo fA fV t20 t21:Value):Act :=
 { tmps:=#[.agg #[mv,pt],str s,.int .i64 p,.pointer (some ⟨B,0,none⟩),undef,undef,.pointer (some ⟨B+1,0,none⟩),t7,t8,t9,e_,fI,fW,fX,fY,fL,fU,eo,fA,fV,t20,t21],defers:=[] }
def WIA (n m:Nat) (mv pt:Value) (xs ys:List Value) (s:Bs) (p:Int) (w W0:World) (b:Nat->Bool) (a:Act) (wr:World):Prop :=
 ∃ t7 t8 t9 e_ fI fW fX fY fL fU eo fA fV t20 t21 tag,a=actW mv pt s p w.heap.size t7 t8 t9 e_ fI fW fX fY fL fU eo fA fV t20 t21/\WI n m mv pt xs ys s p w W0 b t7 t8 t9 e_ fI fW fX fY fL fU eo fA fV t20 t21 tag wr
set_option maxRecDepth 100000 in
theorem l2With_any (n m:Nat) (mv pt:Value) (xs ys:List Value) (s:Bs) (p:Int) (w:World) (hx:zM 1 mv n xs w) (hy:zM 1 pt m ys w) (hn:n<=1000000) (hm:m<=1000000) :
 Calls Tryz.prog 92 #[.agg #[mv,pt],str s,.int .i64 p] w (WithPost n m xs ys s p w):=by
 obtain ⟨ma,mc,rfl⟩:=hx.slice1
 obtain ⟨pa,pc,rfl⟩:=hy.slice1
 have HX:=bz hx;have HY:=bz hy;clear hx hy
 go_enter Tryz.func92,Tryz.ntmps92
 go_wp2_with fail
 rename_i K0 hK0
 obtain ⟨W0,fR⟩:=zzN ((w.alloc (.cells #[.slice ma n mc,.slice pa m pc] 33)).alloc (.cells #[.slice none 0 0,.slice none 0 0] 33))
 rw [fR]
 have z0:W0.heap.size=w.heap.size+1+1:=by rw [<- fR];simp
 have eI:Below w.heap.size w W0:=by rw [<- fR];exact ((bh _ _).alloc (bw _) _).alloc (by rw [zK];omega) _
 have c0:W0.cell? ⟨w.heap.size,0,none⟩=some (.slice ma n mc):=by rw [<- fR];simp
 have c1:W0.cell? ⟨w.heap.size,1,none⟩=some (.slice pa m pc):=by rw [<- fR];simp
 have h6:W0.heap[w.heap.size+1]? = some (.cells #[.slice none 0 0,.slice none 0 0] 33 (0,0)):=by rw [<- fR];have:=zR (w.alloc (.cells #[.slice ma n mc,.slice pa m pc] 33)) (.cells #[.slice none 0 0,.slice none 0 0] 33);rwa [zK] at this
 clear fR
 refine wp_region_any (by kernel_rfl) ?_
 refine wpAny_inv (I:=WIA n m (.slice ma n mc) (.slice pa m pc) xs ys s p w W0) ?acy ?step ?done _ _ _ _ rfl ?cnt ?start
 case cnt=>decide
 case acy=>exact acy_of (by kernel_rfl)
 case start =>
  refine ⟨undef,undef,undef,undef,undef,undef,undef,undef,undef,undef,undef,undef,undef,undef,undef,fun _=>0,rfl,?_⟩
  have hf:∀ k,yC (Array.replicate 16 false) k=false:=fun k=>by
   unfold yC
   rw [Array.getD_eq_getD_getElem?,Array.getElem?_replicate]
   split <;> rfl
  have key:∀ b:Nat->Bool,(∀ k,b k=false)->WI n m (.slice ma n mc) (.slice pa m pc) xs ys s p w W0 b undef undef undef undef undef undef undef undef undef undef undef undef undef undef undef (fun _=>0) W0.drew:=by
   intro b hf
   refine { f1:=fun h=>?_,f2:=fun h=>?_,f4:=fun h=>?_,f8:=fun h=>?_,f9:=fun h=>?_,f11:=fun h=>?_,f14:=fun h=>?_,g14:=fun h=>?_,g15:=fun h=>?_,r1:=?_,r2:=?_,w0:=fun _=>(bh _ _).drew,w1:=fun h=>?_ }
   case refine_10=>rw [hf,hf,hf,hf];exact kq.start _ _ _ _ _ _ _ _ _ _ _ _ _
   case refine_11=>rw [hf,hf,hf,hf];exact kq.start _ _ _ _ _ _ _ _ _ _ _ _ _
   all_goals (rw [hf] at h;cases h)
  exact key _ hf
 case done =>
  rintro b a wr cF ⟨t7,t8,t9,e_,fI,fW,fX,fY,fL,fU,eo,fA,fV,t20,t21,tag,rfl,hI⟩
  obtain ⟨cR,dw⟩:=hI.w1 (cF 15 (by decide))
  have R1:=hI.r1.c' (cF 6 (by decide))
  have R2:=hI.r2.c' (cF 13 (by decide))
  obtain ⟨iu,iH,FQ⟩:=R1.1.slice
  obtain ⟨a20,iG,FP⟩:=R2.1.slice
  subst FQ;subst FP
  obtain ⟨u0,u1,_,_⟩:=cells2 dw
  refine hK0 _ _ ?_
  clear hK0
  unfold actW
  have HF:=bz (bj cR (bj R1 R2));clear cR R1 R2 hI dw
  go_wp2_with fail
  refine bodyPost_ret (v:=.agg #[.slice iu (n+1) iH,.slice a20 (m+1) iG]) (by simp [results,Tryz.results92,go_sem,u0,u1]) rfl ?_
  obtain ⟨cR,R1,R2⟩:=HF.out
  exact ⟨iu,iH,a20,iG,rfl,eI.trans (cR.toBelow (by omega) fun i hi e=>by omega),R1.1,R2.1,fun g hg=>by have:=(R1.2 g hg).2;omega,fun g hg=>by have:=(R2.2 g hg).2;omega⟩
 case step =>
  rintro b a wr i o ho hb cw ⟨t7,t8,t9,e_,fI,fW,fX,fY,fL,fU,eo,fA,fV,t20,t21,tag,rfl,hI⟩ K' hK
  unfold actW at *
  rcases i with _ | _ | _ | _ | _ | _ | _ | _ | _ | _ | _ | _ | _ | _ | _ | _ | i
  ·simp at ho;subst ho
   have cJ:=hI.not15 (i:=0) (by omega) hb
   have hB:W0.heap.size<=wr.heap.size:=(hI.w0 cJ).size
   go_simp
   exact hK _ _ ⟨.slice (some ⟨wr.heap.size,0,none⟩) 0 0,t8,t9,e_,fI,fW,fX,fY,fL,fU,eo,fA,fV,t20,t21,zS tag wr.heap.size 1,rfl,{ f1:=hI.f1,f2:=hI.f2,f4:=hI.f4,f8:=hI.f8,f9:=hI.f9,f11:=hI.f11,f14:=hI.f14,g14:=hI.g14,g15:=fun h=>absurd h (by rw [show set1 b 0 15=b 15 from rfl,cJ];decide),r1:=hI.r1.stepA hB,r2:=hI.r2.alloc _ 1,w0:=fun _=>(hI.w0 cJ).alloc hB _,w1:=fun h=>absurd h (by rw [show set1 b 0 15=b 15 from rfl,cJ];decide) }⟩
  ·simp at ho;subst ho
   have cJ:=hI.not15 (i:=1) (by omega) hb
   have hB:W0.heap.size<=wr.heap.size:=(hI.w0 cJ).size
   go_simp
   exact hK _ _ ⟨t7,.pointer (some ⟨w.heap.size,0,none⟩),t9,e_,fI,fW,fX,fY,fL,fU,eo,fA,fV,t20,t21,tag,rfl,{ f1:=fun _=>rfl,f2:=hI.f2,f4:=hI.f4,f8:=hI.f8,f9:=hI.f9,f11:=hI.f11,f14:=hI.f14,g14:=hI.g14,g15:=fun h=>absurd h (by rw [show set1 b 1 15=b 15 from rfl,cJ];decide),r1:=hI.r1,r2:=hI.r2,w0:=fun _=>hI.w0 cJ,w1:=fun h=>absurd h (by rw [show set1 b 1 15=b 15 from rfl,cJ];decide) }⟩
  ·simp at ho;subst ho
   simp [Region.binds] at cw
   have cJ:=hI.not15 (i:=2) (by omega) hb
   have hB:W0.heap.size<=wr.heap.size:=(hI.w0 cJ).size
   have q8:=hI.f1 cw
   have q0:wr.cell? ⟨w.heap.size,0,none⟩=some (.slice ma n mc):=((hI.w0 cJ).cell (p:=⟨w.heap.size,0,none⟩) (by rw [z0];show w.heap.size<_;omega)).trans c0
   go_simp
   exact hK _ _ ⟨t7,.pointer (some ⟨w.heap.size,0,none⟩),.slice ma n mc,e_,fI,fW,fX,fY,fL,fU,eo,fA,fV,t20,t21,tag,rfl,{ f1:=fun _=>rfl,f2:=fun _=>rfl,f4:=hI.f4,f8:=hI.f8,f9:=hI.f9,f11:=hI.f11,f14:=hI.f14,g14:=hI.g14,g15:=fun h=>absurd h (by rw [show set1 b 2 15=b 15 from rfl,cJ];decide),r1:=hI.r1,r2:=hI.r2,w0:=fun _=>hI.w0 cJ,w1:=fun h=>absurd h (by rw [show set1 b 2 15=b 15 from rfl,cJ];decide) }⟩
  ·simp at ho;subst ho
   simp [Region.binds] at cw
   have cJ:=hI.not15 (i:=3) (by omega) hb
   have hB:W0.heap.size<=wr.heap.size:=(hI.w0 cJ).size
   obtain ⟨⟨g,e7⟩,dI⟩:=hI.r1.a cw.1 hb
   have nR:=dI
   rw [e7] at nR
   have q9:=hI.f2 cw.2
   refine zq (by rfl) (.tmp 7) (.tmp 9) 30 (by rfl) 9 (str []) 1 16 Tryz.underlying30 Tryz.infoStr2 rfl (by decide) (.slice (some ⟨g,0,none⟩) 0 0) 0 [] e7 nR.1 (.slice ma n mc) n xs q9 ((HX.out.belowAll eI (bw _)).belowAll (hI.w0 cJ) (bw _)) (by unfold maxLen;omega) (by omega) ?_
   intro a' c' w' ho cR hg
   rw [<- e7] at cR hg
   simp only [Nat.zero_add,List.nil_append] at ho hg ⊢
   exact hK _ _ ⟨t7,t8,t9,.slice a' n c',fI,fW,fX,fY,fL,fU,eo,fA,fV,t20,t21,zS tag wr.heap.size 1,rfl,{ f1:=hI.f1,f2:=hI.f2,f4:=hI.f4,f8:=hI.f8,f9:=hI.f9,f11:=hI.f11,f14:=hI.f14,g14:=hI.g14,g15:=fun h=>absurd h (by rw [show set1 b 3 15=b 15 from rfl,cJ];decide),r1:=hI.r1.stepC cw.1 hb (by decide) hB ho cR hg,r2:=hI.r2.but cR (fun k e=>by rw [(dI.2 k e).1];decide) 1,w0:=fun _=>(hI.w0 cJ).trans (cR.toBelow hB fun k hk e=>by have:=(dI.2 k e).2;omega),w1:=fun h=>absurd h (by rw [show set1 b 3 15=b 15 from rfl,cJ];decide) }⟩
  ·simp at ho;subst ho
   have cJ:=hI.not15 (i:=4) (by omega) hb
   have hB:W0.heap.size<=wr.heap.size:=(hI.w0 cJ).size
   go_simp
   exact hK _ _ ⟨t7,t8,t9,e_,str s,fW,fX,fY,fL,fU,eo,fA,fV,t20,t21,tag,rfl,{ f1:=hI.f1,f2:=hI.f2,f4:=fun _=>rfl,f8:=hI.f8,f9:=hI.f9,f11:=hI.f11,f14:=hI.f14,g14:=hI.g14,g15:=fun h=>absurd h (by rw [show set1 b 4 15=b 15 from rfl,cJ];decide),r1:=hI.r1,r2:=hI.r2,w0:=fun _=>hI.w0 cJ,w1:=fun h=>absurd h (by rw [show set1 b 4 15=b 15 from rfl,cJ];decide) }⟩
  ·simp at ho;subst ho
   simp [Region.binds] at cw
   have cJ:=hI.not15 (i:=5) (by omega) hb
   have hB:W0.heap.size<=wr.heap.size:=(hI.w0 cJ).size
   have q11:=hI.f4 cw
   go_simp
   exact hK _ _ ⟨t7,t8,t9,e_,str s,.slice (some ⟨wr.heap.size,0,none⟩) 1 1,fX,fY,fL,fU,eo,fA,fV,t20,t21,zS tag wr.heap.size 2,rfl,{ f1:=hI.f1,f2:=hI.f2,f4:=fun _=>rfl,f8:=hI.f8,f9:=hI.f9,f11:=hI.f11,f14:=hI.f14,g14:=hI.g14,g15:=fun h=>absurd h (by rw [show set1 b 5 15=b 15 from rfl,cJ];decide),r1:=hI.r1.stepA' hB,r2:=hI.r2.alloc _ 2,w0:=fun _=>(hI.w0 cJ).alloc hB _,w1:=fun h=>absurd h (by rw [show set1 b 5 15=b 15 from rfl,cJ];decide) }⟩
  ·simp at ho;subst ho
   simp [Region.binds] at cw
   have cJ:=hI.not15 (i:=6) (by omega) hb
   have hB:W0.heap.size<=wr.heap.size:=(hI.w0 cJ).size
   have dI:=hI.r1.c cw.1 hb
   obtain ⟨⟨g,FR⟩,fc⟩:=hI.r1.a' cw.2.1 hb
   rw [FR] at fc
   refine zq (by rfl) (.tmp 10) (.tmp 12) 30 (by rfl) 9 (str []) 1 16 Tryz.underlying30 Tryz.infoStr2 rfl (by decide) e_ n xs rfl dI.1 (.slice (some ⟨g,0,none⟩) 1 1) 1 [str s] FR (fc.1.src1 (by simp [Value.oneCell'])) (by unfold maxLen;omega) (by omega) ?_
   intro a' c' w' ho cR hg
   exact hK _ _ ⟨t7,t8,t9,e_,fI,fW,.slice a' (n+1) c',fY,fL,fU,eo,fA,fV,t20,t21,zS tag wr.heap.size 1,rfl,{ f1:=hI.f1,f2:=hI.f2,f4:=hI.f4,f8:=hI.f8,f9:=hI.f9,f11:=hI.f11,f14:=fun h=>absurd (hI.g14 h).1 (by rw [hb];decide),g14:=fun h=>⟨rfl,(hI.g14 h).2⟩,g15:=fun h=>absurd h (by rw [show set1 b 6 15=b 15 from rfl,cJ];decide),r1:=hI.r1.stepC' cw.1 hb hB ho hg,r2:=hI.r2.but cR (fun k e=>by rw [(dI.2 k e).1];decide) 1,w0:=fun _=>(hI.w0 cJ).trans (cR.toBelow hB fun k hk e=>by have:=(dI.2 k e).2;omega),w1:=fun h=>absurd h (by rw [show set1 b 6 15=b 15 from rfl,cJ];decide) }⟩
  ·simp at ho;subst ho
   have cJ:=hI.not15 (i:=7) (by omega) hb
   have hB:W0.heap.size<=wr.heap.size:=(hI.w0 cJ).size
   go_simp
   exact hK _ _ ⟨t7,t8,t9,e_,fI,fW,fX,.slice (some ⟨wr.heap.size,0,none⟩) 0 0,fL,fU,eo,fA,fV,t20,t21,zS tag wr.heap.size 3,rfl,{ f1:=hI.f1,f2:=hI.f2,f4:=hI.f4,f8:=hI.f8,f9:=hI.f9,f11:=hI.f11,f14:=hI.f14,g14:=hI.g14,g15:=fun h=>absurd h (by rw [show set1 b 7 15=b 15 from rfl,cJ];decide),r1:=hI.r1.alloc _ 3,r2:=hI.r2.stepA hB,w0:=fun _=>(hI.w0 cJ).alloc hB _,w1:=fun h=>absurd h (by rw [show set1 b 7 15=b 15 from rfl,cJ];decide) }⟩
  ·simp at ho;subst ho
   have cJ:=hI.not15 (i:=8) (by omega) hb
   have hB:W0.heap.size<=wr.heap.size:=(hI.w0 cJ).size
   go_simp
   exact hK _ _ ⟨t7,t8,t9,e_,fI,fW,fX,fY,.pointer (some ⟨w.heap.size,1,none⟩),fU,eo,fA,fV,t20,t21,tag,rfl,{ f1:=hI.f1,f2:=hI.f2,f4:=hI.f4,f8:=fun _=>rfl,f9:=hI.f9,f11:=hI.f11,f14:=hI.f14,g14:=hI.g14,g15:=fun h=>absurd h (by rw [show set1 b 8 15=b 15 from rfl,cJ];decide),r1:=hI.r1,r2:=hI.r2,w0:=fun _=>hI.w0 cJ,w1:=fun h=>absurd h (by rw [show set1 b 8 15=b 15 from rfl,cJ];decide) }⟩
  ·simp at ho;subst ho
   simp [Region.binds] at cw
   have cJ:=hI.not15 (i:=9) (by omega) hb
   have hB:W0.heap.size<=wr.heap.size:=(hI.w0 cJ).size
   have q8:=hI.f8 cw
   have q0:wr.cell? ⟨w.heap.size,1,none⟩=some (.slice pa m pc):=((hI.w0 cJ).cell (p:=⟨w.heap.size,1,none⟩) (by rw [z0];show w.heap.size<_;omega)).trans c1
   go_simp
   exact hK _ _ ⟨t7,t8,t9,e_,fI,fW,fX,fY,.pointer (some ⟨w.heap.size,1,none⟩),.slice pa m pc,eo,fA,fV,t20,t21,tag,rfl,{ f1:=hI.f1,f2:=hI.f2,f4:=hI.f4,f8:=fun _=>rfl,f9:=fun _=>rfl,f11:=hI.f11,f14:=hI.f14,g14:=hI.g14,g15:=fun h=>absurd h (by rw [show set1 b 9 15=b 15 from rfl,cJ];decide),r1:=hI.r1,r2:=hI.r2,w0:=fun _=>hI.w0 cJ,w1:=fun h=>absurd h (by rw [show set1 b 9 15=b 15 from rfl,cJ];decide) }⟩
  ·simp at ho;subst ho
   simp [Region.binds] at cw
   have cJ:=hI.not15 (i:=10) (by omega) hb
   have hB:W0.heap.size<=wr.heap.size:=(hI.w0 cJ).size
   obtain ⟨⟨g,e7⟩,dI⟩:=hI.r2.a cw.1 hb
   have nR:=dI
   rw [e7] at nR
   have q9:=hI.f9 cw.2.1
   refine zq (by rfl) (.tmp 14) (.tmp 16) 31 (by rfl) 3 (.int .i64 0) 1 8 Tryz.underlying31 Tryz.infoInt2 rfl (by decide) (.slice (some ⟨g,0,none⟩) 0 0) 0 [] e7 nR.1 (.slice pa m pc) m ys q9 ((HY.out.belowAll eI (bw _)).belowAll (hI.w0 cJ) (bw _)) (by unfold maxLen;omega) (by omega) ?_
   intro a' c' w' ho cR hg
   rw [<- e7] at cR hg
   simp only [Nat.zero_add,List.nil_append] at ho hg ⊢
   exact hK _ _ ⟨t7,t8,t9,e_,fI,fW,fX,fY,fL,fU,.slice a' m c',fA,fV,t20,t21,zS tag wr.heap.size 3,rfl,{ f1:=hI.f1,f2:=hI.f2,f4:=hI.f4,f8:=hI.f8,f9:=hI.f9,f11:=hI.f11,f14:=hI.f14,g14:=hI.g14,g15:=fun h=>absurd h (by rw [show set1 b 10 15=b 15 from rfl,cJ];decide),r1:=hI.r1.but cR (fun k e=>by rw [(dI.2 k e).1];decide) 3,r2:=hI.r2.stepC cw.1 hb (by decide) hB ho cR hg,w0:=fun _=>(hI.w0 cJ).trans (cR.toBelow hB fun k hk e=>by have:=(dI.2 k e).2;omega),w1:=fun h=>absurd h (by rw [show set1 b 10 15=b 15 from rfl,cJ];decide) }⟩
  ·simp at ho;subst ho
   have cJ:=hI.not15 (i:=11) (by omega) hb
   have hB:W0.heap.size<=wr.heap.size:=(hI.w0 cJ).size
   go_simp
   exact hK _ _ ⟨t7,t8,t9,e_,fI,fW,fX,fY,fL,fU,eo,.int .i64 p,fV,t20,t21,tag,rfl,{ f1:=hI.f1,f2:=hI.f2,f4:=hI.f4,f8:=hI.f8,f9:=hI.f9,f11:=fun _=>rfl,f14:=hI.f14,g14:=hI.g14,g15:=fun h=>absurd h (by rw [show set1 b 11 15=b 15 from rfl,cJ];decide),r1:=hI.r1,r2:=hI.r2,w0:=fun _=>hI.w0 cJ,w1:=fun h=>absurd h (by rw [show set1 b 11 15=b 15 from rfl,cJ];decide) }⟩
  ·simp at ho;subst ho
   simp [Region.binds] at cw
   have cJ:=hI.not15 (i:=12) (by omega) hb
   have hB:W0.heap.size<=wr.heap.size:=(hI.w0 cJ).size
   have q11:=hI.f11 cw
   go_simp
   exact hK _ _ ⟨t7,t8,t9,e_,fI,fW,fX,fY,fL,fU,eo,.int .i64 p,.slice (some ⟨wr.heap.size,0,none⟩) 1 1,t20,t21,zS tag wr.heap.size 4,rfl,{ f1:=hI.f1,f2:=hI.f2,f4:=hI.f4,f8:=hI.f8,f9:=hI.f9,f11:=fun _=>rfl,f14:=hI.f14,g14:=hI.g14,g15:=fun h=>absurd h (by rw [show set1 b 12 15=b 15 from rfl,cJ];decide),r1:=hI.r1.alloc _ 4,r2:=hI.r2.stepA' hB,w0:=fun _=>(hI.w0 cJ).alloc hB _,w1:=fun h=>absurd h (by rw [show set1 b 12 15=b 15 from rfl,cJ];decide) }⟩
  ·simp at ho;subst ho
   simp [Region.binds] at cw
   have cJ:=hI.not15 (i:=13) (by omega) hb
   have hB:W0.heap.size<=wr.heap.size:=(hI.w0 cJ).size
   have dI:=hI.r2.c cw.1 hb
   obtain ⟨⟨g,FR⟩,fc⟩:=hI.r2.a' cw.2.1 hb
   rw [FR] at fc
   refine zq (by rfl) (.tmp 17) (.tmp 19) 31 (by rfl) 3 (.int .i64 0) 1 8 Tryz.underlying31 Tryz.infoInt2 rfl (by decide) eo m ys rfl dI.1 (.slice (some ⟨g,0,none⟩) 1 1) 1 [.int .i64 p] FR (fc.1.src1 (by simp [Value.oneCell'])) (by unfold maxLen;omega) (by omega) ?_
   intro a' c' w' ho cR hg
   exact hK _ _ ⟨t7,t8,t9,e_,fI,fW,fX,fY,fL,fU,eo,fA,fV,.slice a' (m+1) c',t21,zS tag wr.heap.size 3,rfl,{ f1:=hI.f1,f2:=hI.f2,f4:=hI.f4,f8:=hI.f8,f9:=hI.f9,f11:=hI.f11,f14:=fun h=>absurd (hI.g14 h).2 (by rw [hb];decide),g14:=fun h=>⟨(hI.g14 h).1,rfl⟩,g15:=fun h=>absurd h (by rw [show set1 b 13 15=b 15 from rfl,cJ];decide),r1:=hI.r1.but cR (fun k e=>by rw [(dI.2 k e).1];decide) 3,r2:=hI.r2.stepC' cw.1 hb hB ho hg,w0:=fun _=>(hI.w0 cJ).trans (cR.toBelow hB fun k hk e=>by have:=(dI.2 k e).2;omega),w1:=fun h=>absurd h (by rw [show set1 b 13 15=b 15 from rfl,cJ];decide) }⟩
  ·simp at ho;subst ho
   simp [Region.binds] at cw
   have cJ:=hI.not15 (i:=14) (by omega) hb
   have hB:W0.heap.size<=wr.heap.size:=(hI.w0 cJ).size
   obtain ⟨iu,iH,FQ⟩:=(hI.r1.c' cw.1).1.slice
   obtain ⟨a20,iG,FP⟩:=(hI.r2.c' cw.2).1.slice
   subst FQ
   subst FP
   go_simp
   exact hK _ _ ⟨t7,t8,t9,e_,fI,fW,.slice iu (n+1) iH,fY,fL,fU,eo,fA,fV,.slice a20 (m+1) iG,.agg #[.slice iu (n+1) iH,.slice a20 (m+1) iG],tag,rfl,{ f1:=hI.f1,f2:=hI.f2,f4:=hI.f4,f8:=hI.f8,f9:=hI.f9,f11:=hI.f11,f14:=fun _=>rfl,g14:=fun _=>⟨cw.1,cw.2⟩,g15:=fun h=>absurd h (by rw [show set1 b 14 15=b 15 from rfl,cJ];decide),r1:=hI.r1,r2:=hI.r2,w0:=fun _=>hI.w0 cJ,w1:=fun h=>absurd h (by rw [show set1 b 14 15=b 15 from rfl,cJ];decide) }⟩
  ·simp at ho;subst ho
   simp [Region.binds] at cw
   obtain ⟨iu,iH,FQ⟩:=(hI.r1.c' (hI.g14 cw.1).1).1.slice
   have cF:∀ k,k<15->b k=true:=fun k hk=>by
    obtain ⟨p14,p0⟩:=cw
    rcases (by omega:k=0\/k=1\/k=2\/k=3\/k=4\/k=5\/k=6\/k=7\/k=8\/k=9\/k=10\/k=11\/k=12\/k=13\/k=14) with rfl | rfl | rfl | rfl | rfl | rfl | rfl | rfl | rfl | rfl | rfl | rfl | rfl | rfl | rfl <;> simp [*]
   obtain ⟨a20,iG,FP⟩:=(hI.r2.c' (hI.g14 cw.1).2).1.slice
   subst FQ;subst FP
   have q21:=hI.f14 cw.1
   have fa:wr.heap[w.heap.size+1]? = some (.cells #[.slice none 0 0,.slice none 0 0] 33 (0,0)):=by rw [(hI.w0 hb).block _ (by omega)];exact h6
   obtain ⟨u0,u1,v0,v1⟩:=cells2 fa
   have b9:=hI.w0 hb
   have dw:=setc_at (o:=1) (u:=.slice a20 (m+1) iG) (setc_at (o:=0) (u:=.slice iu (n+1) iH) fa)
   go_simp
   have cR:But (· = w.heap.size+1) wr ((wr.setCell ⟨w.heap.size+1,0,none⟩ (.slice iu (n+1) iH)).setCell ⟨w.heap.size+1,1,none⟩ (.slice a20 (m+1) iG)):=((But.refl (· = w.heap.size+1) wr).setCell (p:=⟨w.heap.size+1,0,none⟩) (.inl rfl) _).setCell (p:=⟨w.heap.size+1,1,none⟩) (.inl rfl) _
   exact hK _ _ ⟨t7,t8,t9,e_,fI,fW,.slice iu (n+1) iH,fY,fL,fU,eo,fA,fV,.slice a20 (m+1) iG,.agg #[.slice iu (n+1) iH,.slice a20 (m+1) iG],tag,rfl,{ f1:=hI.f1,f2:=hI.f2,f4:=hI.f4,f8:=hI.f8,f9:=hI.f9,f11:=hI.f11,f14:=fun _=>rfl,g14:=hI.g14,g15:=fun _ k hk=>by rw [show set1 b 15 k=b k from if_neg (by omega)];exact cF k hk,r1:=hI.r1.low cR (fun k e=>by omega),r2:=hI.r2.low cR (fun k e=>by omega),w0:=fun h=>Bool.noConfusion (show true=false from h),w1:=fun _=>⟨(But.ofBelow b9).trans cR,dw⟩ }⟩
  ·simp at ho
def RnK (w:World) (ra:Nat) (mv pt:Value) (moves most:Nat) (bad:Bool):Prop:=w.heap[ra]? = some (.cells #[mv,pt,.int .i64 (moves:Nat),.int .i64 (most:Nat),.bool true,.bool bad] 80 (0,0))
theorem RnK.cells {w:World} {ra:Nat} {mv pt:Value} {moves most:Nat} {bad:Bool} (h:RnK w ra mv pt moves most bad):w.cell? ⟨ra,0,none⟩=some mv/\w.cell? ⟨ra,1,none⟩=some pt/\w.cell? ⟨ra,2,none⟩=some (.int .i64 (moves:Nat))/\w.cell? ⟨ra,3,none⟩=some (.int .i64 (most:Nat))/\w.cell? ⟨ra,4,none⟩=some (.bool true)/\w.cell? ⟨ra,5,none⟩=some (.bool bad) /\
 w.frozen? ⟨ra,0,none⟩=false/\w.frozen? ⟨ra,1,none⟩=false/\w.frozen? ⟨ra,2,none⟩=false/\w.frozen? ⟨ra,5,none⟩=false:=by
 unfold RnK at h
 exact ⟨by simp [World.cell?,h],by simp [World.cell?,h],by simp [World.cell?,h],by simp [World.cell?,h],by simp [World.cell?,h],by simp [World.cell?,h],by simp [World.frozen?,h],by simp [World.frozen?,h],by simp [World.frozen?,h],by simp [World.frozen?,h]⟩
def zE (w:World) (log:List (Bs×Int)) (mv pt:Value):Prop:=Own w 9 1 mv log.length (qg log)/\Own w 3 1 pt log.length (qy log)
theorem zE.below {w w':World} {log:List (Bs×Int)} {mv pt:Value} (h:zE w log mv pt) (hb:Below w.heap.size w w'):zE w' log mv pt :=
 ⟨h.1.keep fun g o hg ho=>by rw [hb.block g (zZ ho)];exact ho,h.2.keep fun g o hg ho=>by rw [hb.block g (zZ ho)];exact ho⟩
theorem zE.but {w w':World} {log:List (Bs×Int)} {mv pt:Value} {m:Nat->Prop} (h:zE w log mv pt) (hb:But m w w') (hm:∀ g,mv.ownBlock=some g\/pt.ownBlock=some g->¬ m g):zE w' log mv pt :=
 ⟨h.1.keep fun g o hg ho=>by rw [hb.block g (zZ ho) (hm g (.inl hg))];exact ho,h.2.keep fun g o hg ho=>by rw [hb.block g (zZ ho) (hm g (.inr hg))];exact ho⟩
theorem Own.unlike {w:World} {e e':TypeId} {v v':Value} {n n':Nat} {xs ys:List Value} (h:Own w e 1 v n xs) (h':Own w e' 1 v' n' ys) (he:e≠e') {g:Nat} (hg:v.ownBlock=some g):v'.ownBlock≠some g:=by
 intro dR
 rcases h.2 with ⟨rfl,_⟩ | ⟨b,cap,cur,rfl,_,hb,_⟩
 ·simp [Value.ownBlock] at hg
 ·rcases h'.2 with ⟨rfl,_⟩ | ⟨b',cap',cur',rfl,_,dK,_⟩
  ·simp [Value.ownBlock] at dR
  ·simp [Value.ownBlock] at hg dR
   subst hg;subst dR
   rw [hb] at dK
   simp at dK
   exact he dK.2
theorem gp (w:World):zE w [] (.slice none 0 0) (.slice none 0 0):=⟨World.ownsRow_nil w 0 _ 1,World.ownsRow_nil w 0 _ 1⟩
def MarkAt (w:World) (n k:Nat) (mv pt:Value):Prop:=Own w 9 1 mv n (marksS k n)/\Own w 3 1 pt n (marksI (k+n) n)
theorem MarkAt.below {w w':World} {n k:Nat} {mv pt:Value} (h:MarkAt w n k mv pt) (hb:Below w.heap.size w w'):MarkAt w' n k mv pt :=
 ⟨h.1.keep fun g o hg ho=>by rw [hb.block g (zZ ho)];exact ho,h.2.keep fun g o hg ho=>by rw [hb.block g (zZ ho)];exact ho⟩
def plC (us:List (Value×Value)):List Value:=us.flatMap fun u=>[u.1,u.2]
theorem xm (u:Value×Value) (us:List (Value×Value)):plC (u::us)=u.1::u.2::plC us:=by simp [plC]
theorem vq (us vs:List (Value×Value)):plC (us++vs)=plC us++plC vs:=by simp [plC]
theorem gd:∀ us:List (Value×Value),(plC us).length=us.length*2
 | []=>rfl
 | u::us=>by rw [xm,List.length_cons,List.length_cons,gd us,List.length_cons];omega
theorem plC_at:∀ (us:List (Value×Value)) (i:Nat) (u:Value×Value),us[i]? = some u->(plC us)[i*2]? = some u.1/\(plC us)[i*2+1]? = some u.2
 | [],i,u,h=>by simp at h
 | v::us,0,u,h=>by obtain rfl:v=u:=by simpa using h
                   rw [xm];exact ⟨rfl,rfl⟩
 | v::us,i+1,u,h=>by
   rw [List.getElem?_cons_succ] at h
   have:=plC_at us i u h
   rw [xm,show (i+1)*2=i*2+1+1 from by omega]
   simpa using this
theorem Own.unlikeG {w:World} {e e':TypeId} {sz sz':Nat} {v v':Value} {n n':Nat} {xs ys:List Value} (h:Own w e sz v n xs) (h':Own w e' sz' v' n' ys) (he:e≠e') {g:Nat} (hg:v.ownBlock=some g):v'.ownBlock≠some g:=by
 intro dR
 rcases h.2 with ⟨rfl,_⟩ | ⟨b,cap,cur,rfl,_,hb,_⟩
 ·simp [Value.ownBlock] at hg
 ·rcases h'.2 with ⟨rfl,_⟩ | ⟨b',cap',cur',rfl,_,dK,_⟩
  ·simp [Value.ownBlock] at dR
  ·simp [Value.ownBlock] at hg dR
   subst hg;subst dR
   rw [hb] at dK
   simp at dK
   exact he dK.2
theorem yQ:(9:TypeId)≠33:=by decide
theorem x_:(3:TypeId)≠33:=by decide
theorem p8:(9:TypeId)≠3:=by decide
abbrev wC:=List (List Value×List Value)
structure jL (w:World) (v:Value) (us:List (Value×Value)) (xs:wC):Prop where
 own:Own w 33 2 v us.length (plC us)
 len:us.length=xs.length
 each:∀ (i:Nat) (u:Value×Value) (x:List Value×List Value),us[i]? = some u->xs[i]? = some x->Own w 9 1 u.1 x.1.length x.1/\Own w 3 1 u.2 x.2.length x.2
 apart:∀ (i j:Nat) (u u':Value×Value),i≠j->us[i]? = some u->us[j]? = some u'->∀ g,(u.1.ownBlock=some g->u'.1.ownBlock≠some g)/\(u.2.ownBlock=some g->u'.2.ownBlock≠some g)
def PlB (v:Value) (us:List (Value×Value)) (b:Nat):Prop:=v.ownBlock=some b\/∃ u∈us,u.1.ownBlock=some b\/u.2.ownBlock=some b
theorem jL.mem {w:World} {v:Value} {us:List (Value×Value)} {xs:wC} (h:jL w v us xs) {u:Value×Value} (hu:u∈us):∃ (i:Nat) (x:List Value×List Value),us[i]? = some u/\xs[i]? = some x:=by
 obtain ⟨i,hi⟩:=List.mem_iff_getElem?.1 hu
 have hl:=(List.getElem?_eq_some_iff.1 hi).1
 rw [h.len] at hl
 exact ⟨i,xs[i],hi,List.getElem?_eq_getElem hl⟩
theorem jL.lt {w:World} {v:Value} {us:List (Value×Value)} {xs:wC} (h:jL w v us xs) {b:Nat} (hb:PlB v us b):b<w.heap.size:=by
 rcases hb with hb | ⟨u,hu,hb⟩
 ·exact h.own.lt hb
 ·obtain ⟨i,x,h1,h2⟩:=h.mem hu
  rcases hb with hb | hb
  ·exact (h.each i u x h1 h2).1.lt hb
  ·exact (h.each i u x h1 h2).2.lt hb
theorem jL.but {w w':World} {v:Value} {us:List (Value×Value)} {xs:wC} {m:Nat->Prop} (h:jL w v us xs) (hb:But m w w') (hm:∀ b,PlB v us b->¬ m b):jL w' v us xs :=
 ⟨h.own.keep fun g o hg ho=>by rw [hb.block g (zZ ho) (hm g (.inl hg))];exact ho,h.len,
  fun i u x h1 h2=>by
   have hu:=List.mem_of_getElem? h1
   obtain ⟨k1,k2⟩:=h.each i u x h1 h2
   exact ⟨k1.keep fun g o hg ho=>by rw [hb.block g (zZ ho) (hm g (.inr ⟨u,hu,.inl hg⟩))];exact ho,k2.keep fun g o hg ho=>by rw [hb.block g (zZ ho) (hm g (.inr ⟨u,hu,.inr hg⟩))];exact ho⟩,h.apart⟩
theorem jL.below {w w':World} {v:Value} {us:List (Value×Value)} {xs:wC} (h:jL w v us xs) (hb:Below w.heap.size w w'):jL w' v us xs :=
 h.but (m:=fun _=>False) (But.ofBelow hb) fun _ _ h=>h
theorem jL.nil (w:World):jL w (.slice none 0 0) [] [] :=
 ⟨World.ownsRow_nil w 0 _ 2,rfl,fun i u x h=>by simp at h,fun i j u u' _ h=>by simp at h⟩
theorem jL.snoc {w w':World} {v v':Value} {us:List (Value×Value)} {xs:wC} (h:jL w v us xs) {u:Value×Value} {x:List Value×List Value}
 (ho:Own w' 33 2 v' (us.length+1) (plC us++[u.1,u.2])) (hb:But (fun b=>v.ownBlock=some b) w w')
 (h1:Own w 9 1 u.1 x.1.length x.1) (h2:Own w 3 1 u.2 x.2.length x.2)
 (hf:∀ (g:Nat),u.1.ownBlock=some g\/u.2.ownBlock=some g->¬ PlB v us g):jL w' v' (us++[u]) (xs++[x]):=by
 have key:∀ {e:TypeId} {n:Nat} {r:Value} {ys:List Value},Own w e 1 r n ys->(∀ g,r.ownBlock=some g->v.ownBlock≠some g)->Own w' e 1 r n ys:=fun h cE =>
  h.keep fun g o hg ho=>by rw [hb.block g (zZ ho) (fun e=>cE g hg e)];exact ho
 refine ⟨by rw [List.length_append,List.length_singleton,vq];exact ho,by rw [List.length_append,List.length_append,h.len];rfl,fun i u' x' hu hx=>?_,fun i j a b sI ha dK g=>?_⟩
 ·rcases Nat.lt_or_ge i us.length with hi | hi
  ·rw [List.getElem?_append_left hi] at hu
   rw [List.getElem?_append_left (by rw [<- h.len];exact hi)] at hx
   obtain ⟨k1,k2⟩:=h.each i u' x' hu hx
   exact ⟨key k1 (fun g hg=>k1.unlikeG h.own yQ hg),key k2 (fun g hg=>k2.unlikeG h.own x_ hg)⟩
  ·rw [List.getElem?_append_right hi] at hu
   rw [List.getElem?_append_right (by rw [<- h.len];exact hi),<- h.len] at hx
   have hi0:i-us.length=0:=by have:=(List.getElem?_eq_some_iff.1 hu).1;simp at this;omega
   rw [hi0] at hu hx
   obtain rfl:u=u':=by simpa using hu
   obtain rfl:x=x':=by simpa using hx
   exact ⟨key h1 (fun g hg=>h1.unlikeG h.own yQ hg),key h2 (fun g hg=>h2.unlikeG h.own x_ hg)⟩
 ·have last:∀ {k:Nat} {c:Value×Value},(us++[u])[k]? = some c->(us[k]? = some c/\k<us.length)\/(c=u/\k=us.length):=by
   intro k c hc
   rcases Nat.lt_or_ge k us.length with hk | hk
   ·rw [List.getElem?_append_left hk] at hc;exact .inl ⟨hc,hk⟩
   ·rw [List.getElem?_append_right hk] at hc
    have hi0:k-us.length=0:=by have:=(List.getElem?_eq_some_iff.1 hc).1;simp at this;omega
    rw [hi0] at hc
    exact .inr ⟨by simpa using hc.symm,by omega⟩
  rcases last ha with ⟨ka,Cc⟩ | ⟨ea,Cc⟩
  ·rcases last dK with ⟨kb,hjb⟩ | ⟨eb,hjb⟩
   ·exact h.apart i j a b sI ka kb g
   ·have hm:=List.mem_of_getElem? ka
    rw [eb]
    exact ⟨fun e1 e2=>hf g (.inl e2) (.inr ⟨a,hm,.inl e1⟩),fun e1 e2=>hf g (.inr e2) (.inr ⟨a,hm,.inr e1⟩)⟩
  ·rcases last dK with ⟨kb,hjb⟩ | ⟨eb,hjb⟩
   ·have hm:=List.mem_of_getElem? kb
    rw [ea]
    exact ⟨fun e1 e2=>hf g (.inl e1) (.inr ⟨b,hm,.inl e2⟩),fun e1 e2=>hf g (.inr e1) (.inr ⟨b,hm,.inr e2⟩)⟩
   ·omega
theorem PlB.snoc {v v':Value} {us:List (Value×Value)} {u:Value×Value} {b:Nat} (h:PlB v' (us++[u]) b):v'.ownBlock=some b\/PlB v us b\/u.1.ownBlock=some b\/u.2.ownBlock=some b:=by
 rcases h with h | ⟨c,hc,h⟩
 ·exact .inl h
 ·rcases List.mem_append.1 hc with hc | hc
  ·exact .inr (.inl (.inr ⟨c,hc,h⟩))
  ·simp at hc;subst hc;exact .inr (.inr h)
def plX (l:Pl):List Value×List Value:=(qg l,qy l)
def yz (w:World) (L:List Pl) (v:Value) (us:List (Value×Value)):Prop:=jL w v us (L.map plX)
theorem yz.play {w:World} {L:List Pl} {v:Value} {us:List (Value×Value)} (h:yz w L v us) {i:Nat} {u:Value×Value} {l:Pl} (hu:us[i]? = some u) (hl:L[i]? = some l):zE w l u.1 u.2:=by
 have:=h.each i u (plX l) hu (by rw [List.getElem?_map,hl];rfl)
 simpa [plX,zE,qg,qy] using this
theorem yz.length {w:World} {L:List Pl} {v:Value} {us:List (Value×Value)} (h:yz w L v us):us.length=L.length:=by have:=h.len;rwa [List.length_map] at this
theorem jL.set1 {w w':World} {v:Value} {us:List (Value×Value)} {xs:wC} (h:jL w v us xs) {i:Nat} {u:Value×Value} {x:List Value×List Value} (hu:us[i]? = some u) (hx:xs[i]? = some x) {ys:List Value}
 (ho:Own w' 9 1 u.1 ys.length ys) (hb:But (fun b=>u.1.ownBlock=some b) w w'):jL w' v us (xs.set i (ys,x.2)):=by
 obtain ⟨o1,o2⟩:=h.each i u x hu hx
 refine ⟨h.own.keep fun g o hg ho=>by rw [hb.block g (zZ ho) (fun e=>o1.unlikeG h.own yQ e hg)];exact ho,by rw [List.length_set];exact h.len,fun j c y hc hy=>?_,h.apart⟩
 by_cases sI:i=j
 ·subst sI
  rw [hu] at hc
  obtain rfl:=Option.some.inj hc
  rw [List.getElem?_set_self (List.getElem?_eq_some_iff.1 hx).1] at hy
  obtain rfl:=Option.some.inj hy
  exact ⟨ho,o2.keep fun g o hg ho=>by rw [hb.block g (zZ ho) (fun e=>o1.unlikeG o2 p8 e hg)];exact ho⟩
 ·rw [List.getElem?_set_ne sI] at hy
  obtain ⟨k1,k2⟩:=h.each j c y hc hy
  exact ⟨k1.keep fun g o hg ho=>by rw [hb.block g (zZ ho) (fun e=>(h.apart i j u c sI hu hc g).1 e hg)];exact ho,
   k2.keep fun g o hg ho=>by rw [hb.block g (zZ ho) (fun e=>o1.unlikeG k2 p8 e hg)];exact ho⟩
section
variable {P:Program} {ops:Array Oper} {Q:Exit->Act->World->Prop} {md:Region.Mode} {S:World->Prop} {T:Nat->Bool}
def kI (P:Program) (md:Region.Mode) (ops:Array Oper) (Q:Exit->Act->World->Prop) (S:World->Prop) (T:Nat->Bool):Nat->Array Bool->Act->World->Prop
 | 0,listed,a,w=>Region.ready md ops listed=[]/\Q .normal a w
 | fuel+1,listed,a,w =>
   (Region.ready md ops listed=[]->Q .normal a w) /\
   ∀ i∈Region.ready md ops listed,wpOp P ops Q i (fun a' w'=>(T i=false->S w')/\kI P md ops Q S T fuel (listed.setIfInBounds i true) a' w') a w
theorem gY:∀ (fuel:Nat) (listed:Array Bool) (a:Act) (w:World),kI P md ops Q S T fuel listed a w->wpAny P md ops Q fuel listed a w
 | 0,_,_,_,h=>h
 | fuel+1,_,_,_,h=>⟨h.1,fun i hi=>wpOp_mono (fun a' w' h'=>gY fuel _ a' w' h'.2) (h.2 i hi)⟩
theorem js {md:Region.Mode} {ops:Array Oper} {L:Array Bool} {i j:Nat} (h:j∈Region.ready md ops L) (cE:j≠i):j∈Region.ready md ops (L.setIfInBounds i true):=by
 unfold Region.ready at *
 rw [List.mem_filter] at *
 refine ⟨h.1,?_⟩
 have h2:=h.2
 rw [Bool.and_eq_true] at *
 refine ⟨?_,?_⟩
 ·have e:(L.setIfInBounds i true).getD j true=L.getD j true:=by
   simp only [Array.getD_eq_getD_getElem?]
   rw [Array.getElem?_setIfInBounds_ne (fun e=>cE e.symm)]
  rw [e];exact h2.1
 ·have h3:=h2.2
  cases ho:ops[j]? with
  | none=>rw [ho] at h3;simp at h3
  | some o =>
    rw [ho] at h3
    simp only [Option.map_some,Option.getD_some] at h3 ⊢
    rw [Array.all_eq_true'] at *
    intro e he
    have h4:=h3 e he
    rw [Bool.or_eq_true] at *
    rcases h4 with h4 | h4
    ·exact .inl h4
    ·refine .inr ?_
     by_cases hk:e.on=i
     ·rw [hk]
      simp only [Array.getD_eq_getD_getElem?] at h4 ⊢
      rw [hk] at h4
      rcases Nat.lt_or_ge i L.size with h' | h'
      ·simp [h']
      ·rw [Array.getElem?_eq_none h'] at h4;simp at h4
     ·simp only [Array.getD_eq_getD_getElem?] at h4 ⊢
      rw [Array.getElem?_setIfInBounds_ne (fun e=>hk e.symm)];exact h4
theorem qw {md:Region.Mode} {ops:Array Oper} {L:Array Bool} {j:Nat} (h:j∈Region.ready md ops L) :
 L.getD j true=false/\∃ o,ops[j]? = some o/\∀ e∈o.after,Region.binds md e=true->L.getD e.on false=true:=by
 unfold Region.ready at h
 rw [List.mem_filter] at h
 have h2:=h.2
 rw [Bool.and_eq_true] at h2
 refine ⟨by simpa using h2.1,?_⟩
 cases ho:ops[j]? with
 | none=>have:=h2.2;rw [ho] at this;simp at this
 | some o =>
   refine ⟨o,rfl,fun e he hb=>?_⟩
   have h3:=h2.2
   rw [ho] at h3
   simp only [Option.map_some,Option.getD_some] at h3
   rw [Array.all_eq_true'] at h3
   have h4:=h3 e he
   rw [Bool.or_eq_true] at h4
   rcases h4 with h4 | h4
   ·rw [hb] at h4;simp at h4
   ·exact h4
theorem wpAnyS_first {i:Nat} {oi:Oper} {v:Value} (hi:ops[i]? = some oi) (tS:∀ (j:Nat) (o:Oper) cs b,ops[j]? = some o->o.op≠.select cs b)
 (hQ:∀ c a w,Q (.panic c) (a.put oi.dst v) w->Q (.panic c) a w)
 (hT:∀ j oj,ops[j]? = some oj->T j=true->∃ e∈oj.after,Region.binds md e=true/\e.on=i) (hTi:T i=false) :
 ∀ (fuel:Nat) (listed:Array Bool) (a:Act) (w:World),
   (∀ j oj,ops[j]? = some oj->j≠i->listed.getD j true=false->(∀ e∈oj.after,Region.binds md e=true->e.on≠i)->oi.apart ops oj=true) ->
   i∈Region.ready md ops listed->YieldsIf P ops S oi v a->S w ->
   kI P md ops Q S T fuel (listed.setIfInBounds i true) (a.put oi.dst v) w->kI P md ops Q S T (fuel+1) listed a w:=by
 intro fuel
 induction fuel with
 | zero =>
   intro listed a w _ hr hy hS H
   refine ⟨fun h=>(by rw [h] at hr;cases hr),fun j hj=>?_⟩
   by_cases m8:j=i
   ·subst m8;exact hy.wpOp hi hS ⟨fun _=>hS,H⟩
   ·have:=js hj m8
    rw [H.1] at this
    cases this
 | succ fuel ih =>
   intro listed a w eX hr hy hS H
   refine ⟨fun h=>(by rw [h] at hr;cases hr),fun j hj=>?_⟩
   by_cases m8:j=i
   ·subst m8;exact hy.wpOp hi hS ⟨fun _=>hS,H⟩
   ·have h1:=H.2 j (js hj m8)
    obtain ⟨aW,oj,iN,cF⟩:=qw hj
    have th:∀ e∈oj.after,Region.binds md e=true->e.on≠i:=fun e he hb aH=>by
     have h1:=cF e he hb
     have h0:=(qw hr).1
     rw [aH] at h1
     simp only [Array.getD_eq_getD_getElem?] at h0 h1
     rcases Nat.lt_or_ge i listed.size with h' | h'
     ·simp [h'] at h0 h1;rw [h0] at h1;cases h1
     ·simp [Array.getElem?_eq_none h'] at h1
    have hTj:T j=false:=by
     cases hT':T j with
     | false=>rfl
     | true =>
       obtain ⟨e,he,hb,aH⟩:=hT j oj iN hT'
       exact absurd aH (th e he hb)
    have h2:=wpOp_putIf iN (eX j oj iN m8 aW th) (fun cs b=>tS i oi cs b hi) (fun cs b=>tS j oj cs b iN) hQ hy h1
    have rR:∀ k ok,ops[k]? = some ok->k≠i->(listed.setIfInBounds j true).getD k true=false ->
     (∀ e∈ok.after,Region.binds md e=true->e.on≠i)->oi.apart ops ok=true:=fun k ok hk hki iD du=>by
     refine eX k ok hk hki ?_ du
     by_cases AQ:j=k
     ·subst AQ;exact aW
     ·simp only [Array.getD_eq_getD_getElem?] at iD ⊢
      rw [Array.getElem?_setIfInBounds_ne AQ] at iD;exact iD
    refine wpOp_mono (fun a' w' h3=>⟨h3.2.1,ih (listed.setIfInBounds j true) a' w' rR (js hr (Ne.symm m8)) h3.1 (h3.2.1 hTj) ?_⟩) h2
    rw [Array.setIfInBounds_comm _ _ m8]
    exact h3.2.2
def waitT (md:Region.Mode) (ops:Array Oper) (T:Nat->Bool) (i:Nat):Bool :=
 !T i && (List.range ops.size).all fun j=>!T j || ((ops[j]?).map fun o=>o.after.any fun e=>Region.binds md e && e.on == i).getD true
theorem waitT_spec {i:Nat} (h:waitT md ops T i=true):T i=false/\∀ j oj,ops[j]? = some oj->T j=true->∃ e∈oj.after,Region.binds md e=true/\e.on=i:=by
 unfold waitT at h
 rw [Bool.and_eq_true] at h
 refine ⟨by simpa using h.1,fun j oj hj hT=>?_⟩
 have h2:=h.2
 rw [List.all_eq_true] at h2
 have h3:=h2 j (List.mem_range.2 (Array.getElem?_eq_some_iff.1 hj).1)
 rw [hT,hj] at h3
 simp only [Bool.not_true,Bool.false_or,Option.map_some,Option.getD_some] at h3
 rw [Array.any_eq_true'] at h3
 obtain ⟨e,he,h4⟩:=h3
 rw [Bool.and_eq_true,beq_iff_eq] at h4
 exact ⟨e,he,h4⟩
theorem wpAnyS_take (i:Nat) {v:Value} {fuel:Nat} {listed:Array Bool} {a:Act} {w:World}
 (hs:Region.noSelect ops=true) (hf:Region.free md ops listed i=true) (hr:(Region.ready md ops listed).contains i=true) (ht:waitT md ops T i=true)
 (hQ:∀ d c a w,Q (.panic c) (a.put d v) w->Q (.panic c) a w) (hS:S w)
 (hy:∀ oi,ops[i]? = some oi->YieldsIf P ops S oi v a)
 (h:∀ d,(ops[i]?).bind (·.dst)=d->kI P md ops Q S T fuel (listed.setIfInBounds i true) (a.put d v) w):kI P md ops Q S T (fuel+1) listed a w:=by
 have hm:i∈Region.ready md ops listed:=by simpa using hr
 obtain ⟨_,oi,hi,_⟩:=qw hm
 obtain ⟨h1,h2⟩:=waitT_spec ht
 exact wpAnyS_first hi (Region.noSelect_spec hs) (fun c a w=>hQ _ c a w) h2 h1 fuel listed a w (Region.free_spec hi hf) hm (hy oi hi) hS (h _ (by rw [hi];rfl))
def tks (P:Program) (ops:Array Oper) (S:World->Prop):List Nat->List (Option Tmp)->Act->(Act->Prop)->Prop
 | i::l,d::ds,a,K=>∃ v,(∀ oi,ops[i]? = some oi->YieldsIf P ops S oi v a)/\tks P ops S l ds (a.put d v) K
 | [],_,a,K=>K a
 | _::_,[],_,_=>False
def tkOk (md:Region.Mode) (ops:Array Oper) (T:Nat->Bool):List Nat->Array Bool->Bool
 | [],_=>true
 | i::l,L=>Region.free md ops L i && ((Region.ready md ops L).contains i && (waitT md ops T i && tkOk md ops T l (L.setIfInBounds i true)))
def tkL:List Nat->Array Bool->Array Bool
 | [],L=>L
 | i::l,L=>tkL l (L.setIfInBounds i true)
def tkN:List Nat->Nat->Nat
 | [],n=>n
 | _::l,n=>tkN l n+1
def tkD (ops:Array Oper):List Nat->List (Option Tmp)
 | []=>[]
 | i::l=>(ops[i]?).bind (·.dst)::tkD ops l
theorem tk (is:List Nat) {fuel:Nat} {listed:Array Bool} {a:Act} {w:World} (hS:S w) (h:∀ ds,tkD ops is=ds->tks P ops S is ds a (fun a'=>kI P md ops Q S T fuel (tkL is listed) a' w))
 (cD:(Region.noSelect ops && tkOk md ops T is listed)=true:=by kernel_rfl) (hQ:∀ v d c a w,Q (.panic c) (a.put d v) w->Q (.panic c) a w:=by exact fun _ _ _ _ _ h=>h):kI P md ops Q S T (tkN is fuel) listed a w:=by
 have h':=h _ rfl
 clear h
 rw [Bool.and_eq_true] at cD
 obtain ⟨hs,cD⟩:=cD
 induction is generalizing listed a with
 | nil=>exact h'
 | cons i l ih =>
   rw [tkOk,Bool.and_eq_true,Bool.and_eq_true,Bool.and_eq_true] at cD
   rw [tkD,tks] at h'
   obtain ⟨v,hy,hk⟩:=h'
   exact wpAnyS_take i hs cD.1 cD.2.1 cD.2.2.1 (fun d c a w=>hQ v d c a w) hS hy (fun d hd=>by
    rw [hd] at hk
    exact ih hk cD.2.2.2)
theorem pQ (l:List Value) (df:List Deferred) (k:Nat) (v:Value):Act.put ⟨l.toArray,df⟩ (some k) v=⟨(l.set k v).toArray,df⟩:=by simp [Act.put]
theorem pN (a:Act) (v:Value):Act.put a none v=a:=rfl
theorem pZ (x y:Value) (l:List Value):(x::l).set 0 y=y::l:=rfl
theorem pS (x y:Value) (l:List Value) (n:Nat):(x::l).set (n+1) y=x::l.set n y:=rfl
theorem wpAnyS_one (i:Nat) {fuel:Nat} {listed:Array Bool} {a:Act} {w:World} (hr:Region.ready md ops listed=[i])
 (h:∀ o,ops[i]? = some o->∀ K':Act->World->Prop,Shut (∀ a w,(T i=false->S w)->kI P md ops Q S T fuel (listed.setIfInBounds i true) a w->K' a w) ->
  if Region.wanted o (yielded ops a.tmps)=true then Oper.wp P o a w K' Q else K' (a.put o.dst undef) w):kI P md ops Q S T (fuel+1) listed a w:=by
 refine ⟨fun h0=>by rw [hr] at h0;simp at h0,fun j hj=>?_⟩
 rw [hr] at hj
 simp only [List.mem_singleton] at hj
 subst hj
 obtain ⟨_,o,ho,_⟩:=qw (md:=md) (ops:=ops) (L:=listed) (j:=j) (by rw [hr];simp)
 exact wpOp_step ho (fun K' hK=>h o ho K' (fun a w hS hW=>hK a w ⟨hS,hW⟩))
theorem on (i:Nat) {fuel:Nat} {listed:Array Bool} {a:Act} {w:World}
 (h:∀ o,ops[i]? = some o->∀ K':Act->World->Prop,Shut (∀ a w,(T i=false->S w)->kI P md ops Q S T fuel (listed.setIfInBounds i true) a w->K' a w) ->
  if Region.wanted o (yielded ops a.tmps)=true then Oper.wp P o a w K' Q else K' (a.put o.dst undef) w) (hr:Region.ready md ops listed=[i]:=by kernel_rfl):kI P md ops Q S T (fuel+1) listed a w :=
 wpAnyS_one i hr h
theorem kH (i j:Nat) {fuel:Nat} {listed:Array Bool} {a:Act} {w:World} (hr:Region.ready md ops listed=[i,j])
 (h:∀ o,ops[i]? = some o->∀ K':Act->World->Prop,Shut (∀ a w,(T i=false->S w)->kI P md ops Q S T fuel (listed.setIfInBounds i true) a w->K' a w) ->
  if Region.wanted o (yielded ops a.tmps)=true then Oper.wp P o a w K' Q else K' (a.put o.dst undef) w)
 (h2:∀ o,ops[j]? = some o->∀ K':Act->World->Prop,Shut (∀ a w,(T j=false->S w)->kI P md ops Q S T fuel (listed.setIfInBounds j true) a w->K' a w) ->
  if Region.wanted o (yielded ops a.tmps)=true then Oper.wp P o a w K' Q else K' (a.put o.dst undef) w):kI P md ops Q S T (fuel+1) listed a w:=by
 refine ⟨fun h0=>by rw [hr] at h0;simp at h0,fun k hk=>?_⟩
 obtain ⟨_,o,ho,_⟩:=qw hk
 rw [hr] at hk
 simp only [List.mem_cons,List.not_mem_nil,or_false] at hk
 rcases hk with rfl | rfl
 ·exact wpOp_step ho (fun K' hK=>h o ho K' (fun a w hS hW=>hK a w ⟨hS,hW⟩))
 ·exact wpOp_step ho (fun K' hK=>h2 o ho K' (fun a w hS hW=>hK a w ⟨hS,hW⟩))
theorem xL (i j k:Nat) {fuel:Nat} {listed:Array Bool} {a:Act} {w:World} (hr:Region.ready md ops listed=[i,j,k])
 (hi:∀ o,ops[i]? = some o->∀ K':Act->World->Prop,Shut (∀ a w,(T i=false->S w)->kI P md ops Q S T fuel (listed.setIfInBounds i true) a w->K' a w) ->
  if Region.wanted o (yielded ops a.tmps)=true then Oper.wp P o a w K' Q else K' (a.put o.dst undef) w)
 (hj:∀ o,ops[j]? = some o->∀ K':Act->World->Prop,Shut (∀ a w,(T j=false->S w)->kI P md ops Q S T fuel (listed.setIfInBounds j true) a w->K' a w) ->
  if Region.wanted o (yielded ops a.tmps)=true then Oper.wp P o a w K' Q else K' (a.put o.dst undef) w)
 (hk:∀ o,ops[k]? = some o->∀ K':Act->World->Prop,Shut (∀ a w,(T k=false->S w)->kI P md ops Q S T fuel (listed.setIfInBounds k true) a w->K' a w) ->
  if Region.wanted o (yielded ops a.tmps)=true then Oper.wp P o a w K' Q else K' (a.put o.dst undef) w):kI P md ops Q S T (fuel+1) listed a w:=by
 refine ⟨fun h0=>by rw [hr] at h0;simp at h0,fun x hk=>?_⟩
 obtain ⟨_,o,ho,_⟩:=qw hk
 rw [hr] at hk
 simp only [List.mem_cons,List.not_mem_nil,or_false] at hk
 rcases hk with rfl | rfl | rfl
 ·exact wpOp_step ho (fun K' hK=>hi o ho K' (fun a w hS hW=>hK a w ⟨hS,hW⟩))
 ·exact wpOp_step ho (fun K' hK=>hj o ho K' (fun a w hS hW=>hK a w ⟨hS,hW⟩))
 ·exact wpOp_step ho (fun K' hK=>hk o ho K' (fun a w hS hW=>hK a w ⟨hS,hW⟩))
theorem zU {listed:Array Bool} {a:Act} {w:World} (hr:Region.ready md ops listed=[]) (h:Q .normal a w) :
 ∀ fuel,kI P md ops Q S T fuel listed a w
 | 0=>⟨hr,h⟩
 | _+1=>⟨fun _=>h,by rw [hr];simp⟩
theorem zW {id:Nat} {a:Act} {w:World} (S:World->Prop) (T:Nat->Bool) (hm:P.follows .mixedOrders=true)
 (h:kI P .any ops Q S T ops.size (Array.replicate ops.size false) a w.drew):(Code.region id ops true).wp P Q a w :=
 wp_region_any hm (gY _ _ _ _ h)
end
theorem out_cell {m:Nat->Prop} {w6 w7:World} {o:Obj} {ob f:Nat} {u:Value} (hb:But m (w6.alloc o) w7) (hm:¬ m ob) (h:w6.cell? ⟨ob,f,none⟩=some u):w7.cell? ⟨ob,f,none⟩=some u:=by
 have cQ:=bp w6 ⟨ob,f,none⟩ h
 rw [hb.cell (p:=⟨ob,f,none⟩) (by rw [zK];exact Nat.lt_succ_of_lt cQ) hm]
 exact zH h
theorem out_free {m:Nat->Prop} {w6 w7:World} {o:Obj} {ob f:Nat} (hb:But m (w6.alloc o) w7) (hm:¬ m ob) (cQ:ob<w6.heap.size) (h:w6.frozen? ⟨ob,f,none⟩=false):w7.frozen? ⟨ob,f,none⟩=false:=by
 rw [World.frozen?_of_block (w:=w6) (by rw [hb.block _ (by rw [zK];omega) hm,Below.heap_alloc _ _ _ cQ])]
 exact h
theorem own_thru {wr w5 w6:World} {e:TypeId} {sz n:Nat} {v:Value} {xs:List Value} {rd:Nat} (h:Own wr e sz v n xs) (hg:∀ g,v.ownBlock=some g->g≠rd) (cz:But (· = rd) wr w5) (cI:But (· = rd) w5 w6):Own w6 e sz v n xs :=
 h.keep fun g o hgo ho=>by
  have cQ:=zZ ho
  rw [cI.block g (bm cQ cz.size) (hg g hgo),cz.block g cQ (hg g hgo)];exact ho
theorem vZ {rd:Nat} {w w':World} (hb:But (· = rd) w w') {b o:Nat} {u:Value} (cE:b≠rd) (h:w.cell? ⟨b,o,none⟩=some u):w'.cell? ⟨b,o,none⟩=some u :=
 (hb.cell (p:=⟨b,o,none⟩) (bp w ⟨b,o,none⟩ h) cE).trans h
theorem wW {rd:Nat} {w w':World} (hb:But (· = rd) w w') {b o:Nat} (cE:b≠rd) (cQ:b<w.heap.size) (h:w.frozen? ⟨b,o,none⟩=false):w'.frozen? ⟨b,o,none⟩=false:=by
 rw [World.frozen?_of_block (w:=w) (hb.block b cQ cE)];exact h
def bL (size:Nat) (v:Value) (n:Nat) (xs:List Value) (w:World):Prop :=
 xs.length=n*size/\((∃ b,v=.slice (some b) n n/\∀ (j:Nat) u,xs[j]? = some u->w.cell? (b.add j)=some u)\/(v=.slice none 0 0/\n=0))
theorem bL.ofRep {F:Nat->Prop} {w:World} {e:TypeId} {sz n:Nat} {cs:List DV} {a:Option Addr} {c:Nat} (h:Rep F w (.sl e sz n cs) (.slice a n c)) (Az:∀ us,zv F w cs us->∀ u∈us,u.oneCell'=true) :
 ∃ xs,zv F w cs xs/\bL sz (.slice a n n) n xs w:=by
 obtain ⟨xs,h1,h2,_,h4⟩:=zM.ofRep h Az
 refine ⟨xs,h1,h2,?_⟩
 rcases h4 with ⟨b,c',e1,h5⟩ | ⟨e1,rfl⟩
 ·injection e1 with e2 e3 e4
  subst e2
  exact .inl ⟨b,rfl,h5⟩
 ·injection e1 with e2 e3 e4
  subst e2
  exact .inr ⟨rfl,rfl⟩
theorem bL.drew {w:World} {size n:Nat} {v:Value} {xs:List Value} (h:bL size v n xs w):bL size v n xs w.drew:=h
theorem j9 {P:Program} {c:Code} {Q:Exit->Act->World->Prop} {a:Act} {w:World} {X:Type} (f:Act->X->Act) (F:X->World->Prop)
 (h1:c.wp P (fun e a' w'=>e=.normal/\∃ x,a'=f a x/\F x w') a w) (h2:∀ x w',F x w'->Q .normal (f a x) w'):c.wp P Q a w :=
 Code.wp_mono (fun e a' w' ⟨he,x,hx,hF⟩=>by subst he;subst hx;exact h2 x w' hF) h1
theorem zQ {w:World} {b o:Nat} {c:Array Value} {e:TypeId} {u:Value} (h:w.heap[b]? = some (.cells c e (0,0))):(w.setCell ⟨b,o,none⟩ u).heap[b]? = some (.cells (c.setIfInBounds o u) e (0,0)):=by
 have cQ:=zZ h
 have h':w.heap[b]=.cells c e (0,0):=by simpa [Array.getElem?_eq_getElem cQ] using h
 show (w.heap.modify b _)[b]? = _
 rw [Array.getElem?_eq_getElem (by simpa using cQ),Array.getElem_modify_self,h']
 simp
structure BoxRes (F0:Nat->Prop) (W:World) (g:Nat) (o:Obj) (d:List DV) (v:List Value) (Z:World):Prop where
 below:Below W.heap.size W Z
 new:W.heap.size<=g
 blk:Z.heap[g]? = some o
 rep:zv (fun i=>(F0 i\/W.heap.size<=i)/\i≠g) Z d v
theorem BoxRes.first {F0:Nat->Prop} {W V0 V1 Z:World} {o:Obj} {d:List DV} {v:List Value} (hF0:∀ i,F0 i->i<W.heap.size) (h0:Below W.heap.size W V0) (mN:V0.heap.size=W.heap.size+1) (hb:Below V0.heap.size V0 V1) (hr:zv (fun i=>F0 i\/V0.heap.size<=i) V1 d v)
 (cR:But (fun i=>i=W.heap.size) V1 Z) (fa:Z.heap[W.heap.size]? = some o):BoxRes F0 W W.heap.size o d v Z:=by
 have hz:=hb.size
 have bi:Below W.heap.size W V1:=h0.trans (hb.mono (by omega))
 refine ⟨bi.trans (cR.toBelow (by omega) fun i hi e=>by omega),bw _,fa,?_⟩
 refine (Rep.keep fun i x hi hx=>?_).2 _ _ hr
 have cE:i≠W.heap.size:=by rcases hi with h | h;have:=hF0 i h;omega;omega
 exact ⟨⟨hi.elim .inl (fun h=>.inr (by omega)),cE⟩,by rw [cR.block i (zZ hx) cE];exact hx⟩
theorem BoxRes.last {F0:Nat->Prop} {W V1 Z:World} {z o:Obj} {d:List DV} {v:List Value} (hb:Below W.heap.size W V1) (hr:zv (fun i=>F0 i\/W.heap.size<=i) V1 d v)
 (cR:But (fun i=>i=V1.heap.size) (V1.alloc z) Z) (fa:Z.heap[V1.heap.size]? = some o):BoxRes F0 W V1.heap.size o d v Z:=by
 have hz:=hb.size
 refine ⟨(hb.alloc hz z).trans (cR.toBelow (by rw [zK];omega) fun i hi e=>by omega),hz,fa,?_⟩
 refine (Rep.keep fun i x hi hx=>?_).2 _ _ hr
 have hl:=zZ hx
 have cE:i≠V1.heap.size:=by omega
 exact ⟨⟨hi,cE⟩,by rw [cR.block i (by rw [zK];omega) cE,Below.heap_alloc _ _ _ hl];exact hx⟩
def CopyP (l:Pl) (w:World) (en:Ending) (w':World):Prop :=
 ∃ mv pt,en=.returned (.agg #[mv,pt])/\zE w' l mv pt/\Below w.heap.size w w'/\∀ g,mv.ownBlock=some g\/pt.ownBlock=some g->w.heap.size<=g
theorem zJ {w:World} {b:Nat} {x y:Value} {T:TypeId} (h:w.heap[b]? = some (.cells #[x,y] T (0,0))):w.cell? ⟨b,0,none⟩=some x/\w.cell? ⟨b,1,none⟩=some y/\w.frozen? ⟨b,0,none⟩=false/\w.frozen? ⟨b,1,none⟩=false :=
 ⟨by simp [World.cell?,h],by simp [World.cell?,h],by simp [World.frozen?,h],by simp [World.frozen?,h]⟩
theorem qe {w:World} {b:Nat} {x y:Value} {T:TypeId} (h:w.heap[b]? = some (.cells #[x,y] T (0,0))) (u v:Value):((w.setCell ⟨b,0,none⟩ u).setCell ⟨b,1,none⟩ v).heap[b]? = some (.cells #[u,v] T (0,0)):=by
 rw [zQ (zQ h)];rfl
set_option maxRecDepth 100000 in
theorem clone_any (l:Pl) (mv pt:Value) (w:World) (h1:zM 1 mv l.length (qg l) w) (h2:zM 1 pt l.length (qy l) w) (hl:l.length<=100000) :
 Calls Tryz.prog 35 #[.agg #[mv,pt]] w (CopyP l w):=by
 obtain ⟨a1,c1,rfl⟩:=h1.slice
 obtain ⟨a2,c2,rfl⟩:=h2.slice
 obtain ⟨W,hW⟩:=zzN ((w.alloc (.cells #[.slice a1 l.length c1,.slice a2 l.length c2] 33)).alloc (.cells #[.slice none 0 0,.slice none 0 0] 33))
 have b9:Below w.heap.size w W:=by rw [<- hW];exact ((bh _ _).alloc (bw _) _).alloc (by simp) _
 have hz:W.heap.size=w.heap.size+2:=by rw [<- hW];simp
 have b0:W.heap[w.heap.size]? = some (.cells #[.slice a1 l.length c1,.slice a2 l.length c2] 33 (0,0)):=by rw [<- hW];exact zD (zR _ _)
 have b1:W.heap[w.heap.size+1]? = some (.cells #[.slice none 0 0,.slice none 0 0] 33 (0,0)):=by
  rw [<- hW]
  have:=zR (w.alloc (.cells #[.slice a1 l.length c1,.slice a2 l.length c2] 33)) (.cells #[.slice none 0 0,.slice none 0 0] 33)
  rwa [zK] at this
 have g1:zM 1 (.slice a1 l.length c1) l.length (qg l) W:=h1.below b9
 have g2:zM 1 (.slice a2 l.length c2) l.length (qy l) W:=h2.below b9
 have HW:=bz hW
 have HB:=bz (bj b9 (bj hz (bj b0 b1)))
 have KEY:Hid (∀ x,Below W.heap.size W x->x.cell? ⟨w.heap.size,0,none⟩=some (.slice a1 l.length c1)/\x.cell? ⟨w.heap.size,1,none⟩=some (.slice a2 l.length c2)):=bz (fun x hx=>by
  have h:=(hx.block _ (zZ HB.out.2.2.1)).trans HB.out.2.2.1
  exact ⟨(zJ h).1,(zJ h).2.1⟩)
 clear hW h1 h2 b9 hz b0 b1
 go_enter Tryz.func35,Tryz.ntmps35
 go_wp2_with fail
 rw [HW.out]
 refine wp_region_noPanic ?_
 refine zW (fun w'=>Below W.heap.size W w') (fun i=>i == 7) (by kernel_rfl) ?_
 have cZ:(fun w'=>Below W.heap.size W w') W.drew:=Below.drew (bh _ _)
 refine tk [0,1,3,4] cZ ?_
 (intro d hd;simp [tkD] at hd;subst hd;simp only [tks,pQ,pZ,pS])
 iterate 4 (refine ⟨?_,?_,?_⟩;rotate_left;· (intro oi ho;simp at ho;subst ho;refine Or.inl ⟨by rfl,fun w' b_=>?_⟩;obtain ⟨e0,e1⟩:=KEY.out w' b_;go_simp;try with_reducible rfl))
 (refine on 2 ?_;intro o ho K' hK;simp at ho;subst ho)
 refine zq (by rfl) _ _ _ (by rfl) 9 (str []) 1 16 Tryz.underlying30 Tryz.infoStr rfl (by decide) (.slice none 0 0) 0 [] (by rfl) (World.ownsRow_nil _ _ _ _) _ l.length (qg l) (by rfl) (g1.drew) (by unfold maxLen;omega) (by omega) ?_
 intro ax cx wx hox ed hgx
 simp only [Nat.zero_add,List.nil_append] at hox hgx ⊢
 have o_:Below W.heap.size W wx:=Below.trans cZ (ed.toBelow (Below.size cZ) fun i hi e=>by simp [Value.ownBlock] at e)
 have hfx:∀ g,(Value.slice ax l.length cx).ownBlock=some g->W.heap.size<=g:=fun g hg=>by rcases hgx g hg with h | h;simp [Value.ownBlock] at h;exact Nat.le_of_eq h.symm
 (refine hK.out _ _ (fun _=>o_) ?_;clear hK K';try simp only [pQ,pN,pZ,pS])
 (refine on 5 ?_;intro o ho K' hK;simp at ho;subst ho)
 refine zq (by rfl) _ _ _ (by rfl) 3 (.int .i64 0) 1 8 Tryz.underlying31 Tryz.infoInt rfl (by decide) (.slice none 0 0) 0 [] (by rfl) (World.ownsRow_nil _ _ _ _) _ l.length (qy l) (by rfl) (g2.below o_) (by unfold maxLen;omega) (by omega) ?_
 intro ay cy wy hoy nH hgy
 simp only [Nat.zero_add,List.nil_append] at hoy hgy ⊢
 have FG:Below wx.heap.size wx wy:=nH.toBelow (bw _) fun i hi e=>by simp [Value.ownBlock] at e
 have cW:Below W.heap.size W wy:=zzT o_ FG
 have AS:∀ g,(Value.slice ay l.length cy).ownBlock=some g->W.heap.size<=g:=fun g hg=>by rcases hgy g hg with h | h;simp [Value.ownBlock] at h;exact br o_.size (Nat.le_of_eq h.symm)
 (refine hK.out _ _ (fun _=>cW) ?_;clear hK K';try simp only [pQ,pN,pZ,pS])
 (refine on 6 ?_;intro o ho K' hK;simp at ho;subst ho;go_simp)
 (refine hK.out _ _ (fun _=>cW) ?_;clear hK K';try simp only [pQ,pN,pZ,pS])
 (refine on 7 ?_;intro o ho K' hK;simp at ho;subst ho)
 have b1:=(cW.block _ (zZ HB.out.2.2.2)).trans HB.out.2.2.2
 obtain ⟨z0,z1,z2,z3⟩:=zJ b1
 go_simp
 (refine hK.out _ _ (fun h=>by simp at h) ?_;clear hK K';try simp only [pQ,pN,pZ,pS])
 refine zU (by kernel_rfl) (NoPanic.normal ?_) _
 go_wp2_with fail
 have hV:=qe b1 (.slice ax l.length cx) (.slice ay l.length cy)
 obtain ⟨s0,s1,_,_⟩:=zJ hV
 have hz:=HB.out.2.1
 have ef:=((zzT HB.out.1 cW).setCell (p:=⟨w.heap.size+1,0,none⟩) (Nat.le_succ _) (.slice ax l.length cx)).setCell (p:=⟨w.heap.size+1,1,none⟩) (Nat.le_succ _) (.slice ay l.length cy)
 refine bodyPost_ret (v:=.agg #[.slice ax l.length cx,.slice ay l.length cy]) (by simp [results,Tryz.results35,go_sem,s0,s1]) rfl ?_
 refine ⟨_,_,rfl,⟨?_,?_⟩,ef,fun g hg=>?_⟩
 ·exact (hox.keep fun g o _ ho=>by rw [FG.block g (zZ ho)];exact ho).keep fun g o hg ho=>by
   have:=hfx g hg
   rw [bf _ _ _ _ (by show g≠w.heap.size+1;omega),bf _ _ _ _ (by show g≠w.heap.size+1;omega)];exact ho
 ·exact hoy.keep fun g o hg ho=>by
   have:=AS g hg
   rw [bf _ _ _ _ (by show g≠w.heap.size+1;omega),bf _ _ _ _ (by show g≠w.heap.size+1;omega)];exact ho
 ·rcases hg with hg | hg
  ·have:=hfx g hg;omega
  ·have:=AS g hg;omega
theorem kD (w:World) (A B:Obj):∃ W,(w.alloc A).alloc B=W/\Below w.heap.size w W/\W.heap.size=w.heap.size+2/\W.heap[w.heap.size]? = some A/\W.heap[w.heap.size+1]? = some B:=by
 refine ⟨_,rfl,((bh _ _).alloc (bw _) _).alloc (by rw [zK];omega) _,by rw [zK,zK],zD (zR _ _),?_⟩
 have h:=zR (w.alloc A) B
 rwa [zK] at h
theorem kV (w:World) (A:Obj):∃ W,w.alloc A=W/\Below w.heap.size w W/\W.heap.size=w.heap.size+1/\W.heap[w.heap.size]? = some A :=
 ⟨_,rfl,(bh _ _).alloc (bw _) _,by rw [zK],zR _ _⟩
set_option maxRecDepth 100000 in
theorem with_any (l:Pl) (mv pt:Value) (s:Bs) (p:Int) (w:World) (h1:zM 1 mv l.length (qg l) w) (h2:zM 1 pt l.length (qy l) w) (hl:l.length<=1000) :
 Calls Tryz.prog 68 #[.agg #[mv,pt],str s,.int .i64 p] w (CopyP (l++[(s,p)]) w):=by
 obtain ⟨a1,c1,rfl⟩:=h1.slice
 obtain ⟨a2,c2,rfl⟩:=h2.slice
 obtain ⟨W,hW,b9,hz,b0,b1⟩:=kD w (.cells #[.slice a1 l.length c1,.slice a2 l.length c2] 33) (.cells #[.slice none 0 0,.slice none 0 0] 33)
 obtain ⟨e0,e1,_,_⟩:=zJ b0
 have C:=bz (clone_any l _ _ W (h1.below b9) (h2.below b9) (by omega))
 have HB:=bz (bj b9 (bj hz b1))
 have HW:=bz hW
 clear hW h1 h2 b9 hz b0 b1
 go_enter Tryz.func68,Tryz.ntmps68
 go_upto_region 1 with (fail)
 rw [HW.out]
 go_wp2_with fail
 (with_reducible refine C.out.mono ?_)
 rintro en w1 ⟨mv1,pt1,rfl,rC,bi,hf1⟩
 obtain ⟨a3,c3,e3⟩:=rC.1.slice
 obtain ⟨a4,c4,e4⟩:=rC.2.slice
 subst e3;subst e4
 obtain ⟨W1,tW,fM,eQ,bx⟩:=kV w1 (.cells #[.slice a3 l.length c3,.slice a4 l.length c4] 33)
 obtain ⟨x0,x1,xf0,xf1⟩:=zJ bx
 have mn:=rC.1.keep (w':=W1) fun g o _ ho=>by rw [<- tW];exact zD ho
 have nW:=rC.2.keep (w':=W1) fun g o _ ho=>by rw [<- tW];exact zD ho
 have lH:∀ g,(Value.slice a3 l.length c3).ownBlock=some g->g<w1.heap.size:=fun g hg=>rC.1.lt hg
 have hl4:∀ g,(Value.slice a4 l.length c4).ownBlock=some g->g<w1.heap.size:=fun g hg=>rC.2.lt hg
 have iD:∀ g,(Value.slice a3 l.length c3).ownBlock=some g->(Value.slice a4 l.length c4).ownBlock≠some g:=fun g hg=>rC.1.unlike rC.2 p8 hg
 have H1:=bz (bj bi (bj hf1 (bj fM (bj eQ (bj bx (bj mn nW))))))
 have HL:=bz (bj lH (bj hl4 iD))
 have HW1:=bz tW
 clear tW fM eQ bx mn nW lH hl4 iD rC bi hf1 C e0 e1
 go_upto_region 2 with (fail)
 rw [HW1.out]
 go_wp2_with (at_builtin;refine zC rfl _ _ 30 rfl 9 (str []) 1 16 Tryz.underlying30 Tryz.infoStr rfl (by decide) (.slice a3 l.length c3) l.length (qg l) rfl ?c1 _ 1 [str s] rfl ?c2 ?c3 ?c4 ?_)
 case c1=>exact H1.out.2.2.2.2.2.1.alloc _
 case c2=>exact zM.lit rfl
 case c3=>unfold maxLen;omega
 case c4=>omega
 intro a5 c5 w2 lX cK nO
 have HO2:=bz (bj lX (bj cK nO))
 have i4:=H1.out.2.2.2.1
 have iB:=HB.out.2.1
 have i9:=H1.out.1.size
 have ii:∀ g,g<W1.heap.size->(Value.slice a3 l.length c3).ownBlock≠some g->w2.heap[g]? = W1.heap[g]?:=fun g hg hn=>by
  rw [cK.block g (by rw [zK];omega) hn,Below.heap_alloc _ _ _ hg]
 have rP:W1.heap.size+1<=w2.heap.size:=by have:=cK.size;rwa [zK] at this
 have bx2:w2.heap[w1.heap.size]? = some (.cells #[.slice a3 l.length c3,.slice a4 l.length c4] 33 (0,0)):=by
  rw [ii _ (by omega) (fun e=>by have:=HL.out.1 _ e;omega)];exact H1.out.2.2.2.2.1
 have br2:w2.heap[w.heap.size+1]? = some (.cells #[.slice none 0 0,.slice none 0 0] 33 (0,0)):=by
  rw [ii _ (by omega) (fun e=>by have:=H1.out.2.1 _ (.inl e);omega),H1.out.2.2.1.block _ (by omega),H1.out.1.block _ (by omega)];exact HB.out.2.2
 have nW:Own w2 3 1 (.slice a4 l.length c4) l.length (qy l):=H1.out.2.2.2.2.2.2.keep fun g o hg ho=>by
  rw [ii g (zZ ho) (fun e=>HL.out.2.2 g e hg)];exact ho
 have E4:Below w.heap.size w w2:=by
  have h1:Below w.heap.size w W1:=(zzT HB.out.1 H1.out.1).trans (H1.out.2.2.1.mono (by omega))
  exact (h1.alloc (by omega) _).trans (cK.toBelow (by rw [zK];omega) fun i hi e=>by have:=H1.out.2.1 _ (.inl e);omega)
 have rS:∀ g,(Value.slice a5 (l.length+1) c5).ownBlock=some g->w.heap.size+2<=g/\g≠w1.heap.size:=fun g hg=>by
  rcases nO g hg with h | h
  ·have h1:=H1.out.2.1 _ (.inl h);have h2:=HL.out.1 _ h;omega
  ·omega
 obtain ⟨y0,y1,yf0,yf1⟩:=zJ bx2
 obtain ⟨W3,rY⟩:=zzN (w2.setCell ⟨w1.heap.size,0,none⟩ (.slice a5 (l.length+1) c5))
 have bx3:W3.heap[w1.heap.size]? = some (.cells #[.slice a5 (l.length+1) c5,.slice a4 l.length c4] 33 (0,0)):=by rw [<- rY,zQ bx2];rfl
 have ia:∀ g,g≠w1.heap.size->W3.heap[g]? = w2.heap[g]?:=fun g hg=>by rw [<- rY];exact bf _ _ _ _ (by show g≠w1.heap.size;exact hg)
 have i5:W3.heap.size=w2.heap.size:=by rw [<- rY];simp [World.setCell]
 have br3:W3.heap[w.heap.size+1]? = some (.cells #[.slice none 0 0,.slice none 0 0] 33 (0,0)):=by rw [ia _ (by omega)];exact br2
 have B7:Own W3 3 1 (.slice a4 l.length c4) l.length (qy l):=nW.keep fun g o hg ho=>by rw [ia g (by have:=HL.out.2.1 g hg;omega)];exact ho
 have hm3:Own W3 9 1 (.slice a5 (l.length+1) c5) (l.length+1) (qg l++[str s]):=HO2.out.1.keep fun g o hg ho=>by rw [ia g (rS g hg).2];exact ho
 have E3:Below w.heap.size w W3:=by rw [<- rY];exact E4.setCell (p:=⟨w1.heap.size,0,none⟩) (by show w.heap.size<=w1.heap.size;omega) _
 have Es:∀ g,(Value.slice a4 l.length c4).ownBlock=some g->w.heap.size+2<=g/\g<w1.heap.size:=fun g hg=>by
  have h1:=H1.out.2.1 _ (.inr hg);have h2:=HL.out.2.1 _ hg;omega
 have Dq:∀ g,(Value.slice a5 (l.length+1) c5).ownBlock=some g->(Value.slice a4 l.length c4).ownBlock≠some g:=fun g hg=>hm3.unlike B7 p8 hg
 obtain ⟨x0,x1,xf0,xf1⟩:=zJ bx3
 have H3:=bz (bj rY (bj bx3 (bj br3 (bj B7 (bj hm3 (bj E3 (bj Es (bj rS (bj Dq (bj i5 rP))))))))))
 have HZ:=bz (bj i4 (bj iB i9))
 clear rY bx3 br3 B7 hm3 E3 Es rS Dq i5 rP i4 iB i9 ii bx2 br2 nW E4 ia HO2 cK nO lX y1 yf1
 go_upto_region 3 with (fail)
 rw [H3.out.1]
 clear y0 yf0
 go_wp2_with (at_builtin;refine zC rfl _ _ 31 rfl 3 (.int .i64 0) 1 8 Tryz.underlying31 Tryz.infoInt rfl (by decide) (.slice a4 l.length c4) l.length (qy l) rfl ?c1 _ 1 [.int .i64 p] rfl ?c2 ?c3 ?c4 ?_)
 case c1=>exact H3.out.2.2.2.1.alloc _
 case c2=>exact zM.lit rfl
 case c3=>unfold maxLen;omega
 case c4=>omega
 intro a6 c6 w4 ho4 cm Eq
 have i4:=HZ.out.1
 have iB:=HZ.out.2.1
 have i9:=HZ.out.2.2
 have i5:=H3.out.2.2.2.2.2.2.2.2.2.1
 have rP:=H3.out.2.2.2.2.2.2.2.2.2.2
 have ie:∀ g,g<W3.heap.size->(Value.slice a4 l.length c4).ownBlock≠some g->w4.heap[g]? = W3.heap[g]?:=fun g hg hn=>by
  rw [cm.block g (by rw [zK];omega) hn,Below.heap_alloc _ _ _ hg]
 have bx4:w4.heap[w1.heap.size]? = some (.cells #[.slice a5 (l.length+1) c5,.slice a4 l.length c4] 33 (0,0)):=by
  rw [ie _ (by omega) (fun e=>by have:=H3.out.2.2.2.2.2.2.1 _ e;omega)];exact H3.out.2.1
 have br4:w4.heap[w.heap.size+1]? = some (.cells #[.slice none 0 0,.slice none 0 0] 33 (0,0)):=by
  rw [ie _ (by omega) (fun e=>by have:=H3.out.2.2.2.2.2.2.1 _ e;omega)];exact H3.out.2.2.1
 have hm4:Own w4 9 1 (.slice a5 (l.length+1) c5) (l.length+1) (qg l++[str s]):=H3.out.2.2.2.2.1.keep fun g o hg ho=>by
  rw [ie g (zZ ho) (fun e=>H3.out.2.2.2.2.2.2.2.2.1 g hg e)];exact ho
 have E0:Below w.heap.size w w4:=(H3.out.2.2.2.2.2.1.alloc H3.out.2.2.2.2.2.1.size _).trans (cm.toBelow (by rw [zK];have:=H3.out.2.2.2.2.2.1.size;omega) fun i hi e=>by have:=H3.out.2.2.2.2.2.2.1 _ e;omega)
 have AV:∀ g,(Value.slice a6 (l.length+1) c6).ownBlock=some g->w.heap.size+2<=g/\g≠w1.heap.size:=fun g hg=>by
  rcases Eq g hg with h | h
  ·have h1:=H3.out.2.2.2.2.2.2.1 _ h;omega
  ·omega
 have rS:=H3.out.2.2.2.2.2.2.2.1
 obtain ⟨y0,y1,yf0,yf1⟩:=zJ bx4
 obtain ⟨W5,od⟩:=zzN (w4.setCell ⟨w1.heap.size,1,none⟩ (.slice a6 (l.length+1) c6))
 have bx5:W5.heap[w1.heap.size]? = some (.cells #[.slice a5 (l.length+1) c5,.slice a6 (l.length+1) c6] 33 (0,0)):=by rw [<- od,zQ bx4];rfl
 have ir:∀ g,g≠w1.heap.size->W5.heap[g]? = w4.heap[g]?:=fun g hg=>by rw [<- od];exact bf _ _ _ _ (by show g≠w1.heap.size;exact hg)
 have br5:W5.heap[w.heap.size+1]? = some (.cells #[.slice none 0 0,.slice none 0 0] 33 (0,0)):=by rw [ir _ (by omega)];exact br4
 have hm5:Own W5 9 1 (.slice a5 (l.length+1) c5) (l.length+1) (qg l++[str s]):=hm4.keep fun g o hg ho=>by rw [ir g (rS g hg).2];exact ho
 have s8:Own W5 3 1 (.slice a6 (l.length+1) c6) (l.length+1) (qy l++[.int .i64 p]):=ho4.keep fun g o hg ho=>by rw [ir g (AV g hg).2];exact ho
 have EZ:Below w.heap.size w W5:=by rw [<- od];exact E0.setCell (p:=⟨w1.heap.size,1,none⟩) (by show w.heap.size<=w1.heap.size;omega) _
 have H5:=bz (bj od (bj hm5 (bj s8 (bj EZ (bj rS (bj AV br5))))))
 obtain ⟨z0,z1,zf0,zf1⟩:=zJ bx5
 obtain ⟨q0,q1,BK,BJ⟩:=zJ br5
 clear od bx5 br5 hm5 s8 EZ rS AV ir E0 hm4 br4 bx4 ie rP i5 i9 iB i4 Eq cm ho4 x0 x1 xf0 xf1 y0 yf0
 have cE:w.heap.size+1≠w1.heap.size:=by have:=HZ.out.2;omega
 go_upto_region 4 with (fail)
 rw [H5.out.1]
 clear y1 yf1
 go_wp2_with fail
 have hV:=qe H5.out.2.2.2.2.2.2 (.slice a5 (l.length+1) c5) (.slice a6 (l.length+1) c6)
 obtain ⟨s0,s1,_,_⟩:=zJ hV
 have ef:=(H5.out.2.2.2.1.setCell (p:=⟨w.heap.size+1,0,none⟩) (Nat.le_succ _) (.slice a5 (l.length+1) c5)).setCell (p:=⟨w.heap.size+1,1,none⟩) (Nat.le_succ _) (.slice a6 (l.length+1) c6)
 refine bodyPost_ret (v:=.agg #[.slice a5 (l.length+1) c5,.slice a6 (l.length+1) c6]) (by simp [results,Tryz.results68,go_sem,s0,s1]) rfl ?_
 have cU:(l++[(s,p)]).length=l.length+1:=by simp
 refine ⟨_,_,rfl,⟨?_,?_⟩,ef,fun g hg=>?_⟩
 ·rw [cU,logM_snoc]
  exact H5.out.2.1.keep fun g o hg ho=>by
   have:=(H5.out.2.2.2.2.1 g hg).1
   rw [bf _ _ _ _ (by show g≠w.heap.size+1;omega),bf _ _ _ _ (by show g≠w.heap.size+1;omega)];exact ho
 ·rw [cU,logP_snoc]
  exact H5.out.2.2.1.keep fun g o hg ho=>by
   have:=(H5.out.2.2.2.2.2.1 g hg).1
   rw [bf _ _ _ _ (by show g≠w.heap.size+1;omega),bf _ _ _ _ (by show g≠w.heap.size+1;omega)];exact ho
 ·rcases hg with hg | hg
  ·have:=H5.out.2.2.2.2.1 g hg;omega
  ·have:=H5.out.2.2.2.2.2.1 g hg;omega
def lvD (lv:List zc):List DV:=lv.flatMap fun p=>[DV.val (.int .i64 (p.1:Nat)),DV.val (str p.2)]
def lvC (lv:List zc):List Value:=lv.flatMap fun p=>[.int .i64 (p.1:Nat),str p.2]
theorem g8 (a b:List zc):lvC (a++b)=lvC a++lvC b:=by simp [lvC]
theorem lvD_at:∀ (lv:List zc) (i:Nat) (p:zc),lv[i]? = some p->(lvD lv)[i*2]? = some (.val (.int .i64 (p.1:Nat)))/\(lvD lv)[i*2+1]? = some (.val (str p.2))
 | [],i,p,h=>by simp at h
 | q::lv,0,p,h=>by obtain rfl:q=p:=by simpa using h
                   exact ⟨rfl,rfl⟩
 | q::lv,i+1,p,h=>by
   rw [List.getElem?_cons_succ] at h
   have:=lvD_at lv i p h
   rw [show lvD (q::lv)=[DV.val (.int .i64 (q.1:Nat)),DV.val (str q.2)]++lvD lv from rfl,show (i+1)*2=2+i*2 from by omega]
   rw [List.getElem?_append_right (by simp),List.getElem?_append_right (by simp;omega)]
   simpa [Nat.add_sub_cancel_left,show 2+i*2+1-2=i*2+1 from by omega] using this
def jO (F:Nat->Prop) (w:World) (lv:List zc) (v:Value):Prop:=Rep F w (.sl 115 2 lv.length (lvD lv)) v
theorem jO.open {F:Nat->Prop} {w:World} {lv:List zc} {v:Value} (h:jO F w lv v):∃ a c,v=.slice a lv.length c /\
 ∀ (i:Nat) (p:zc),lv[i]? = some p->∃ b o,a=some ⟨b,o,none⟩/\F b/\b<w.heap.size/\w.cell? ⟨b,o+i*2,none⟩=some (.int .i64 (p.1:Nat))/\w.cell? ⟨b,o+i*2+1,none⟩=some (str p.2):=by
 unfold jO at h
 rw [qu] at h
 obtain ⟨hl,a,cap,hv,hn,hz,h⟩:=h
 refine ⟨a,cap,hv,fun i p hp=>?_⟩
 have hi:=(List.getElem?_eq_some_iff.1 hp).1
 obtain ⟨d1,d2⟩:=lvD_at lv i p hp
 rcases h with h | ⟨b,o,c,fr,ha,hb,hc,hr⟩
 ·omega
 ·obtain ⟨u1,k1,r1⟩:=hr.at d1
  obtain ⟨u2,k2,r2⟩:=hr.at d2
  rw [z8] at r1 r2
  subst r1;subst r2
  rw [List.getElem?_take,if_pos (by omega),List.getElem?_drop] at k1 k2
  exact ⟨b,o,ha,hb,zZ hc,by simp [World.cell?,hc];simpa using k1,by simp [World.cell?,hc,Nat.add_assoc];simpa using k2⟩
theorem kK {w:World} {b:Nat} {x y z u:Value} {T:TypeId} (h:w.heap[b]? = some (.cells #[x,y,z,u] T (0,0))):w.cell? ⟨b,0,none⟩=some x/\w.cell? ⟨b,1,none⟩=some y/\w.cell? ⟨b,2,none⟩=some z/\w.cell? ⟨b,3,none⟩=some u :=
 ⟨by simp [World.cell?,h],by simp [World.cell?,h],by simp [World.cell?,h],by simp [World.cell?,h]⟩
def TellP (m:Bs) (i:Nat) (w:World) (en:Ending) (w':World):Prop:=en=.returned (.tuple #[str m,.int .i64 (i:Nat)])/\Below w.heap.size w w'
set_option maxRecDepth 100000 in
theorem tells_leaf (F:Nat->Prop) (c:UInt8) (bv lsl:Value) (bg:zc) (w:World) (hb:Rep F w (qa (.leaf c)) bv) (FL:¬ c=117) (hl:bg.2.length<=1000) :
 Calls Tryz.prog 67 #[.agg #[bv,lsl,.int .i64 (bg.1:Nat),str bg.2]] w (TellP (c::bg.2) bg.1 w):=by
 have C:=bz (fun wz (h:Below w.heap.size w wz)=>pR F wz c bv (hb.below h (fun _ h=>h)))
 obtain ⟨b,sl,rfl,_,hc,_⟩:=wm hb
 obtain ⟨W,hW,b9,hz,bx⟩:=kV w (.cells #[.pointer (some ⟨b,0,none⟩),lsl,.int .i64 (bg.1:Nat),str bg.2] 117)
 have CW:=bz (C.out W b9)
 obtain ⟨e0,e1,e2,e3⟩:=kK bx
 have c1:W.cell? ⟨b,0,none⟩=some (.string ⟨#[c]⟩):=(b9.cell (by exact zZ hc)).trans (by simp [World.cell?,hc])
 have q1:(([c]:Bs) == [117])=false:=by rw [beq_eq_false_iff_ne];simpa using FL
 have a1:=fun w0=>k7 (P:=Tryz.prog) [c] bg.2 (by simp;omega) w0
 rw [List.singleton_append] at a1
 generalize hM:c::bg.2=M at *
 have HW:=bz (bj hW b9)
 clear hW b9 hz bx hc hb C FL hM e1
 go_enter Tryz.func67,Tryz.ntmps67
 go_upto_region 1 with (fail)
 rw [HW.out.1]
 go_wp2_with fail
 (with_reducible refine CW.out.mono ?_)
 rintro en w1 ⟨rfl,ew⟩
 subst ew
 go_wp2_with fail
 go_quiet (fail)
 go_wp2_with fail
 go_ret2
 exact ⟨rfl,z9 HW.out.2 _⟩
set_option maxRecDepth 100000 in
theorem tells_ask (F:Nat->Prop) (l:Nat) (ss:List Bd) (y n:Bd) (bv lsl:Value) (lv:List zc) (bg pl:zc) (w:World) (hb:Rep F w (qa (.ask l ss y n)) bv) (dT:jO F w lv lsl) (cG:lv[l]? = some pl) (hl:pl.2.length<=1000) (eC:lv.length<=100000) :
 Calls Tryz.prog 67 #[.agg #[bv,lsl,.int .i64 (bg.1:Nat),str bg.2]] w (TellP (113::pl.2) pl.1 w):=by
 have C:=bz (fun wz (h:Below w.heap.size w wz)=>isList_ask F wz l ss y n bv (hb.below h (fun _ h=>h)))
 obtain ⟨b,sl,yv,nv,rfl,_,hc,_⟩:=wB hb
 obtain ⟨la,lc,rfl,hat⟩:=dT.open
 obtain ⟨lb,lo,rfl,_,Ei,t0,t1⟩:=hat l pl cG
 have cQ:=(List.getElem?_eq_some_iff.1 cG).1
 have dU:(l:Int)<(lv.length:Int):=by omega
 obtain ⟨W,hW,b9,hz,bx⟩:=kV w (.cells #[.pointer (some ⟨b,0,none⟩),.slice (some ⟨lb,lo,none⟩) lv.length lc,.int .i64 (bg.1:Nat),str bg.2] 117)
 have CW:=bz (C.out W b9)
 have c1:W.cell? ⟨b,1,none⟩=some (.int .i64 (l:Nat)):=(b9.cell (by exact zZ hc)).trans (by simp [World.cell?,hc])
 have t0W:=(b9.cell (p:=⟨lb,lo+l*2,none⟩) Ei).trans t0
 have t1W:=(b9.cell (p:=⟨lb,lo+l*2+1,none⟩) Ei).trans t1
 have Eh:lb<W.heap.size:=by omega
 have hbb:b<W.heap.size:=by have:=zZ hc;omega
 have KEY:Hid (∀ x,Below W.heap.size W x->x.cell? ⟨w.heap.size,0,none⟩=some (.pointer (some ⟨b,0,none⟩))/\x.cell? ⟨w.heap.size,1,none⟩=some (.slice (some ⟨lb,lo,none⟩) lv.length lc)/\x.cell? ⟨b,1,none⟩=some (.int .i64 (l:Nat))/\x.cell? ⟨lb,lo+l*2,none⟩=some (.int .i64 (pl.1:Nat))/\x.cell? ⟨lb,lo+l*2+1,none⟩=some (str pl.2)):=bz (fun x hx=>by
  obtain ⟨k0,k1,_,_⟩:=kK bx
  exact ⟨(hx.cell (bp _ _ k0)).trans k0,(hx.cell (bp _ _ k1)).trans k1,(hx.cell hbb).trans c1,(hx.cell Eh).trans t0W,(hx.cell Eh).trans t1W⟩)
 obtain ⟨e0,_,_,_⟩:=kK bx
 have a1:=fun w0=>k7 (P:=Tryz.prog) [113] pl.2 (by simp;omega) w0
 rw [List.singleton_append] at a1
 generalize hM:113::pl.2=M at *
 have HW:=bz (bj hW b9)
 clear hW b9 hz bx hc hb C hM hat cG dT t0 t1 t0W t1W c1 Ei
 go_enter Tryz.func67,Tryz.ntmps67
 go_upto_region 1 with (fail)
 rw [HW.out.1]
 go_wp2_with fail
 (with_reducible refine CW.out.mono ?_)
 rintro en w1 ⟨rfl,ew⟩
 subst ew
 go_wp2_with fail
 refine wp_region_noPanic ?_
 refine zW (fun w'=>Below w1.heap.size w1 w') (fun i=>i == 10) (by kernel_rfl) ?_
 have cZ:(fun w'=>Below w1.heap.size w1 w') w1.drew:=Below.drew (bh _ _)
 refine tk [0,1,2,3,4,5,6,7,8] cZ ?_
 (intro d hd;simp [tkD] at hd;subst hd;simp only [tks,pQ,pZ,pS])
 iterate 9 (refine ⟨?_,?_,?_⟩;rotate_left;· (intro oi ho;simp at ho;subst ho;refine Or.inl ⟨by rfl,fun w' b_=>?_⟩;obtain ⟨e0,e1,e2,e3,e4⟩:=KEY.out w' b_;go_simp;try with_reducible rfl))
 (refine on 9 ?_;intro o ho K' hK;simp at ho;subst ho;go_simp)
 (refine hK.out _ _ (fun _=>cZ.alloc (bw _) _) ?_;clear hK K';try simp only [pQ,pN,pZ,pS])
 (refine on 10 ?_;intro o ho K' hK;simp at ho;subst ho;go_simp)
 (refine hK.out _ _ (fun h=>by simp at h) ?_;clear hK K';try simp only [pQ,pN,pZ,pS])
 refine zU (by kernel_rfl) (NoPanic.normal ?_) _
 obtain ⟨V,hV,A6,_,bV⟩:=kV w1 (.cells #[.int .i64 (pl.1:Nat),str pl.2] 115)
 obtain ⟨v0,v1,_,_⟩:=zJ bV
 have v0':V.drew.cell? ⟨w1.heap.size,0,none⟩=some (.int .i64 (pl.1:Nat)):=v0
 have v1':V.drew.cell? ⟨w1.heap.size,1,none⟩=some (str pl.2):=v1
 rw [hV]
 have HV:=bz (zzT HW.out.2 A6)
 clear hV A6 bV cZ v0' v1'
 go_wp2_with fail
 go_quiet (fail)
 go_wp2_with fail
 go_ret2
 exact ⟨rfl,z9 HV.out.drew _⟩
theorem growP_any (n:Nat) (w:World) (hn:Lim n) :
 Calls Tryz.prog 145 #[.slice none 0 0,.int .i64 n] w fun en w' =>
  ∃ a c,en=.returned (.slice a 0 c)/\Own w' 115 2 (.slice a 0 c) 0 []/\Below w.heap.size w w'/\(∀ g,(Value.slice a 0 c).ownBlock=some g->w.heap.size<=g):=by
 have hl:=hn.le
 by_cases h0:n=0
 ·subst h0
  go_enter Tryz.func145,Tryz.ntmps145
  go_wp2_with fail
  go_ret
  exact ⟨none,0,rfl,World.ownsRow_nil _ _ _ _,bh _ _,fun g h=>by simp [Value.ownBlock] at h⟩
 ·have h1:0<n:=by omega
  clear h0
  go_enter Tryz.func145,Tryz.ntmps145
  go_wp2_with (at_builtin;refine vW rfl _ _ 113 3 rfl 115 (.agg #[.int .i64 0,str []]) 2 24 Tryz.underlying113 Tryz.underlying3 Tryz.infoPl rfl (by decide) (by decide) rfl n rfl h1 hl ?_)
  intro cap c mz fQ aD
  go_wp2_with fail
  go_ret
  exact ⟨_,cap,rfl,⟨by simp,.inr ⟨w.heap.size,cap,c,rfl,Nat.zero_le _,zR w _,Nat.zero_le _,fQ,by simpa using aD,by simp⟩⟩,((bh _ _).alloc (bw _) _).drew,fun g h=>by simp [Value.ownBlock] at h;omega⟩
def yf (e:TypeId) (w:World) (n1 n2:Nat) (xs1 xs2:List Value) (v i:Value) (wr:World):Prop :=
 ∃ k m xs a c,i=.int .i64 (k:Nat)/\v=.slice a m c/\Own wr e 2 (.slice a m c) m xs/\Below w.heap.size w wr/\(∀ g,(Value.slice a m c).ownBlock=some g->w.heap.size<=g) /\
   ((k=0/\m=0/\xs=[])\/(k=1/\m=n1/\xs=xs1)\/(k=2/\m=n1+n2/\xs=xs1++xs2))
theorem yf.next {e:TypeId} {w:World} {n1 n2:Nat} {xs1 xs2:List Value} {k m m':Nat} {xs:List Value} {a a':Option Addr} {c c':Nat} {wr w':World}
 (ho:Own w' e 2 (.slice a' m' c') m' xs) (hb:Below w.heap.size w wr) (dM:But (fun b=>(Value.slice a m c).ownBlock=some b) wr w')
 (hf:∀ g,(Value.slice a m c).ownBlock=some g->w.heap.size<=g) (hg:∀ g,(Value.slice a' m' c').ownBlock=some g->(Value.slice a m c).ownBlock=some g\/g=wr.heap.size)
 (hk:(k=0/\m'=0/\xs=[])\/(k=1/\m'=n1/\xs=xs1)\/(k=2/\m'=n1+n2/\xs=xs1++xs2)):yf e w n1 n2 xs1 xs2 (.slice a' m' c') (.int .i64 (k:Nat)) w' :=
 ⟨k,m',xs,a',c',rfl,rfl,ho,hb.trans (dM.toBelow hb.size fun i hi h=>by have:=hf i h;omega),fun g h=>by
  rcases hg g h with h | h
  ·exact hf g h
  ·have:=hb.size;omega,hk⟩
theorem concatP_any (b n1 n2:Nat) (s1 s2:Value) (xs1 xs2:List Value) (w:World) (c1:w.cell? ⟨b,0,none⟩=some s1) (c2:w.cell? ⟨b,1,none⟩=some s2)
 (h1:zM 2 s1 n1 xs1 w) (h2:zM 2 s2 n2 xs2 w) (dX:Lim n1) (fP:Lim n2) (hn:Lim (n1+n2)) :
 Calls Tryz.prog 134 #[.slice (some ⟨b,0,none⟩) 2 2] w fun en w' =>
  ∃ a c,en=.returned (.slice a (n1+n2) c)/\Own w' 115 2 (.slice a (n1+n2) c) (n1+n2) (xs1++xs2)/\Below w.heap.size w w'/\(∀ g,(Value.slice a (n1+n2) c).ownBlock=some g->w.heap.size<=g):=by
 obtain ⟨a1,k1,rfl⟩:=h1.slice
 obtain ⟨a2,k2,rfl⟩:=h2.slice
 have hl:=hn.le;have iA:=dX.le;have Ej:=fP.le
 have lb:b<w.heap.size:=bp w _ c1
 go_enter Tryz.func134,Tryz.ntmps134
 go_wp2_with fail
 go_loop [3,11] (fun n i=>(i=.int .i64 0/\n=.int .i64 0)\/(i=.int .i64 1/\n=.int .i64 n1)\/(i=.int .i64 2/\n=.int .i64 ((n1:Int)+(n2:Int)))) (fun _ i=>2-(intOf i).toNat)
 case atStart=>exact .inl ⟨rfl,rfl⟩
 case round =>
  rcases hrel with ⟨rfl,rfl⟩ | ⟨rfl,rfl⟩ | ⟨rfl,rfl⟩
  ·go_wp2_with fail
   go_round
   case rel=>exact .inr (.inl ⟨rfl,rfl⟩)
   case measure=>simp [intOf]
  ·go_wp2_with fail
   go_round
   case rel=>exact .inr (.inr ⟨rfl,rfl⟩)
   case measure=>simp [intOf]
  ·go_wp2_with fail
   rw [show (n1:Int)+(n2:Int)=((n1+n2:Nat):Int) from by omega]
   refine (growP_any (n1+n2) w hn).mono ?_
   rintro en wg ⟨ag,cg,rfl,DO,rU,Ev⟩
   have ft:yf 115 w n1 n2 xs1 xs2 (.slice ag 0 cg) (.int .i64 (0:Nat)) wg:=⟨0,0,[],ag,cg,rfl,rfl,DO,rU,Ev,.inl ⟨rfl,rfl,rfl⟩⟩
   clear DO rU Ev
   go_wp2_with fail
   go_loopw [6,27] (fun v i wr=>yf 115 w n1 n2 xs1 xs2 v i wr) (fun _ i _=>2-(intOf i).toNat)
   case atStart=>exact ft
   case round =>
    rename_i wr
    obtain ⟨k,m,xs,a,c,rfl,rfl,ho,hb,hf,hk⟩:=hrel
    have d1:wr.cell? ⟨b,0,none⟩=some (.slice a1 n1 k1):=by rw [hb.cell lb];exact c1
    have d2:wr.cell? ⟨b,1,none⟩=some (.slice a2 n2 k2):=by rw [hb.cell lb];exact c2
    have g1:=h1.below hb;have g2:=h2.below hb
    have HF:=bz hf;clear hf
    rcases hk with ⟨rfl,rfl,rfl⟩ | ⟨rfl,rfl,rfl⟩ | ⟨rfl,rfl,rfl⟩
    ·go_wp2_with (at_builtin;refine zC rfl _ _ 113 rfl 115 (.agg #[.int .i64 0,str []]) 2 24 Tryz.underlying113 Tryz.infoPl rfl (by decide) _ 0 [] rfl ho _ n1 xs1 rfl g1 ?c3 ?c4 ?_)
     case c3=>unfold maxLen;omega
     case c4=>omega
     intro a' c' w' mA dK dR
     have ft:=yf.next (n1:=n1) (n2:=n2) (xs1:=xs1) (xs2:=xs2) (k:=1) mA hb dK HF.out dR (.inr (.inl ⟨rfl,rfl,rfl⟩))
     clear dK dR mA HF
     go_wp2_with fail
     go_roundw
     case rel=>exact ft
     case measure=>simp [intOf]
    ·go_wp2_with (at_builtin;refine zC rfl _ _ 113 rfl 115 (.agg #[.int .i64 0,str []]) 2 24 Tryz.underlying113 Tryz.infoPl rfl (by decide) _ m xs rfl ho _ n2 xs2 rfl g2 ?c3 ?c4 ?_)
     case c3=>unfold maxLen;omega
     case c4=>omega
     intro a' c' w' mA dK dR
     have ft:=yf.next (n1:=m) (n2:=n2) (xs1:=xs) (xs2:=xs2) (k:=2) mA hb dK HF.out dR (.inr (.inr ⟨rfl,rfl,rfl⟩))
     clear dK dR mA HF
     go_wp2_with fail
     go_roundw
     case rel=>exact ft
     case measure=>simp [intOf]
    ·go_wp2_with fail
     go_ret
     exact ⟨a,c,rfl,ho,hb,HF.out⟩
theorem Reps_lv (F:Nat->Prop) (w:World):∀ lv:List zc,zv F w (lvD lv) (lvC lv)
 | []=>zm.2 rfl
 | p::lv=>by
   rw [show lvD (p::lv)=DV.val (.int .i64 (p.1:Nat))::DV.val (str p.2)::lvD lv from rfl,show lvC (p::lv)=.int .i64 (p.1:Nat)::str p.2::lvC lv from rfl]
   exact zG.2 ⟨_,_,rfl,z8.2 rfl,zG.2 ⟨_,_,rfl,z8.2 rfl,Reps_lv F w lv⟩⟩
theorem xS {F:Nat->Prop} {w:World}:∀ (lv:List zc) (us:List Value),zv F w (lvD lv) us->us=lvC lv
 | [],us,h=>zm.1 h
 | p::lv,us,h=>by
   rw [show lvD (p::lv)=DV.val (.int .i64 (p.1:Nat))::DV.val (str p.2)::lvD lv from rfl] at h
   obtain ⟨u,us1,rfl,h1,h2⟩:=zG.1 h
   obtain ⟨u2,dS,rfl,h3,h4⟩:=zG.1 h2
   rw [z8] at h1 h3
   subst h1;subst h3
   rw [xS lv dS h4];rfl
theorem lvC_one:∀ (lv:List zc),∀ u∈lvC lv,u.oneCell'=true
 | [],u,h=>by simp [lvC] at h
 | p::lv,u,h=>by
   rw [show lvC (p::lv)=.int .i64 (p.1:Nat)::str p.2::lvC lv from rfl] at h
   rcases List.mem_cons.1 h with rfl | h
   ·simp [Value.oneCell']
   ·rcases List.mem_cons.1 h with rfl | h
    ·simp [str,Value.oneCell']
    ·exact lvC_one lv u h
theorem jO.src {F:Nat->Prop} {w:World} {lv:List zc} {v:Value} (h:jO F w lv v):zM 2 v lv.length (lvC lv) w:=by
 obtain ⟨xs,hx,hs⟩:=zM.ofRep h (fun us hu u hm=>by rw [xS lv us hu] at hm;exact lvC_one lv u hm)
 rw [xS lv xs hx] at hs;exact hs
theorem plcs_eq (b:Nat) (p:Bs):∀ n:Nat,plcs b p n=lvC (zh n b p)
 | 0=>rfl
 | n+1=>by rw [plcs,plcs_eq b p n,placesOf_succ,g8];rfl
theorem Own.lv {F:Nat->Prop} {w:World} {lv:List zc} {a:Option Addr} {n c:Nat} (h:Own w 115 2 (.slice a n c) n (lvC lv)) (hn:n=lv.length) (hF:∀ g,(Value.slice a n c).ownBlock=some g->F g):jO F w lv (.slice a n c):=by
 subst hn
 exact h.rep hF (Reps_lv F w lv)
theorem jO.but {F F':Nat->Prop} {m:Nat->Prop} {w w':World} {lv:List zc} {v:Value} (h:jO F w lv v) (hb:But m w w') (hF:∀ b,F b->¬ m b/\F' b):jO F' w' lv v:=Rep.but hb hF h
theorem jO.below {F F':Nat->Prop} {w w':World} {lv:List zc} {v:Value} (h:jO F w lv v) (hb:Below w.heap.size w w') (hF:∀ b,F b->F' b):jO F' w' lv v:=Rep.below hb hF h
def StandP (bv:Value) (lv:List zc) (bg:zc) (w:World) (en:Ending) (w':World):Prop :=
 ∃ la lc,en=.returned (.agg #[bv,.slice la lv.length lc,.int .i64 (bg.1:Nat),str bg.2])/\Below w.heap.size w w'/\jO (w.heap.size<=·) w' lv (.slice la lv.length lc)
theorem uW {w:World} {b:Nat} {x y z u:Value} {T:TypeId} (h:w.heap[b]? = some (.cells #[x,y,z,u] T (0,0))) (x' y' z' u':Value):((((w.setCell ⟨b,0,none⟩ x').setCell ⟨b,1,none⟩ y').setCell ⟨b,2,none⟩ z').setCell ⟨b,3,none⟩ u').heap[b]? = some (.cells #[x',y',z',u'] T (0,0)):=by
 rw [zQ (zQ (zQ (zQ h)))];rfl
theorem zB {w:World} {b:Nat} {c:Array Value} {T:TypeId} (h:w.heap[b]? = some (.cells c T (0,0))) (o:Nat):w.frozen? ⟨b,o,none⟩=false:=by simp [World.frozen?,h]
set_option maxRecDepth 100000 in
theorem standOf_any (F:Nat->Prop) (t:Ty) (kv bv:Value) (idx:Nat) (w:World) (hg:jD w) (hk:Rep F w (jA t) kv) (ht:zP t<=15) (hbv:∃ a,bv=.pointer a) :
 Calls Tryz.prog 103 #[kv,bv,.int .i64 (idx:Nat)] w (StandP bv (zh t.args.length idx []) (idx,[]) w):=by
 obtain ⟨ba,rfl⟩:=hbv
 obtain ⟨kb,ks,rfl,_,hb,s7⟩:=zf hk
 obtain ⟨sa,sc,rfl,fb,cU,cO⟩:=zI s7
 have eO:=kt t
 obtain ⟨W,hW,b9,hz,bx⟩:=kV w (.cells #[.pointer none,.slice none 0 0,.int .i64 0,str []] 117)
 have c0:W.cell? ⟨kb,0,none⟩=some (.slice sa t.args.length sc):=(b9.cell (by exact zZ hb)).trans (by simp [World.cell?,hb])
 have C:=bz (gh t.args.length idx [] W (hg.below b9) (by omega) (by simp))
 have HW:=bz (bj hW (bj b9 (bj hz bx)))
 clear hW b9 hz bx hk hb s7 cO cU fb hg
 go_enter Tryz.func103,Tryz.ntmps103
 go_upto_region 1 with (fail)
 rw [HW.out.1]
 go_wp2_with fail
 (with_reducible refine C.out.mono ?_)
 rintro en w1 ⟨la,lc,rfl,ho,bi,hf⟩
 rw [plcs_eq] at ho
 have b1:=(bi.block _ (zZ HW.out.2.2.2)).trans HW.out.2.2.2
 obtain ⟨z0,z1,z2,z3⟩:=kK b1
 have f0:=zB b1 0;have f1:=zB b1 1;have f2:=zB b1 2;have f3:=zB b1 3
 have H1:=bz (bj ho (bj bi (bj hf b1)))
 clear ho bi hf b1 c0 C
 go_wp2_with fail
 have hV:=uW H1.out.2.2.2 (.pointer ba) (.slice la t.args.length lc) (.int .i64 (idx:Nat)) (str [])
 obtain ⟨s0,s1,s2,s3⟩:=kK hV
 have BS:=HW.out.2.2.1
 have ef:=((((zzT HW.out.2.1 H1.out.2.1).setCell (p:=⟨w.heap.size,0,none⟩) (bw _) (.pointer ba)).setCell (p:=⟨w.heap.size,1,none⟩) (bw _) (.slice la t.args.length lc)).setCell (p:=⟨w.heap.size,2,none⟩) (bw _) (.int .i64 (idx:Nat))).setCell (p:=⟨w.heap.size,3,none⟩) (bw _) (str [])
 refine bodyPost_ret (v:=.agg #[.pointer ba,.slice la t.args.length lc,.int .i64 (idx:Nat),str []]) (by simp [results,Tryz.results103,go_sem,s0,s1,s2,s3]) rfl ?_
 refine ⟨la,lc,by rw [zl],ef,?_⟩
 rw [zl]
 refine Own.lv ?_ (by rw [zl]) (fun g hg=>by have:=H1.out.2.2.1 g hg;omega)
 exact H1.out.1.keep fun g o hg ho=>by
  have:=H1.out.2.2.1 g hg
  rw [bf _ _ _ _ (by show g≠w.heap.size;omega),bf _ _ _ _ (by show g≠w.heap.size;omega),bf _ _ _ _ (by show g≠w.heap.size;omega),bf _ _ _ _ (by show g≠w.heap.size;omega)];exact ho
def BehT (bv':Bd) (F:Nat->Prop) (lsl:Value) (bg:zc) (w:World) (en:Ending) (w':World):Prop :=
 ∃ a,en=.returned (.agg #[.pointer (some ⟨a,0,none⟩),lsl,.int .i64 (bg.1:Nat),str bg.2])/\Below w.heap.size w w'/\Rep F w (qa bv') (.pointer (some ⟨a,0,none⟩))
set_option maxRecDepth 100000 in
theorem behind_ans (c:UInt8) (hc:c=116\/c=102) (F:Nat->Prop) (l:Nat) (ss:List Bd) (y n:Bd) (bv kv:Value) (la:Option Addr) (ln lc:Nat) (bg:zc) (M:Bs) (idx:Nat) (w:World) (hb:Rep F w (qa (.ask l ss y n)) bv) (hM:0<M.length) (d_:M[0]=c) (sK:∃ a,kv=.pointer a) :
 Calls Tryz.prog 104 #[.agg #[bv,.slice la ln lc,.int .i64 (bg.1:Nat),str bg.2],kv,str M,.int .i64 (idx:Nat)] w (BehT (if c=116 then y else n) F (.slice la ln lc) bg w):=by
 obtain ⟨ka,rfl⟩:=sK
 obtain ⟨b,sl,yv,nv,rfl,_,rI,hs,hy,hn⟩:=wB hb
 obtain ⟨ya,rfl⟩:=qk hy
 obtain ⟨na,rfl⟩:=qk hn
 obtain ⟨W,hW,b9,hz,b0,b1⟩:=kD w (.cells #[.pointer (some ⟨b,0,none⟩),.slice la ln lc,.int .i64 (bg.1:Nat),str bg.2] 117) (.cells #[.pointer none,.slice none 0 0,.int .i64 0,str []] 117)
 have A5:W.heap[b]? = w.heap[b]?:=b9.block _ (zZ rI)
 have cY:W.cell? ⟨b,3,none⟩=some (.pointer (some ⟨ya,0,none⟩)):=by simp [World.cell?,A5,rI]
 have cN:W.cell? ⟨b,4,none⟩=some (.pointer (some ⟨na,0,none⟩)):=by simp [World.cell?,A5,rI]
 obtain ⟨e0,e1,e2,e3⟩:=kK b0
 have f0:=zB b0 0
 have Q:=bz (bj hy hn)
 have HW:=bz (bj hW (bj b9 (bj hz (bj b0 b1))))
 clear hW b9 hz b0 b1 A5 rI hs hy hn hb e1 e2 e3
 rcases hc with rfl | rfl
 ·have q1:=j_ hM (c:=116) (n:=116) rfl d_
  clear d_
  go_enter Tryz.func104,Tryz.ntmps104
  go_upto_region 1 with (fail)
  rw [HW.out.1]
  go_upto_region 10 with (fail)
  obtain ⟨W2,mD⟩:=zzN (W.setCell ⟨w.heap.size,0,none⟩ (.pointer (some ⟨ya,0,none⟩)))
  have x0:W2.heap[w.heap.size]? = some (.cells #[.pointer (some ⟨ya,0,none⟩),.slice la ln lc,.int .i64 (bg.1:Nat),str bg.2] 117 (0,0)):=by rw [<- mD,zQ HW.out.2.2.2.1];rfl
  have x1:W2.heap[w.heap.size+1]? = some (.cells #[.pointer none,.slice none 0 0,.int .i64 0,str []] 117 (0,0)):=by rw [<- mD,bf _ _ _ _ (by show w.heap.size+1≠w.heap.size;omega)];exact HW.out.2.2.2.2
  have cK:Below w.heap.size w W2:=by rw [<- mD];exact HW.out.2.1.setCell (p:=⟨w.heap.size,0,none⟩) (bw _) _
  rw [mD]
  obtain ⟨y0,y1,y2,y3⟩:=kK x0
  obtain ⟨z0,z1,z2,z3⟩:=kK x1
  have g0:=zB x1 0;have g1:=zB x1 1;have g2:=zB x1 2;have g3:=zB x1 3
  have H2:=bz (bj cK x1)
  clear cK x0 x1 mD e0 f0 cY cN
  go_wp2_with fail
  have hV:=uW H2.out.2 (.pointer (some ⟨ya,0,none⟩)) (.slice la ln lc) (.int .i64 (bg.1:Nat)) (str bg.2)
  obtain ⟨s0,s1,s2,s3⟩:=kK hV
  have ef:=(((H2.out.1.setCell (p:=⟨w.heap.size+1,0,none⟩) (Nat.le_succ _) (.pointer (some ⟨ya,0,none⟩))).setCell (p:=⟨w.heap.size+1,1,none⟩) (Nat.le_succ _) (.slice la ln lc)).setCell (p:=⟨w.heap.size+1,2,none⟩) (Nat.le_succ _) (.int .i64 (bg.1:Nat))).setCell (p:=⟨w.heap.size+1,3,none⟩) (Nat.le_succ _) (str bg.2)
  refine bodyPost_ret (v:=.agg #[.pointer (some ⟨ya,0,none⟩),.slice la ln lc,.int .i64 (bg.1:Nat),str bg.2]) (by simp [results,Tryz.results104,go_sem,s0,s1,s2,s3]) rfl ?_
  exact ⟨_,rfl,ef,Q.out.1⟩
 ·have q0:=jC hM (c:=116) (n:=116) rfl (by rw [d_];decide)
  have q1:=j_ hM (c:=102) (n:=102) rfl d_
  clear d_
  go_enter Tryz.func104,Tryz.ntmps104
  go_upto_region 1 with (fail)
  rw [HW.out.1]
  go_upto_region 10 with (fail)
  obtain ⟨W2,mD⟩:=zzN (W.setCell ⟨w.heap.size,0,none⟩ (.pointer (some ⟨na,0,none⟩)))
  have x0:W2.heap[w.heap.size]? = some (.cells #[.pointer (some ⟨na,0,none⟩),.slice la ln lc,.int .i64 (bg.1:Nat),str bg.2] 117 (0,0)):=by rw [<- mD,zQ HW.out.2.2.2.1];rfl
  have x1:W2.heap[w.heap.size+1]? = some (.cells #[.pointer none,.slice none 0 0,.int .i64 0,str []] 117 (0,0)):=by rw [<- mD,bf _ _ _ _ (by show w.heap.size+1≠w.heap.size;omega)];exact HW.out.2.2.2.2
  have cK:Below w.heap.size w W2:=by rw [<- mD];exact HW.out.2.1.setCell (p:=⟨w.heap.size,0,none⟩) (bw _) _
  rw [mD]
  obtain ⟨y0,y1,y2,y3⟩:=kK x0
  obtain ⟨z0,z1,z2,z3⟩:=kK x1
  have g0:=zB x1 0;have g1:=zB x1 1;have g2:=zB x1 2;have g3:=zB x1 3
  have H2:=bz (bj cK x1)
  clear cK x0 x1 mD e0 f0 cY cN
  go_wp2_with fail
  have hV:=uW H2.out.2 (.pointer (some ⟨na,0,none⟩)) (.slice la ln lc) (.int .i64 (bg.1:Nat)) (str bg.2)
  obtain ⟨s0,s1,s2,s3⟩:=kK hV
  have ef:=(((H2.out.1.setCell (p:=⟨w.heap.size+1,0,none⟩) (Nat.le_succ _) (.pointer (some ⟨na,0,none⟩))).setCell (p:=⟨w.heap.size+1,1,none⟩) (Nat.le_succ _) (.slice la ln lc)).setCell (p:=⟨w.heap.size+1,2,none⟩) (Nat.le_succ _) (.int .i64 (bg.1:Nat))).setCell (p:=⟨w.heap.size+1,3,none⟩) (Nat.le_succ _) (str bg.2)
  refine bodyPost_ret (v:=.agg #[.pointer (some ⟨na,0,none⟩),.slice la ln lc,.int .i64 (bg.1:Nat),str bg.2]) (by simp [results,Tryz.results104,go_sem,s0,s1,s2,s3]) rfl ?_
  exact ⟨_,rfl,ef,Q.out.2⟩
inductive Tr where
 | am (a:Bs)
 | ls (ps:List Tr)
def trT:Ty->Tr
 | .mk ts=>trTs ts
where trTs:List Ty->Tr
 | []=>.am [98]
 | t::ts=>.ls [.am [62],trT t,trTs ts]


theorem yD (n lo hi:Int) (w:World):Calls Tryz.prog 119 #[.int .i64 n,.int .i64 lo,.int .i64 hi] w fun en w'=>en=.returned (.bool (decide (lo<=n) && decide (n<=hi)))/\w'=w:=by
 by_cases h1:lo<=n
 ·by_cases h2:n<=hi
  ·go_enter Tryz.func119,Tryz.ntmps119
   go_wp2_with fail
   go_ret
   exact ⟨by simp [h1,h2],rfl⟩
  ·go_enter Tryz.func119,Tryz.ntmps119
   go_wp2_with fail
   go_ret
   exact ⟨by simp [h1,h2],rfl⟩
 ·go_enter Tryz.func119,Tryz.ntmps119
  go_wp2_with fail
  go_ret
  exact ⟨by simp [h1];omega,rfl⟩
def BoxT (g:Nat) (s:Bs) (k:Value) (w:World):Prop:=w.cell? ⟨g,0,none⟩=some (str s)/\w.cell? ⟨g,1,none⟩=some k
theorem BoxT.below {g:Nat} {s:Bs} {k:Value} {w w':World} (h:BoxT g s k w) (hb:Below w.heap.size w w'):BoxT g s k w':=by
 obtain ⟨h1,h2⟩:=h
 have:=bp w _ h1
 exact ⟨by rw [hb.cell (by exact this)];exact h1,by rw [hb.cell (by exact this)];exact h2⟩
def LAtPost (F:Nat->Prop) (t:Ty) (p:Bs) (w:World) (en:Ending) (w':World):Prop :=
 ∃ va vn vc,en=.returned (.tuple #[.agg #[.slice va vn vc],.bool (atT t p).isSome])/\Below w.heap.size w w'/\∀ a,atT t p=some a->Rep F w (qP a) (.slice va vn vc)
theorem kF {w:World} {b:Nat} {x:Value} {T:TypeId} (h:w.heap[b]? = some (.cells #[x] T (0,0))):w.cell? ⟨b,0,none⟩=some x:=by simp [World.cell?,h]
theorem p9 {w:World} {b:Nat} {x:Value} {T:TypeId} (h:w.heap[b]? = some (.cells #[x] T (0,0))) (u:Value):(w.setCell ⟨b,0,none⟩ u).heap[b]? = some (.cells #[u] T (0,0)):=by
 rw [zQ h];rfl
set_option maxRecDepth 100000 in
theorem l1At_any (F:Nat->Prop) (t:Ty) (p:Bs) (tv:Value) (w:World) (h:Rep F w (qP t) tv) (ht:zP t<=15) (hp:Lim p.length) :
 Calls Tryz.prog 129 #[.agg #[tv],str p] w (LAtPost F t p w):=by
 have dd:=hp.le
 obtain ⟨ta,tc,rfl⟩:=zp h
 obtain ⟨W,hW,b9,hz,b0,b1⟩:=kD w (.cells #[.slice ta t.args.length tc] 61) (.cells #[.slice none 0 0] 61)
 have HW:=bz (bj hW (bj b9 (bj b0 b1)))
 have H:=bz h
 clear hW b9 hz b0 b1 h
 go_enter Tryz.func129,Tryz.ntmps129
 go_upto_region 1 with (fail)
 rw [HW.out.1]
 go_wp2_with fail
 go_loopw [6] (fun i wr=>∃ (j:Nat) (a:Ty) (v:Value),j<=p.length/\i=.int .i64 j/\atT t (p.take j)=some a/\Rep F w (qP a) v/\wr.heap[w.heap.size]? = some (.cells #[v] 61 (0,0))/\wr.heap[w.heap.size+1]? = some (.cells #[.slice none 0 0] 61 (0,0))/\Below w.heap.size w wr) (fun i _=>p.length-(intOf i).toNat)
 case atStart=>exact ⟨0,t,_,Nat.zero_le _,rfl,by rw [List.take_zero];exact jk t,H.out,HW.out.2.2.1,HW.out.2.2.2,HW.out.2.1⟩
 case round =>
  rename_i wr
  obtain ⟨j,a,v,hj,rfl,hat,hr,eI,bi,eD⟩:=hrel
  obtain ⟨va,vc,rfl⟩:=zp hr
  have c0:=kF eI
  have c1:=kF bi
  have f0:=zB eI 0
  have f1:=zB bi 0
  have HB:=bz (bj eI (bj bi eD))
  by_cases cQ:j<p.length
  ·have mH:(j:Int)<(p.length:Int):=by omega
   have mS:=hr
   rw [qn] at mS
   obtain ⟨sa,sc,e,fb,cU,cO⟩:=zI mS
   simp only [Value.slice.injEq] at e
   obtain ⟨rfl,_,rfl⟩:=e
   have Be:=qH _ _ _ hat
   have eO:=kt a
   have iq:a.args.length<=7:=by omega
   obtain ⟨x,hx⟩:∃ x:Nat,p[j].toNat=x:=⟨_,rfl⟩
   have tD:x<256:=by rw [<- hx];exact UInt8.toNat_lt _
   have B:((((⟨p.toArray⟩:ByteArray)[j]'(kP cQ)).toNat:Int))=(x:Int):=by rw [kr cQ,hx]
   have Ak:IntKind.i64.wrap (x:Int)=(x:Int):=k_ x (by omega)
   have hw3:IntKind.i64.wrap ((a.args.length:Int)-1)=(a.args.length:Int)-1:=by simp [IntKind.wrap,IntKind.bits,IntKind.signed];omega
   have dw:=atT_step cQ hat
   rw [hx] at dw
   have HS:=bz dw
   have HH:=bz (bj cO (bj cU (bj fb hr)))
   clear dw cO cU fb hr mS hat Be eO hx eI bi eD
   by_cases hA:x<48
   ·have rh:IntKind.i64.wrap ((x:Int)-48)=(x:Int)-48:=by simp [IntKind.wrap,IntKind.bits,IntKind.signed];omega
    have HN:=bz (show atT t p=none from wH (j:=j+1) (by rw [HS.out,if_neg (show ¬ 48<=x by omega)]))
    have hd:(decide ((0:Int)<=(x:Int)-48) && decide ((x:Int)-48<=(a.args.length:Int)-1))=false:=by
     rw [Bool.and_eq_false_iff];exact .inl (by simp;omega)
    have HD:=bz hd
    clear hA HS HH hd
    go_wp2_with fail
    refine (yD _ _ _ _).mono ?_
    rintro en w1 ⟨rfl,e⟩
    subst w1
    rw [HD.out]
    go_wp2_with fail
    refine bodyPost_ret (v:=.tuple #[.agg #[.slice va a.args.length vc],.bool false]) (by simp [results,Tryz.results129,go_sem,kF (p9 HB.out.2.1 (.slice va a.args.length vc))]) rfl ?_
    exact ⟨_,_,_,by rw [HN.out];rfl,HB.out.2.2.setCell (p:=⟨w.heap.size+1,0,none⟩) (Nat.le_succ _) _,fun b hb=>by rw [HN.out] at hb;simp at hb⟩
   ·obtain ⟨n,iR⟩:∃ n,x=n+48:=⟨x-48,by omega⟩
    have rh:IntKind.i64.wrap ((x:Int)-48)=(n:Int):=by rw [show (x:Int)-48=(n:Int) from by omega];exact k_ n (by omega)
    have dt:=HS.out
    rw [if_pos (show 48<=x by omega),show x-48=n from by omega] at dt
    have iV:=bz dt
    clear dt HS hA tD iR
    by_cases hB:a.args.length<=n
    ·have HN:=bz (show atT t p=none from wH (j:=j+1) (by rw [iV.out];exact List.getElem?_eq_none hB))
     have hd:(decide ((0:Int)<=(n:Int)) && decide ((n:Int)<=(a.args.length:Int)-1))=false:=by
      rw [Bool.and_eq_false_iff];exact .inr (by simp;omega)
     have HD:=bz hd
     clear hB HH hd
     go_wp2_with fail
     refine (yD _ _ _ _).mono ?_
     rintro en w1 ⟨rfl,e⟩
     subst w1
     rw [HD.out]
     go_wp2_with fail
     refine bodyPost_ret (v:=.tuple #[.agg #[.slice va a.args.length vc],.bool false]) (by simp [results,Tryz.results129,go_sem,kF (p9 HB.out.2.1 (.slice va a.args.length vc))]) rfl ?_
     exact ⟨_,_,_,by rw [HN.out];rfl,HB.out.2.2.setCell (p:=⟨w.heap.size+1,0,none⟩) (Nat.le_succ _) _,fun b hb=>by rw [HN.out] at hb;simp at hb⟩
    ·have hd:(decide ((0:Int)<=(n:Int)) && decide ((n:Int)<=(a.args.length:Int)-1))=true:=by
      rw [Bool.and_eq_true];exact ⟨by simp,by simp;omega⟩
     have HD:=bz hd
     have B9:(0:Int)<=(n:Int):=by omega
     have iS:(n:Int)<(a.args.length:Int):=by omega
     obtain ⟨b,o,u,d,ea,FC,E6,hd2,hc,nN⟩:=HH.out.1 n (by omega)
     subst ea
     rw [vx,Option.map_eq_some_iff] at hd2
     obtain ⟨c,fE,rfl⟩:=hd2
     obtain ⟨ua,uc,rfl⟩:=zp nN
     have hcw:=(HB.out.2.2.cell (p:=⟨b,o+n,none⟩) E6).trans hc
     have HC:=bz (bj fE nN)
     clear hd fE nN hc hB FC
     go_wp2_with fail
     refine (yD _ _ _ _).mono ?_
     rintro en w1 ⟨rfl,e⟩
     subst w1
     rw [HD.out]
     go_wp2_with fail
     go_roundw
     case rel =>
      refine ⟨j+1,c,_,by omega,by go_num,by rw [iV.out];exact HC.out.1,HC.out.2,p9 HB.out.1 _,?_,HB.out.2.2.setCell (p:=⟨w.heap.size,0,none⟩) (bw _) _⟩
      rw [bf _ _ _ _ (by show w.heap.size+1≠w.heap.size;omega)];exact HB.out.2.1
     case measure=>simp [intOf];omega
  ·obtain rfl:j=p.length:=by omega
   rw [List.take_length] at hat
   have HA:=bz (bj hat hr)
   clear hat hr eI bi eD cQ hj
   go_wp2_with fail
   refine bodyPost_ret (v:=.tuple #[.agg #[.slice va a.args.length vc],.bool true]) (by simp [results,Tryz.results129,go_sem,kF (p9 HB.out.2.1 (.slice va a.args.length vc))]) rfl ?_
   exact ⟨_,_,_,by rw [HA.out.1];rfl,HB.out.2.2.setCell (p:=⟨w.heap.size+1,0,none⟩) (Nat.le_succ _) _,fun b hb=>by rw [HA.out.1] at hb;obtain rfl:=Option.some.inj hb;exact HA.out.2⟩
theorem q_int (c:UInt8):((c.toNat:Int) == 113)=(c == 113):=by
 rw [Bool.eq_iff_iff,beq_iff_eq,beq_iff_eq]
 constructor
 ·intro h
  have:c.toNat=(113:UInt8).toNat:=by rw [show ((113:UInt8).toNat)=113 from rfl];omega
  exact UInt8.toNat_inj.1 this
 ·intro h;subst h;rfl
theorem odd_int (n:Nat):((n:Int) % 2 == 1)=decide (n % 2=1):=by
 rw [Bool.eq_iff_iff,beq_iff_eq,decide_eq_true_iff];omega
theorem yw (c:UInt8) (p:Bs):(⟨(c::p).toArray⟩:ByteArray).extract 1 (c::p).length=⟨p.toArray⟩:=by rw [vE,List.take_length];rfl
set_option maxRecDepth 20000 in
theorem jd (c:UInt8) (p:Bs) (w:World):Calls Tryz.prog 114 #[str (c::p)] w fun en w'=>en=.returned (.bool (isQ (c::p)))/\w'=w:=by
 obtain ⟨M,hM⟩:=zzM (c::p)
 have d_:0<M.length:=by rw [hM];simp
 have nc:(0:Int)<(M.length:Int):=by omega
 have B0:((((⟨M.toArray⟩:ByteArray)[0]'(kP d_)).toNat:Int))=(c.toNat:Int):=by rw [kr d_];subst hM;rfl
 have E:=bz (show isQ (c::p)=((c.toNat:Int) == 113) by rw [kf,q_int])
 rw [<- hM] at E ⊢
 clear hM
 go_enter Tryz.func114,Tryz.ntmps114
 go_wp2_with fail
 go_ret
 exact ⟨by rw [E.out];rfl,rfl⟩
set_option maxRecDepth 20000 in
theorem vp (c:UInt8) (p:Bs) (hl:p.length<=16777216) (w:World):Calls Tryz.prog 94 #[str (c::p)] w fun en w'=>en=.returned (.bool (kG (c::p)))/\w'=w:=by
 have C:=bz (jd c p w)
 obtain ⟨bq,hbq⟩:=zzN (isQ (c::p))
 have E:=bz (show kG (c::p)=(decide (((c::p).length:Nat) % 2=1) == bq) by rw [<- hbq];rfl)
 rw [hbq] at C
 obtain ⟨M,hM⟩:=zzM (c::p)
 have nh:M.length<=16777217:=by rw [hM];simp;omega
 rw [<- hM] at E C ⊢
 clear hM hbq
 go_enter Tryz.func94,Tryz.ntmps94
 go_wp2_with fail
 (with_reducible refine C.out.mono ?_)
 rintro en w1 ⟨rfl,e⟩
 subst e
 go_wp2_with fail
 go_ret
 refine ⟨?_,rfl⟩
 rw [E.out,<- odd_int]
 rfl
set_option maxRecDepth 20000 in
theorem enabler_any (c:UInt8) (p:Bs) (hl:p.length<=16777216) (w:World):Calls Tryz.prog 107 #[str (c::p)] w fun en w'=>en=.returned (.string ⟨(qt (c::p)).toArray⟩)/\w'=w:=by
 by_cases h0:c::p=[113]
 ·rw [h0,show qt [113]=[] from rfl]
  go_enter Tryz.func107,Tryz.ntmps107
  go_wp2_with fail
  go_ret
  exact ⟨rfl,rfl⟩
 ·have q1:((c::p:Bs) == [113])=false:=by rw [beq_eq_false_iff_ne];exact h0
  have C:=bz (jd c p w)
  by_cases hc:c=113
  ·subst hc
   rw [kf,show ((113:UInt8) == 113)=true from rfl] at C
   cases p with
   | nil=>exact absurd rfl h0
   | cons d q =>
     have e:qt (113::d::q)=(113::d::q).take (q.length+1):=by
      unfold qt
      rw [if_neg h0,kf,show ((113:UInt8) == 113)=true from rfl,if_pos rfl,List.dropLast_eq_take];simp
     rw [e]
     obtain ⟨M,hM⟩:=zzM (113::d::q)
     obtain ⟨m1,mn⟩:=zzM (q.length+1)
     rw [<- hM] at q1 C ⊢
     rw [<- mn]
     have nh:M.length=m1+1:=by rw [hM,mn];simp
     rw [List.length_cons] at hl
     have ex:(⟨M.toArray⟩:ByteArray).extract 0 m1=⟨(M.take m1).toArray⟩:=by rw [vE];rfl
     have hw:IntKind.i64.wrap ((M.length:Int)-1)=(m1:Int):=by
      rw [nh,show ((m1+1:Nat):Int)-1=(m1:Int) from by omega]
      exact k_ _ (by omega)
     have tQ:(m1:Int)<=(M.length:Int):=by omega
     obtain ⟨R,hR⟩:=zzM (M.take m1)
     rw [<- hR] at ex ⊢
     clear hR e h0 hM mn nh
     go_enter Tryz.func107,Tryz.ntmps107
     go_wp2_with fail
     (with_reducible refine C.out.mono ?_)
     rintro en w1 ⟨rfl,e⟩
     subst e
     go_wp2_with fail
     go_ret
     exact ⟨rfl,rfl⟩
  ·rw [kf,show (c == 113)=false from by simp [hc]] at C
   have e:qt (c::p)=113::p:=by
    unfold qt
    rw [if_neg h0,kf,show (c == 113)=false from by simp [hc],if_neg (by simp),List.tail_cons]
   rw [e]
   have ex:(⟨(c::p).toArray⟩:ByteArray).extract 1 (p.length+1)=⟨p.toArray⟩:=yw c p
   have a1:=fun w0=>k7 (P:=Tryz.prog) [113] p (by simp;omega) w0
   rw [List.singleton_append] at a1
   have h1p:(1:Int)<=(p.length:Int)+1:=by omega
   obtain ⟨R,hR⟩:=zzM (113::p)
   rw [<- hR] at a1 ⊢
   clear hR e h0
   go_enter Tryz.func107,Tryz.ntmps107
   go_wp2_with fail
   (with_reducible refine C.out.mono ?_)
   rintro en w1 ⟨rfl,e⟩
   subst e
   go_wp2_with fail
   go_ret
   exact ⟨rfl,rfl⟩
set_option maxRecDepth 20000 in
theorem hasMove_any (F:Nat->Prop) (t:Ty) (kv:Value) (m:Bs) (w:World) (hk:Rep F w (jA t) kv) (ht:zP t<=15) (hl:Lim m.length) :
 Calls Tryz.prog 106 #[kv,str m] w fun en w'=>en=.returned (.bool (qm t m))/\w'=w:=by
 obtain ⟨kb,ks,rfl,_⟩:=zf hk
 cases m with
 | nil =>
   go_enter Tryz.func106,Tryz.ntmps106
   go_wp2_with fail
   go_ret
   exact ⟨rfl,rfl⟩
 | cons c p =>
   have dd:=hl.le
   rw [List.length_cons] at dd
   have C1:=bz (Tryz.strings_IndexByte ⟨#[113,116,102]⟩ (c.toNat:Int) w)
   have hcc:(c.toNat:Int).toNat.toUInt8=c:=by simp
   rw [hcc] at C1
   obtain ⟨ix,hix⟩:=zzN (Lib.indexByte (#[113,116,102]:Array UInt8).toList c)
   rw [hix] at C1
   have EI:decide (0<=ix)=(c == 113 || c == 116 || c == 102):=by
    have h:=Lib.contains_iff_indexByte [113,116,102] c
    have hix':Lib.indexByte [113,116,102] c=ix:=hix
    rw [hix'] at h
    rw [<- h]
    simp only [List.contains,List.elem]
    cases c == 113 <;> cases c == 116 <;> cases c == 102 <;> rfl
   have C2:=bz (hH F t p (.pointer (some ⟨kb,0,none⟩)) w hk ht (show _<=_ by omega))
   have E:Hid (qm t (c::p)=(decide (0<=ix) && (atT t p).isSome)):=by rw [EI];exact bz rfl
   obtain ⟨M,hM⟩:=zzM (c::p)
   have d_:0<M.length:=by rw [hM];simp
   have nc:(0:Int)<(M.length:Int):=by omega
   have FA:(1:Int)<=(M.length:Int):=by omega
   have B0:((((⟨M.toArray⟩:ByteArray)[0]'(kP d_)).toNat:Int))=(c.toNat:Int):=by rw [kr d_];subst hM;rfl
   have q0:((M:Bs) == [])=false:=by rw [hM];rfl
   have q0':((M:Bs) != [])=true:=by rw [hM];rfl
   have ex:(⟨M.toArray⟩:ByteArray).extract 1 M.length=⟨p.toArray⟩:=by rw [hM];exact yw c p
   rw [<- hM] at E ⊢
   clear hM hcc hix hl hk EI
   by_cases cr:0<=ix
   ·go_enter Tryz.func106,Tryz.ntmps106
    go_wp2_with fail
    refine C1.out.mono ?_
    rintro en w1 ⟨rfl,e⟩
    subst e
    go_wp2_with fail
    refine C2.out.mono ?_
    rintro en w2 ⟨v,rfl,e,hn,hy⟩
    subst e
    cases hat:atT t p with
    | none =>
      obtain rfl:=hn hat
      have E2:=bz (show qm t M=false by rw [E.out,hat];simp)
      clear hn hy hat E
      go_wp2_with fail
      go_ret
      exact ⟨by rw [E2.out];rfl,rfl⟩
    | some a =>
      obtain ⟨ka,_,rfl,_⟩:=zf (hy a hat)
      have E2:=bz (show qm t M=true by rw [E.out,hat];simp [cr])
      clear hn hy hat E
      go_wp2_with fail
      go_ret
      exact ⟨by rw [E2.out];rfl,rfl⟩
   ·have E2:=bz (show qm t M=false by rw [E.out];simp [cr])
    clear E
    go_enter Tryz.func106,Tryz.ntmps106
    go_wp2_with fail
    refine C1.out.mono ?_
    rintro en w1 ⟨rfl,e⟩
    subst e
    go_wp2_with fail
    go_ret
    exact ⟨by rw [E2.out];rfl,rfl⟩
def plN (m:Bs):Nat:=if kG m=true then 0 else 1
set_option maxRecDepth 20000 in
theorem vH (c:UInt8) (p:Bs) (hl:p.length<=16777216) (w:World):Calls Tryz.prog 122 #[str (c::p)] w fun en w'=>en=.returned (.int .i64 (plN (c::p):Nat))/\w'=w:=by
 obtain ⟨M,hM⟩:=zzM (c::p)
 obtain ⟨n,hn⟩:=zzM (p.length)
 have nh:(M.length:Int)=(n:Int)+1:=by rw [hM,hn];simp
 have d_:0<M.length:=by rw [hM];simp
 have nc:(0:Int)<(M.length:Int):=by omega
 have B0:((((⟨M.toArray⟩:ByteArray)[0]'(kP d_)).toNat:Int))=(c.toNat:Int):=by rw [kr d_];subst hM;rfl
 have hw:IntKind.i64.wrap ((M.length:Int)-1)=(n:Int):=by rw [nh,show (n:Int)+1-1=(n:Int) from by omega];exact k_ _ (by omega)
 have E:plN M=if c=113 then n % 2 else 1-n % 2:=by
  rw [hM,plN,vg,<- hn]
  by_cases hc:c=113
  ·subst hc
   rw [if_pos rfl,show ((113:UInt8) == 113)=true from rfl]
   rcases Nat.mod_two_eq_zero_or_one n with h | h <;> simp [h]
  ·rw [if_neg hc,show (c == 113)=false from by simp [hc]]
   rcases Nat.mod_two_eq_zero_or_one n with h | h <;> simp [h]
 have hq:=q_int c
 rw [<- hM]
 clear hM hn
 by_cases hc:c=113
 ·rw [if_pos hc] at E
  have hcq:((c.toNat:Int) != 113)=false:=by rw [bne,hq,hc];rfl
  have HE:=bz E
  clear E hc hq nh
  go_enter Tryz.func122,Tryz.ntmps122
  go_wp2_with fail
  go_ret
  exact ⟨by rw [HE.out];simp,rfl⟩
 ·rw [if_neg hc] at E
  have hcq:((c.toNat:Int) != 113)=true:=by rw [bne,hq];simp [hc]
  have rh:IntKind.i64.wrap (1-((n:Int) % 2))=((1-n % 2:Nat):Int):=by
   rw [show (1:Int)-(n:Int) % 2=((1-n % 2:Nat):Int) from by omega];exact k_ _ (by omega)
  have HE:=bz E
  clear E hc hq nh
  go_enter Tryz.func122,Tryz.ntmps122
  go_wp2_with fail
  go_ret
  exact ⟨by rw [HE.out];rfl,rfl⟩
end Go.Proofs.YtfedjhgaeikjmaaGreatDoor

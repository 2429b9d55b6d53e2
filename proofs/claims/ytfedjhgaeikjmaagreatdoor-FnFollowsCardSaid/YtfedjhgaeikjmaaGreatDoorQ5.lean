/- Walks of functions that the statement reaches, and plain words. No conditions. -/
import Derived.Test.YtfedjhgaeikjmaaGreatDoorQ4
set_option linter.unusedVariables false
set_option linter.unusedSimpArgs false
set_option maxHeartbeats 4000000
namespace Go.Proofs.YtfedjhgaeikjmaaGreatDoor
open Go.RowKit
theorem Tryz.infoInt2:(Tryz.prog.info? 3).map (fun i=>(i.zero,i.size,i.bytes))=some (some (.int .i64 0),1,8):=by kernel_rfl
theorem Tryz.infoStr2:(Tryz.prog.info? 9).map (fun i=>(i.zero,i.size,i.bytes))=some (some (str []),1,16):=by kernel_rfl
def WithPost (n m:Nat) (xs ys:List Value) (s:Bs) (p:Int) (w:World) (en:Ending) (w':World):Prop :=
 ∃ a1 c1 a2 c2,en=.returned (.agg #[.slice a1 (n+1) c1,.slice a2 (m+1) c2])/\Below w.heap.size w w'/\Own w' 9 1 (.slice a1 (n+1) c1) (n+1) (xs++[str s])/\Own w' 3 1 (.slice a2 (m+1) c2) (m+1) (ys++[.int .i64 p]) /\
   (∀ g,(Value.slice a1 (n+1) c1).ownBlock=some g->w.heap.size<=g)/\(∀ g,(Value.slice a2 (m+1) c2).ownBlock=some g->w.heap.size<=g)
structure WI (n m:Nat) (mv pt:Value) (xs ys:List Value) (s:Bs) (p:Int) (w W0:World) (b:Nat->Bool) (t7 t8 t9 eW ef eR eN eF ed eE eX ec eD t20 t21:Value) (tag:Nat->Nat) (wr:World):Prop where
 f1:b 1=true->t8=.pointer (some ⟨w.heap.size,0,none⟩)
 f2:b 2=true->t9=mv
 f4:b 4=true->ef=str s
 f8:b 8=true->ed=.pointer (some ⟨w.heap.size,1,none⟩)
 f9:b 9=true->eE=pt
 f11:b 11=true->ec=.int .i64 p
 f14:b 14=true->t21=.agg #[eN,t20]
 g14:b 14=true->b 6=true/\b 13=true
 g15:b 15=true->∀ k,k<15->b k=true
 r1:kT W0.heap.size tag 1 2 9 n xs (str s) (b 0) (b 3) (b 5) (b 6) t7 eW eR eN wr
 r2:kT W0.heap.size tag 3 4 3 m ys (.int .i64 p) (b 7) (b 10) (b 12) (b 13) eF eX eD t20 wr
 w0:b 15=false->Below W0.heap.size W0 wr
 w1:b 15=true->But (· = w.heap.size+1) W0 wr/\wr.heap[w.heap.size+1]? = some (.cells #[eN,t20] 33 (0,0))
theorem WI.not15 {n m:Nat} {mv pt:Value} {xs ys:List Value} {s:Bs} {p:Int} {w W0:World} {b:Nat->Bool} {t7 t8 t9 eW ef eR eN eF ed eE eX ec eD t20 t21:Value} {tag:Nat->Nat} {wr:World} (h:WI n m mv pt xs ys s p w W0 b t7 t8 t9 eW ef eR eN eF ed eE eX ec eD t20 t21 tag wr) {i:Nat} (hi:i<15) (hb:b i=false):b 15=false:=by
 cases bL:b 15 with
 | false=>rfl
 | true=>have:=h.g15 bL i hi;rw [hb] at this;exact this.symm
def actW (mv pt:Value) (s:Bs) (p:Int) (B:Nat) (t7 t8 t9 eW ef eR eN eF ed eE eX ec eD t20 t21:Value):Act :=
 { tmps:=#[.agg #[mv,pt],str s,.int .i64 p,.pointer (some ⟨B,0,none⟩),undef,undef,.pointer (some ⟨B+1,0,none⟩),t7,t8,t9,eW,ef,eR,eN,eF,ed,eE,eX,ec,eD,t20,t21],defers:=[] }
def WIA (n m:Nat) (mv pt:Value) (xs ys:List Value) (s:Bs) (p:Int) (w W0:World) (b:Nat->Bool) (a:Act) (wr:World):Prop :=
 ∃ t7 t8 t9 eW ef eR eN eF ed eE eX ec eD t20 t21 tag,a=actW mv pt s p w.heap.size t7 t8 t9 eW ef eR eN eF ed eE eX ec eD t20 t21/\WI n m mv pt xs ys s p w W0 b t7 t8 t9 eW ef eR eN eF ed eE eX ec eD t20 t21 tag wr
set_option maxRecDepth 100000 in
theorem l2With_any (n m:Nat) (mv pt:Value) (xs ys:List Value) (s:Bs) (p:Int) (w:World) (hx:zR 1 mv n xs w) (hy:zR 1 pt m ys w) (hn:n<=1000000) (hm:m<=1000000) :
 Calls Tryz.prog 92 #[.agg #[mv,pt],str s,.int .i64 p] w (WithPost n m xs ys s p w):=by
 obtain ⟨ma,mc,rfl⟩:=hx.slice1
 obtain ⟨pa,pc,rfl⟩:=hy.slice1
 have HX:=bU hx;have HY:=bU hy;clear hx hy
 go_enter Tryz.func92,Tryz.ntmps92
 go_wp2_with fail
 rename_i K0 hK0
 obtain ⟨W0,ep⟩:=zzN ((w.alloc (.cells #[.slice ma n mc,.slice pa m pc] 33)).alloc (.cells #[.slice none 0 0,.slice none 0 0] 33))
 rw [ep]
 have z0:W0.heap.size=w.heap.size+1+1:=by rw [<- ep];simp
 have d9:Below w.heap.size w W0:=by rw [<- ep];exact ((bP _ _).alloc (bX _) _).alloc (by rw [zQ];omega) _
 have c0:W0.cell? ⟨w.heap.size,0,none⟩=some (.slice ma n mc):=by rw [<- ep];simp
 have c1:W0.cell? ⟨w.heap.size,1,none⟩=some (.slice pa m pc):=by rw [<- ep];simp
 have h6:W0.heap[w.heap.size+1]? = some (.cells #[.slice none 0 0,.slice none 0 0] 33 (0,0)):=by rw [<- ep];have:=zS (w.alloc (.cells #[.slice ma n mc,.slice pa m pc] 33)) (.cells #[.slice none 0 0,.slice none 0 0] 33);rwa [zQ] at this
 clear ep
 refine wp_region_any (by kernel_rfl) ?_
 refine wpAny_inv (I:=WIA n m (.slice ma n mc) (.slice pa m pc) xs ys s p w W0) ?acy ?step ?done _ _ _ _ rfl ?cnt ?start
 case cnt=>decide
 case acy=>exact acy_of (by kernel_rfl)
 case start =>
  refine ⟨undef,undef,undef,undef,undef,undef,undef,undef,undef,undef,undef,undef,undef,undef,undef,fun _=>0,rfl,?_⟩
  have hf:∀ k,yK (Array.replicate 16 false) k=false:=fun k=>by
   unfold yK
   rw [Array.getD_eq_getD_getElem?,Array.getElem?_replicate]
   split <;> rfl
  have key:∀ b:Nat->Bool,(∀ k,b k=false)->WI n m (.slice ma n mc) (.slice pa m pc) xs ys s p w W0 b undef undef undef undef undef undef undef undef undef undef undef undef undef undef undef (fun _=>0) W0.drew:=by
   intro b hf
   refine { f1:=fun h=>?_,f2:=fun h=>?_,f4:=fun h=>?_,f8:=fun h=>?_,f9:=fun h=>?_,f11:=fun h=>?_,f14:=fun h=>?_,g14:=fun h=>?_,g15:=fun h=>?_,r1:=?_,r2:=?_,w0:=fun _=>(bP _ _).drew,w1:=fun h=>?_ }
   case refine_10=>rw [hf,hf,hf,hf];exact kT.start _ _ _ _ _ _ _ _ _ _ _ _ _
   case refine_11=>rw [hf,hf,hf,hf];exact kT.start _ _ _ _ _ _ _ _ _ _ _ _ _
   all_goals (rw [hf] at h;cases h)
  exact key _ hf
 case done =>
  rintro b a wr be ⟨t7,t8,t9,eW,ef,eR,eN,eF,ed,eE,eX,ec,eD,t20,t21,tag,rfl,hI⟩
  obtain ⟨bf,dB⟩:=hI.w1 (be 15 (by decide))
  have R1:=hI.r1.c' (be 6 (by decide))
  have R2:=hI.r2.c' (be 13 (by decide))
  obtain ⟨aT,aV,ED⟩:=R1.1.slice
  obtain ⟨a20,aJ,EC⟩:=R2.1.slice
  subst ED;subst EC
  obtain ⟨u0,u1,_,_⟩:=cells2 dB
  refine hK0 _ _ ?_
  clear hK0
  unfold actW
  have HF:=bU (bY bf (bY R1 R2));clear bf R1 R2 hI dB
  go_wp2_with fail
  refine bodyPost_ret (v:=.agg #[.slice aT (n+1) aV,.slice a20 (m+1) aJ]) (by simp [results,Tryz.results92,go_sem,u0,u1]) rfl ?_
  obtain ⟨bf,R1,R2⟩:=HF.out
  exact ⟨aT,aV,a20,aJ,rfl,d9.trans (bf.toBelow (by omega) fun i hi e=>by omega),R1.1,R2.1,fun g hg=>by have:=(R1.2 g hg).2;omega,fun g hg=>by have:=(R2.2 g hg).2;omega⟩
 case step =>
  rintro b a wr i o ho hb cZ ⟨t7,t8,t9,eW,ef,eR,eN,eF,ed,eE,eX,ec,eD,t20,t21,tag,rfl,hI⟩ K' hK
  unfold actW at *
  rcases i with _ | _ | _ | _ | _ | _ | _ | _ | _ | _ | _ | _ | _ | _ | _ | _ | i
  ·simp at ho;subst ho
   have bL:=hI.not15 (i:=0) (by omega) hb
   have hB:W0.heap.size<=wr.heap.size:=(hI.w0 bL).size
   go_simp
   exact hK _ _ ⟨.slice (some ⟨wr.heap.size,0,none⟩) 0 0,t8,t9,eW,ef,eR,eN,eF,ed,eE,eX,ec,eD,t20,t21,zF tag wr.heap.size 1,rfl,{ f1:=hI.f1,f2:=hI.f2,f4:=hI.f4,f8:=hI.f8,f9:=hI.f9,f11:=hI.f11,f14:=hI.f14,g14:=hI.g14,g15:=fun h=>absurd h (by rw [show set1 b 0 15=b 15 from rfl,bL];decide),r1:=hI.r1.stepA hB,r2:=hI.r2.alloc _ 1,w0:=fun _=>(hI.w0 bL).alloc hB _,w1:=fun h=>absurd h (by rw [show set1 b 0 15=b 15 from rfl,bL];decide) }⟩
  ·simp at ho;subst ho
   have bL:=hI.not15 (i:=1) (by omega) hb
   have hB:W0.heap.size<=wr.heap.size:=(hI.w0 bL).size
   go_simp
   exact hK _ _ ⟨t7,.pointer (some ⟨w.heap.size,0,none⟩),t9,eW,ef,eR,eN,eF,ed,eE,eX,ec,eD,t20,t21,tag,rfl,{ f1:=fun _=>rfl,f2:=hI.f2,f4:=hI.f4,f8:=hI.f8,f9:=hI.f9,f11:=hI.f11,f14:=hI.f14,g14:=hI.g14,g15:=fun h=>absurd h (by rw [show set1 b 1 15=b 15 from rfl,bL];decide),r1:=hI.r1,r2:=hI.r2,w0:=fun _=>hI.w0 bL,w1:=fun h=>absurd h (by rw [show set1 b 1 15=b 15 from rfl,bL];decide) }⟩
  ·simp at ho;subst ho
   simp [Region.binds] at cZ
   have bL:=hI.not15 (i:=2) (by omega) hb
   have hB:W0.heap.size<=wr.heap.size:=(hI.w0 bL).size
   have q8:=hI.f1 cZ
   have q0:wr.cell? ⟨w.heap.size,0,none⟩=some (.slice ma n mc):=((hI.w0 bL).cell (p:=⟨w.heap.size,0,none⟩) (by rw [z0];show w.heap.size<_;omega)).trans c0
   go_simp
   exact hK _ _ ⟨t7,.pointer (some ⟨w.heap.size,0,none⟩),.slice ma n mc,eW,ef,eR,eN,eF,ed,eE,eX,ec,eD,t20,t21,tag,rfl,{ f1:=fun _=>rfl,f2:=fun _=>rfl,f4:=hI.f4,f8:=hI.f8,f9:=hI.f9,f11:=hI.f11,f14:=hI.f14,g14:=hI.g14,g15:=fun h=>absurd h (by rw [show set1 b 2 15=b 15 from rfl,bL];decide),r1:=hI.r1,r2:=hI.r2,w0:=fun _=>hI.w0 bL,w1:=fun h=>absurd h (by rw [show set1 b 2 15=b 15 from rfl,bL];decide) }⟩
  ·simp at ho;subst ho
   simp [Region.binds] at cZ
   have bL:=hI.not15 (i:=3) (by omega) hb
   have hB:W0.heap.size<=wr.heap.size:=(hI.w0 bL).size
   obtain ⟨⟨g,e7⟩,dd⟩:=hI.r1.a cZ.1 hb
   have mz:=dd
   rw [e7] at mz
   have q9:=hI.f2 cZ.2
   refine zE (by rfl) (.tmp 7) (.tmp 9) 30 (by rfl) 9 (str []) 1 16 Tryz.underlying30 Tryz.infoStr2 rfl (by decide) (.slice (some ⟨g,0,none⟩) 0 0) 0 [] e7 mz.1 (.slice ma n mc) n xs q9 ((HX.out.belowAll d9 (bX _)).belowAll (hI.w0 bL) (bX _)) (by unfold maxLen;omega) (by omega) ?_
   intro a' c' w' ho bf hg
   rw [<- e7] at bf hg
   simp only [Nat.zero_add,List.nil_append] at ho hg ⊢
   exact hK _ _ ⟨t7,t8,t9,.slice a' n c',ef,eR,eN,eF,ed,eE,eX,ec,eD,t20,t21,zF tag wr.heap.size 1,rfl,{ f1:=hI.f1,f2:=hI.f2,f4:=hI.f4,f8:=hI.f8,f9:=hI.f9,f11:=hI.f11,f14:=hI.f14,g14:=hI.g14,g15:=fun h=>absurd h (by rw [show set1 b 3 15=b 15 from rfl,bL];decide),r1:=hI.r1.stepC cZ.1 hb (by decide) hB ho bf hg,r2:=hI.r2.but bf (fun k e=>by rw [(dd.2 k e).1];decide) 1,w0:=fun _=>(hI.w0 bL).trans (bf.toBelow hB fun k hk e=>by have:=(dd.2 k e).2;omega),w1:=fun h=>absurd h (by rw [show set1 b 3 15=b 15 from rfl,bL];decide) }⟩
  ·simp at ho;subst ho
   have bL:=hI.not15 (i:=4) (by omega) hb
   have hB:W0.heap.size<=wr.heap.size:=(hI.w0 bL).size
   go_simp
   exact hK _ _ ⟨t7,t8,t9,eW,str s,eR,eN,eF,ed,eE,eX,ec,eD,t20,t21,tag,rfl,{ f1:=hI.f1,f2:=hI.f2,f4:=fun _=>rfl,f8:=hI.f8,f9:=hI.f9,f11:=hI.f11,f14:=hI.f14,g14:=hI.g14,g15:=fun h=>absurd h (by rw [show set1 b 4 15=b 15 from rfl,bL];decide),r1:=hI.r1,r2:=hI.r2,w0:=fun _=>hI.w0 bL,w1:=fun h=>absurd h (by rw [show set1 b 4 15=b 15 from rfl,bL];decide) }⟩
  ·simp at ho;subst ho
   simp [Region.binds] at cZ
   have bL:=hI.not15 (i:=5) (by omega) hb
   have hB:W0.heap.size<=wr.heap.size:=(hI.w0 bL).size
   have q11:=hI.f4 cZ
   go_simp
   exact hK _ _ ⟨t7,t8,t9,eW,str s,.slice (some ⟨wr.heap.size,0,none⟩) 1 1,eN,eF,ed,eE,eX,ec,eD,t20,t21,zF tag wr.heap.size 2,rfl,{ f1:=hI.f1,f2:=hI.f2,f4:=fun _=>rfl,f8:=hI.f8,f9:=hI.f9,f11:=hI.f11,f14:=hI.f14,g14:=hI.g14,g15:=fun h=>absurd h (by rw [show set1 b 5 15=b 15 from rfl,bL];decide),r1:=hI.r1.stepA' hB,r2:=hI.r2.alloc _ 2,w0:=fun _=>(hI.w0 bL).alloc hB _,w1:=fun h=>absurd h (by rw [show set1 b 5 15=b 15 from rfl,bL];decide) }⟩
  ·simp at ho;subst ho
   simp [Region.binds] at cZ
   have bL:=hI.not15 (i:=6) (by omega) hb
   have hB:W0.heap.size<=wr.heap.size:=(hI.w0 bL).size
   have dd:=hI.r1.c cZ.1 hb
   obtain ⟨⟨g,EE⟩,fV⟩:=hI.r1.a' cZ.2.1 hb
   rw [EE] at fV
   refine zE (by rfl) (.tmp 10) (.tmp 12) 30 (by rfl) 9 (str []) 1 16 Tryz.underlying30 Tryz.infoStr2 rfl (by decide) eW n xs rfl dd.1 (.slice (some ⟨g,0,none⟩) 1 1) 1 [str s] EE (fV.1.src1 (by simp [Value.oneCell'])) (by unfold maxLen;omega) (by omega) ?_
   intro a' c' w' ho bf hg
   exact hK _ _ ⟨t7,t8,t9,eW,ef,eR,.slice a' (n+1) c',eF,ed,eE,eX,ec,eD,t20,t21,zF tag wr.heap.size 1,rfl,{ f1:=hI.f1,f2:=hI.f2,f4:=hI.f4,f8:=hI.f8,f9:=hI.f9,f11:=hI.f11,f14:=fun h=>absurd (hI.g14 h).1 (by rw [hb];decide),g14:=fun h=>⟨rfl,(hI.g14 h).2⟩,g15:=fun h=>absurd h (by rw [show set1 b 6 15=b 15 from rfl,bL];decide),r1:=hI.r1.stepC' cZ.1 hb hB ho hg,r2:=hI.r2.but bf (fun k e=>by rw [(dd.2 k e).1];decide) 1,w0:=fun _=>(hI.w0 bL).trans (bf.toBelow hB fun k hk e=>by have:=(dd.2 k e).2;omega),w1:=fun h=>absurd h (by rw [show set1 b 6 15=b 15 from rfl,bL];decide) }⟩
  ·simp at ho;subst ho
   have bL:=hI.not15 (i:=7) (by omega) hb
   have hB:W0.heap.size<=wr.heap.size:=(hI.w0 bL).size
   go_simp
   exact hK _ _ ⟨t7,t8,t9,eW,ef,eR,eN,.slice (some ⟨wr.heap.size,0,none⟩) 0 0,ed,eE,eX,ec,eD,t20,t21,zF tag wr.heap.size 3,rfl,{ f1:=hI.f1,f2:=hI.f2,f4:=hI.f4,f8:=hI.f8,f9:=hI.f9,f11:=hI.f11,f14:=hI.f14,g14:=hI.g14,g15:=fun h=>absurd h (by rw [show set1 b 7 15=b 15 from rfl,bL];decide),r1:=hI.r1.alloc _ 3,r2:=hI.r2.stepA hB,w0:=fun _=>(hI.w0 bL).alloc hB _,w1:=fun h=>absurd h (by rw [show set1 b 7 15=b 15 from rfl,bL];decide) }⟩
  ·simp at ho;subst ho
   have bL:=hI.not15 (i:=8) (by omega) hb
   have hB:W0.heap.size<=wr.heap.size:=(hI.w0 bL).size
   go_simp
   exact hK _ _ ⟨t7,t8,t9,eW,ef,eR,eN,eF,.pointer (some ⟨w.heap.size,1,none⟩),eE,eX,ec,eD,t20,t21,tag,rfl,{ f1:=hI.f1,f2:=hI.f2,f4:=hI.f4,f8:=fun _=>rfl,f9:=hI.f9,f11:=hI.f11,f14:=hI.f14,g14:=hI.g14,g15:=fun h=>absurd h (by rw [show set1 b 8 15=b 15 from rfl,bL];decide),r1:=hI.r1,r2:=hI.r2,w0:=fun _=>hI.w0 bL,w1:=fun h=>absurd h (by rw [show set1 b 8 15=b 15 from rfl,bL];decide) }⟩
  ·simp at ho;subst ho
   simp [Region.binds] at cZ
   have bL:=hI.not15 (i:=9) (by omega) hb
   have hB:W0.heap.size<=wr.heap.size:=(hI.w0 bL).size
   have q8:=hI.f8 cZ
   have q0:wr.cell? ⟨w.heap.size,1,none⟩=some (.slice pa m pc):=((hI.w0 bL).cell (p:=⟨w.heap.size,1,none⟩) (by rw [z0];show w.heap.size<_;omega)).trans c1
   go_simp
   exact hK _ _ ⟨t7,t8,t9,eW,ef,eR,eN,eF,.pointer (some ⟨w.heap.size,1,none⟩),.slice pa m pc,eX,ec,eD,t20,t21,tag,rfl,{ f1:=hI.f1,f2:=hI.f2,f4:=hI.f4,f8:=fun _=>rfl,f9:=fun _=>rfl,f11:=hI.f11,f14:=hI.f14,g14:=hI.g14,g15:=fun h=>absurd h (by rw [show set1 b 9 15=b 15 from rfl,bL];decide),r1:=hI.r1,r2:=hI.r2,w0:=fun _=>hI.w0 bL,w1:=fun h=>absurd h (by rw [show set1 b 9 15=b 15 from rfl,bL];decide) }⟩
  ·simp at ho;subst ho
   simp [Region.binds] at cZ
   have bL:=hI.not15 (i:=10) (by omega) hb
   have hB:W0.heap.size<=wr.heap.size:=(hI.w0 bL).size
   obtain ⟨⟨g,e7⟩,dd⟩:=hI.r2.a cZ.1 hb
   have mz:=dd
   rw [e7] at mz
   have q9:=hI.f9 cZ.2.1
   refine zE (by rfl) (.tmp 14) (.tmp 16) 31 (by rfl) 3 (.int .i64 0) 1 8 Tryz.underlying31 Tryz.infoInt2 rfl (by decide) (.slice (some ⟨g,0,none⟩) 0 0) 0 [] e7 mz.1 (.slice pa m pc) m ys q9 ((HY.out.belowAll d9 (bX _)).belowAll (hI.w0 bL) (bX _)) (by unfold maxLen;omega) (by omega) ?_
   intro a' c' w' ho bf hg
   rw [<- e7] at bf hg
   simp only [Nat.zero_add,List.nil_append] at ho hg ⊢
   exact hK _ _ ⟨t7,t8,t9,eW,ef,eR,eN,eF,ed,eE,.slice a' m c',ec,eD,t20,t21,zF tag wr.heap.size 3,rfl,{ f1:=hI.f1,f2:=hI.f2,f4:=hI.f4,f8:=hI.f8,f9:=hI.f9,f11:=hI.f11,f14:=hI.f14,g14:=hI.g14,g15:=fun h=>absurd h (by rw [show set1 b 10 15=b 15 from rfl,bL];decide),r1:=hI.r1.but bf (fun k e=>by rw [(dd.2 k e).1];decide) 3,r2:=hI.r2.stepC cZ.1 hb (by decide) hB ho bf hg,w0:=fun _=>(hI.w0 bL).trans (bf.toBelow hB fun k hk e=>by have:=(dd.2 k e).2;omega),w1:=fun h=>absurd h (by rw [show set1 b 10 15=b 15 from rfl,bL];decide) }⟩
  ·simp at ho;subst ho
   have bL:=hI.not15 (i:=11) (by omega) hb
   have hB:W0.heap.size<=wr.heap.size:=(hI.w0 bL).size
   go_simp
   exact hK _ _ ⟨t7,t8,t9,eW,ef,eR,eN,eF,ed,eE,eX,.int .i64 p,eD,t20,t21,tag,rfl,{ f1:=hI.f1,f2:=hI.f2,f4:=hI.f4,f8:=hI.f8,f9:=hI.f9,f11:=fun _=>rfl,f14:=hI.f14,g14:=hI.g14,g15:=fun h=>absurd h (by rw [show set1 b 11 15=b 15 from rfl,bL];decide),r1:=hI.r1,r2:=hI.r2,w0:=fun _=>hI.w0 bL,w1:=fun h=>absurd h (by rw [show set1 b 11 15=b 15 from rfl,bL];decide) }⟩
  ·simp at ho;subst ho
   simp [Region.binds] at cZ
   have bL:=hI.not15 (i:=12) (by omega) hb
   have hB:W0.heap.size<=wr.heap.size:=(hI.w0 bL).size
   have q11:=hI.f11 cZ
   go_simp
   exact hK _ _ ⟨t7,t8,t9,eW,ef,eR,eN,eF,ed,eE,eX,.int .i64 p,.slice (some ⟨wr.heap.size,0,none⟩) 1 1,t20,t21,zF tag wr.heap.size 4,rfl,{ f1:=hI.f1,f2:=hI.f2,f4:=hI.f4,f8:=hI.f8,f9:=hI.f9,f11:=fun _=>rfl,f14:=hI.f14,g14:=hI.g14,g15:=fun h=>absurd h (by rw [show set1 b 12 15=b 15 from rfl,bL];decide),r1:=hI.r1.alloc _ 4,r2:=hI.r2.stepA' hB,w0:=fun _=>(hI.w0 bL).alloc hB _,w1:=fun h=>absurd h (by rw [show set1 b 12 15=b 15 from rfl,bL];decide) }⟩
  ·simp at ho;subst ho
   simp [Region.binds] at cZ
   have bL:=hI.not15 (i:=13) (by omega) hb
   have hB:W0.heap.size<=wr.heap.size:=(hI.w0 bL).size
   have dd:=hI.r2.c cZ.1 hb
   obtain ⟨⟨g,EE⟩,fV⟩:=hI.r2.a' cZ.2.1 hb
   rw [EE] at fV
   refine zE (by rfl) (.tmp 17) (.tmp 19) 31 (by rfl) 3 (.int .i64 0) 1 8 Tryz.underlying31 Tryz.infoInt2 rfl (by decide) eX m ys rfl dd.1 (.slice (some ⟨g,0,none⟩) 1 1) 1 [.int .i64 p] EE (fV.1.src1 (by simp [Value.oneCell'])) (by unfold maxLen;omega) (by omega) ?_
   intro a' c' w' ho bf hg
   exact hK _ _ ⟨t7,t8,t9,eW,ef,eR,eN,eF,ed,eE,eX,ec,eD,.slice a' (m+1) c',t21,zF tag wr.heap.size 3,rfl,{ f1:=hI.f1,f2:=hI.f2,f4:=hI.f4,f8:=hI.f8,f9:=hI.f9,f11:=hI.f11,f14:=fun h=>absurd (hI.g14 h).2 (by rw [hb];decide),g14:=fun h=>⟨(hI.g14 h).1,rfl⟩,g15:=fun h=>absurd h (by rw [show set1 b 13 15=b 15 from rfl,bL];decide),r1:=hI.r1.but bf (fun k e=>by rw [(dd.2 k e).1];decide) 3,r2:=hI.r2.stepC' cZ.1 hb hB ho hg,w0:=fun _=>(hI.w0 bL).trans (bf.toBelow hB fun k hk e=>by have:=(dd.2 k e).2;omega),w1:=fun h=>absurd h (by rw [show set1 b 13 15=b 15 from rfl,bL];decide) }⟩
  ·simp at ho;subst ho
   simp [Region.binds] at cZ
   have bL:=hI.not15 (i:=14) (by omega) hb
   have hB:W0.heap.size<=wr.heap.size:=(hI.w0 bL).size
   obtain ⟨aT,aV,ED⟩:=(hI.r1.c' cZ.1).1.slice
   obtain ⟨a20,aJ,EC⟩:=(hI.r2.c' cZ.2).1.slice
   subst ED
   subst EC
   go_simp
   exact hK _ _ ⟨t7,t8,t9,eW,ef,eR,.slice aT (n+1) aV,eF,ed,eE,eX,ec,eD,.slice a20 (m+1) aJ,.agg #[.slice aT (n+1) aV,.slice a20 (m+1) aJ],tag,rfl,{ f1:=hI.f1,f2:=hI.f2,f4:=hI.f4,f8:=hI.f8,f9:=hI.f9,f11:=hI.f11,f14:=fun _=>rfl,g14:=fun _=>⟨cZ.1,cZ.2⟩,g15:=fun h=>absurd h (by rw [show set1 b 14 15=b 15 from rfl,bL];decide),r1:=hI.r1,r2:=hI.r2,w0:=fun _=>hI.w0 bL,w1:=fun h=>absurd h (by rw [show set1 b 14 15=b 15 from rfl,bL];decide) }⟩
  ·simp at ho;subst ho
   simp [Region.binds] at cZ
   obtain ⟨aT,aV,ED⟩:=(hI.r1.c' (hI.g14 cZ.1).1).1.slice
   have be:∀ k,k<15->b k=true:=fun k hk=>by
    obtain ⟨p14,p0⟩:=cZ
    rcases (by omega:k=0\/k=1\/k=2\/k=3\/k=4\/k=5\/k=6\/k=7\/k=8\/k=9\/k=10\/k=11\/k=12\/k=13\/k=14) with rfl | rfl | rfl | rfl | rfl | rfl | rfl | rfl | rfl | rfl | rfl | rfl | rfl | rfl | rfl <;> simp [*]
   obtain ⟨a20,aJ,EC⟩:=(hI.r2.c' (hI.g14 cZ.1).2).1.slice
   subst ED;subst EC
   have q21:=hI.f14 cZ.1
   have fP:wr.heap[w.heap.size+1]? = some (.cells #[.slice none 0 0,.slice none 0 0] 33 (0,0)):=by rw [(hI.w0 hb).block _ (by omega)];exact h6
   obtain ⟨u0,u1,v0,v1⟩:=cells2 fP
   have bM:=hI.w0 hb
   have dB:=setc_at (o:=1) (u:=.slice a20 (m+1) aJ) (setc_at (o:=0) (u:=.slice aT (n+1) aV) fP)
   go_simp
   have bf:But (· = w.heap.size+1) wr ((wr.setCell ⟨w.heap.size+1,0,none⟩ (.slice aT (n+1) aV)).setCell ⟨w.heap.size+1,1,none⟩ (.slice a20 (m+1) aJ)):=((But.refl (· = w.heap.size+1) wr).setCell (p:=⟨w.heap.size+1,0,none⟩) (.inl rfl) _).setCell (p:=⟨w.heap.size+1,1,none⟩) (.inl rfl) _
   exact hK _ _ ⟨t7,t8,t9,eW,ef,eR,.slice aT (n+1) aV,eF,ed,eE,eX,ec,eD,.slice a20 (m+1) aJ,.agg #[.slice aT (n+1) aV,.slice a20 (m+1) aJ],tag,rfl,{ f1:=hI.f1,f2:=hI.f2,f4:=hI.f4,f8:=hI.f8,f9:=hI.f9,f11:=hI.f11,f14:=fun _=>rfl,g14:=hI.g14,g15:=fun _ k hk=>by rw [show set1 b 15 k=b k from if_neg (by omega)];exact be k hk,r1:=hI.r1.low bf (fun k e=>by omega),r2:=hI.r2.low bf (fun k e=>by omega),w0:=fun h=>Bool.noConfusion (show true=false from h),w1:=fun _=>⟨(But.ofBelow bM).trans bf,dB⟩ }⟩
  ·simp at ho
def RnK (w:World) (ra:Nat) (mv pt:Value) (moves most:Nat) (bad:Bool):Prop:=w.heap[ra]? = some (.cells #[mv,pt,.int .i64 (moves:Nat),.int .i64 (most:Nat),.bool true,.bool bad] 80 (0,0))
theorem RnK.cells {w:World} {ra:Nat} {mv pt:Value} {moves most:Nat} {bad:Bool} (h:RnK w ra mv pt moves most bad):w.cell? ⟨ra,0,none⟩=some mv/\w.cell? ⟨ra,1,none⟩=some pt/\w.cell? ⟨ra,2,none⟩=some (.int .i64 (moves:Nat))/\w.cell? ⟨ra,3,none⟩=some (.int .i64 (most:Nat))/\w.cell? ⟨ra,4,none⟩=some (.bool true)/\w.cell? ⟨ra,5,none⟩=some (.bool bad) /\
 w.frozen? ⟨ra,0,none⟩=false/\w.frozen? ⟨ra,1,none⟩=false/\w.frozen? ⟨ra,2,none⟩=false/\w.frozen? ⟨ra,5,none⟩=false:=by
 unfold RnK at h
 exact ⟨by simp [World.cell?,h],by simp [World.cell?,h],by simp [World.cell?,h],by simp [World.cell?,h],by simp [World.cell?,h],by simp [World.cell?,h],by simp [World.frozen?,h],by simp [World.frozen?,h],by simp [World.frozen?,h],by simp [World.frozen?,h]⟩
def zC (w:World) (log:List (Bs×Int)) (mv pt:Value):Prop:=Own w 9 1 mv log.length (k_ log)/\Own w 3 1 pt log.length (qM log)
theorem zC.below {w w':World} {log:List (Bs×Int)} {mv pt:Value} (h:zC w log mv pt) (hb:Below w.heap.size w w'):zC w' log mv pt :=
 ⟨h.1.keep fun g o hg ho=>by rw [hb.block g (zZ ho)];exact ho,h.2.keep fun g o hg ho=>by rw [hb.block g (zZ ho)];exact ho⟩
theorem zC.but {w w':World} {log:List (Bs×Int)} {mv pt:Value} {m:Nat->Prop} (h:zC w log mv pt) (hb:But m w w') (hm:∀ g,mv.ownBlock=some g\/pt.ownBlock=some g->¬ m g):zC w' log mv pt :=
 ⟨h.1.keep fun g o hg ho=>by rw [hb.block g (zZ ho) (hm g (.inl hg))];exact ho,h.2.keep fun g o hg ho=>by rw [hb.block g (zZ ho) (hm g (.inr hg))];exact ho⟩
theorem Own.unlike {w:World} {e e':TypeId} {v v':Value} {n n':Nat} {xs ys:List Value} (h:Own w e 1 v n xs) (h':Own w e' 1 v' n' ys) (he:e≠e') {g:Nat} (hg:v.ownBlock=some g):v'.ownBlock≠some g:=by
 intro cb
 rcases h.2 with ⟨rfl,_⟩ | ⟨b,cap,cur,rfl,_,hb,_⟩
 ·simp [Value.ownBlock] at hg
 ·rcases h'.2 with ⟨rfl,_⟩ | ⟨b',cap',cur',rfl,_,cL,_⟩
  ·simp [Value.ownBlock] at cb
  ·simp [Value.ownBlock] at hg cb
   subst hg;subst cb
   rw [hb] at cL
   simp at cL
   exact he cL.2
theorem gC (w:World):zC w [] (.slice none 0 0) (.slice none 0 0):=⟨World.ownsRow_nil w 0 _ 1,World.ownsRow_nil w 0 _ 1⟩
def MarkAt (w:World) (n k:Nat) (mv pt:Value):Prop:=Own w 9 1 mv n (marksS k n)/\Own w 3 1 pt n (marksI (k+n) n)
theorem MarkAt.below {w w':World} {n k:Nat} {mv pt:Value} (h:MarkAt w n k mv pt) (hb:Below w.heap.size w w'):MarkAt w' n k mv pt :=
 ⟨h.1.keep fun g o hg ho=>by rw [hb.block g (zZ ho)];exact ho,h.2.keep fun g o hg ho=>by rw [hb.block g (zZ ho)];exact ho⟩
def plC (us:List (Value×Value)):List Value:=us.flatMap fun u=>[u.1,u.2]
theorem xT (u:Value×Value) (us:List (Value×Value)):plC (u::us)=u.1::u.2::plC us:=by simp [plC]
theorem vF (us vs:List (Value×Value)):plC (us++vs)=plC us++plC vs:=by simp [plC]
theorem gE:∀ us:List (Value×Value),(plC us).length=us.length*2
 | []=>rfl
 | u::us=>by rw [xT,List.length_cons,List.length_cons,gE us,List.length_cons];omega
theorem plC_at:∀ (us:List (Value×Value)) (i:Nat) (u:Value×Value),us[i]? = some u->(plC us)[i*2]? = some u.1/\(plC us)[i*2+1]? = some u.2
 | [],i,u,h=>by simp at h
 | v::us,0,u,h=>by obtain rfl:v=u:=by simpa using h
                   rw [xT];exact ⟨rfl,rfl⟩
 | v::us,i+1,u,h=>by
   rw [List.getElem?_cons_succ] at h
   have:=plC_at us i u h
   rw [xT,show (i+1)*2=i*2+1+1 from by omega]
   simpa using this
theorem Own.unlikeG {w:World} {e e':TypeId} {sz sz':Nat} {v v':Value} {n n':Nat} {xs ys:List Value} (h:Own w e sz v n xs) (h':Own w e' sz' v' n' ys) (he:e≠e') {g:Nat} (hg:v.ownBlock=some g):v'.ownBlock≠some g:=by
 intro cb
 rcases h.2 with ⟨rfl,_⟩ | ⟨b,cap,cur,rfl,_,hb,_⟩
 ·simp [Value.ownBlock] at hg
 ·rcases h'.2 with ⟨rfl,_⟩ | ⟨b',cap',cur',rfl,_,cL,_⟩
  ·simp [Value.ownBlock] at cb
  ·simp [Value.ownBlock] at hg cb
   subst hg;subst cb
   rw [hb] at cL
   simp at cL
   exact he cL.2
theorem ud:(9:TypeId)≠33:=by decide
theorem xu:(3:TypeId)≠33:=by decide
theorem pT:(9:TypeId)≠3:=by decide
abbrev xo:=List (List Value×List Value)
structure jE (w:World) (v:Value) (us:List (Value×Value)) (xs:xo):Prop where
 own:Own w 33 2 v us.length (plC us)
 len:us.length=xs.length
 each:∀ (i:Nat) (u:Value×Value) (x:List Value×List Value),us[i]? = some u->xs[i]? = some x->Own w 9 1 u.1 x.1.length x.1/\Own w 3 1 u.2 x.2.length x.2
 apart:∀ (i j:Nat) (u u':Value×Value),i≠j->us[i]? = some u->us[j]? = some u'->∀ g,(u.1.ownBlock=some g->u'.1.ownBlock≠some g)/\(u.2.ownBlock=some g->u'.2.ownBlock≠some g)
def PlB (v:Value) (us:List (Value×Value)) (b:Nat):Prop:=v.ownBlock=some b\/∃ u∈us,u.1.ownBlock=some b\/u.2.ownBlock=some b
theorem jE.mem {w:World} {v:Value} {us:List (Value×Value)} {xs:xo} (h:jE w v us xs) {u:Value×Value} (hu:u∈us):∃ (i:Nat) (x:List Value×List Value),us[i]? = some u/\xs[i]? = some x:=by
 obtain ⟨i,hi⟩:=List.mem_iff_getElem?.1 hu
 have hl:=(List.getElem?_eq_some_iff.1 hi).1
 rw [h.len] at hl
 exact ⟨i,xs[i],hi,List.getElem?_eq_getElem hl⟩
theorem jE.lt {w:World} {v:Value} {us:List (Value×Value)} {xs:xo} (h:jE w v us xs) {b:Nat} (hb:PlB v us b):b<w.heap.size:=by
 rcases hb with hb | ⟨u,hu,hb⟩
 ·exact h.own.lt hb
 ·obtain ⟨i,x,h1,h2⟩:=h.mem hu
  rcases hb with hb | hb
  ·exact (h.each i u x h1 h2).1.lt hb
  ·exact (h.each i u x h1 h2).2.lt hb
theorem jE.but {w w':World} {v:Value} {us:List (Value×Value)} {xs:xo} {m:Nat->Prop} (h:jE w v us xs) (hb:But m w w') (hm:∀ b,PlB v us b->¬ m b):jE w' v us xs :=
 ⟨h.own.keep fun g o hg ho=>by rw [hb.block g (zZ ho) (hm g (.inl hg))];exact ho,h.len,
  fun i u x h1 h2=>by
   have hu:=List.mem_of_getElem? h1
   obtain ⟨k1,k2⟩:=h.each i u x h1 h2
   exact ⟨k1.keep fun g o hg ho=>by rw [hb.block g (zZ ho) (hm g (.inr ⟨u,hu,.inl hg⟩))];exact ho,k2.keep fun g o hg ho=>by rw [hb.block g (zZ ho) (hm g (.inr ⟨u,hu,.inr hg⟩))];exact ho⟩,h.apart⟩
theorem jE.below {w w':World} {v:Value} {us:List (Value×Value)} {xs:xo} (h:jE w v us xs) (hb:Below w.heap.size w w'):jE w' v us xs :=
 h.but (m:=fun _=>False) (But.ofBelow hb) fun _ _ h=>h
theorem jE.nil (w:World):jE w (.slice none 0 0) [] [] :=
 ⟨World.ownsRow_nil w 0 _ 2,rfl,fun i u x h=>by simp at h,fun i j u u' _ h=>by simp at h⟩
theorem jE.snoc {w w':World} {v v':Value} {us:List (Value×Value)} {xs:xo} (h:jE w v us xs) {u:Value×Value} {x:List Value×List Value}
 (ho:Own w' 33 2 v' (us.length+1) (plC us++[u.1,u.2])) (hb:But (fun b=>v.ownBlock=some b) w w')
 (h1:Own w 9 1 u.1 x.1.length x.1) (h2:Own w 3 1 u.2 x.2.length x.2)
 (hf:∀ (g:Nat),u.1.ownBlock=some g\/u.2.ownBlock=some g->¬ PlB v us g):jE w' v' (us++[u]) (xs++[x]):=by
 have key:∀ {e:TypeId} {n:Nat} {r:Value} {ys:List Value},Own w e 1 r n ys->(∀ g,r.ownBlock=some g->v.ownBlock≠some g)->Own w' e 1 r n ys:=fun h bm =>
  h.keep fun g o hg ho=>by rw [hb.block g (zZ ho) (fun e=>bm g hg e)];exact ho
 refine ⟨by rw [List.length_append,List.length_singleton,vF];exact ho,by rw [List.length_append,List.length_append,h.len];rfl,fun i u' x' hu hx=>?_,fun i j a b rh ha cL g=>?_⟩
 ·rcases Nat.lt_or_ge i us.length with hi | hi
  ·rw [List.getElem?_append_left hi] at hu
   rw [List.getElem?_append_left (by rw [<- h.len];exact hi)] at hx
   obtain ⟨k1,k2⟩:=h.each i u' x' hu hx
   exact ⟨key k1 (fun g hg=>k1.unlikeG h.own ud hg),key k2 (fun g hg=>k2.unlikeG h.own xu hg)⟩
  ·rw [List.getElem?_append_right hi] at hu
   rw [List.getElem?_append_right (by rw [<- h.len];exact hi),<- h.len] at hx
   have hi0:i-us.length=0:=by have:=(List.getElem?_eq_some_iff.1 hu).1;simp at this;omega
   rw [hi0] at hu hx
   obtain rfl:u=u':=by simpa using hu
   obtain rfl:x=x':=by simpa using hx
   exact ⟨key h1 (fun g hg=>h1.unlikeG h.own ud hg),key h2 (fun g hg=>h2.unlikeG h.own xu hg)⟩
 ·have last:∀ {k:Nat} {c:Value×Value},(us++[u])[k]? = some c->(us[k]? = some c/\k<us.length)\/(c=u/\k=us.length):=by
   intro k c hc
   rcases Nat.lt_or_ge k us.length with hk | hk
   ·rw [List.getElem?_append_left hk] at hc;exact .inl ⟨hc,hk⟩
   ·rw [List.getElem?_append_right hk] at hc
    have hi0:k-us.length=0:=by have:=(List.getElem?_eq_some_iff.1 hc).1;simp at this;omega
    rw [hi0] at hc
    exact .inr ⟨by simpa using hc.symm,by omega⟩
  rcases last ha with ⟨ka,Bb⟩ | ⟨ea,Bb⟩
  ·rcases last cL with ⟨kb,hjb⟩ | ⟨eb,hjb⟩
   ·exact h.apart i j a b rh ka kb g
   ·have hm:=List.mem_of_getElem? ka
    rw [eb]
    exact ⟨fun e1 e2=>hf g (.inl e2) (.inr ⟨a,hm,.inl e1⟩),fun e1 e2=>hf g (.inr e2) (.inr ⟨a,hm,.inr e1⟩)⟩
  ·rcases last cL with ⟨kb,hjb⟩ | ⟨eb,hjb⟩
   ·have hm:=List.mem_of_getElem? kb
    rw [ea]
    exact ⟨fun e1 e2=>hf g (.inl e1) (.inr ⟨b,hm,.inl e2⟩),fun e1 e2=>hf g (.inr e1) (.inr ⟨b,hm,.inr e2⟩)⟩
   ·omega
theorem PlB.snoc {v v':Value} {us:List (Value×Value)} {u:Value×Value} {b:Nat} (h:PlB v' (us++[u]) b):v'.ownBlock=some b\/PlB v us b\/u.1.ownBlock=some b\/u.2.ownBlock=some b:=by
 rcases h with h | ⟨c,hc,h⟩
 ·exact .inl h
 ·rcases List.mem_append.1 hc with hc | hc
  ·exact .inr (.inl (.inr ⟨c,hc,h⟩))
  ·simp at hc;subst hc;exact .inr (.inr h)
def plX (l:Pl):List Value×List Value:=(k_ l,qM l)
def yB (w:World) (L:List Pl) (v:Value) (us:List (Value×Value)):Prop:=jE w v us (L.map plX)
theorem yB.play {w:World} {L:List Pl} {v:Value} {us:List (Value×Value)} (h:yB w L v us) {i:Nat} {u:Value×Value} {l:Pl} (hu:us[i]? = some u) (hl:L[i]? = some l):zC w l u.1 u.2:=by
 have:=h.each i u (plX l) hu (by rw [List.getElem?_map,hl];rfl)
 simpa [plX,zC,k_,qM] using this
theorem yB.length {w:World} {L:List Pl} {v:Value} {us:List (Value×Value)} (h:yB w L v us):us.length=L.length:=by have:=h.len;rwa [List.length_map] at this
theorem jE.set1 {w w':World} {v:Value} {us:List (Value×Value)} {xs:xo} (h:jE w v us xs) {i:Nat} {u:Value×Value} {x:List Value×List Value} (hu:us[i]? = some u) (hx:xs[i]? = some x) {ys:List Value}
 (ho:Own w' 9 1 u.1 ys.length ys) (hb:But (fun b=>u.1.ownBlock=some b) w w'):jE w' v us (xs.set i (ys,x.2)):=by
 obtain ⟨o1,o2⟩:=h.each i u x hu hx
 refine ⟨h.own.keep fun g o hg ho=>by rw [hb.block g (zZ ho) (fun e=>o1.unlikeG h.own ud e hg)];exact ho,by rw [List.length_set];exact h.len,fun j c y hc hy=>?_,h.apart⟩
 by_cases rh:i=j
 ·subst rh
  rw [hu] at hc
  obtain rfl:=Option.some.inj hc
  rw [List.getElem?_set_self (List.getElem?_eq_some_iff.1 hx).1] at hy
  obtain rfl:=Option.some.inj hy
  exact ⟨ho,o2.keep fun g o hg ho=>by rw [hb.block g (zZ ho) (fun e=>o1.unlikeG o2 pT e hg)];exact ho⟩
 ·rw [List.getElem?_set_ne rh] at hy
  obtain ⟨k1,k2⟩:=h.each j c y hc hy
  exact ⟨k1.keep fun g o hg ho=>by rw [hb.block g (zZ ho) (fun e=>(h.apart i j u c rh hu hc g).1 e hg)];exact ho,
   k2.keep fun g o hg ho=>by rw [hb.block g (zZ ho) (fun e=>o1.unlikeG k2 pT e hg)];exact ho⟩
section
variable {P:Program} {ops:Array Oper} {Q:Exit->Act->World->Prop} {md:Region.Mode} {S:World->Prop} {T:Nat->Bool}
def kR (P:Program) (md:Region.Mode) (ops:Array Oper) (Q:Exit->Act->World->Prop) (S:World->Prop) (T:Nat->Bool):Nat->Array Bool->Act->World->Prop
 | 0,listed,a,w=>Region.ready md ops listed=[]/\Q .normal a w
 | fuel+1,listed,a,w =>
   (Region.ready md ops listed=[]->Q .normal a w) /\
   ∀ i∈Region.ready md ops listed,wpOp P ops Q i (fun a' w'=>(T i=false->S w')/\kR P md ops Q S T fuel (listed.setIfInBounds i true) a' w') a w
theorem pv:∀ (fuel:Nat) (listed:Array Bool) (a:Act) (w:World),kR P md ops Q S T fuel listed a w->wpAny P md ops Q fuel listed a w
 | 0,_,_,_,h=>h
 | fuel+1,_,_,_,h=>⟨h.1,fun i hi=>wpOp_mono (fun a' w' h'=>pv fuel _ a' w' h'.2) (h.2 i hi)⟩
theorem jp {md:Region.Mode} {ops:Array Oper} {L:Array Bool} {i j:Nat} (h:j∈Region.ready md ops L) (bm:j≠i):j∈Region.ready md ops (L.setIfInBounds i true):=by
 unfold Region.ready at *
 rw [List.mem_filter] at *
 refine ⟨h.1,?_⟩
 have h2:=h.2
 rw [Bool.and_eq_true] at *
 refine ⟨?_,?_⟩
 ·have e:(L.setIfInBounds i true).getD j true=L.getD j true:=by
   simp only [Array.getD_eq_getD_getElem?]
   rw [Array.getElem?_setIfInBounds_ne (fun e=>bm e.symm)]
  rw [e];exact h2.1
 ·have h3:=h2.2
  cases ho:ops[j]? with
  | none=>rw [ho] at h3;simp at h3
  | some o =>
    rw [ho] at h3
    simp only [Option.map_some,Option.getD_some] at h3 ⊢
    rw [Array.all_eq_true'] at *
    intro e he
    have h4:=h3 e he
    rw [Bool.or_eq_true] at *
    rcases h4 with h4 | h4
    ·exact .inl h4
    ·refine .inr ?_
     by_cases hk:e.on=i
     ·rw [hk]
      simp only [Array.getD_eq_getD_getElem?] at h4 ⊢
      rw [hk] at h4
      rcases Nat.lt_or_ge i L.size with h' | h'
      ·simp [h']
      ·rw [Array.getElem?_eq_none h'] at h4;simp at h4
     ·simp only [Array.getD_eq_getD_getElem?] at h4 ⊢
      rw [Array.getElem?_setIfInBounds_ne (fun e=>hk e.symm)];exact h4
theorem qw {md:Region.Mode} {ops:Array Oper} {L:Array Bool} {j:Nat} (h:j∈Region.ready md ops L) :
 L.getD j true=false/\∃ o,ops[j]? = some o/\∀ e∈o.after,Region.binds md e=true->L.getD e.on false=true:=by
 unfold Region.ready at h
 rw [List.mem_filter] at h
 have h2:=h.2
 rw [Bool.and_eq_true] at h2
 refine ⟨by simpa using h2.1,?_⟩
 cases ho:ops[j]? with
 | none=>have:=h2.2;rw [ho] at this;simp at this
 | some o =>
   refine ⟨o,rfl,fun e he hb=>?_⟩
   have h3:=h2.2
   rw [ho] at h3
   simp only [Option.map_some,Option.getD_some] at h3
   rw [Array.all_eq_true'] at h3
   have h4:=h3 e he
   rw [Bool.or_eq_true] at h4
   rcases h4 with h4 | h4
   ·rw [hb] at h4;simp at h4
   ·exact h4
theorem wpAnyS_first {i:Nat} {oi:Oper} {v:Value} (hi:ops[i]? = some oi) (sx:∀ (j:Nat) (o:Oper) cs b,ops[j]? = some o->o.op≠.select cs b)
 (hQ:∀ c a w,Q (.panic c) (a.put oi.dst v) w->Q (.panic c) a w)
 (hT:∀ j oj,ops[j]? = some oj->T j=true->∃ e∈oj.after,Region.binds md e=true/\e.on=i) (hTi:T i=false) :
 ∀ (fuel:Nat) (listed:Array Bool) (a:Act) (w:World),
   (∀ j oj,ops[j]? = some oj->j≠i->listed.getD j true=false->(∀ e∈oj.after,Region.binds md e=true->e.on≠i)->oi.apart ops oj=true) ->
   i∈Region.ready md ops listed->YieldsIf P ops S oi v a->S w ->
   kR P md ops Q S T fuel (listed.setIfInBounds i true) (a.put oi.dst v) w->kR P md ops Q S T (fuel+1) listed a w:=by
 intro fuel
 induction fuel with
 | zero =>
   intro listed a w _ hr hy hS H
   refine ⟨fun h=>(by rw [h] at hr;cases hr),fun j hj=>?_⟩
   by_cases mJ:j=i
   ·subst mJ;exact hy.wpOp hi hS ⟨fun _=>hS,H⟩
   ·have:=jp hj mJ
    rw [H.1] at this
    cases this
 | succ fuel ih =>
   intro listed a w dw hr hy hS H
   refine ⟨fun h=>(by rw [h] at hr;cases hr),fun j hj=>?_⟩
   by_cases mJ:j=i
   ·subst mJ;exact hy.wpOp hi hS ⟨fun _=>hS,H⟩
   ·have h1:=H.2 j (jp hj mJ)
    obtain ⟨tW,oj,aW,be⟩:=qw hj
    have s5:∀ e∈oj.after,Region.binds md e=true->e.on≠i:=fun e he hb tG=>by
     have h1:=be e he hb
     have h0:=(qw hr).1
     rw [tG] at h1
     simp only [Array.getD_eq_getD_getElem?] at h0 h1
     rcases Nat.lt_or_ge i listed.size with h' | h'
     ·simp [h'] at h0 h1;rw [h0] at h1;cases h1
     ·simp [Array.getElem?_eq_none h'] at h1
    have hTj:T j=false:=by
     cases hT':T j with
     | false=>rfl
     | true =>
       obtain ⟨e,he,hb,tG⟩:=hT j oj aW hT'
       exact absurd tG (s5 e he hb)
    have h2:=wpOp_putIf aW (dw j oj aW mJ tW s5) (fun cs b=>sx i oi cs b hi) (fun cs b=>sx j oj cs b aW) hQ hy h1
    have nj:∀ k ok,ops[k]? = some ok->k≠i->(listed.setIfInBounds j true).getD k true=false ->
     (∀ e∈ok.after,Region.binds md e=true->e.on≠i)->oi.apart ops ok=true:=fun k ok hk hki aY dU=>by
     refine dw k ok hk hki ?_ dU
     by_cases oe:j=k
     ·subst oe;exact tW
     ·simp only [Array.getD_eq_getD_getElem?] at aY ⊢
      rw [Array.getElem?_setIfInBounds_ne oe] at aY;exact aY
    refine wpOp_mono (fun a' w' h3=>⟨h3.2.1,ih (listed.setIfInBounds j true) a' w' nj (jp hr (Ne.symm mJ)) h3.1 (h3.2.1 hTj) ?_⟩) h2
    rw [Array.setIfInBounds_comm _ _ mJ]
    exact h3.2.2
def waitT (md:Region.Mode) (ops:Array Oper) (T:Nat->Bool) (i:Nat):Bool :=
 !T i && (List.range ops.size).all fun j=>!T j || ((ops[j]?).map fun o=>o.after.any fun e=>Region.binds md e && e.on == i).getD true
theorem waitT_spec {i:Nat} (h:waitT md ops T i=true):T i=false/\∀ j oj,ops[j]? = some oj->T j=true->∃ e∈oj.after,Region.binds md e=true/\e.on=i:=by
 unfold waitT at h
 rw [Bool.and_eq_true] at h
 refine ⟨by simpa using h.1,fun j oj hj hT=>?_⟩
 have h2:=h.2
 rw [List.all_eq_true] at h2
 have h3:=h2 j (List.mem_range.2 (Array.getElem?_eq_some_iff.1 hj).1)
 rw [hT,hj] at h3
 simp only [Bool.not_true,Bool.false_or,Option.map_some,Option.getD_some] at h3
 rw [Array.any_eq_true'] at h3
 obtain ⟨e,he,h4⟩:=h3
 rw [Bool.and_eq_true,beq_iff_eq] at h4
 exact ⟨e,he,h4⟩
theorem wpAnyS_take (i:Nat) {v:Value} {fuel:Nat} {listed:Array Bool} {a:Act} {w:World}
 (hs:Region.noSelect ops=true) (hf:Region.free md ops listed i=true) (hr:(Region.ready md ops listed).contains i=true) (ht:waitT md ops T i=true)
 (hQ:∀ d c a w,Q (.panic c) (a.put d v) w->Q (.panic c) a w) (hS:S w)
 (hy:∀ oi,ops[i]? = some oi->YieldsIf P ops S oi v a)
 (h:∀ d,(ops[i]?).bind (·.dst)=d->kR P md ops Q S T fuel (listed.setIfInBounds i true) (a.put d v) w):kR P md ops Q S T (fuel+1) listed a w:=by
 have hm:i∈Region.ready md ops listed:=by simpa using hr
 obtain ⟨_,oi,hi,_⟩:=qw hm
 obtain ⟨h1,h2⟩:=waitT_spec ht
 exact wpAnyS_first hi (Region.noSelect_spec hs) (fun c a w=>hQ _ c a w) h2 h1 fuel listed a w (Region.free_spec hi hf) hm (hy oi hi) hS (h _ (by rw [hi];rfl))
def tks (P:Program) (ops:Array Oper) (S:World->Prop):List Nat->List (Option Tmp)->Act->(Act->Prop)->Prop
 | i::l,d::ds,a,K=>∃ v,(∀ oi,ops[i]? = some oi->YieldsIf P ops S oi v a)/\tks P ops S l ds (a.put d v) K
 | [],_,a,K=>K a
 | _::_,[],_,_=>False
def tkOk (md:Region.Mode) (ops:Array Oper) (T:Nat->Bool):List Nat->Array Bool->Bool
 | [],_=>true
 | i::l,L=>Region.free md ops L i && ((Region.ready md ops L).contains i && (waitT md ops T i && tkOk md ops T l (L.setIfInBounds i true)))
def tkL:List Nat->Array Bool->Array Bool
 | [],L=>L
 | i::l,L=>tkL l (L.setIfInBounds i true)
def tkN:List Nat->Nat->Nat
 | [],n=>n
 | _::l,n=>tkN l n+1
def tkD (ops:Array Oper):List Nat->List (Option Tmp)
 | []=>[]
 | i::l=>(ops[i]?).bind (·.dst)::tkD ops l
theorem tk (is:List Nat) {fuel:Nat} {listed:Array Bool} {a:Act} {w:World} (hS:S w) (h:∀ ds,tkD ops is=ds->tks P ops S is ds a (fun a'=>kR P md ops Q S T fuel (tkL is listed) a' w))
 (b4:(Region.noSelect ops && tkOk md ops T is listed)=true:=by kernel_rfl) (hQ:∀ v d c a w,Q (.panic c) (a.put d v) w->Q (.panic c) a w:=by exact fun _ _ _ _ _ h=>h):kR P md ops Q S T (tkN is fuel) listed a w:=by
 have h':=h _ rfl
 clear h
 rw [Bool.and_eq_true] at b4
 obtain ⟨hs,b4⟩:=b4
 induction is generalizing listed a with
 | nil=>exact h'
 | cons i l ih =>
   rw [tkOk,Bool.and_eq_true,Bool.and_eq_true,Bool.and_eq_true] at b4
   rw [tkD,tks] at h'
   obtain ⟨v,hy,hk⟩:=h'
   exact wpAnyS_take i hs b4.1 b4.2.1 b4.2.2.1 (fun d c a w=>hQ v d c a w) hS hy (fun d hd=>by
    rw [hd] at hk
    exact ih hk b4.2.2.2)
theorem pQ (l:List Value) (df:List Deferred) (k:Nat) (v:Value):Act.put ⟨l.toArray,df⟩ (some k) v=⟨(l.set k v).toArray,df⟩:=by simp [Act.put]
theorem pN (a:Act) (v:Value):Act.put a none v=a:=rfl
theorem pZ (x y:Value) (l:List Value):(x::l).set 0 y=y::l:=rfl
theorem pS (x y:Value) (l:List Value) (n:Nat):(x::l).set (n+1) y=x::l.set n y:=rfl
theorem wpAnyS_one (i:Nat) {fuel:Nat} {listed:Array Bool} {a:Act} {w:World} (hr:Region.ready md ops listed=[i])
 (h:∀ o,ops[i]? = some o->∀ K':Act->World->Prop,Shut (∀ a w,(T i=false->S w)->kR P md ops Q S T fuel (listed.setIfInBounds i true) a w->K' a w) ->
  if Region.wanted o (yielded ops a.tmps)=true then Oper.wp P o a w K' Q else K' (a.put o.dst undef) w):kR P md ops Q S T (fuel+1) listed a w:=by
 refine ⟨fun h0=>by rw [hr] at h0;simp at h0,fun j hj=>?_⟩
 rw [hr] at hj
 simp only [List.mem_singleton] at hj
 subst hj
 obtain ⟨_,o,ho,_⟩:=qw (md:=md) (ops:=ops) (L:=listed) (j:=j) (by rw [hr];simp)
 exact wpOp_step ho (fun K' hK=>h o ho K' (fun a w hS hW=>hK a w ⟨hS,hW⟩))
theorem on (i:Nat) {fuel:Nat} {listed:Array Bool} {a:Act} {w:World}
 (h:∀ o,ops[i]? = some o->∀ K':Act->World->Prop,Shut (∀ a w,(T i=false->S w)->kR P md ops Q S T fuel (listed.setIfInBounds i true) a w->K' a w) ->
  if Region.wanted o (yielded ops a.tmps)=true then Oper.wp P o a w K' Q else K' (a.put o.dst undef) w) (hr:Region.ready md ops listed=[i]:=by kernel_rfl):kR P md ops Q S T (fuel+1) listed a w :=
 wpAnyS_one i hr h
theorem kK (i j:Nat) {fuel:Nat} {listed:Array Bool} {a:Act} {w:World} (hr:Region.ready md ops listed=[i,j])
 (h:∀ o,ops[i]? = some o->∀ K':Act->World->Prop,Shut (∀ a w,(T i=false->S w)->kR P md ops Q S T fuel (listed.setIfInBounds i true) a w->K' a w) ->
  if Region.wanted o (yielded ops a.tmps)=true then Oper.wp P o a w K' Q else K' (a.put o.dst undef) w)
 (h2:∀ o,ops[j]? = some o->∀ K':Act->World->Prop,Shut (∀ a w,(T j=false->S w)->kR P md ops Q S T fuel (listed.setIfInBounds j true) a w->K' a w) ->
  if Region.wanted o (yielded ops a.tmps)=true then Oper.wp P o a w K' Q else K' (a.put o.dst undef) w):kR P md ops Q S T (fuel+1) listed a w:=by
 refine ⟨fun h0=>by rw [hr] at h0;simp at h0,fun k hk=>?_⟩
 obtain ⟨_,o,ho,_⟩:=qw hk
 rw [hr] at hk
 simp only [List.mem_cons,List.not_mem_nil,or_false] at hk
 rcases hk with rfl | rfl
 ·exact wpOp_step ho (fun K' hK=>h o ho K' (fun a w hS hW=>hK a w ⟨hS,hW⟩))
 ·exact wpOp_step ho (fun K' hK=>h2 o ho K' (fun a w hS hW=>hK a w ⟨hS,hW⟩))
theorem xU (i j k:Nat) {fuel:Nat} {listed:Array Bool} {a:Act} {w:World} (hr:Region.ready md ops listed=[i,j,k])
 (hi:∀ o,ops[i]? = some o->∀ K':Act->World->Prop,Shut (∀ a w,(T i=false->S w)->kR P md ops Q S T fuel (listed.setIfInBounds i true) a w->K' a w) ->
  if Region.wanted o (yielded ops a.tmps)=true then Oper.wp P o a w K' Q else K' (a.put o.dst undef) w)
 (hj:∀ o,ops[j]? = some o->∀ K':Act->World->Prop,Shut (∀ a w,(T j=false->S w)->kR P md ops Q S T fuel (listed.setIfInBounds j true) a w->K' a w) ->
  if Region.wanted o (yielded ops a.tmps)=true then Oper.wp P o a w K' Q else K' (a.put o.dst undef) w)
 (hk:∀ o,ops[k]? = some o->∀ K':Act->World->Prop,Shut (∀ a w,(T k=false->S w)->kR P md ops Q S T fuel (listed.setIfInBounds k true) a w->K' a w) ->
  if Region.wanted o (yielded ops a.tmps)=true then Oper.wp P o a w K' Q else K' (a.put o.dst undef) w):kR P md ops Q S T (fuel+1) listed a w:=by
 refine ⟨fun h0=>by rw [hr] at h0;simp at h0,fun x hk=>?_⟩
 obtain ⟨_,o,ho,_⟩:=qw hk
 rw [hr] at hk
 simp only [List.mem_cons,List.not_mem_nil,or_false] at hk
 rcases hk with rfl | rfl | rfl
 ·exact wpOp_step ho (fun K' hK=>hi o ho K' (fun a w hS hW=>hK a w ⟨hS,hW⟩))
 ·exact wpOp_step ho (fun K' hK=>hj o ho K' (fun a w hS hW=>hK a w ⟨hS,hW⟩))
 ·exact wpOp_step ho (fun K' hK=>hk o ho K' (fun a w hS hW=>hK a w ⟨hS,hW⟩))
theorem zU {listed:Array Bool} {a:Act} {w:World} (hr:Region.ready md ops listed=[]) (h:Q .normal a w) :
 ∀ fuel,kR P md ops Q S T fuel listed a w
 | 0=>⟨hr,h⟩
 | _+1=>⟨fun _=>h,by rw [hr];simp⟩
theorem zX {id:Nat} {a:Act} {w:World} (S:World->Prop) (T:Nat->Bool) (hm:P.follows .mixedOrders=true)
 (h:kR P .any ops Q S T ops.size (Array.replicate ops.size false) a w.drew):(Code.region id ops true).wp P Q a w :=
 wp_region_any hm (pv _ _ _ _ h)
end
theorem out_cell {m:Nat->Prop} {w6 w7:World} {o:Obj} {ob f:Nat} {u:Value} (hb:But m (w6.alloc o) w7) (hm:¬ m ob) (h:w6.cell? ⟨ob,f,none⟩=some u):w7.cell? ⟨ob,f,none⟩=some u:=by
 have bA:=bW w6 ⟨ob,f,none⟩ h
 rw [hb.cell (p:=⟨ob,f,none⟩) (by rw [zQ];exact Nat.lt_succ_of_lt bA) hm]
 exact zG h
theorem out_free {m:Nat->Prop} {w6 w7:World} {o:Obj} {ob f:Nat} (hb:But m (w6.alloc o) w7) (hm:¬ m ob) (bA:ob<w6.heap.size) (h:w6.frozen? ⟨ob,f,none⟩=false):w7.frozen? ⟨ob,f,none⟩=false:=by
 rw [World.frozen?_of_block (w:=w6) (by rw [hb.block _ (by rw [zQ];omega) hm,Below.heap_alloc _ _ _ bA])]
 exact h
theorem own_thru {wr w5 w6:World} {e:TypeId} {sz n:Nat} {v:Value} {xs:List Value} {rd:Nat} (h:Own wr e sz v n xs) (hg:∀ g,v.ownBlock=some g->g≠rd) (b_:But (· = rd) wr w5) (b9:But (· = rd) w5 w6):Own w6 e sz v n xs :=
 h.keep fun g o hgo ho=>by
  have bA:=zZ ho
  rw [b9.block g (bH bA b_.size) (hg g hgo),b_.block g bA (hg g hgo)];exact ho
theorem jn {rd:Nat} {w w':World} (hb:But (· = rd) w w') {b o:Nat} {u:Value} (bm:b≠rd) (h:w.cell? ⟨b,o,none⟩=some u):w'.cell? ⟨b,o,none⟩=some u :=
 (hb.cell (p:=⟨b,o,none⟩) (bW w ⟨b,o,none⟩ h) bm).trans h
theorem xr {rd:Nat} {w w':World} (hb:But (· = rd) w w') {b o:Nat} (bm:b≠rd) (bA:b<w.heap.size) (h:w.frozen? ⟨b,o,none⟩=false):w'.frozen? ⟨b,o,none⟩=false:=by
 rw [World.frozen?_of_block (w:=w) (hb.block b bA bm)];exact h
def bZ (size:Nat) (v:Value) (n:Nat) (xs:List Value) (w:World):Prop :=
 xs.length=n*size/\((∃ b,v=.slice (some b) n n/\∀ (j:Nat) u,xs[j]? = some u->w.cell? (b.add j)=some u)\/(v=.slice none 0 0/\n=0))
theorem bZ.ofRep {F:Nat->Prop} {w:World} {e:TypeId} {sz n:Nat} {cs:List DV} {a:Option Addr} {c:Nat} (h:Rep F w (.sl e sz n cs) (.slice a n c)) (oA:∀ us,zq F w cs us->∀ u∈us,u.oneCell'=true) :
 ∃ xs,zq F w cs xs/\bZ sz (.slice a n n) n xs w:=by
 obtain ⟨xs,h1,h2,_,h4⟩:=zR.ofRep h oA
 refine ⟨xs,h1,h2,?_⟩
 rcases h4 with ⟨b,c',e1,h5⟩ | ⟨e1,rfl⟩
 ·injection e1 with e2 e3 e4
  subst e2
  exact .inl ⟨b,rfl,h5⟩
 ·injection e1 with e2 e3 e4
  subst e2
  exact .inr ⟨rfl,rfl⟩
theorem bZ.drew {w:World} {size n:Nat} {v:Value} {xs:List Value} (h:bZ size v n xs w):bZ size v n xs w.drew:=h
theorem ji {P:Program} {c:Code} {Q:Exit->Act->World->Prop} {a:Act} {w:World} {X:Type} (f:Act->X->Act) (F:X->World->Prop)
 (h1:c.wp P (fun e a' w'=>e=.normal/\∃ x,a'=f a x/\F x w') a w) (h2:∀ x w',F x w'->Q .normal (f a x) w'):c.wp P Q a w :=
 Code.wp_mono (fun e a' w' ⟨he,x,hx,hF⟩=>by subst he;subst hx;exact h2 x w' hF) h1
theorem zK {w:World} {b o:Nat} {c:Array Value} {e:TypeId} {u:Value} (h:w.heap[b]? = some (.cells c e (0,0))):(w.setCell ⟨b,o,none⟩ u).heap[b]? = some (.cells (c.setIfInBounds o u) e (0,0)):=by
 have bA:=zZ h
 have h':w.heap[b]=.cells c e (0,0):=by simpa [Array.getElem?_eq_getElem bA] using h
 show (w.heap.modify b _)[b]? = _
 rw [Array.getElem?_eq_getElem (by simpa using bA),Array.getElem_modify_self,h']
 simp
structure BoxRes (F0:Nat->Prop) (W:World) (g:Nat) (o:Obj) (d:List DV) (v:List Value) (Z:World):Prop where
 below:Below W.heap.size W Z
 new:W.heap.size<=g
 blk:Z.heap[g]? = some o
 rep:zq (fun i=>(F0 i\/W.heap.size<=i)/\i≠g) Z d v
theorem BoxRes.first {F0:Nat->Prop} {W V0 V1 Z:World} {o:Obj} {d:List DV} {v:List Value} (hF0:∀ i,F0 i->i<W.heap.size) (h0:Below W.heap.size W V0) (fq:V0.heap.size=W.heap.size+1) (hb:Below V0.heap.size V0 V1) (hr:zq (fun i=>F0 i\/V0.heap.size<=i) V1 d v)
 (bf:But (fun i=>i=W.heap.size) V1 Z) (fP:Z.heap[W.heap.size]? = some o):BoxRes F0 W W.heap.size o d v Z:=by
 have hz:=hb.size
 have bE:Below W.heap.size W V1:=h0.trans (hb.mono (by omega))
 refine ⟨bE.trans (bf.toBelow (by omega) fun i hi e=>by omega),bX _,fP,?_⟩
 refine (Rep.keep fun i x hi hx=>?_).2 _ _ hr
 have bm:i≠W.heap.size:=by rcases hi with h | h;have:=hF0 i h;omega;omega
 exact ⟨⟨hi.elim .inl (fun h=>.inr (by omega)),bm⟩,by rw [bf.block i (zZ hx) bm];exact hx⟩
theorem BoxRes.last {F0:Nat->Prop} {W V1 Z:World} {z o:Obj} {d:List DV} {v:List Value} (hb:Below W.heap.size W V1) (hr:zq (fun i=>F0 i\/W.heap.size<=i) V1 d v)
 (bf:But (fun i=>i=V1.heap.size) (V1.alloc z) Z) (fP:Z.heap[V1.heap.size]? = some o):BoxRes F0 W V1.heap.size o d v Z:=by
 have hz:=hb.size
 refine ⟨(hb.alloc hz z).trans (bf.toBelow (by rw [zQ];omega) fun i hi e=>by omega),hz,fP,?_⟩
 refine (Rep.keep fun i x hi hx=>?_).2 _ _ hr
 have hl:=zZ hx
 have bm:i≠V1.heap.size:=by omega
 exact ⟨⟨hi,bm⟩,by rw [bf.block i (by rw [zQ];omega) bm,Below.heap_alloc _ _ _ hl];exact hx⟩
def CopyP (l:Pl) (w:World) (en:Ending) (w':World):Prop :=
 ∃ mv pt,en=.returned (.agg #[mv,pt])/\zC w' l mv pt/\Below w.heap.size w w'/\∀ g,mv.ownBlock=some g\/pt.ownBlock=some g->w.heap.size<=g
theorem zJ {w:World} {b:Nat} {x y:Value} {T:TypeId} (h:w.heap[b]? = some (.cells #[x,y] T (0,0))):w.cell? ⟨b,0,none⟩=some x/\w.cell? ⟨b,1,none⟩=some y/\w.frozen? ⟨b,0,none⟩=false/\w.frozen? ⟨b,1,none⟩=false :=
 ⟨by simp [World.cell?,h],by simp [World.cell?,h],by simp [World.frozen?,h],by simp [World.frozen?,h]⟩
theorem qy {w:World} {b:Nat} {x y:Value} {T:TypeId} (h:w.heap[b]? = some (.cells #[x,y] T (0,0))) (u v:Value):((w.setCell ⟨b,0,none⟩ u).setCell ⟨b,1,none⟩ v).heap[b]? = some (.cells #[u,v] T (0,0)):=by
 rw [zK (zK h)];rfl
set_option maxRecDepth 100000 in
theorem clone_any (l:Pl) (mv pt:Value) (w:World) (h1:zR 1 mv l.length (k_ l) w) (h2:zR 1 pt l.length (qM l) w) (hl:l.length<=100000) :
 Calls Tryz.prog 35 #[.agg #[mv,pt]] w (CopyP l w):=by
 obtain ⟨a1,c1,rfl⟩:=h1.slice
 obtain ⟨a2,c2,rfl⟩:=h2.slice
 obtain ⟨W,hW⟩:=zzN ((w.alloc (.cells #[.slice a1 l.length c1,.slice a2 l.length c2] 33)).alloc (.cells #[.slice none 0 0,.slice none 0 0] 33))
 have bM:Below w.heap.size w W:=by rw [<- hW];exact ((bP _ _).alloc (bX _) _).alloc (by simp) _
 have hz:W.heap.size=w.heap.size+2:=by rw [<- hW];simp
 have b0:W.heap[w.heap.size]? = some (.cells #[.slice a1 l.length c1,.slice a2 l.length c2] 33 (0,0)):=by rw [<- hW];exact zD (zS _ _)
 have b1:W.heap[w.heap.size+1]? = some (.cells #[.slice none 0 0,.slice none 0 0] 33 (0,0)):=by
  rw [<- hW]
  have:=zS (w.alloc (.cells #[.slice a1 l.length c1,.slice a2 l.length c2] 33)) (.cells #[.slice none 0 0,.slice none 0 0] 33)
  rwa [zQ] at this
 have g1:zR 1 (.slice a1 l.length c1) l.length (k_ l) W:=h1.below bM
 have g2:zR 1 (.slice a2 l.length c2) l.length (qM l) W:=h2.below bM
 have HW:=bU hW
 have HB:=bU (bY bM (bY hz (bY b0 b1)))
 have KEY:Hid (∀ x,Below W.heap.size W x->x.cell? ⟨w.heap.size,0,none⟩=some (.slice a1 l.length c1)/\x.cell? ⟨w.heap.size,1,none⟩=some (.slice a2 l.length c2)):=bU (fun x hx=>by
  have h:=(hx.block _ (zZ HB.out.2.2.1)).trans HB.out.2.2.1
  exact ⟨(zJ h).1,(zJ h).2.1⟩)
 clear hW h1 h2 bM hz b0 b1
 go_enter Tryz.func35,Tryz.ntmps35
 go_wp2_with fail
 rw [HW.out]
 refine wp_region_noPanic ?_
 refine zX (fun w'=>Below W.heap.size W w') (fun i=>i == 7) (by kernel_rfl) ?_
 have bS:(fun w'=>Below W.heap.size W w') W.drew:=Below.drew (bP _ _)
 refine tk [0,1,3,4] bS ?_
 (intro d hd;simp [tkD] at hd;subst hd;simp only [tks,pQ,pZ,pS])
 iterate 4 (refine ⟨?_,?_,?_⟩;rotate_left;· (intro oi ho;simp at ho;subst ho;refine Or.inl ⟨by rfl,fun w' bR=>?_⟩;obtain ⟨e0,e1⟩:=KEY.out w' bR;go_simp;try with_reducible rfl))
 (refine on 2 ?_;intro o ho K' hK;simp at ho;subst ho)
 refine zE (by rfl) _ _ _ (by rfl) 9 (str []) 1 16 Tryz.underlying30 Tryz.infoStr rfl (by decide) (.slice none 0 0) 0 [] (by rfl) (World.ownsRow_nil _ _ _ _) _ l.length (k_ l) (by rfl) (g1.drew) (by unfold maxLen;omega) (by omega) ?_
 intro ax cx wx hox eo hgx
 simp only [Nat.zero_add,List.nil_append] at hox hgx ⊢
 have Ev:Below W.heap.size W wx:=Below.trans bS (eo.toBelow (Below.size bS) fun i hi e=>by simp [Value.ownBlock] at e)
 have hfx:∀ g,(Value.slice ax l.length cx).ownBlock=some g->W.heap.size<=g:=fun g hg=>by rcases hgx g hg with h | h;simp [Value.ownBlock] at h;exact Nat.le_of_eq h.symm
 (refine hK.out _ _ (fun _=>Ev) ?_;clear hK K';try simp only [pQ,pN,pZ,pS])
 (refine on 5 ?_;intro o ho K' hK;simp at ho;subst ho)
 refine zE (by rfl) _ _ _ (by rfl) 3 (.int .i64 0) 1 8 Tryz.underlying31 Tryz.infoInt rfl (by decide) (.slice none 0 0) 0 [] (by rfl) (World.ownsRow_nil _ _ _ _) _ l.length (qM l) (by rfl) (g2.below Ev) (by unfold maxLen;omega) (by omega) ?_
 intro ay cy wy hoy mF hgy
 simp only [Nat.zero_add,List.nil_append] at hoy hgy ⊢
 have Eu:Below wx.heap.size wx wy:=mF.toBelow (bX _) fun i hi e=>by simp [Value.ownBlock] at e
 have bz:Below W.heap.size W wy:=zzT Ev Eu
 have Ac:∀ g,(Value.slice ay l.length cy).ownBlock=some g->W.heap.size<=g:=fun g hg=>by rcases hgy g hg with h | h;simp [Value.ownBlock] at h;exact bC Ev.size (Nat.le_of_eq h.symm)
 (refine hK.out _ _ (fun _=>bz) ?_;clear hK K';try simp only [pQ,pN,pZ,pS])
 (refine on 6 ?_;intro o ho K' hK;simp at ho;subst ho;go_simp)
 (refine hK.out _ _ (fun _=>bz) ?_;clear hK K';try simp only [pQ,pN,pZ,pS])
 (refine on 7 ?_;intro o ho K' hK;simp at ho;subst ho)
 have b1:=(bz.block _ (zZ HB.out.2.2.2)).trans HB.out.2.2.2
 obtain ⟨z0,z1,z2,z3⟩:=zJ b1
 go_simp
 (refine hK.out _ _ (fun h=>by simp at h) ?_;clear hK K';try simp only [pQ,pN,pZ,pS])
 refine zU (by kernel_rfl) (NoPanic.normal ?_) _
 go_wp2_with fail
 have hV:=qy b1 (.slice ax l.length cx) (.slice ay l.length cy)
 obtain ⟨s0,s1,_,_⟩:=zJ hV
 have hz:=HB.out.2.1
 have eQ:=((zzT HB.out.1 bz).setCell (p:=⟨w.heap.size+1,0,none⟩) (Nat.le_succ _) (.slice ax l.length cx)).setCell (p:=⟨w.heap.size+1,1,none⟩) (Nat.le_succ _) (.slice ay l.length cy)
 refine bodyPost_ret (v:=.agg #[.slice ax l.length cx,.slice ay l.length cy]) (by simp [results,Tryz.results35,go_sem,s0,s1]) rfl ?_
 refine ⟨_,_,rfl,⟨?_,?_⟩,eQ,fun g hg=>?_⟩
 ·exact (hox.keep fun g o _ ho=>by rw [Eu.block g (zZ ho)];exact ho).keep fun g o hg ho=>by
   have:=hfx g hg
   rw [bG _ _ _ _ (by show g≠w.heap.size+1;omega),bG _ _ _ _ (by show g≠w.heap.size+1;omega)];exact ho
 ·exact hoy.keep fun g o hg ho=>by
   have:=Ac g hg
   rw [bG _ _ _ _ (by show g≠w.heap.size+1;omega),bG _ _ _ _ (by show g≠w.heap.size+1;omega)];exact ho
 ·rcases hg with hg | hg
  ·have:=hfx g hg;omega
  ·have:=Ac g hg;omega
theorem kH (w:World) (A B:Obj):∃ W,(w.alloc A).alloc B=W/\Below w.heap.size w W/\W.heap.size=w.heap.size+2/\W.heap[w.heap.size]? = some A/\W.heap[w.heap.size+1]? = some B:=by
 refine ⟨_,rfl,((bP _ _).alloc (bX _) _).alloc (by rw [zQ];omega) _,by rw [zQ,zQ],zD (zS _ _),?_⟩
 have h:=zS (w.alloc A) B
 rwa [zQ] at h
theorem kJ (w:World) (A:Obj):∃ W,w.alloc A=W/\Below w.heap.size w W/\W.heap.size=w.heap.size+1/\W.heap[w.heap.size]? = some A :=
 ⟨_,rfl,(bP _ _).alloc (bX _) _,by rw [zQ],zS _ _⟩
set_option maxRecDepth 100000 in
theorem with_any (l:Pl) (mv pt:Value) (s:Bs) (p:Int) (w:World) (h1:zR 1 mv l.length (k_ l) w) (h2:zR 1 pt l.length (qM l) w) (hl:l.length<=1000) :
 Calls Tryz.prog 68 #[.agg #[mv,pt],str s,.int .i64 p] w (CopyP (l++[(s,p)]) w):=by
 obtain ⟨a1,c1,rfl⟩:=h1.slice
 obtain ⟨a2,c2,rfl⟩:=h2.slice
 obtain ⟨W,hW,bM,hz,b0,b1⟩:=kH w (.cells #[.slice a1 l.length c1,.slice a2 l.length c2] 33) (.cells #[.slice none 0 0,.slice none 0 0] 33)
 obtain ⟨e0,e1,_,_⟩:=zJ b0
 have C:=bU (clone_any l _ _ W (h1.below bM) (h2.below bM) (by omega))
 have HB:=bU (bY bM (bY hz b1))
 have HW:=bU hW
 clear hW h1 h2 bM hz b0 b1
 go_enter Tryz.func68,Tryz.ntmps68
 go_upto_region 1 with (fail)
 rw [HW.out]
 go_wp2_with fail
 (with_reducible refine C.out.mono ?_)
 rintro en w1 ⟨mv1,pt1,rfl,nI,bE,hf1⟩
 obtain ⟨a3,c3,e3⟩:=nI.1.slice
 obtain ⟨a4,c4,e4⟩:=nI.2.slice
 subst e3;subst e4
 obtain ⟨W1,sE,ez,dO,bx⟩:=kJ w1 (.cells #[.slice a3 l.length c3,.slice a4 l.length c4] 33)
 obtain ⟨x0,x1,xf0,xf1⟩:=zJ bx
 have mQ:=nI.1.keep (w':=W1) fun g o _ ho=>by rw [<- sE];exact zD ho
 have mC:=nI.2.keep (w':=W1) fun g o _ ho=>by rw [<- sE];exact zD ho
 have iD:∀ g,(Value.slice a3 l.length c3).ownBlock=some g->g<w1.heap.size:=fun g hg=>nI.1.lt hg
 have hl4:∀ g,(Value.slice a4 l.length c4).ownBlock=some g->g<w1.heap.size:=fun g hg=>nI.2.lt hg
 have aY:∀ g,(Value.slice a3 l.length c3).ownBlock=some g->(Value.slice a4 l.length c4).ownBlock≠some g:=fun g hg=>nI.1.unlike nI.2 pT hg
 have H1:=bU (bY bE (bY hf1 (bY ez (bY dO (bY bx (bY mQ mC))))))
 have HL:=bU (bY iD (bY hl4 aY))
 have HW1:=bU sE
 clear sE ez dO bx mQ mC iD hl4 aY nI bE hf1 C e0 e1
 go_upto_region 2 with (fail)
 rw [HW1.out]
 go_wp2_with (at_builtin;refine zB rfl _ _ 30 rfl 9 (str []) 1 16 Tryz.underlying30 Tryz.infoStr rfl (by decide) (.slice a3 l.length c3) l.length (k_ l) rfl ?c1 _ 1 [str s] rfl ?c2 ?c3 ?c4 ?_)
 case c1=>exact H1.out.2.2.2.2.2.1.alloc _
 case c2=>exact zR.lit rfl
 case c3=>unfold maxLen;omega
 case c4=>omega
 intro a5 c5 w2 oO bN mt
 have HO2:=bU (bY oO (bY bN mt))
 have al:=H1.out.2.2.2.1
 have i6:=HB.out.2.1
 have iJ:=H1.out.1.size
 have af:∀ g,g<W1.heap.size->(Value.slice a3 l.length c3).ownBlock≠some g->w2.heap[g]? = W1.heap[g]?:=fun g hg hn=>by
  rw [bN.block g (by rw [zQ];omega) hn,Below.heap_alloc _ _ _ hg]
 have nT:W1.heap.size+1<=w2.heap.size:=by have:=bN.size;rwa [zQ] at this
 have bx2:w2.heap[w1.heap.size]? = some (.cells #[.slice a3 l.length c3,.slice a4 l.length c4] 33 (0,0)):=by
  rw [af _ (by omega) (fun e=>by have:=HL.out.1 _ e;omega)];exact H1.out.2.2.2.2.1
 have br2:w2.heap[w.heap.size+1]? = some (.cells #[.slice none 0 0,.slice none 0 0] 33 (0,0)):=by
  rw [af _ (by omega) (fun e=>by have:=H1.out.2.1 _ (.inl e);omega),H1.out.2.2.1.block _ (by omega),H1.out.1.block _ (by omega)];exact HB.out.2.2
 have mC:Own w2 3 1 (.slice a4 l.length c4) l.length (qM l):=H1.out.2.2.2.2.2.2.keep fun g o hg ho=>by
  rw [af g (zZ ho) (fun e=>HL.out.2.2 g e hg)];exact ho
 have DP:Below w.heap.size w w2:=by
  have h1:Below w.heap.size w W1:=(zzT HB.out.1 H1.out.1).trans (H1.out.2.2.1.mono (by omega))
  exact (h1.alloc (by omega) _).trans (bN.toBelow (by rw [zQ];omega) fun i hi e=>by have:=H1.out.2.1 _ (.inl e);omega)
 have nu:∀ g,(Value.slice a5 (l.length+1) c5).ownBlock=some g->w.heap.size+2<=g/\g≠w1.heap.size:=fun g hg=>by
  rcases mt g hg with h | h
  ·have h1:=H1.out.2.1 _ (.inl h);have h2:=HL.out.1 _ h;omega
  ·omega
 obtain ⟨y0,y1,yf0,yf1⟩:=zJ bx2
 obtain ⟨W3,r8⟩:=zzN (w2.setCell ⟨w1.heap.size,0,none⟩ (.slice a5 (l.length+1) c5))
 have bx3:W3.heap[w1.heap.size]? = some (.cells #[.slice a5 (l.length+1) c5,.slice a4 l.length c4] 33 (0,0)):=by rw [<- r8,zK bx2];rfl
 have aw:∀ g,g≠w1.heap.size->W3.heap[g]? = w2.heap[g]?:=fun g hg=>by rw [<- r8];exact bG _ _ _ _ (by show g≠w1.heap.size;exact hg)
 have a_:W3.heap.size=w2.heap.size:=by rw [<- r8];simp [World.setCell]
 have br3:W3.heap[w.heap.size+1]? = some (.cells #[.slice none 0 0,.slice none 0 0] 33 (0,0)):=by rw [aw _ (by omega)];exact br2
 have iH:Own W3 3 1 (.slice a4 l.length c4) l.length (qM l):=mC.keep fun g o hg ho=>by rw [aw g (by have:=HL.out.2.1 g hg;omega)];exact ho
 have hm3:Own W3 9 1 (.slice a5 (l.length+1) c5) (l.length+1) (k_ l++[str s]):=HO2.out.1.keep fun g o hg ho=>by rw [aw g (nu g hg).2];exact ho
 have DO:Below w.heap.size w W3:=by rw [<- r8];exact DP.setCell (p:=⟨w1.heap.size,0,none⟩) (by show w.heap.size<=w1.heap.size;omega) _
 have Do:∀ g,(Value.slice a4 l.length c4).ownBlock=some g->w.heap.size+2<=g/\g<w1.heap.size:=fun g hg=>by
  have h1:=H1.out.2.1 _ (.inr hg);have h2:=HL.out.2.1 _ hg;omega
 have BX:∀ g,(Value.slice a5 (l.length+1) c5).ownBlock=some g->(Value.slice a4 l.length c4).ownBlock≠some g:=fun g hg=>hm3.unlike iH pT hg
 obtain ⟨x0,x1,xf0,xf1⟩:=zJ bx3
 have H3:=bU (bY r8 (bY bx3 (bY br3 (bY iH (bY hm3 (bY DO (bY Do (bY nu (bY BX (bY a_ nT))))))))))
 have HZ:=bU (bY al (bY i6 iJ))
 clear r8 bx3 br3 iH hm3 DO Do nu BX a_ nT al i6 iJ af bx2 br2 mC DP aw HO2 bN mt oO y1 yf1
 go_upto_region 3 with (fail)
 rw [H3.out.1]
 clear y0 yf0
 go_wp2_with (at_builtin;refine zB rfl _ _ 31 rfl 3 (.int .i64 0) 1 8 Tryz.underlying31 Tryz.infoInt rfl (by decide) (.slice a4 l.length c4) l.length (qM l) rfl ?c1 _ 1 [.int .i64 p] rfl ?c2 ?c3 ?c4 ?_)
 case c1=>exact H3.out.2.2.2.1.alloc _
 case c2=>exact zR.lit rfl
 case c3=>unfold maxLen;omega
 case c4=>omega
 intro a6 c6 w4 ho4 cV Dm
 have al:=HZ.out.1
 have i6:=HZ.out.2.1
 have iJ:=HZ.out.2.2
 have a_:=H3.out.2.2.2.2.2.2.2.2.2.1
 have nT:=H3.out.2.2.2.2.2.2.2.2.2.2
 have ad:∀ g,g<W3.heap.size->(Value.slice a4 l.length c4).ownBlock≠some g->w4.heap[g]? = W3.heap[g]?:=fun g hg hn=>by
  rw [cV.block g (by rw [zQ];omega) hn,Below.heap_alloc _ _ _ hg]
 have bx4:w4.heap[w1.heap.size]? = some (.cells #[.slice a5 (l.length+1) c5,.slice a4 l.length c4] 33 (0,0)):=by
  rw [ad _ (by omega) (fun e=>by have:=H3.out.2.2.2.2.2.2.1 _ e;omega)];exact H3.out.2.1
 have br4:w4.heap[w.heap.size+1]? = some (.cells #[.slice none 0 0,.slice none 0 0] 33 (0,0)):=by
  rw [ad _ (by omega) (fun e=>by have:=H3.out.2.2.2.2.2.2.1 _ e;omega)];exact H3.out.2.2.1
 have hm4:Own w4 9 1 (.slice a5 (l.length+1) c5) (l.length+1) (k_ l++[str s]):=H3.out.2.2.2.2.1.keep fun g o hg ho=>by
  rw [ad g (zZ ho) (fun e=>H3.out.2.2.2.2.2.2.2.2.1 g hg e)];exact ho
 have DN:Below w.heap.size w w4:=(H3.out.2.2.2.2.2.1.alloc H3.out.2.2.2.2.2.1.size _).trans (cV.toBelow (by rw [zQ];have:=H3.out.2.2.2.2.2.1.size;omega) fun i hi e=>by have:=H3.out.2.2.2.2.2.2.1 _ e;omega)
 have Ae:∀ g,(Value.slice a6 (l.length+1) c6).ownBlock=some g->w.heap.size+2<=g/\g≠w1.heap.size:=fun g hg=>by
  rcases Dm g hg with h | h
  ·have h1:=H3.out.2.2.2.2.2.2.1 _ h;omega
  ·omega
 have nu:=H3.out.2.2.2.2.2.2.2.1
 obtain ⟨y0,y1,yf0,yf1⟩:=zJ bx4
 obtain ⟨W5,ly⟩:=zzN (w4.setCell ⟨w1.heap.size,1,none⟩ (.slice a6 (l.length+1) c6))
 have bx5:W5.heap[w1.heap.size]? = some (.cells #[.slice a5 (l.length+1) c5,.slice a6 (l.length+1) c6] 33 (0,0)):=by rw [<- ly,zK bx4];rfl
 have au:∀ g,g≠w1.heap.size->W5.heap[g]? = w4.heap[g]?:=fun g hg=>by rw [<- ly];exact bG _ _ _ _ (by show g≠w1.heap.size;exact hg)
 have br5:W5.heap[w.heap.size+1]? = some (.cells #[.slice none 0 0,.slice none 0 0] 33 (0,0)):=by rw [au _ (by omega)];exact br4
 have hm5:Own W5 9 1 (.slice a5 (l.length+1) c5) (l.length+1) (k_ l++[str s]):=hm4.keep fun g o hg ho=>by rw [au g (nu g hg).2];exact ho
 have mB:Own W5 3 1 (.slice a6 (l.length+1) c6) (l.length+1) (qM l++[.int .i64 p]):=ho4.keep fun g o hg ho=>by rw [au g (Ae g hg).2];exact ho
 have DM:Below w.heap.size w W5:=by rw [<- ly];exact DN.setCell (p:=⟨w1.heap.size,1,none⟩) (by show w.heap.size<=w1.heap.size;omega) _
 have H5:=bU (bY ly (bY hm5 (bY mB (bY DM (bY nu (bY Ae br5))))))
 obtain ⟨z0,z1,zf0,zf1⟩:=zJ bx5
 obtain ⟨q0,q1,qf0,qf1⟩:=zJ br5
 clear ly bx5 br5 hm5 mB DM nu Ae au DN hm4 br4 bx4 ad nT a_ iJ i6 al Dm cV ho4 x0 x1 xf0 xf1 y0 yf0
 have bm:w.heap.size+1≠w1.heap.size:=by have:=HZ.out.2;omega
 go_upto_region 4 with (fail)
 rw [H5.out.1]
 clear y1 yf1
 go_wp2_with fail
 have hV:=qy H5.out.2.2.2.2.2.2 (.slice a5 (l.length+1) c5) (.slice a6 (l.length+1) c6)
 obtain ⟨s0,s1,_,_⟩:=zJ hV
 have eQ:=(H5.out.2.2.2.1.setCell (p:=⟨w.heap.size+1,0,none⟩) (Nat.le_succ _) (.slice a5 (l.length+1) c5)).setCell (p:=⟨w.heap.size+1,1,none⟩) (Nat.le_succ _) (.slice a6 (l.length+1) c6)
 refine bodyPost_ret (v:=.agg #[.slice a5 (l.length+1) c5,.slice a6 (l.length+1) c6]) (by simp [results,Tryz.results68,go_sem,s0,s1]) rfl ?_
 have bI:(l++[(s,p)]).length=l.length+1:=by simp
 refine ⟨_,_,rfl,⟨?_,?_⟩,eQ,fun g hg=>?_⟩
 ·rw [bI,logM_snoc]
  exact H5.out.2.1.keep fun g o hg ho=>by
   have:=(H5.out.2.2.2.2.1 g hg).1
   rw [bG _ _ _ _ (by show g≠w.heap.size+1;omega),bG _ _ _ _ (by show g≠w.heap.size+1;omega)];exact ho
 ·rw [bI,logP_snoc]
  exact H5.out.2.2.1.keep fun g o hg ho=>by
   have:=(H5.out.2.2.2.2.2.1 g hg).1
   rw [bG _ _ _ _ (by show g≠w.heap.size+1;omega),bG _ _ _ _ (by show g≠w.heap.size+1;omega)];exact ho
 ·rcases hg with hg | hg
  ·have:=H5.out.2.2.2.2.1 g hg;omega
  ·have:=H5.out.2.2.2.2.2.1 g hg;omega
def lvD (lv:List zg):List DV:=lv.flatMap fun p=>[DV.val (.int .i64 (p.1:Nat)),DV.val (str p.2)]
def lvC (lv:List zg):List Value:=lv.flatMap fun p=>[.int .i64 (p.1:Nat),str p.2]
theorem gO (a b:List zg):lvC (a++b)=lvC a++lvC b:=by simp [lvC]
theorem lvD_at:∀ (lv:List zg) (i:Nat) (p:zg),lv[i]? = some p->(lvD lv)[i*2]? = some (.val (.int .i64 (p.1:Nat)))/\(lvD lv)[i*2+1]? = some (.val (str p.2))
 | [],i,p,h=>by simp at h
 | q::lv,0,p,h=>by obtain rfl:q=p:=by simpa using h
                   exact ⟨rfl,rfl⟩
 | q::lv,i+1,p,h=>by
   rw [List.getElem?_cons_succ] at h
   have:=lvD_at lv i p h
   rw [show lvD (q::lv)=[DV.val (.int .i64 (q.1:Nat)),DV.val (str q.2)]++lvD lv from rfl,show (i+1)*2=2+i*2 from by omega]
   rw [List.getElem?_append_right (by simp),List.getElem?_append_right (by simp;omega)]
   simpa [Nat.add_sub_cancel_left,show 2+i*2+1-2=i*2+1 from by omega] using this
def jM (F:Nat->Prop) (w:World) (lv:List zg) (v:Value):Prop:=Rep F w (.sl 115 2 lv.length (lvD lv)) v
theorem jM.open {F:Nat->Prop} {w:World} {lv:List zg} {v:Value} (h:jM F w lv v):∃ a c,v=.slice a lv.length c /\
 ∀ (i:Nat) (p:zg),lv[i]? = some p->∃ b o,a=some ⟨b,o,none⟩/\F b/\b<w.heap.size/\w.cell? ⟨b,o+i*2,none⟩=some (.int .i64 (p.1:Nat))/\w.cell? ⟨b,o+i*2+1,none⟩=some (str p.2):=by
 unfold jM at h
 rw [qk] at h
 obtain ⟨hl,a,cap,hv,hn,hz,h⟩:=h
 refine ⟨a,cap,hv,fun i p hp=>?_⟩
 have hi:=(List.getElem?_eq_some_iff.1 hp).1
 obtain ⟨d1,d2⟩:=lvD_at lv i p hp
 rcases h with h | ⟨b,o,c,fr,ha,hb,hc,hr⟩
 ·omega
 ·obtain ⟨u1,k1,r1⟩:=hr.at d1
  obtain ⟨u2,k2,r2⟩:=hr.at d2
  rw [zo] at r1 r2
  subst r1;subst r2
  rw [List.getElem?_take,if_pos (by omega),List.getElem?_drop] at k1 k2
  exact ⟨b,o,ha,hb,zZ hc,by simp [World.cell?,hc];simpa using k1,by simp [World.cell?,hc,Nat.add_assoc];simpa using k2⟩
theorem zl {w:World} {b:Nat} {x y z u:Value} {T:TypeId} (h:w.heap[b]? = some (.cells #[x,y,z,u] T (0,0))):w.cell? ⟨b,0,none⟩=some x/\w.cell? ⟨b,1,none⟩=some y/\w.cell? ⟨b,2,none⟩=some z/\w.cell? ⟨b,3,none⟩=some u :=
 ⟨by simp [World.cell?,h],by simp [World.cell?,h],by simp [World.cell?,h],by simp [World.cell?,h]⟩
def TellP (m:Bs) (i:Nat) (w:World) (en:Ending) (w':World):Prop:=en=.returned (.tuple #[str m,.int .i64 (i:Nat)])/\Below w.heap.size w w'
set_option maxRecDepth 100000 in
theorem tells_leaf (F:Nat->Prop) (c:UInt8) (bv lsl:Value) (bg:zg) (w:World) (hb:Rep F w (qm (.leaf c)) bv) (Ez:¬ c=117) (hl:bg.2.length<=1000) :
 Calls Tryz.prog 67 #[.agg #[bv,lsl,.int .i64 (bg.1:Nat),str bg.2]] w (TellP (c::bg.2) bg.1 w):=by
 have C:=bU (fun wz (h:Below w.heap.size w wz)=>w_ F wz c bv (hb.below h (fun _ h=>h)))
 obtain ⟨b,sl,rfl,_,hc,_⟩:=wE hb
 obtain ⟨W,hW,bM,hz,bx⟩:=kJ w (.cells #[.pointer (some ⟨b,0,none⟩),lsl,.int .i64 (bg.1:Nat),str bg.2] 117)
 have CW:=bU (C.out W bM)
 obtain ⟨e0,e1,e2,e3⟩:=zl bx
 have c1:W.cell? ⟨b,0,none⟩=some (.string ⟨#[c]⟩):=(bM.cell (by exact zZ hc)).trans (by simp [World.cell?,hc])
 have q1:(([c]:Bs) == [117])=false:=by rw [beq_eq_false_iff_ne];simpa using Ez
 have a1:=fun w0=>km (P:=Tryz.prog) [c] bg.2 (by simp;omega) w0
 rw [List.singleton_append] at a1
 generalize hM:c::bg.2=M at *
 have HW:=bU (bY hW bM)
 clear hW bM hz bx hc hb C Ez hM e1
 go_enter Tryz.func67,Tryz.ntmps67
 go_upto_region 1 with (fail)
 rw [HW.out.1]
 go_wp2_with fail
 (with_reducible refine CW.out.mono ?_)
 rintro en w1 ⟨rfl,ew⟩
 subst ew
 go_wp2_with fail
 go_quiet (fail)
 go_wp2_with fail
 go_ret2
 exact ⟨rfl,z8 HW.out.2 _⟩
set_option maxRecDepth 100000 in
theorem tells_ask (F:Nat->Prop) (l:Nat) (ss:List Bd) (y n:Bd) (bv lsl:Value) (lv:List zg) (bg pl:zg) (w:World) (hb:Rep F w (qm (.ask l ss y n)) bv) (dy:jM F w lv lsl) (bw:lv[l]? = some pl) (hl:pl.2.length<=1000) (dm:lv.length<=100000) :
 Calls Tryz.prog 67 #[.agg #[bv,lsl,.int .i64 (bg.1:Nat),str bg.2]] w (TellP (113::pl.2) pl.1 w):=by
 have C:=bU (fun wz (h:Below w.heap.size w wz)=>isList_ask F wz l ss y n bv (hb.below h (fun _ h=>h)))
 obtain ⟨b,sl,yv,nv,rfl,_,hc,_⟩:=xl hb
 obtain ⟨la,lc,rfl,hat⟩:=dy.open
 obtain ⟨lb,lo,rfl,_,Dh,t0,t1⟩:=hat l pl bw
 have bA:=(List.getElem?_eq_some_iff.1 bw).1
 have cT:(l:Int)<(lv.length:Int):=by omega
 obtain ⟨W,hW,bM,hz,bx⟩:=kJ w (.cells #[.pointer (some ⟨b,0,none⟩),.slice (some ⟨lb,lo,none⟩) lv.length lc,.int .i64 (bg.1:Nat),str bg.2] 117)
 have CW:=bU (C.out W bM)
 have c1:W.cell? ⟨b,1,none⟩=some (.int .i64 (l:Nat)):=(bM.cell (by exact zZ hc)).trans (by simp [World.cell?,hc])
 have t0W:=(bM.cell (p:=⟨lb,lo+l*2,none⟩) Dh).trans t0
 have t1W:=(bM.cell (p:=⟨lb,lo+l*2+1,none⟩) Dh).trans t1
 have Dg:lb<W.heap.size:=by omega
 have hbb:b<W.heap.size:=by have:=zZ hc;omega
 have KEY:Hid (∀ x,Below W.heap.size W x->x.cell? ⟨w.heap.size,0,none⟩=some (.pointer (some ⟨b,0,none⟩))/\x.cell? ⟨w.heap.size,1,none⟩=some (.slice (some ⟨lb,lo,none⟩) lv.length lc)/\x.cell? ⟨b,1,none⟩=some (.int .i64 (l:Nat))/\x.cell? ⟨lb,lo+l*2,none⟩=some (.int .i64 (pl.1:Nat))/\x.cell? ⟨lb,lo+l*2+1,none⟩=some (str pl.2)):=bU (fun x hx=>by
  obtain ⟨k0,k1,_,_⟩:=zl bx
  exact ⟨(hx.cell (bW _ _ k0)).trans k0,(hx.cell (bW _ _ k1)).trans k1,(hx.cell hbb).trans c1,(hx.cell Dg).trans t0W,(hx.cell Dg).trans t1W⟩)
 obtain ⟨e0,_,_,_⟩:=zl bx
 have a1:=fun w0=>km (P:=Tryz.prog) [113] pl.2 (by simp;omega) w0
 rw [List.singleton_append] at a1
 generalize hM:113::pl.2=M at *
 have HW:=bU (bY hW bM)
 clear hW bM hz bx hc hb C hM hat bw dy t0 t1 t0W t1W c1 Dh
 go_enter Tryz.func67,Tryz.ntmps67
 go_upto_region 1 with (fail)
 rw [HW.out.1]
 go_wp2_with fail
 (with_reducible refine CW.out.mono ?_)
 rintro en w1 ⟨rfl,ew⟩
 subst ew
 go_wp2_with fail
 refine wp_region_noPanic ?_
 refine zX (fun w'=>Below w1.heap.size w1 w') (fun i=>i == 10) (by kernel_rfl) ?_
 have bS:(fun w'=>Below w1.heap.size w1 w') w1.drew:=Below.drew (bP _ _)
 refine tk [0,1,2,3,4,5,6,7,8] bS ?_
 (intro d hd;simp [tkD] at hd;subst hd;simp only [tks,pQ,pZ,pS])
 iterate 9 (refine ⟨?_,?_,?_⟩;rotate_left;· (intro oi ho;simp at ho;subst ho;refine Or.inl ⟨by rfl,fun w' bR=>?_⟩;obtain ⟨e0,e1,e2,e3,e4⟩:=KEY.out w' bR;go_simp;try with_reducible rfl))
 (refine on 9 ?_;intro o ho K' hK;simp at ho;subst ho;go_simp)
 (refine hK.out _ _ (fun _=>bS.alloc (bX _) _) ?_;clear hK K';try simp only [pQ,pN,pZ,pS])
 (refine on 10 ?_;intro o ho K' hK;simp at ho;subst ho;go_simp)
 (refine hK.out _ _ (fun h=>by simp at h) ?_;clear hK K';try simp only [pQ,pN,pZ,pS])
 refine zU (by kernel_rfl) (NoPanic.normal ?_) _
 obtain ⟨V,hV,Ap,_,bV⟩:=kJ w1 (.cells #[.int .i64 (pl.1:Nat),str pl.2] 115)
 obtain ⟨v0,v1,_,_⟩:=zJ bV
 have v0':V.drew.cell? ⟨w1.heap.size,0,none⟩=some (.int .i64 (pl.1:Nat)):=v0
 have v1':V.drew.cell? ⟨w1.heap.size,1,none⟩=some (str pl.2):=v1
 rw [hV]
 have HV:=bU (zzT HW.out.2 Ap)
 clear hV Ap bV bS v0' v1'
 go_wp2_with fail
 go_quiet (fail)
 go_wp2_with fail
 go_ret2
 exact ⟨rfl,z8 HV.out.drew _⟩
theorem growP_any (n:Nat) (w:World) (hn:Lim n) :
 Calls Tryz.prog 145 #[.slice none 0 0,.int .i64 n] w fun en w' =>
  ∃ a c,en=.returned (.slice a 0 c)/\Own w' 115 2 (.slice a 0 c) 0 []/\Below w.heap.size w w'/\(∀ g,(Value.slice a 0 c).ownBlock=some g->w.heap.size<=g):=by
 have hl:=hn.le
 by_cases h0:n=0
 ·subst h0
  go_enter Tryz.func145,Tryz.ntmps145
  go_wp2_with fail
  go_ret
  exact ⟨none,0,rfl,World.ownsRow_nil _ _ _ _,bP _ _,fun g h=>by simp [Value.ownBlock] at h⟩
 ·have h1:0<n:=by omega
  clear h0
  go_enter Tryz.func145,Tryz.ntmps145
  go_wp2_with (at_builtin;refine j6 rfl _ _ 113 3 rfl 115 (.agg #[.int .i64 0,str []]) 2 24 Tryz.underlying113 Tryz.underlying3 Tryz.infoPl rfl (by decide) (by decide) rfl n rfl h1 hl ?_)
  intro cap c fc eB tB
  go_wp2_with fail
  go_ret
  exact ⟨_,cap,rfl,⟨by simp,.inr ⟨w.heap.size,cap,c,rfl,Nat.zero_le _,zS w _,Nat.zero_le _,eB,by simpa using tB,by simp⟩⟩,((bP _ _).alloc (bX _) _).drew,fun g h=>by simp [Value.ownBlock] at h;omega⟩
def yO (e:TypeId) (w:World) (n1 n2:Nat) (xs1 xs2:List Value) (v i:Value) (wr:World):Prop :=
 ∃ k m xs a c,i=.int .i64 (k:Nat)/\v=.slice a m c/\Own wr e 2 (.slice a m c) m xs/\Below w.heap.size w wr/\(∀ g,(Value.slice a m c).ownBlock=some g->w.heap.size<=g) /\
   ((k=0/\m=0/\xs=[])\/(k=1/\m=n1/\xs=xs1)\/(k=2/\m=n1+n2/\xs=xs1++xs2))
theorem yO.next {e:TypeId} {w:World} {n1 n2:Nat} {xs1 xs2:List Value} {k m m':Nat} {xs:List Value} {a a':Option Addr} {c c':Nat} {wr w':World}
 (ho:Own w' e 2 (.slice a' m' c') m' xs) (hb:Below w.heap.size w wr) (ch:But (fun b=>(Value.slice a m c).ownBlock=some b) wr w')
 (hf:∀ g,(Value.slice a m c).ownBlock=some g->w.heap.size<=g) (hg:∀ g,(Value.slice a' m' c').ownBlock=some g->(Value.slice a m c).ownBlock=some g\/g=wr.heap.size)
 (hk:(k=0/\m'=0/\xs=[])\/(k=1/\m'=n1/\xs=xs1)\/(k=2/\m'=n1+n2/\xs=xs1++xs2)):yO e w n1 n2 xs1 xs2 (.slice a' m' c') (.int .i64 (k:Nat)) w' :=
 ⟨k,m',xs,a',c',rfl,rfl,ho,hb.trans (ch.toBelow hb.size fun i hi h=>by have:=hf i h;omega),fun g h=>by
  rcases hg g h with h | h
  ·exact hf g h
  ·have:=hb.size;omega,hk⟩
theorem concatP_any (b n1 n2:Nat) (s1 s2:Value) (xs1 xs2:List Value) (w:World) (c1:w.cell? ⟨b,0,none⟩=some s1) (c2:w.cell? ⟨b,1,none⟩=some s2)
 (h1:zR 2 s1 n1 xs1 w) (h2:zR 2 s2 n2 xs2 w) (cS:Lim n1) (di:Lim n2) (hn:Lim (n1+n2)) :
 Calls Tryz.prog 134 #[.slice (some ⟨b,0,none⟩) 2 2] w fun en w' =>
  ∃ a c,en=.returned (.slice a (n1+n2) c)/\Own w' 115 2 (.slice a (n1+n2) c) (n1+n2) (xs1++xs2)/\Below w.heap.size w w'/\(∀ g,(Value.slice a (n1+n2) c).ownBlock=some g->w.heap.size<=g):=by
 obtain ⟨a1,k1,rfl⟩:=h1.slice
 obtain ⟨a2,k2,rfl⟩:=h2.slice
 have hl:=hn.le;have aH:=cS.le;have Di:=di.le
 have lb:b<w.heap.size:=bW w _ c1
 go_enter Tryz.func134,Tryz.ntmps134
 go_wp2_with fail
 go_loop [3,11] (fun n i=>(i=.int .i64 0/\n=.int .i64 0)\/(i=.int .i64 1/\n=.int .i64 n1)\/(i=.int .i64 2/\n=.int .i64 ((n1:Int)+(n2:Int)))) (fun _ i=>2-(intOf i).toNat)
 case atStart=>exact .inl ⟨rfl,rfl⟩
 case round =>
  rcases hrel with ⟨rfl,rfl⟩ | ⟨rfl,rfl⟩ | ⟨rfl,rfl⟩
  ·go_wp2_with fail
   go_round
   case rel=>exact .inr (.inl ⟨rfl,rfl⟩)
   case measure=>simp [intOf]
  ·go_wp2_with fail
   go_round
   case rel=>exact .inr (.inr ⟨rfl,rfl⟩)
   case measure=>simp [intOf]
  ·go_wp2_with fail
   rw [show (n1:Int)+(n2:Int)=((n1+n2:Nat):Int) from by omega]
   refine (growP_any (n1+n2) w hn).mono ?_
   rintro en wg ⟨ag,cg,rfl,Cm,nF,Dq⟩
   have fX:yO 115 w n1 n2 xs1 xs2 (.slice ag 0 cg) (.int .i64 (0:Nat)) wg:=⟨0,0,[],ag,cg,rfl,rfl,Cm,nF,Dq,.inl ⟨rfl,rfl,rfl⟩⟩
   clear Cm nF Dq
   go_wp2_with fail
   go_loopw [6,27] (fun v i wr=>yO 115 w n1 n2 xs1 xs2 v i wr) (fun _ i _=>2-(intOf i).toNat)
   case atStart=>exact fX
   case round =>
    rename_i wr
    obtain ⟨k,m,xs,a,c,rfl,rfl,ho,hb,hf,hk⟩:=hrel
    have d1:wr.cell? ⟨b,0,none⟩=some (.slice a1 n1 k1):=by rw [hb.cell lb];exact c1
    have d2:wr.cell? ⟨b,1,none⟩=some (.slice a2 n2 k2):=by rw [hb.cell lb];exact c2
    have g1:=h1.below hb;have g2:=h2.below hb
    have HF:=bU hf;clear hf
    rcases hk with ⟨rfl,rfl,rfl⟩ | ⟨rfl,rfl,rfl⟩ | ⟨rfl,rfl,rfl⟩
    ·go_wp2_with (at_builtin;refine zB rfl _ _ 113 rfl 115 (.agg #[.int .i64 0,str []]) 2 24 Tryz.underlying113 Tryz.infoPl rfl (by decide) _ 0 [] rfl ho _ n1 xs1 rfl g1 ?c3 ?c4 ?_)
     case c3=>unfold maxLen;omega
     case c4=>omega
     intro a' c' w' fw cL cb
     have fX:=yO.next (n1:=n1) (n2:=n2) (xs1:=xs1) (xs2:=xs2) (k:=1) fw hb cL HF.out cb (.inr (.inl ⟨rfl,rfl,rfl⟩))
     clear cL cb fw HF
     go_wp2_with fail
     go_roundw
     case rel=>exact fX
     case measure=>simp [intOf]
    ·go_wp2_with (at_builtin;refine zB rfl _ _ 113 rfl 115 (.agg #[.int .i64 0,str []]) 2 24 Tryz.underlying113 Tryz.infoPl rfl (by decide) _ m xs rfl ho _ n2 xs2 rfl g2 ?c3 ?c4 ?_)
     case c3=>unfold maxLen;omega
     case c4=>omega
     intro a' c' w' fw cL cb
     have fX:=yO.next (n1:=m) (n2:=n2) (xs1:=xs) (xs2:=xs2) (k:=2) fw hb cL HF.out cb (.inr (.inr ⟨rfl,rfl,rfl⟩))
     clear cL cb fw HF
     go_wp2_with fail
     go_roundw
     case rel=>exact fX
     case measure=>simp [intOf]
    ·go_wp2_with fail
     go_ret
     exact ⟨a,c,rfl,ho,hb,HF.out⟩
theorem Reps_lv (F:Nat->Prop) (w:World):∀ lv:List zg,zq F w (lvD lv) (lvC lv)
 | []=>zd.2 rfl
 | p::lv=>by
   rw [show lvD (p::lv)=DV.val (.int .i64 (p.1:Nat))::DV.val (str p.2)::lvD lv from rfl,show lvC (p::lv)=.int .i64 (p.1:Nat)::str p.2::lvC lv from rfl]
   exact zP.2 ⟨_,_,rfl,zo.2 rfl,zP.2 ⟨_,_,rfl,zo.2 rfl,Reps_lv F w lv⟩⟩
theorem xK {F:Nat->Prop} {w:World}:∀ (lv:List zg) (us:List Value),zq F w (lvD lv) us->us=lvC lv
 | [],us,h=>zd.1 h
 | p::lv,us,h=>by
   rw [show lvD (p::lv)=DV.val (.int .i64 (p.1:Nat))::DV.val (str p.2)::lvD lv from rfl] at h
   obtain ⟨u,us1,rfl,h1,h2⟩:=zP.1 h
   obtain ⟨u2,co,rfl,h3,h4⟩:=zP.1 h2
   rw [zo] at h1 h3
   subst h1;subst h3
   rw [xK lv co h4];rfl
theorem lvC_one:∀ (lv:List zg),∀ u∈lvC lv,u.oneCell'=true
 | [],u,h=>by simp [lvC] at h
 | p::lv,u,h=>by
   rw [show lvC (p::lv)=.int .i64 (p.1:Nat)::str p.2::lvC lv from rfl] at h
   rcases List.mem_cons.1 h with rfl | h
   ·simp [Value.oneCell']
   ·rcases List.mem_cons.1 h with rfl | h
    ·simp [str,Value.oneCell']
    ·exact lvC_one lv u h
theorem jM.src {F:Nat->Prop} {w:World} {lv:List zg} {v:Value} (h:jM F w lv v):zR 2 v lv.length (lvC lv) w:=by
 obtain ⟨xs,hx,hs⟩:=zR.ofRep h (fun us hu u hm=>by rw [xK lv us hu] at hm;exact lvC_one lv u hm)
 rw [xK lv xs hx] at hs;exact hs
theorem plcs_eq (b:Nat) (p:Bs):∀ n:Nat,plcs b p n=lvC (zh n b p)
 | 0=>rfl
 | n+1=>by rw [plcs,plcs_eq b p n,placesOf_succ,gO];rfl
theorem Own.lv {F:Nat->Prop} {w:World} {lv:List zg} {a:Option Addr} {n c:Nat} (h:Own w 115 2 (.slice a n c) n (lvC lv)) (hn:n=lv.length) (hF:∀ g,(Value.slice a n c).ownBlock=some g->F g):jM F w lv (.slice a n c):=by
 subst hn
 exact h.rep hF (Reps_lv F w lv)
theorem jM.but {F F':Nat->Prop} {m:Nat->Prop} {w w':World} {lv:List zg} {v:Value} (h:jM F w lv v) (hb:But m w w') (hF:∀ b,F b->¬ m b/\F' b):jM F' w' lv v:=Rep.but hb hF h
theorem jM.below {F F':Nat->Prop} {w w':World} {lv:List zg} {v:Value} (h:jM F w lv v) (hb:Below w.heap.size w w') (hF:∀ b,F b->F' b):jM F' w' lv v:=Rep.below hb hF h
def StandP (bv:Value) (lv:List zg) (bg:zg) (w:World) (en:Ending) (w':World):Prop :=
 ∃ la lc,en=.returned (.agg #[bv,.slice la lv.length lc,.int .i64 (bg.1:Nat),str bg.2])/\Below w.heap.size w w'/\jM (w.heap.size<=·) w' lv (.slice la lv.length lc)
theorem v7 {w:World} {b:Nat} {x y z u:Value} {T:TypeId} (h:w.heap[b]? = some (.cells #[x,y,z,u] T (0,0))) (x' y' z' u':Value):((((w.setCell ⟨b,0,none⟩ x').setCell ⟨b,1,none⟩ y').setCell ⟨b,2,none⟩ z').setCell ⟨b,3,none⟩ u').heap[b]? = some (.cells #[x',y',z',u'] T (0,0)):=by
 rw [zK (zK (zK (zK h)))];rfl
theorem zH {w:World} {b:Nat} {c:Array Value} {T:TypeId} (h:w.heap[b]? = some (.cells c T (0,0))) (o:Nat):w.frozen? ⟨b,o,none⟩=false:=by simp [World.frozen?,h]
set_option maxRecDepth 100000 in
theorem standOf_any (F:Nat->Prop) (t:Ty) (kv bv:Value) (idx:Nat) (w:World) (hg:qr w) (hk:Rep F w (jD t) kv) (ht:zW t<=15) (hbv:∃ a,bv=.pointer a) :
 Calls Tryz.prog 103 #[kv,bv,.int .i64 (idx:Nat)] w (StandP bv (zh t.args.length idx []) (idx,[]) w):=by
 obtain ⟨ba,rfl⟩:=hbv
 obtain ⟨kb,ks,rfl,_,hb,sY⟩:=zc hk
 obtain ⟨sa,sc,rfl,fW,bI,b8⟩:=zO sY
 have d_:=kd t
 obtain ⟨W,hW,bM,hz,bx⟩:=kJ w (.cells #[.pointer none,.slice none 0 0,.int .i64 0,str []] 117)
 have c0:W.cell? ⟨kb,0,none⟩=some (.slice sa t.args.length sc):=(bM.cell (by exact zZ hb)).trans (by simp [World.cell?,hb])
 have C:=bU (gD t.args.length idx [] W (hg.below bM) (by omega) (by simp))
 have HW:=bU (bY hW (bY bM (bY hz bx)))
 clear hW bM hz bx hk hb sY b8 bI fW hg
 go_enter Tryz.func103,Tryz.ntmps103
 go_upto_region 1 with (fail)
 rw [HW.out.1]
 go_wp2_with fail
 (with_reducible refine C.out.mono ?_)
 rintro en w1 ⟨la,lc,rfl,ho,bE,hf⟩
 rw [plcs_eq] at ho
 have b1:=(bE.block _ (zZ HW.out.2.2.2)).trans HW.out.2.2.2
 obtain ⟨z0,z1,z2,z3⟩:=zl b1
 have f0:=zH b1 0;have f1:=zH b1 1;have f2:=zH b1 2;have f3:=zH b1 3
 have H1:=bU (bY ho (bY bE (bY hf b1)))
 clear ho bE hf b1 c0 C
 go_wp2_with fail
 have hV:=v7 H1.out.2.2.2 (.pointer ba) (.slice la t.args.length lc) (.int .i64 (idx:Nat)) (str [])
 obtain ⟨s0,s1,s2,s3⟩:=zl hV
 have hzz:=HW.out.2.2.1
 have eQ:=((((zzT HW.out.2.1 H1.out.2.1).setCell (p:=⟨w.heap.size,0,none⟩) (bX _) (.pointer ba)).setCell (p:=⟨w.heap.size,1,none⟩) (bX _) (.slice la t.args.length lc)).setCell (p:=⟨w.heap.size,2,none⟩) (bX _) (.int .i64 (idx:Nat))).setCell (p:=⟨w.heap.size,3,none⟩) (bX _) (str [])
 refine bodyPost_ret (v:=.agg #[.pointer ba,.slice la t.args.length lc,.int .i64 (idx:Nat),str []]) (by simp [results,Tryz.results103,go_sem,s0,s1,s2,s3]) rfl ?_
 refine ⟨la,lc,by rw [zt],eQ,?_⟩
 rw [zt]
 refine Own.lv ?_ (by rw [zt]) (fun g hg=>by have:=H1.out.2.2.1 g hg;omega)
 exact H1.out.1.keep fun g o hg ho=>by
  have:=H1.out.2.2.1 g hg
  rw [bG _ _ _ _ (by show g≠w.heap.size;omega),bG _ _ _ _ (by show g≠w.heap.size;omega),bG _ _ _ _ (by show g≠w.heap.size;omega),bG _ _ _ _ (by show g≠w.heap.size;omega)];exact ho
def BehT (bv':Bd) (F:Nat->Prop) (lsl:Value) (bg:zg) (w:World) (en:Ending) (w':World):Prop :=
 ∃ a,en=.returned (.agg #[.pointer (some ⟨a,0,none⟩),lsl,.int .i64 (bg.1:Nat),str bg.2])/\Below w.heap.size w w'/\Rep F w (qm bv') (.pointer (some ⟨a,0,none⟩))
set_option maxRecDepth 100000 in
theorem behind_ans (c:UInt8) (hc:c=116\/c=102) (F:Nat->Prop) (l:Nat) (ss:List Bd) (y n:Bd) (bv kv:Value) (la:Option Addr) (ln lc:Nat) (bg:zg) (M:Bs) (idx:Nat) (w:World) (hb:Rep F w (qm (.ask l ss y n)) bv) (hM:0<M.length) (dS:M[0]=c) (rP:∃ a,kv=.pointer a) :
 Calls Tryz.prog 104 #[.agg #[bv,.slice la ln lc,.int .i64 (bg.1:Nat),str bg.2],kv,str M,.int .i64 (idx:Nat)] w (BehT (if c=116 then y else n) F (.slice la ln lc) bg w):=by
 obtain ⟨ka,rfl⟩:=rP
 obtain ⟨b,sl,yv,nv,rfl,_,nh,hs,hy,hn⟩:=xl hb
 obtain ⟨ya,rfl⟩:=qI hy
 obtain ⟨na,rfl⟩:=qI hn
 obtain ⟨W,hW,bM,hz,b0,b1⟩:=kH w (.cells #[.pointer (some ⟨b,0,none⟩),.slice la ln lc,.int .i64 (bg.1:Nat),str bg.2] 117) (.cells #[.pointer none,.slice none 0 0,.int .i64 0,str []] 117)
 have Ao:W.heap[b]? = w.heap[b]?:=bM.block _ (zZ nh)
 have cY:W.cell? ⟨b,3,none⟩=some (.pointer (some ⟨ya,0,none⟩)):=by simp [World.cell?,Ao,nh]
 have cN:W.cell? ⟨b,4,none⟩=some (.pointer (some ⟨na,0,none⟩)):=by simp [World.cell?,Ao,nh]
 obtain ⟨e0,e1,e2,e3⟩:=zl b0
 have f0:=zH b0 0
 have Q:=bU (bY hy hn)
 have HW:=bU (bY hW (bY bM (bY hz (bY b0 b1))))
 clear hW bM hz b0 b1 Ao nh hs hy hn hb e1 e2 e3
 rcases hc with rfl | rfl
 ·have q1:=jl hM (c:=116) (n:=116) rfl dS
  clear dS
  go_enter Tryz.func104,Tryz.ntmps104
  go_upto_region 1 with (fail)
  rw [HW.out.1]
  go_upto_region 10 with (fail)
  obtain ⟨W2,fI⟩:=zzN (W.setCell ⟨w.heap.size,0,none⟩ (.pointer (some ⟨ya,0,none⟩)))
  have x0:W2.heap[w.heap.size]? = some (.cells #[.pointer (some ⟨ya,0,none⟩),.slice la ln lc,.int .i64 (bg.1:Nat),str bg.2] 117 (0,0)):=by rw [<- fI,zK HW.out.2.2.2.1];rfl
  have x1:W2.heap[w.heap.size+1]? = some (.cells #[.pointer none,.slice none 0 0,.int .i64 0,str []] 117 (0,0)):=by rw [<- fI,bG _ _ _ _ (by show w.heap.size+1≠w.heap.size;omega)];exact HW.out.2.2.2.2
  have bN:Below w.heap.size w W2:=by rw [<- fI];exact HW.out.2.1.setCell (p:=⟨w.heap.size,0,none⟩) (bX _) _
  rw [fI]
  obtain ⟨y0,y1,y2,y3⟩:=zl x0
  obtain ⟨z0,z1,z2,z3⟩:=zl x1
  have g0:=zH x1 0;have g1:=zH x1 1;have g2:=zH x1 2;have g3:=zH x1 3
  have H2:=bU (bY bN x1)
  clear bN x0 x1 fI e0 f0 cY cN
  go_wp2_with fail
  have hV:=v7 H2.out.2 (.pointer (some ⟨ya,0,none⟩)) (.slice la ln lc) (.int .i64 (bg.1:Nat)) (str bg.2)
  obtain ⟨s0,s1,s2,s3⟩:=zl hV
  have eQ:=(((H2.out.1.setCell (p:=⟨w.heap.size+1,0,none⟩) (Nat.le_succ _) (.pointer (some ⟨ya,0,none⟩))).setCell (p:=⟨w.heap.size+1,1,none⟩) (Nat.le_succ _) (.slice la ln lc)).setCell (p:=⟨w.heap.size+1,2,none⟩) (Nat.le_succ _) (.int .i64 (bg.1:Nat))).setCell (p:=⟨w.heap.size+1,3,none⟩) (Nat.le_succ _) (str bg.2)
  refine bodyPost_ret (v:=.agg #[.pointer (some ⟨ya,0,none⟩),.slice la ln lc,.int .i64 (bg.1:Nat),str bg.2]) (by simp [results,Tryz.results104,go_sem,s0,s1,s2,s3]) rfl ?_
  exact ⟨_,rfl,eQ,Q.out.1⟩
 ·have q0:=jY hM (c:=116) (n:=116) rfl (by rw [dS];decide)
  have q1:=jl hM (c:=102) (n:=102) rfl dS
  clear dS
  go_enter Tryz.func104,Tryz.ntmps104
  go_upto_region 1 with (fail)
  rw [HW.out.1]
  go_upto_region 10 with (fail)
  obtain ⟨W2,fI⟩:=zzN (W.setCell ⟨w.heap.size,0,none⟩ (.pointer (some ⟨na,0,none⟩)))
  have x0:W2.heap[w.heap.size]? = some (.cells #[.pointer (some ⟨na,0,none⟩),.slice la ln lc,.int .i64 (bg.1:Nat),str bg.2] 117 (0,0)):=by rw [<- fI,zK HW.out.2.2.2.1];rfl
  have x1:W2.heap[w.heap.size+1]? = some (.cells #[.pointer none,.slice none 0 0,.int .i64 0,str []] 117 (0,0)):=by rw [<- fI,bG _ _ _ _ (by show w.heap.size+1≠w.heap.size;omega)];exact HW.out.2.2.2.2
  have bN:Below w.heap.size w W2:=by rw [<- fI];exact HW.out.2.1.setCell (p:=⟨w.heap.size,0,none⟩) (bX _) _
  rw [fI]
  obtain ⟨y0,y1,y2,y3⟩:=zl x0
  obtain ⟨z0,z1,z2,z3⟩:=zl x1
  have g0:=zH x1 0;have g1:=zH x1 1;have g2:=zH x1 2;have g3:=zH x1 3
  have H2:=bU (bY bN x1)
  clear bN x0 x1 fI e0 f0 cY cN
  go_wp2_with fail
  have hV:=v7 H2.out.2 (.pointer (some ⟨na,0,none⟩)) (.slice la ln lc) (.int .i64 (bg.1:Nat)) (str bg.2)
  obtain ⟨s0,s1,s2,s3⟩:=zl hV
  have eQ:=(((H2.out.1.setCell (p:=⟨w.heap.size+1,0,none⟩) (Nat.le_succ _) (.pointer (some ⟨na,0,none⟩))).setCell (p:=⟨w.heap.size+1,1,none⟩) (Nat.le_succ _) (.slice la ln lc)).setCell (p:=⟨w.heap.size+1,2,none⟩) (Nat.le_succ _) (.int .i64 (bg.1:Nat))).setCell (p:=⟨w.heap.size+1,3,none⟩) (Nat.le_succ _) (str bg.2)
  refine bodyPost_ret (v:=.agg #[.pointer (some ⟨na,0,none⟩),.slice la ln lc,.int .i64 (bg.1:Nat),str bg.2]) (by simp [results,Tryz.results104,go_sem,s0,s1,s2,s3]) rfl ?_
  exact ⟨_,rfl,eQ,Q.out.2⟩
inductive Tr where
 | am (a:Bs)
 | ls (ps:List Tr)
def trT:Ty->Tr
 | .mk ts=>trTs ts
where trTs:List Ty->Tr
 | []=>.am [98]
 | t::ts=>.ls [.am [62],trT t,trTs ts]


theorem yQ (n lo hi:Int) (w:World):Calls Tryz.prog 119 #[.int .i64 n,.int .i64 lo,.int .i64 hi] w fun en w'=>en=.returned (.bool (decide (lo<=n) && decide (n<=hi)))/\w'=w:=by
 by_cases h1:lo<=n
 ·by_cases h2:n<=hi
  ·go_enter Tryz.func119,Tryz.ntmps119
   go_wp2_with fail
   go_ret
   exact ⟨by simp [h1,h2],rfl⟩
  ·go_enter Tryz.func119,Tryz.ntmps119
   go_wp2_with fail
   go_ret
   exact ⟨by simp [h1,h2],rfl⟩
 ·go_enter Tryz.func119,Tryz.ntmps119
  go_wp2_with fail
  go_ret
  exact ⟨by simp [h1];omega,rfl⟩
def BoxT (g:Nat) (s:Bs) (k:Value) (w:World):Prop:=w.cell? ⟨g,0,none⟩=some (str s)/\w.cell? ⟨g,1,none⟩=some k
theorem BoxT.below {g:Nat} {s:Bs} {k:Value} {w w':World} (h:BoxT g s k w) (hb:Below w.heap.size w w'):BoxT g s k w':=by
 obtain ⟨h1,h2⟩:=h
 have:=bW w _ h1
 exact ⟨by rw [hb.cell (by exact this)];exact h1,by rw [hb.cell (by exact this)];exact h2⟩
def LAtPost (F:Nat->Prop) (t:Ty) (p:Bs) (w:World) (en:Ending) (w':World):Prop :=
 ∃ va vn vc,en=.returned (.tuple #[.agg #[.slice va vn vc],.bool (atT t p).isSome])/\Below w.heap.size w w'/\∀ a,atT t p=some a->Rep F w (qZ a) (.slice va vn vc)
theorem kP {w:World} {b:Nat} {x:Value} {T:TypeId} (h:w.heap[b]? = some (.cells #[x] T (0,0))):w.cell? ⟨b,0,none⟩=some x:=by simp [World.cell?,h]
theorem pA {w:World} {b:Nat} {x:Value} {T:TypeId} (h:w.heap[b]? = some (.cells #[x] T (0,0))) (u:Value):(w.setCell ⟨b,0,none⟩ u).heap[b]? = some (.cells #[u] T (0,0)):=by
 rw [zK h];rfl
set_option maxRecDepth 100000 in
theorem l1At_any (F:Nat->Prop) (t:Ty) (p:Bs) (tv:Value) (w:World) (h:Rep F w (qZ t) tv) (ht:zW t<=15) (hp:Lim p.length) :
 Calls Tryz.prog 129 #[.agg #[tv],str p] w (LAtPost F t p w):=by
 have dz:=hp.le
 obtain ⟨ta,tc,rfl⟩:=zu h
 obtain ⟨W,hW,bM,hz,b0,b1⟩:=kH w (.cells #[.slice ta t.args.length tc] 61) (.cells #[.slice none 0 0] 61)
 have HW:=bU (bY hW (bY bM (bY b0 b1)))
 have H:=bU h
 clear hW bM hz b0 b1 h
 go_enter Tryz.func129,Tryz.ntmps129
 go_upto_region 1 with (fail)
 rw [HW.out.1]
 go_wp2_with fail
 go_loopw [6] (fun i wr=>∃ (j:Nat) (a:Ty) (v:Value),j<=p.length/\i=.int .i64 j/\atT t (p.take j)=some a/\Rep F w (qZ a) v/\wr.heap[w.heap.size]? = some (.cells #[v] 61 (0,0))/\wr.heap[w.heap.size+1]? = some (.cells #[.slice none 0 0] 61 (0,0))/\Below w.heap.size w wr) (fun i _=>p.length-(intOf i).toNat)
 case atStart=>exact ⟨0,t,_,Nat.zero_le _,rfl,by rw [List.take_zero];exact jw t,H.out,HW.out.2.2.1,HW.out.2.2.2,HW.out.2.1⟩
 case round =>
  rename_i wr
  obtain ⟨j,a,v,hj,rfl,hat,hr,d9,bE,fT⟩:=hrel
  obtain ⟨va,vc,rfl⟩:=zu hr
  have c0:=kP d9
  have c1:=kP bE
  have f0:=zH d9 0
  have f1:=zH bE 0
  have HB:=bU (bY d9 (bY bE fT))
  by_cases bA:j<p.length
  ·have fS:(j:Int)<(p.length:Int):=by omega
   have fu:=hr
   rw [qb] at fu
   obtain ⟨sa,sc,e,fW,bI,b8⟩:=zO fu
   simp only [Value.slice.injEq] at e
   obtain ⟨rfl,_,rfl⟩:=e
   have Av:=qP _ _ _ hat
   have d_:=kd a
   have aN:a.args.length<=7:=by omega
   obtain ⟨x,hx⟩:∃ x:Nat,p[j].toNat=x:=⟨_,rfl⟩
   have sL:x<256:=by rw [<- hx];exact UInt8.toNat_lt _
   have B:((((⟨p.toArray⟩:ByteArray)[j]'(kY bA)).toNat:Int))=(x:Int):=by rw [kh bA,hx]
   have oW:IntKind.i64.wrap (x:Int)=(x:Int):=ki x (by omega)
   have hw3:IntKind.i64.wrap ((a.args.length:Int)-1)=(a.args.length:Int)-1:=by simp [IntKind.wrap,IntKind.bits,IntKind.signed];omega
   have dB:=atT_step bA hat
   rw [hx] at dB
   have HS:=bU dB
   have HH:=bU (bY b8 (bY bI (bY fW hr)))
   clear dB b8 bI fW hr fu hat Av d_ hx d9 bE fT
   by_cases hA:x<48
   ·have rQ:IntKind.i64.wrap ((x:Int)-48)=(x:Int)-48:=by simp [IntKind.wrap,IntKind.bits,IntKind.signed];omega
    have HN:=bU (show atT t p=none from xi (j:=j+1) (by rw [HS.out,if_neg (show ¬ 48<=x by omega)]))
    have hd:(decide ((0:Int)<=(x:Int)-48) && decide ((x:Int)-48<=(a.args.length:Int)-1))=false:=by
     rw [Bool.and_eq_false_iff];exact .inl (by simp;omega)
    have HD:=bU hd
    clear hA HS HH hd
    go_wp2_with fail
    refine (yQ _ _ _ _).mono ?_
    rintro en w1 ⟨rfl,e⟩
    subst w1
    rw [HD.out]
    go_wp2_with fail
    refine bodyPost_ret (v:=.tuple #[.agg #[.slice va a.args.length vc],.bool false]) (by simp [results,Tryz.results129,go_sem,kP (pA HB.out.2.1 (.slice va a.args.length vc))]) rfl ?_
    exact ⟨_,_,_,by rw [HN.out];rfl,HB.out.2.2.setCell (p:=⟨w.heap.size+1,0,none⟩) (Nat.le_succ _) _,fun b hb=>by rw [HN.out] at hb;simp at hb⟩
   ·obtain ⟨n,aP⟩:∃ n,x=n+48:=⟨x-48,by omega⟩
    have rQ:IntKind.i64.wrap ((x:Int)-48)=(n:Int):=by rw [show (x:Int)-48=(n:Int) from by omega];exact ki n (by omega)
    have dC:=HS.out
    rw [if_pos (show 48<=x by omega),show x-48=n from by omega] at dC
    have tf:=bU dC
    clear dC HS hA sL aP
    by_cases hB:a.args.length<=n
    ·have HN:=bU (show atT t p=none from xi (j:=j+1) (by rw [tf.out];exact List.getElem?_eq_none hB))
     have hd:(decide ((0:Int)<=(n:Int)) && decide ((n:Int)<=(a.args.length:Int)-1))=false:=by
      rw [Bool.and_eq_false_iff];exact .inr (by simp;omega)
     have HD:=bU hd
     clear hB HH hd
     go_wp2_with fail
     refine (yQ _ _ _ _).mono ?_
     rintro en w1 ⟨rfl,e⟩
     subst w1
     rw [HD.out]
     go_wp2_with fail
     refine bodyPost_ret (v:=.tuple #[.agg #[.slice va a.args.length vc],.bool false]) (by simp [results,Tryz.results129,go_sem,kP (pA HB.out.2.1 (.slice va a.args.length vc))]) rfl ?_
     exact ⟨_,_,_,by rw [HN.out];rfl,HB.out.2.2.setCell (p:=⟨w.heap.size+1,0,none⟩) (Nat.le_succ _) _,fun b hb=>by rw [HN.out] at hb;simp at hb⟩
    ·have hd:(decide ((0:Int)<=(n:Int)) && decide ((n:Int)<=(a.args.length:Int)-1))=true:=by
      rw [Bool.and_eq_true];exact ⟨by simp,by simp;omega⟩
     have HD:=bU hd
     have A8:(0:Int)<=(n:Int):=by omega
     have hnl:(n:Int)<(a.args.length:Int):=by omega
     obtain ⟨b,o,u,d,ea,Ep,DS,hd2,hc,mI⟩:=HH.out.1 n (by omega)
     subst ea
     rw [vS,Option.map_eq_some_iff] at hd2
     obtain ⟨c,eO,rfl⟩:=hd2
     obtain ⟨ua,uc,rfl⟩:=zu mI
     have hcw:=(HB.out.2.2.cell (p:=⟨b,o+n,none⟩) DS).trans hc
     have HC:=bU (bY eO mI)
     clear hd eO mI hc hB Ep
     go_wp2_with fail
     refine (yQ _ _ _ _).mono ?_
     rintro en w1 ⟨rfl,e⟩
     subst w1
     rw [HD.out]
     go_wp2_with fail
     go_roundw
     case rel =>
      refine ⟨j+1,c,_,by omega,by go_num,by rw [tf.out];exact HC.out.1,HC.out.2,pA HB.out.1 _,?_,HB.out.2.2.setCell (p:=⟨w.heap.size,0,none⟩) (bX _) _⟩
      rw [bG _ _ _ _ (by show w.heap.size+1≠w.heap.size;omega)];exact HB.out.2.1
     case measure=>simp [intOf];omega
  ·obtain rfl:j=p.length:=by omega
   rw [List.take_length] at hat
   have HA:=bU (bY hat hr)
   clear hat hr d9 bE fT bA hj
   go_wp2_with fail
   refine bodyPost_ret (v:=.tuple #[.agg #[.slice va a.args.length vc],.bool true]) (by simp [results,Tryz.results129,go_sem,kP (pA HB.out.2.1 (.slice va a.args.length vc))]) rfl ?_
   exact ⟨_,_,_,by rw [HA.out.1];rfl,HB.out.2.2.setCell (p:=⟨w.heap.size+1,0,none⟩) (Nat.le_succ _) _,fun b hb=>by rw [HA.out.1] at hb;obtain rfl:=Option.some.inj hb;exact HA.out.2⟩
theorem q_int (c:UInt8):((c.toNat:Int) == 113)=(c == 113):=by
 rw [Bool.eq_iff_iff,beq_iff_eq,beq_iff_eq]
 constructor
 ·intro h
  have:c.toNat=(113:UInt8).toNat:=by rw [show ((113:UInt8).toNat)=113 from rfl];omega
  exact UInt8.toNat_inj.1 this
 ·intro h;subst h;rfl
theorem odd_int (n:Nat):((n:Int) % 2 == 1)=decide (n % 2=1):=by
 rw [Bool.eq_iff_iff,beq_iff_eq,decide_eq_true_iff];omega
theorem yS (c:UInt8) (p:Bs):(⟨(c::p).toArray⟩:ByteArray).extract 1 (c::p).length=⟨p.toArray⟩:=by rw [vJ,List.take_length];rfl
set_option maxRecDepth 20000 in
theorem ju (c:UInt8) (p:Bs) (w:World):Calls Tryz.prog 114 #[str (c::p)] w fun en w'=>en=.returned (.bool (isQ (c::p)))/\w'=w:=by
 obtain ⟨M,hM⟩:=zzM (c::p)
 have dS:0<M.length:=by rw [hM];simp
 have nJ:(0:Int)<(M.length:Int):=by omega
 have B0:((((⟨M.toArray⟩:ByteArray)[0]'(kY dS)).toNat:Int))=(c.toNat:Int):=by rw [kh dS];subst hM;rfl
 have E:=bU (show isQ (c::p)=((c.toNat:Int) == 113) by rw [kw,q_int])
 rw [<- hM] at E ⊢
 clear hM
 go_enter Tryz.func114,Tryz.ntmps114
 go_wp2_with fail
 go_ret
 exact ⟨by rw [E.out];rfl,rfl⟩
set_option maxRecDepth 20000 in
theorem vT (c:UInt8) (p:Bs) (hl:p.length<=16777216) (w:World):Calls Tryz.prog 94 #[str (c::p)] w fun en w'=>en=.returned (.bool (kC (c::p)))/\w'=w:=by
 have C:=bU (ju c p w)
 obtain ⟨bq,hbq⟩:=zzN (isQ (c::p))
 have E:=bU (show kC (c::p)=(decide (((c::p).length:Nat) % 2=1) == bq) by rw [<- hbq];rfl)
 rw [hbq] at C
 obtain ⟨M,hM⟩:=zzM (c::p)
 have nQ:M.length<=16777217:=by rw [hM];simp;omega
 rw [<- hM] at E C ⊢
 clear hM hbq
 go_enter Tryz.func94,Tryz.ntmps94
 go_wp2_with fail
 (with_reducible refine C.out.mono ?_)
 rintro en w1 ⟨rfl,e⟩
 subst e
 go_wp2_with fail
 go_ret
 refine ⟨?_,rfl⟩
 rw [E.out,<- odd_int]
 rfl
set_option maxRecDepth 20000 in
theorem enabler_any (c:UInt8) (p:Bs) (hl:p.length<=16777216) (w:World):Calls Tryz.prog 107 #[str (c::p)] w fun en w'=>en=.returned (.string ⟨(qe (c::p)).toArray⟩)/\w'=w:=by
 by_cases h0:c::p=[113]
 ·rw [h0,show qe [113]=[] from rfl]
  go_enter Tryz.func107,Tryz.ntmps107
  go_wp2_with fail
  go_ret
  exact ⟨rfl,rfl⟩
 ·have q1:((c::p:Bs) == [113])=false:=by rw [beq_eq_false_iff_ne];exact h0
  have C:=bU (ju c p w)
  by_cases hc:c=113
  ·subst hc
   rw [kw,show ((113:UInt8) == 113)=true from rfl] at C
   cases p with
   | nil=>exact absurd rfl h0
   | cons d q =>
     have e:qe (113::d::q)=(113::d::q).take (q.length+1):=by
      unfold qe
      rw [if_neg h0,kw,show ((113:UInt8) == 113)=true from rfl,if_pos rfl,List.dropLast_eq_take];simp
     rw [e]
     obtain ⟨M,hM⟩:=zzM (113::d::q)
     obtain ⟨m1,mQ⟩:=zzM (q.length+1)
     rw [<- hM] at q1 C ⊢
     rw [<- mQ]
     have nQ:M.length=m1+1:=by rw [hM,mQ];simp
     rw [List.length_cons] at hl
     have ex:(⟨M.toArray⟩:ByteArray).extract 0 m1=⟨(M.take m1).toArray⟩:=by rw [vJ];rfl
     have hw:IntKind.i64.wrap ((M.length:Int)-1)=(m1:Int):=by
      rw [nQ,show ((m1+1:Nat):Int)-1=(m1:Int) from by omega]
      exact ki _ (by omega)
     have sG:(m1:Int)<=(M.length:Int):=by omega
     obtain ⟨R,hR⟩:=zzM (M.take m1)
     rw [<- hR] at ex ⊢
     clear hR e h0 hM mQ nQ
     go_enter Tryz.func107,Tryz.ntmps107
     go_wp2_with fail
     (with_reducible refine C.out.mono ?_)
     rintro en w1 ⟨rfl,e⟩
     subst e
     go_wp2_with fail
     go_ret
     exact ⟨rfl,rfl⟩
  ·rw [kw,show (c == 113)=false from by simp [hc]] at C
   have e:qe (c::p)=113::p:=by
    unfold qe
    rw [if_neg h0,kw,show (c == 113)=false from by simp [hc],if_neg (by simp),List.tail_cons]
   rw [e]
   have ex:(⟨(c::p).toArray⟩:ByteArray).extract 1 (p.length+1)=⟨p.toArray⟩:=yS c p
   have a1:=fun w0=>km (P:=Tryz.prog) [113] p (by simp;omega) w0
   rw [List.singleton_append] at a1
   have h1p:(1:Int)<=(p.length:Int)+1:=by omega
   obtain ⟨R,hR⟩:=zzM (113::p)
   rw [<- hR] at a1 ⊢
   clear hR e h0
   go_enter Tryz.func107,Tryz.ntmps107
   go_wp2_with fail
   (with_reducible refine C.out.mono ?_)
   rintro en w1 ⟨rfl,e⟩
   subst e
   go_wp2_with fail
   go_ret
   exact ⟨rfl,rfl⟩
set_option maxRecDepth 20000 in
theorem hasMove_any (F:Nat->Prop) (t:Ty) (kv:Value) (m:Bs) (w:World) (hk:Rep F w (jD t) kv) (ht:zW t<=15) (hl:Lim m.length) :
 Calls Tryz.prog 106 #[kv,str m] w fun en w'=>en=.returned (.bool (jH t m))/\w'=w:=by
 obtain ⟨kb,ks,rfl,_⟩:=zc hk
 cases m with
 | nil =>
   go_enter Tryz.func106,Tryz.ntmps106
   go_wp2_with fail
   go_ret
   exact ⟨rfl,rfl⟩
 | cons c p =>
   have dz:=hl.le
   rw [List.length_cons] at dz
   have C1:=bU (Tryz.strings_IndexByte ⟨#[113,116,102]⟩ (c.toNat:Int) w)
   have hcc:(c.toNat:Int).toNat.toUInt8=c:=by simp
   rw [hcc] at C1
   obtain ⟨ix,hix⟩:=zzN (Lib.indexByte (#[113,116,102]:Array UInt8).toList c)
   rw [hix] at C1
   have DA:decide (0<=ix)=(c == 113 || c == 116 || c == 102):=by
    have h:=Lib.contains_iff_indexByte [113,116,102] c
    have hix':Lib.indexByte [113,116,102] c=ix:=hix
    rw [hix'] at h
    rw [<- h]
    simp only [List.contains,List.elem]
    cases c == 113 <;> cases c == 116 <;> cases c == 102 <;> rfl
   have C2:=bU (gy F t p (.pointer (some ⟨kb,0,none⟩)) w hk ht (show _<=_ by omega))
   have E:Hid (jH t (c::p)=(decide (0<=ix) && (atT t p).isSome)):=by rw [DA];exact bU rfl
   obtain ⟨M,hM⟩:=zzM (c::p)
   have dS:0<M.length:=by rw [hM];simp
   have nJ:(0:Int)<(M.length:Int):=by omega
   have En:(1:Int)<=(M.length:Int):=by omega
   have B0:((((⟨M.toArray⟩:ByteArray)[0]'(kY dS)).toNat:Int))=(c.toNat:Int):=by rw [kh dS];subst hM;rfl
   have q0:((M:Bs) == [])=false:=by rw [hM];rfl
   have q0':((M:Bs) != [])=true:=by rw [hM];rfl
   have ex:(⟨M.toArray⟩:ByteArray).extract 1 M.length=⟨p.toArray⟩:=by rw [hM];exact yS c p
   rw [<- hM] at E ⊢
   clear hM hcc hix hl hk DA
   by_cases cC:0<=ix
   ·go_enter Tryz.func106,Tryz.ntmps106
    go_wp2_with fail
    refine C1.out.mono ?_
    rintro en w1 ⟨rfl,e⟩
    subst e
    go_wp2_with fail
    refine C2.out.mono ?_
    rintro en w2 ⟨v,rfl,e,hn,hy⟩
    subst e
    cases hat:atT t p with
    | none =>
      obtain rfl:=hn hat
      have E2:=bU (show jH t M=false by rw [E.out,hat];simp)
      clear hn hy hat E
      go_wp2_with fail
      go_ret
      exact ⟨by rw [E2.out];rfl,rfl⟩
    | some a =>
      obtain ⟨ka,_,rfl,_⟩:=zc (hy a hat)
      have E2:=bU (show jH t M=true by rw [E.out,hat];simp [cC])
      clear hn hy hat E
      go_wp2_with fail
      go_ret
      exact ⟨by rw [E2.out];rfl,rfl⟩
   ·have E2:=bU (show jH t M=false by rw [E.out];simp [cC])
    clear E
    go_enter Tryz.func106,Tryz.ntmps106
    go_wp2_with fail
    refine C1.out.mono ?_
    rintro en w1 ⟨rfl,e⟩
    subst e
    go_wp2_with fail
    go_ret
    exact ⟨by rw [E2.out];rfl,rfl⟩
def plN (m:Bs):Nat:=if kC m=true then 0 else 1
set_option maxRecDepth 20000 in
theorem j_ (c:UInt8) (p:Bs) (hl:p.length<=16777216) (w:World):Calls Tryz.prog 122 #[str (c::p)] w fun en w'=>en=.returned (.int .i64 (plN (c::p):Nat))/\w'=w:=by
 obtain ⟨M,hM⟩:=zzM (c::p)
 obtain ⟨n,hn⟩:=zzM (p.length)
 have nQ:(M.length:Int)=(n:Int)+1:=by rw [hM,hn];simp
 have dS:0<M.length:=by rw [hM];simp
 have nJ:(0:Int)<(M.length:Int):=by omega
 have B0:((((⟨M.toArray⟩:ByteArray)[0]'(kY dS)).toNat:Int))=(c.toNat:Int):=by rw [kh dS];subst hM;rfl
 have hw:IntKind.i64.wrap ((M.length:Int)-1)=(n:Int):=by rw [nQ,show (n:Int)+1-1=(n:Int) from by omega];exact ki _ (by omega)
 have E:plN M=if c=113 then n % 2 else 1-n % 2:=by
  rw [hM,plN,vL,<- hn]
  by_cases hc:c=113
  ·subst hc
   rw [if_pos rfl,show ((113:UInt8) == 113)=true from rfl]
   rcases Nat.mod_two_eq_zero_or_one n with h | h <;> simp [h]
  ·rw [if_neg hc,show (c == 113)=false from by simp [hc]]
   rcases Nat.mod_two_eq_zero_or_one n with h | h <;> simp [h]
 have hq:=q_int c
 rw [<- hM]
 clear hM hn
 by_cases hc:c=113
 ·rw [if_pos hc] at E
  have hcq:((c.toNat:Int) != 113)=false:=by rw [bne,hq,hc];rfl
  have HE:=bU E
  clear E hc hq nQ
  go_enter Tryz.func122,Tryz.ntmps122
  go_wp2_with fail
  go_ret
  exact ⟨by rw [HE.out];simp,rfl⟩
 ·rw [if_neg hc] at E
  have hcq:((c.toNat:Int) != 113)=true:=by rw [bne,hq];simp [hc]
  have rQ:IntKind.i64.wrap (1-((n:Int) % 2))=((1-n % 2:Nat):Int):=by
   rw [show (1:Int)-(n:Int) % 2=((1-n % 2:Nat):Int) from by omega];exact ki _ (by omega)
  have HE:=bU E
  clear E hc hq nQ
  go_enter Tryz.func122,Tryz.ntmps122
  go_wp2_with fail
  go_ret
  exact ⟨by rw [HE.out];rfl,rfl⟩
end Go.Proofs.YtfedjhgaeikjmaaGreatDoor

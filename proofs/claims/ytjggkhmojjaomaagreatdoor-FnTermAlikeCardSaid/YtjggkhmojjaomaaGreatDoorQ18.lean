/- Walks of functions that the statement reaches, and plain words. No conditions. -/
import Derived.Test.YtjggkhmojjaomaaGreatDoorQ12
import Derived.Test.YtjggkhmojjaomaaGreatDoorQ16
set_option linter.unusedVariables false
set_option linter.unusedSimpArgs false
set_option maxHeartbeats 4000000
namespace Go.Proofs.YtjggkhmojjaomaaGreatDoor
open Go.RowKit
def etaObj (v:Nat) (sv:Value):Obj:=.cells #[str [],.int .i64 (v:Nat),sv,.slice none 0 0] 48 (0,0)
def EtaPost (b:Bd) (w:World) (en:Ending) (w':World):Prop :=
 ∃ (s:Bs) (v:Int) (a2:Option Addr) (n2 c2:Nat) (a3:Option Addr) (n3 c3:Nat),en=.returned (.agg #[str s,.int .i64 v,.slice a2 n2 c2,.slice a3 n3 c3])/\Below w.heap.size w w'/\zX (fun i=>w.heap.size<=i) w' (kE b) [str s,.int .i64 v,.slice a2 n2 c2,.slice a3 n3 c3]
set_option maxRecDepth 100000 in
theorem l4Eta_any (m:Nat):∀ (t:Ty),zV t<=m->zV t<=15->∀ (F:Nat->Prop) (tv:Value) (v n:Nat) (w:World),Rep F w (kz t) tv->v<=1000000->n+16*zV t<=1000000 ->
 Calls Tryz.prog 35 #[.agg #[tv],.int .i64 (v:Nat),.int .i64 (n:Nat)] w (EtaPost (eta t v n) w):=by
 induction m with
 | zero=>intro t h;cases t;rw [zV] at h;omega
 | succ m ih =>
 intro t hm fM F tv v n w hk hv hn
 have IH:=ed ih
 have AE:=hk
 rw [qv] at AE
 obtain ⟨ta,tc,e,_,_,r_⟩:=zP AE
 subst e
 have FY:=(zo fM).2
 have fU:=ed (zo fM).1
 have HA:=ed r_
 obtain ⟨W,hW⟩:=zzN (((w.alloc (.cells #[.slice ta t.args.length tc] 43)).alloc (.cells #[str [],.int .i64 0,.slice none 0 0,.slice none 0 0] 48)).alloc (.cells #[str [],.int .i64 (v:Nat),.slice none 0 0,.slice none 0 0] 48))
 have rS:W.heap.size=w.heap.size+3:=by rw [<- hW];simp only [zK]
 have fD:Below w.heap.size w W:=by rw [<- hW];exact (((e_ _ _).alloc (ei _) _).alloc (by simp only [zK];omega) _).alloc (by simp only [zK];omega) _
 have bT:W.heap[w.heap.size]? = some (.cells #[.slice ta t.args.length tc] 43 (0,0)):=by rw [<- hW];exact zY (zY (zG _ _))
 have bR:z9 (w.heap.size+1) 0 (.slice none 0 0) (.slice none 0 0) W:=by
  unfold z9
  rw [<- hW];refine zY ?_
  have:=zG (w.alloc (.cells #[.slice ta t.args.length tc] 43)) (.cells #[str [],.int .i64 0,.slice none 0 0,.slice none 0 0] 48)
  rwa [zK] at this
 have bO:W.heap[w.heap.size+2]? = some (etaObj v (.slice none 0 0)):=by
  rw [<- hW]
  have:=zG ((w.alloc (.cells #[.slice ta t.args.length tc] 43)).alloc (.cells #[str [],.int .i64 0,.slice none 0 0,.slice none 0 0] 48)) (.cells #[str [],.int .i64 (v:Nat),.slice none 0 0,.slice none 0 0] 48)
  simp only [zK] at this
  exact this
 have HW:=ed (ef hW (ef rS (ef fD (ef bT (ef bR bO)))))
 clear hW rS fD bT bR bO r_ hk AE ih
 go_enter Tryz.func35,Tryz.ntmps35
 go_upto_region 2 with (fail)
 rw [HW.out.1]
 go_wp2_with fail
 go_loopw [8] (fun i wr=>∃ (k:Nat) (sv:Value) (us:List Value),k<=t.args.length/\i=.int .i64 k/\Grow W (w.heap.size+2) (etaObj v) 48 4 k (zg (vi (t.args.take k) n (n+t.args.length))) sv us wr) (fun i _=>t.args.length-(intOf i).toNat)
 case atStart=>exact ⟨0,_,_,Nat.zero_le _,rfl,by simpa [vi,zg] using Grow.start HW.out.2.2.2.2.2⟩
 case round =>
  rename_i wr
  obtain ⟨k,sv,us,hk,rfl,fH⟩:=hrel
  obtain ⟨sa,sc,e⟩:=fH.slice
  subst e
  have fJ:z9 (w.heap.size+2) v (.slice sa k sc) (.slice none 0 0) wr:=fH.blk
  have rS:=HW.out.2.1
  have fh:Below w.heap.size w wr:=HW.out.2.2.1.trans (fH.below.mono (by omega))
  obtain ⟨y0,y1,y2,y3,ylt,yf⟩:=fJ.cells
  have iX:wr.cell? ⟨w.heap.size,0,none⟩=some (.slice ta t.args.length tc):=by
   have:=(fH.below.block w.heap.size (by omega)).trans HW.out.2.2.2.1
   simp [World.cell?,this]
  have HI:=ed (ef fH (ef fJ fh));clear fH fJ fh
  by_cases fG:k<t.args.length
  ·have mX:(k:Int)<(t.args.length:Int):=by omega
   obtain ⟨lL,At,u2,d2,e,Cr,Ip,Ah,rD,mD⟩:=HA.out k fG
   subst e
   rw [vj,Option.map_eq_some_iff] at Ah
   obtain ⟨a,ha,rfl⟩:=Ah
   obtain ⟨ua,uc,rfl⟩:=kK mD
   have lq:zV a<=15:=fU.out a (List.mem_of_getElem? ha)
   have lB:1+zV a<=zV t:=arg_atoms ha
   have q2:wr.cell? ⟨lL,At+k,none⟩=some (.slice ua a.args.length uc):=(HI.out.2.2.cell Ip).trans rD
   have CC:=IH.out a (by omega) lq F (.slice ua a.args.length uc) (n+k) (n+t.args.length) wr.drew ((Rep.below HI.out.2.2 (fun _ h=>h) mD).drew) (by omega) (by omega)
   rw [Int.natCast_add,Int.natCast_add] at CC
   have CC:=ed CC
   have iw:=etas_take ha n (n+t.args.length)
   have HK:=ed (ef ha iw);clear ha mD iw rD
   have EV:=ed (ef (show IntKind.i64.wrap ((n:Int)+(k:Int))=(n:Int)+(k:Int) from IntWalk.i64_in _ (by omega)) (show IntKind.i64.wrap ((n:Int)+(t.args.length:Int))=(n:Int)+(t.args.length:Int) from IntWalk.i64_in _ (by omega)))
   have SX:Hid (∀ w',But (fun i=>(Value.slice sa k sc).ownBlock=some i) wr w'->w'.cell? ⟨w.heap.size+2,2,none⟩=some (.slice sa k sc)/\w'.cell? ⟨w.heap.size,0,none⟩=some (.slice (some ⟨lL,At,none⟩) t.args.length tc)/\w'.cell? ⟨lL,At+k,none⟩=some (.slice ua a.args.length uc)):=by
    show ∀ w',_->_
    intro w' fN
    have key:∀ {p:Addr} {u:Value},p.block<w.heap.size+2->wr.cell? p=some u->w'.cell? p=some u:=fun hp hu=>(fN.cell (e9 wr _ hu) (fun e=>by have h1:=HI.out.1.fr _ e;omega)).trans hu
    exact ⟨(fN.cell (e9 wr _ y2) HI.out.1.not).trans y2,key (by show w.heap.size<_;omega) iX,key (by show lL<_;omega) q2⟩
   have tK:k+1<=maxLen:=by unfold maxLen;omega
   have nP:(k+1)*72<=140737488355328:=by omega
   clear y0 y1 y3 yf
   go_wp2_with fail
   refine wp_region_noPanic ?_
   refine zB (fun w'=>But (fun i=>(Value.slice sa k sc).ownBlock=some i) wr w') (fun i=>i == 19) (by kernel_rfl) ?_
   have fV:(fun w'=>But (fun i=>(Value.slice sa k sc).ownBlock=some i) wr w') wr.drew:=(But.refl _ wr).drew
   refine tk [0,1,2,3,4,5,6,7,8,9,10,11,12,13] fV ?_
   (intro d hd;simp [tkD] at hd;subst hd;simp only [tks,pQ,pZ,pS])
   iterate 14 (refine ⟨?_,?_,?_⟩;rotate_left;· (intro oi ho;simp at ho;subst ho;refine Or.inl ⟨by rfl,fun w' fB=>?_⟩;obtain ⟨e0,e1,e2⟩:=SX.out w' fB;have Fu:=EV.out.1;go_simp;try with_reducible rfl))
   refine tk [14] fV ?_
   (intro d hd;simp [tkD] at hd;subst hd;simp only [tks,pQ,pZ,pS])
   (refine ⟨?_,?_,?_⟩;rotate_left;· (intro oi ho;simp at ho;subst ho;refine Or.inl ⟨by rfl,fun w' fB=>?_⟩;have Fu:=EV.out.2;go_simp;try with_reducible rfl))
   (refine on 15 ?_;intro o ho K' hK;simp at ho;subst ho;go_simp)
   go_at_call 35
   (with_reducible refine CC.out.mono ?_)
   rintro Ao w6 ⟨s6,v6,b1,m1,d1,b2,m2,d2,rfl,fC,my⟩
   have mw:Below wr.heap.size wr w6:=(Below.drew (e_ _ _)).trans fC
   have fm:Hid (But (fun i=>(Value.slice sa k sc).ownBlock=some i) wr w6):=But.ofBelow mw
   have fd:=HI.out.1.own6 mw (.cells #[str s6,.int .i64 v6,.slice b1 m1 d1,.slice b2 m2 d2] 48)
   have H6:=ed (ef mw my);clear fC my mw
   (refine hK.out _ _ (fun _=>fm.out) ?_;clear hK K';try simp only [pQ,pN,pZ,pS])
   (refine on 16 ?_;intro o ho K' hK;simp at ho;subst ho;go_simp)
   (refine hK.out _ _ (fun _=>fm.out.alloc _) ?_;clear hK K';try simp only [pQ,pN,pZ,pS])
   (refine on 17 ?_;intro o ho K' hK;simp at ho;subst ho)
   refine zE (by rfl) _ _ _ (by rfl) 48 (.agg #[str [],.int .i64 0,.slice none 0 0,.slice none 0 0]) 4 72 Tryz.underlying46 Tryz.infoN rfl (by decide) (.slice sa k sc) k us (by rfl) fd _ 1 [str s6,.int .i64 v6,.slice b1 m1 d1,.slice b2 m2 d2] (by rfl) (zO.lit4 #[str s6,.int .i64 v6,.slice b1 m1 d1,.slice b2 m2 d2] rfl (by simp [str,Value.oneCell']) _ rfl) tK nP ?_
   intro a' c' w7 fu fW fR
   (refine hK.out _ _ (fun _=>(fm.out.alloc _).trans fW) ?_;clear hK K';try simp only [pQ,pN,pZ,pS])
   have mM:=HI.out.1.cell7 H6.out.1 fW
   have nO:w7.cell? ⟨w.heap.size+2,2,none⟩=some (.slice sa k sc)/\w7.frozen? ⟨w.heap.size+2,2,none⟩=false:=by rw [etaObj] at mM;exact ⟨by simp [World.cell?,mM],by simp [World.frozen?,mM]⟩
   obtain ⟨iL,rz⟩:=nO
   have iv:=ed mM;clear mM
   (refine on 18 ?_;intro o ho K' hK;simp at ho;subst ho;go_simp)
   (refine hK.out _ _ (fun _=>(fm.out.alloc _).trans fW) ?_;clear hK K';try simp only [pQ,pN,pZ,pS])
   (refine on 19 ?_;intro o ho K' hK;simp at ho;subst ho;go_simp)
   (refine hK.out _ _ (fun h=>by simp at h) ?_;clear hK K';try simp only [pQ,pN,pZ,pS])
   refine zU (by kernel_rfl) (NoPanic.normal ?_) _
   have hX:=HI.out.1.next (w8:=w7.setCell ⟨w.heap.size+2,2,none⟩ (.slice a' (k+1) c')) H6.out.1 H6.out.2 fu fW fR (by rw [zy iv.out];rfl) (vc _ _ _ _)
   have nR:zg (vi (t.args.take k) n (n+t.args.length))++kE (eta a (n+k) (n+t.args.length))=zg (vi (t.args.take (k+1)) n (n+t.args.length)):=by rw [HK.out.2,qU];simp [zg]
   rw [nR] at hX
   have HN:=ed hX
   clear hX nR fu fW fR fV fd iL rz
   go_wp2_with fail
   go_roundw
   case rel=>exact ⟨k+1,_,_,by omega,by go_num,HN.out⟩
   case measure=>simp [intOf];omega
  ·obtain rfl:k=t.args.length:=by omega
   have yf3:=yf 3
   clear y0 y1 y2 yf
   go_upto_region 7 with (fail)
   obtain ⟨Y,hY⟩:=zzN ((wr.setCell ⟨w.heap.size+1+1,3,none⟩ (.slice (some ⟨wr.heap.size,0,none⟩) 2 2)).alloc (.cells #[str [116],.int .i64 0,.slice none 0 0,.slice none 0 0,str [102],.int .i64 0,.slice none 0 0,.slice none 0 0] 48))
   have Au:(wr.setCell ⟨w.heap.size+1+1,3,none⟩ (.slice (some ⟨wr.heap.size,0,none⟩) 2 2)).heap.size=wr.heap.size:=by simp [World.setCell]
   have bN:z9 (w.heap.size+2) v (.slice sa t.args.length sc) (.slice (some ⟨wr.heap.size,0,none⟩) 2 2) Y:=by rw [<- hY];exact zY HI.out.2.1.put3
   have kY:∀ (i:Nat) (x:Obj),i≠w.heap.size+2->wr.heap[i]? = some x->Y.heap[i]? = some x:=fun i x hi hx=>by
    rw [<- hY];refine zY ?_
    rw [fZ _ _ _ _ (by show i≠w.heap.size+1+1;omega)];exact hx
   have bR:z9 (w.heap.size+1) 0 (.slice none 0 0) (.slice none 0 0) Y:=kY _ _ (by omega) ((HI.out.1.below.block _ (by omega)).trans HW.out.2.2.2.2.1)
   have bY:Y.heap[wr.heap.size]? = some (.cells #[str [116],.int .i64 0,.slice none 0 0,.slice none 0 0,str [102],.int .i64 0,.slice none 0 0,.slice none 0 0] 48 (0,0)):=by
    rw [<- hY]
    have:=zG (wr.setCell ⟨w.heap.size+1+1,3,none⟩ (.slice (some ⟨wr.heap.size,0,none⟩) 2 2)) (.cells #[str [116],.int .i64 0,.slice none 0 0,.slice none 0 0,str [102],.int .i64 0,.slice none 0 0,.slice none 0 0] 48)
    rwa [Au] at this
   have AM:Below w.heap.size w Y:=by
    rw [<- hY]
    exact (HI.out.2.2.setCell (p:=⟨w.heap.size+1+1,3,none⟩) (by show w.heap.size<=w.heap.size+1+1;omega) _).alloc (by rw [Au];exact HI.out.2.2.size) _
   obtain ⟨n0,n1,n2,n3,nlt,_⟩:=bN.cells
   obtain ⟨r0,r1,r2,r3,rlt,rf⟩:=bR.cells
   have mg:=rf 0;have nD:=rf 1;have rG:=rf 2;have sh:=rf 3
   have mm:=HI.out.1.sl
   have hwrz:=zZ HI.out.2.1
   rw [List.take_length] at mm
   have HY:=ed (ef hY (ef bR (ef bY (ef AM (ef kY mm)))))
   clear hY Au bN kY bR bY AM mm rf yf3 ylt
   rw [HY.out.1]
   go_wp2_with fail
   obtain ⟨Z,hZ,s0,s1,s2,s3,AL,Ad⟩:=HY.out.2.1.store (str []) (.int .i64 (v:Nat)) (.slice sa t.args.length sc) (.slice (some ⟨wr.heap.size,0,none⟩) 2 2)
   rw [<- hZ]
   refine bodyPost_ret (v:=.agg #[str [],.int .i64 (v:Nat),.slice sa t.args.length sc,.slice (some ⟨wr.heap.size,0,none⟩) 2 2]) (by simp [results,Tryz.results35,go_sem,s0,s1,s2,s3]) rfl ?_
   refine ⟨[],v,_,_,_,_,_,_,rfl,AL _ _ HY.out.2.2.2.1 (by omega),?_⟩
   rw [eta_eq,yN,uM]
   refine zQ.2 ⟨_,_,rfl,zH.2 rfl,zQ.2 ⟨_,_,rfl,zH.2 rfl,zQ.2 ⟨_,_,rfl,?_,zQ.2 ⟨_,_,rfl,?_,zC.2 rfl⟩⟩⟩⟩
   ·exact (Rep.keep fun i x (hi:w.heap.size+2<i) hx=>⟨by show w.heap.size<=i;omega,Ad i x (by omega) (HY.out.2.2.2.2.1 i x (by omega) hx)⟩).1 _ _ HY.out.2.2.2.2.2
   ·refine zp.2 ⟨rfl,_,_,rfl,ei _,fun h=>by simp at h,.inr ⟨wr.heap.size,0,_,_,rfl,?_,Ad _ _ (by omega) HY.out.2.2.1,?_⟩⟩
    ·show w.heap.size<=wr.heap.size;omega
    ·have t6:Rep (fun i=>w.heap.size<=i) Z (.sl 48 4 0 []) (.slice none 0 0):=zp.2 ⟨rfl,none,0,rfl,ei _,fun _=>rfl,.inl rfl⟩
     simp only [zg,kE,List.append_nil,List.cons_append,List.nil_append]
     exact zQ.2 ⟨_,_,rfl,zH.2 rfl,zQ.2 ⟨_,_,rfl,zH.2 rfl,zQ.2 ⟨_,_,rfl,t6,zQ.2 ⟨_,_,rfl,t6,zQ.2 ⟨_,_,rfl,zH.2 rfl,zQ.2 ⟨_,_,rfl,zH.2 rfl,zQ.2 ⟨_,_,rfl,t6,zQ.2 ⟨_,_,rfl,t6,zC.2 rfl⟩⟩⟩⟩⟩⟩⟩⟩
def NdPost (F:Nat->Prop) (w:World) (b:Bd) (en:Ending) (w':World):Prop :=
 ∃ (s:Bs) (v:Int) (a1:Option Addr) (n1 c1:Nat) (a2:Option Addr) (n2 c2:Nat),en=.returned (.agg #[str s,.int .i64 v,.slice a1 n1 c1,.slice a2 n2 c2])/\Below w.heap.size w w'/\zX (fun i=>F i\/w.heap.size<=i) w' (kE b) [str s,.int .i64 v,.slice a1 n1 c1,.slice a2 n2 c2]
theorem pj {F:Nat->Prop} {w:World} {b:Bd} {s v k y:Value} (h:zX F w (kE b) [s,v,k,y]):∃ (i:Int) (a1:Option Addr) (c1:Nat) (a2:Option Addr) (c2:Nat),s=str (jb b)/\v=.int .i64 i/\k=.slice a1 (qA b).length c1/\y=.slice a2 (jX b).length c2:=by
 obtain ⟨i,a1,c1,a2,c2,e,_,_⟩:=vB h
 simp only [List.cons.injEq,and_true] at e
 exact ⟨i,a1,c1,a2,c2,e.1,e.2.1,e.2.2.1,e.2.2.2⟩
theorem boxes4 (w:World) (A B C D:Obj):Below w.heap.size w ((((w.alloc A).alloc B).alloc C).alloc D)/\((((w.alloc A).alloc B).alloc C).alloc D).heap.size=w.heap.size+1+1+1+1/\((((w.alloc A).alloc B).alloc C).alloc D).heap[w.heap.size]? = some A/\((((w.alloc A).alloc B).alloc C).alloc D).heap[w.heap.size+1]? = some B/\((((w.alloc A).alloc B).alloc C).alloc D).heap[w.heap.size+1+1]? = some C/\((((w.alloc A).alloc B).alloc C).alloc D).heap[w.heap.size+1+1+1]? = some D:=by
 obtain ⟨h1,h2,h3,h4,h5⟩:=yL w A B C
 refine ⟨h1.alloc h1.size _,by rw [zK,h2],zY h3,zY h4,zY h5,?_⟩
 have h:=zG (((w.alloc A).alloc B).alloc C) D
 rwa [h2] at h
theorem node_enc {F:Nat->Prop} {w:World} {v:Nat} {ss:List Bd} {y n:Bd} {k ys:Value} (hk:Rep F w (.sl 48 4 ss.length (zg ss)) k) (hy:Rep F w (.sl 48 4 2 (kE y++(kE n++[]))) ys):zX F w (kE (.ask v ss y n)) [str [],.int .i64 (v:Nat),k,ys]:=by
 rw [kE]
 exact zQ.2 ⟨_,_,rfl,zH.2 rfl,zQ.2 ⟨_,_,rfl,zH.2 rfl,zQ.2 ⟨_,_,rfl,hk,zQ.2 ⟨_,_,rfl,hy,zC.2 rfl⟩⟩⟩⟩
def GrSaid (M:Nat):Prop:=∀ (F:Nat->Prop) (b y n:Bd) (b0 b1 b2 b3 y0 y1 y2 y3 n0 n1 n2 n3:Value) (w:World),zW b<=M->(∀ i,F i->i<w.heap.size)->wfB b->zX F w (kE b) [b0,b1,b2,b3]->zX F w (kE y) [y0,y1,y2,y3]->zX F w (kE n) [n0,n1,n2,n3] ->
 Calls Tryz.prog 42 #[.agg #[b0,b1,b2,b3],.agg #[y0,y1,y2,y3],.agg #[n0,n1,n2,n3]] w (NdPost F w (qK b y n))
set_option maxRecDepth 100000 in
theorem gr_step (M:Nat) (ih:GrSaid M):GrSaid (M+1):=by
 intro F b y n b0 b1 b2 b3 y0 y1 y2 y3 n0 n1 n2 n3 w hsz hF iy hb hy hn
 obtain ⟨yi,Ek,Ei,Ej,Eh,rfl,rfl,rfl,rfl⟩:=pj hy
 obtain ⟨ni,mA,mT,mV,mJ,rfl,rfl,rfl,rfl⟩:=pj hn
 have el:=encN_lv hb
 subst el
 obtain ⟨_,nS,nB,rY,nH,rfl,eb,rfl,rfl⟩:=pj hb
 clear eb
 have HY:=ed hy;have HN:=ed hn
 cases b with
 | leaf c =>
   rw [wfB] at iy
   have HB:Hid (zX F w (kE (.leaf c)) [str [c],.int .i64 (0:Nat),.slice nS 0 nB,.slice rY 0 nH]):=hb
   clear hy hn hb ih
   obtain ⟨YK,Hc⟩:=zzM ((qA y).length)
   obtain ⟨YY,G_⟩:=zzM ((jX y).length)
   obtain ⟨NK,Hg⟩:=zzM ((qA n).length)
   obtain ⟨NY,Hf⟩:=zzM ((jX n).length)
   obtain ⟨AY,Hk⟩:=zzM (jb y)
   obtain ⟨AN,Hl⟩:=zzM (jb n)
   rw [<- Hc,<- G_,<- Hk] at HY ⊢
   rw [<- Hg,<- Hf,<- Hl] at HN ⊢
   clear Hc G_ Hg Hf Hk Hl
   rcases iy with rfl | rfl | rfl
   ·show Calls Tryz.prog 42 #[.agg #[str [116],.int .i64 (0:Nat),.slice nS 0 nB,.slice rY 0 nH],.agg #[str AY,.int .i64 yi,.slice Ek YK Ei,.slice Ej YY Eh],.agg #[str AN,.int .i64 ni,.slice mA NK mT,.slice mV NY mJ]] w _
    go_enter Tryz.func42,Tryz.ntmps42
    go_wp2_with fail
    refine bodyPost_ret (v:=.agg #[str AY,.int .i64 yi,.slice Ek YK Ei,.slice Ej YY Eh]) (by simp [results,Tryz.results42,go_sem]) rfl ?_
    have hb:∀ (A B C D:Obj),Below w.heap.size w ((((w.alloc A).alloc B).alloc C).alloc D):=fun A B C D=>(boxes4 w A B C D).1
    refine ⟨_,_,_,_,_,_,_,_,rfl,hb _ _ _ _,?_⟩
    rw [qK]
    simp only [reduceIte,show (102:UInt8)≠116 from by decide,show (117:UInt8)≠116 from by decide,show (117:UInt8)≠102 from by decide]
    exact zX.below (hb _ _ _ _) (fun _ h=>.inl h) HY.out
   ·show Calls Tryz.prog 42 #[.agg #[str [102],.int .i64 (0:Nat),.slice nS 0 nB,.slice rY 0 nH],.agg #[str AY,.int .i64 yi,.slice Ek YK Ei,.slice Ej YY Eh],.agg #[str AN,.int .i64 ni,.slice mA NK mT,.slice mV NY mJ]] w _
    go_enter Tryz.func42,Tryz.ntmps42
    go_wp2_with fail
    refine bodyPost_ret (v:=.agg #[str AN,.int .i64 ni,.slice mA NK mT,.slice mV NY mJ]) (by simp [results,Tryz.results42,go_sem]) rfl ?_
    have hb:∀ (A B C D:Obj),Below w.heap.size w ((((w.alloc A).alloc B).alloc C).alloc D):=fun A B C D=>(boxes4 w A B C D).1
    refine ⟨_,_,_,_,_,_,_,_,rfl,hb _ _ _ _,?_⟩
    rw [qK]
    simp only [reduceIte,show (102:UInt8)≠116 from by decide,show (117:UInt8)≠116 from by decide,show (117:UInt8)≠102 from by decide]
    exact zX.below (hb _ _ _ _) (fun _ h=>.inl h) HN.out
   ·show Calls Tryz.prog 42 #[.agg #[str [117],.int .i64 (0:Nat),.slice nS 0 nB,.slice rY 0 nH],.agg #[str AY,.int .i64 yi,.slice Ek YK Ei,.slice Ej YY Eh],.agg #[str AN,.int .i64 ni,.slice mA NK mT,.slice mV NY mJ]] w _
    go_enter Tryz.func42,Tryz.ntmps42
    go_wp2_with fail
    refine bodyPost_ret (v:=.agg #[str [117],.int .i64 (0:Nat),.slice nS 0 nB,.slice rY 0 nH]) (by simp [results,Tryz.results42,go_sem]) rfl ?_
    have hb:∀ (A B C D:Obj),Below w.heap.size w ((((w.alloc A).alloc B).alloc C).alloc D):=fun A B C D=>(boxes4 w A B C D).1
    refine ⟨_,_,_,_,_,_,_,_,rfl,hb _ _ _ _,?_⟩
    rw [qK]
    simp only [reduceIte,show (102:UInt8)≠116 from by decide,show (117:UInt8)≠116 from by decide,show (117:UInt8)≠102 from by decide]
    exact zX.below (hb _ _ _ _) (fun _ h=>.inl h) HB.out
 | ask v ss ya na =>
   obtain ⟨_,_,_,_,_,e,hk,Dx⟩:=vB hb
   simp only [List.cons.injEq,and_true] at e
   obtain ⟨_,_,e1,e2⟩:=e
   rw [<- e1] at hk
   rw [<- e2] at Dx
   clear e1 e2
   obtain ⟨_,_,ek,aty⟩:=pm.of Dx
   simp only [Value.slice.injEq,true_and] at ek
   rw [<- ek.1] at aty;clear ek
   change pm F w [ya,na] rY at aty
   obtain ⟨pb,po,s0,v0,p2,m2,d2,p3,m3,d3,yt,ey,hpb,Ij,u0,u1,u2,u3,Ez⟩:=aty 0 (by simp)
   obtain ⟨pb',po',s1,v1,p4,m4,d4,p5,m5,d5,nt,Gv,_,aN,z0,z1,z2,z3,Aa⟩:=aty 1 (by simp)
   rw [ey] at Gv
   simp only [Option.some.injEq,Addr.mk.injEq,and_true] at Gv
   obtain ⟨rfl,rfl⟩:=Gv
   simp only [List.getElem?_cons_zero,Option.some.injEq] at Ij
   simp only [List.getElem?_cons_succ,List.getElem?_cons_zero,Option.some.injEq] at aN
   subst Ij;subst aN;subst ey
   simp only [Nat.zero_mul,Nat.add_zero] at u0 u1 u2 u3
   simp only [Nat.one_mul,Nat.add_assoc,Nat.reduceAdd] at z0 z1 z2 z3
   rw [zW] at hsz
   rw [wfB] at iy
   have CY:=ed (fun wz (h:Below w.heap.size w wz)=>ih F ya y n _ _ _ _ _ _ _ _ _ _ _ _ wz (by omega) (fun i hi=>fK (hF i hi) h.size) iy.2.1 (zX.below h (fun _ h=>h) Ez) (zX.below h (fun _ h=>h) hy) (zX.below h (fun _ h=>h) hn))
   have CN:=ed (fun wz (h:Below w.heap.size w wz)=>ih F na y n _ _ _ _ _ _ _ _ _ _ _ _ wz (by omega) (fun i hi=>fK (hF i hi) h.size) iy.2.2 (zX.below h (fun _ h=>h) Aa) (zX.below h (fun _ h=>h) hy) (zX.below h (fun _ h=>h) hn))
   have HK:Hid (Rep F w (.sl 48 4 ss.length (zg ss)) (.slice nS ss.length nB)):=hk
   obtain ⟨YK,Hc⟩:=zzM ((qA y).length)
   obtain ⟨YY,G_⟩:=zzM ((jX y).length)
   obtain ⟨NK,Hg⟩:=zzM ((qA n).length)
   obtain ⟨NY,Hf⟩:=zzM ((jX n).length)
   obtain ⟨AY,Hk⟩:=zzM (jb y)
   obtain ⟨AN,Hl⟩:=zzM (jb n)
   rw [<- Hc,<- G_,<- Hk,<- Hg,<- Hf,<- Hl] at CY CN ⊢
   obtain ⟨W0,ff⟩:=zzM ((((w.alloc (.cells #[str [],.int .i64 (v:Nat),.slice nS ss.length nB,.slice (some ⟨pb,po,none⟩) 2 nH] 48)).alloc (.cells #[str AY,.int .i64 yi,.slice Ek YK Ei,.slice Ej YY Eh] 48)).alloc (.cells #[str AN,.int .i64 ni,.slice mA NK mT,.slice mV NY mJ] 48)).alloc (.cells #[str [],.int .i64 0,.slice none 0 0,.slice none 0 0] 48))
   obtain ⟨fq,CU,bB,bY,bN,bR⟩:=boxes4 w (.cells #[str [],.int .i64 (v:Nat),.slice nS ss.length nB,.slice (some ⟨pb,po,none⟩) 2 nH] 48) (.cells #[str AY,.int .i64 yi,.slice Ek YK Ei,.slice Ej YY Eh] 48) (.cells #[str AN,.int .i64 ni,.slice mA NK mT,.slice mV NY mJ] 48) (.cells #[str [],.int .i64 0,.slice none 0 0,.slice none 0 0] 48)
   rw [<- ff] at fq CU bB bY bN bR
   have SX:Hid (∀ w',Below W0.heap.size W0 w'->(w'.cell? ⟨w.heap.size,1,none⟩=some (.int .i64 (v:Nat))/\w'.cell? ⟨w.heap.size,2,none⟩=some (.slice nS ss.length nB)/\w'.cell? ⟨w.heap.size,3,none⟩=some (.slice (some ⟨pb,po,none⟩) 2 nH)) /\
    (w'.cell? ⟨w.heap.size+1,0,none⟩=some (str AY)/\w'.cell? ⟨w.heap.size+1,1,none⟩=some (.int .i64 yi)/\w'.cell? ⟨w.heap.size+1,2,none⟩=some (.slice Ek YK Ei)/\w'.cell? ⟨w.heap.size+1,3,none⟩=some (.slice Ej YY Eh)) /\
    (w'.cell? ⟨w.heap.size+1+1,0,none⟩=some (str AN)/\w'.cell? ⟨w.heap.size+1+1,1,none⟩=some (.int .i64 ni)/\w'.cell? ⟨w.heap.size+1+1,2,none⟩=some (.slice mA NK mT)/\w'.cell? ⟨w.heap.size+1+1,3,none⟩=some (.slice mV NY mJ)) /\
    (w'.cell? ⟨pb,po,none⟩=some (str s0)/\w'.cell? ⟨pb,po+1,none⟩=some (.int .i64 v0)/\w'.cell? ⟨pb,po+2,none⟩=some (.slice p2 m2 d2)/\w'.cell? ⟨pb,po+3,none⟩=some (.slice p3 m3 d3)) /\
    (w'.cell? ⟨pb,po+4,none⟩=some (str s1)/\w'.cell? ⟨pb,po+5,none⟩=some (.int .i64 v1)/\w'.cell? ⟨pb,po+6,none⟩=some (.slice p4 m4 d4)/\w'.cell? ⟨pb,po+7,none⟩=some (.slice p5 m5 d5))):=by
    show ∀ w',_->_
    intro w' h
    have h0:=zzT fq h
    have kB:=(h.block _ (zZ bB)).trans bB
    have kY:=(h.block _ (zZ bY)).trans bY
    have kN:=(h.block _ (zZ bN)).trans bN
    have q:∀ {j:Nat} {u:Value},w.cell? ⟨pb,j,none⟩=some u->w'.cell? ⟨pb,j,none⟩=some u:=fun {j} {u} hu=>(h0.cell (p:=⟨pb,j,none⟩) hpb).trans hu
    exact ⟨⟨by simp [World.cell?,kB],by simp [World.cell?,kB],by simp [World.cell?,kB]⟩,⟨by simp [World.cell?,kY],by simp [World.cell?,kY],by simp [World.cell?,kY],by simp [World.cell?,kY]⟩,⟨by simp [World.cell?,kN],by simp [World.cell?,kN],by simp [World.cell?,kN],by simp [World.cell?,kN]⟩,⟨q u0,q u1,q u2,q u3⟩,q z0,q z1,q z2,q z3⟩
   have H0:=ed (ef fq (ef CU bR))
   have HYN:=ed (ef Hc (ef G_ (ef Hg (ef Hf (ef Hk Hl)))))
   clear hk Dx aty Ez Aa hy hn hb iy ih u0 u1 u2 u3 z0 z1 z2 z3 fq CU bB bY bN bR HY HN hpb Hc G_ Hg Hf Hk Hl
   show Calls Tryz.prog 42 #[.agg #[str [],.int .i64 (v:Nat),.slice nS ss.length nB,.slice (some ⟨pb,po,none⟩) 2 nH],.agg #[str AY,.int .i64 yi,.slice Ek YK Ei,.slice Ej YY Eh],.agg #[str AN,.int .i64 ni,.slice mA NK mT,.slice mV NY mJ]] w _
   go_enter Tryz.func42,Tryz.ntmps42
   go_wp2_with fail
   rw [<- ff]
   clear ff
   refine wp_region_noPanic ?_
   refine zB (fun w'=>Below W0.heap.size W0 w') (fun i=>i == 20) (by kernel_rfl) ?_
   have fV:(fun w'=>Below W0.heap.size W0 w') W0.drew:=Below.drew (e_ _ _)
   refine tk [0,1,2,3,4,5,6,7,8,9,11,12,13,14,15,16] fV ?_
   (intro d hd;simp [tkD] at hd;subst hd;simp only [tks,pQ,pZ,pS])
   iterate 16 (refine ⟨?_,?_,?_⟩;rotate_left;· (intro oi ho;simp at ho;subst ho;refine Or.inl ⟨by rfl,fun w' fB=>?_⟩;obtain ⟨⟨e1,e2,e3⟩,⟨f0,f1,f2,f3⟩,⟨g0,g1,g2,g3⟩,⟨u0,u1,u2,u3⟩,z0,z1,z2,z3⟩:=SX.out w' fB;go_simp;try with_reducible rfl))
   (refine on 10 ?_;intro o ho K' hK;simp at ho;subst ho;go_simp)
   go_at_call 42
   (with_reducible refine (CY.out _ (zzT H0.out.1 fV)).mono ?_)
   rintro en x1 ⟨Ff,Fe,Fl,Fg,Fj,Fk,Fh,Fi,rfl,fP,mu⟩
   have fI:Hid (Below W0.heap.size W0 x1):=fV.trans fP
   have EY:Hid (zX (fun i=>F i\/W0.heap.size<=i) x1 (kE (qK ya y n)) [str Ff,.int .i64 Fe,.slice Fl Fg Fj,.slice Fk Fh Fi]):=(Rep.keep fun i x h hx=>⟨h.elim .inl (fun h=>.inr (h)),hx⟩).2 _ _ mu
   have HBB1:=ed fP
   clear fP mu
   (refine hK.out _ _ (fun _=>fI.out) ?_;clear hK K';try simp only [pQ,pN,pZ,pS])
   have Gp:=fI.out
   (refine on 17 ?_;intro o ho K' hK;simp at ho;subst ho;go_simp)
   go_at_call 42
   (with_reducible refine (CN.out _ (zzT H0.out.1 fI.out)).mono ?_)
   rintro en x2 ⟨E8,E7,Fd,E9,Fb,Fc,E_,Fa,rfl,fY,mt⟩
   have fL:Hid (Below W0.heap.size W0 x2):=zzT fI.out fY
   have aB:Hid (zX (fun i=>F i\/W0.heap.size<=i) x2 (kE (qK na y n)) [str E8,.int .i64 E7,.slice Fd E9 Fb,.slice Fc E_ Fa]):=(Rep.keep fun i x h hx=>⟨h.elim .inl (fun h=>.inr (fQ fI.out.size h)),hx⟩).2 _ _ mt
   have HBB2:=ed fY
   clear fY mt
   (refine hK.out _ _ (fun _=>fL.out) ?_;clear hK K';try simp only [pQ,pN,pZ,pS])
   have D8:=fL.out
   (refine on 18 ?_;intro o ho K' hK;simp at ho;subst ho;go_simp)
   (refine hK.out _ _ (fun _=>fL.out.alloc fL.out.size (.cells #[str Ff,.int .i64 Fe,.slice Fl Fg Fj,.slice Fk Fh Fi,str E8,.int .i64 E7,.slice Fd E9 Fb,.slice Fc E_ Fa] 48)) ?_;clear hK K';try simp only [pQ,pN,pZ,pS])
   have AO:=fL.out.alloc fL.out.size (.cells #[str Ff,.int .i64 Fe,.slice Fl Fg Fj,.slice Fk Fh Fi,str E8,.int .i64 E7,.slice Fd E9 Fb,.slice Fc E_ Fa] 48)
   have bR2:(x2.alloc (.cells #[str Ff,.int .i64 Fe,.slice Fl Fg Fj,.slice Fk Fh Fi,str E8,.int .i64 E7,.slice Fd E9 Fb,.slice Fc E_ Fa] 48)).heap[w.heap.size+1+1+1]? = some (.cells #[str [],.int .i64 0,.slice none 0 0,.slice none 0 0] 48 (0,0)):=zY ((fL.out.block _ (zZ H0.out.2.2)).trans H0.out.2.2)
   obtain ⟨X,hX⟩:=zzN (x2.alloc (.cells #[str Ff,.int .i64 Fe,.slice Fl Fg Fj,.slice Fk Fh Fi,str E8,.int .i64 E7,.slice Fd E9 Fb,.slice Fc E_ Fa] 48))
   rw [hX] at bR2 AO ⊢
   have NR:z9 (w.heap.size+1+1+1) 0 (.slice none 0 0) (.slice none 0 0) X:=bR2
   obtain ⟨k0,k1,k2,k3,_,kf⟩:=NR.cells
   have kf0:=kf 0;have If:=kf 1;have kf2:=kf 2;have kf3:=kf 3
   clear kf
   refine tk [19] AO ?_
   (intro d hd;simp [tkD] at hd;subst hd;simp only [tks,pQ,pZ,pS])
   (refine ⟨?_,?_,?_⟩;rotate_left;· (intro oi ho;simp at ho;subst ho;refine Or.inl ⟨by rfl,fun w' fB=>?_⟩;go_simp;try with_reducible rfl))
   (refine on 20 ?_;intro o ho K' hK;simp at ho;subst ho;go_simp)
   (refine hK.out _ _ (fun h=>by simp at h) ?_;clear hK K';try simp only [pQ,pN,pZ,pS])
   refine zU (by kernel_rfl) (NoPanic.normal ?_) _
   go_wp2_with fail
   obtain ⟨Z,hZ,f_,fe,f7,mQ,AL,Ad⟩:=NR.store (str []) (.int .i64 (v:Nat)) (.slice nS ss.length nB) (.slice (some ⟨x2.heap.size,0,none⟩) 2 2)
   rw [<- hZ]
   refine bodyPost_ret (v:=.agg #[str [],.int .i64 (v:Nat),.slice nS ss.length nB,.slice (some ⟨x2.heap.size,0,none⟩) 2 2]) (by simp [results,Tryz.results42,go_sem,f_,fe,f7,mQ]) rfl ?_
   have tI:Below W0.heap.size W0 X:=by rw [<- hX];exact fL.out.alloc fL.out.size _
   have fh:Below w.heap.size w X:=zzT H0.out.1 tI
   have nJ:=fL.out.size
   have lf:=H0.out.2.1
   refine ⟨_,_,_,_,_,_,_,_,rfl,AL _ _ fh (by omega),?_⟩
   have kk:∀ i x,x2.heap[i]? = some x->i≠w.heap.size+1+1+1->Z.heap[i]? = some x:=fun i x hx hi=>Ad i x hi (by rw [<- hX];exact zY hx)
   rw [qK]
   have nb:Z.heap[x2.heap.size]? = some (.cells #[str Ff,.int .i64 Fe,.slice Fl Fg Fj,.slice Fk Fh Fi,str E8,.int .i64 E7,.slice Fd E9 Fb,.slice Fc E_ Fa] 48 (0,0)):=Ad _ _ (by omega) (by rw [<- hX];exact zG _ _)
   have kF:∀ i,(F i\/W0.heap.size<=i)->i≠w.heap.size+1+1+1:=fun i h=>by rcases h with h | h;have:=hF i h;omega;omega
   refine node_enc ?_ ?_
   ·exact (Rep.keep fun i x (h:F i) hx=>⟨.inl h,kk i x ((fL.out.block i (by have:=hF i h;omega)).trans ((H0.out.1.block i (zZ hx)).trans hx)) (kF i (.inl h))⟩).1 _ _ HK.out
   ·refine zp.2 ⟨by rw [List.append_nil,List.length_append,ji,ji],_,_,rfl,ei _,(fun h=>by simp at h),.inr ⟨_,0,_,_,rfl,.inr (by omega),nb,?_⟩⟩
    rw [List.append_nil]
    have g1:=zX.below (F':=fun i=>F i\/W0.heap.size<=i) HBB2.out (fun _ h=>h) EY.out
    exact zX.append (vs:=[str Ff,.int .i64 Fe,.slice Fl Fg Fj,.slice Fk Fh Fi]) (us:=[str E8,.int .i64 E7,.slice Fd E9 Fb,.slice Fc E_ Fa]) ((Rep.keep fun i x h hx=>⟨h.elim .inl (fun h=>.inr (by omega)),kk i x hx (kF i h)⟩).2 _ _ g1) ((Rep.keep fun i x h hx=>⟨h.elim .inl (fun h=>.inr (by omega)),kk i x hx (kF i h)⟩).2 _ _ aB.out)
theorem graft_any (M:Nat):GrSaid M:=by
 induction M with
 | zero=>exact fun F b y n b0 b1 b2 b3 y0 y1 y2 y3 n0 n1 n2 n3 w h=>by have:=kW b;omega
 | succ M ih=>exact gr_step M ih
theorem sh_enc (b:Bd) (n k:Nat):kE (kV b n k)=[.val (str (jb b)),.val (.int .i64 ((if jb b=[]/\n<=lvOf b then lvOf b+k else lvOf b:Nat):Int)),.sl 48 4 (qA b).length (zg (zc (qA b) n k)),.sl 48 4 (jX b).length (zg (zc (jX b) n k))]:=by
 cases b with
 | leaf c=>rw [kV,kE];simp [jb,lvOf,qA,jX,zc,zg]
 | ask v ss y no =>
   have hl:(zc ss n k).length=ss.length:=by rw [uD];simp
   rw [kV,kE,hl];simp [jb,lvOf,qA,jX,zc,zg]
theorem kids_part {b s:Bd} {M:Nat} (h:s∈qA b\/s∈jX b) (hs:zW b<=M+1) (hl:lvB b) (hM:zW b<=1000000):zW s<=M/\lvB s/\zW s<=1000000:=by
 cases b with
 | leaf c=>simp [qA,jX] at h
 | ask v ss y no =>
   rw [zW] at hs hM
   rw [lvB] at hl
   rcases h with h | h
   ·have h1:zW s<=zR ss:=vL h
    obtain ⟨j,hj⟩:=List.mem_iff_getElem?.1 h
    exact ⟨by omega,hH ss hl.2.1 j s hj,by omega⟩
   ·simp only [jX,List.mem_cons,List.not_mem_nil,or_false] at h
    rcases h with rfl | rfl
    ·exact ⟨by omega,hl.2.2.1,by omega⟩
    ·exact ⟨by omega,hl.2.2.2,by omega⟩
structure Keeps (W:World) (P:Nat) (sv:Value) (wr:World):Prop where
 keep:W.heap.size<=wr.heap.size/\∀ i x,i≠P->W.heap[i]? = some x->wr.heap[i]? = some x
 own:∀ g,sv.ownBlock=some g->W.heap.size<=g
theorem Keeps.next {W:World} {P:Nat} {sv sv':Value} {wr w6 w7 w8:World} {ob:Obj} (h:Keeps W P sv wr) (fC:Below wr.heap.size wr w6) (fW:But (fun b=>sv.ownBlock=some b) (w6.alloc ob) w7) (fR:∀ g,sv'.ownBlock=some g->sv.ownBlock=some g\/g=(w6.alloc ob).heap.size) (ft:But (fun b=>b=P) w7 w8):Keeps W P sv' w8:=by
 have z1:=h.keep.1
 have z6:=fC.size
 have z7:=fW.size
 rw [zK] at z7
 refine ⟨⟨by have:=ft.size;omega,fun i x hi hx=>?_⟩,fun g hg=>?_⟩
 ·have hl:=zZ hx
  have h1:=h.keep.2 i x hi hx
  have h6:w6.heap[i]? = some x:=by rw [fC.block i (zZ h1)];exact h1
  rw [ft.block i (by omega) hi,fW.block i (by rw [zK];omega) (fun e=>by have:=h.own i e;omega)]
  exact zY h6
 ·rcases fR g hg with e | e
  ·exact h.own g e
  ·rw [zK] at e;omega
def ShSaid (M:Nat):Prop:=∀ (F:Nat->Prop) (b:Bd) (n k:Nat) (b0 b1 b2 b3:Value) (w:World),zW b<=M->(∀ i,F i->i<w.heap.size)->zW b<=1000000->lvB b->n<=10000->k<=10000->zX F w (kE b) [b0,b1,b2,b3] ->
 Calls Tryz.prog 43 #[.agg #[b0,b1,b2,b3],.int .i64 (n:Nat),.int .i64 (k:Nat)] w (NdPost F w (kV b n k))
set_option maxRecDepth 100000 in
theorem sh_step (M:Nat) (ih:ShSaid M):ShSaid (M+1):=by
 intro F b n k b0 b1 b2 b3 w hN hF hM rC hn hk hb
 have el:=encN_lv hb
 subst el
 obtain ⟨_,nS,nB,rY,nH,rfl,eb,rfl,rfl⟩:=pj hb
 clear eb
 obtain ⟨_,_,_,_,_,e,ir,Dx⟩:=vB hb
 simp only [List.cons.injEq,and_true] at e
 obtain ⟨_,_,e1,e2⟩:=e
 rw [<- e1] at ir
 rw [<- e2] at Dx
 clear e1 e2
 obtain ⟨_,_,ek,atk⟩:=pm.of ir
 simp only [Value.slice.injEq,true_and] at ek
 rw [<- ek.1] at atk;clear ek
 obtain ⟨_,_,ek,aty⟩:=pm.of Dx
 simp only [Value.slice.injEq,true_and] at ek
 rw [<- ek.1] at aty;clear ek
 have hlb:lvOf b<=10000:=by
  cases b with
  | leaf c=>simp [lvOf]
  | ask v ss y no=>rw [lvB] at rC;exact rC.1
 have aJ:(qA b).length<=1000000/\(jX b).length<=2:=by
  cases b with
  | leaf c=>simp [qA,jX]
  | ask v ss y no=>rw [zW] at hM;have:=qB ss;simp [qA,jX];omega
 have HE:=ed (sh_enc b n k)
 have GD:=ed (fun (s:Bd) (h:s∈qA b\/s∈jX b)=>kids_part h hN rC hM)
 obtain ⟨R,hR⟩:=zzM (kV b n k)
 obtain ⟨KS,Kb⟩:=zzM (qA b)
 obtain ⟨YS,J7⟩:=zzM (jX b)
 obtain ⟨A,hA⟩:=zzM (jb b)
 obtain ⟨L,hL⟩:=zzM (lvOf b)
 rw [<- hR,<- Kb,<- J7,<- hA,<- hL] at HE
 rw [<- Kb,<- J7] at GD aJ
 rw [<- Kb] at atk
 rw [<- J7] at aty
 rw [<- hL] at hlb
 rw [<- hR,<- Kb,<- J7,<- hA,<- hL]
 clear hb ir Dx hR Kb J7 hA hL hN hM rC
 obtain ⟨Dl,AE⟩:=aJ
 have IH:=ed ih
 have AK:=ed atk
 have AY:=ed aty
 clear atk aty ih
 obtain ⟨W0,ff⟩:=zzM (((w.alloc (.cells #[str A,.int .i64 (L:Nat),.slice nS KS.length nB,.slice rY YS.length nH] 48)).alloc (.cells #[str [],.int .i64 0,.slice none 0 0,.slice none 0 0] 48)).alloc (.cells #[str A,.int .i64 (L:Nat),.slice none 0 0,.slice none 0 0] 48))
 obtain ⟨fq,CU,bB,bR,bO⟩:=yL w (.cells #[str A,.int .i64 (L:Nat),.slice nS KS.length nB,.slice rY YS.length nH] 48) (.cells #[str [],.int .i64 0,.slice none 0 0,.slice none 0 0] 48) (.cells #[str A,.int .i64 (L:Nat),.slice none 0 0,.slice none 0 0] 48)
 rw [<- ff] at fq CU bB bR bO
 have H0:=ed (ef fq (ef CU (ef bB (ef bR bO))))
 clear fq CU
 by_cases ER:A=[]
 ·subst ER
  by_cases hv:n<=L
  ·go_enter Tryz.func43,Tryz.ntmps43
   go_upto_region 2 with (fail)
   rw [<- ff]
   clear ff
   obtain ⟨o0,o1,o2,o3⟩:=kP bO
   obtain ⟨r0,r1,r2,r3⟩:=kP bB
   have of1:W0.frozen? ⟨w.heap.size+1+1,1,none⟩=false:=by simp only [World.frozen?,bO];rfl
   have hvI:(n:Int)<=(L:Int):=by omega
   have rJ:IntKind.i64.wrap ((L:Int)+(k:Int))=(L:Int)+(k:Int):=IntWalk.i64_in _ (by omega)
   go_upto_region 4 with (fail)
   obtain ⟨W,hW⟩:=zzN (W0.setCell ⟨w.heap.size+1+1,1,none⟩ (.int .i64 ((L:Int)+(k:Int))))
   rw [hW]
   have hO:W.heap[w.heap.size+1+1]? = some (.cells #[str [],.int .i64 ((L+k:Nat):Int),.slice none 0 0,.slice none 0 0] 48 (0,0)):=by
    rw [<- hW]
    rw [zy H0.out.2.2.2.2,Int.natCast_add];rfl
   have lE:Below (w.heap.size+1+1) W0 W:=by rw [<- hW];exact (e_ _ _).setCell (p:=⟨w.heap.size+1+1,1,none⟩) (ei _) _
   have CU:=H0.out.2.1
   have rS:w.heap.size+1+1<W.heap.size:=by have:=lE.size;omega
   have rR:=ed (ef (H0.out.1.trans (lE.mono (by omega))) (ef ((lE.block _ (by omega)).trans H0.out.2.2.1) (ef ((lE.block _ (by omega)).trans H0.out.2.2.2.1) hO)))
   clear hW hO lE bB bR bO
   obtain ⟨_,_,Id,Ic⟩:=kP rR.out.2.1
   go_wp2_with fail
   go_loopw [8] (fun i wr=>∃ (j:Nat) (sv:Value) (us:List Value),j<=KS.length/\i=.int .i64 j/\jS F W (w.heap.size+1+1) (fun sv=>.cells #[str [],.int .i64 ((L+k:Nat):Int),sv,.slice none 0 0] 48 (0,0)) 48 4 j (zg (zc (KS.take j) n k)) sv us wr) (fun i _=>KS.length-(intOf i).toNat)
   case atStart=>exact ⟨0,_,_,Nat.zero_le _,rfl,by simpa [zc,zg] using jS.start (F0:=F) (o:=fun sv=>.cells #[str [],.int .i64 ((L+k:Nat):Int),sv,.slice none 0 0] 48 (0,0)) rR.out.2.2.2⟩
   case round =>
    rename_i wr
    obtain ⟨j,sv,us,hj,rfl,fH⟩:=hrel
    obtain ⟨ga,gc,e⟩:=fH.slice
    subst e
    have fJ:wr.heap[w.heap.size+1+1]? = some (.cells #[str [],.int .i64 ((L+k:Nat):Int),.slice ga j gc,.slice none 0 0] 48 (0,0)):=fH.blk
    have fh:Below w.heap.size w wr:=rR.out.1.trans (fH.below.mono (by omega))
    obtain ⟨y0,y1,y2,y3⟩:=kP fJ
    have t_:wr.heap[w.heap.size]? = some (.cells #[str [],.int .i64 (L:Nat),.slice nS KS.length nB,.slice rY YS.length nH] 48 (0,0)):=(fH.below.block _ (by omega)).trans rR.out.2.1
    obtain ⟨_,_,m2,m3⟩:=kP t_
    have HI:=ed (ef fH (ef fJ (ef fh t_)));clear fH fJ fh t_
    by_cases fG:j<KS.length
    ·have mX:(j:Int)<(KS.length:Int):=by omega
     obtain ⟨kb,ko,s1,v1,p4,m4,d4,p5,m5,d5,s,ek,nT,hs,z0,z1,z2,z3,rU⟩:=AK.out j fG
     subst ek
     have mF:s∈KS:=List.mem_of_getElem? hs
     obtain ⟨p1,p2,p3⟩:=GD.out s (.inl mF)
     have q0:=(HI.out.2.2.1.cell (p:=⟨kb,ko+j*4,none⟩) nT).trans z0
     have q1:=(HI.out.2.2.1.cell (p:=⟨kb,ko+j*4+1,none⟩) nT).trans z1
     have q2:=(HI.out.2.2.1.cell (p:=⟨kb,ko+j*4+2,none⟩) nT).trans z2
     have q3:=(HI.out.2.2.1.cell (p:=⟨kb,ko+j*4+3,none⟩) nT).trans z3
     have CC:=ed (IH.out F s n k _ _ _ _ wr.drew p1 (fun i hi=>fK (hF i hi) HI.out.2.2.1.size) p3 p2 hn hk (zX.below HI.out.2.2.1 (fun _ h=>h) rU).drew)
     have HK:=ed (jq hs n k)
     have SX:Hid (∀ w',But (fun i=>(Value.slice ga j gc).ownBlock=some i) wr w'->w'.cell? ⟨w.heap.size+1+1,2,none⟩=some (.slice ga j gc)/\w'.cell? ⟨w.heap.size,2,none⟩=some (.slice (some ⟨kb,ko,none⟩) KS.length nB)/\w'.cell? ⟨kb,ko+j*4,none⟩=some (str s1)/\w'.cell? ⟨kb,ko+j*4+1,none⟩=some (.int .i64 v1)/\w'.cell? ⟨kb,ko+j*4+2,none⟩=some (.slice p4 m4 d4)/\w'.cell? ⟨kb,ko+j*4+3,none⟩=some (.slice p5 m5 d5)):=by
      show ∀ w',_->_
      intro w' fN
      have key:∀ {p:Addr} {u:Value},p.block<w.heap.size+1+1->wr.cell? p=some u->w'.cell? p=some u:=fun hp hu=>(fN.cell (e9 wr _ hu) (fun e=>by have h1:=HI.out.1.fr _ e;omega)).trans hu
      exact ⟨(fN.cell (e9 wr _ y2) HI.out.1.not).trans y2,key (show w.heap.size<_ by omega) m2,key (show kb<_ by omega) q0,key (show kb<_ by omega) q1,key (show kb<_ by omega) q2,key (show kb<_ by omega) q3⟩
     have tK:j+1<=maxLen:=by unfold maxLen;omega
     have nP:(j+1)*72<=140737488355328:=by omega
     clear rU hs mF z0 z1 z2 z3 p1 p2 p3
     go_wp2_with fail
     refine wp_region_noPanic ?_
     refine zB (fun w'=>But (fun i=>(Value.slice ga j gc).ownBlock=some i) wr w') (fun i=>i == 13) (by kernel_rfl) ?_
     have fV:(fun w'=>But (fun i=>(Value.slice ga j gc).ownBlock=some i) wr w') wr.drew:=(But.refl _ wr).drew
     refine tk [0,1,2,3,4,5,6,7,8] fV ?_
     (intro d hd;simp [tkD] at hd;subst hd;simp only [tks,pQ,pZ,pS])
     iterate 9 (refine ⟨?_,?_,?_⟩;rotate_left;· (intro oi ho;simp at ho;subst ho;refine Or.inl ⟨by rfl,fun w' fB=>?_⟩;obtain ⟨e0,e1,e2,e3,e4,e5⟩:=SX.out w' fB;go_simp;try with_reducible rfl))
     (refine on 9 ?_;intro o ho K' hK;simp at ho;subst ho;go_simp)
     go_at_call 43
     (with_reducible refine CC.out.mono ?_)
     rintro Ao w6 ⟨s6,v6,f1,u1,d1,f2,u2,d2,rfl,fC,my⟩
     have mw:Below wr.heap.size wr w6:=(Below.drew (e_ _ _)).trans fC
     have fm:Hid (But (fun i=>(Value.slice ga j gc).ownBlock=some i) wr w6):=But.ofBelow mw
     have fd:=HI.out.1.own6 mw (.cells #[str s6,.int .i64 v6,.slice f1 u1 d1,.slice f2 u2 d2] 48)
     have H6:=ed (ef mw my);clear fC my mw
     (refine hK.out _ _ (fun _=>fm.out) ?_;clear hK K';try simp only [pQ,pN,pZ,pS])
     (refine on 10 ?_;intro o ho K' hK;simp at ho;subst ho;go_simp)
     (refine hK.out _ _ (fun _=>fm.out.alloc _) ?_;clear hK K';try simp only [pQ,pN,pZ,pS])
     (refine on 11 ?_;intro o ho K' hK;simp at ho;subst ho)
     refine zE (by rfl) _ _ _ (by rfl) 48 (.agg #[str [],.int .i64 0,.slice none 0 0,.slice none 0 0]) 4 72 Tryz.underlying46 Tryz.infoN rfl (by decide) (.slice ga j gc) j us (by rfl) fd _ 1 [str s6,.int .i64 v6,.slice f1 u1 d1,.slice f2 u2 d2] (by rfl) (zO.lit4 #[str s6,.int .i64 v6,.slice f1 u1 d1,.slice f2 u2 d2] rfl (by simp [str,Value.oneCell']) _ rfl) tK nP ?_
     intro a' c' w7 fu fW fR
     (refine hK.out _ _ (fun _=>(fm.out.alloc _).trans fW) ?_;clear hK K';try simp only [pQ,pN,pZ,pS])
     have mM:=HI.out.1.cell7 H6.out.1 fW
     have nO:w7.cell? ⟨w.heap.size+1+1,2,none⟩=some (.slice ga j gc)/\w7.frozen? ⟨w.heap.size+1+1,2,none⟩=false:=⟨by simp [World.cell?,mM],by simp [World.frozen?,mM]⟩
     obtain ⟨iL,rz⟩:=nO
     have iv:=ed mM;clear mM
     (refine on 12 ?_;intro o ho K' hK;simp at ho;subst ho;go_simp)
     (refine hK.out _ _ (fun _=>(fm.out.alloc _).trans fW) ?_;clear hK K';try simp only [pQ,pN,pZ,pS])
     (refine on 13 ?_;intro o ho K' hK;simp at ho;subst ho;go_simp)
     (refine hK.out _ _ (fun h=>by simp at h) ?_;clear hK K';try simp only [pQ,pN,pZ,pS])
     refine zU (by kernel_rfl) (NoPanic.normal ?_) _
     have hX:=HI.out.1.next (fun i h=>by have:=hF i h;omega) (w8:=w7.setCell ⟨w.heap.size+1+1,2,none⟩ (.slice a' (j+1) c')) H6.out.1 H6.out.2 fu fW fR (by rw [zy iv.out];rfl) (vc _ _ _ _)
     have nR:zg (zc (KS.take j) n k)++kE (kV s n k)=zg (zc (KS.take (j+1)) n k):=by rw [HK.out,qU];simp [zg]
     rw [nR] at hX
     have HN:=ed hX
     clear hX nR fu fW fR fV fd iL rz
     go_wp2_with fail
     go_roundw
     case rel=>exact ⟨j+1,_,_,by omega,by go_num,HN.out⟩
     case measure=>simp [intOf];omega
    ·obtain rfl:j=KS.length:=by omega
     have mm:=HI.out.1.sl
     rw [List.take_length] at mm
     have E0:=ed mm
     have sy:=ed (ef HI.out.2.2.1 (ef HI.out.2.2.2 (ef ((HI.out.1.below.block _ (by omega)).trans rR.out.2.2.1) HI.out.2.1)))
     have lh:w.heap.size+1+1<wr.heap.size:=zZ HI.out.2.1
     obtain ⟨V,hV⟩:=zzM (wr)
     rw [<- hV] at E0 sy m2 m3 y2 y3 lh ⊢
     clear mm y0 y1 HI hV Id Ic
     go_wp2_with fail
     go_loopw [9] (fun i wr=>∃ (j:Nat) (sv:Value) (us:List Value),j<=YS.length/\i=.int .i64 j/\jS F V (w.heap.size+1+1) (fun sv=>.cells #[str [],.int .i64 ((L+k:Nat):Int),.slice ga KS.length gc,sv] 48 (0,0)) 48 4 j (zg (zc (YS.take j) n k)) sv us wr/\Keeps V (w.heap.size+1+1) sv wr) (fun i _=>YS.length-(intOf i).toNat)
     case atStart=>exact ⟨0,_,_,Nat.zero_le _,rfl,by simpa [zc,zg] using jS.start (F0:=F) (o:=fun sv=>.cells #[str [],.int .i64 ((L+k:Nat):Int),.slice ga KS.length gc,sv] 48 (0,0)) sy.out.2.2.2,⟨⟨ei _,fun i x _ hx=>hx⟩,fun g hg=>by simp [Value.ownBlock] at hg⟩⟩
     case round =>
      rename_i wr
      clear m2 m3 y2 y3
      obtain ⟨j,sv,us,hj,rfl,fH,n_⟩:=hrel
      obtain ⟨ja,jc,e⟩:=fH.slice
      subst e
      have fJ:wr.heap[w.heap.size+1+1]? = some (.cells #[str [],.int .i64 ((L+k:Nat):Int),.slice ga KS.length gc,.slice ja j jc] 48 (0,0)):=fH.blk
      have fh:Below w.heap.size w wr:=sy.out.1.trans (fH.below.mono (by omega))
      obtain ⟨y0,y1,y2,y3⟩:=kP fJ
      have t_:wr.heap[w.heap.size]? = some (.cells #[str [],.int .i64 (L:Nat),.slice nS KS.length nB,.slice rY YS.length nH] 48 (0,0)):=(fH.below.block _ (by omega)).trans sy.out.2.1
      obtain ⟨_,_,m2,m3⟩:=kP t_
      have HI:=ed (ef fH (ef fJ (ef fh t_)));clear fH fJ fh t_
      have EZ:=ed n_;clear n_
      by_cases fG:j<YS.length
      ·have mX:(j:Int)<(YS.length:Int):=by omega
       obtain ⟨kb,ko,s1,v1,p4,m4,d4,p5,m5,d5,s,ek,nT,hs,z0,z1,z2,z3,rU⟩:=AY.out j fG
       subst ek
       have mF:s∈YS:=List.mem_of_getElem? hs
       obtain ⟨p1,p2,p3⟩:=GD.out s (.inr mF)
       have q0:=(HI.out.2.2.1.cell (p:=⟨kb,ko+j*4,none⟩) nT).trans z0
       have q1:=(HI.out.2.2.1.cell (p:=⟨kb,ko+j*4+1,none⟩) nT).trans z1
       have q2:=(HI.out.2.2.1.cell (p:=⟨kb,ko+j*4+2,none⟩) nT).trans z2
       have q3:=(HI.out.2.2.1.cell (p:=⟨kb,ko+j*4+3,none⟩) nT).trans z3
       have CC:=ed (IH.out F s n k _ _ _ _ wr.drew p1 (fun i hi=>fK (hF i hi) HI.out.2.2.1.size) p3 p2 hn hk (zX.below HI.out.2.2.1 (fun _ h=>h) rU).drew)
       have HK:=ed (jq hs n k)
       have SX:Hid (∀ w',But (fun i=>(Value.slice ja j jc).ownBlock=some i) wr w'->w'.cell? ⟨w.heap.size+1+1,3,none⟩=some (.slice ja j jc)/\w'.cell? ⟨w.heap.size,3,none⟩=some (.slice (some ⟨kb,ko,none⟩) YS.length nH)/\w'.cell? ⟨kb,ko+j*4,none⟩=some (str s1)/\w'.cell? ⟨kb,ko+j*4+1,none⟩=some (.int .i64 v1)/\w'.cell? ⟨kb,ko+j*4+2,none⟩=some (.slice p4 m4 d4)/\w'.cell? ⟨kb,ko+j*4+3,none⟩=some (.slice p5 m5 d5)):=by
        show ∀ w',_->_
        intro w' fN
        have key:∀ {p:Addr} {u:Value},p.block<w.heap.size+1+1->wr.cell? p=some u->w'.cell? p=some u:=fun hp hu=>(fN.cell (e9 wr _ hu) (fun e=>by have h1:=HI.out.1.fr _ e;omega)).trans hu
        exact ⟨(fN.cell (e9 wr _ y3) HI.out.1.not).trans y3,key (show w.heap.size<_ by omega) m3,key (show kb<_ by omega) q0,key (show kb<_ by omega) q1,key (show kb<_ by omega) q2,key (show kb<_ by omega) q3⟩
       have tK:j+1<=maxLen:=by unfold maxLen;omega
       have nP:(j+1)*72<=140737488355328:=by omega
       clear rU hs mF z0 z1 z2 z3 p1 p2 p3
       go_wp2_with fail
       refine wp_region_noPanic ?_
       refine zB (fun w'=>But (fun i=>(Value.slice ja j jc).ownBlock=some i) wr w') (fun i=>i == 13) (by kernel_rfl) ?_
       have fV:(fun w'=>But (fun i=>(Value.slice ja j jc).ownBlock=some i) wr w') wr.drew:=(But.refl _ wr).drew
       refine tk [0,1,2,3,4,5,6,7,8] fV ?_
       (intro d hd;simp [tkD] at hd;subst hd;simp only [tks,pQ,pZ,pS])
       iterate 9 (refine ⟨?_,?_,?_⟩;rotate_left;· (intro oi ho;simp at ho;subst ho;refine Or.inl ⟨by rfl,fun w' fB=>?_⟩;obtain ⟨e0,e1,e2,e3,e4,e5⟩:=SX.out w' fB;go_simp;try with_reducible rfl))
       (refine on 9 ?_;intro o ho K' hK;simp at ho;subst ho;go_simp)
       go_at_call 43
       (with_reducible refine CC.out.mono ?_)
       rintro Ao w6 ⟨s6,v6,f1,u1,d1,f2,u2,d2,rfl,fC,my⟩
       have mw:Below wr.heap.size wr w6:=(Below.drew (e_ _ _)).trans fC
       have fm:Hid (But (fun i=>(Value.slice ja j jc).ownBlock=some i) wr w6):=But.ofBelow mw
       have fd:=HI.out.1.own6 mw (.cells #[str s6,.int .i64 v6,.slice f1 u1 d1,.slice f2 u2 d2] 48)
       have H6:=ed (ef mw my);clear fC my mw
       (refine hK.out _ _ (fun _=>fm.out) ?_;clear hK K';try simp only [pQ,pN,pZ,pS])
       (refine on 10 ?_;intro o ho K' hK;simp at ho;subst ho;go_simp)
       (refine hK.out _ _ (fun _=>fm.out.alloc _) ?_;clear hK K';try simp only [pQ,pN,pZ,pS])
       (refine on 11 ?_;intro o ho K' hK;simp at ho;subst ho)
       refine zE (by rfl) _ _ _ (by rfl) 48 (.agg #[str [],.int .i64 0,.slice none 0 0,.slice none 0 0]) 4 72 Tryz.underlying46 Tryz.infoN rfl (by decide) (.slice ja j jc) j us (by rfl) fd _ 1 [str s6,.int .i64 v6,.slice f1 u1 d1,.slice f2 u2 d2] (by rfl) (zO.lit4 #[str s6,.int .i64 v6,.slice f1 u1 d1,.slice f2 u2 d2] rfl (by simp [str,Value.oneCell']) _ rfl) tK nP ?_
       intro a' c' w7 fu fW fR
       (refine hK.out _ _ (fun _=>(fm.out.alloc _).trans fW) ?_;clear hK K';try simp only [pQ,pN,pZ,pS])
       have mM:=HI.out.1.cell7 H6.out.1 fW
       have nO:w7.cell? ⟨w.heap.size+1+1,3,none⟩=some (.slice ja j jc)/\w7.frozen? ⟨w.heap.size+1+1,3,none⟩=false:=⟨by simp [World.cell?,mM],by simp [World.frozen?,mM]⟩
       obtain ⟨iL,rz⟩:=nO
       have iv:=ed mM;clear mM
       (refine on 12 ?_;intro o ho K' hK;simp at ho;subst ho;go_simp)
       (refine hK.out _ _ (fun _=>(fm.out.alloc _).trans fW) ?_;clear hK K';try simp only [pQ,pN,pZ,pS])
       (refine on 13 ?_;intro o ho K' hK;simp at ho;subst ho;go_simp)
       (refine hK.out _ _ (fun h=>by simp at h) ?_;clear hK K';try simp only [pQ,pN,pZ,pS])
       refine zU (by kernel_rfl) (NoPanic.normal ?_) _
       have hX:=HI.out.1.next (fun i h=>by have:=hF i h;omega) (w8:=w7.setCell ⟨w.heap.size+1+1,3,none⟩ (.slice a' (j+1) c')) H6.out.1 H6.out.2 fu fW fR (by rw [zy iv.out];rfl) (vc _ _ _ _)
       have nR:zg (zc (YS.take j) n k)++kE (kV s n k)=zg (zc (YS.take (j+1)) n k):=by rw [HK.out,qU];simp [zg]
       rw [nR] at hX
       have HN:=ed hX
       have Cz:=ed (EZ.out.next (w8:=w7.setCell ⟨w.heap.size+1+1,3,none⟩ (.slice a' (j+1) c')) H6.out.1 fW fR (vc _ _ _ _))
       clear hX nR fu fW fR fV fd iL rz
       go_wp2_with fail
       go_roundw
       case rel=>exact ⟨j+1,_,_,by omega,by go_num,HN.out,Cz.out⟩
       case measure=>simp [intOf];omega
      ·obtain rfl:j=YS.length:=by omega
       have NR:z9 (w.heap.size+1) 0 (.slice none 0 0) (.slice none 0 0) wr:=(HI.out.1.below.block _ (by omega)).trans sy.out.2.2.1
       obtain ⟨k0,k1,k2,k3,_,kf⟩:=NR.cells
       have kf0:=kf 0;have If:=kf 1;have kf2:=kf 2;have kf3:=kf 3
       clear kf
       go_wp2_with fail
       obtain ⟨Z,hZ,f_,fe,f7,mQ,AL,Ad⟩:=NR.store (str []) (.int .i64 ((L:Int)+(k:Int))) (.slice ga KS.length gc) (.slice ja YS.length jc)
       rw [<- hZ]
       refine bodyPost_ret (v:=.agg #[str [],.int .i64 ((L:Int)+(k:Int)),.slice ga KS.length gc,.slice ja YS.length jc]) (by simp [results,Tryz.results43,go_sem,f_,fe,f7,mQ]) rfl ?_
       refine ⟨_,_,_,_,_,_,_,_,rfl,AL _ _ HI.out.2.2.1 (by omega),?_⟩
       have mm:=HI.out.1.sl
       rw [List.take_length] at mm
       rw [HE.out,if_pos (by first | exact ⟨rfl,hv⟩ | exact ⟨trivial,hv⟩)]
       have hne:∀ i,(F i\/w.heap.size+1+1<i)->i≠w.heap.size+1:=fun i h=>by rcases h with h | h;have:=hF i h;omega;omega
       have hP:∀ i,(F i\/w.heap.size+1+1<i)->i≠w.heap.size+1+1:=fun i h=>by rcases h with h | h;have:=hF i h;omega;omega
       refine zQ.2 ⟨_,_,rfl,zH.2 rfl,zQ.2 ⟨_,_,rfl,zH.2 (by first | rfl | simp),zQ.2 ⟨_,_,rfl,?_,zQ.2 ⟨_,_,rfl,?_,zC.2 rfl⟩⟩⟩⟩
       ·exact (Rep.keep fun i x h hx=>⟨h.elim .inl (fun h=>.inr (by omega)),Ad i x (hne i h) (EZ.out.keep.2 i x (hP i h) hx)⟩).1 _ _ E0.out
       ·exact (Rep.keep fun i x h hx=>⟨h.elim .inl (fun h=>.inr (by omega)),Ad i x (hne i h) hx⟩).1 _ _ mm
  ·go_enter Tryz.func43,Tryz.ntmps43
   go_upto_region 2 with (fail)
   rw [<- ff]
   clear ff
   obtain ⟨o0,o1,o2,o3⟩:=kP bO
   obtain ⟨r0,r1,r2,r3⟩:=kP bB
   have of1:W0.frozen? ⟨w.heap.size+1+1,1,none⟩=false:=by simp only [World.frozen?,bO];rfl
   have hvI:¬ (n:Int)<=(L:Int):=by omega
   go_upto_region 4 with (fail)
   obtain ⟨W,hW⟩:=zzN (W0)
   rw [hW]
   have hO:W.heap[w.heap.size+1+1]? = some (.cells #[str [],.int .i64 ((L:Nat):Int),.slice none 0 0,.slice none 0 0] 48 (0,0)):=by
    rw [<- hW]
    exact H0.out.2.2.2.2
   have lE:Below (w.heap.size+1+1) W0 W:=by rw [<- hW];exact e_ _ _
   have CU:=H0.out.2.1
   have rS:w.heap.size+1+1<W.heap.size:=by have:=lE.size;omega
   have rR:=ed (ef (H0.out.1.trans (lE.mono (by omega))) (ef ((lE.block _ (by omega)).trans H0.out.2.2.1) (ef ((lE.block _ (by omega)).trans H0.out.2.2.2.1) hO)))
   clear hW hO lE bB bR bO
   obtain ⟨_,_,Id,Ic⟩:=kP rR.out.2.1
   go_wp2_with fail
   go_loopw [8] (fun i wr=>∃ (j:Nat) (sv:Value) (us:List Value),j<=KS.length/\i=.int .i64 j/\jS F W (w.heap.size+1+1) (fun sv=>.cells #[str [],.int .i64 ((L:Nat):Int),sv,.slice none 0 0] 48 (0,0)) 48 4 j (zg (zc (KS.take j) n k)) sv us wr) (fun i _=>KS.length-(intOf i).toNat)
   case atStart=>exact ⟨0,_,_,Nat.zero_le _,rfl,by simpa [zc,zg] using jS.start (F0:=F) (o:=fun sv=>.cells #[str [],.int .i64 ((L:Nat):Int),sv,.slice none 0 0] 48 (0,0)) rR.out.2.2.2⟩
   case round =>
    rename_i wr
    obtain ⟨j,sv,us,hj,rfl,fH⟩:=hrel
    obtain ⟨ga,gc,e⟩:=fH.slice
    subst e
    have fJ:wr.heap[w.heap.size+1+1]? = some (.cells #[str [],.int .i64 ((L:Nat):Int),.slice ga j gc,.slice none 0 0] 48 (0,0)):=fH.blk
    have fh:Below w.heap.size w wr:=rR.out.1.trans (fH.below.mono (by omega))
    obtain ⟨y0,y1,y2,y3⟩:=kP fJ
    have t_:wr.heap[w.heap.size]? = some (.cells #[str [],.int .i64 (L:Nat),.slice nS KS.length nB,.slice rY YS.length nH] 48 (0,0)):=(fH.below.block _ (by omega)).trans rR.out.2.1
    obtain ⟨_,_,m2,m3⟩:=kP t_
    have HI:=ed (ef fH (ef fJ (ef fh t_)));clear fH fJ fh t_
    by_cases fG:j<KS.length
    ·have mX:(j:Int)<(KS.length:Int):=by omega
     obtain ⟨kb,ko,s1,v1,p4,m4,d4,p5,m5,d5,s,ek,nT,hs,z0,z1,z2,z3,rU⟩:=AK.out j fG
     subst ek
     have mF:s∈KS:=List.mem_of_getElem? hs
     obtain ⟨p1,p2,p3⟩:=GD.out s (.inl mF)
     have q0:=(HI.out.2.2.1.cell (p:=⟨kb,ko+j*4,none⟩) nT).trans z0
     have q1:=(HI.out.2.2.1.cell (p:=⟨kb,ko+j*4+1,none⟩) nT).trans z1
     have q2:=(HI.out.2.2.1.cell (p:=⟨kb,ko+j*4+2,none⟩) nT).trans z2
     have q3:=(HI.out.2.2.1.cell (p:=⟨kb,ko+j*4+3,none⟩) nT).trans z3
     have CC:=ed (IH.out F s n k _ _ _ _ wr.drew p1 (fun i hi=>fK (hF i hi) HI.out.2.2.1.size) p3 p2 hn hk (zX.below HI.out.2.2.1 (fun _ h=>h) rU).drew)
     have HK:=ed (jq hs n k)
     have SX:Hid (∀ w',But (fun i=>(Value.slice ga j gc).ownBlock=some i) wr w'->w'.cell? ⟨w.heap.size+1+1,2,none⟩=some (.slice ga j gc)/\w'.cell? ⟨w.heap.size,2,none⟩=some (.slice (some ⟨kb,ko,none⟩) KS.length nB)/\w'.cell? ⟨kb,ko+j*4,none⟩=some (str s1)/\w'.cell? ⟨kb,ko+j*4+1,none⟩=some (.int .i64 v1)/\w'.cell? ⟨kb,ko+j*4+2,none⟩=some (.slice p4 m4 d4)/\w'.cell? ⟨kb,ko+j*4+3,none⟩=some (.slice p5 m5 d5)):=by
      show ∀ w',_->_
      intro w' fN
      have key:∀ {p:Addr} {u:Value},p.block<w.heap.size+1+1->wr.cell? p=some u->w'.cell? p=some u:=fun hp hu=>(fN.cell (e9 wr _ hu) (fun e=>by have h1:=HI.out.1.fr _ e;omega)).trans hu
      exact ⟨(fN.cell (e9 wr _ y2) HI.out.1.not).trans y2,key (show w.heap.size<_ by omega) m2,key (show kb<_ by omega) q0,key (show kb<_ by omega) q1,key (show kb<_ by omega) q2,key (show kb<_ by omega) q3⟩
     have tK:j+1<=maxLen:=by unfold maxLen;omega
     have nP:(j+1)*72<=140737488355328:=by omega
     clear rU hs mF z0 z1 z2 z3 p1 p2 p3
     go_wp2_with fail
     refine wp_region_noPanic ?_
     refine zB (fun w'=>But (fun i=>(Value.slice ga j gc).ownBlock=some i) wr w') (fun i=>i == 13) (by kernel_rfl) ?_
     have fV:(fun w'=>But (fun i=>(Value.slice ga j gc).ownBlock=some i) wr w') wr.drew:=(But.refl _ wr).drew
     refine tk [0,1,2,3,4,5,6,7,8] fV ?_
     (intro d hd;simp [tkD] at hd;subst hd;simp only [tks,pQ,pZ,pS])
     iterate 9 (refine ⟨?_,?_,?_⟩;rotate_left;· (intro oi ho;simp at ho;subst ho;refine Or.inl ⟨by rfl,fun w' fB=>?_⟩;obtain ⟨e0,e1,e2,e3,e4,e5⟩:=SX.out w' fB;go_simp;try with_reducible rfl))
     (refine on 9 ?_;intro o ho K' hK;simp at ho;subst ho;go_simp)
     go_at_call 43
     (with_reducible refine CC.out.mono ?_)
     rintro Ao w6 ⟨s6,v6,f1,u1,d1,f2,u2,d2,rfl,fC,my⟩
     have mw:Below wr.heap.size wr w6:=(Below.drew (e_ _ _)).trans fC
     have fm:Hid (But (fun i=>(Value.slice ga j gc).ownBlock=some i) wr w6):=But.ofBelow mw
     have fd:=HI.out.1.own6 mw (.cells #[str s6,.int .i64 v6,.slice f1 u1 d1,.slice f2 u2 d2] 48)
     have H6:=ed (ef mw my);clear fC my mw
     (refine hK.out _ _ (fun _=>fm.out) ?_;clear hK K';try simp only [pQ,pN,pZ,pS])
     (refine on 10 ?_;intro o ho K' hK;simp at ho;subst ho;go_simp)
     (refine hK.out _ _ (fun _=>fm.out.alloc _) ?_;clear hK K';try simp only [pQ,pN,pZ,pS])
     (refine on 11 ?_;intro o ho K' hK;simp at ho;subst ho)
     refine zE (by rfl) _ _ _ (by rfl) 48 (.agg #[str [],.int .i64 0,.slice none 0 0,.slice none 0 0]) 4 72 Tryz.underlying46 Tryz.infoN rfl (by decide) (.slice ga j gc) j us (by rfl) fd _ 1 [str s6,.int .i64 v6,.slice f1 u1 d1,.slice f2 u2 d2] (by rfl) (zO.lit4 #[str s6,.int .i64 v6,.slice f1 u1 d1,.slice f2 u2 d2] rfl (by simp [str,Value.oneCell']) _ rfl) tK nP ?_
     intro a' c' w7 fu fW fR
     (refine hK.out _ _ (fun _=>(fm.out.alloc _).trans fW) ?_;clear hK K';try simp only [pQ,pN,pZ,pS])
     have mM:=HI.out.1.cell7 H6.out.1 fW
     have nO:w7.cell? ⟨w.heap.size+1+1,2,none⟩=some (.slice ga j gc)/\w7.frozen? ⟨w.heap.size+1+1,2,none⟩=false:=⟨by simp [World.cell?,mM],by simp [World.frozen?,mM]⟩
     obtain ⟨iL,rz⟩:=nO
     have iv:=ed mM;clear mM
     (refine on 12 ?_;intro o ho K' hK;simp at ho;subst ho;go_simp)
     (refine hK.out _ _ (fun _=>(fm.out.alloc _).trans fW) ?_;clear hK K';try simp only [pQ,pN,pZ,pS])
     (refine on 13 ?_;intro o ho K' hK;simp at ho;subst ho;go_simp)
     (refine hK.out _ _ (fun h=>by simp at h) ?_;clear hK K';try simp only [pQ,pN,pZ,pS])
     refine zU (by kernel_rfl) (NoPanic.normal ?_) _
     have hX:=HI.out.1.next (fun i h=>by have:=hF i h;omega) (w8:=w7.setCell ⟨w.heap.size+1+1,2,none⟩ (.slice a' (j+1) c')) H6.out.1 H6.out.2 fu fW fR (by rw [zy iv.out];rfl) (vc _ _ _ _)
     have nR:zg (zc (KS.take j) n k)++kE (kV s n k)=zg (zc (KS.take (j+1)) n k):=by rw [HK.out,qU];simp [zg]
     rw [nR] at hX
     have HN:=ed hX
     clear hX nR fu fW fR fV fd iL rz
     go_wp2_with fail
     go_roundw
     case rel=>exact ⟨j+1,_,_,by omega,by go_num,HN.out⟩
     case measure=>simp [intOf];omega
    ·obtain rfl:j=KS.length:=by omega
     have mm:=HI.out.1.sl
     rw [List.take_length] at mm
     have E0:=ed mm
     have sy:=ed (ef HI.out.2.2.1 (ef HI.out.2.2.2 (ef ((HI.out.1.below.block _ (by omega)).trans rR.out.2.2.1) HI.out.2.1)))
     have lh:w.heap.size+1+1<wr.heap.size:=zZ HI.out.2.1
     obtain ⟨V,hV⟩:=zzM (wr)
     rw [<- hV] at E0 sy m2 m3 y2 y3 lh ⊢
     clear mm y0 y1 HI hV Id Ic
     go_wp2_with fail
     go_loopw [9] (fun i wr=>∃ (j:Nat) (sv:Value) (us:List Value),j<=YS.length/\i=.int .i64 j/\jS F V (w.heap.size+1+1) (fun sv=>.cells #[str [],.int .i64 ((L:Nat):Int),.slice ga KS.length gc,sv] 48 (0,0)) 48 4 j (zg (zc (YS.take j) n k)) sv us wr/\Keeps V (w.heap.size+1+1) sv wr) (fun i _=>YS.length-(intOf i).toNat)
     case atStart=>exact ⟨0,_,_,Nat.zero_le _,rfl,by simpa [zc,zg] using jS.start (F0:=F) (o:=fun sv=>.cells #[str [],.int .i64 ((L:Nat):Int),.slice ga KS.length gc,sv] 48 (0,0)) sy.out.2.2.2,⟨⟨ei _,fun i x _ hx=>hx⟩,fun g hg=>by simp [Value.ownBlock] at hg⟩⟩
     case round =>
      rename_i wr
      clear m2 m3 y2 y3
      obtain ⟨j,sv,us,hj,rfl,fH,n_⟩:=hrel
      obtain ⟨ja,jc,e⟩:=fH.slice
      subst e
      have fJ:wr.heap[w.heap.size+1+1]? = some (.cells #[str [],.int .i64 ((L:Nat):Int),.slice ga KS.length gc,.slice ja j jc] 48 (0,0)):=fH.blk
      have fh:Below w.heap.size w wr:=sy.out.1.trans (fH.below.mono (by omega))
      obtain ⟨y0,y1,y2,y3⟩:=kP fJ
      have t_:wr.heap[w.heap.size]? = some (.cells #[str [],.int .i64 (L:Nat),.slice nS KS.length nB,.slice rY YS.length nH] 48 (0,0)):=(fH.below.block _ (by omega)).trans sy.out.2.1
      obtain ⟨_,_,m2,m3⟩:=kP t_
      have HI:=ed (ef fH (ef fJ (ef fh t_)));clear fH fJ fh t_
      have EZ:=ed n_;clear n_
      by_cases fG:j<YS.length
      ·have mX:(j:Int)<(YS.length:Int):=by omega
       obtain ⟨kb,ko,s1,v1,p4,m4,d4,p5,m5,d5,s,ek,nT,hs,z0,z1,z2,z3,rU⟩:=AY.out j fG
       subst ek
       have mF:s∈YS:=List.mem_of_getElem? hs
       obtain ⟨p1,p2,p3⟩:=GD.out s (.inr mF)
       have q0:=(HI.out.2.2.1.cell (p:=⟨kb,ko+j*4,none⟩) nT).trans z0
       have q1:=(HI.out.2.2.1.cell (p:=⟨kb,ko+j*4+1,none⟩) nT).trans z1
       have q2:=(HI.out.2.2.1.cell (p:=⟨kb,ko+j*4+2,none⟩) nT).trans z2
       have q3:=(HI.out.2.2.1.cell (p:=⟨kb,ko+j*4+3,none⟩) nT).trans z3
       have CC:=ed (IH.out F s n k _ _ _ _ wr.drew p1 (fun i hi=>fK (hF i hi) HI.out.2.2.1.size) p3 p2 hn hk (zX.below HI.out.2.2.1 (fun _ h=>h) rU).drew)
       have HK:=ed (jq hs n k)
       have SX:Hid (∀ w',But (fun i=>(Value.slice ja j jc).ownBlock=some i) wr w'->w'.cell? ⟨w.heap.size+1+1,3,none⟩=some (.slice ja j jc)/\w'.cell? ⟨w.heap.size,3,none⟩=some (.slice (some ⟨kb,ko,none⟩) YS.length nH)/\w'.cell? ⟨kb,ko+j*4,none⟩=some (str s1)/\w'.cell? ⟨kb,ko+j*4+1,none⟩=some (.int .i64 v1)/\w'.cell? ⟨kb,ko+j*4+2,none⟩=some (.slice p4 m4 d4)/\w'.cell? ⟨kb,ko+j*4+3,none⟩=some (.slice p5 m5 d5)):=by
        show ∀ w',_->_
        intro w' fN
        have key:∀ {p:Addr} {u:Value},p.block<w.heap.size+1+1->wr.cell? p=some u->w'.cell? p=some u:=fun hp hu=>(fN.cell (e9 wr _ hu) (fun e=>by have h1:=HI.out.1.fr _ e;omega)).trans hu
        exact ⟨(fN.cell (e9 wr _ y3) HI.out.1.not).trans y3,key (show w.heap.size<_ by omega) m3,key (show kb<_ by omega) q0,key (show kb<_ by omega) q1,key (show kb<_ by omega) q2,key (show kb<_ by omega) q3⟩
       have tK:j+1<=maxLen:=by unfold maxLen;omega
       have nP:(j+1)*72<=140737488355328:=by omega
       clear rU hs mF z0 z1 z2 z3 p1 p2 p3
       go_wp2_with fail
       refine wp_region_noPanic ?_
       refine zB (fun w'=>But (fun i=>(Value.slice ja j jc).ownBlock=some i) wr w') (fun i=>i == 13) (by kernel_rfl) ?_
       have fV:(fun w'=>But (fun i=>(Value.slice ja j jc).ownBlock=some i) wr w') wr.drew:=(But.refl _ wr).drew
       refine tk [0,1,2,3,4,5,6,7,8] fV ?_
       (intro d hd;simp [tkD] at hd;subst hd;simp only [tks,pQ,pZ,pS])
       iterate 9 (refine ⟨?_,?_,?_⟩;rotate_left;· (intro oi ho;simp at ho;subst ho;refine Or.inl ⟨by rfl,fun w' fB=>?_⟩;obtain ⟨e0,e1,e2,e3,e4,e5⟩:=SX.out w' fB;go_simp;try with_reducible rfl))
       (refine on 9 ?_;intro o ho K' hK;simp at ho;subst ho;go_simp)
       go_at_call 43
       (with_reducible refine CC.out.mono ?_)
       rintro Ao w6 ⟨s6,v6,f1,u1,d1,f2,u2,d2,rfl,fC,my⟩
       have mw:Below wr.heap.size wr w6:=(Below.drew (e_ _ _)).trans fC
       have fm:Hid (But (fun i=>(Value.slice ja j jc).ownBlock=some i) wr w6):=But.ofBelow mw
       have fd:=HI.out.1.own6 mw (.cells #[str s6,.int .i64 v6,.slice f1 u1 d1,.slice f2 u2 d2] 48)
       have H6:=ed (ef mw my);clear fC my mw
       (refine hK.out _ _ (fun _=>fm.out) ?_;clear hK K';try simp only [pQ,pN,pZ,pS])
       (refine on 10 ?_;intro o ho K' hK;simp at ho;subst ho;go_simp)
       (refine hK.out _ _ (fun _=>fm.out.alloc _) ?_;clear hK K';try simp only [pQ,pN,pZ,pS])
       (refine on 11 ?_;intro o ho K' hK;simp at ho;subst ho)
       refine zE (by rfl) _ _ _ (by rfl) 48 (.agg #[str [],.int .i64 0,.slice none 0 0,.slice none 0 0]) 4 72 Tryz.underlying46 Tryz.infoN rfl (by decide) (.slice ja j jc) j us (by rfl) fd _ 1 [str s6,.int .i64 v6,.slice f1 u1 d1,.slice f2 u2 d2] (by rfl) (zO.lit4 #[str s6,.int .i64 v6,.slice f1 u1 d1,.slice f2 u2 d2] rfl (by simp [str,Value.oneCell']) _ rfl) tK nP ?_
       intro a' c' w7 fu fW fR
       (refine hK.out _ _ (fun _=>(fm.out.alloc _).trans fW) ?_;clear hK K';try simp only [pQ,pN,pZ,pS])
       have mM:=HI.out.1.cell7 H6.out.1 fW
       have nO:w7.cell? ⟨w.heap.size+1+1,3,none⟩=some (.slice ja j jc)/\w7.frozen? ⟨w.heap.size+1+1,3,none⟩=false:=⟨by simp [World.cell?,mM],by simp [World.frozen?,mM]⟩
       obtain ⟨iL,rz⟩:=nO
       have iv:=ed mM;clear mM
       (refine on 12 ?_;intro o ho K' hK;simp at ho;subst ho;go_simp)
       (refine hK.out _ _ (fun _=>(fm.out.alloc _).trans fW) ?_;clear hK K';try simp only [pQ,pN,pZ,pS])
       (refine on 13 ?_;intro o ho K' hK;simp at ho;subst ho;go_simp)
       (refine hK.out _ _ (fun h=>by simp at h) ?_;clear hK K';try simp only [pQ,pN,pZ,pS])
       refine zU (by kernel_rfl) (NoPanic.normal ?_) _
       have hX:=HI.out.1.next (fun i h=>by have:=hF i h;omega) (w8:=w7.setCell ⟨w.heap.size+1+1,3,none⟩ (.slice a' (j+1) c')) H6.out.1 H6.out.2 fu fW fR (by rw [zy iv.out];rfl) (vc _ _ _ _)
       have nR:zg (zc (YS.take j) n k)++kE (kV s n k)=zg (zc (YS.take (j+1)) n k):=by rw [HK.out,qU];simp [zg]
       rw [nR] at hX
       have HN:=ed hX
       have Cz:=ed (EZ.out.next (w8:=w7.setCell ⟨w.heap.size+1+1,3,none⟩ (.slice a' (j+1) c')) H6.out.1 fW fR (vc _ _ _ _))
       clear hX nR fu fW fR fV fd iL rz
       go_wp2_with fail
       go_roundw
       case rel=>exact ⟨j+1,_,_,by omega,by go_num,HN.out,Cz.out⟩
       case measure=>simp [intOf];omega
      ·obtain rfl:j=YS.length:=by omega
       have NR:z9 (w.heap.size+1) 0 (.slice none 0 0) (.slice none 0 0) wr:=(HI.out.1.below.block _ (by omega)).trans sy.out.2.2.1
       obtain ⟨k0,k1,k2,k3,_,kf⟩:=NR.cells
       have kf0:=kf 0;have If:=kf 1;have kf2:=kf 2;have kf3:=kf 3
       clear kf
       go_wp2_with fail
       obtain ⟨Z,hZ,f_,fe,f7,mQ,AL,Ad⟩:=NR.store (str []) (.int .i64 (((L:Nat):Int))) (.slice ga KS.length gc) (.slice ja YS.length jc)
       rw [<- hZ]
       refine bodyPost_ret (v:=.agg #[str [],.int .i64 (((L:Nat):Int)),.slice ga KS.length gc,.slice ja YS.length jc]) (by simp [results,Tryz.results43,go_sem,f_,fe,f7,mQ]) rfl ?_
       refine ⟨_,_,_,_,_,_,_,_,rfl,AL _ _ HI.out.2.2.1 (by omega),?_⟩
       have mm:=HI.out.1.sl
       rw [List.take_length] at mm
       rw [HE.out,if_neg (fun h=>hv h.2)]
       have hne:∀ i,(F i\/w.heap.size+1+1<i)->i≠w.heap.size+1:=fun i h=>by rcases h with h | h;have:=hF i h;omega;omega
       have hP:∀ i,(F i\/w.heap.size+1+1<i)->i≠w.heap.size+1+1:=fun i h=>by rcases h with h | h;have:=hF i h;omega;omega
       refine zQ.2 ⟨_,_,rfl,zH.2 rfl,zQ.2 ⟨_,_,rfl,zH.2 (by first | rfl | simp),zQ.2 ⟨_,_,rfl,?_,zQ.2 ⟨_,_,rfl,?_,zC.2 rfl⟩⟩⟩⟩
       ·exact (Rep.keep fun i x h hx=>⟨h.elim .inl (fun h=>.inr (by omega)),Ad i x (hne i h) (EZ.out.keep.2 i x (hP i h) hx)⟩).1 _ _ E0.out
       ·exact (Rep.keep fun i x h hx=>⟨h.elim .inl (fun h=>.inr (by omega)),Ad i x (hne i h) hx⟩).1 _ _ mm
 ·go_enter Tryz.func43,Tryz.ntmps43
  go_upto_region 2 with (fail)
  rw [<- ff]
  clear ff
  obtain ⟨o0,o1,o2,o3⟩:=kP bO
  obtain ⟨r0,r1,r2,r3⟩:=kP bB
  have of1:W0.frozen? ⟨w.heap.size+1+1,1,none⟩=false:=by simp only [World.frozen?,bO];rfl
  have AB:(A == [])=false:=by rw [beq_eq_false_iff_ne];exact ER
  have iT:A.isEmpty=false:=by cases A with | nil=>exact absurd rfl ER | cons a b=>rfl
  go_upto_region 4 with (fail)
  obtain ⟨W,hW⟩:=zzN (W0)
  rw [hW]
  have hO:W.heap[w.heap.size+1+1]? = some (.cells #[str A,.int .i64 ((L:Nat):Int),.slice none 0 0,.slice none 0 0] 48 (0,0)):=by
   rw [<- hW]
   exact H0.out.2.2.2.2
  have lE:Below (w.heap.size+1+1) W0 W:=by rw [<- hW];exact e_ _ _
  have CU:=H0.out.2.1
  have rS:w.heap.size+1+1<W.heap.size:=by have:=lE.size;omega
  have rR:=ed (ef (H0.out.1.trans (lE.mono (by omega))) (ef ((lE.block _ (by omega)).trans H0.out.2.2.1) (ef ((lE.block _ (by omega)).trans H0.out.2.2.2.1) hO)))
  clear hW hO lE bB bR bO
  obtain ⟨_,_,Id,Ic⟩:=kP rR.out.2.1
  go_wp2_with fail
  go_loopw [8] (fun i wr=>∃ (j:Nat) (sv:Value) (us:List Value),j<=KS.length/\i=.int .i64 j/\jS F W (w.heap.size+1+1) (fun sv=>.cells #[str A,.int .i64 ((L:Nat):Int),sv,.slice none 0 0] 48 (0,0)) 48 4 j (zg (zc (KS.take j) n k)) sv us wr) (fun i _=>KS.length-(intOf i).toNat)
  case atStart=>exact ⟨0,_,_,Nat.zero_le _,rfl,by simpa [zc,zg] using jS.start (F0:=F) (o:=fun sv=>.cells #[str A,.int .i64 ((L:Nat):Int),sv,.slice none 0 0] 48 (0,0)) rR.out.2.2.2⟩
  case round =>
   rename_i wr
   obtain ⟨j,sv,us,hj,rfl,fH⟩:=hrel
   obtain ⟨ga,gc,e⟩:=fH.slice
   subst e
   have fJ:wr.heap[w.heap.size+1+1]? = some (.cells #[str A,.int .i64 ((L:Nat):Int),.slice ga j gc,.slice none 0 0] 48 (0,0)):=fH.blk
   have fh:Below w.heap.size w wr:=rR.out.1.trans (fH.below.mono (by omega))
   obtain ⟨y0,y1,y2,y3⟩:=kP fJ
   have t_:wr.heap[w.heap.size]? = some (.cells #[str A,.int .i64 (L:Nat),.slice nS KS.length nB,.slice rY YS.length nH] 48 (0,0)):=(fH.below.block _ (by omega)).trans rR.out.2.1
   obtain ⟨_,_,m2,m3⟩:=kP t_
   have HI:=ed (ef fH (ef fJ (ef fh t_)));clear fH fJ fh t_
   by_cases fG:j<KS.length
   ·have mX:(j:Int)<(KS.length:Int):=by omega
    obtain ⟨kb,ko,s1,v1,p4,m4,d4,p5,m5,d5,s,ek,nT,hs,z0,z1,z2,z3,rU⟩:=AK.out j fG
    subst ek
    have mF:s∈KS:=List.mem_of_getElem? hs
    obtain ⟨p1,p2,p3⟩:=GD.out s (.inl mF)
    have q0:=(HI.out.2.2.1.cell (p:=⟨kb,ko+j*4,none⟩) nT).trans z0
    have q1:=(HI.out.2.2.1.cell (p:=⟨kb,ko+j*4+1,none⟩) nT).trans z1
    have q2:=(HI.out.2.2.1.cell (p:=⟨kb,ko+j*4+2,none⟩) nT).trans z2
    have q3:=(HI.out.2.2.1.cell (p:=⟨kb,ko+j*4+3,none⟩) nT).trans z3
    have CC:=ed (IH.out F s n k _ _ _ _ wr.drew p1 (fun i hi=>fK (hF i hi) HI.out.2.2.1.size) p3 p2 hn hk (zX.below HI.out.2.2.1 (fun _ h=>h) rU).drew)
    have HK:=ed (jq hs n k)
    have SX:Hid (∀ w',But (fun i=>(Value.slice ga j gc).ownBlock=some i) wr w'->w'.cell? ⟨w.heap.size+1+1,2,none⟩=some (.slice ga j gc)/\w'.cell? ⟨w.heap.size,2,none⟩=some (.slice (some ⟨kb,ko,none⟩) KS.length nB)/\w'.cell? ⟨kb,ko+j*4,none⟩=some (str s1)/\w'.cell? ⟨kb,ko+j*4+1,none⟩=some (.int .i64 v1)/\w'.cell? ⟨kb,ko+j*4+2,none⟩=some (.slice p4 m4 d4)/\w'.cell? ⟨kb,ko+j*4+3,none⟩=some (.slice p5 m5 d5)):=by
     show ∀ w',_->_
     intro w' fN
     have key:∀ {p:Addr} {u:Value},p.block<w.heap.size+1+1->wr.cell? p=some u->w'.cell? p=some u:=fun hp hu=>(fN.cell (e9 wr _ hu) (fun e=>by have h1:=HI.out.1.fr _ e;omega)).trans hu
     exact ⟨(fN.cell (e9 wr _ y2) HI.out.1.not).trans y2,key (show w.heap.size<_ by omega) m2,key (show kb<_ by omega) q0,key (show kb<_ by omega) q1,key (show kb<_ by omega) q2,key (show kb<_ by omega) q3⟩
    have tK:j+1<=maxLen:=by unfold maxLen;omega
    have nP:(j+1)*72<=140737488355328:=by omega
    clear rU hs mF z0 z1 z2 z3 p1 p2 p3
    go_wp2_with fail
    refine wp_region_noPanic ?_
    refine zB (fun w'=>But (fun i=>(Value.slice ga j gc).ownBlock=some i) wr w') (fun i=>i == 13) (by kernel_rfl) ?_
    have fV:(fun w'=>But (fun i=>(Value.slice ga j gc).ownBlock=some i) wr w') wr.drew:=(But.refl _ wr).drew
    refine tk [0,1,2,3,4,5,6,7,8] fV ?_
    (intro d hd;simp [tkD] at hd;subst hd;simp only [tks,pQ,pZ,pS])
    iterate 9 (refine ⟨?_,?_,?_⟩;rotate_left;· (intro oi ho;simp at ho;subst ho;refine Or.inl ⟨by rfl,fun w' fB=>?_⟩;obtain ⟨e0,e1,e2,e3,e4,e5⟩:=SX.out w' fB;go_simp;try with_reducible rfl))
    (refine on 9 ?_;intro o ho K' hK;simp at ho;subst ho;go_simp)
    go_at_call 43
    (with_reducible refine CC.out.mono ?_)
    rintro Ao w6 ⟨s6,v6,f1,u1,d1,f2,u2,d2,rfl,fC,my⟩
    have mw:Below wr.heap.size wr w6:=(Below.drew (e_ _ _)).trans fC
    have fm:Hid (But (fun i=>(Value.slice ga j gc).ownBlock=some i) wr w6):=But.ofBelow mw
    have fd:=HI.out.1.own6 mw (.cells #[str s6,.int .i64 v6,.slice f1 u1 d1,.slice f2 u2 d2] 48)
    have H6:=ed (ef mw my);clear fC my mw
    (refine hK.out _ _ (fun _=>fm.out) ?_;clear hK K';try simp only [pQ,pN,pZ,pS])
    (refine on 10 ?_;intro o ho K' hK;simp at ho;subst ho;go_simp)
    (refine hK.out _ _ (fun _=>fm.out.alloc _) ?_;clear hK K';try simp only [pQ,pN,pZ,pS])
    (refine on 11 ?_;intro o ho K' hK;simp at ho;subst ho)
    refine zE (by rfl) _ _ _ (by rfl) 48 (.agg #[str [],.int .i64 0,.slice none 0 0,.slice none 0 0]) 4 72 Tryz.underlying46 Tryz.infoN rfl (by decide) (.slice ga j gc) j us (by rfl) fd _ 1 [str s6,.int .i64 v6,.slice f1 u1 d1,.slice f2 u2 d2] (by rfl) (zO.lit4 #[str s6,.int .i64 v6,.slice f1 u1 d1,.slice f2 u2 d2] rfl (by simp [str,Value.oneCell']) _ rfl) tK nP ?_
    intro a' c' w7 fu fW fR
    (refine hK.out _ _ (fun _=>(fm.out.alloc _).trans fW) ?_;clear hK K';try simp only [pQ,pN,pZ,pS])
    have mM:=HI.out.1.cell7 H6.out.1 fW
    have nO:w7.cell? ⟨w.heap.size+1+1,2,none⟩=some (.slice ga j gc)/\w7.frozen? ⟨w.heap.size+1+1,2,none⟩=false:=⟨by simp [World.cell?,mM],by simp [World.frozen?,mM]⟩
    obtain ⟨iL,rz⟩:=nO
    have iv:=ed mM;clear mM
    (refine on 12 ?_;intro o ho K' hK;simp at ho;subst ho;go_simp)
    (refine hK.out _ _ (fun _=>(fm.out.alloc _).trans fW) ?_;clear hK K';try simp only [pQ,pN,pZ,pS])
    (refine on 13 ?_;intro o ho K' hK;simp at ho;subst ho;go_simp)
    (refine hK.out _ _ (fun h=>by simp at h) ?_;clear hK K';try simp only [pQ,pN,pZ,pS])
    refine zU (by kernel_rfl) (NoPanic.normal ?_) _
    have hX:=HI.out.1.next (fun i h=>by have:=hF i h;omega) (w8:=w7.setCell ⟨w.heap.size+1+1,2,none⟩ (.slice a' (j+1) c')) H6.out.1 H6.out.2 fu fW fR (by rw [zy iv.out];rfl) (vc _ _ _ _)
    have nR:zg (zc (KS.take j) n k)++kE (kV s n k)=zg (zc (KS.take (j+1)) n k):=by rw [HK.out,qU];simp [zg]
    rw [nR] at hX
    have HN:=ed hX
    clear hX nR fu fW fR fV fd iL rz
    go_wp2_with fail
    go_roundw
    case rel=>exact ⟨j+1,_,_,by omega,by go_num,HN.out⟩
    case measure=>simp [intOf];omega
   ·obtain rfl:j=KS.length:=by omega
    have mm:=HI.out.1.sl
    rw [List.take_length] at mm
    have E0:=ed mm
    have sy:=ed (ef HI.out.2.2.1 (ef HI.out.2.2.2 (ef ((HI.out.1.below.block _ (by omega)).trans rR.out.2.2.1) HI.out.2.1)))
    have lh:w.heap.size+1+1<wr.heap.size:=zZ HI.out.2.1
    obtain ⟨V,hV⟩:=zzM (wr)
    rw [<- hV] at E0 sy m2 m3 y2 y3 lh ⊢
    clear mm y0 y1 HI hV Id Ic
    go_wp2_with fail
    go_loopw [9] (fun i wr=>∃ (j:Nat) (sv:Value) (us:List Value),j<=YS.length/\i=.int .i64 j/\jS F V (w.heap.size+1+1) (fun sv=>.cells #[str A,.int .i64 ((L:Nat):Int),.slice ga KS.length gc,sv] 48 (0,0)) 48 4 j (zg (zc (YS.take j) n k)) sv us wr/\Keeps V (w.heap.size+1+1) sv wr) (fun i _=>YS.length-(intOf i).toNat)
    case atStart=>exact ⟨0,_,_,Nat.zero_le _,rfl,by simpa [zc,zg] using jS.start (F0:=F) (o:=fun sv=>.cells #[str A,.int .i64 ((L:Nat):Int),.slice ga KS.length gc,sv] 48 (0,0)) sy.out.2.2.2,⟨⟨ei _,fun i x _ hx=>hx⟩,fun g hg=>by simp [Value.ownBlock] at hg⟩⟩
    case round =>
     rename_i wr
     clear m2 m3 y2 y3
     obtain ⟨j,sv,us,hj,rfl,fH,n_⟩:=hrel
     obtain ⟨ja,jc,e⟩:=fH.slice
     subst e
     have fJ:wr.heap[w.heap.size+1+1]? = some (.cells #[str A,.int .i64 ((L:Nat):Int),.slice ga KS.length gc,.slice ja j jc] 48 (0,0)):=fH.blk
     have fh:Below w.heap.size w wr:=sy.out.1.trans (fH.below.mono (by omega))
     obtain ⟨y0,y1,y2,y3⟩:=kP fJ
     have t_:wr.heap[w.heap.size]? = some (.cells #[str A,.int .i64 (L:Nat),.slice nS KS.length nB,.slice rY YS.length nH] 48 (0,0)):=(fH.below.block _ (by omega)).trans sy.out.2.1
     obtain ⟨_,_,m2,m3⟩:=kP t_
     have HI:=ed (ef fH (ef fJ (ef fh t_)));clear fH fJ fh t_
     have EZ:=ed n_;clear n_
     by_cases fG:j<YS.length
     ·have mX:(j:Int)<(YS.length:Int):=by omega
      obtain ⟨kb,ko,s1,v1,p4,m4,d4,p5,m5,d5,s,ek,nT,hs,z0,z1,z2,z3,rU⟩:=AY.out j fG
      subst ek
      have mF:s∈YS:=List.mem_of_getElem? hs
      obtain ⟨p1,p2,p3⟩:=GD.out s (.inr mF)
      have q0:=(HI.out.2.2.1.cell (p:=⟨kb,ko+j*4,none⟩) nT).trans z0
      have q1:=(HI.out.2.2.1.cell (p:=⟨kb,ko+j*4+1,none⟩) nT).trans z1
      have q2:=(HI.out.2.2.1.cell (p:=⟨kb,ko+j*4+2,none⟩) nT).trans z2
      have q3:=(HI.out.2.2.1.cell (p:=⟨kb,ko+j*4+3,none⟩) nT).trans z3
      have CC:=ed (IH.out F s n k _ _ _ _ wr.drew p1 (fun i hi=>fK (hF i hi) HI.out.2.2.1.size) p3 p2 hn hk (zX.below HI.out.2.2.1 (fun _ h=>h) rU).drew)
      have HK:=ed (jq hs n k)
      have SX:Hid (∀ w',But (fun i=>(Value.slice ja j jc).ownBlock=some i) wr w'->w'.cell? ⟨w.heap.size+1+1,3,none⟩=some (.slice ja j jc)/\w'.cell? ⟨w.heap.size,3,none⟩=some (.slice (some ⟨kb,ko,none⟩) YS.length nH)/\w'.cell? ⟨kb,ko+j*4,none⟩=some (str s1)/\w'.cell? ⟨kb,ko+j*4+1,none⟩=some (.int .i64 v1)/\w'.cell? ⟨kb,ko+j*4+2,none⟩=some (.slice p4 m4 d4)/\w'.cell? ⟨kb,ko+j*4+3,none⟩=some (.slice p5 m5 d5)):=by
       show ∀ w',_->_
       intro w' fN
       have key:∀ {p:Addr} {u:Value},p.block<w.heap.size+1+1->wr.cell? p=some u->w'.cell? p=some u:=fun hp hu=>(fN.cell (e9 wr _ hu) (fun e=>by have h1:=HI.out.1.fr _ e;omega)).trans hu
       exact ⟨(fN.cell (e9 wr _ y3) HI.out.1.not).trans y3,key (show w.heap.size<_ by omega) m3,key (show kb<_ by omega) q0,key (show kb<_ by omega) q1,key (show kb<_ by omega) q2,key (show kb<_ by omega) q3⟩
      have tK:j+1<=maxLen:=by unfold maxLen;omega
      have nP:(j+1)*72<=140737488355328:=by omega
      clear rU hs mF z0 z1 z2 z3 p1 p2 p3
      go_wp2_with fail
      refine wp_region_noPanic ?_
      refine zB (fun w'=>But (fun i=>(Value.slice ja j jc).ownBlock=some i) wr w') (fun i=>i == 13) (by kernel_rfl) ?_
      have fV:(fun w'=>But (fun i=>(Value.slice ja j jc).ownBlock=some i) wr w') wr.drew:=(But.refl _ wr).drew
      refine tk [0,1,2,3,4,5,6,7,8] fV ?_
      (intro d hd;simp [tkD] at hd;subst hd;simp only [tks,pQ,pZ,pS])
      iterate 9 (refine ⟨?_,?_,?_⟩;rotate_left;· (intro oi ho;simp at ho;subst ho;refine Or.inl ⟨by rfl,fun w' fB=>?_⟩;obtain ⟨e0,e1,e2,e3,e4,e5⟩:=SX.out w' fB;go_simp;try with_reducible rfl))
      (refine on 9 ?_;intro o ho K' hK;simp at ho;subst ho;go_simp)
      go_at_call 43
      (with_reducible refine CC.out.mono ?_)
      rintro Ao w6 ⟨s6,v6,f1,u1,d1,f2,u2,d2,rfl,fC,my⟩
      have mw:Below wr.heap.size wr w6:=(Below.drew (e_ _ _)).trans fC
      have fm:Hid (But (fun i=>(Value.slice ja j jc).ownBlock=some i) wr w6):=But.ofBelow mw
      have fd:=HI.out.1.own6 mw (.cells #[str s6,.int .i64 v6,.slice f1 u1 d1,.slice f2 u2 d2] 48)
      have H6:=ed (ef mw my);clear fC my mw
      (refine hK.out _ _ (fun _=>fm.out) ?_;clear hK K';try simp only [pQ,pN,pZ,pS])
      (refine on 10 ?_;intro o ho K' hK;simp at ho;subst ho;go_simp)
      (refine hK.out _ _ (fun _=>fm.out.alloc _) ?_;clear hK K';try simp only [pQ,pN,pZ,pS])
      (refine on 11 ?_;intro o ho K' hK;simp at ho;subst ho)
      refine zE (by rfl) _ _ _ (by rfl) 48 (.agg #[str [],.int .i64 0,.slice none 0 0,.slice none 0 0]) 4 72 Tryz.underlying46 Tryz.infoN rfl (by decide) (.slice ja j jc) j us (by rfl) fd _ 1 [str s6,.int .i64 v6,.slice f1 u1 d1,.slice f2 u2 d2] (by rfl) (zO.lit4 #[str s6,.int .i64 v6,.slice f1 u1 d1,.slice f2 u2 d2] rfl (by simp [str,Value.oneCell']) _ rfl) tK nP ?_
      intro a' c' w7 fu fW fR
      (refine hK.out _ _ (fun _=>(fm.out.alloc _).trans fW) ?_;clear hK K';try simp only [pQ,pN,pZ,pS])
      have mM:=HI.out.1.cell7 H6.out.1 fW
      have nO:w7.cell? ⟨w.heap.size+1+1,3,none⟩=some (.slice ja j jc)/\w7.frozen? ⟨w.heap.size+1+1,3,none⟩=false:=⟨by simp [World.cell?,mM],by simp [World.frozen?,mM]⟩
      obtain ⟨iL,rz⟩:=nO
      have iv:=ed mM;clear mM
      (refine on 12 ?_;intro o ho K' hK;simp at ho;subst ho;go_simp)
      (refine hK.out _ _ (fun _=>(fm.out.alloc _).trans fW) ?_;clear hK K';try simp only [pQ,pN,pZ,pS])
      (refine on 13 ?_;intro o ho K' hK;simp at ho;subst ho;go_simp)
      (refine hK.out _ _ (fun h=>by simp at h) ?_;clear hK K';try simp only [pQ,pN,pZ,pS])
      refine zU (by kernel_rfl) (NoPanic.normal ?_) _
      have hX:=HI.out.1.next (fun i h=>by have:=hF i h;omega) (w8:=w7.setCell ⟨w.heap.size+1+1,3,none⟩ (.slice a' (j+1) c')) H6.out.1 H6.out.2 fu fW fR (by rw [zy iv.out];rfl) (vc _ _ _ _)
      have nR:zg (zc (YS.take j) n k)++kE (kV s n k)=zg (zc (YS.take (j+1)) n k):=by rw [HK.out,qU];simp [zg]
      rw [nR] at hX
      have HN:=ed hX
      have Cz:=ed (EZ.out.next (w8:=w7.setCell ⟨w.heap.size+1+1,3,none⟩ (.slice a' (j+1) c')) H6.out.1 fW fR (vc _ _ _ _))
      clear hX nR fu fW fR fV fd iL rz
      go_wp2_with fail
      go_roundw
      case rel=>exact ⟨j+1,_,_,by omega,by go_num,HN.out,Cz.out⟩
      case measure=>simp [intOf];omega
     ·obtain rfl:j=YS.length:=by omega
      have NR:z9 (w.heap.size+1) 0 (.slice none 0 0) (.slice none 0 0) wr:=(HI.out.1.below.block _ (by omega)).trans sy.out.2.2.1
      obtain ⟨k0,k1,k2,k3,_,kf⟩:=NR.cells
      have kf0:=kf 0;have If:=kf 1;have kf2:=kf 2;have kf3:=kf 3
      clear kf
      go_wp2_with fail
      obtain ⟨Z,hZ,f_,fe,f7,mQ,AL,Ad⟩:=NR.store (str A) (.int .i64 (((L:Nat):Int))) (.slice ga KS.length gc) (.slice ja YS.length jc)
      rw [<- hZ]
      refine bodyPost_ret (v:=.agg #[str A,.int .i64 (((L:Nat):Int)),.slice ga KS.length gc,.slice ja YS.length jc]) (by simp [results,Tryz.results43,go_sem,f_,fe,f7,mQ]) rfl ?_
      refine ⟨_,_,_,_,_,_,_,_,rfl,AL _ _ HI.out.2.2.1 (by omega),?_⟩
      have mm:=HI.out.1.sl
      rw [List.take_length] at mm
      rw [HE.out,if_neg (fun h=>ER h.1)]
      have hne:∀ i,(F i\/w.heap.size+1+1<i)->i≠w.heap.size+1:=fun i h=>by rcases h with h | h;have:=hF i h;omega;omega
      have hP:∀ i,(F i\/w.heap.size+1+1<i)->i≠w.heap.size+1+1:=fun i h=>by rcases h with h | h;have:=hF i h;omega;omega
      refine zQ.2 ⟨_,_,rfl,zH.2 rfl,zQ.2 ⟨_,_,rfl,zH.2 (by first | rfl | simp),zQ.2 ⟨_,_,rfl,?_,zQ.2 ⟨_,_,rfl,?_,zC.2 rfl⟩⟩⟩⟩
      ·exact (Rep.keep fun i x h hx=>⟨h.elim .inl (fun h=>.inr (by omega)),Ad i x (hne i h) (EZ.out.keep.2 i x (hP i h) hx)⟩).1 _ _ E0.out
      ·exact (Rep.keep fun i x h hx=>⟨h.elim .inl (fun h=>.inr (by omega)),Ad i x (hne i h) hx⟩).1 _ _ mm
theorem shift_any (M:Nat):ShSaid M:=by
 induction M with
 | zero=>exact fun F b n k b0 b1 b2 b3 w h=>by have:=kW b;omega
 | succ M ih=>exact sh_step M ih
end Go.Proofs.YtjggkhmojjaomaaGreatDoor

/- Walks of functions that the statement reaches, and plain words. No conditions. -/
import Derived.Test.YtjggkhmojjaomaaGreatDoorQ12
import Derived.Test.YtjggkhmojjaomaaGreatDoorQ16
set_option linter.unusedVariables false
set_option linter.unusedSimpArgs false
set_option maxHeartbeats 4000000
namespace Go.Proofs.YtjggkhmojjaomaaGreatDoor
open Go.RowKit
def etaObj (v:Nat) (sv:Value):Obj:=.cells #[str [],.int .i64 (v:Nat),sv,.slice none 0 0] 48 (0,0)
def EtaPost (b:Bd) (w:World) (en:Ending) (w':World):Prop :=
 ∃ (s:Bs) (v:Int) (a2:Option Addr) (n2 c2:Nat) (a3:Option Addr) (n3 c3:Nat),en=.returned (.agg #[str s,.int .i64 v,.slice a2 n2 c2,.slice a3 n3 c3])/\Below w.heap.size w w'/\zX (fun i=>w.heap.size<=i) w' (kR b) [str s,.int .i64 v,.slice a2 n2 c2,.slice a3 n3 c3]
set_option maxRecDepth 100000 in
theorem l4Eta_any (m:Nat):∀ (t:Ty),zV t<=m->zV t<=15->∀ (F:Nat->Prop) (tv:Value) (v n:Nat) (w:World),Rep F w (kg t) tv->v<=1000000->n+16*zV t<=1000000 ->
 Calls Tryz.prog 35 #[.agg #[tv],.int .i64 (v:Nat),.int .i64 (n:Nat)] w (EtaPost (eta t v n) w):=by
 induction m with
 | zero=>intro t h;cases t;rw [zV] at h;omega
 | succ m ih =>
 intro t hm fu F tv v n w hk hv hn
 have IH:=fX ih
 have AQ:=hk
 rw [qy] at AQ
 obtain ⟨ta,tc,e,_,_,tY⟩:=zP AQ
 subst e
 have F9:=(zi fu).2
 have fM:=fX (zi fu).1
 have HA:=fX tY
 obtain ⟨W,hW⟩:=zzN (((w.alloc (.cells #[.slice ta t.args.length tc] 43)).alloc (.cells #[str [],.int .i64 0,.slice none 0 0,.slice none 0 0] 48)).alloc (.cells #[str [],.int .i64 (v:Nat),.slice none 0 0,.slice none 0 0] 48))
 have r_:W.heap.size=w.heap.size+3:=by rw [<- hW];simp only [zK]
 have fq:Below w.heap.size w W:=by rw [<- hW];exact (((fH _ _).alloc (fP _) _).alloc (by simp only [zK];omega) _).alloc (by simp only [zK];omega) _
 have bT:W.heap[w.heap.size]? = some (.cells #[.slice ta t.args.length tc] 43 (0,0)):=by rw [<- hW];exact zY (zY (zG _ _))
 have bR:z9 (w.heap.size+1) 0 (.slice none 0 0) (.slice none 0 0) W:=by
  unfold z9
  rw [<- hW];refine zY ?_
  have:=zG (w.alloc (.cells #[.slice ta t.args.length tc] 43)) (.cells #[str [],.int .i64 0,.slice none 0 0,.slice none 0 0] 48)
  rwa [zK] at this
 have bO:W.heap[w.heap.size+2]? = some (etaObj v (.slice none 0 0)):=by
  rw [<- hW]
  have:=zG ((w.alloc (.cells #[.slice ta t.args.length tc] 43)).alloc (.cells #[str [],.int .i64 0,.slice none 0 0,.slice none 0 0] 48)) (.cells #[str [],.int .i64 (v:Nat),.slice none 0 0,.slice none 0 0] 48)
  simp only [zK] at this
  exact this
 have HW:=fX (fW hW (fW r_ (fW fq (fW bT (fW bR bO)))))
 clear hW r_ fq bT bR bO tY hk AQ ih
 go_enter Tryz.func35,Tryz.ntmps35
 go_upto_region 2 with (fail)
 rw [HW.out.1]
 go_wp2_with fail
 go_loopw [8] (fun i wr=>∃ (k:Nat) (sv:Value) (us:List Value),k<=t.args.length/\i=.int .i64 k/\wS W (w.heap.size+2) (etaObj v) 48 4 k (zh (jp (t.args.take k) n (n+t.args.length))) sv us wr) (fun i _=>t.args.length-(intOf i).toNat)
 case atStart=>exact ⟨0,_,_,Nat.zero_le _,rfl,by simpa [jp,zh] using wS.start HW.out.2.2.2.2.2⟩
 case round =>
  rename_i wr
  obtain ⟨k,sv,us,hk,rfl,fL⟩:=hrel
  obtain ⟨sa,sc,e⟩:=fL.slice
  subst e
  have fE:z9 (w.heap.size+2) v (.slice sa k sc) (.slice none 0 0) wr:=fL.blk
  have r_:=HW.out.2.1
  have f_:Below w.heap.size w wr:=HW.out.2.2.1.trans (fL.below.mono (by omega))
  obtain ⟨y0,y1,y2,y3,ylt,yf⟩:=fE.cells
  have iF:wr.cell? ⟨w.heap.size,0,none⟩=some (.slice ta t.args.length tc):=by
   have:=(fL.below.block w.heap.size (by omega)).trans HW.out.2.2.2.1
   simp [World.cell?,this]
  have HI:=fX (fW fL (fW fE f_));clear fL fE f_
  by_cases fT:k<t.args.length
  ·have mT:(k:Int)<(t.args.length:Int):=by omega
   obtain ⟨lh,AB,u2,d2,e,C8,Iz,Ao,rx,mz⟩:=HA.out k fT
   subst e
   rw [vx,Option.map_eq_some_iff] at Ao
   obtain ⟨a,ha,rfl⟩:=Ao
   obtain ⟨ua,uc,rfl⟩:=kJ mz
   have lm:zV a<=15:=fM.out a (List.mem_of_getElem? ha)
   have lA:1+zV a<=zV t:=arg_atoms ha
   have q2:wr.cell? ⟨lh,AB+k,none⟩=some (.slice ua a.args.length uc):=(HI.out.2.2.cell Iz).trans rx
   have CC:=IH.out a (by omega) lm F (.slice ua a.args.length uc) (n+k) (n+t.args.length) wr.drew ((Rep.below HI.out.2.2 (fun _ h=>h) mz).drew) (by omega) (by omega)
   rw [Int.natCast_add,Int.natCast_add] at CC
   have CC:=fX CC
   have Ae:=etas_take ha n (n+t.args.length)
   have HK:=fX (fW ha Ae);clear ha mz Ae rx
   have E7:=fX (fW (show IntKind.i64.wrap ((n:Int)+(k:Int))=(n:Int)+(k:Int) from IntWalk.i64_in _ (by omega)) (show IntKind.i64.wrap ((n:Int)+(t.args.length:Int))=(n:Int)+(t.args.length:Int) from IntWalk.i64_in _ (by omega)))
   have SX:Hid (∀ w',But (fun i=>(Value.slice sa k sc).ownBlock=some i) wr w'->w'.cell? ⟨w.heap.size+2,2,none⟩=some (.slice sa k sc)/\w'.cell? ⟨w.heap.size,0,none⟩=some (.slice (some ⟨lh,AB,none⟩) t.args.length tc)/\w'.cell? ⟨lh,AB+k,none⟩=some (.slice ua a.args.length uc)):=by
    show ∀ w',_->_
    intro w' fx
    have key:∀ {p:Addr} {u:Value},p.block<w.heap.size+2->wr.cell? p=some u->w'.cell? p=some u:=fun hp hu=>(fx.cell (fG wr _ hu) (fun e=>by have h1:=HI.out.1.fr _ e;omega)).trans hu
    exact ⟨(fx.cell (fG wr _ y2) HI.out.1.not).trans y2,key (by show w.heap.size<_;omega) iF,key (by show lh<_;omega) q2⟩
   have tP:k+1<=maxLen:=by unfold maxLen;omega
   have nA:(k+1)*72<=140737488355328:=by omega
   clear y0 y1 y3 yf
   go_wp2_with fail
   refine wp_region_noPanic ?_
   refine zB (fun w'=>But (fun i=>(Value.slice sa k sc).ownBlock=some i) wr w') (fun i=>i == 19) (by kernel_rfl) ?_
   have fF:(fun w'=>But (fun i=>(Value.slice sa k sc).ownBlock=some i) wr w') wr.drew:=(But.refl _ wr).drew
   refine tk [0,1,2,3,4,5,6,7,8,9,10,11,12,13] fF ?_
   (intro d hd;simp [tkD] at hd;subst hd;simp only [tks,pQ,pZ,pS])
   iterate 14 (refine ⟨?_,?_,?_⟩;rotate_left;· (intro oi ho;simp at ho;subst ho;refine Or.inl ⟨by rfl,fun w' fI=>?_⟩;obtain ⟨e0,e1,e2⟩:=SX.out w' fI;have FF:=E7.out.1;go_simp;try with_reducible rfl))
   refine tk [14] fF ?_
   (intro d hd;simp [tkD] at hd;subst hd;simp only [tks,pQ,pZ,pS])
   (refine ⟨?_,?_,?_⟩;rotate_left;· (intro oi ho;simp at ho;subst ho;refine Or.inl ⟨by rfl,fun w' fI=>?_⟩;have FF:=E7.out.2;go_simp;try with_reducible rfl))
   (refine on 15 ?_;intro o ho K' hK;simp at ho;subst ho;go_simp)
   go_at_call 35
   (with_reducible refine CC.out.mono ?_)
   rintro Aw w6 ⟨s6,v6,b1,m1,d1,b2,m2,d2,rfl,fO,m_⟩
   have nQ:Below wr.heap.size wr w6:=(Below.drew (fH _ _)).trans fO
   have mU:Hid (But (fun i=>(Value.slice sa k sc).ownBlock=some i) wr w6):=But.ofBelow nQ
   have mK:=HI.out.1.own6 nQ (.cells #[str s6,.int .i64 v6,.slice b1 m1 d1,.slice b2 m2 d2] 48)
   have H6:=fX (fW nQ m_);clear fO m_ nQ
   (refine hK.out _ _ (fun _=>mU.out) ?_;clear hK K';try simp only [pQ,pN,pZ,pS])
   (refine on 16 ?_;intro o ho K' hK;simp at ho;subst ho;go_simp)
   (refine hK.out _ _ (fun _=>mU.out.alloc _) ?_;clear hK K';try simp only [pQ,pN,pZ,pS])
   (refine on 17 ?_;intro o ho K' hK;simp at ho;subst ho)
   refine zF (by rfl) _ _ _ (by rfl) 48 (.agg #[str [],.int .i64 0,.slice none 0 0,.slice none 0 0]) 4 72 Tryz.underlying46 Tryz.infoN rfl (by decide) (.slice sa k sc) k us (by rfl) mK _ 1 [str s6,.int .i64 v6,.slice b1 m1 d1,.slice b2 m2 d2] (by rfl) (zq.lit4 #[str s6,.int .i64 v6,.slice b1 m1 d1,.slice b2 m2 d2] rfl (by simp [str,Value.oneCell']) _ rfl) tP nA ?_
   intro a' c' w7 fm fS fw
   (refine hK.out _ _ (fun _=>(mU.out.alloc _).trans fS) ?_;clear hK K';try simp only [pQ,pN,pZ,pS])
   have mw:=HI.out.1.cell7 H6.out.1 fS
   have rJ:w7.cell? ⟨w.heap.size+2,2,none⟩=some (.slice sa k sc)/\w7.frozen? ⟨w.heap.size+2,2,none⟩=false:=by rw [etaObj] at mw;exact ⟨by simp [World.cell?,mw],by simp [World.frozen?,mw]⟩
   obtain ⟨ig,sJ⟩:=rJ
   have ii:=fX mw;clear mw
   (refine on 18 ?_;intro o ho K' hK;simp at ho;subst ho;go_simp)
   (refine hK.out _ _ (fun _=>(mU.out.alloc _).trans fS) ?_;clear hK K';try simp only [pQ,pN,pZ,pS])
   (refine on 19 ?_;intro o ho K' hK;simp at ho;subst ho;go_simp)
   (refine hK.out _ _ (fun h=>by simp at h) ?_;clear hK K';try simp only [pQ,pN,pZ,pS])
   refine zU (by kernel_rfl) (NoPanic.normal ?_) _
   have hX:=HI.out.1.next (w8:=w7.setCell ⟨w.heap.size+2,2,none⟩ (.slice a' (k+1) c')) H6.out.1 H6.out.2 fm fS fw (by rw [zy ii.out];rfl) (vf _ _ _ _)
   have nR:zh (jp (t.args.take k) n (n+t.args.length))++kR (eta a (n+k) (n+t.args.length))=zh (jp (t.args.take (k+1)) n (n+t.args.length)):=by rw [HK.out.2,qU];simp [zh]
   rw [nR] at hX
   have HN:=fX hX
   clear hX nR fm fS fw fF mK ig sJ
   go_wp2_with fail
   go_roundw
   case rel=>exact ⟨k+1,_,_,by omega,by go_num,HN.out⟩
   case measure=>simp [intOf];omega
  ·obtain rfl:k=t.args.length:=by omega
   have yf3:=yf 3
   clear y0 y1 y2 yf
   go_upto_region 7 with (fail)
   obtain ⟨Y,hY⟩:=zzN ((wr.setCell ⟨w.heap.size+1+1,3,none⟩ (.slice (some ⟨wr.heap.size,0,none⟩) 2 2)).alloc (.cells #[str [116],.int .i64 0,.slice none 0 0,.slice none 0 0,str [102],.int .i64 0,.slice none 0 0,.slice none 0 0] 48))
   have AC:(wr.setCell ⟨w.heap.size+1+1,3,none⟩ (.slice (some ⟨wr.heap.size,0,none⟩) 2 2)).heap.size=wr.heap.size:=by simp [World.setCell]
   have bN:z9 (w.heap.size+2) v (.slice sa t.args.length sc) (.slice (some ⟨wr.heap.size,0,none⟩) 2 2) Y:=by rw [<- hY];exact zY HI.out.2.1.put3
   have kY:∀ (i:Nat) (x:Obj),i≠w.heap.size+2->wr.heap[i]? = some x->Y.heap[i]? = some x:=fun i x hi hx=>by
    rw [<- hY];refine zY ?_
    rw [fB _ _ _ _ (by show i≠w.heap.size+1+1;omega)];exact hx
   have bR:z9 (w.heap.size+1) 0 (.slice none 0 0) (.slice none 0 0) Y:=kY _ _ (by omega) ((HI.out.1.below.block _ (by omega)).trans HW.out.2.2.2.2.1)
   have bY:Y.heap[wr.heap.size]? = some (.cells #[str [116],.int .i64 0,.slice none 0 0,.slice none 0 0,str [102],.int .i64 0,.slice none 0 0,.slice none 0 0] 48 (0,0)):=by
    rw [<- hY]
    have:=zG (wr.setCell ⟨w.heap.size+1+1,3,none⟩ (.slice (some ⟨wr.heap.size,0,none⟩) 2 2)) (.cells #[str [116],.int .i64 0,.slice none 0 0,.slice none 0 0,str [102],.int .i64 0,.slice none 0 0,.slice none 0 0] 48)
    rwa [AC] at this
   have A0:Below w.heap.size w Y:=by
    rw [<- hY]
    exact (HI.out.2.2.setCell (p:=⟨w.heap.size+1+1,3,none⟩) (by show w.heap.size<=w.heap.size+1+1;omega) _).alloc (by rw [AC];exact HI.out.2.2.size) _
   obtain ⟨n0,n1,n2,n3,nlt,_⟩:=bN.cells
   obtain ⟨r0,r1,r2,r3,rlt,rf⟩:=bR.cells
   have nJ:=rf 0;have nf:=rf 1;have rO:=rf 2;have tJ:=rf 3
   have nU:=HI.out.1.sl
   have hwrz:=zZ HI.out.2.1
   rw [List.take_length] at nU
   have HY:=fX (fW hY (fW bR (fW bY (fW A0 (fW kY nU)))))
   clear hY AC bN kY bR bY A0 nU rf yf3 ylt
   rw [HY.out.1]
   go_wp2_with fail
   obtain ⟨Z,hZ,s0,s1,s2,s3,AZ,Ak⟩:=HY.out.2.1.store (str []) (.int .i64 (v:Nat)) (.slice sa t.args.length sc) (.slice (some ⟨wr.heap.size,0,none⟩) 2 2)
   rw [<- hZ]
   refine bodyPost_ret (v:=.agg #[str [],.int .i64 (v:Nat),.slice sa t.args.length sc,.slice (some ⟨wr.heap.size,0,none⟩) 2 2]) (by simp [results,Tryz.results35,go_sem,s0,s1,s2,s3]) rfl ?_
   refine ⟨[],v,_,_,_,_,_,_,rfl,AZ _ _ HY.out.2.2.2.1 (by omega),?_⟩
   rw [eta_eq,yE,uN]
   refine zQ.2 ⟨_,_,rfl,zH.2 rfl,zQ.2 ⟨_,_,rfl,zH.2 rfl,zQ.2 ⟨_,_,rfl,?_,zQ.2 ⟨_,_,rfl,?_,zC.2 rfl⟩⟩⟩⟩
   ·exact (Rep.keep fun i x (hi:w.heap.size+2<i) hx=>⟨by show w.heap.size<=i;omega,Ak i x (by omega) (HY.out.2.2.2.2.1 i x (by omega) hx)⟩).1 _ _ HY.out.2.2.2.2.2
   ·refine zp.2 ⟨rfl,_,_,rfl,fP _,fun h=>by simp at h,.inr ⟨wr.heap.size,0,_,_,rfl,?_,Ak _ _ (by omega) HY.out.2.2.1,?_⟩⟩
    ·show w.heap.size<=wr.heap.size;omega
    ·have aX:Rep (fun i=>w.heap.size<=i) Z (.sl 48 4 0 []) (.slice none 0 0):=zp.2 ⟨rfl,none,0,rfl,fP _,fun _=>rfl,.inl rfl⟩
     simp only [zh,kR,List.append_nil,List.cons_append,List.nil_append]
     exact zQ.2 ⟨_,_,rfl,zH.2 rfl,zQ.2 ⟨_,_,rfl,zH.2 rfl,zQ.2 ⟨_,_,rfl,aX,zQ.2 ⟨_,_,rfl,aX,zQ.2 ⟨_,_,rfl,zH.2 rfl,zQ.2 ⟨_,_,rfl,zH.2 rfl,zQ.2 ⟨_,_,rfl,aX,zQ.2 ⟨_,_,rfl,aX,zC.2 rfl⟩⟩⟩⟩⟩⟩⟩⟩
def NdPost (F:Nat->Prop) (w:World) (b:Bd) (en:Ending) (w':World):Prop :=
 ∃ (s:Bs) (v:Int) (a1:Option Addr) (n1 c1:Nat) (a2:Option Addr) (n2 c2:Nat),en=.returned (.agg #[str s,.int .i64 v,.slice a1 n1 c1,.slice a2 n2 c2])/\Below w.heap.size w w'/\zX (fun i=>F i\/w.heap.size<=i) w' (kR b) [str s,.int .i64 v,.slice a1 n1 c1,.slice a2 n2 c2]
theorem pi {F:Nat->Prop} {w:World} {b:Bd} {s v k y:Value} (h:zX F w (kR b) [s,v,k,y]):∃ (i:Int) (a1:Option Addr) (c1:Nat) (a2:Option Addr) (c2:Nat),s=str (j_ b)/\v=.int .i64 i/\k=.slice a1 (qA b).length c1/\y=.slice a2 (jC b).length c2:=by
 obtain ⟨i,a1,c1,a2,c2,e,_,_⟩:=vM h
 simp only [List.cons.injEq,and_true] at e
 exact ⟨i,a1,c1,a2,c2,e.1,e.2.1,e.2.2.1,e.2.2.2⟩
theorem boxes4 (w:World) (A B C D:Obj):Below w.heap.size w ((((w.alloc A).alloc B).alloc C).alloc D)/\((((w.alloc A).alloc B).alloc C).alloc D).heap.size=w.heap.size+1+1+1+1/\((((w.alloc A).alloc B).alloc C).alloc D).heap[w.heap.size]? = some A/\((((w.alloc A).alloc B).alloc C).alloc D).heap[w.heap.size+1]? = some B/\((((w.alloc A).alloc B).alloc C).alloc D).heap[w.heap.size+1+1]? = some C/\((((w.alloc A).alloc B).alloc C).alloc D).heap[w.heap.size+1+1+1]? = some D:=by
 obtain ⟨h1,h2,h3,h4,h5⟩:=yT w A B C
 refine ⟨h1.alloc h1.size _,by rw [zK,h2],zY h3,zY h4,zY h5,?_⟩
 have h:=zG (((w.alloc A).alloc B).alloc C) D
 rwa [h2] at h
theorem node_enc {F:Nat->Prop} {w:World} {v:Nat} {ss:List Bd} {y n:Bd} {k ys:Value} (hk:Rep F w (.sl 48 4 ss.length (zh ss)) k) (hy:Rep F w (.sl 48 4 2 (kR y++(kR n++[]))) ys):zX F w (kR (.ask v ss y n)) [str [],.int .i64 (v:Nat),k,ys]:=by
 rw [kR]
 exact zQ.2 ⟨_,_,rfl,zH.2 rfl,zQ.2 ⟨_,_,rfl,zH.2 rfl,zQ.2 ⟨_,_,rfl,hk,zQ.2 ⟨_,_,rfl,hy,zC.2 rfl⟩⟩⟩⟩
def GrSaid (M:Nat):Prop:=∀ (F:Nat->Prop) (b y n:Bd) (b0 b1 b2 b3 y0 y1 y2 y3 n0 n1 n2 n3:Value) (w:World),zW b<=M->(∀ i,F i->i<w.heap.size)->wfB b->zX F w (kR b) [b0,b1,b2,b3]->zX F w (kR y) [y0,y1,y2,y3]->zX F w (kR n) [n0,n1,n2,n3] ->
 Calls Tryz.prog 42 #[.agg #[b0,b1,b2,b3],.agg #[y0,y1,y2,y3],.agg #[n0,n1,n2,n3]] w (NdPost F w (kz b y n))
set_option maxRecDepth 100000 in
theorem gr_step (M:Nat) (ih:GrSaid M):GrSaid (M+1):=by
 intro F b y n b0 b1 b2 b3 y0 y1 y2 y3 n0 n1 n2 n3 w f7 hF io hb hy hn
 obtain ⟨yi,Ew,Eu,Ev,Et,rfl,rfl,rfl,rfl⟩:=pi hy
 obtain ⟨ni,mm,mh,mM,mF,rfl,rfl,rfl,rfl⟩:=pi hn
 have el:=encN_lv hb
 subst el
 obtain ⟨_,n_,nz,rS,nO,rfl,eb,rfl,rfl⟩:=pi hb
 clear eb
 have HY:=fX hy;have HN:=fX hn
 cases b with
 | leaf c =>
   rw [wfB] at io
   have HB:Hid (zX F w (kR (.leaf c)) [str [c],.int .i64 (0:Nat),.slice n_ 0 nz,.slice rS 0 nO]):=hb
   clear hy hn hb ih
   obtain ⟨YK,Ho⟩:=zzM ((qA y).length)
   obtain ⟨YY,Hn⟩:=zzM ((jC y).length)
   obtain ⟨NK,Hs⟩:=zzM ((qA n).length)
   obtain ⟨NY,Hr⟩:=zzM ((jC n).length)
   obtain ⟨AY,Hw⟩:=zzM (j_ y)
   obtain ⟨AN,Hx⟩:=zzM (j_ n)
   rw [<- Ho,<- Hn,<- Hw] at HY ⊢
   rw [<- Hs,<- Hr,<- Hx] at HN ⊢
   clear Ho Hn Hs Hr Hw Hx
   rcases io with rfl | rfl | rfl
   ·show Calls Tryz.prog 42 #[.agg #[str [116],.int .i64 (0:Nat),.slice n_ 0 nz,.slice rS 0 nO],.agg #[str AY,.int .i64 yi,.slice Ew YK Eu,.slice Ev YY Et],.agg #[str AN,.int .i64 ni,.slice mm NK mh,.slice mM NY mF]] w _
    go_enter Tryz.func42,Tryz.ntmps42
    go_wp2_with fail
    refine bodyPost_ret (v:=.agg #[str AY,.int .i64 yi,.slice Ew YK Eu,.slice Ev YY Et]) (by simp [results,Tryz.results42,go_sem]) rfl ?_
    have hb:∀ (A B C D:Obj),Below w.heap.size w ((((w.alloc A).alloc B).alloc C).alloc D):=fun A B C D=>(boxes4 w A B C D).1
    refine ⟨_,_,_,_,_,_,_,_,rfl,hb _ _ _ _,?_⟩
    rw [kz]
    simp only [reduceIte,show (102:UInt8)≠116 from by decide,show (117:UInt8)≠116 from by decide,show (117:UInt8)≠102 from by decide]
    exact zX.below (hb _ _ _ _) (fun _ h=>.inl h) HY.out
   ·show Calls Tryz.prog 42 #[.agg #[str [102],.int .i64 (0:Nat),.slice n_ 0 nz,.slice rS 0 nO],.agg #[str AY,.int .i64 yi,.slice Ew YK Eu,.slice Ev YY Et],.agg #[str AN,.int .i64 ni,.slice mm NK mh,.slice mM NY mF]] w _
    go_enter Tryz.func42,Tryz.ntmps42
    go_wp2_with fail
    refine bodyPost_ret (v:=.agg #[str AN,.int .i64 ni,.slice mm NK mh,.slice mM NY mF]) (by simp [results,Tryz.results42,go_sem]) rfl ?_
    have hb:∀ (A B C D:Obj),Below w.heap.size w ((((w.alloc A).alloc B).alloc C).alloc D):=fun A B C D=>(boxes4 w A B C D).1
    refine ⟨_,_,_,_,_,_,_,_,rfl,hb _ _ _ _,?_⟩
    rw [kz]
    simp only [reduceIte,show (102:UInt8)≠116 from by decide,show (117:UInt8)≠116 from by decide,show (117:UInt8)≠102 from by decide]
    exact zX.below (hb _ _ _ _) (fun _ h=>.inl h) HN.out
   ·show Calls Tryz.prog 42 #[.agg #[str [117],.int .i64 (0:Nat),.slice n_ 0 nz,.slice rS 0 nO],.agg #[str AY,.int .i64 yi,.slice Ew YK Eu,.slice Ev YY Et],.agg #[str AN,.int .i64 ni,.slice mm NK mh,.slice mM NY mF]] w _
    go_enter Tryz.func42,Tryz.ntmps42
    go_wp2_with fail
    refine bodyPost_ret (v:=.agg #[str [117],.int .i64 (0:Nat),.slice n_ 0 nz,.slice rS 0 nO]) (by simp [results,Tryz.results42,go_sem]) rfl ?_
    have hb:∀ (A B C D:Obj),Below w.heap.size w ((((w.alloc A).alloc B).alloc C).alloc D):=fun A B C D=>(boxes4 w A B C D).1
    refine ⟨_,_,_,_,_,_,_,_,rfl,hb _ _ _ _,?_⟩
    rw [kz]
    simp only [reduceIte,show (102:UInt8)≠116 from by decide,show (117:UInt8)≠116 from by decide,show (117:UInt8)≠102 from by decide]
    exact zX.below (hb _ _ _ _) (fun _ h=>.inl h) HB.out
 | ask v ss ya na =>
   obtain ⟨_,_,_,_,_,e,hk,DJ⟩:=vM hb
   simp only [List.cons.injEq,and_true] at e
   obtain ⟨_,_,e1,e2⟩:=e
   rw [<- e1] at hk
   rw [<- e2] at DJ
   clear e1 e2
   obtain ⟨_,_,ek,aty⟩:=gQ.of DJ
   simp only [Value.slice.injEq,true_and] at ek
   rw [<- ek.1] at aty;clear ek
   change gQ F w [ya,na] rS at aty
   obtain ⟨pb,po,s0,v0,p2,m2,d2,p3,m3,d3,yt,ey,hpb,It,u0,u1,u2,u3,EL⟩:=aty 0 (by simp)
   obtain ⟨pb',po',s1,v1,p4,m4,d4,p5,m5,d5,nt,GH,_,aj,z0,z1,z2,z3,Ah⟩:=aty 1 (by simp)
   rw [ey] at GH
   simp only [Option.some.injEq,Addr.mk.injEq,and_true] at GH
   obtain ⟨rfl,rfl⟩:=GH
   simp only [List.getElem?_cons_zero,Option.some.injEq] at It
   simp only [List.getElem?_cons_succ,List.getElem?_cons_zero,Option.some.injEq] at aj
   subst It;subst aj;subst ey
   simp only [Nat.zero_mul,Nat.add_zero] at u0 u1 u2 u3
   simp only [Nat.one_mul,Nat.add_assoc,Nat.reduceAdd] at z0 z1 z2 z3
   rw [zW] at f7
   rw [wfB] at io
   have CY:=fX (fun wz (h:Below w.heap.size w wz)=>ih F ya y n _ _ _ _ _ _ _ _ _ _ _ _ wz (by omega) (fun i hi=>fC (hF i hi) h.size) io.2.1 (zX.below h (fun _ h=>h) EL) (zX.below h (fun _ h=>h) hy) (zX.below h (fun _ h=>h) hn))
   have CN:=fX (fun wz (h:Below w.heap.size w wz)=>ih F na y n _ _ _ _ _ _ _ _ _ _ _ _ wz (by omega) (fun i hi=>fC (hF i hi) h.size) io.2.2 (zX.below h (fun _ h=>h) Ah) (zX.below h (fun _ h=>h) hy) (zX.below h (fun _ h=>h) hn))
   have HK:Hid (Rep F w (.sl 48 4 ss.length (zh ss)) (.slice n_ ss.length nz)):=hk
   obtain ⟨YK,Ho⟩:=zzM ((qA y).length)
   obtain ⟨YY,Hn⟩:=zzM ((jC y).length)
   obtain ⟨NK,Hs⟩:=zzM ((qA n).length)
   obtain ⟨NY,Hr⟩:=zzM ((jC n).length)
   obtain ⟨AY,Hw⟩:=zzM (j_ y)
   obtain ⟨AN,Hx⟩:=zzM (j_ n)
   rw [<- Ho,<- Hn,<- Hw,<- Hs,<- Hr,<- Hx] at CY CN ⊢
   obtain ⟨W0,mQ⟩:=zzM ((((w.alloc (.cells #[str [],.int .i64 (v:Nat),.slice n_ ss.length nz,.slice (some ⟨pb,po,none⟩) 2 nO] 48)).alloc (.cells #[str AY,.int .i64 yi,.slice Ew YK Eu,.slice Ev YY Et] 48)).alloc (.cells #[str AN,.int .i64 ni,.slice mm NK mh,.slice mM NY mF] 48)).alloc (.cells #[str [],.int .i64 0,.slice none 0 0,.slice none 0 0] 48))
   obtain ⟨fd,Dj,bB,bY,bN,bR⟩:=boxes4 w (.cells #[str [],.int .i64 (v:Nat),.slice n_ ss.length nz,.slice (some ⟨pb,po,none⟩) 2 nO] 48) (.cells #[str AY,.int .i64 yi,.slice Ew YK Eu,.slice Ev YY Et] 48) (.cells #[str AN,.int .i64 ni,.slice mm NK mh,.slice mM NY mF] 48) (.cells #[str [],.int .i64 0,.slice none 0 0,.slice none 0 0] 48)
   rw [<- mQ] at fd Dj bB bY bN bR
   have SX:Hid (∀ w',Below W0.heap.size W0 w'->(w'.cell? ⟨w.heap.size,1,none⟩=some (.int .i64 (v:Nat))/\w'.cell? ⟨w.heap.size,2,none⟩=some (.slice n_ ss.length nz)/\w'.cell? ⟨w.heap.size,3,none⟩=some (.slice (some ⟨pb,po,none⟩) 2 nO)) /\
    (w'.cell? ⟨w.heap.size+1,0,none⟩=some (str AY)/\w'.cell? ⟨w.heap.size+1,1,none⟩=some (.int .i64 yi)/\w'.cell? ⟨w.heap.size+1,2,none⟩=some (.slice Ew YK Eu)/\w'.cell? ⟨w.heap.size+1,3,none⟩=some (.slice Ev YY Et)) /\
    (w'.cell? ⟨w.heap.size+1+1,0,none⟩=some (str AN)/\w'.cell? ⟨w.heap.size+1+1,1,none⟩=some (.int .i64 ni)/\w'.cell? ⟨w.heap.size+1+1,2,none⟩=some (.slice mm NK mh)/\w'.cell? ⟨w.heap.size+1+1,3,none⟩=some (.slice mM NY mF)) /\
    (w'.cell? ⟨pb,po,none⟩=some (str s0)/\w'.cell? ⟨pb,po+1,none⟩=some (.int .i64 v0)/\w'.cell? ⟨pb,po+2,none⟩=some (.slice p2 m2 d2)/\w'.cell? ⟨pb,po+3,none⟩=some (.slice p3 m3 d3)) /\
    (w'.cell? ⟨pb,po+4,none⟩=some (str s1)/\w'.cell? ⟨pb,po+5,none⟩=some (.int .i64 v1)/\w'.cell? ⟨pb,po+6,none⟩=some (.slice p4 m4 d4)/\w'.cell? ⟨pb,po+7,none⟩=some (.slice p5 m5 d5))):=by
    show ∀ w',_->_
    intro w' h
    have h0:=zzT fd h
    have kB:=(h.block _ (zZ bB)).trans bB
    have kY:=(h.block _ (zZ bY)).trans bY
    have kN:=(h.block _ (zZ bN)).trans bN
    have q:∀ {j:Nat} {u:Value},w.cell? ⟨pb,j,none⟩=some u->w'.cell? ⟨pb,j,none⟩=some u:=fun {j} {u} hu=>(h0.cell (p:=⟨pb,j,none⟩) hpb).trans hu
    exact ⟨⟨by simp [World.cell?,kB],by simp [World.cell?,kB],by simp [World.cell?,kB]⟩,⟨by simp [World.cell?,kY],by simp [World.cell?,kY],by simp [World.cell?,kY],by simp [World.cell?,kY]⟩,⟨by simp [World.cell?,kN],by simp [World.cell?,kN],by simp [World.cell?,kN],by simp [World.cell?,kN]⟩,⟨q u0,q u1,q u2,q u3⟩,q z0,q z1,q z2,q z3⟩
   have H0:=fX (fW fd (fW Dj bR))
   have HYN:=fX (fW Ho (fW Hn (fW Hs (fW Hr (fW Hw Hx)))))
   clear hk DJ aty EL Ah hy hn hb io ih u0 u1 u2 u3 z0 z1 z2 z3 fd Dj bB bY bN bR HY HN hpb Ho Hn Hs Hr Hw Hx
   show Calls Tryz.prog 42 #[.agg #[str [],.int .i64 (v:Nat),.slice n_ ss.length nz,.slice (some ⟨pb,po,none⟩) 2 nO],.agg #[str AY,.int .i64 yi,.slice Ew YK Eu,.slice Ev YY Et],.agg #[str AN,.int .i64 ni,.slice mm NK mh,.slice mM NY mF]] w _
   go_enter Tryz.func42,Tryz.ntmps42
   go_wp2_with fail
   rw [<- mQ]
   clear mQ
   refine wp_region_noPanic ?_
   refine zB (fun w'=>Below W0.heap.size W0 w') (fun i=>i == 20) (by kernel_rfl) ?_
   have fF:(fun w'=>Below W0.heap.size W0 w') W0.drew:=Below.drew (fH _ _)
   refine tk [0,1,2,3,4,5,6,7,8,9,11,12,13,14,15,16] fF ?_
   (intro d hd;simp [tkD] at hd;subst hd;simp only [tks,pQ,pZ,pS])
   iterate 16 (refine ⟨?_,?_,?_⟩;rotate_left;· (intro oi ho;simp at ho;subst ho;refine Or.inl ⟨by rfl,fun w' fI=>?_⟩;obtain ⟨⟨e1,e2,e3⟩,⟨f0,f1,f2,f3⟩,⟨g0,g1,g2,g3⟩,⟨u0,u1,u2,u3⟩,z0,z1,z2,z3⟩:=SX.out w' fI;go_simp;try with_reducible rfl))
   (refine on 10 ?_;intro o ho K' hK;simp at ho;subst ho;go_simp)
   go_at_call 42
   (with_reducible refine (CY.out _ (zzT H0.out.1 fF)).mono ?_)
   rintro en x1 ⟨Fq,Fp,Fw,Fr,Fu,Fv,Fs,Ft,rfl,fA,nZ⟩
   have fb:Hid (Below W0.heap.size W0 x1):=fF.trans fA
   have E_:Hid (zX (fun i=>F i\/W0.heap.size<=i) x1 (kR (kz ya y n)) [str Fq,.int .i64 Fp,.slice Fw Fr Fu,.slice Fv Fs Ft]):=(Rep.keep fun i x h hx=>⟨h.elim .inl (fun h=>.inr (h)),hx⟩).2 _ _ nZ
   have HBB1:=fX fA
   clear fA nZ
   (refine hK.out _ _ (fun _=>fb.out) ?_;clear hK K';try simp only [pQ,pN,pZ,pS])
   have GA:=fb.out
   (refine on 17 ?_;intro o ho K' hK;simp at ho;subst ho;go_simp)
   go_at_call 42
   (with_reducible refine (CN.out _ (zzT H0.out.1 fb.out)).mono ?_)
   rintro en x2 ⟨Fh,Fg,Fo,Fi,Fl,Fm,Fj,Fk,rfl,fN,nC⟩
   have ft:Hid (Below W0.heap.size W0 x2):=zzT fb.out fN
   have aT:Hid (zX (fun i=>F i\/W0.heap.size<=i) x2 (kR (kz na y n)) [str Fh,.int .i64 Fg,.slice Fo Fi Fl,.slice Fm Fj Fk]):=(Rep.keep fun i x h hx=>⟨h.elim .inl (fun h=>.inr (fD fb.out.size h)),hx⟩).2 _ _ nC
   have HBB2:=fX fN
   clear fN nC
   (refine hK.out _ _ (fun _=>ft.out) ?_;clear hK K';try simp only [pQ,pN,pZ,pS])
   have Ej:=ft.out
   (refine on 18 ?_;intro o ho K' hK;simp at ho;subst ho;go_simp)
   (refine hK.out _ _ (fun _=>ft.out.alloc ft.out.size (.cells #[str Fq,.int .i64 Fp,.slice Fw Fr Fu,.slice Fv Fs Ft,str Fh,.int .i64 Fg,.slice Fo Fi Fl,.slice Fm Fj Fk] 48)) ?_;clear hK K';try simp only [pQ,pN,pZ,pS])
   have A2:=ft.out.alloc ft.out.size (.cells #[str Fq,.int .i64 Fp,.slice Fw Fr Fu,.slice Fv Fs Ft,str Fh,.int .i64 Fg,.slice Fo Fi Fl,.slice Fm Fj Fk] 48)
   have bR2:(x2.alloc (.cells #[str Fq,.int .i64 Fp,.slice Fw Fr Fu,.slice Fv Fs Ft,str Fh,.int .i64 Fg,.slice Fo Fi Fl,.slice Fm Fj Fk] 48)).heap[w.heap.size+1+1+1]? = some (.cells #[str [],.int .i64 0,.slice none 0 0,.slice none 0 0] 48 (0,0)):=zY ((ft.out.block _ (zZ H0.out.2.2)).trans H0.out.2.2)
   obtain ⟨X,hX⟩:=zzN (x2.alloc (.cells #[str Fq,.int .i64 Fp,.slice Fw Fr Fu,.slice Fv Fs Ft,str Fh,.int .i64 Fg,.slice Fo Fi Fl,.slice Fm Fj Fk] 48))
   rw [hX] at bR2 A2 ⊢
   have NR:z9 (w.heap.size+1+1+1) 0 (.slice none 0 0) (.slice none 0 0) X:=bR2
   obtain ⟨k0,k1,k2,k3,_,kf⟩:=NR.cells
   have kf0:=kf 0;have Ip:=kf 1;have kf2:=kf 2;have kf3:=kf 3
   clear kf
   refine tk [19] A2 ?_
   (intro d hd;simp [tkD] at hd;subst hd;simp only [tks,pQ,pZ,pS])
   (refine ⟨?_,?_,?_⟩;rotate_left;· (intro oi ho;simp at ho;subst ho;refine Or.inl ⟨by rfl,fun w' fI=>?_⟩;go_simp;try with_reducible rfl))
   (refine on 20 ?_;intro o ho K' hK;simp at ho;subst ho;go_simp)
   (refine hK.out _ _ (fun h=>by simp at h) ?_;clear hK K';try simp only [pQ,pN,pZ,pS])
   refine zU (by kernel_rfl) (NoPanic.normal ?_) _
   go_wp2_with fail
   obtain ⟨Z,hZ,mC,mY,mB,mE,AZ,Ak⟩:=NR.store (str []) (.int .i64 (v:Nat)) (.slice n_ ss.length nz) (.slice (some ⟨x2.heap.size,0,none⟩) 2 2)
   rw [<- hZ]
   refine bodyPost_ret (v:=.agg #[str [],.int .i64 (v:Nat),.slice n_ ss.length nz,.slice (some ⟨x2.heap.size,0,none⟩) 2 2]) (by simp [results,Tryz.results42,go_sem,mC,mY,mB,mE]) rfl ?_
   have tm:Below W0.heap.size W0 X:=by rw [<- hX];exact ft.out.alloc ft.out.size _
   have f_:Below w.heap.size w X:=zzT H0.out.1 tm
   have nF:=ft.out.size
   have oK:=H0.out.2.1
   refine ⟨_,_,_,_,_,_,_,_,rfl,AZ _ _ f_ (by omega),?_⟩
   have kk:∀ i x,x2.heap[i]? = some x->i≠w.heap.size+1+1+1->Z.heap[i]? = some x:=fun i x hx hi=>Ak i x hi (by rw [<- hX];exact zY hx)
   rw [kz]
   have nb:Z.heap[x2.heap.size]? = some (.cells #[str Fq,.int .i64 Fp,.slice Fw Fr Fu,.slice Fv Fs Ft,str Fh,.int .i64 Fg,.slice Fo Fi Fl,.slice Fm Fj Fk] 48 (0,0)):=Ak _ _ (by omega) (by rw [<- hX];exact zG _ _)
   have kF:∀ i,(F i\/W0.heap.size<=i)->i≠w.heap.size+1+1+1:=fun i h=>by rcases h with h | h;have:=hF i h;omega;omega
   refine node_enc ?_ ?_
   ·exact (Rep.keep fun i x (h:F i) hx=>⟨.inl h,kk i x ((ft.out.block i (by have:=hF i h;omega)).trans ((H0.out.1.block i (zZ hx)).trans hx)) (kF i (.inl h))⟩).1 _ _ HK.out
   ·refine zp.2 ⟨by rw [List.append_nil,List.length_append,vK,vK],_,_,rfl,fP _,(fun h=>by simp at h),.inr ⟨_,0,_,_,rfl,.inr (by omega),nb,?_⟩⟩
    rw [List.append_nil]
    have g1:=zX.below (F':=fun i=>F i\/W0.heap.size<=i) HBB2.out (fun _ h=>h) E_.out
    exact zX.append (vs:=[str Fq,.int .i64 Fp,.slice Fw Fr Fu,.slice Fv Fs Ft]) (us:=[str Fh,.int .i64 Fg,.slice Fo Fi Fl,.slice Fm Fj Fk]) ((Rep.keep fun i x h hx=>⟨h.elim .inl (fun h=>.inr (by omega)),kk i x hx (kF i h)⟩).2 _ _ g1) ((Rep.keep fun i x h hx=>⟨h.elim .inl (fun h=>.inr (by omega)),kk i x hx (kF i h)⟩).2 _ _ aT.out)
theorem graft_any (M:Nat):GrSaid M:=by
 induction M with
 | zero=>exact fun F b y n b0 b1 b2 b3 y0 y1 y2 y3 n0 n1 n2 n3 w h=>by have:=kW b;omega
 | succ M ih=>exact gr_step M ih
theorem sh_enc (b:Bd) (n k:Nat):kR (zo b n k)=[.val (str (j_ b)),.val (.int .i64 ((if j_ b=[]/\n<=lvOf b then lvOf b+k else lvOf b:Nat):Int)),.sl 48 4 (qA b).length (zh (zg (qA b) n k)),.sl 48 4 (jC b).length (zh (zg (jC b) n k))]:=by
 cases b with
 | leaf c=>rw [zo,kR];simp [j_,lvOf,qA,jC,zg,zh]
 | ask v ss y no =>
   have hl:(zg ss n k).length=ss.length:=by rw [uE];simp
   rw [zo,kR,hl];simp [j_,lvOf,qA,jC,zg,zh]
theorem kids_part {b s:Bd} {M:Nat} (h:s∈qA b\/s∈jC b) (hs:zW b<=M+1) (hl:lvB b) (hM:zW b<=1000000):zW s<=M/\lvB s/\zW s<=1000000:=by
 cases b with
 | leaf c=>simp [qA,jC] at h
 | ask v ss y no =>
   rw [zW] at hs hM
   rw [lvB] at hl
   rcases h with h | h
   ·have h1:zW s<=zR ss:=vu h
    obtain ⟨j,hj⟩:=List.mem_iff_getElem?.1 h
    exact ⟨by omega,bD ss hl.2.1 j s hj,by omega⟩
   ·simp only [jC,List.mem_cons,List.not_mem_nil,or_false] at h
    rcases h with rfl | rfl
    ·exact ⟨by omega,hl.2.2.1,by omega⟩
    ·exact ⟨by omega,hl.2.2.2,by omega⟩
structure Keeps (W:World) (P:Nat) (sv:Value) (wr:World):Prop where
 keep:W.heap.size<=wr.heap.size/\∀ i x,i≠P->W.heap[i]? = some x->wr.heap[i]? = some x
 own:∀ g,sv.ownBlock=some g->W.heap.size<=g
theorem Keeps.next {W:World} {P:Nat} {sv sv':Value} {wr w6 w7 w8:World} {ob:Obj} (h:Keeps W P sv wr) (fO:Below wr.heap.size wr w6) (fS:But (fun b=>sv.ownBlock=some b) (w6.alloc ob) w7) (fw:∀ g,sv'.ownBlock=some g->sv.ownBlock=some g\/g=(w6.alloc ob).heap.size) (mJ:But (fun b=>b=P) w7 w8):Keeps W P sv' w8:=by
 have z1:=h.keep.1
 have z6:=fO.size
 have z7:=fS.size
 rw [zK] at z7
 refine ⟨⟨by have:=mJ.size;omega,fun i x hi hx=>?_⟩,fun g hg=>?_⟩
 ·have hl:=zZ hx
  have h1:=h.keep.2 i x hi hx
  have h6:w6.heap[i]? = some x:=by rw [fO.block i (zZ h1)];exact h1
  rw [mJ.block i (by omega) hi,fS.block i (by rw [zK];omega) (fun e=>by have:=h.own i e;omega)]
  exact zY h6
 ·rcases fw g hg with e | e
  ·exact h.own g e
  ·rw [zK] at e;omega
def ShSaid (M:Nat):Prop:=∀ (F:Nat->Prop) (b:Bd) (n k:Nat) (b0 b1 b2 b3:Value) (w:World),zW b<=M->(∀ i,F i->i<w.heap.size)->zW b<=1000000->lvB b->n<=10000->k<=10000->zX F w (kR b) [b0,b1,b2,b3] ->
 Calls Tryz.prog 43 #[.agg #[b0,b1,b2,b3],.int .i64 (n:Nat),.int .i64 (k:Nat)] w (NdPost F w (zo b n k))
set_option maxRecDepth 100000 in
theorem sh_step (M:Nat) (ih:ShSaid M):ShSaid (M+1):=by
 intro F b n k b0 b1 b2 b3 w hN hF hM ru hn hk hb
 have el:=encN_lv hb
 subst el
 obtain ⟨_,n_,nz,rS,nO,rfl,eb,rfl,rfl⟩:=pi hb
 clear eb
 obtain ⟨_,_,_,_,_,e,i6,DJ⟩:=vM hb
 simp only [List.cons.injEq,and_true] at e
 obtain ⟨_,_,e1,e2⟩:=e
 rw [<- e1] at i6
 rw [<- e2] at DJ
 clear e1 e2
 obtain ⟨_,_,ek,atk⟩:=gQ.of i6
 simp only [Value.slice.injEq,true_and] at ek
 rw [<- ek.1] at atk;clear ek
 obtain ⟨_,_,ek,aty⟩:=gQ.of DJ
 simp only [Value.slice.injEq,true_and] at ek
 rw [<- ek.1] at aty;clear ek
 have hlb:lvOf b<=10000:=by
  cases b with
  | leaf c=>simp [lvOf]
  | ask v ss y no=>rw [lvB] at ru;exact ru.1
 have aB:(qA b).length<=1000000/\(jC b).length<=2:=by
  cases b with
  | leaf c=>simp [qA,jC]
  | ask v ss y no=>rw [zW] at hM;have:=qB ss;simp [qA,jC];omega
 have HE:=fX (sh_enc b n k)
 have GP:=fX (fun (s:Bd) (h:s∈qA b\/s∈jC b)=>kids_part h hN ru hM)
 obtain ⟨R,hR⟩:=zzM (zo b n k)
 obtain ⟨KS,Kn⟩:=zzM (qA b)
 obtain ⟨YS,Ki⟩:=zzM (jC b)
 obtain ⟨A,hA⟩:=zzM (j_ b)
 obtain ⟨L,hL⟩:=zzM (lvOf b)
 rw [<- hR,<- Kn,<- Ki,<- hA,<- hL] at HE
 rw [<- Kn,<- Ki] at GP aB
 rw [<- Kn] at atk
 rw [<- Ki] at aty
 rw [<- hL] at hlb
 rw [<- hR,<- Kn,<- Ki,<- hA,<- hL]
 clear hb i6 DJ hR Kn Ki hA hL hN hM ru
 obtain ⟨Dx,AQ⟩:=aB
 have IH:=fX ih
 have AK:=fX atk
 have AY:=fX aty
 clear atk aty ih
 obtain ⟨W0,mQ⟩:=zzM (((w.alloc (.cells #[str A,.int .i64 (L:Nat),.slice n_ KS.length nz,.slice rS YS.length nO] 48)).alloc (.cells #[str [],.int .i64 0,.slice none 0 0,.slice none 0 0] 48)).alloc (.cells #[str A,.int .i64 (L:Nat),.slice none 0 0,.slice none 0 0] 48))
 obtain ⟨fd,Dj,bB,bR,bO⟩:=yT w (.cells #[str A,.int .i64 (L:Nat),.slice n_ KS.length nz,.slice rS YS.length nO] 48) (.cells #[str [],.int .i64 0,.slice none 0 0,.slice none 0 0] 48) (.cells #[str A,.int .i64 (L:Nat),.slice none 0 0,.slice none 0 0] 48)
 rw [<- mQ] at fd Dj bB bR bO
 have H0:=fX (fW fd (fW Dj (fW bB (fW bR bO))))
 clear fd Dj
 by_cases E3:A=[]
 ·subst E3
  by_cases hv:n<=L
  ·go_enter Tryz.func43,Tryz.ntmps43
   go_upto_region 2 with (fail)
   rw [<- mQ]
   clear mQ
   obtain ⟨o0,o1,o2,o3⟩:=kH bO
   obtain ⟨r0,r1,r2,r3⟩:=kH bB
   have of1:W0.frozen? ⟨w.heap.size+1+1,1,none⟩=false:=by simp only [World.frozen?,bO];rfl
   have hvI:(n:Int)<=(L:Int):=by omega
   have rM:IntKind.i64.wrap ((L:Int)+(k:Int))=(L:Int)+(k:Int):=IntWalk.i64_in _ (by omega)
   go_upto_region 4 with (fail)
   obtain ⟨W,hW⟩:=zzN (W0.setCell ⟨w.heap.size+1+1,1,none⟩ (.int .i64 ((L:Int)+(k:Int))))
   rw [hW]
   have hO:W.heap[w.heap.size+1+1]? = some (.cells #[str [],.int .i64 ((L+k:Nat):Int),.slice none 0 0,.slice none 0 0] 48 (0,0)):=by
    rw [<- hW]
    rw [zy H0.out.2.2.2.2,Int.natCast_add];rfl
   have lO:Below (w.heap.size+1+1) W0 W:=by rw [<- hW];exact (fH _ _).setCell (p:=⟨w.heap.size+1+1,1,none⟩) (fP _) _
   have Dj:=H0.out.2.1
   have r_:w.heap.size+1+1<W.heap.size:=by have:=lO.size;omega
   have r9:=fX (fW (H0.out.1.trans (lO.mono (by omega))) (fW ((lO.block _ (by omega)).trans H0.out.2.2.1) (fW ((lO.block _ (by omega)).trans H0.out.2.2.2.1) hO)))
   clear hW hO lO bB bR bO
   obtain ⟨_,_,In,Im⟩:=kH r9.out.2.1
   go_wp2_with fail
   go_loopw [8] (fun i wr=>∃ (j:Nat) (sv:Value) (us:List Value),j<=KS.length/\i=.int .i64 j/\jO F W (w.heap.size+1+1) (fun sv=>.cells #[str [],.int .i64 ((L+k:Nat):Int),sv,.slice none 0 0] 48 (0,0)) 48 4 j (zh (zg (KS.take j) n k)) sv us wr) (fun i _=>KS.length-(intOf i).toNat)
   case atStart=>exact ⟨0,_,_,Nat.zero_le _,rfl,by simpa [zg,zh] using jO.start (F0:=F) (o:=fun sv=>.cells #[str [],.int .i64 ((L+k:Nat):Int),sv,.slice none 0 0] 48 (0,0)) r9.out.2.2.2⟩
   case round =>
    rename_i wr
    obtain ⟨j,sv,us,hj,rfl,fL⟩:=hrel
    obtain ⟨ga,gc,e⟩:=fL.slice
    subst e
    have fE:wr.heap[w.heap.size+1+1]? = some (.cells #[str [],.int .i64 ((L+k:Nat):Int),.slice ga j gc,.slice none 0 0] 48 (0,0)):=fL.blk
    have f_:Below w.heap.size w wr:=r9.out.1.trans (fL.below.mono (by omega))
    obtain ⟨y0,y1,y2,y3⟩:=kH fE
    have aW:wr.heap[w.heap.size]? = some (.cells #[str [],.int .i64 (L:Nat),.slice n_ KS.length nz,.slice rS YS.length nO] 48 (0,0)):=(fL.below.block _ (by omega)).trans r9.out.2.1
    obtain ⟨_,_,m2,m3⟩:=kH aW
    have HI:=fX (fW fL (fW fE (fW f_ aW)));clear fL fE f_ aW
    by_cases fT:j<KS.length
    ·have mT:(j:Int)<(KS.length:Int):=by omega
     obtain ⟨kb,ko,s1,v1,p4,m4,d4,p5,m5,d5,s,ek,rZ,hs,z0,z1,z2,z3,rR⟩:=AK.out j fT
     subst ek
     have mx:s∈KS:=List.mem_of_getElem? hs
     obtain ⟨p1,p2,p3⟩:=GP.out s (.inl mx)
     have q0:=(HI.out.2.2.1.cell (p:=⟨kb,ko+j*4,none⟩) rZ).trans z0
     have q1:=(HI.out.2.2.1.cell (p:=⟨kb,ko+j*4+1,none⟩) rZ).trans z1
     have q2:=(HI.out.2.2.1.cell (p:=⟨kb,ko+j*4+2,none⟩) rZ).trans z2
     have q3:=(HI.out.2.2.1.cell (p:=⟨kb,ko+j*4+3,none⟩) rZ).trans z3
     have CC:=fX (IH.out F s n k _ _ _ _ wr.drew p1 (fun i hi=>fC (hF i hi) HI.out.2.2.1.size) p3 p2 hn hk (zX.below HI.out.2.2.1 (fun _ h=>h) rR).drew)
     have HK:=fX (jx hs n k)
     have SX:Hid (∀ w',But (fun i=>(Value.slice ga j gc).ownBlock=some i) wr w'->w'.cell? ⟨w.heap.size+1+1,2,none⟩=some (.slice ga j gc)/\w'.cell? ⟨w.heap.size,2,none⟩=some (.slice (some ⟨kb,ko,none⟩) KS.length nz)/\w'.cell? ⟨kb,ko+j*4,none⟩=some (str s1)/\w'.cell? ⟨kb,ko+j*4+1,none⟩=some (.int .i64 v1)/\w'.cell? ⟨kb,ko+j*4+2,none⟩=some (.slice p4 m4 d4)/\w'.cell? ⟨kb,ko+j*4+3,none⟩=some (.slice p5 m5 d5)):=by
      show ∀ w',_->_
      intro w' fx
      have key:∀ {p:Addr} {u:Value},p.block<w.heap.size+1+1->wr.cell? p=some u->w'.cell? p=some u:=fun hp hu=>(fx.cell (fG wr _ hu) (fun e=>by have h1:=HI.out.1.fr _ e;omega)).trans hu
      exact ⟨(fx.cell (fG wr _ y2) HI.out.1.not).trans y2,key (show w.heap.size<_ by omega) m2,key (show kb<_ by omega) q0,key (show kb<_ by omega) q1,key (show kb<_ by omega) q2,key (show kb<_ by omega) q3⟩
     have tP:j+1<=maxLen:=by unfold maxLen;omega
     have nA:(j+1)*72<=140737488355328:=by omega
     clear rR hs mx z0 z1 z2 z3 p1 p2 p3
     go_wp2_with fail
     refine wp_region_noPanic ?_
     refine zB (fun w'=>But (fun i=>(Value.slice ga j gc).ownBlock=some i) wr w') (fun i=>i == 13) (by kernel_rfl) ?_
     have fF:(fun w'=>But (fun i=>(Value.slice ga j gc).ownBlock=some i) wr w') wr.drew:=(But.refl _ wr).drew
     refine tk [0,1,2,3,4,5,6,7,8] fF ?_
     (intro d hd;simp [tkD] at hd;subst hd;simp only [tks,pQ,pZ,pS])
     iterate 9 (refine ⟨?_,?_,?_⟩;rotate_left;· (intro oi ho;simp at ho;subst ho;refine Or.inl ⟨by rfl,fun w' fI=>?_⟩;obtain ⟨e0,e1,e2,e3,e4,e5⟩:=SX.out w' fI;go_simp;try with_reducible rfl))
     (refine on 9 ?_;intro o ho K' hK;simp at ho;subst ho;go_simp)
     go_at_call 43
     (with_reducible refine CC.out.mono ?_)
     rintro Aw w6 ⟨s6,v6,f1,u1,d1,f2,u2,d2,rfl,fO,m_⟩
     have nQ:Below wr.heap.size wr w6:=(Below.drew (fH _ _)).trans fO
     have mU:Hid (But (fun i=>(Value.slice ga j gc).ownBlock=some i) wr w6):=But.ofBelow nQ
     have mK:=HI.out.1.own6 nQ (.cells #[str s6,.int .i64 v6,.slice f1 u1 d1,.slice f2 u2 d2] 48)
     have H6:=fX (fW nQ m_);clear fO m_ nQ
     (refine hK.out _ _ (fun _=>mU.out) ?_;clear hK K';try simp only [pQ,pN,pZ,pS])
     (refine on 10 ?_;intro o ho K' hK;simp at ho;subst ho;go_simp)
     (refine hK.out _ _ (fun _=>mU.out.alloc _) ?_;clear hK K';try simp only [pQ,pN,pZ,pS])
     (refine on 11 ?_;intro o ho K' hK;simp at ho;subst ho)
     refine zF (by rfl) _ _ _ (by rfl) 48 (.agg #[str [],.int .i64 0,.slice none 0 0,.slice none 0 0]) 4 72 Tryz.underlying46 Tryz.infoN rfl (by decide) (.slice ga j gc) j us (by rfl) mK _ 1 [str s6,.int .i64 v6,.slice f1 u1 d1,.slice f2 u2 d2] (by rfl) (zq.lit4 #[str s6,.int .i64 v6,.slice f1 u1 d1,.slice f2 u2 d2] rfl (by simp [str,Value.oneCell']) _ rfl) tP nA ?_
     intro a' c' w7 fm fS fw
     (refine hK.out _ _ (fun _=>(mU.out.alloc _).trans fS) ?_;clear hK K';try simp only [pQ,pN,pZ,pS])
     have mw:=HI.out.1.cell7 H6.out.1 fS
     have rJ:w7.cell? ⟨w.heap.size+1+1,2,none⟩=some (.slice ga j gc)/\w7.frozen? ⟨w.heap.size+1+1,2,none⟩=false:=⟨by simp [World.cell?,mw],by simp [World.frozen?,mw]⟩
     obtain ⟨ig,sJ⟩:=rJ
     have ii:=fX mw;clear mw
     (refine on 12 ?_;intro o ho K' hK;simp at ho;subst ho;go_simp)
     (refine hK.out _ _ (fun _=>(mU.out.alloc _).trans fS) ?_;clear hK K';try simp only [pQ,pN,pZ,pS])
     (refine on 13 ?_;intro o ho K' hK;simp at ho;subst ho;go_simp)
     (refine hK.out _ _ (fun h=>by simp at h) ?_;clear hK K';try simp only [pQ,pN,pZ,pS])
     refine zU (by kernel_rfl) (NoPanic.normal ?_) _
     have hX:=HI.out.1.next (fun i h=>by have:=hF i h;omega) (w8:=w7.setCell ⟨w.heap.size+1+1,2,none⟩ (.slice a' (j+1) c')) H6.out.1 H6.out.2 fm fS fw (by rw [zy ii.out];rfl) (vf _ _ _ _)
     have nR:zh (zg (KS.take j) n k)++kR (zo s n k)=zh (zg (KS.take (j+1)) n k):=by rw [HK.out,qU];simp [zh]
     rw [nR] at hX
     have HN:=fX hX
     clear hX nR fm fS fw fF mK ig sJ
     go_wp2_with fail
     go_roundw
     case rel=>exact ⟨j+1,_,_,by omega,by go_num,HN.out⟩
     case measure=>simp [intOf];omega
    ·obtain rfl:j=KS.length:=by omega
     have nU:=HI.out.1.sl
     rw [List.take_length] at nU
     have Fc:=fX nU
     have s_:=fX (fW HI.out.2.2.1 (fW HI.out.2.2.2 (fW ((HI.out.1.below.block _ (by omega)).trans r9.out.2.2.1) HI.out.2.1)))
     have oZ:w.heap.size+1+1<wr.heap.size:=zZ HI.out.2.1
     obtain ⟨V,hV⟩:=zzM (wr)
     rw [<- hV] at Fc s_ m2 m3 y2 y3 oZ ⊢
     clear nU y0 y1 HI hV In Im
     go_wp2_with fail
     go_loopw [9] (fun i wr=>∃ (j:Nat) (sv:Value) (us:List Value),j<=YS.length/\i=.int .i64 j/\jO F V (w.heap.size+1+1) (fun sv=>.cells #[str [],.int .i64 ((L+k:Nat):Int),.slice ga KS.length gc,sv] 48 (0,0)) 48 4 j (zh (zg (YS.take j) n k)) sv us wr/\Keeps V (w.heap.size+1+1) sv wr) (fun i _=>YS.length-(intOf i).toNat)
     case atStart=>exact ⟨0,_,_,Nat.zero_le _,rfl,by simpa [zg,zh] using jO.start (F0:=F) (o:=fun sv=>.cells #[str [],.int .i64 ((L+k:Nat):Int),.slice ga KS.length gc,sv] 48 (0,0)) s_.out.2.2.2,⟨⟨fP _,fun i x _ hx=>hx⟩,fun g hg=>by simp [Value.ownBlock] at hg⟩⟩
     case round =>
      rename_i wr
      clear m2 m3 y2 y3
      obtain ⟨j,sv,us,hj,rfl,fL,rC⟩:=hrel
      obtain ⟨ja,jc,e⟩:=fL.slice
      subst e
      have fE:wr.heap[w.heap.size+1+1]? = some (.cells #[str [],.int .i64 ((L+k:Nat):Int),.slice ga KS.length gc,.slice ja j jc] 48 (0,0)):=fL.blk
      have f_:Below w.heap.size w wr:=s_.out.1.trans (fL.below.mono (by omega))
      obtain ⟨y0,y1,y2,y3⟩:=kH fE
      have aW:wr.heap[w.heap.size]? = some (.cells #[str [],.int .i64 (L:Nat),.slice n_ KS.length nz,.slice rS YS.length nO] 48 (0,0)):=(fL.below.block _ (by omega)).trans s_.out.2.1
      obtain ⟨_,_,m2,m3⟩:=kH aW
      have HI:=fX (fW fL (fW fE (fW f_ aW)));clear fL fE f_ aW
      have Fb:=fX rC;clear rC
      by_cases fT:j<YS.length
      ·have mT:(j:Int)<(YS.length:Int):=by omega
       obtain ⟨kb,ko,s1,v1,p4,m4,d4,p5,m5,d5,s,ek,rZ,hs,z0,z1,z2,z3,rR⟩:=AY.out j fT
       subst ek
       have mx:s∈YS:=List.mem_of_getElem? hs
       obtain ⟨p1,p2,p3⟩:=GP.out s (.inr mx)
       have q0:=(HI.out.2.2.1.cell (p:=⟨kb,ko+j*4,none⟩) rZ).trans z0
       have q1:=(HI.out.2.2.1.cell (p:=⟨kb,ko+j*4+1,none⟩) rZ).trans z1
       have q2:=(HI.out.2.2.1.cell (p:=⟨kb,ko+j*4+2,none⟩) rZ).trans z2
       have q3:=(HI.out.2.2.1.cell (p:=⟨kb,ko+j*4+3,none⟩) rZ).trans z3
       have CC:=fX (IH.out F s n k _ _ _ _ wr.drew p1 (fun i hi=>fC (hF i hi) HI.out.2.2.1.size) p3 p2 hn hk (zX.below HI.out.2.2.1 (fun _ h=>h) rR).drew)
       have HK:=fX (jx hs n k)
       have SX:Hid (∀ w',But (fun i=>(Value.slice ja j jc).ownBlock=some i) wr w'->w'.cell? ⟨w.heap.size+1+1,3,none⟩=some (.slice ja j jc)/\w'.cell? ⟨w.heap.size,3,none⟩=some (.slice (some ⟨kb,ko,none⟩) YS.length nO)/\w'.cell? ⟨kb,ko+j*4,none⟩=some (str s1)/\w'.cell? ⟨kb,ko+j*4+1,none⟩=some (.int .i64 v1)/\w'.cell? ⟨kb,ko+j*4+2,none⟩=some (.slice p4 m4 d4)/\w'.cell? ⟨kb,ko+j*4+3,none⟩=some (.slice p5 m5 d5)):=by
        show ∀ w',_->_
        intro w' fx
        have key:∀ {p:Addr} {u:Value},p.block<w.heap.size+1+1->wr.cell? p=some u->w'.cell? p=some u:=fun hp hu=>(fx.cell (fG wr _ hu) (fun e=>by have h1:=HI.out.1.fr _ e;omega)).trans hu
        exact ⟨(fx.cell (fG wr _ y3) HI.out.1.not).trans y3,key (show w.heap.size<_ by omega) m3,key (show kb<_ by omega) q0,key (show kb<_ by omega) q1,key (show kb<_ by omega) q2,key (show kb<_ by omega) q3⟩
       have tP:j+1<=maxLen:=by unfold maxLen;omega
       have nA:(j+1)*72<=140737488355328:=by omega
       clear rR hs mx z0 z1 z2 z3 p1 p2 p3
       go_wp2_with fail
       refine wp_region_noPanic ?_
       refine zB (fun w'=>But (fun i=>(Value.slice ja j jc).ownBlock=some i) wr w') (fun i=>i == 13) (by kernel_rfl) ?_
       have fF:(fun w'=>But (fun i=>(Value.slice ja j jc).ownBlock=some i) wr w') wr.drew:=(But.refl _ wr).drew
       refine tk [0,1,2,3,4,5,6,7,8] fF ?_
       (intro d hd;simp [tkD] at hd;subst hd;simp only [tks,pQ,pZ,pS])
       iterate 9 (refine ⟨?_,?_,?_⟩;rotate_left;· (intro oi ho;simp at ho;subst ho;refine Or.inl ⟨by rfl,fun w' fI=>?_⟩;obtain ⟨e0,e1,e2,e3,e4,e5⟩:=SX.out w' fI;go_simp;try with_reducible rfl))
       (refine on 9 ?_;intro o ho K' hK;simp at ho;subst ho;go_simp)
       go_at_call 43
       (with_reducible refine CC.out.mono ?_)
       rintro Aw w6 ⟨s6,v6,f1,u1,d1,f2,u2,d2,rfl,fO,m_⟩
       have nQ:Below wr.heap.size wr w6:=(Below.drew (fH _ _)).trans fO
       have mU:Hid (But (fun i=>(Value.slice ja j jc).ownBlock=some i) wr w6):=But.ofBelow nQ
       have mK:=HI.out.1.own6 nQ (.cells #[str s6,.int .i64 v6,.slice f1 u1 d1,.slice f2 u2 d2] 48)
       have H6:=fX (fW nQ m_);clear fO m_ nQ
       (refine hK.out _ _ (fun _=>mU.out) ?_;clear hK K';try simp only [pQ,pN,pZ,pS])
       (refine on 10 ?_;intro o ho K' hK;simp at ho;subst ho;go_simp)
       (refine hK.out _ _ (fun _=>mU.out.alloc _) ?_;clear hK K';try simp only [pQ,pN,pZ,pS])
       (refine on 11 ?_;intro o ho K' hK;simp at ho;subst ho)
       refine zF (by rfl) _ _ _ (by rfl) 48 (.agg #[str [],.int .i64 0,.slice none 0 0,.slice none 0 0]) 4 72 Tryz.underlying46 Tryz.infoN rfl (by decide) (.slice ja j jc) j us (by rfl) mK _ 1 [str s6,.int .i64 v6,.slice f1 u1 d1,.slice f2 u2 d2] (by rfl) (zq.lit4 #[str s6,.int .i64 v6,.slice f1 u1 d1,.slice f2 u2 d2] rfl (by simp [str,Value.oneCell']) _ rfl) tP nA ?_
       intro a' c' w7 fm fS fw
       (refine hK.out _ _ (fun _=>(mU.out.alloc _).trans fS) ?_;clear hK K';try simp only [pQ,pN,pZ,pS])
       have mw:=HI.out.1.cell7 H6.out.1 fS
       have rJ:w7.cell? ⟨w.heap.size+1+1,3,none⟩=some (.slice ja j jc)/\w7.frozen? ⟨w.heap.size+1+1,3,none⟩=false:=⟨by simp [World.cell?,mw],by simp [World.frozen?,mw]⟩
       obtain ⟨ig,sJ⟩:=rJ
       have ii:=fX mw;clear mw
       (refine on 12 ?_;intro o ho K' hK;simp at ho;subst ho;go_simp)
       (refine hK.out _ _ (fun _=>(mU.out.alloc _).trans fS) ?_;clear hK K';try simp only [pQ,pN,pZ,pS])
       (refine on 13 ?_;intro o ho K' hK;simp at ho;subst ho;go_simp)
       (refine hK.out _ _ (fun h=>by simp at h) ?_;clear hK K';try simp only [pQ,pN,pZ,pS])
       refine zU (by kernel_rfl) (NoPanic.normal ?_) _
       have hX:=HI.out.1.next (fun i h=>by have:=hF i h;omega) (w8:=w7.setCell ⟨w.heap.size+1+1,3,none⟩ (.slice a' (j+1) c')) H6.out.1 H6.out.2 fm fS fw (by rw [zy ii.out];rfl) (vf _ _ _ _)
       have nR:zh (zg (YS.take j) n k)++kR (zo s n k)=zh (zg (YS.take (j+1)) n k):=by rw [HK.out,qU];simp [zh]
       rw [nR] at hX
       have HN:=fX hX
       have Dh:=fX (Fb.out.next (w8:=w7.setCell ⟨w.heap.size+1+1,3,none⟩ (.slice a' (j+1) c')) H6.out.1 fS fw (vf _ _ _ _))
       clear hX nR fm fS fw fF mK ig sJ
       go_wp2_with fail
       go_roundw
       case rel=>exact ⟨j+1,_,_,by omega,by go_num,HN.out,Dh.out⟩
       case measure=>simp [intOf];omega
      ·obtain rfl:j=YS.length:=by omega
       have NR:z9 (w.heap.size+1) 0 (.slice none 0 0) (.slice none 0 0) wr:=(HI.out.1.below.block _ (by omega)).trans s_.out.2.2.1
       obtain ⟨k0,k1,k2,k3,_,kf⟩:=NR.cells
       have kf0:=kf 0;have Ip:=kf 1;have kf2:=kf 2;have kf3:=kf 3
       clear kf
       go_wp2_with fail
       obtain ⟨Z,hZ,mC,mY,mB,mE,AZ,Ak⟩:=NR.store (str []) (.int .i64 ((L:Int)+(k:Int))) (.slice ga KS.length gc) (.slice ja YS.length jc)
       rw [<- hZ]
       refine bodyPost_ret (v:=.agg #[str [],.int .i64 ((L:Int)+(k:Int)),.slice ga KS.length gc,.slice ja YS.length jc]) (by simp [results,Tryz.results43,go_sem,mC,mY,mB,mE]) rfl ?_
       refine ⟨_,_,_,_,_,_,_,_,rfl,AZ _ _ HI.out.2.2.1 (by omega),?_⟩
       have nU:=HI.out.1.sl
       rw [List.take_length] at nU
       rw [HE.out,if_pos (by first | exact ⟨rfl,hv⟩ | exact ⟨trivial,hv⟩)]
       have hne:∀ i,(F i\/w.heap.size+1+1<i)->i≠w.heap.size+1:=fun i h=>by rcases h with h | h;have:=hF i h;omega;omega
       have hP:∀ i,(F i\/w.heap.size+1+1<i)->i≠w.heap.size+1+1:=fun i h=>by rcases h with h | h;have:=hF i h;omega;omega
       refine zQ.2 ⟨_,_,rfl,zH.2 rfl,zQ.2 ⟨_,_,rfl,zH.2 (by first | rfl | simp),zQ.2 ⟨_,_,rfl,?_,zQ.2 ⟨_,_,rfl,?_,zC.2 rfl⟩⟩⟩⟩
       ·exact (Rep.keep fun i x h hx=>⟨h.elim .inl (fun h=>.inr (by omega)),Ak i x (hne i h) (Fb.out.keep.2 i x (hP i h) hx)⟩).1 _ _ Fc.out
       ·exact (Rep.keep fun i x h hx=>⟨h.elim .inl (fun h=>.inr (by omega)),Ak i x (hne i h) hx⟩).1 _ _ nU
  ·go_enter Tryz.func43,Tryz.ntmps43
   go_upto_region 2 with (fail)
   rw [<- mQ]
   clear mQ
   obtain ⟨o0,o1,o2,o3⟩:=kH bO
   obtain ⟨r0,r1,r2,r3⟩:=kH bB
   have of1:W0.frozen? ⟨w.heap.size+1+1,1,none⟩=false:=by simp only [World.frozen?,bO];rfl
   have hvI:¬ (n:Int)<=(L:Int):=by omega
   go_upto_region 4 with (fail)
   obtain ⟨W,hW⟩:=zzN (W0)
   rw [hW]
   have hO:W.heap[w.heap.size+1+1]? = some (.cells #[str [],.int .i64 ((L:Nat):Int),.slice none 0 0,.slice none 0 0] 48 (0,0)):=by
    rw [<- hW]
    exact H0.out.2.2.2.2
   have lO:Below (w.heap.size+1+1) W0 W:=by rw [<- hW];exact fH _ _
   have Dj:=H0.out.2.1
   have r_:w.heap.size+1+1<W.heap.size:=by have:=lO.size;omega
   have r9:=fX (fW (H0.out.1.trans (lO.mono (by omega))) (fW ((lO.block _ (by omega)).trans H0.out.2.2.1) (fW ((lO.block _ (by omega)).trans H0.out.2.2.2.1) hO)))
   clear hW hO lO bB bR bO
   obtain ⟨_,_,In,Im⟩:=kH r9.out.2.1
   go_wp2_with fail
   go_loopw [8] (fun i wr=>∃ (j:Nat) (sv:Value) (us:List Value),j<=KS.length/\i=.int .i64 j/\jO F W (w.heap.size+1+1) (fun sv=>.cells #[str [],.int .i64 ((L:Nat):Int),sv,.slice none 0 0] 48 (0,0)) 48 4 j (zh (zg (KS.take j) n k)) sv us wr) (fun i _=>KS.length-(intOf i).toNat)
   case atStart=>exact ⟨0,_,_,Nat.zero_le _,rfl,by simpa [zg,zh] using jO.start (F0:=F) (o:=fun sv=>.cells #[str [],.int .i64 ((L:Nat):Int),sv,.slice none 0 0] 48 (0,0)) r9.out.2.2.2⟩
   case round =>
    rename_i wr
    obtain ⟨j,sv,us,hj,rfl,fL⟩:=hrel
    obtain ⟨ga,gc,e⟩:=fL.slice
    subst e
    have fE:wr.heap[w.heap.size+1+1]? = some (.cells #[str [],.int .i64 ((L:Nat):Int),.slice ga j gc,.slice none 0 0] 48 (0,0)):=fL.blk
    have f_:Below w.heap.size w wr:=r9.out.1.trans (fL.below.mono (by omega))
    obtain ⟨y0,y1,y2,y3⟩:=kH fE
    have aW:wr.heap[w.heap.size]? = some (.cells #[str [],.int .i64 (L:Nat),.slice n_ KS.length nz,.slice rS YS.length nO] 48 (0,0)):=(fL.below.block _ (by omega)).trans r9.out.2.1
    obtain ⟨_,_,m2,m3⟩:=kH aW
    have HI:=fX (fW fL (fW fE (fW f_ aW)));clear fL fE f_ aW
    by_cases fT:j<KS.length
    ·have mT:(j:Int)<(KS.length:Int):=by omega
     obtain ⟨kb,ko,s1,v1,p4,m4,d4,p5,m5,d5,s,ek,rZ,hs,z0,z1,z2,z3,rR⟩:=AK.out j fT
     subst ek
     have mx:s∈KS:=List.mem_of_getElem? hs
     obtain ⟨p1,p2,p3⟩:=GP.out s (.inl mx)
     have q0:=(HI.out.2.2.1.cell (p:=⟨kb,ko+j*4,none⟩) rZ).trans z0
     have q1:=(HI.out.2.2.1.cell (p:=⟨kb,ko+j*4+1,none⟩) rZ).trans z1
     have q2:=(HI.out.2.2.1.cell (p:=⟨kb,ko+j*4+2,none⟩) rZ).trans z2
     have q3:=(HI.out.2.2.1.cell (p:=⟨kb,ko+j*4+3,none⟩) rZ).trans z3
     have CC:=fX (IH.out F s n k _ _ _ _ wr.drew p1 (fun i hi=>fC (hF i hi) HI.out.2.2.1.size) p3 p2 hn hk (zX.below HI.out.2.2.1 (fun _ h=>h) rR).drew)
     have HK:=fX (jx hs n k)
     have SX:Hid (∀ w',But (fun i=>(Value.slice ga j gc).ownBlock=some i) wr w'->w'.cell? ⟨w.heap.size+1+1,2,none⟩=some (.slice ga j gc)/\w'.cell? ⟨w.heap.size,2,none⟩=some (.slice (some ⟨kb,ko,none⟩) KS.length nz)/\w'.cell? ⟨kb,ko+j*4,none⟩=some (str s1)/\w'.cell? ⟨kb,ko+j*4+1,none⟩=some (.int .i64 v1)/\w'.cell? ⟨kb,ko+j*4+2,none⟩=some (.slice p4 m4 d4)/\w'.cell? ⟨kb,ko+j*4+3,none⟩=some (.slice p5 m5 d5)):=by
      show ∀ w',_->_
      intro w' fx
      have key:∀ {p:Addr} {u:Value},p.block<w.heap.size+1+1->wr.cell? p=some u->w'.cell? p=some u:=fun hp hu=>(fx.cell (fG wr _ hu) (fun e=>by have h1:=HI.out.1.fr _ e;omega)).trans hu
      exact ⟨(fx.cell (fG wr _ y2) HI.out.1.not).trans y2,key (show w.heap.size<_ by omega) m2,key (show kb<_ by omega) q0,key (show kb<_ by omega) q1,key (show kb<_ by omega) q2,key (show kb<_ by omega) q3⟩
     have tP:j+1<=maxLen:=by unfold maxLen;omega
     have nA:(j+1)*72<=140737488355328:=by omega
     clear rR hs mx z0 z1 z2 z3 p1 p2 p3
     go_wp2_with fail
     refine wp_region_noPanic ?_
     refine zB (fun w'=>But (fun i=>(Value.slice ga j gc).ownBlock=some i) wr w') (fun i=>i == 13) (by kernel_rfl) ?_
     have fF:(fun w'=>But (fun i=>(Value.slice ga j gc).ownBlock=some i) wr w') wr.drew:=(But.refl _ wr).drew
     refine tk [0,1,2,3,4,5,6,7,8] fF ?_
     (intro d hd;simp [tkD] at hd;subst hd;simp only [tks,pQ,pZ,pS])
     iterate 9 (refine ⟨?_,?_,?_⟩;rotate_left;· (intro oi ho;simp at ho;subst ho;refine Or.inl ⟨by rfl,fun w' fI=>?_⟩;obtain ⟨e0,e1,e2,e3,e4,e5⟩:=SX.out w' fI;go_simp;try with_reducible rfl))
     (refine on 9 ?_;intro o ho K' hK;simp at ho;subst ho;go_simp)
     go_at_call 43
     (with_reducible refine CC.out.mono ?_)
     rintro Aw w6 ⟨s6,v6,f1,u1,d1,f2,u2,d2,rfl,fO,m_⟩
     have nQ:Below wr.heap.size wr w6:=(Below.drew (fH _ _)).trans fO
     have mU:Hid (But (fun i=>(Value.slice ga j gc).ownBlock=some i) wr w6):=But.ofBelow nQ
     have mK:=HI.out.1.own6 nQ (.cells #[str s6,.int .i64 v6,.slice f1 u1 d1,.slice f2 u2 d2] 48)
     have H6:=fX (fW nQ m_);clear fO m_ nQ
     (refine hK.out _ _ (fun _=>mU.out) ?_;clear hK K';try simp only [pQ,pN,pZ,pS])
     (refine on 10 ?_;intro o ho K' hK;simp at ho;subst ho;go_simp)
     (refine hK.out _ _ (fun _=>mU.out.alloc _) ?_;clear hK K';try simp only [pQ,pN,pZ,pS])
     (refine on 11 ?_;intro o ho K' hK;simp at ho;subst ho)
     refine zF (by rfl) _ _ _ (by rfl) 48 (.agg #[str [],.int .i64 0,.slice none 0 0,.slice none 0 0]) 4 72 Tryz.underlying46 Tryz.infoN rfl (by decide) (.slice ga j gc) j us (by rfl) mK _ 1 [str s6,.int .i64 v6,.slice f1 u1 d1,.slice f2 u2 d2] (by rfl) (zq.lit4 #[str s6,.int .i64 v6,.slice f1 u1 d1,.slice f2 u2 d2] rfl (by simp [str,Value.oneCell']) _ rfl) tP nA ?_
     intro a' c' w7 fm fS fw
     (refine hK.out _ _ (fun _=>(mU.out.alloc _).trans fS) ?_;clear hK K';try simp only [pQ,pN,pZ,pS])
     have mw:=HI.out.1.cell7 H6.out.1 fS
     have rJ:w7.cell? ⟨w.heap.size+1+1,2,none⟩=some (.slice ga j gc)/\w7.frozen? ⟨w.heap.size+1+1,2,none⟩=false:=⟨by simp [World.cell?,mw],by simp [World.frozen?,mw]⟩
     obtain ⟨ig,sJ⟩:=rJ
     have ii:=fX mw;clear mw
     (refine on 12 ?_;intro o ho K' hK;simp at ho;subst ho;go_simp)
     (refine hK.out _ _ (fun _=>(mU.out.alloc _).trans fS) ?_;clear hK K';try simp only [pQ,pN,pZ,pS])
     (refine on 13 ?_;intro o ho K' hK;simp at ho;subst ho;go_simp)
     (refine hK.out _ _ (fun h=>by simp at h) ?_;clear hK K';try simp only [pQ,pN,pZ,pS])
     refine zU (by kernel_rfl) (NoPanic.normal ?_) _
     have hX:=HI.out.1.next (fun i h=>by have:=hF i h;omega) (w8:=w7.setCell ⟨w.heap.size+1+1,2,none⟩ (.slice a' (j+1) c')) H6.out.1 H6.out.2 fm fS fw (by rw [zy ii.out];rfl) (vf _ _ _ _)
     have nR:zh (zg (KS.take j) n k)++kR (zo s n k)=zh (zg (KS.take (j+1)) n k):=by rw [HK.out,qU];simp [zh]
     rw [nR] at hX
     have HN:=fX hX
     clear hX nR fm fS fw fF mK ig sJ
     go_wp2_with fail
     go_roundw
     case rel=>exact ⟨j+1,_,_,by omega,by go_num,HN.out⟩
     case measure=>simp [intOf];omega
    ·obtain rfl:j=KS.length:=by omega
     have nU:=HI.out.1.sl
     rw [List.take_length] at nU
     have Fc:=fX nU
     have s_:=fX (fW HI.out.2.2.1 (fW HI.out.2.2.2 (fW ((HI.out.1.below.block _ (by omega)).trans r9.out.2.2.1) HI.out.2.1)))
     have oZ:w.heap.size+1+1<wr.heap.size:=zZ HI.out.2.1
     obtain ⟨V,hV⟩:=zzM (wr)
     rw [<- hV] at Fc s_ m2 m3 y2 y3 oZ ⊢
     clear nU y0 y1 HI hV In Im
     go_wp2_with fail
     go_loopw [9] (fun i wr=>∃ (j:Nat) (sv:Value) (us:List Value),j<=YS.length/\i=.int .i64 j/\jO F V (w.heap.size+1+1) (fun sv=>.cells #[str [],.int .i64 ((L:Nat):Int),.slice ga KS.length gc,sv] 48 (0,0)) 48 4 j (zh (zg (YS.take j) n k)) sv us wr/\Keeps V (w.heap.size+1+1) sv wr) (fun i _=>YS.length-(intOf i).toNat)
     case atStart=>exact ⟨0,_,_,Nat.zero_le _,rfl,by simpa [zg,zh] using jO.start (F0:=F) (o:=fun sv=>.cells #[str [],.int .i64 ((L:Nat):Int),.slice ga KS.length gc,sv] 48 (0,0)) s_.out.2.2.2,⟨⟨fP _,fun i x _ hx=>hx⟩,fun g hg=>by simp [Value.ownBlock] at hg⟩⟩
     case round =>
      rename_i wr
      clear m2 m3 y2 y3
      obtain ⟨j,sv,us,hj,rfl,fL,rC⟩:=hrel
      obtain ⟨ja,jc,e⟩:=fL.slice
      subst e
      have fE:wr.heap[w.heap.size+1+1]? = some (.cells #[str [],.int .i64 ((L:Nat):Int),.slice ga KS.length gc,.slice ja j jc] 48 (0,0)):=fL.blk
      have f_:Below w.heap.size w wr:=s_.out.1.trans (fL.below.mono (by omega))
      obtain ⟨y0,y1,y2,y3⟩:=kH fE
      have aW:wr.heap[w.heap.size]? = some (.cells #[str [],.int .i64 (L:Nat),.slice n_ KS.length nz,.slice rS YS.length nO] 48 (0,0)):=(fL.below.block _ (by omega)).trans s_.out.2.1
      obtain ⟨_,_,m2,m3⟩:=kH aW
      have HI:=fX (fW fL (fW fE (fW f_ aW)));clear fL fE f_ aW
      have Fb:=fX rC;clear rC
      by_cases fT:j<YS.length
      ·have mT:(j:Int)<(YS.length:Int):=by omega
       obtain ⟨kb,ko,s1,v1,p4,m4,d4,p5,m5,d5,s,ek,rZ,hs,z0,z1,z2,z3,rR⟩:=AY.out j fT
       subst ek
       have mx:s∈YS:=List.mem_of_getElem? hs
       obtain ⟨p1,p2,p3⟩:=GP.out s (.inr mx)
       have q0:=(HI.out.2.2.1.cell (p:=⟨kb,ko+j*4,none⟩) rZ).trans z0
       have q1:=(HI.out.2.2.1.cell (p:=⟨kb,ko+j*4+1,none⟩) rZ).trans z1
       have q2:=(HI.out.2.2.1.cell (p:=⟨kb,ko+j*4+2,none⟩) rZ).trans z2
       have q3:=(HI.out.2.2.1.cell (p:=⟨kb,ko+j*4+3,none⟩) rZ).trans z3
       have CC:=fX (IH.out F s n k _ _ _ _ wr.drew p1 (fun i hi=>fC (hF i hi) HI.out.2.2.1.size) p3 p2 hn hk (zX.below HI.out.2.2.1 (fun _ h=>h) rR).drew)
       have HK:=fX (jx hs n k)
       have SX:Hid (∀ w',But (fun i=>(Value.slice ja j jc).ownBlock=some i) wr w'->w'.cell? ⟨w.heap.size+1+1,3,none⟩=some (.slice ja j jc)/\w'.cell? ⟨w.heap.size,3,none⟩=some (.slice (some ⟨kb,ko,none⟩) YS.length nO)/\w'.cell? ⟨kb,ko+j*4,none⟩=some (str s1)/\w'.cell? ⟨kb,ko+j*4+1,none⟩=some (.int .i64 v1)/\w'.cell? ⟨kb,ko+j*4+2,none⟩=some (.slice p4 m4 d4)/\w'.cell? ⟨kb,ko+j*4+3,none⟩=some (.slice p5 m5 d5)):=by
        show ∀ w',_->_
        intro w' fx
        have key:∀ {p:Addr} {u:Value},p.block<w.heap.size+1+1->wr.cell? p=some u->w'.cell? p=some u:=fun hp hu=>(fx.cell (fG wr _ hu) (fun e=>by have h1:=HI.out.1.fr _ e;omega)).trans hu
        exact ⟨(fx.cell (fG wr _ y3) HI.out.1.not).trans y3,key (show w.heap.size<_ by omega) m3,key (show kb<_ by omega) q0,key (show kb<_ by omega) q1,key (show kb<_ by omega) q2,key (show kb<_ by omega) q3⟩
       have tP:j+1<=maxLen:=by unfold maxLen;omega
       have nA:(j+1)*72<=140737488355328:=by omega
       clear rR hs mx z0 z1 z2 z3 p1 p2 p3
       go_wp2_with fail
       refine wp_region_noPanic ?_
       refine zB (fun w'=>But (fun i=>(Value.slice ja j jc).ownBlock=some i) wr w') (fun i=>i == 13) (by kernel_rfl) ?_
       have fF:(fun w'=>But (fun i=>(Value.slice ja j jc).ownBlock=some i) wr w') wr.drew:=(But.refl _ wr).drew
       refine tk [0,1,2,3,4,5,6,7,8] fF ?_
       (intro d hd;simp [tkD] at hd;subst hd;simp only [tks,pQ,pZ,pS])
       iterate 9 (refine ⟨?_,?_,?_⟩;rotate_left;· (intro oi ho;simp at ho;subst ho;refine Or.inl ⟨by rfl,fun w' fI=>?_⟩;obtain ⟨e0,e1,e2,e3,e4,e5⟩:=SX.out w' fI;go_simp;try with_reducible rfl))
       (refine on 9 ?_;intro o ho K' hK;simp at ho;subst ho;go_simp)
       go_at_call 43
       (with_reducible refine CC.out.mono ?_)
       rintro Aw w6 ⟨s6,v6,f1,u1,d1,f2,u2,d2,rfl,fO,m_⟩
       have nQ:Below wr.heap.size wr w6:=(Below.drew (fH _ _)).trans fO
       have mU:Hid (But (fun i=>(Value.slice ja j jc).ownBlock=some i) wr w6):=But.ofBelow nQ
       have mK:=HI.out.1.own6 nQ (.cells #[str s6,.int .i64 v6,.slice f1 u1 d1,.slice f2 u2 d2] 48)
       have H6:=fX (fW nQ m_);clear fO m_ nQ
       (refine hK.out _ _ (fun _=>mU.out) ?_;clear hK K';try simp only [pQ,pN,pZ,pS])
       (refine on 10 ?_;intro o ho K' hK;simp at ho;subst ho;go_simp)
       (refine hK.out _ _ (fun _=>mU.out.alloc _) ?_;clear hK K';try simp only [pQ,pN,pZ,pS])
       (refine on 11 ?_;intro o ho K' hK;simp at ho;subst ho)
       refine zF (by rfl) _ _ _ (by rfl) 48 (.agg #[str [],.int .i64 0,.slice none 0 0,.slice none 0 0]) 4 72 Tryz.underlying46 Tryz.infoN rfl (by decide) (.slice ja j jc) j us (by rfl) mK _ 1 [str s6,.int .i64 v6,.slice f1 u1 d1,.slice f2 u2 d2] (by rfl) (zq.lit4 #[str s6,.int .i64 v6,.slice f1 u1 d1,.slice f2 u2 d2] rfl (by simp [str,Value.oneCell']) _ rfl) tP nA ?_
       intro a' c' w7 fm fS fw
       (refine hK.out _ _ (fun _=>(mU.out.alloc _).trans fS) ?_;clear hK K';try simp only [pQ,pN,pZ,pS])
       have mw:=HI.out.1.cell7 H6.out.1 fS
       have rJ:w7.cell? ⟨w.heap.size+1+1,3,none⟩=some (.slice ja j jc)/\w7.frozen? ⟨w.heap.size+1+1,3,none⟩=false:=⟨by simp [World.cell?,mw],by simp [World.frozen?,mw]⟩
       obtain ⟨ig,sJ⟩:=rJ
       have ii:=fX mw;clear mw
       (refine on 12 ?_;intro o ho K' hK;simp at ho;subst ho;go_simp)
       (refine hK.out _ _ (fun _=>(mU.out.alloc _).trans fS) ?_;clear hK K';try simp only [pQ,pN,pZ,pS])
       (refine on 13 ?_;intro o ho K' hK;simp at ho;subst ho;go_simp)
       (refine hK.out _ _ (fun h=>by simp at h) ?_;clear hK K';try simp only [pQ,pN,pZ,pS])
       refine zU (by kernel_rfl) (NoPanic.normal ?_) _
       have hX:=HI.out.1.next (fun i h=>by have:=hF i h;omega) (w8:=w7.setCell ⟨w.heap.size+1+1,3,none⟩ (.slice a' (j+1) c')) H6.out.1 H6.out.2 fm fS fw (by rw [zy ii.out];rfl) (vf _ _ _ _)
       have nR:zh (zg (YS.take j) n k)++kR (zo s n k)=zh (zg (YS.take (j+1)) n k):=by rw [HK.out,qU];simp [zh]
       rw [nR] at hX
       have HN:=fX hX
       have Dh:=fX (Fb.out.next (w8:=w7.setCell ⟨w.heap.size+1+1,3,none⟩ (.slice a' (j+1) c')) H6.out.1 fS fw (vf _ _ _ _))
       clear hX nR fm fS fw fF mK ig sJ
       go_wp2_with fail
       go_roundw
       case rel=>exact ⟨j+1,_,_,by omega,by go_num,HN.out,Dh.out⟩
       case measure=>simp [intOf];omega
      ·obtain rfl:j=YS.length:=by omega
       have NR:z9 (w.heap.size+1) 0 (.slice none 0 0) (.slice none 0 0) wr:=(HI.out.1.below.block _ (by omega)).trans s_.out.2.2.1
       obtain ⟨k0,k1,k2,k3,_,kf⟩:=NR.cells
       have kf0:=kf 0;have Ip:=kf 1;have kf2:=kf 2;have kf3:=kf 3
       clear kf
       go_wp2_with fail
       obtain ⟨Z,hZ,mC,mY,mB,mE,AZ,Ak⟩:=NR.store (str []) (.int .i64 (((L:Nat):Int))) (.slice ga KS.length gc) (.slice ja YS.length jc)
       rw [<- hZ]
       refine bodyPost_ret (v:=.agg #[str [],.int .i64 (((L:Nat):Int)),.slice ga KS.length gc,.slice ja YS.length jc]) (by simp [results,Tryz.results43,go_sem,mC,mY,mB,mE]) rfl ?_
       refine ⟨_,_,_,_,_,_,_,_,rfl,AZ _ _ HI.out.2.2.1 (by omega),?_⟩
       have nU:=HI.out.1.sl
       rw [List.take_length] at nU
       rw [HE.out,if_neg (fun h=>hv h.2)]
       have hne:∀ i,(F i\/w.heap.size+1+1<i)->i≠w.heap.size+1:=fun i h=>by rcases h with h | h;have:=hF i h;omega;omega
       have hP:∀ i,(F i\/w.heap.size+1+1<i)->i≠w.heap.size+1+1:=fun i h=>by rcases h with h | h;have:=hF i h;omega;omega
       refine zQ.2 ⟨_,_,rfl,zH.2 rfl,zQ.2 ⟨_,_,rfl,zH.2 (by first | rfl | simp),zQ.2 ⟨_,_,rfl,?_,zQ.2 ⟨_,_,rfl,?_,zC.2 rfl⟩⟩⟩⟩
       ·exact (Rep.keep fun i x h hx=>⟨h.elim .inl (fun h=>.inr (by omega)),Ak i x (hne i h) (Fb.out.keep.2 i x (hP i h) hx)⟩).1 _ _ Fc.out
       ·exact (Rep.keep fun i x h hx=>⟨h.elim .inl (fun h=>.inr (by omega)),Ak i x (hne i h) hx⟩).1 _ _ nU
 ·go_enter Tryz.func43,Tryz.ntmps43
  go_upto_region 2 with (fail)
  rw [<- mQ]
  clear mQ
  obtain ⟨o0,o1,o2,o3⟩:=kH bO
  obtain ⟨r0,r1,r2,r3⟩:=kH bB
  have of1:W0.frozen? ⟨w.heap.size+1+1,1,none⟩=false:=by simp only [World.frozen?,bO];rfl
  have AM:(A == [])=false:=by rw [beq_eq_false_iff_ne];exact E3
  have iw:A.isEmpty=false:=by cases A with | nil=>exact absurd rfl E3 | cons a b=>rfl
  go_upto_region 4 with (fail)
  obtain ⟨W,hW⟩:=zzN (W0)
  rw [hW]
  have hO:W.heap[w.heap.size+1+1]? = some (.cells #[str A,.int .i64 ((L:Nat):Int),.slice none 0 0,.slice none 0 0] 48 (0,0)):=by
   rw [<- hW]
   exact H0.out.2.2.2.2
  have lO:Below (w.heap.size+1+1) W0 W:=by rw [<- hW];exact fH _ _
  have Dj:=H0.out.2.1
  have r_:w.heap.size+1+1<W.heap.size:=by have:=lO.size;omega
  have r9:=fX (fW (H0.out.1.trans (lO.mono (by omega))) (fW ((lO.block _ (by omega)).trans H0.out.2.2.1) (fW ((lO.block _ (by omega)).trans H0.out.2.2.2.1) hO)))
  clear hW hO lO bB bR bO
  obtain ⟨_,_,In,Im⟩:=kH r9.out.2.1
  go_wp2_with fail
  go_loopw [8] (fun i wr=>∃ (j:Nat) (sv:Value) (us:List Value),j<=KS.length/\i=.int .i64 j/\jO F W (w.heap.size+1+1) (fun sv=>.cells #[str A,.int .i64 ((L:Nat):Int),sv,.slice none 0 0] 48 (0,0)) 48 4 j (zh (zg (KS.take j) n k)) sv us wr) (fun i _=>KS.length-(intOf i).toNat)
  case atStart=>exact ⟨0,_,_,Nat.zero_le _,rfl,by simpa [zg,zh] using jO.start (F0:=F) (o:=fun sv=>.cells #[str A,.int .i64 ((L:Nat):Int),sv,.slice none 0 0] 48 (0,0)) r9.out.2.2.2⟩
  case round =>
   rename_i wr
   obtain ⟨j,sv,us,hj,rfl,fL⟩:=hrel
   obtain ⟨ga,gc,e⟩:=fL.slice
   subst e
   have fE:wr.heap[w.heap.size+1+1]? = some (.cells #[str A,.int .i64 ((L:Nat):Int),.slice ga j gc,.slice none 0 0] 48 (0,0)):=fL.blk
   have f_:Below w.heap.size w wr:=r9.out.1.trans (fL.below.mono (by omega))
   obtain ⟨y0,y1,y2,y3⟩:=kH fE
   have aW:wr.heap[w.heap.size]? = some (.cells #[str A,.int .i64 (L:Nat),.slice n_ KS.length nz,.slice rS YS.length nO] 48 (0,0)):=(fL.below.block _ (by omega)).trans r9.out.2.1
   obtain ⟨_,_,m2,m3⟩:=kH aW
   have HI:=fX (fW fL (fW fE (fW f_ aW)));clear fL fE f_ aW
   by_cases fT:j<KS.length
   ·have mT:(j:Int)<(KS.length:Int):=by omega
    obtain ⟨kb,ko,s1,v1,p4,m4,d4,p5,m5,d5,s,ek,rZ,hs,z0,z1,z2,z3,rR⟩:=AK.out j fT
    subst ek
    have mx:s∈KS:=List.mem_of_getElem? hs
    obtain ⟨p1,p2,p3⟩:=GP.out s (.inl mx)
    have q0:=(HI.out.2.2.1.cell (p:=⟨kb,ko+j*4,none⟩) rZ).trans z0
    have q1:=(HI.out.2.2.1.cell (p:=⟨kb,ko+j*4+1,none⟩) rZ).trans z1
    have q2:=(HI.out.2.2.1.cell (p:=⟨kb,ko+j*4+2,none⟩) rZ).trans z2
    have q3:=(HI.out.2.2.1.cell (p:=⟨kb,ko+j*4+3,none⟩) rZ).trans z3
    have CC:=fX (IH.out F s n k _ _ _ _ wr.drew p1 (fun i hi=>fC (hF i hi) HI.out.2.2.1.size) p3 p2 hn hk (zX.below HI.out.2.2.1 (fun _ h=>h) rR).drew)
    have HK:=fX (jx hs n k)
    have SX:Hid (∀ w',But (fun i=>(Value.slice ga j gc).ownBlock=some i) wr w'->w'.cell? ⟨w.heap.size+1+1,2,none⟩=some (.slice ga j gc)/\w'.cell? ⟨w.heap.size,2,none⟩=some (.slice (some ⟨kb,ko,none⟩) KS.length nz)/\w'.cell? ⟨kb,ko+j*4,none⟩=some (str s1)/\w'.cell? ⟨kb,ko+j*4+1,none⟩=some (.int .i64 v1)/\w'.cell? ⟨kb,ko+j*4+2,none⟩=some (.slice p4 m4 d4)/\w'.cell? ⟨kb,ko+j*4+3,none⟩=some (.slice p5 m5 d5)):=by
     show ∀ w',_->_
     intro w' fx
     have key:∀ {p:Addr} {u:Value},p.block<w.heap.size+1+1->wr.cell? p=some u->w'.cell? p=some u:=fun hp hu=>(fx.cell (fG wr _ hu) (fun e=>by have h1:=HI.out.1.fr _ e;omega)).trans hu
     exact ⟨(fx.cell (fG wr _ y2) HI.out.1.not).trans y2,key (show w.heap.size<_ by omega) m2,key (show kb<_ by omega) q0,key (show kb<_ by omega) q1,key (show kb<_ by omega) q2,key (show kb<_ by omega) q3⟩
    have tP:j+1<=maxLen:=by unfold maxLen;omega
    have nA:(j+1)*72<=140737488355328:=by omega
    clear rR hs mx z0 z1 z2 z3 p1 p2 p3
    go_wp2_with fail
    refine wp_region_noPanic ?_
    refine zB (fun w'=>But (fun i=>(Value.slice ga j gc).ownBlock=some i) wr w') (fun i=>i == 13) (by kernel_rfl) ?_
    have fF:(fun w'=>But (fun i=>(Value.slice ga j gc).ownBlock=some i) wr w') wr.drew:=(But.refl _ wr).drew
    refine tk [0,1,2,3,4,5,6,7,8] fF ?_
    (intro d hd;simp [tkD] at hd;subst hd;simp only [tks,pQ,pZ,pS])
    iterate 9 (refine ⟨?_,?_,?_⟩;rotate_left;· (intro oi ho;simp at ho;subst ho;refine Or.inl ⟨by rfl,fun w' fI=>?_⟩;obtain ⟨e0,e1,e2,e3,e4,e5⟩:=SX.out w' fI;go_simp;try with_reducible rfl))
    (refine on 9 ?_;intro o ho K' hK;simp at ho;subst ho;go_simp)
    go_at_call 43
    (with_reducible refine CC.out.mono ?_)
    rintro Aw w6 ⟨s6,v6,f1,u1,d1,f2,u2,d2,rfl,fO,m_⟩
    have nQ:Below wr.heap.size wr w6:=(Below.drew (fH _ _)).trans fO
    have mU:Hid (But (fun i=>(Value.slice ga j gc).ownBlock=some i) wr w6):=But.ofBelow nQ
    have mK:=HI.out.1.own6 nQ (.cells #[str s6,.int .i64 v6,.slice f1 u1 d1,.slice f2 u2 d2] 48)
    have H6:=fX (fW nQ m_);clear fO m_ nQ
    (refine hK.out _ _ (fun _=>mU.out) ?_;clear hK K';try simp only [pQ,pN,pZ,pS])
    (refine on 10 ?_;intro o ho K' hK;simp at ho;subst ho;go_simp)
    (refine hK.out _ _ (fun _=>mU.out.alloc _) ?_;clear hK K';try simp only [pQ,pN,pZ,pS])
    (refine on 11 ?_;intro o ho K' hK;simp at ho;subst ho)
    refine zF (by rfl) _ _ _ (by rfl) 48 (.agg #[str [],.int .i64 0,.slice none 0 0,.slice none 0 0]) 4 72 Tryz.underlying46 Tryz.infoN rfl (by decide) (.slice ga j gc) j us (by rfl) mK _ 1 [str s6,.int .i64 v6,.slice f1 u1 d1,.slice f2 u2 d2] (by rfl) (zq.lit4 #[str s6,.int .i64 v6,.slice f1 u1 d1,.slice f2 u2 d2] rfl (by simp [str,Value.oneCell']) _ rfl) tP nA ?_
    intro a' c' w7 fm fS fw
    (refine hK.out _ _ (fun _=>(mU.out.alloc _).trans fS) ?_;clear hK K';try simp only [pQ,pN,pZ,pS])
    have mw:=HI.out.1.cell7 H6.out.1 fS
    have rJ:w7.cell? ⟨w.heap.size+1+1,2,none⟩=some (.slice ga j gc)/\w7.frozen? ⟨w.heap.size+1+1,2,none⟩=false:=⟨by simp [World.cell?,mw],by simp [World.frozen?,mw]⟩
    obtain ⟨ig,sJ⟩:=rJ
    have ii:=fX mw;clear mw
    (refine on 12 ?_;intro o ho K' hK;simp at ho;subst ho;go_simp)
    (refine hK.out _ _ (fun _=>(mU.out.alloc _).trans fS) ?_;clear hK K';try simp only [pQ,pN,pZ,pS])
    (refine on 13 ?_;intro o ho K' hK;simp at ho;subst ho;go_simp)
    (refine hK.out _ _ (fun h=>by simp at h) ?_;clear hK K';try simp only [pQ,pN,pZ,pS])
    refine zU (by kernel_rfl) (NoPanic.normal ?_) _
    have hX:=HI.out.1.next (fun i h=>by have:=hF i h;omega) (w8:=w7.setCell ⟨w.heap.size+1+1,2,none⟩ (.slice a' (j+1) c')) H6.out.1 H6.out.2 fm fS fw (by rw [zy ii.out];rfl) (vf _ _ _ _)
    have nR:zh (zg (KS.take j) n k)++kR (zo s n k)=zh (zg (KS.take (j+1)) n k):=by rw [HK.out,qU];simp [zh]
    rw [nR] at hX
    have HN:=fX hX
    clear hX nR fm fS fw fF mK ig sJ
    go_wp2_with fail
    go_roundw
    case rel=>exact ⟨j+1,_,_,by omega,by go_num,HN.out⟩
    case measure=>simp [intOf];omega
   ·obtain rfl:j=KS.length:=by omega
    have nU:=HI.out.1.sl
    rw [List.take_length] at nU
    have Fc:=fX nU
    have s_:=fX (fW HI.out.2.2.1 (fW HI.out.2.2.2 (fW ((HI.out.1.below.block _ (by omega)).trans r9.out.2.2.1) HI.out.2.1)))
    have oZ:w.heap.size+1+1<wr.heap.size:=zZ HI.out.2.1
    obtain ⟨V,hV⟩:=zzM (wr)
    rw [<- hV] at Fc s_ m2 m3 y2 y3 oZ ⊢
    clear nU y0 y1 HI hV In Im
    go_wp2_with fail
    go_loopw [9] (fun i wr=>∃ (j:Nat) (sv:Value) (us:List Value),j<=YS.length/\i=.int .i64 j/\jO F V (w.heap.size+1+1) (fun sv=>.cells #[str A,.int .i64 ((L:Nat):Int),.slice ga KS.length gc,sv] 48 (0,0)) 48 4 j (zh (zg (YS.take j) n k)) sv us wr/\Keeps V (w.heap.size+1+1) sv wr) (fun i _=>YS.length-(intOf i).toNat)
    case atStart=>exact ⟨0,_,_,Nat.zero_le _,rfl,by simpa [zg,zh] using jO.start (F0:=F) (o:=fun sv=>.cells #[str A,.int .i64 ((L:Nat):Int),.slice ga KS.length gc,sv] 48 (0,0)) s_.out.2.2.2,⟨⟨fP _,fun i x _ hx=>hx⟩,fun g hg=>by simp [Value.ownBlock] at hg⟩⟩
    case round =>
     rename_i wr
     clear m2 m3 y2 y3
     obtain ⟨j,sv,us,hj,rfl,fL,rC⟩:=hrel
     obtain ⟨ja,jc,e⟩:=fL.slice
     subst e
     have fE:wr.heap[w.heap.size+1+1]? = some (.cells #[str A,.int .i64 ((L:Nat):Int),.slice ga KS.length gc,.slice ja j jc] 48 (0,0)):=fL.blk
     have f_:Below w.heap.size w wr:=s_.out.1.trans (fL.below.mono (by omega))
     obtain ⟨y0,y1,y2,y3⟩:=kH fE
     have aW:wr.heap[w.heap.size]? = some (.cells #[str A,.int .i64 (L:Nat),.slice n_ KS.length nz,.slice rS YS.length nO] 48 (0,0)):=(fL.below.block _ (by omega)).trans s_.out.2.1
     obtain ⟨_,_,m2,m3⟩:=kH aW
     have HI:=fX (fW fL (fW fE (fW f_ aW)));clear fL fE f_ aW
     have Fb:=fX rC;clear rC
     by_cases fT:j<YS.length
     ·have mT:(j:Int)<(YS.length:Int):=by omega
      obtain ⟨kb,ko,s1,v1,p4,m4,d4,p5,m5,d5,s,ek,rZ,hs,z0,z1,z2,z3,rR⟩:=AY.out j fT
      subst ek
      have mx:s∈YS:=List.mem_of_getElem? hs
      obtain ⟨p1,p2,p3⟩:=GP.out s (.inr mx)
      have q0:=(HI.out.2.2.1.cell (p:=⟨kb,ko+j*4,none⟩) rZ).trans z0
      have q1:=(HI.out.2.2.1.cell (p:=⟨kb,ko+j*4+1,none⟩) rZ).trans z1
      have q2:=(HI.out.2.2.1.cell (p:=⟨kb,ko+j*4+2,none⟩) rZ).trans z2
      have q3:=(HI.out.2.2.1.cell (p:=⟨kb,ko+j*4+3,none⟩) rZ).trans z3
      have CC:=fX (IH.out F s n k _ _ _ _ wr.drew p1 (fun i hi=>fC (hF i hi) HI.out.2.2.1.size) p3 p2 hn hk (zX.below HI.out.2.2.1 (fun _ h=>h) rR).drew)
      have HK:=fX (jx hs n k)
      have SX:Hid (∀ w',But (fun i=>(Value.slice ja j jc).ownBlock=some i) wr w'->w'.cell? ⟨w.heap.size+1+1,3,none⟩=some (.slice ja j jc)/\w'.cell? ⟨w.heap.size,3,none⟩=some (.slice (some ⟨kb,ko,none⟩) YS.length nO)/\w'.cell? ⟨kb,ko+j*4,none⟩=some (str s1)/\w'.cell? ⟨kb,ko+j*4+1,none⟩=some (.int .i64 v1)/\w'.cell? ⟨kb,ko+j*4+2,none⟩=some (.slice p4 m4 d4)/\w'.cell? ⟨kb,ko+j*4+3,none⟩=some (.slice p5 m5 d5)):=by
       show ∀ w',_->_
       intro w' fx
       have key:∀ {p:Addr} {u:Value},p.block<w.heap.size+1+1->wr.cell? p=some u->w'.cell? p=some u:=fun hp hu=>(fx.cell (fG wr _ hu) (fun e=>by have h1:=HI.out.1.fr _ e;omega)).trans hu
       exact ⟨(fx.cell (fG wr _ y3) HI.out.1.not).trans y3,key (show w.heap.size<_ by omega) m3,key (show kb<_ by omega) q0,key (show kb<_ by omega) q1,key (show kb<_ by omega) q2,key (show kb<_ by omega) q3⟩
      have tP:j+1<=maxLen:=by unfold maxLen;omega
      have nA:(j+1)*72<=140737488355328:=by omega
      clear rR hs mx z0 z1 z2 z3 p1 p2 p3
      go_wp2_with fail
      refine wp_region_noPanic ?_
      refine zB (fun w'=>But (fun i=>(Value.slice ja j jc).ownBlock=some i) wr w') (fun i=>i == 13) (by kernel_rfl) ?_
      have fF:(fun w'=>But (fun i=>(Value.slice ja j jc).ownBlock=some i) wr w') wr.drew:=(But.refl _ wr).drew
      refine tk [0,1,2,3,4,5,6,7,8] fF ?_
      (intro d hd;simp [tkD] at hd;subst hd;simp only [tks,pQ,pZ,pS])
      iterate 9 (refine ⟨?_,?_,?_⟩;rotate_left;· (intro oi ho;simp at ho;subst ho;refine Or.inl ⟨by rfl,fun w' fI=>?_⟩;obtain ⟨e0,e1,e2,e3,e4,e5⟩:=SX.out w' fI;go_simp;try with_reducible rfl))
      (refine on 9 ?_;intro o ho K' hK;simp at ho;subst ho;go_simp)
      go_at_call 43
      (with_reducible refine CC.out.mono ?_)
      rintro Aw w6 ⟨s6,v6,f1,u1,d1,f2,u2,d2,rfl,fO,m_⟩
      have nQ:Below wr.heap.size wr w6:=(Below.drew (fH _ _)).trans fO
      have mU:Hid (But (fun i=>(Value.slice ja j jc).ownBlock=some i) wr w6):=But.ofBelow nQ
      have mK:=HI.out.1.own6 nQ (.cells #[str s6,.int .i64 v6,.slice f1 u1 d1,.slice f2 u2 d2] 48)
      have H6:=fX (fW nQ m_);clear fO m_ nQ
      (refine hK.out _ _ (fun _=>mU.out) ?_;clear hK K';try simp only [pQ,pN,pZ,pS])
      (refine on 10 ?_;intro o ho K' hK;simp at ho;subst ho;go_simp)
      (refine hK.out _ _ (fun _=>mU.out.alloc _) ?_;clear hK K';try simp only [pQ,pN,pZ,pS])
      (refine on 11 ?_;intro o ho K' hK;simp at ho;subst ho)
      refine zF (by rfl) _ _ _ (by rfl) 48 (.agg #[str [],.int .i64 0,.slice none 0 0,.slice none 0 0]) 4 72 Tryz.underlying46 Tryz.infoN rfl (by decide) (.slice ja j jc) j us (by rfl) mK _ 1 [str s6,.int .i64 v6,.slice f1 u1 d1,.slice f2 u2 d2] (by rfl) (zq.lit4 #[str s6,.int .i64 v6,.slice f1 u1 d1,.slice f2 u2 d2] rfl (by simp [str,Value.oneCell']) _ rfl) tP nA ?_
      intro a' c' w7 fm fS fw
      (refine hK.out _ _ (fun _=>(mU.out.alloc _).trans fS) ?_;clear hK K';try simp only [pQ,pN,pZ,pS])
      have mw:=HI.out.1.cell7 H6.out.1 fS
      have rJ:w7.cell? ⟨w.heap.size+1+1,3,none⟩=some (.slice ja j jc)/\w7.frozen? ⟨w.heap.size+1+1,3,none⟩=false:=⟨by simp [World.cell?,mw],by simp [World.frozen?,mw]⟩
      obtain ⟨ig,sJ⟩:=rJ
      have ii:=fX mw;clear mw
      (refine on 12 ?_;intro o ho K' hK;simp at ho;subst ho;go_simp)
      (refine hK.out _ _ (fun _=>(mU.out.alloc _).trans fS) ?_;clear hK K';try simp only [pQ,pN,pZ,pS])
      (refine on 13 ?_;intro o ho K' hK;simp at ho;subst ho;go_simp)
      (refine hK.out _ _ (fun h=>by simp at h) ?_;clear hK K';try simp only [pQ,pN,pZ,pS])
      refine zU (by kernel_rfl) (NoPanic.normal ?_) _
      have hX:=HI.out.1.next (fun i h=>by have:=hF i h;omega) (w8:=w7.setCell ⟨w.heap.size+1+1,3,none⟩ (.slice a' (j+1) c')) H6.out.1 H6.out.2 fm fS fw (by rw [zy ii.out];rfl) (vf _ _ _ _)
      have nR:zh (zg (YS.take j) n k)++kR (zo s n k)=zh (zg (YS.take (j+1)) n k):=by rw [HK.out,qU];simp [zh]
      rw [nR] at hX
      have HN:=fX hX
      have Dh:=fX (Fb.out.next (w8:=w7.setCell ⟨w.heap.size+1+1,3,none⟩ (.slice a' (j+1) c')) H6.out.1 fS fw (vf _ _ _ _))
      clear hX nR fm fS fw fF mK ig sJ
      go_wp2_with fail
      go_roundw
      case rel=>exact ⟨j+1,_,_,by omega,by go_num,HN.out,Dh.out⟩
      case measure=>simp [intOf];omega
     ·obtain rfl:j=YS.length:=by omega
      have NR:z9 (w.heap.size+1) 0 (.slice none 0 0) (.slice none 0 0) wr:=(HI.out.1.below.block _ (by omega)).trans s_.out.2.2.1
      obtain ⟨k0,k1,k2,k3,_,kf⟩:=NR.cells
      have kf0:=kf 0;have Ip:=kf 1;have kf2:=kf 2;have kf3:=kf 3
      clear kf
      go_wp2_with fail
      obtain ⟨Z,hZ,mC,mY,mB,mE,AZ,Ak⟩:=NR.store (str A) (.int .i64 (((L:Nat):Int))) (.slice ga KS.length gc) (.slice ja YS.length jc)
      rw [<- hZ]
      refine bodyPost_ret (v:=.agg #[str A,.int .i64 (((L:Nat):Int)),.slice ga KS.length gc,.slice ja YS.length jc]) (by simp [results,Tryz.results43,go_sem,mC,mY,mB,mE]) rfl ?_
      refine ⟨_,_,_,_,_,_,_,_,rfl,AZ _ _ HI.out.2.2.1 (by omega),?_⟩
      have nU:=HI.out.1.sl
      rw [List.take_length] at nU
      rw [HE.out,if_neg (fun h=>E3 h.1)]
      have hne:∀ i,(F i\/w.heap.size+1+1<i)->i≠w.heap.size+1:=fun i h=>by rcases h with h | h;have:=hF i h;omega;omega
      have hP:∀ i,(F i\/w.heap.size+1+1<i)->i≠w.heap.size+1+1:=fun i h=>by rcases h with h | h;have:=hF i h;omega;omega
      refine zQ.2 ⟨_,_,rfl,zH.2 rfl,zQ.2 ⟨_,_,rfl,zH.2 (by first | rfl | simp),zQ.2 ⟨_,_,rfl,?_,zQ.2 ⟨_,_,rfl,?_,zC.2 rfl⟩⟩⟩⟩
      ·exact (Rep.keep fun i x h hx=>⟨h.elim .inl (fun h=>.inr (by omega)),Ak i x (hne i h) (Fb.out.keep.2 i x (hP i h) hx)⟩).1 _ _ Fc.out
      ·exact (Rep.keep fun i x h hx=>⟨h.elim .inl (fun h=>.inr (by omega)),Ak i x (hne i h) hx⟩).1 _ _ nU
theorem shift_any (M:Nat):ShSaid M:=by
 induction M with
 | zero=>exact fun F b n k b0 b1 b2 b3 w h=>by have:=kW b;omega
 | succ M ih=>exact sh_step M ih
end Go.Proofs.YtjggkhmojjaomaaGreatDoor

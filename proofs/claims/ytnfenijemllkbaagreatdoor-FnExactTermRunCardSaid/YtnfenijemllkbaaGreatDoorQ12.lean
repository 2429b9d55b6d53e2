/- Walks. -/
import Derived.Test.YtnfenijemllkbaaGreatDoorQ10
set_option linter.unusedVariables false
set_option linter.unusedSimpArgs false
set_option maxHeartbeats 8000000
set_option maxRecDepth 100000
open Option renaming none->U
open Option renaming some->OK
open Bool renaming false->RC
open Go.IntKind renaming i64->RD
open Go.NoPanic renaming normal->RQ
open Go.Proofs.Tryz renaming prog->RG,results40->Wj,results71->TI,underlying105->Sp,underlying149->Ti,underlying51->SN
open Go.Value renaming oneCell'->R4,ownBlock->RM,slice->RI,string->US
open Go.Value.int renaming injEq->UL
open Go.Value.slice renaming injEq->RT
open Go.World renaming cell?->RE,frozen?->RO,ownsRow_nil->Sf,setCell->Ts
open List renaming getElem?_eq_some_iff->RR,length_append->RL,length_cons->RU,map->TW,map_cons->Sa,mem_cons->Sc,mem_cons_of_mem->VL,nil_append->Ss
open List.cons renaming injEq->RY
open Nat renaming le_of_eq->SH,le_succ->SG,lt_of_le_of_lt->SJ,lt_or_ge->TR,zero_add->SU,zero_le->R6
open Option renaming bind_eq_bind->RJ,bind_some->RF,map_eq_some_iff->RP
open Option.some renaming injEq->RK
namespace Go.Proofs.YtnfenijemllkbaaGreatDoor
open Go.RowKit
structure KeepPre (F:Nat->Prop)(ww d k l n vv o:Nat)(H:List Ty)(t:Ty)(ss:List Bd)(y no:Bd)(env:List Mn)(st:List WFr)(v0:Int)(a1 a2:Option Addr)(c1 c2:Nat)(ev sv:Value)(w:World):Prop where
 wri:Wri w ww ((k:Nat)+1) (20000-(l:Nat))
 hF:∀i,F i->i≠ww
 ld:l<=d
 d20:d<=20000
 k200:k<=200
 hv:env[vv]?=OK (.op o t)
 fit:jo H (.ask vv ss y no) env (st.map WFr.gf)
 hn:H.length=n
 el:env.length+16*(d+1)<=1000000
 nl:n+16*(d+1)<=1000000
 stl:st.length+d<=40000
 ok:xP (1000000-16*(d+1)) env
 okg:okGs (1000000-16*(d+1)) (st.map WFr.gf)
 wf:wfB (.ask vv ss y no)/\wh env/\∀f∈st.map WFr.gf,wfG f
 rb:zY F w (kU (.ask vv ss y no)) [str [],(vv:Int),.slice a1 ss.length c1,.slice a2 2 c2]
 re:Rep F w (.sl 147 9 env.length (qJ env)) ev
 rs:Rep F w (.sl 155 6 st.length (yB st)) sv
def fpos:Bool->Nat
 |false=>2
 |true=>3
def fk:Bool->Value->Value->Value
 |false,_,sv=>sv
 |true,ks,_=>ks
def fy:Bool->Value->Value
 |false,_=>.slice U 0 0
 |true,sv=>sv
structure NInv (F:Nat->Prop)(ww:Nat)(D:Int)(k l n o vv nk:Nat)(env:List Mn)(f:Nat->Nat->Bd->List Mn->Nat->List Gf->Option (Bd×Nat×Nat))(k0 l0:Nat)(ts:List Ty)(bs:List Bd)(A Z:Prop)(fld:Bool)(ks:Value)(outs:List Bd)(a1 a2 ta:Option Addr)(c1 c2 nt tc:Nat)(i0:Int)(w:World)(Q j:Nat)(sv:Value)(us:List Value)(wr:World):Prop where
 but:But (· = ww) w wr
 zw:Q+1<=(wr:Nat)
 box:wr.heap[(w:Nat)]?=OK (.cells #[str [],(vv:Int),.slice a1 nk c1,.slice a2 2 c2] 53 (0,0))
 res:z9 ((w:Nat)+1) 0 () () wr
 bnd:wr.heap[(w:Nat)+2]?=OK (.cells #[(o:Int),str [],.int RD 0,(),(),.slice ta nt tc,(),.int RD 0,.int RD i0] 147 (0,0))
 blk:z9 Q (o:Nat) (fk fld ks sv) (fy fld sv) wr
 own:Own wr 53 4 sv j us
 fr:∀g,sv.ownBlock=OK g->Q+1<=g
 mode:(∃ zs kj lj,A/\kL f env n k0 l0 (ts.take j) (bs.take j)=some (zs,kj,lj)/\zs.length=j/\Wri wr ww (kj:Nat) (20000-(lj:Nat))/\kj<=k/\lj<=l/\zY (fun i=>Fx F w 4 i/\sv.ownBlock≠some i) wr (zp zs) us /\
  Rep (fun i=>Fx F w 4 i/\sv.ownBlock≠some i) wr (.sl 53 4 outs.length (zp outs)) ks) \/
  (Z/\∃s,Wri wr ww (-1) s/\0<=s/\s<=D+(j:Int))
theorem NInv.next {F:Nat->Prop}{ww:Nat}{D:Int}{k l n o vv nk:Nat}{env:List Mn}{f:Nat->Nat->Bd->List Mn->Nat->List Gf->Option (Bd×Nat×Nat)}{k0 l0:Nat}{ts:List Ty}{bs:List Bd}{A Z:Prop}{fld:Bool}{ks:Value}{outs:List Bd}{a1 a2 ta:Option Addr}{c1 c2 nt tc:Nat}{i0:Int}{w:World}{Q j:Nat}{sv:Value}{us:List Value}{wr:World}(h:NInv F ww D k l n o vv nk env f k0 l0 ts bs A Z fld ks outs a1 a2 ta c1 c2 nt tc i0 w Q j sv us wr)(hQ:Q=w+3)(hww:ww<w)(hF:∀i,F i->i≠ww){w6 w7:World}{O:Obj}{oo:Option (Bd×Nat×Nat)}{cs:List Value}{a':Option Addr}{c':Nat}(sM:But (· = ww) wr.drew w6)(oL:oo=U->∃st,Wri w6 ww (-1) st/\0<=st/\st<=D+((j+1:Nat):Int))(Am:∀x,oo=OK x->Wri w6 ww (x.2.1:Nat) (20000-(x.2.2:Nat))/\zY (fun i=>(F i/\i<(w:Nat))\/wr.drew.heap.size<=i) w6 (kU x.1) cs)(Fs:oo=U->Z)(Gh:∀ x,oo=some x->∃ zs,A/\kL f env n k0 l0 (ts.take (j+1)) (bs.take (j+1))=some (zs++[x.1],x.2.1,x.2.2)/\zs.length=j/\x.2.1<=k/\x.2.2<=l/\zY (fun i=>Fx F w 4 i/\sv.ownBlock≠some i) wr (zp zs) us /\
  Rep (fun i=>Fx F w 4 i/\sv.ownBlock≠some i) wr (.sl 53 4 outs.length (zp outs)) ks)(sj:Own w7 53 4 (.slice a' (j+1) c') (j+1) (us++cs))(sH:But (fun b=>sv.ownBlock=OK b) (w6.alloc O) w7)(sS:∀g,(RI a' (j+1) c').ownBlock=OK g->sv.ownBlock=OK g\/g=(w6.alloc O).heap.size) :
 NInv F ww D k l n o vv nk env f k0 l0 ts bs A Z fld ks outs a1 a2 ta c1 c2 nt tc i0 w Q (j+1) (.slice a' (j+1) c') (us++cs) (w7.setCell (Q,fpos fld) (.slice a' (j+1) c')):=by
 have z6:(wr:Nat)<=w6:=sM.size;have z7:=sH.size;rw[zK]at z7;have zr:=h.zw;have svlt:∀g,sv.ownBlock=OK g->g<(wr:Nat):=fun g hg=>h.own.lt hg;obtain⟨w8,Kq⟩:=zzN (w7.setCell (Q,fpos fld) (.slice a' (j+1) c'));have iW:∀i x,w6.heap[i]?=OK x->sv.ownBlock≠OK i->i≠Q->w8.heap[i]?=OK x:=by
  intro i x hx h2 h3;have hl:=zZ hx;rw[<- Kq,sJ _ _ _ _ (by simpa using h3),sH.block i (by rw[zK];omega) h2,Below.heap_alloc _ _ _ hl];exact hx
 have keep:∀i x,wr.heap[i]?=OK x->i≠ww->sv.ownBlock≠OK i->i≠Q->w8.heap[i]?=OK x:=by
  intro i x hx h1 h2 h3;exact iW i x (by rw[sM.block i (zZ hx) h1];exact hx) h2 h3
 have nsv:∀i,i<Q+1->sv.ownBlock≠OK i:=fun i hi e=>by have:=h.fr i e;omega
 have fr':∀g,(RI a' (j+1) c').ownBlock=OK g->Q+1<=g:=fun g hg=>by
  rcases sS g hg with e|e
  ·exact h.fr g e
  ·rw[zK]at e;omega
 have fxw:∀i,Fx F w 4 i->i≠ww/\i≠Q:=fun i hi=>by
  rcases hi with hi|hi
  ·exact⟨hF i hi.1,by have:=hi.2;omega⟩
  ·exact⟨by omega,by omega⟩
 have sF:But (· = ww) w w8:=by
  have h1:But (· = ww) w w6:=h.but.trans ⟨sM.os,sM.tape,sM.output,sM.size,sM.block⟩;have h2:But (· = ww) w w7:=(h1.alloc O).trans' sH (fun i hi e=>absurd (h.fr i e) (by omega));rw[<- Kq];exact h2.setCell (p:=(Q,fpos fld)) (.inr (show w<=Q by omega)) _
 have tV:(w8:Nat)=w7:=by rw[<- Kq];simp[Ts]
 have AI:z9 Q (o:Nat) (fk fld ks (.slice a' (j+1) c')) (fy fld (.slice a' (j+1) c')) w8:=by
  have h1:z9 Q (o:Nat) (fk fld ks sv) (fy fld sv) w7:=by
   unfold z9;rw[sH.block Q (by rw[zK];omega) (nsv Q (by omega)),Below.heap_alloc _ _ _ (by omega),sM.block Q (by show Q<wr;omega) (by show Q≠ww;omega)];exact h.blk
  rw[<- Kq];cases fld
  ·exact h1.put2
  ·exact h1.put3
 have si:Own w8 53 4 (.slice a' (j+1) c') (j+1) (us++cs):=
  sj.keep fun g o hg ho=>by rw[<- Kq,sJ _ _ _ _ (by have:=fr' g hg;simp;omega)];exact ho
 have PJ:(∃ zs kj lj,A/\kL f env n k0 l0 (ts.take (j+1)) (bs.take (j+1))=some (zs,kj,lj)/\zs.length=j+1/\Wri w8 ww (kj:Nat) (20000-(lj:Nat))/\kj<=k/\lj<=l/\zY (fun i=>Fx F w 4 i/\(RI a' (j+1) c').ownBlock≠some i) w8 (zp zs) (us++cs) /\
  Rep (fun i=>Fx F w 4 i/\(RI a' (j+1) c').ownBlock≠some i) w8 (.sl 53 4 outs.length (zp outs)) ks)\/(Z/\∃ s,Wri w8 ww (-1) s/\0<=s/\s<=D+((j+1:Nat):Int)):=by
  cases hoo:oo with
  | none =>
    obtain⟨st,q1,q2,q3⟩:=oL hoo;exact .inr ⟨Fs hoo,st,iW ww _ q1 (nsv ww (by omega)) (by omega),q2,q3⟩
  | some x =>
    obtain⟨q1,q2⟩:=Am x hoo;obtain⟨zs,hA,r1,r2,r3,r4,r5,r6⟩:=Gh x hoo
    have kG:∀(i:Nat) (y:Obj),(Fx F w 4 i/\sv.ownBlock≠OK i)->wr.heap[i]?=OK y->(Fx F w 4 i/\(RI a' (j+1) c').ownBlock≠OK i)/\w8.heap[i]?=OK y:=fun i y hi hy=>
     ⟨⟨hi.1,fun e=>by
       rcases sS i e with e'|e'
       ·exact hi.2 e'
       ·rw [zK] at e';have:=zZ hy;omega⟩,keep i y hy (fxw i hi.1).1 hi.2 (fxw i hi.1).2⟩
    refine .inl ⟨zs++[x.1],x.2.1,x.2.2,hA,r1,by simp[r2],iW ww _ q1 (nsv ww (by omega)) (by omega),r3,r4,?_,(Rep.keep kG).1 _ _ r6⟩;rw[qG];refine zY.append ((Rep.keep kG).2 _ _ r5) ?_;have e1:zp [x.1]=kU x.1:=by simp[zp]
    rw[e1];refine(Rep.keep fun i y hi hy=>?_).2 _ _ q2;have hl:=zZ hy;rcases hi with hi|hi
    ·have h2:=hi.2;exact⟨⟨.inl hi,fun e=>by have:=fr' i e;omega⟩,iW i y hy (nsv i (by omega)) (by omega)⟩
    ·have h2:wr<=i:=hi;refine⟨⟨.inr (by omega),fun e=>?_⟩,iW i y hy (fun e=>by have:=svlt i e;omega) (by omega)⟩;rcases sS i e with e'|e'
     ·have:=svlt i e';omega
     ·rw[zK]at e';omega
 rw[Kq];exact { but:=sF,zw:=by omega,box:=keep _ _ h.box (by omega) (nsv _ (by omega)) (by omega),res:=keep _ _ h.res (by omega) (nsv _ (by omega)) (by omega),bnd:=keep _ _ h.bnd (by omega) (nsv _ (by omega)) (by omega),blk:=AI,own:=si,fr:=fr',mode:=PJ }
theorem node_ne {w:World}{ww:Nat}{k s:Int}{kb off:Nat}{s':Bs}(hw:Wri w ww k s)(g:w (kb,off)=str s'):kb≠ww:=by
 intro e;subst e;unfold Wri at hw;simp only[RE,hw]at g;rcases TR off 2 with h|h
 ·have h2:off=0\/off=1:=by omega
  rcases h2 with h2|h2 <;> rw[h2]at g <;> simp[str]at g
 ·rw[Array.getElem?_eq_none (by simpa using h)]at g;simp at g
theorem keptN_of {d k l n o k1 l1 kj lj:Nat}{t:Ty}{ss:List Bd}{y no:Bd}{env:List Mn}{st:List Gf}{outs zs:List Bd}(h0:kL (evN d) env n k l t.args ss=OK (outs,k1,l1))(h1:kL (fun k l b _ _ _=>evN d k l b env n st) env n k1 l1 [t,t] [y,no]=OK (zs,kj,lj)):∃z1 z2,zs=[z1,z2]/\wB d k l n o t ss y no env st=OK (.ask o outs z1 z2,kj,lj):=by
 unfold wB;rw[h0];simp only[kL,RJ,RF]at h1 ⊢;cases h2:evN d k1 l1 y env n st with
 |none=>rw[h2]at h1;simp at h1
 | some x =>
   rw[h2]at h1;simp only[RF]at h1 ⊢;cases h3:evN d x.2.1 x.2.2 no env n st with
   |none=>rw[h3]at h1;simp at h1
   | some u =>
     rw[h3]at h1;simp only[RF,RK,Prod.mk.injEq]at h1 ⊢;obtain⟨rfl,rfl,rfl⟩:=h1;exact⟨x.1,u.1,rfl,rfl,rfl,rfl⟩
theorem keptN_none {d k l n o k1 l1:Nat}{t:Ty}{ss:List Bd}{y no:Bd}{env:List Mn}{st:List Gf}{outs:List Bd}(h0:kL (evN d) env n k l t.args ss=OK (outs,k1,l1))(h1:kL (fun k l b _ _ _=>evN d k l b env n st) env n k1 l1 [t,t] [y,no]=U):wB d k l n o t ss y no env st=U:=by
 unfold wB;rw[h0];simp only[kL,RJ,RF]at h1 ⊢;cases h2:evN d k1 l1 y env n st with
 |none=>rfl
 | some x =>
   rw[h2]at h1;simp only[RF]at h1 ⊢;cases h3:evN d x.2.1 x.2.2 no env n st with
   |none=>rfl
   |some u=>rw[h3]at h1;simp at h1
theorem keepN_any (d:Nat)(ih:pC d)(F:Nat->Prop)(ww k l n vv o:Nat)(H:List Ty)(t:Ty)(ss:List Bd)(y no:Bd)(env:List Mn)(st:List WFr)(v0:Int)(a1 a2:Option Addr)(c1 c2:Nat)(ev sv:Value)(w:World)(h:KeepPre F ww d k l n vv o H t ss y no env st v0 a1 a2 c1 c2 ev sv w) :
 Calls RG 97 #[ww,.agg #[str [],(vv:Int),.slice a1 ss.length c1,.slice a2 2 c2],ev,sv,(n:Int)] w
  (vl F ww (20001+20*(d+1)) (wB d k l n o t ss y no env (st.map WFr.gf)) w):=by
 have HP:=r9 h;have IH:=r9 ih;obtain⟨eb,eo,ecap,ta,tc,i0,e,MO,hew,m0,m1,m2,m3,m4,m5,m6,m7,m8,Jv⟩:=bound_op h.re h.hv;subst e;have hww:=h.wri.cell.2.2.2;have hebw:=h.hF _ MO;obtain⟨W,hW⟩:=zzN ((w.alloc (.cells #[str [],(vv:Int),.slice a1 ss.length c1,.slice a2 2 c2] 53)).alloc (.cells #[str [],.int RD 0,(),()] 53));have sF:No w W:=by rw[<- hW];exact((sQ _ _).alloc (sZ _) _).alloc (by rw[zK];omega) _
 have iV:(w:Nat)+2=(W:Nat):=by rw[<- hW];simp only[zK]
 have IM:=h.wri.below sF;obtain⟨k0,k1,kf,klt⟩:=IM.cell;have kf0:=kf 0;have k0':W ww=OK (.int RD ((k:Int)+1)):=k0;obtain⟨W2,se⟩:=zzN (W.setCell ww (.int RD (k:Nat)));have AP:Wri W2 ww (k:Nat) (20000-(l:Nat)):=by unfold Wri at *;rw[<- se,zT IM];rfl
 have sY:But (· = ww) w W2:=by rw[<- se];exact(But.ofBelow (m:=(· = ww)) sF).setCell (p:=ww) (.inl rfl) _
 have b0:W.heap[(w:Nat)]?=OK (.cells #[str [],(vv:Int),.slice a1 ss.length c1,.slice a2 2 c2] 53 (0,0)):=by rw[<- hW];exact zJ (zW _ _)
 have Ri:W2.heap[(w:Nat)]?=OK (.cells #[str [],(vv:Int),.slice a1 ss.length c1,.slice a2 2 c2] 53 (0,0)):=by
  rw[<- se,sJ _ _ _ _ (by show w≠ww;omega)];exact b0
 obtain⟨x0,x1,x2,x3⟩:=kD Ri;have kX:∀ {j:Nat} {x:Value},w (eb,j)=x->W2 (eb,j)=x:=fun hc=>(sY.cell (sK w _ hc) hebw).trans hc;have j0:=kX m0;have j1:=kX m1;have j2:=kX m2;have j3:=kX m3;have j4:=kX m4;have j5:=kX m5;have j6:=kX m6;have j7:=kX m7;have j8:=kX m8;have D1:=(RR.1 h.hv).1;have G5:(0:Int)<=(vv:Int):=by omega
 have AC:(vv:Int)<(env.length:Int):=by omega
 have PX:=h.k200;have iP:(W2:Nat)=w+2:=by rw[<- se,iV];simp[Ts]
 have aY:z9 ((w:Nat)+1) 0 () () W2:=by
  have:=zW (w.alloc (.cells #[str [],(vv:Int),.slice a1 ss.length c1,.slice a2 2 c2] 53)) (.cells #[str [],.int RD 0,(),()] 53);rw[zK,hW]at this;unfold z9;rw[<- se,sJ _ _ _ _ (by show w+1≠ww;omega)];exact this
 have HZ:=r9 (r_ iP aY);clear iP aY;have HW:=r9 (r_ hW (r_ se (r_ sY (r_ AP (r_ Ri Jv)))));clear hW se sF IM AP sY b0 Ri Jv kX m0 m1 m2 m3 m4 m5 m6 m7 m8 k0 kf h ih iV;go_enter Tryz.func97,Tryz.ntmps97;go_upto_region 1 with (fail)
 rw[HW.out.1];go_upto_region 2 with (fail)
 rw[HW.out.2.1];go_wp2_with fail
 go_loopw [13] (fun i wr=>∃(j:Nat) (sv:Value) (us:List Value),j<=ss.length/\i=.int RD j/\NInv F ww (20001+20*(d:Int)) k l n o vv ss.length env (evN d) k l t.args ss True (kL (evN d) env n k l t.args ss=U) RC () [] a1 a2 ta c1 c2 t.args.length tc i0 w ((W2:Nat)+1) j sv us wr) (fun i _=>ss.length-(intOf i).toNat)
 case atStart=>
  obtain⟨iP,aY⟩:=HZ.out;obtain⟨hW,se,sY,AP,Ri,Jv⟩:=HW.out;refine⟨0,(),[],R6 _,rfl,?_⟩;refine { but:=(sY.alloc _).alloc _,zw:=by simp only[zK];omega,box:=zJ (zJ Ri),res:=zJ (zJ aY),bnd:=?_,blk:=?_,own:=Sf _ _ _ _,fr:=fun g hg=>by simp[RM]at hg,mode:=.inl ⟨[],k,l,trivial,by simp[kL],rfl,zJ (zJ AP),sZ _,sZ _,by simp[zp,zE],zv.2 ⟨by simp[zp],U,0,rfl,sZ _,fun _=>rfl,.inl rfl⟩⟩ }
  ·rw[<- iP];exact zJ (zW _ _)
  ·have:=zW (W2.alloc (.cells #[(o:Int),str [],.int RD 0,(),(),.slice ta t.args.length tc,(),.int RD 0,.int RD i0] 147)) (.cells #[str [],(o:Int),(),()] 53);rw[zK]at this;exact this
 case round=>
  rename_i wr;obtain⟨j,sv,us,hj,rfl,sN⟩:=hrel;obtain⟨sa,sc,e⟩:=sN.own.slice;subst e;obtain⟨y0,y1,y2,y3⟩:=kD sN.box;obtain⟨q0,q1,q2,q3,qlt,qf⟩:=sN.blk.cells;have z5:wr (W2,5)=OK (.slice ta t.args.length tc):=by
   rw[HZ.out.1];simp[RE,sN.bnd]
  have HI:=r9 sN;clear sN;by_cases sC:j<ss.length
  ·have tB:(j:Int)<(ss.length:Int):=by omega
   have sy:Rep F w (.sl 53 4 ss.length (zp ss)) (.slice a1 ss.length c1):=by
    have aJ:=HP.out.rb;simp only[kU,zQ,zE]at aJ;obtain⟨_,_,e0,_,_,_,rfl,_,_,_,rfl,h2,_⟩:=aJ;simp only[RY]at e0;obtain⟨_,_,e2,_⟩:=e0;rw[e2];exact h2
   obtain⟨ka',kc',e,DD⟩:=bZ.of sy;simp only[RT]at e;obtain⟨rfl,_,rfl⟩:=e;obtain⟨kb,ko,s',v',DU,BP,DT,Gm,De,Gk,sd,e,ic,BZ,g0,g1,g2,g3,tG⟩:=DD j sC;subst e;have Gz:=HP.out.fit.keep HP.out.hv;have hne:kb≠ww:=node_ne HP.out.wri g0;have Mb:=HW.out.2.2.2.2.2;rw[jJ]at Mb;obtain⟨ta',tc',e,_,_,AD⟩:=zH Mb;simp only[RT]at e;obtain⟨rfl,_,rfl⟩:=e;have hjt:j<t.args.length:=by omega
   obtain⟨tb,tO,tu,td,e,htF,htw,htd,g4,L8⟩:=AD j hjt;subst e;rw[vU,RP]at htd;obtain⟨tj,Mc,rfl⟩:=htd;obtain⟨ua,uc,rfl⟩:=za L8;have p0:=(HI.out.but.cell (p:=(kb,ko+j*4)) ic hne).trans g0;have p1:=(HI.out.but.cell (p:=(kb,ko+j*4+1)) ic hne).trans g1;have p2:=(HI.out.but.cell (p:=(kb,ko+j*4+2)) ic hne).trans g2;have p3:=(HI.out.but.cell (p:=(kb,ko+j*4+3)) ic hne).trans g3;have p4:=(HI.out.but.cell (p:=(tb,tO+j)) htw (HP.out.hF _ htF)).trans g4;have Cw:=bE _ HP.out.ok vv _ HP.out.hv;rw[okM]at Cw;have Kv:=(zo Cw.1).1 tj (List.mem_of_getElem? Mc);have Cg:But (· = ww) w wr.drew:=HI.out.but.drew;have lm:∀b,(F b/\b<(w:Nat))->¬(b=ww)/\(F b/\b<(w:Nat)):=fun b hb=>⟨HP.out.hF b hb.1,hb⟩;have Hi:zY (fun i=>F i/\i<w) wr.drew (kU sd) [s',.int RD v',.slice DU BP DT,.slice Gm De Gk]:=(zY.low tG).but Cg lm;have L_:=(Rep.low L8).but Cg lm;have FP:=(Rep.low HP.out.re).but Cg lm;have BU:=HP.out.el;have Ce:=HP.out.nl;have Ev:=HP.out.ld;have MQ:=HP.out.d20;have D4:=HP.out.k200;have aT:=dd (f:=evN d) (env:=env) (n:=n) (k:=k) (l:=l) Mc BZ
   obtain⟨oo,QX,Fs,Gh⟩:∃oo,Calls RG 114 #[ww,.agg #[s',.int RD v',.slice DU BP DT,.slice Gm De Gk],.agg #[.slice ua tj.args.length uc],.slice (eb,eo) env.length ecap,(n:Int)] wr.drew (vl (fun i=>F i/\i<w) ww (20001+20*(d:Int)+((j+1:Nat):Int)) oo wr.drew) /\
    (oo=U->kL (evN d) env n k l t.args ss=U) /\
    (∀ y,oo=some y->∃ outs,True/\kL (evN d) env n k l (t.args.take (j+1)) (ss.take (j+1))=some (outs++[y.1],y.2.1,y.2.2)/\outs.length=j/\y.2.1<=k/\y.2.2<=l/\zY (fun i=>Fx F w 4 i/\(RI sa j sc).ownBlock≠some i) wr (zp outs) us /\
     Rep (fun i=>Fx F w 4 i/\(RI sa j sc).ownBlock≠some i) wr (.sl 53 4 ([]:List Bd).length (zp [])) ()):=by
    rcases HI.out.mode with ⟨outs,kj,lj,_,aC,lg,lG,Ex,MA,AE,tq⟩|⟨aC,s,lG,oX,iH⟩
    ·refine⟨evN d kj lj sd (env++opens n tj.args) (n+tj.args.length) [],(open_live d IH.out _ ww kj lj n H tj sd env s' v' DU Gm BP DT De Gk _ _ wr.drew lG (fun i hi=>HP.out.hF i hi.1) (by omega) MQ (by omega) (Gz.2.2.1 j tj sd Mc BZ) HP.out.hn BU Ce Kv HP.out.ok L_ Hi FP ⟨wfBs_at _ HP.out.wf.1.1 j sd BZ,HP.out.wf.2.1⟩).mono ?_,fun h=>?_,fun y h=>?_⟩
     ·rintro en w' ⟨q1,q2,q3,q4,q5,q6,q7,q8,q9,Ol,LU,Ok⟩;exact⟨q1,q2,q3,q4,q5,q6,q7,q8,q9,Ol,fun h=>by obtain⟨st,u1,u2,u3⟩:=LU h;exact⟨st,u1,u2,by omega⟩,Ok⟩
     ·refine ph (j+1) _ _ _ _ ?_;rw[aT,aC];simp only[RF];rw[h];rfl
     ·have tw:=evN_left _ _ _ _ _ _ _ _ _ _ h;exact⟨outs,trivial,by rw[aT,aC];simp only[RF];rw[h];rfl,lg,sU tw.1 Ex,sU tw.2 MA,AE,tq⟩
    ·have P4:=(zo Cw.1).2;refine⟨U,(open_dead _ ww n s tj env s' v' DU Gm BP DT De Gk _ _ wr.drew lG oX (by omega) (by omega) (by omega) Kv L_ FP).mono ?_,fun _=>aC,fun y h=>by simp at h⟩;rintro en w' ⟨q1,q2,q3,q4,q5,q6,q7,q8,q9,Ol,LU,Ok⟩;exact⟨q1,q2,q3,q4,q5,q6,q7,q8,q9,Ol,fun h=>by obtain⟨st,u1,u2,u3⟩:=LU h;exact⟨st,u1,u2,by omega⟩,Ok⟩
   have CC:=r9 QX;have IY:=r9 (r_ Fs Gh);have oP:j+1<=maxLen:=by unfold maxLen;have:=(zo Cw.1).2;omega
   have aI:(j+1)*72<=140737488355328:=by have:=(zo Cw.1).2;omega
   have N7:0<4:=by omega
   have Mm:¬(W2+1=ww):=by rw[HZ.out.1];omega
   have NB:=r9 (show ¬(RI sa j sc).ownBlock=OK ((W2:Nat)+1) from fun e=>by have:=HI.out.fr _ e;omega)
   have OWN:=r9 (fun (w6:World) (h6:But (· = ww) wr.drew w6)=>(HI.out.own.keep (w':=w6) fun g o hg hh=>by
    have:=HI.out.fr g hg
    rw [h6.block g (zZ hh) (fun e=>by have e:g=ww:=e;rw [HZ.out.1] at this;omega)];exact hh))
   have iP:=HZ.out.1;have OO:=HP.out.hF _ htF
   have SX:Hid (∀ w',But (fun i=>i=ww\/(RI sa j sc).ownBlock=some i) wr w'->w' ((W2:Nat)+1,2)=some (.slice sa j sc)/\w' (w,2)=some (.slice (kb,ko) ss.length c1) /\
    w' (kb,ko+j*4)=str s'/\w' (kb,ko+j*4+1)=OK (.int RD v')/\w' (kb,ko+j*4+2)=OK (.slice DU BP DT)/\w' (kb,ko+j*4+3)=OK (.slice Gm De Gk) /\
    w' (W2,5)=some (.slice (tb,tO) t.args.length tc)/\w' (tb,tO+j)=some (.slice ua tj.args.length uc)):=by
    show ∀w',_->_;intro w' sA
    have key:∀ {p:Addr} {u:Value},p.block<W2+2->p.block≠ww->wr.cell? p=u->w'.cell? p=u:=fun hp hne hu=>
     (sA.cell (sK wr _ hu) (fun e=>e.elim hne (fun e=>by have:=HI.out.fr _ e;omega))).trans hu
    exact ⟨key (by show (W2:Nat)+1<_;omega) Mm q2,key (by show (w:Nat)<_;omega) (by show w≠ww;omega) y2,key (by show kb<_;omega) hne p0,key (by show kb<_;omega) hne p1,key (by show kb<_;omega) hne p2,key (by show kb<_;omega) hne p3,
     key (by show (W2:Nat)<_;omega) (by show W2≠ww;omega) z5,key (by show tb<_;omega) OO p4⟩
   have I2:=qf 2;clear Gz hne Mb Cw lm Hi L_ FP aT Fs Gh QX sy DD AD g0 g1 g2 g3 g4 tG L8 BZ Mc qf Cg iP OO y0 y1 y3 q0 q1 q3 p0 p1 p2 p3 p4 z5;go_wp2_with fail
   refine wp_region_noPanic ?_;refine vL (fun w'=>But (fun i=>i=ww\/(RI sa j sc).ownBlock=OK i) wr w') (fun i=>i == 20) (by kernel_rfl) ?_;have sP:But (fun i=>i=ww\/(RI sa j sc).ownBlock=OK i) wr wr.drew:=(But.refl _ wr).drew;refine tC [0,1,2,3,4,5,6,7,8,9,10,11,12,13,14,15] sP ?_;iterate 16 (refine tl (fun w' sL=>SX.out w' sL) ?_)
   refine tz ?_;refine jU 16 (by kernel_rfl) ?_;intro o16 ho K' hK;(simp at ho;subst ho);go_simp;go_at_call 114;(with_reducible refine CC.out.mono ?_);rintro Fu w6 ⟨s6,v6,b1,m1,d1,b2,m2,d2,rfl,sM,oL,Am⟩;have aK:Hid (But (fun i=>i=ww\/(RI sa j sc).ownBlock=OK i) wr w6):=sP.trans (sM.weak fun i _ h=>.inl h);have Oj:=but_cell sM Mm q2;have LT:=sV qlt sM.size;have GO:=but_free sM Mm qlt I2;have tM:=(OWN.out _ sM).alloc (.cells #[s6,.int RD v6,.slice b1 m1 d1,.slice b2 m2 d2] 53);have H6:=r9 (r_ sM (r_ oL Am));clear sM oL Am;(refine hK.out _ _ (fun _=>aK.out) ?_;clear hK K';try simp only[pQ,pN,pZ,pS]);refine jU 17 (by kernel_rfl) ?_;intro o17 ho K' hK;(simp at ho;subst ho);go_simp;(refine hK.out _ _ (fun _=>aK.out.alloc _) ?_;clear hK K';try simp only[pQ,pN,pZ,pS]);refine jU 18 (by kernel_rfl) ?_;intro o18 ho K' hK;(simp at ho;subst ho);refine zL (by rfl) _ _ _ (by rfl) 53 (.agg #[str [],.int RD 0,(),()]) 4 72 SN Tryz.infoN rfl N7 (.slice sa j sc) j us (by rfl) tM _ 1 [s6,.int RD v6,.slice b1 m1 d1,.slice b2 m2 d2] (by rfl) (zz.lit4 #[str s6,.int RD v6,.slice b1 m1 d1,.slice b2 m2 d2] rfl (by simp[str,R4]) _ rfl) oP aI ?_;intro a' c' w7 sj sH sS;(refine hK.out _ _ (fun _=>(aK.out.alloc _).trans (sH.weak fun i _ h=>.inr h)) ?_;clear hK K';try simp only[pQ,pN,pZ,pS]);have aB:=out_cell sH NB.out Oj;have iA:=out_free sH NB.out LT GO;refine jU 19 (by kernel_rfl) ?_;intro o19 ho K' hK;(simp at ho;subst ho);go_simp;(refine hK.out _ _ (fun _=>(aK.out.alloc _).trans (sH.weak fun i _ h=>.inr h)) ?_;clear hK K';try simp only[pQ,pN,pZ,pS]);refine jU 20 (by kernel_rfl) ?_;intro o20 ho K' hK;(simp at ho;subst ho);go_simp;(refine hK.out _ _ (fun h=>by simp at h) ?_;clear hK K';try simp only[pQ,pN,pZ,pS]);refine zX (by kernel_rfl) (RQ ?_) _;have hX:=HI.out.next (by rw[HZ.out.1]) hww HP.out.hF H6.out.1 H6.out.2.1 H6.out.2.2 IY.out.1 IY.out.2 sj sH sS;have HN:=r9 hX;clear hX sj sH sS sP Oj GO tM;go_wp2_with fail
   go_roundw
   case rel=>exact⟨j+1,_,_,by omega,by go_num,HN.out⟩
   case measure=>simp[intOf];omega
  ·obtain rfl:j=ss.length:=by omega
   obtain⟨outs,k1,l1,lC⟩:∃outs k1 l1,NInv F ww (20001+20*(d:Int)+(ss.length:Int)) k l n o vv ss.length env (fun k l b _ _ _=>evN d k l b env n (st.map WFr.gf)) k1 l1 [t,t] [y,no] (kL (evN d) env n k l t.args ss=OK (outs,k1,l1)) (wB d k l n o t ss y no env (st.map WFr.gf)=U) true (.slice sa ss.length sc) outs a1 a2 ta c1 c2 t.args.length tc i0 w ((W2:Nat)+1) 0 () [] wr:=by
    have Cd:=(HP.out.fit.keep HP.out.hv).1;have hI:=HI.out;rcases hI.mode with ⟨outs,kj,lj,_,aC,lg,lG,Ex,MA,AE,_⟩|⟨aC,s,lG,oX,iH⟩
    ·rw[List.take_length,List.take_of_length_le (by omega)]at aC;refine⟨outs,kj,lj,{ but:=hI.but,zw:=hI.zw,box:=hI.box,res:=hI.res,bnd:=hI.bnd,blk:=hI.blk,own:=Sf _ _ _ _,fr:=fun g hg=>by simp[RM]at hg,mode:=.inl ⟨[],kj,lj,aC,by simp[kL],rfl,lG,Ex,MA,by simp[zp,zE],?_⟩ }⟩;rw[lg];refine hI.own.rep (fun g hg=>⟨.inr (by have h1:=hI.fr g hg;have h2:=HZ.out.1;omega),by simp[RM]⟩) ?_;exact(Rep.keep fun b o hf ho=>⟨⟨hf.1,by simp[RM]⟩,ho⟩).2 _ _ AE
    ·exact⟨[],0,0,{ but:=hI.but,zw:=hI.zw,box:=hI.box,res:=hI.res,bnd:=hI.bnd,blk:=hI.blk,own:=Sf _ _ _ _,fr:=fun g hg=>by simp[RM]at hg,mode:=.inr ⟨by unfold wB;rw[aC];rfl,s,lG,oX,by omega⟩ }⟩
   obtain⟨ka,kc,hk⟩:∃a c,RI sa ss.length sc=.slice a ss.length c:=⟨_,_,rfl⟩;rw[hk]at lC;have BJ:=r9 lC;clear lC hk;have OW:ss.length<=15:=by
    have Cw:=bE _ HP.out.ok vv _ HP.out.hv;rw[okM]at Cw;have h1:=(zo Cw.1).2;have h2:=(HP.out.fit.keep HP.out.hv).1;omega
   clear HI y0 y1 y3 q0 q1 q2 q3 qf z5 sC hj;go_wp2_with fail
   clear y2
   go_loopw [14] (fun i wr=>∃(j:Nat) (sv:Value) (us:List Value),j<=2/\i=.int RD j/\NInv F ww (20001+20*(d:Int)+(ss.length:Int)) k l n o vv ss.length env (fun k l b _ _ _=>evN d k l b env n (st.map WFr.gf)) k1 l1 [t,t] [y,no] (kL (evN d) env n k l t.args ss=OK (outs,k1,l1)) (wB d k l n o t ss y no env (st.map WFr.gf)=U) true (.slice ka ss.length kc) outs a1 a2 ta c1 c2 t.args.length tc i0 w ((W2:Nat)+1) j sv us wr) (fun i _=>2-(intOf i).toNat)
   case atStart=>exact⟨0,_,_,by omega,rfl,BJ.out⟩
   case round=>
    rename_i wr;obtain⟨j,sv1,us,hj,rfl,sN⟩:=hrel;obtain⟨sa,sc,e⟩:=sN.own.slice;subst e;obtain⟨y0,y1,y2,y3⟩:=kD sN.box;obtain⟨q0,q1,q2,q3,qlt,qf⟩:=sN.blk.cells;have HI:=r9 sN;clear sN;by_cases sC:j<2
    ·have tB:(j:Int)<2:=by omega
     have OD:Rep F w (.sl 53 4 [y,no].length (zp [y,no])) (.slice a2 2 c2):=by
      have aJ:=HP.out.rb;rw[yG]at aJ;simp only[zQ,zE]at aJ;obtain⟨_,_,e0,_,_,_,rfl,_,_,_,rfl,_,_,_,rfl,h3,_⟩:=aJ;simp only[RY]at e0;obtain⟨_,_,_,e2,_⟩:=e0;rw[e2];exact h3
     obtain⟨ya,yc,e,OE⟩:=bZ.of OD;simp only[RT]at e;obtain⟨rfl,_,rfl⟩:=e;obtain⟨kb,ko,s',v',DU,BP,DT,Gm,De,Gk,sd,e,ic,BZ,g0,g1,g2,g3,tG⟩:=OE j sC;subst e;have Gz:=HP.out.fit.keep HP.out.hv;have hne:kb≠ww:=node_ne HP.out.wri g0;have p0:=(HI.out.but.cell (p:=(kb,ko+j*4)) ic hne).trans g0;have p1:=(HI.out.but.cell (p:=(kb,ko+j*4+1)) ic hne).trans g1;have p2:=(HI.out.but.cell (p:=(kb,ko+j*4+2)) ic hne).trans g2;have p3:=(HI.out.but.cell (p:=(kb,ko+j*4+3)) ic hne).trans g3;have Cg:But (· = ww) w wr.drew:=HI.out.but.drew;have lm:∀b,(F b/\b<(w:Nat))->¬(b=ww)/\(F b/\b<(w:Nat)):=fun b hb=>⟨HP.out.hF b hb.1,hb⟩;have Hi:zY (fun i=>F i/\i<w) wr.drew (kU sd) [s',.int RD v',.slice DU BP DT,.slice Gm De Gk]:=(zY.low tG).but Cg lm;have FP:=(Rep.low HP.out.re).but Cg lm;have Pa:=(Rep.low HP.out.rs).but Cg lm;have BU:=HP.out.el;have Ce:=HP.out.nl;have Ev:=HP.out.ld;have MQ:=HP.out.d20;have D4:=HP.out.k200;have lN:=HP.out.stl;have hfj:jo H sd env (st.map WFr.gf):=by
      rcases(by omega:j=0\/j=1) with rfl|rfl
      ·simp at BZ;subst BZ;exact Gz.2.2.2.1
      ·simp at BZ;subst BZ;exact Gz.2.2.2.2
     have hwj:wfB sd:=by
      rcases(by omega:j=0\/j=1) with rfl|rfl
      ·simp at BZ;subst BZ;exact HP.out.wf.1.2.1
      ·simp at BZ;subst BZ;exact HP.out.wf.1.2.2
     have Mc:[t,t][j]?=OK t:=by
      rcases(by omega:j=0\/j=1) with rfl|rfl <;> rfl
     have aT:=dd (f:=fun k l b _ _ _=>evN d k l b env n (st.map WFr.gf)) (env:=env) (n:=n) (k:=k1) (l:=l1) Mc BZ
     obtain⟨oo,QX,Fs,Gh⟩:∃oo,Calls RG 71 #[ww,.agg #[s',.int RD v',.slice DU BP DT,.slice Gm De Gk],.slice (eb,eo) env.length ecap,sv,(n:Int)] wr.drew (vl (fun i=>F i/\i<w) ww (20001+20*(d:Int)+(ss.length:Int)+((j+1:Nat):Int)) oo wr.drew) /\
      (oo=U->wB d k l n o t ss y no env (st.map WFr.gf)=U) /\
      (∀ x,oo=some x->∃ zs,kL (evN d) env n k l t.args ss=some (outs,k1,l1)/\kL (fun k l b _ _ _=>evN d k l b env n (st.map WFr.gf)) env n k1 l1 ([t,t].take (j+1)) ([y,no].take (j+1))=some (zs++[x.1],x.2.1,x.2.2)/\zs.length=j/\x.2.1<=k/\x.2.2<=l/\zY (fun i=>Fx F w 4 i/\(RI sa j sc).ownBlock≠some i) wr (zp zs) us /\
       Rep (fun i=>Fx F w 4 i/\(RI sa j sc).ownBlock≠some i) wr (.sl 53 4 outs.length (zp outs)) (.slice ka ss.length kc)):=by
      rcases HI.out.mode with ⟨zs,kj,lj,hA,aC,lg,lG,Ex,MA,AE,tq⟩|⟨aC,s,lG,oX,iH⟩
      ·refine⟨evN d kj lj sd env n (st.map WFr.gf),(IH.out _ ww kj lj n H sd env st s' v' DU Gm BP DT De Gk _ _ wr.drew { wri:=lG,hF:=fun i hi=>HP.out.hF i hi.1,ld:=by omega,d20:=MQ,k200:=by omega,fit:=hfj,hn:=HP.out.hn,el:=by omega,nl:=by omega,stl:=by omega,ok:=qY (by omega) _ HP.out.ok,okg:=vm (by omega) _ HP.out.okg,wf:=⟨hwj,HP.out.wf.2⟩,rb:=Hi,re:=FP,rs:=Pa }).mono ?_,fun h=>?_,fun x h=>?_⟩
       ·rintro en w' ⟨q1,q2,q3,q4,q5,q6,q7,q8,q9,Ol,LU,Ok⟩;exact⟨q1,q2,q3,q4,q5,q6,q7,q8,q9,Ol,fun h=>by obtain⟨st,u1,u2,u3⟩:=LU h;exact⟨st,u1,u2,by omega⟩,Ok⟩
       ·have oW:kL (fun k l b _ _ _=>evN d k l b env n (st.map WFr.gf)) env n k1 l1 [t,t] [y,no]=U:=by
         refine ph (j+1) _ _ _ _ ?_;rw[aT,aC];simp only[RF];rw[h];rfl
        exact keptN_none hA oW
       ·have tw:=evN_left _ _ _ _ _ _ _ _ _ _ h;exact⟨zs,hA,by rw[aT,aC];simp only[RF];rw[h];rfl,lg,sU tw.1 Ex,sU tw.2 MA,AE,tq⟩
      ·refine⟨U,(mu ww s _ s' v' DU Gm BP DT De Gk rfl _ _ n wr.drew lG oX (by omega)).mono ?_,fun _=>aC,fun y h=>by simp at h⟩;rintro en w' ⟨rfl,q1,q2⟩;exact⟨_,_,_,_,_,_,_,_,rfl,q1,fun _=>⟨_,q2,by omega,by omega⟩,fun x h=>by simp at h⟩
     have CC:=r9 QX;have IY:=r9 (r_ Fs Gh);have oP:j+1<=maxLen:=by unfold maxLen;omega
     have aI:(j+1)*72<=140737488355328:=by omega
     have N7:0<4:=by omega
     have Mm:¬(W2+1=ww):=by rw[HZ.out.1];omega
     have NB:=r9 (show ¬(RI sa j sc).ownBlock=OK ((W2:Nat)+1) from fun e=>by have:=HI.out.fr _ e;omega)
     have OWN:=r9 (fun (w6:World) (h6:But (· = ww) wr.drew w6)=>(HI.out.own.keep (w':=w6) fun g o hg hh=>by
      have:=HI.out.fr g hg
      rw [h6.block g (zZ hh) (fun e=>by have e:g=ww:=e;rw [HZ.out.1] at this;omega)];exact hh))
     have iP:=HZ.out.1
     have SX:Hid (∀ w',But (fun i=>i=ww\/(RI sa j sc).ownBlock=some i) wr w'->w' ((W2:Nat)+1,3)=some (.slice sa j sc)/\w' (w,3)=some (.slice (kb,ko) 2 c2) /\
      w' (kb,ko+j*4)=str s'/\w' (kb,ko+j*4+1)=some (.int .i64 v')/\w' (kb,ko+j*4+2)=some (.slice DU BP DT)/\w' (kb,ko+j*4+3)=some (.slice Gm De Gk)/\True/\True):=by
      show ∀w',_->_;intro w' sA
      have key:∀ {p:Addr} {u:Value},p.block<W2+2->p.block≠ww->wr.cell? p=u->w'.cell? p=u:=fun hp hne hu=>
       (sA.cell (sK wr _ hu) (fun e=>e.elim hne (fun e=>by have:=HI.out.fr _ e;omega))).trans hu
      exact⟨key (by show (W2:Nat)+1<_;omega) Mm q3,key (by show (w:Nat)<_;omega) (by show w≠ww;omega) y3,key (by show kb<_;omega) hne p0,key (by show kb<_;omega) hne p1,key (by show kb<_;omega) hne p2,key (by show kb<_;omega) hne p3,trivial,trivial⟩
     have q2:wr ((W2:Nat)+1,3)=OK (.slice sa j sc):=q3;have I2:=qf 3;clear Gz hne lm Hi Pa FP aT Fs Gh QX OD OE g0 g1 g2 g3 tG BZ Mc hfj hwj qf Cg iP y0 y1 y2 y3 q0 q1 q3 p0 p1 p2 p3;go_wp2_with fail
     refine wp_region_noPanic ?_;refine vL (fun w'=>But (fun i=>i=ww\/(RI sa j sc).ownBlock=OK i) wr w') (fun i=>i == 15) (by kernel_rfl) ?_;have sP:But (fun i=>i=ww\/(RI sa j sc).ownBlock=OK i) wr wr.drew:=(But.refl _ wr).drew;refine tC [0,1,2,3,4,5,6,7,8,9,10] sP ?_;iterate 11 (refine tl (fun w' sL=>SX.out w' sL) ?_)
     refine tz ?_;refine jU 11 (by kernel_rfl) ?_;intro o11 ho K' hK;(simp at ho;subst ho);go_simp;go_at_call 71;(with_reducible refine CC.out.mono ?_);rintro Fu w6 ⟨s6,v6,b1,m1,d1,b2,m2,d2,rfl,sM,oL,Am⟩;have aK:Hid (But (fun i=>i=ww\/(RI sa j sc).ownBlock=OK i) wr w6):=sP.trans (sM.weak fun i _ h=>.inl h);have Oj:=but_cell sM Mm q2;have LT:=sV qlt sM.size;have GO:=but_free sM Mm qlt I2;have tM:=(OWN.out _ sM).alloc (.cells #[s6,.int RD v6,.slice b1 m1 d1,.slice b2 m2 d2] 53);have H6:=r9 (r_ sM (r_ oL Am));clear sM oL Am;(refine hK.out _ _ (fun _=>aK.out) ?_;clear hK K';try simp only[pQ,pN,pZ,pS]);refine jU 12 (by kernel_rfl) ?_;intro o12 ho K' hK;(simp at ho;subst ho);go_simp;(refine hK.out _ _ (fun _=>aK.out.alloc _) ?_;clear hK K';try simp only[pQ,pN,pZ,pS]);refine jU 13 (by kernel_rfl) ?_;intro o13 ho K' hK;(simp at ho;subst ho);refine zL (by rfl) _ _ _ (by rfl) 53 (.agg #[str [],.int RD 0,(),()]) 4 72 SN Tryz.infoN rfl N7 (.slice sa j sc) j us (by rfl) tM _ 1 [s6,.int RD v6,.slice b1 m1 d1,.slice b2 m2 d2] (by rfl) (zz.lit4 #[str s6,.int RD v6,.slice b1 m1 d1,.slice b2 m2 d2] rfl (by simp[str,R4]) _ rfl) oP aI ?_;intro a' c' w7 sj sH sS;(refine hK.out _ _ (fun _=>(aK.out.alloc _).trans (sH.weak fun i _ h=>.inr h)) ?_;clear hK K';try simp only[pQ,pN,pZ,pS]);have aB:=out_cell sH NB.out Oj;have iA:=out_free sH NB.out LT GO;refine jU 14 (by kernel_rfl) ?_;intro o14 ho K' hK;(simp at ho;subst ho);go_simp;(refine hK.out _ _ (fun _=>(aK.out.alloc _).trans (sH.weak fun i _ h=>.inr h)) ?_;clear hK K';try simp only[pQ,pN,pZ,pS]);refine jU 15 (by kernel_rfl) ?_;intro o15 ho K' hK;(simp at ho;subst ho);go_simp;(refine hK.out _ _ (fun h=>by simp at h) ?_;clear hK K';try simp only[pQ,pN,pZ,pS]);refine zX (by kernel_rfl) (RQ ?_) _;have hX:=HI.out.next (by rw[HZ.out.1]) hww HP.out.hF H6.out.1 H6.out.2.1 H6.out.2.2 IY.out.1 IY.out.2 sj sH sS;have HN:=r9 hX;clear hX sj sH sS sP Oj GO tM;go_wp2_with fail
     go_roundw
     case rel=>exact⟨j+1,_,_,by omega,by go_num,HN.out⟩
     case measure=>simp[intOf];omega
    ·obtain rfl:j=2:=by omega
     obtain⟨r0,r1,r2,r3,rlt,rf⟩:=HI.out.res.cells;have iX:=rf 0;have iu:=rf 1;have lA:=rf 2;have Aj:=rf 3;have q2':wr ((W2:Nat)+1,2)=OK (.slice ka ss.length kc):=q2;have q3':wr ((W2:Nat)+1,3)=OK (.slice sa 2 sc):=q3;clear q2 q3 y0 y1 y2 y3 qf rf;go_wp2_with fail
     have I_:wB d k l n o t ss y no env (st.map WFr.gf)=U->∃s,Wri wr ww (-1) s/\0<=s/\s<=20001+20*((d:Int)+1):=by
      intro h0;rcases HI.out.mode with ⟨zs,kj,lj,hA,aC,lg,lG,Ex,MA,AE,tq⟩|⟨aC,s,lG,oX,iH⟩
      ·obtain⟨z1,z2,_,h2⟩:=keptN_of (o:=o) hA aC;rw[h2]at h0;simp at h0
      ·exact⟨s,lG,oX,by omega⟩
     have GZ:∀x,wB d k l n o t ss y no env (st.map WFr.gf)=OK x->Wri wr ww (x.2.1:Nat) (20000-(x.2.2:Nat))/\zY (fun i=>(F i/\i<w)\/w+2<=i) wr (kU x.1) [str [],(o:Int),.slice ka ss.length kc,.slice sa 2 sc]:=by
      intro x hx;rcases HI.out.mode with ⟨zs,kj,lj,hA,aC,lg,lG,Ex,MA,AE,tq⟩|⟨aC,s,lG,oX,iH⟩
      ·obtain⟨z1,z2,hz,h2⟩:=keptN_of (o:=o) hA aC;rw[h2]at hx;simp only[RK]at hx;subst hx;subst hz;refine⟨lG,?_⟩
       have hgg:∀ (i:Nat) (y:Obj),(Fx F w 4 i/\(RI sa 2 sc).ownBlock≠some i)->wr.heap[i]? = some y->((F i/\i<w)\/w+2<=i)/\wr.heap[i]? = some y:=fun i y hi hy=>⟨by
        rcases hi.1 with h|h
        ·exact .inl h
        ·exact .inr (by omega),hy⟩
       have FO:=(Rep.keep hgg).1 _ _ tq;have hlo:outs.length=ss.length:=by
        rw[zv]at FO;obtain⟨_,a,cap,e,_⟩:=FO;simp only[RT]at e;exact e.2.1.symm
       rw[yG];refine zQ.2 ⟨_,_,rfl,zC.2 rfl,zQ.2 ⟨_,_,rfl,zC.2 rfl,zQ.2 ⟨_,_,rfl,FO,zQ.2 ⟨_,_,rfl,?_,zE.2 rfl⟩⟩⟩⟩;exact HI.out.own.rep (fun g hg=>.inr (by have h1:=HI.out.fr g hg;have h2:=HZ.out.1;omega)) ((Rep.keep hgg).2 _ _ AE)
      ·rw[aC]at hx;simp at hx
     obtain⟨W4,lX,tm,tp,tf,aQ,ig⟩:=wj (F:=F) (D:=20001+20*((d:Int)+1)) (o:=wB d k l n o t ss y no env (st.map WFr.gf)) (s:=[]) (v:=(o:Nat)) (a1:=ka) (n1:=ss.length) (c1:=kc) (a2:=sa) (n2:=2) (c2:=sc) HI.out.but hww HI.out.res I_ GZ;rw[<- lX];exact bodyPost_ret (v:=.agg #[str [],(o:Int),.slice ka ss.length kc,.slice sa 2 sc]) (by simp[results,Tryz.results97,go_sem,tm,tp,tf,aQ]) rfl ig
def yh (B:Nat)(x0 x1 x2 x3:Value)(w:World):World:=(((w.setCell B x0).setCell (B,1) x1).setCell (B,2) x2).setCell (B,3) x3
theorem x_ {B:Nat}{x0 x1 x2 x3:Value}{m:Nat->Prop}{a w:World}(h:But m a w)(hm:m B):But m a (yh B x0 x1 x2 x3 w):=
 (((h.setCell (p:=B) (.inl hm) _).setCell (p:=⟨B,1,U⟩) (.inl hm) _).setCell (p:=⟨B,2,U⟩) (.inl hm) _).setCell (p:=⟨B,3,U⟩) (.inl hm) _
theorem pB {B:Nat}{u0 u1 u2 u3 x0 x1 x2 x3:Value}{e:TypeId}{w:World}(h:w.heap[B]?=OK (.cells #[u0,u1,u2,u3] e (0,0))):(yh B x0 x1 x2 x3 w).heap[B]?=OK (.cells #[x0,x1,x2,x3] e (0,0)):=by
 unfold yh;rw[zT (zT (zT (zT h)))];rfl
def leftW (ww:Nat)(wr:World):Nat:=match wr.heap[ww]? with
 |some (.cells c _ _)=>(20001-intOf (c.getD 1 (.int RD 0))).toNat
 |_=>0
theorem pP {w:World}{ww:Nat}{k s:Int}(h:Wri w ww k s):leftW ww w=(20001-s).toNat:=by
 unfold Wri at h;unfold leftW;rw[h];simp[intOf]
structure WAt (F:Nat->Prop)(ww d k l n:Nat)(H:List Ty)(b:Bd)(env:List Mn)(st:List WFr)(s0:Bs)(v0:Int)(a1 a2:Option Addr)(n1 c1 n2 c2:Nat)(ev sv:Value)(w wr:World):Prop where
 pre:rO (Fx F w 2) ww d k l n H b env st s0 v0 a1 a2 n1 c1 n2 c2 ev sv wr
 box:wr.heap[(w:Nat)]?=OK (.cells #[s0,.int RD v0,.slice a1 n1 c1,.slice a2 n2 c2] 53 (0,0))
 res:z9 ((w:Nat)+1) 0 () () wr
 but:But (· = ww) w wr
 zw:(w:Nat)+2<=(wr:Nat)
 hww:ww<w
theorem Fx.low {F:Nat->Prop}{ww:Nat}{w:World}(hF:∀i,F i->i≠ww)(hww:ww<w)(i:Nat)(h:Fx F w 2 i):i≠ww/\i≠(w:Nat)/\i≠(w:Nat)+1:=by
 rcases h with h|h
 ·exact⟨hF i h.1,by have:=h.2;omega,by have:=h.2;omega⟩
 ·exact⟨by omega,by omega,by omega⟩
theorem Fx.low' {F:Nat->Prop}{ww:Nat}{w:World}(hF:∀i,Fx F w 2 i->i≠ww){i:Nat}(h:Fx F w 2 i)(_:0<=i):i≠ww/\i≠(w:Nat):=by
 refine⟨hF i h,?_⟩;rcases h with h|h
 ·have:=h.2;omega
 ·omega
theorem WAt.start {F:Nat->Prop}{ww d k l n:Nat}{H:List Ty}{b:Bd}{env:List Mn}{st:List WFr}{s0:Bs}{v0:Int}{a1 a2:Option Addr}{n1 c1 n2 c2:Nat}{ev sv:Value}{w:World}(h:rO F ww d k l n H b env st s0 v0 a1 a2 n1 c1 n2 c2 ev sv w) :
 WAt F ww d k l n H b env st s0 v0 a1 a2 n1 c1 n2 c2 ev sv w ((w.alloc (.cells #[s0,.int RD v0,.slice a1 n1 c1,.slice a2 n2 c2] 53)).alloc (.cells #[str [],.int RD 0,(),()] 53)):=by
 have hww:=h.wri.cell.2.2.2
 have kk:∀(i:Nat) (o:Obj),F i->w.heap[i]?=OK o->Fx F w 2 i/\((w.alloc (.cells #[s0,.int RD v0,.slice a1 n1 c1,.slice a2 n2 c2] 53)).alloc (.cells #[str [],.int RD 0,(),()] 53)).heap[i]?=OK o:=
  fun i o hf ho=>⟨.inl ⟨hf,zZ ho⟩,zJ (zJ ho)⟩
 have hn:=zW (w.alloc (.cells #[s0,.int RD v0,.slice a1 n1 c1,.slice a2 n2 c2] 53)) (.cells #[str [],.int RD 0,(),()] 53);rw[zK]at hn
 exact { pre:={ wri:=zJ (zJ h.wri),hF:=fun i hi=>by
                 rcases hi with hi|hi
                 ·exact h.hF i hi.1
                 ·omega
                ld:=h.ld,d20:=h.d20,k200:=h.k200,fit:=h.fit,hn:=h.hn,el:=h.el,nl:=h.nl,stl:=h.stl,ok:=h.ok,okg:=h.okg,wf:=h.wf,rb:=(Rep.keep kk).2 _ _ h.rb,re:=(Rep.keep kk).1 _ _ h.re,rs:=(Rep.keep kk).1 _ _ h.rs },
         box:=zJ (zW _ _),res:=hn,but:=((But.refl _ _).alloc _).alloc _,zw:=by simp only [zK];omega,hww:=hww }
theorem WAt.move {F:Nat->Prop}{ww d k l n:Nat}{H:List Ty}{b:Bd}{env:List Mn}{st:List WFr}{s0:Bs}{v0:Int}{a1 a2:Option Addr}{n1 c1 n2 c2:Nat}{ev sv:Value}{w wr:World}(h:WAt F ww (d+1) k (l+1) n H b env st s0 v0 a1 a2 n1 c1 n2 c2 ev sv w wr){w8:World}{b':Bd}{env':List Mn}{st':List WFr}{tm:Bs}{LB:Int}{a1' DU:Option Addr}{n1' c1' BP DT:Nat}{ev' sv':Value}(aw:But (fun i=>i=ww\/i=w) wr w8)(Kq:Wri w8 ww (k:Nat) (20000-(l:Nat)))(hbox:w8.heap[(w:Nat)]?=OK (.cells #[tm,.int RD LB,.slice a1' n1' c1',.slice DU BP DT] 53 (0,0)))(fit:jo H b' env' (st'.map WFr.gf))(el:env'.length+16*d<=1000000)(stl:st'.length+d<=40000)(ok:xP (1000000-16*d) env')(okg:okGs (1000000-16*d) (st'.map WFr.gf))(wf:wfB b'/\wh env'/\∀f∈st'.map WFr.gf,wfG f)(rb:zY (Fx F w 2) w8 (kU b') [tm,.int RD LB,.slice a1' n1' c1',.slice DU BP DT])(re:Rep (Fx F w 2) w8 (.sl 147 9 env'.length (qJ env')) ev')(rs:Rep (Fx F w 2) w8 (.sl 155 6 st'.length (yB st')) sv') :
 WAt F ww d k l n H b' env' st' tm LB a1' DU n1' c1' BP DT ev' sv' w w8:=by
 have hz:=aw.size;have Al:=h.zw;have hww:=h.hww;have Ev:=h.pre.ld;have hd:=h.pre.d20;have Ce:=h.pre.nl
 exact { pre:={ wri:=Kq,hF:=h.pre.hF,ld:=by omega,d20:=by omega,k200:=h.pre.k200,fit:=fit,hn:=h.pre.hn,el:=el,nl:=by omega,stl:=stl,ok:=ok,okg:=okg,wf:=wf,rb:=rb,re:=re,rs:=rs },
         box:=hbox,res:=h.res.but aw (by omega),but:=h.but.trans' aw (fun i hi e=>by rcases e with e | e;exact e;omega),zw:=by omega,hww:=hww }
theorem cU {F:Nat->Prop}{w:World}:∀(st:List WFr) (us:List Value),zY F w (yB st) us->∀u∈us,u.oneCell'=true
 |[],us,h,u,hu=>by rw[yB,zE]at h;subst h;simp at hu
 | f::st,us,h,u,hu=>by
   rw[yB]at h;obtain⟨h1,h2⟩:=h.split;rw[<- List.take_append_drop (yB st).length us]at hu;rcases List.mem_append.1 hu with hu|hu
   ·exact cU st _ h1 u hu
   ·rw[encF,yG]at h2;simp only[List.cons_append,Ss,zQ,zE,zC]at h2;obtain⟨_,_,e,rfl,_,_,rfl,rfl,x2,_,rfl,q2,x3,_,rfl,q3,x4,_,rfl,q4,_,_,rfl,rfl,rfl⟩:=h2;obtain⟨_,ie,iq,e1,_⟩:=zv.1 q2;obtain⟨_,i6,iZ,e2,_⟩:=zv.1 q3;obtain⟨_,ea,ec,e3,_⟩:=zv.1 q4;subst e1;subst e2;subst e3;rw[e]at hu;simp only[Sc,List.not_mem_nil,or_false]at hu;rcases hu with rfl|rfl|rfl|rfl|rfl|rfl <;> rfl
theorem Tryz.infoFW:(RG.info? 155).map (fun i=>(i.zero,i.size,i.bytes))=OK (OK (.agg #[str [],.int RD 0,(),(),(),.int RD 0]),6,104):=by kernel_rfl
def WRel (F:Nat->Prop)(ww D k n:Nat)(H:List Ty)(R:Option (Bd×Nat×Nat))(w:World)(ev sv:Value)(wr:World):Prop:=
 ∃d l b env st s0 v0 a1 a2 n1 c1 n2 c2,d<=D/\R=evN d k l b env n (st.map WFr.gf)/\WAt F ww d k l n H b env st s0 v0 a1 a2 n1 c1 n2 c2 ev sv w wr
theorem write_step (D:Nat)(ih:∀d,d<D->pC d):pC D:=by
 intro F ww k L n H b0 Q4 st0 s00 v00 J_ Fv n10 J8 n20 c20 ev0 sv0 w h
 suffices HS:∀R,R=evN D k L b0 Q4 n (st0.map WFr.gf)->Calls RG 71 #[ww,.agg #[s00,.int RD v00,.slice J_ n10 J8,.slice Fv n20 c20],ev0,sv0,(n:Int)] w (vl F ww (20001+20*D) R w) from HS _ rfl
 intro R hR;have IH:=r9 ih;have lC:=WAt.start h;have hD20:=h.d20;have BJ:=r9 lC;clear h lC ih;obtain⟨W,hW⟩:=zzN ((w.alloc (.cells #[s00,.int RD v00,.slice J_ n10 J8,.slice Fv n20 c20] 53)).alloc (.cells #[str [],.int RD 0,(),()] 53));have HW:=r9 hW;clear hW;have HR:=r9 hR;clear hR;go_enter Tryz.func71,Tryz.ntmps71;go_upto_region 1 with (fail)
 rw[HW.out];go_wp2_with fail
 go_loopw [2,3] (fun e s wr=>WRel F ww D k n H R w e s wr) (fun _ _ wr=>leftW ww wr)
 case atStart=>exact⟨D,L,b0,Q4,st0,s00,v00,J_,Fv,n10,J8,n20,c20,sZ _,HR.out,by rw[<- HW.out];exact BJ.out⟩
 case round=>
  obtain⟨d,l,b,env,st,s0,v0,a1,a2,n1,c1,n2,c2,hdD,hRe,sG⟩:=hrel;have Ja:=pP sG.pre.wri;obtain⟨s,hs⟩:∃s:Int,s=20000-(l:Int):=⟨_,rfl⟩;have hl20:l<=20000:=by have:=sG.pre.ld;have:=sG.pre.d20;omega
  have oX:0<=s:=by omega
  have iH:s<=20000:=by omega
  have IM:Wri wr ww (k:Nat) s:=by rw[hs];exact sG.pre.wri
  obtain⟨k0,k1,kf,klt⟩:=IM.cell;have Ow:=kf 1;have PX:=sG.pre.k200;obtain⟨W2,se⟩:=zzN (wr.setCell (ww,1) (.int RD (s+1)));have AP:Wri W2 ww (k:Nat) (s+1):=by unfold Wri at *;rw[<- se,zT IM];rfl
  have sY:But (· = ww) wr W2:=by rw[<- se];exact(But.refl (· = ww) wr).setCell (p:=⟨ww,1,U⟩) (.inl rfl) _
  have hww:=sG.hww;have MU:W2.heap[(w:Nat)]?=OK (.cells #[s0,.int RD v0,.slice a1 n1 c1,.slice a2 n2 c2] 53 (0,0)):=by
   have hx:=sG.box;rw[sY.block _ (zZ hx) (by omega)];exact hx
  have aY:z9 ((w:Nat)+1) 0 () () W2:=sG.res.but sY (by omega);obtain⟨m0,m1,mf,mlt⟩:=AP.cell;have mf0:=mf 0;have s_:=r9 (r_ hdD (r_ hRe (r_ Ja (r_ hs sG))));have H2:=r9 (r_ se (r_ AP (r_ sY (r_ MU aY))));obtain⟨y0,y1,y2,y3⟩:=kD MU;clear hdD hRe Ja hs sG se AP sY MU aY IM kf mf;by_cases BE:k=0\/l=0
  ·have HB:=r9 BE;have La:R=U:=by
    rw[s_.out.2.1];rcases BE with h|h
    ·rw[h];exact evN_zk
    ·rw[h];exact evN_zl
   obtain⟨W3,aH⟩:=zzN (W2.setCell ww (.int RD (-1)));have Ag:Wri W3 ww (-1) (s+1):=by have:=H2.out.2.1;unfold Wri at *;rw[<- aH,zT this];rfl
   have sE:But (· = ww) W2 W3:=by rw[<- aH];exact(But.refl (· = ww) W2).setCell (p:=ww) (.inl rfl) _
   have t_:z9 ((w:Nat)+1) 0 () () W3:=H2.out.2.2.2.2.but sE (by omega);obtain⟨r0,r1,r2,r3,rlt,rf⟩:=t_.cells;have iX:=rf 0;have iu:=rf 1;have lA:=rf 2;have Aj:=rf 3;have ig:=wj (F:=F) (ww:=ww) (D:=20001+20*(D:Int)) (o:=R) (s:=[117]) (v:=0) (a1:=U) (n1:=0) (c1:=0) (a2:=U) (n2:=0) (c2:=0) ((s_.out.2.2.2.2.but.trans H2.out.2.2.1).trans sE) hww t_ (fun _=>⟨s+1,Ag,by omega,by omega⟩) (fun x hx=>by rw[La]at hx;simp at hx);have HQ:=r9 (r_ aH ig);clear aH Ag sE t_ rf La ig;rcases BE with hk|hl
   ·subst hk;have m0':W2 ww=OK (.int RD 0):=m0;have k0':wr ww=OK (.int RD 0):=k0;clear m0 k0;go_upto_region 2 with (fail)
    rw[H2.out.1];go_upto_region 4 with (fail)
    rw[HQ.out.1];go_wp2_with fail
    obtain⟨W4,lX,tm,tp,tf,aQ,hp⟩:=HQ.out.2;rw[show (US ⟨#[117]⟩)=str [117] from rfl,<- lX];exact bodyPost_ret (v:=.agg #[str [117],.int RD 0,(),()]) (by simp[results,TI,go_sem,tm,tp,tf,aQ]) rfl hp
   ·by_cases hk:k=0
    focus
     subst hk;have m0':W2 ww=OK (.int RD 0):=m0;have k0':wr ww=OK (.int RD 0):=k0;clear m0 k0
    rotate_left
    focus
     have Jd:¬((k:Int)<1):=by omega
     have lR:(20000:Int)<s+1:=by have:=s_.out.2.2.2.1;omega
    all_goals
     go_upto_region 2 with (fail)
     rw[H2.out.1];go_upto_region 4 with (fail)
     rw[HQ.out.1];go_wp2_with fail
     obtain⟨W4,lX,tm,tp,tf,aQ,hp⟩:=HQ.out.2;rw[show (US ⟨#[117]⟩)=str [117] from rfl,<- lX];exact bodyPost_ret (v:=.agg #[str [117],.int RD 0,(),()]) (by simp[results,TI,go_sem,tm,tp,tf,aQ]) rfl hp
  ·obtain⟨k,rfl⟩:∃k',k=k'+1:=⟨k-1,by omega⟩;obtain⟨l,rfl⟩:∃l',l=l'+1:=⟨l-1,by omega⟩;obtain⟨d,rfl⟩:∃d',d=d'+1:=⟨d-1,by have:=s_.out.2.2.2.2.pre.ld;omega⟩;have m0':W2 ww=OK (.int RD ((k:Int)+1)):=by rw[m0];rfl
   have Jd:¬((k:Int)+1<1):=by omega
   have lR:¬((20000:Int)<s+1):=by have:=s_.out.2.2.2.1;omega
   have tt:s+1=20000-(l:Int):=by have:=s_.out.2.2.2.1;omega
   have Li:=r9 tt;have BN:=s_.out.2.2.2.2.pre.rb.but H2.out.2.2.1 (F':=Fx F w 2) (fun i hi=>⟨s_.out.2.2.2.2.pre.hF i hi,hi⟩);clear m0 tt BE hl20;have re2:=s_.out.2.2.2.2.pre.re.but H2.out.2.2.1 (F':=Fx F w 2) (fun i hi=>⟨s_.out.2.2.2.2.pre.hF i hi,hi⟩);have rs2:=s_.out.2.2.2.2.pre.rs.but H2.out.2.2.1 (F':=Fx F w 2) (fun i hi=>⟨s_.out.2.2.2.2.pre.hF i hi,hi⟩);have BK:=r9 (r_ BN (r_ re2 rs2));obtain⟨bv,bx2,bk2,bx3,bk3,ebx,-,-⟩:=jA BN;simp only[RY,UL,RT,and_true,true_and]at ebx;obtain⟨eat,rfl,⟨rfl,ek2,rfl⟩,rfl,ek3,rfl⟩:=ebx;obtain⟨sa,scap,esv⟩:∃a c,u3=.slice a st.length c:=by have h:=rs2;rw[zv]at h;obtain⟨_,a,c,e,_⟩:=h;exact⟨a,c,e⟩
   clear BN re2 rs2;cases b with
   | leaf c =>
     have QG:z_ (.leaf c)=[c]:=rfl;rw[eat,QG]at y0;have EAT:=r9 eat;subst esv;by_cases oU:c=117
     ·subst oU;have Gg:R=OK (.leaf 117,k,l):=by rw[s_.out.2.1];exact evN_u
      obtain⟨W3,aH⟩:=zzN (W2.setCell ww (.int RD (k:Nat)));have Ag:Wri W3 ww (k:Nat) (s+1):=by have:=H2.out.2.1;unfold Wri at *;rw[<- aH,zT this];rfl
      have sE:But (· = ww) W2 W3:=by rw[<- aH];exact(But.refl (· = ww) W2).setCell (p:=ww) (.inl rfl) _
      have t_:z9 ((w:Nat)+1) 0 () () W3:=H2.out.2.2.2.2.but sE (by omega);obtain⟨r0,r1,r2,r3,rlt,rf⟩:=t_.cells;have iX:=rf 0;have iu:=rf 1;have lA:=rf 2;have Aj:=rf 3;have x0:W3 w=OK (.string ⟨#[117]⟩):=(sE.cell (p:=w) (sK W2 _ y0) (by show w≠ww;omega)).trans y0;have y0':W2 w=OK (.string ⟨#[117]⟩):=y0
      have ig:=wj (F:=F) (ww:=ww) (D:=20001+20*(D:Int)) (o:=R) (s:=[117]) (v:=0) (a1:=U) (n1:=0) (c1:=0) (a2:=U) (n2:=0) (c2:=0) ((s_.out.2.2.2.2.but.trans H2.out.2.2.1).trans sE) hww t_ (fun h=>by rw[Gg]at h;simp at h)
       (fun x hx=>by rw[Gg]at hx;simp only[RK]at hx;subst hx;exact⟨by rw[<- Li.out];exact Ag,fQ _ _ _⟩)
      have HQ:=r9 (r_ aH ig);clear aH Ag sE t_ rf Gg ig y0;go_upto_region 2 with (fail)
      rw[H2.out.1];go_upto_region 7 with (fail)
      rw[HQ.out.1];go_wp2_with fail
      obtain⟨W4,lX,tm,tp,tf,aQ,hp⟩:=HQ.out.2;rw[show (US ⟨#[117]⟩)=str [117] from rfl,<- lX];exact bodyPost_ret (v:=.agg #[str [117],.int RD 0,(),()]) (by simp[results,TI,go_sem,tm,tp,tf,aQ]) rfl hp
     ·obtain⟨S,Fp⟩:∃S:Bs,S=[c]:=⟨_,rfl⟩;rw[<- Fp]at y0;have e117:(S == [117])=RC:=by rw[beq_eq_false_iff_ne,Fp];simpa using oU
      have ene:(S != [])=true:=by rw[bne_iff_ne,Fp];simp
      have ene2:(!S.isEmpty)=true:=by rw[Fp];rfl
      have HS1:=r9 Fp;clear Fp;cases st with
      | nil =>
        have Gg:R=OK (.leaf c,k,l):=by rw[s_.out.2.1];exact evN_end
        obtain⟨W3,aH⟩:=zzN (W2.setCell ww (.int RD (k:Nat)));have Ag:Wri W3 ww (k:Nat) (s+1):=by have:=H2.out.2.1;unfold Wri at *;rw[<- aH,zT this];rfl
        have sE:But (· = ww) W2 W3:=by rw[<- aH];exact(But.refl (· = ww) W2).setCell (p:=ww) (.inl rfl) _
        have t_:z9 ((w:Nat)+1) 0 () () W3:=H2.out.2.2.2.2.but sE (by omega);obtain⟨r0,r1,r2,r3,rlt,rf⟩:=t_.cells;have iX:=rf 0;have iu:=rf 1;have lA:=rf 2;have Aj:=rf 3;have x0:W3 w=str S:=(sE.cell (p:=w) (sK W2 _ y0) (by show w≠ww;omega)).trans y0
        have ig:=wj (F:=F) (ww:=ww) (D:=20001+20*(D:Int)) (o:=R) (s:=S) (v:=0) (a1:=U) (n1:=0) (c1:=0) (a2:=U) (n2:=0) (c2:=0) ((s_.out.2.2.2.2.but.trans H2.out.2.2.1).trans sE) hww t_ (fun h=>by rw[Gg]at h;simp at h)
         (fun x hx=>by rw[Gg]at hx;simp only[RK]at hx;subst hx;exact⟨by rw[<- Li.out];exact Ag,by rw[HS1.out];exact fQ _ _ _⟩)
        have HQ:=r9 (r_ aH ig);clear aH Ag sE t_ rf Gg ig;rw[List.length_nil];go_upto_region 2 with (fail)
        rw[H2.out.1];go_upto_region 7 with (fail)
        rw[HQ.out.1];go_wp2_with fail
        obtain⟨W4,lX,tm,tp,tf,aQ,hp⟩:=HQ.out.2;rw[<- lX];exact bodyPost_ret (v:=.agg #[S,.int RD 0,(),()]) (by simp[results,TI,go_sem,tm,tp,tf,aQ]) rfl hp
      | cons f st =>
        obtain⟨tb,tO,tcap,ie,iq,i6,iZ,ea,ec,etop,hFt,FG,aj,t0,t1,t2,t3,t4,t5,KC,D2,tG⟩:=top_rep (st:=st) BK.out.2.2;simp only[RU,RT,true_and]at etop;obtain⟨rfl,rfl⟩:=etop;have hk:∃i:Nat,i<2/\(i=1↔c=102):=by
         by_cases h:c=102
         ·exact⟨1,by omega,by simp[h]⟩
         ·exact⟨0,by omega,by simp[h]⟩
        obtain⟨i,NJ,D6⟩:=hk;have Iz:c=116\/c=102:=by
         have h:=s_.out.2.2.2.2.pre.wf.1;rw[wfB]at h;rcases h with h|h|h
         ·exact .inl h
         ·exact .inr h
         ·exact absurd h oU
        obtain⟨pa,pc,ep,Ps⟩:=bZ.of (bs:=[f.yes,f.no]) KC;simp only[RT]at ep;obtain⟨rfl,_,rfl⟩:=ep;obtain⟨pb,po,ns,nv,tI,iM,tL,GY,nn3,GX,nx,e,hpb,Eo,p0,p1,p2,p3,FL⟩:=Ps i NJ;subst e;obtain⟨nv',na2',nc2',na3',nc3',en,_,_⟩:=jA FL;simp only[RY,UL,RT,and_true,true_and]at en;obtain⟨ens,rfl,⟨rfl,rfl,rfl⟩,rfl,rfl,rfl⟩:=en;rw[ens]at p0 FL;have Py:(if c=116 then (WFr.gf f).yes else (WFr.gf f).no)=nx:=by
         rcases(by omega:i=0\/i=1) with rfl|rfl
         ·have:¬c=102:=fun h=>by have:=D6.2 h;omega
          have DS:c=116:=Iz.resolve_right this;simp at Eo;rw[if_pos DS];exact Eo
         ·have h102:c=102:=D6.1 rfl;have:¬c=116:=by rw[h102];decide
          simp at Eo;rw[if_neg this];exact Eo
        have HF:=r9 (r_ FL (r_ D2 (r_ tG (r_ D6 Py))));have lN:=s_.out.2.2.2.2.pre.stl;rw[RU]at lN ⊢;clear FL D2 tG Py Eo KC Ps ens Iz;have JI:(((st.length:Int)+1) == 0)=RC:=by rw[beq_eq_false_iff_ne];omega
        have Cu:(st.length:Int)<=(scap:Int):=by omega
        rcases(by omega:i=0\/i=1) with rfl|rfl
        focus
         have D6:¬c=102:=fun h=>by have:=HF.out.2.2.2.1.2 h;omega
         simp only[Nat.zero_mul,Nat.add_zero]at p0 p1 p2 p3;have e102:(S == [102])=RC:=by rw[beq_eq_false_iff_ne,HS1.out];have:=D6;simpa using this
         go_upto_region 2 with (fail)
         rw[H2.out.1];go_upto_region 13 with (fail)
         obtain⟨W3,aH⟩:=zzN (W2.alloc (.cells #[str [],.int RD (f.v:Nat),.slice ie f.ss.length iq,.slice (pb,po) 2 iZ,.slice ea f.env.length ec,.int RD 0] 155));rw[aH];have lP:(W3:Nat)=W2+1:=by rw[<- aH];exact zK _ _
         have sE:No W2 W3:=by rw[<- aH];exact(sQ _ _).alloc (sZ _) _
         have u3':W3 (W2,3)=OK (.slice (pb,po) 2 iZ):=by rw[<- aH];simp
         have LC:W3 (W2,4)=OK (.slice ea f.env.length ec):=by rw[<- aH];simp
         have r0:W3 (pb,po)=OK (str (z_ nx)):=by rw[<- aH];exact zV p0
         have r1:W3 (pb,po+1)=OK (.int RD nv):=by rw[<- aH];exact zV p1
         have r2:W3 (pb,po+2)=OK (.slice tI (kh nx).length tL):=by rw[<- aH];exact zV p2
         have r3:W3 (pb,po+3)=OK (.slice GY (qS nx).length GX):=by rw[<- aH];exact zV p3
        rotate_left
        focus
         have D6:c=102:=HF.out.2.2.2.1.1 rfl;simp only[Nat.one_mul,Nat.add_assoc,Nat.reduceAdd]at p0 p1 p2 p3;have e102:(S == [102])=true:=by rw[beq_iff_eq,HS1.out];have:=D6;simpa using this
         go_upto_region 2 with (fail)
         rw[H2.out.1];go_upto_region 13 with (fail)
         obtain⟨W3,aH⟩:=zzN (W2.alloc (.cells #[str [],.int RD (f.v:Nat),.slice ie f.ss.length iq,.slice (pb,po) 2 iZ,.slice ea f.env.length ec,.int RD 0] 155));rw[aH];have lP:(W3:Nat)=W2+1:=by rw[<- aH];exact zK _ _
         have sE:No W2 W3:=by rw[<- aH];exact(sQ _ _).alloc (sZ _) _
         have u3':W3 (W2,3)=OK (.slice (pb,po) 2 iZ):=by rw[<- aH];simp
         have LC:W3 (W2,4)=OK (.slice ea f.env.length ec):=by rw[<- aH];simp
         have r0:W3 (pb,po+4)=OK (str (z_ nx)):=by rw[<- aH];exact zV p0
         have r1:W3 (pb,po+5)=OK (.int RD nv):=by rw[<- aH];exact zV p1
         have r2:W3 (pb,po+6)=OK (.slice tI (kh nx).length tL):=by rw[<- aH];exact zV p2
         have r3:W3 (pb,po+7)=OK (.slice GY (qS nx).length GX):=by rw[<- aH];exact zV p3
        all_goals
         have A3:W3.heap[(w:Nat)]?=OK (.cells #[s0,.int RD v0,.slice a1 n1 c1,.slice a2 n2 c2] 53 (0,0)):=by rw[<- aH];exact zJ H2.out.2.2.2.1
         have LB:W3 w=str s0:=by simp[RE,A3]
         have v1':W3 (w,1)=OK (.int RD v0):=by simp[RE,A3]
         have v2':W3 (w,2)=OK (.slice a1 n1 c1):=by simp[RE,A3]
         have v3':W3 (w,3)=OK (.slice a2 n2 c2):=by simp[RE,A3]
         have f0:W3.frozen? w=RC:=by simp[RO,A3]
         have f1:W3.frozen? (w,1)=RC:=by simp[RO,A3]
         have f2:W3.frozen? (w,2)=RC:=by simp[RO,A3]
         have f3:W3.frozen? (w,3)=RC:=by simp[RO,A3]
         have H3:=r9 (r_ aH (r_ lP (r_ sE A3)));clear aH lP sE A3 t0 t1 t2 t3 t4 t5 p0 p1 p2 p3 y0 y1 y2 y3;go_upto_region 15 with (fail)
         obtain⟨W4,lX⟩:=zzN (yh w (str (z_ nx)) (.int RD nv) (.slice tI (kh nx).length tL) (.slice GY (qS nx).length GX) W3);have oJ:=lX;unfold yh at oJ;rw[oJ];have sG:=s_.out.2.2.2.2;have Al:=sG.zw;have iP:=H2.out.2.2.1.size;have sO:But (fun i=>i=w) W3 W4:=by rw[<- lX];exact x_ (But.refl _ _) rfl
         have u4'':W4 (W2,4)=OK (.slice ea f.env.length ec):=(sO.cell (p:=⟨W2,4,U⟩) (sK W3 _ LC) (by show (W2:Nat)≠w;omega)).trans LC;have DJ:W4.heap[(w:Nat)]?=OK (.cells #[str (z_ nx),.int RD nv,.slice tI (kh nx).length tL,.slice GY (qS nx).length GX] 53 (0,0)):=by rw[<- lX];exact pB H3.out.2.2.2
         have EK:But (fun i=>i=ww\/i=w) W2 W4:=(But.ofBelow (m:=fun i=>i=ww\/i=w) H3.out.2.2.1).trans (sO.weak fun i _ h=>.inr h);have Ej:Wri W4 ww ((k+1:Nat):Int) (20000-(l:Nat)):=by
          have h:=H2.out.2.1;unfold Wri at *;rw[sO.block ww (by have:=H3.out.2.1;omega) (by show ww≠w;omega),H3.out.2.2.1.block ww (by omega),h,Li.out]
         have kp:∀(i:Nat) (o:Obj),Fx F w 2 i->W2.heap[i]?=OK o->Fx F w 2 i/\W4.heap[i]?=OK o:=fun i o hi ho=>by
          have hx:=Fx.low' sG.pre.hF hi (by omega);exact⟨hi,by rw[EK.block i (zZ ho) (fun e=>e.elim hx.1 hx.2)];exact ho⟩
         have tF:=sG.move (b':=nx) (env':=f.env) (st':=st) ((H2.out.2.2.1.weak fun i _ h=>.inl h).trans EK) Ej DJ (by have:=sG.pre.fit.back c;rw[show (if c=116 then (WFr.gf f).yes else (WFr.gf f).no)=nx from HF.out.2.2.2.2]at this;exact this)
          (by have:=sG.pre.okg.1;have:=sG.pre.ld;have:=sG.pre.d20;show f.env.length+16*d<=1000000;have h9:f.env.length<=1000000-16*(d+1):=sG.pre.okg.1;omega) (by have:=sG.pre.stl;rw[RU]at this;omega) (qY (by omega) _ sG.pre.okg.2.1) (vm (by omega) _ sG.pre.okg.2.2)
          (by
           have h1:=sG.pre.wf.2.2 (WFr.gf f) (by simp);refine⟨?_,h1.2.2,fun g hg=>sG.pre.wf.2.2 g (by rw[Sa];exact VL _ hg)⟩;rw[<- show (if c=116 then (WFr.gf f).yes else (WFr.gf f).no)=nx from HF.out.2.2.2.2];split
           ·exact h1.1
           ·exact h1.2.1)
          ((Rep.keep kp).2 _ _ HF.out.1) ((Rep.keep kp).1 _ _ HF.out.2.1) ((Rep.keep kp).1 _ _ HF.out.2.2.1)
         have Fq:R=evN d (k+1) l nx f.env n (st.map WFr.gf):=by
          rw[s_.out.2.1,Sa,evN_back oU];rw[show (if c=116 then (WFr.gf f).yes else (WFr.gf f).no)=nx from HF.out.2.2.2.2];rfl
         have HN:=r9 (r_ tF (r_ Fq Ej));clear tF Fq Ej kp EK DJ sO oJ lX sG iP Al u3' LC r0 r1 r2 r3 LB v1' v2' v3' f0 f1 f2 f3;go_wp2_with fail
         go_roundw
         case rel=>exact⟨d,l,nx,f.env,st,_,_,_,_,_,_,_,_,by have:=s_.out.1;omega,HN.out.2.1,HN.out.1⟩
         case measure=>
          rw[s_.out.2.2.1];refine SJ (SH (pP HN.out.2.2)) ?_;omega
   | ask v ss y no =>
     subst esv;have tA:=s_.out.2.2.2.2.pre.fit;obtain⟨m,t,hh,hm,Mw,-,-,-,-⟩:=tA.ask;have iw:=BK.out.1;rw[yG]at iw;simp only[zQ,zE]at iw;obtain⟨_,_,e0,G5,_,_,rfl,AC,_,_,rfl,sy,_,_,rfl,G0,rfl⟩:=iw;simp only[RY,and_true]at e0;obtain⟨rfl,rfl,rfl,rfl⟩:=e0;rw[zC]at G5 AC;rw[G5]at y0;rw[AC]at y1;simp only[UL,true_and]at AC;subst AC;obtain⟨-,ka,kc,ek,-⟩:=zv.1 sy;simp only[RT]at ek;obtain⟨rfl,rfl,rfl⟩:=ek;obtain⟨-,ya,yc,ey,-⟩:=zv.1 G0;simp only[RT]at ey;obtain⟨rfl,rfl,rfl⟩:=ey;have hs00:s0=[]:=by simpa[str] using G5
     subst hs00;have HK:=r9 (r_ sy (r_ G0 (r_ G5 tA)));clear sy G0 G5 tA eat ek2 ek3;cases m with
     | op o t' =>
       have ett:t'=t:=by rw[wH]at Mw;exact Mw.1
       subst ett;obtain⟨eb,eo,ecap,ta,tc,i0,e,MO,hew,q0,q1,q2,q3,q4,q5,q6,q7,q8,Jv⟩:=bound_op BK.out.2.1 hm;subst e;have HM:=r9 (r_ hm (r_ Mw Jv));clear hm Mw Jv;obtain⟨W3,aH⟩:=zzN (W2.alloc (.cells #[(o:Int),str [],.int RD 0,(),(),.slice ta t'.args.length tc,(),.int RD 0,.int RD i0] 147));have sE:No W2 W3:=by rw[<- aH];exact(sQ _ _).alloc (sZ _) _
       have lP:(W3:Nat)=W2+1:=by rw[<- aH];exact zK _ _
       have F_:=(sE.block _ (zZ H2.out.2.2.2.1)).trans H2.out.2.2.2.1;obtain⟨x0,x1,x2,x3⟩:=kD F_;have z0:W3 W2=OK (.int RD (o:Nat)):=by rw[<- aH];simp
       have ho0:(0:Int)<=(o:Int):=by omega
       have t_:z9 ((w:Nat)+1) 0 () () W3:=by
        have h:=H2.out.2.2.2.2;unfold z9 at *;rw[sE.block _ (zZ h)];exact h
       have D1:=(RR.1 HM.out.1).1;have AC:(v:Int)<(env.length:Int):=by omega
       have sG:=s_.out.2.2.2.2;have Ev:=sG.pre.ld;have MQ:=sG.pre.d20;have lN:=sG.pre.stl;have k3:∀(i:Nat) (ob:Obj),Fx F w 2 i->W2.heap[i]?=OK ob->Fx F w 2 i/\W3.heap[i]?=OK ob:=fun i ob hi hh=>⟨hi,by rw[sE.block i (zZ hh)];exact hh⟩;have OI:Wri W3 ww ((k:Nat)+1) (20000-(l:Nat)):=by
        have h:=H2.out.2.1;unfold Wri at *;rw[sE.block ww (zZ h),h,Li.out];rfl
       have C:=r9 (keepN_any d (IH.out d (by have:=s_.out.1;omega)) (Fx F w 2) ww k l n v o H t' ss y no env st 0 a1 a2 c1 c2 (.slice (eb,eo) env.length ecap) (.slice sa st.length scap) W3
        { wri:=OI,hF:=sG.pre.hF,ld:=by omega,d20:=by omega,k200:=by omega,hv:=HM.out.1,fit:=sG.pre.fit,hn:=sG.pre.hn,el:=sG.pre.el,nl:=sG.pre.nl,stl:=by omega,ok:=sG.pre.ok,okg:=sG.pre.okg,wf:=sG.pre.wf,
          rb:=(Rep.keep k3).2 _ _ BK.out.1,re:=(Rep.keep k3).1 _ _ BK.out.2.1,rs:=(Rep.keep k3).1 _ _ BK.out.2.2 })
       have Gg:R=wB d k l n o t' ss y no env (st.map WFr.gf):=by rw[s_.out.2.1];exact evN_op HM.out.1
       have H3:=r9 (r_ aH (r_ sE (r_ lP (r_ t_ Gg))));clear aH sE lP F_ t_ D1 sG OI Gg k3 Ev;go_upto_region 2 with (fail)
       rw[H2.out.1];go_upto_region 17 with (fail)
       rw[H3.out.1];go_wp2_with fail
       (with_reducible refine C.out.mono ?_);rintro en w9 ⟨s9,v9,b1,p1,d1,b2,p2,d2,rfl,aO,Es,Eh⟩
       have Bg:=H3.out.2.2.2.1.but aO (show ¬(w+1=ww) by omega);obtain⟨r0,r1,r2,r3,rlt,rf⟩:=Bg.cells;have iX:=rf 0;have iu:=rf 1;have lA:=rf 2;have Aj:=rf 3
       have ig:=wj (F:=F) (ww:=ww) (D:=20001+20*(D:Int)) (o:=R) (s:=s9) (v:=v9) (a1:=b1) (n1:=p1) (c1:=d1) (a2:=b2) (n2:=p2) (c2:=d2) (((s_.out.2.2.2.2.but.trans H2.out.2.2.1).trans (But.ofBelow H3.out.2.1)).trans aO) hww Bg
        (fun h=>by
         obtain⟨st',u1,u2,u3⟩:=Es (by rw[<- H3.out.2.2.2.2];exact h)
         exact ⟨st',u1,u2,by have:=s_.out.1;omega⟩)
        (fun x hx=>by
         obtain⟨u1,u2⟩:=Eh x (by rw[<- H3.out.2.2.2.2];exact hx);refine⟨u1,(Rep.keep fun i ob hi hh=>⟨?_,hh⟩).2 _ _ u2⟩;rcases hi with h|h
         ·exact h
         ·have h1:=H3.out.2.2.1;have h2:=s_.out.2.2.2.2.zw;have h3:=H2.out.2.2.1.size
          exact .inr (by omega))
       have HQ:=r9 ig;clear ig aO Es Eh Bg rf;go_wp2_with fail
       obtain⟨W4,lX,tm,tp,tf,aQ,hp⟩:=HQ.out;rw[<- lX];exact bodyPost_ret (v:=.agg #[s9,.int RD v9,.slice b1 p1 d1,.slice b2 p2 d2]) (by simp[results,TI,go_sem,tm,tp,tf,aQ]) rfl hp
     | bd t' b' e' =>
       have ett:t'=t:=by rw[wH]at Mw;exact Mw.1
       subst ett;obtain⟨eb,eo,ecap,ta,tc,bs,bv,ie,IU,iq,i6,IT,iZ,ha,aj,i0,e,MO,hew,q0,q1,q2,q3,q4,q5,q6,q7,q8,Jv,aJ,D2⟩:=bound_bd BK.out.2.1 hm;subst e;obtain⟨OV,KZ⟩:=HK.out.2.2.2.call hm;obtain⟨xs,iG,aD⟩:=zz.ofRep BK.out.2.2 (cU st);have aE:=bE _ s_.out.2.2.2.2.pre.ok v _ hm;rw[okM]at aE;have AB:=wfMs_at _ s_.out.2.2.2.2.pre.wf.2.1 v _ hm;rw[wfM]at AB;have sT:=(zo aE.1).2;have OW:ss.length<=15:=by omega
       have BU:=s_.out.2.2.2.2.pre.el;have tw:e'.length<=1000000:=by have:=aE.2.1;omega
       have HM:=r9 (r_ hm (r_ Jv (r_ aJ (r_ D2 (r_ OV (r_ KZ (r_ iG (r_ aD (r_ aE AB)))))))));clear hm Mw Jv aJ D2 OV KZ iG aD aE AB sT;obtain⟨W3,aH⟩:=zzN (W2.alloc (.cells #[.int RD (-1),bs,.int RD bv,.slice ie IU iq,.slice i6 IT iZ,.slice ta t'.args.length tc,.slice ha e'.length aj,.int RD 0,.int RD i0] 147));have sE:No W2 W3:=by rw[<- aH];exact(sQ _ _).alloc (sZ _) _
       have lP:(W3:Nat)=W2+1:=by rw[<- aH];exact zK _ _
       have F_:=(sE.block _ (zZ H2.out.2.2.2.1)).trans H2.out.2.2.2.1;have Qx:W3.heap[(W2:Nat)]?=OK (.cells #[.int RD (-1),bs,.int RD bv,.slice ie IU iq,.slice i6 IT iZ,.slice ta t'.args.length tc,.slice ha e'.length aj,.int RD 0,.int RD i0] 147 (0,0)):=by rw[<- aH];exact zW _ _
       obtain⟨x0,x1,x2,x3⟩:=kD F_;have z0:W3 W2=OK (.int RD (-1)):=by rw[<- aH];simp
       have D1:=(RR.1 HM.out.1).1;have AC:(v:Int)<(env.length:Int):=by omega
       have hwB:(w:Nat)<W3:=by have:=s_.out.2.2.2.2.zw;have:=H2.out.2.2.1.size;omega
       have lN:st.length<=40000:=by have:=s_.out.2.2.2.2.pre.stl;omega
       have H3:=r9 (r_ aH (r_ sE (r_ lP (r_ F_ Qx))));have SX:Hid (∀w',No W3 w'->w' w=OK (str [])/\w' (w,1)=OK (.int RD (v:Nat))/\w' (w,2)=OK (.slice a1 ss.length c1)/\w' (w,3)=OK (.slice a2 2 c2)):=by
        show ∀w',_->_;intro w' sA;exact⟨(sA.cell (by show (w:Nat)<_;omega)).trans x0,(sA.cell (by show (w:Nat)<_;omega)).trans x1,(sA.cell (by show (w:Nat)<_;omega)).trans x2,(sA.cell (by show (w:Nat)<_;omega)).trans x3⟩
       have SRC:Hid (∀w',No W3 w'->zz 6 (.slice sa st.length scap) st.length xs w'):=by
        show ∀w',_->_;intro w' sA;exact(HM.out.2.2.2.2.2.2.2.1.belowAll sE (sZ _)).belowAll sA (sZ _)
       clear aH sE lP F_ Qx D1 x0 x1 x2 x3;go_upto_region 2 with (fail)
       rw[H2.out.1];go_upto_region 17 with (fail)
       rw[H3.out.1];go_upto_region 19 with (fail)
       refine wp_region_noPanic ?_;refine vL (fun w'=>No W3 w') (fun _=>RC) (by kernel_rfl) ?_;have sP:No W3 W3.drew:=Below.drew (sQ _ _);refine tC [1,3,4,5] sP ?_;iterate 4 (refine tl (fun w' sL=>SX.out w' sL) ?_)
       refine tz ?_;refine qU 0 6 (by kernel_rfl) ?_ ?_
       ·(intro o0 ho K' hK;simp at ho;subst ho);go_simp
        (refine hK.out _ _ (fun _=>(sP.alloc (sZ _) (.cells #[] 155))) ?_;clear hK K';try simp only[pQ,pN,pZ,pS]);refine qU 2 6 (by kernel_rfl) ?_ ?_
        focus
         (intro o2 ho K' hK;simp at ho;subst ho);refine zL (by rfl) _ _ _ (by rfl) 155 (.agg #[str [],.int RD 0,(),(),(),.int RD 0]) 6 104 Ti Tryz.infoFW rfl (by decide) (.slice W3 0 0) 0 [] (by rfl) (Own.litAt #[] 0 _ rfl (by decide) rfl) _ st.length xs (by rfl) (SRC.out _ (sP.alloc (sZ _) (.cells #[] 155))) (by unfold maxLen;omega) (by omega) ?_
         intro a5 c5 w5 lh sx li;simp only[SU,Ss]at lh li ⊢;have iI:No W3 w5:=(sP.alloc (sZ _) (.cells #[] 155)).trans (sx.toBelow ((sP.alloc (sZ _) (.cells #[] 155))).size fun i hi e=>by simp[RM]at e;omega);have Ck:Hid (∀g,(RI a5 st.length c5).ownBlock=OK g->(W3:Nat)<=g):=fun g hg=>by rcases li g hg with h|h;simp[RM]at h;omega;have h:g=W3+1:=h.trans (zK _ _);omega
         (refine hK.out _ _ (fun _=>iI) ?_;clear hK K';try simp only[pQ,pN,pZ,pS]);refine oC 6 (iI.alloc iI.size _) ?_
         (refine on 7 ?_;intro o ho K' hK;simp at ho;subst ho);refine zL (by rfl) _ _ _ (by rfl) 155 (.agg #[str [],.int RD 0,(),(),(),.int RD 0]) 6 104 Ti Tryz.infoFW rfl (by decide) (.slice a5 st.length c5) st.length xs (by rfl) (lh.alloc _) _ 1 [str [],(v:Int),.slice a1 ss.length c1,.slice a2 2 c2,.slice (eb,eo) env.length ecap,.int RD 0] (by rfl) (zz.lit1 #[str [],.int RD (v:Nat),.slice a1 ss.length c1,.slice a2 2 c2,.slice (OK ⟨eb,eo,U⟩) env.length ecap,.int RD 0] rfl (by simp[str,R4]) _ (by rfl)) (by unfold maxLen;omega) (by omega) ?_
         intro a7 c7 w7 sj sH sS;have ik:No W3 w7:=(iI.alloc iI.size (.cells #[str [],(v:Int),.slice a1 ss.length c1,.slice a2 2 c2,.slice (eb,eo) env.length ecap,.int RD 0] 155)).trans (sH.toBelow ((iI.alloc iI.size (.cells #[str [],(v:Int),.slice a1 ss.length c1,.slice a2 2 c2,.slice (eb,eo) env.length ecap,.int RD 0] 155))).size fun i hi e=>by have:=Ck.out i e;omega);have tD:∀g,(RI a7 (st.length+1) c7).ownBlock=OK g->(W3:Nat)<=g:=fun g hg=>by rcases sS g hg with h|h;exact Ck.out g h;exact sU ((iI.alloc iI.size (.cells #[str [],(v:Int),.slice a1 ss.length c1,.slice a2 2 c2,.slice (eb,eo) env.length ecap,.int RD 0] 155))).size (SH h.symm)
        rotate_left
        focus
         (intro o6 ho K' hK;simp at ho;subst ho);go_simp
         refine hK.out _ _ (fun _=>?_) ?_
         ·exact((sP.alloc (sZ _) (.cells #[] 155)).alloc (by rw[zK];exact SG _) (.cells #[str [],(v:Int),.slice a1 ss.length c1,.slice a2 2 c2,.slice (eb,eo) env.length ecap,.int RD 0] 155))
         clear hK K';(try simp only[pQ,pN,pZ,pS]);(refine on 2 ?_;intro o ho K' hK;simp at ho;subst ho);refine zL (by rfl) _ _ _ (by rfl) 155 (.agg #[str [],.int RD 0,(),(),(),.int RD 0]) 6 104 Ti Tryz.infoFW rfl (by decide) (.slice W3 0 0) 0 [] (by rfl) ((Own.litAt #[] 0 _ rfl (by decide) rfl).alloc _) _ st.length xs (by rfl) (SRC.out _ ((sP.alloc (sZ _) (.cells #[] 155)).alloc (by rw[zK];exact SG _) (.cells #[str [],(v:Int),.slice a1 ss.length c1,.slice a2 2 c2,.slice (eb,eo) env.length ecap,.int RD 0] 155))) (by unfold maxLen;omega) (by omega) ?_;intro a5 c5 w5 lh sx li;simp only[SU,Ss]at lh li ⊢;have iI:No W3 w5:=((sP.alloc (sZ _) (.cells #[] 155)).alloc (by rw[zK];exact SG _) (.cells #[str [],(v:Int),.slice a1 ss.length c1,.slice a2 2 c2,.slice (eb,eo) env.length ecap,.int RD 0] 155)).trans (sx.toBelow (((sP.alloc (sZ _) (.cells #[] 155)).alloc (by rw[zK];exact SG _) (.cells #[str [],(v:Int),.slice a1 ss.length c1,.slice a2 2 c2,.slice (eb,eo) env.length ecap,.int RD 0] 155))).size fun i hi e=>by simp[RM]at e;omega);have Ck:Hid (∀g,(RI a5 st.length c5).ownBlock=OK g->(W3:Nat)<=g):=fun g hg=>by rcases li g hg with h|h;simp[RM]at h;omega;have h:g=W3+1+1:=h.trans (wP W3 _ _);omega
         have M5:zz 6 (.slice ((W3:Nat)+1,0) 1 1) 1 #[str [],.int RD (v:Nat),.slice a1 ss.length c1,.slice a2 2 c2,.slice (OK ⟨eb,eo,U⟩) env.length ecap,.int RD 0].toList w5:=(zz.lit1 #[str [],.int RD (v:Nat),.slice a1 ss.length c1,.slice a2 2 c2,.slice (OK ⟨eb,eo,U⟩) env.length ecap,.int RD 0] rfl (by simp[str,R4]) _ (by simp):zz 6 (.slice ((W3:Nat)+1,0) 1 1) 1 #[str [],.int RD (v:Nat),.slice a1 ss.length c1,.slice a2 2 c2,.slice (OK ⟨eb,eo,U⟩) env.length ecap,.int RD 0].toList ((W3.drew.alloc (.cells #[] 155)).alloc (.cells #[str [],(v:Int),.slice a1 ss.length c1,.slice a2 2 c2,.slice (eb,eo) env.length ecap,.int RD 0] 155))).thru sx (fun e=>by simp[RM]at e);(refine hK.out _ _ (fun _=>iI) ?_;clear hK K';try simp only[pQ,pN,pZ,pS]);(refine on 7 ?_;intro o ho K' hK;simp at ho;subst ho);refine zL (by rfl) _ _ _ (by rfl) 155 (.agg #[str [],.int RD 0,(),(),(),.int RD 0]) 6 104 Ti Tryz.infoFW rfl (by decide) (.slice a5 st.length c5) st.length xs (by rfl) (lh) _ 1 [str [],(v:Int),.slice a1 ss.length c1,.slice a2 2 c2,.slice (eb,eo) env.length ecap,.int RD 0] (by rfl) (M5) (by unfold maxLen;omega) (by omega) ?_;intro a7 c7 w7 sj sH sS;have ik:No W3 w7:=iI.trans (sH.toBelow (iI).size fun i hi e=>by have:=Ck.out i e;omega);have tD:∀g,(RI a7 (st.length+1) c7).ownBlock=OK g->(W3:Nat)<=g:=fun g hg=>by rcases sS g hg with h|h;exact Ck.out g h;exact sU (iI).size (SH h.symm)
        all_goals
         (refine hK.out _ _ (fun _=>ik) ?_;clear hK K';try simp only[pQ,pN,pZ,pS]);refine oC 8 ik ?_
         refine zX (by kernel_rfl) (RQ ?_) _;clear sx li lh sH sS iI;have H7:=r9 (r_ sj (r_ ik tD));clear sj ik tD sP;have lP:=H3.out.2.2.1;have Ny:=H7.out.2.1.size;have Al:=s_.out.2.2.2.2.zw;have iP:=H2.out.2.2.1.size;have oz:=(H7.out.2.1.block W2 (by omega)).trans H3.out.2.2.2.2;have BC:=(H7.out.2.1.block w (by omega)).trans H3.out.2.2.2.1;have g5:w7 (W2,5)=OK (.slice ta t'.args.length tc):=by simp[RE,oz]
         have g6:w7 (W2,6)=OK (.slice ha e'.length aj):=by simp[RE,oz]
         have x2:w7 (w,2)=OK (.slice a1 ss.length c1):=by simp[RE,BC]
         have k7:∀(i:Nat) (ob:Obj),Fx F w 2 i->W2.heap[i]?=OK ob->Fx F w 2 i/\w7.heap[i]?=OK ob:=fun i ob hi hh=>by
          have hl:=zZ hh;exact⟨hi,by rw[H7.out.2.1.block i (by omega),H3.out.2.1.block i hl];exact hh⟩
         have I0:=(ct (Fx F w 2) e' env ss t' (.slice ha e'.length aj) (.slice a1 ss.length c1) (.slice ta t'.args.length tc) (.slice (eb,eo) env.length ecap) w7 ((Rep.keep k7).1 _ _ HM.out.2.2.2.1) ((Rep.keep k7).1 _ _ HK.out.1) ((Rep.keep k7).1 _ _ HM.out.2.1) ((Rep.keep k7).1 _ _ BK.out.2.1) (by omega) HM.out.2.2.2.2.1 (by omega));rw[show ((0:Nat):Int)=0 from rfl]at I0;have CH:=r9 I0;clear I0;have Lg:=r9 (r_ oz (r_ BC k7));clear oz BC k7 lP iP;go_wp2_with fail
         (with_reducible refine CH.out.mono ?_);rintro en w8 ⟨a8,c8,rfl,aw,D3⟩
         have lP:=H3.out.2.2.1;have hz8:=aw.size;have lB:=(aw.block W2 (by omega)).trans Lg.out.1;have th:=(aw.block w (by omega)).trans Lg.out.2.1;have p1:w8 (W2,1)=str bs:=by simp[RE,lB]
         have p2:w8 (W2,2)=OK (.int RD bv):=by simp[RE,lB]
         have p3:w8 (W2,3)=OK (.slice ie IU iq):=by simp[RE,lB]
         have p4:w8 (W2,4)=OK (.slice i6 IT iZ):=by simp[RE,lB]
         have d0:w8 w=OK (str []):=by simp[RE,th]
         have d1:w8 (w,1)=OK (.int RD (v:Nat)):=by simp[RE,th]
         have d2:w8 (w,2)=OK (.slice a1 ss.length c1):=by simp[RE,th]
         have d3:w8 (w,3)=OK (.slice a2 2 c2):=by simp[RE,th]
         have f0:w8.frozen? w=RC:=by simp[RO,th]
         have f1:w8.frozen? (w,1)=RC:=by simp[RO,th]
         have f2:w8.frozen? (w,2)=RC:=by simp[RO,th]
         have f3:w8.frozen? (w,3)=RC:=by simp[RO,th]
         have H8:=r9 (r_ aw (r_ D3 th));clear aw D3 lB th g5 g6 x2 lP;go_upto_region 22 with (fail)
         obtain⟨W9,Fo⟩:=zzN (yh w (str bs) (.int RD bv) (.slice ie IU iq) (.slice i6 IT iZ) w8);have oJ:=Fo;unfold yh at oJ;rw[oJ];have tF:WAt F ww d (k+1) l n H b' (e'++jV env t'.args ss) (⟨v,ss,y,no,env⟩::st) bs bv ie i6 IU iq IT iZ (.slice a8 (e'.length+(jV env t'.args ss).length) c8) (.slice a7 (st.length+1) c7) w W9:=by
          have sG:=s_.out.2.2.2.2;have iP:=H2.out.2.2.1.size;have lP:=H3.out.2.2.1;have aO:But (fun i=>i=w) w8 W9:=by rw[<- Fo];exact x_ (But.refl _ _) rfl
          have BH:But (fun i=>i=ww\/i=w) W2 W9:=(((But.ofBelow (m:=fun i=>i=ww\/i=w) H3.out.2.1).trans (But.ofBelow (H7.out.2.1))).trans (But.ofBelow H8.out.1)).trans (aO.weak fun i _ h=>.inr h);have hz9:=BH.size;have lg:(jV env t'.args ss).length=t'.args.length:=pU _ _ HM.out.2.2.2.2.1;have aE:=HM.out.2.2.2.2.2.2.2.2.1;have AB:=HM.out.2.2.2.2.2.2.2.2.2;have Ev:=sG.pre.ld;have MQ:=sG.pre.d20;have Kw:=sG.pre.stl;have kp:∀(i:Nat) (ob:Obj),Fx F w 2 i->W2.heap[i]?=OK ob->Fx F w 2 i/\W9.heap[i]?=OK ob:=fun i ob hi ho=>by
           have hx:=Fx.low' sG.pre.hF hi (by omega);exact⟨hi,by rw[BH.block i (zZ ho) (fun e=>e.elim hx.1 hx.2)];exact ho⟩
          refine sG.move ((H2.out.2.2.1.weak fun i _ h=>.inl h).trans BH) ?_ (by rw[<- Fo];exact pB H8.out.2.2) HM.out.2.2.2.2.2.1 (by rw[RL,lg];have:=aE.2.1;have:=HM.out.2.2.2.2.1;omega) (by rw[RU];omega)
           (jg _ _ (qY (by omega) _ aE.2.2) (pX (qY (by omega) _ sG.pre.ok) (by omega) _ _ (zo aE.1).1)) ⟨by show env.length<=_;omega,qY (by omega) _ sG.pre.ok,vm (by omega) _ sG.pre.okg⟩
           ⟨AB.1,jw _ _ AB.2 (wu sG.pre.wf.2.1 _ _ sG.pre.wf.1.1),fun f hf=>?_⟩ ((Rep.keep kp).2 _ _ HM.out.2.2.1) ?_ ?_
          ·have h:=H2.out.2.1;unfold Wri at *;rw[aO.block ww (by omega) (by show ww≠w;omega),H8.out.1.block ww (by omega),H7.out.2.1.block ww (by omega),H3.out.2.1.block ww (by omega),h,Li.out]
          ·rw[Sa]at hf;rcases Sc.1 hf with rfl|hf
           ·exact⟨sG.pre.wf.1.2.1,sG.pre.wf.1.2.2,sG.pre.wf.2.1⟩
           ·exact sG.pre.wf.2.2 f hf
          ·rw[RL];refine(Rep.keep fun i ob hi ho=>?_).1 _ _ H8.out.2.1;have hx:Fx F w 2 i:=by
            rcases hi with h|h
            ·exact h
            ·exact .inr (by omega)
           exact⟨hx,by rw[aO.block i (zZ ho) (Fx.low' sG.pre.hF hx (by omega)).2];exact ho⟩
          ·rw[RU];refine(H7.out.1.keep (w':=W9) fun g o hg ho=>?_).rep (fun g hg=>.inr (by have:=H7.out.2.2 g hg;omega)) ?_
           ·have h1:=H7.out.2.2 g hg;have h2:=zZ ho;rw[aO.block g (by omega) (by omega),H8.out.1.block g h2];exact ho
           ·rw[yB];refine zY.append ((Rep.keep kp).2 _ _ HM.out.2.2.2.2.2.2.1) ?_;rw[encF];exact zY.append ((Rep.keep kp).2 _ _ BK.out.1) (zQ.2 ⟨_,_,rfl,(Rep.keep kp).1 _ _ BK.out.2.1,zQ.2 ⟨_,_,rfl,zC.2 rfl,zE.2 rfl⟩⟩)
         have Fq:R=evN d (k+1) l b' (e'++jV env t'.args ss) n (TW WFr.gf (⟨v,ss,y,no,env⟩::st)):=by
          rw[s_.out.2.1,evN_bd HM.out.1];rfl
         have HN:=r9 (r_ tF (r_ Fq tF.pre.wri));clear tF Fq oJ Fo p1 p2 p3 p4 d0 d1 d2 d3 f0 f1 f2 f3;go_wp2_with fail
         go_roundw
         case rel=>exact⟨d,l,b',_,_,_,_,_,_,_,_,_,_,by have:=s_.out.1;omega,HN.out.2.1,HN.out.1⟩
         case measure=>
          rw[s_.out.2.2.1];refine SJ (SH (pP HN.out.2.2)) ?_;omega
       ·(intro o6 ho K' hK;simp at ho;subst ho);go_simp
        (refine hK.out _ _ (fun _=>(sP.alloc (sZ _) (.cells #[str [],(v:Int),.slice a1 ss.length c1,.slice a2 2 c2,.slice (eb,eo) env.length ecap,.int RD 0] 155))) ?_;clear hK K';try simp only[pQ,pN,pZ,pS]);(refine on 0 ?_;intro o ho K' hK;simp at ho;subst ho;go_simp);refine hK.out _ _ (fun _=>?_) ?_
        ·exact((sP.alloc (sZ _) (.cells #[str [],(v:Int),.slice a1 ss.length c1,.slice a2 2 c2,.slice (eb,eo) env.length ecap,.int RD 0] 155)).alloc (by rw[zK];exact SG _) (.cells #[] 155))
        clear hK K';(try simp only[pQ,pN,pZ,pS]);(refine on 2 ?_;intro o ho K' hK;simp at ho;subst ho);refine zL (by rfl) _ _ _ (by rfl) 155 (.agg #[str [],.int RD 0,.slice U 0 0,.slice U 0 0,.slice U 0 0,.int RD 0]) 6 104 Ti Tryz.infoFW rfl (by decide) (.slice (OK ⟨W3.heap.size+1,0,U⟩) 0 0) 0 [] (by rfl) (Own.litAt #[] 0 _ (by simp) (by decide) rfl) _ st.length xs (by rfl) (SRC.out _ ((sP.alloc (sZ _) (.cells #[str [],.int RD (v:Nat),.slice a1 ss.length c1,.slice a2 2 c2,.slice (OK ⟨eb,eo,U⟩) env.length ecap,.int RD 0] 155)).alloc (by rw[zK];exact SG _) (.cells #[] 155))) (by unfold maxLen;omega) (by omega) ?_;intro a5 c5 w5 lh sx li;simp only[SU,Ss]at lh li ⊢;have iI:No W3 w5:=((sP.alloc (sZ _) (.cells #[str [],(v:Int),.slice a1 ss.length c1,.slice a2 2 c2,.slice (eb,eo) env.length ecap,.int RD 0] 155)).alloc (by rw[zK];exact SG _) (.cells #[] 155)).trans (sx.toBelow (((sP.alloc (sZ _) (.cells #[str [],(v:Int),.slice a1 ss.length c1,.slice a2 2 c2,.slice (eb,eo) env.length ecap,.int RD 0] 155)).alloc (by rw[zK];exact SG _) (.cells #[] 155))).size fun i hi e=>by simp[RM]at e;omega);have Ck:Hid (∀g,(RI a5 st.length c5).ownBlock=OK g->(W3:Nat)<=g):=fun g hg=>by rcases li g hg with h|h;simp[RM]at h;omega;have h:g=W3+1+1:=h.trans (wP W3 _ _);omega
        have M5:zz 6 (.slice W3 1 1) 1 #[str [],.int RD (v:Nat),.slice a1 ss.length c1,.slice a2 2 c2,.slice (OK ⟨eb,eo,U⟩) env.length ecap,.int RD 0].toList w5:=((zz.lit1 #[str [],.int RD (v:Nat),.slice a1 ss.length c1,.slice a2 2 c2,.slice (OK ⟨eb,eo,U⟩) env.length ecap,.int RD 0] rfl (by simp[str,R4]) _ (by simp):zz 6 (.slice W3 1 1) 1 #[str [],.int RD (v:Nat),.slice a1 ss.length c1,.slice a2 2 c2,.slice (OK ⟨eb,eo,U⟩) env.length ecap,.int RD 0].toList (W3.drew.alloc (.cells #[str [],(v:Int),.slice a1 ss.length c1,.slice a2 2 c2,.slice (eb,eo) env.length ecap,.int RD 0] 155))).alloc (.cells #[] 155)).thru sx (fun e=>by simp[RM]at e);(refine hK.out _ _ (fun _=>iI) ?_;clear hK K';try simp only[pQ,pN,pZ,pS]);(refine on 7 ?_;intro o ho K' hK;simp at ho;subst ho);refine zL (by rfl) _ _ _ (by rfl) 155 (.agg #[str [],.int RD 0,(),(),(),.int RD 0]) 6 104 Ti Tryz.infoFW rfl (by decide) (.slice a5 st.length c5) st.length xs (by rfl) (lh) _ 1 [str [],(v:Int),.slice a1 ss.length c1,.slice a2 2 c2,.slice (eb,eo) env.length ecap,.int RD 0] (by rfl) (M5) (by unfold maxLen;omega) (by omega) ?_;intro a7 c7 w7 sj sH sS;have ik:No W3 w7:=iI.trans (sH.toBelow (iI).size fun i hi e=>by have:=Ck.out i e;omega);have tD:∀g,(RI a7 (st.length+1) c7).ownBlock=OK g->(W3:Nat)<=g:=fun g hg=>by rcases sS g hg with h|h;exact Ck.out g h;exact sU (iI).size (SH h.symm)
        (refine hK.out _ _ (fun _=>ik) ?_;clear hK K';try simp only[pQ,pN,pZ,pS]);refine oC 8 ik ?_
        refine zX (by kernel_rfl) (RQ ?_) _;clear sx li lh sH sS iI;have H7:=r9 (r_ sj (r_ ik tD));clear sj ik tD sP;have lP:=H3.out.2.2.1;have Ny:=H7.out.2.1.size;have Al:=s_.out.2.2.2.2.zw;have iP:=H2.out.2.2.1.size;have oz:=(H7.out.2.1.block W2 (by omega)).trans H3.out.2.2.2.2;have BC:=(H7.out.2.1.block w (by omega)).trans H3.out.2.2.2.1;have g5:w7 (W2,5)=OK (.slice ta t'.args.length tc):=by simp[RE,oz]
        have g6:w7 (W2,6)=OK (.slice ha e'.length aj):=by simp[RE,oz]
        have x2:w7 (w,2)=OK (.slice a1 ss.length c1):=by simp[RE,BC]
        have k7:∀(i:Nat) (ob:Obj),Fx F w 2 i->W2.heap[i]?=OK ob->Fx F w 2 i/\w7.heap[i]?=OK ob:=fun i ob hi hh=>by
         have hl:=zZ hh;exact⟨hi,by rw[H7.out.2.1.block i (by omega),H3.out.2.1.block i hl];exact hh⟩
        have I0:=(ct (Fx F w 2) e' env ss t' (.slice ha e'.length aj) (.slice a1 ss.length c1) (.slice ta t'.args.length tc) (.slice (eb,eo) env.length ecap) w7 ((Rep.keep k7).1 _ _ HM.out.2.2.2.1) ((Rep.keep k7).1 _ _ HK.out.1) ((Rep.keep k7).1 _ _ HM.out.2.1) ((Rep.keep k7).1 _ _ BK.out.2.1) (by omega) HM.out.2.2.2.2.1 (by omega));rw[show ((0:Nat):Int)=0 from rfl]at I0;have CH:=r9 I0;clear I0;have Lg:=r9 (r_ oz (r_ BC k7));clear oz BC k7 lP iP;go_wp2_with fail
        (with_reducible refine CH.out.mono ?_);rintro en w8 ⟨a8,c8,rfl,aw,D3⟩
        have lP:=H3.out.2.2.1;have hz8:=aw.size;have lB:=(aw.block W2 (by omega)).trans Lg.out.1;have th:=(aw.block w (by omega)).trans Lg.out.2.1;have p1:w8 (W2,1)=str bs:=by simp[RE,lB]
        have p2:w8 (W2,2)=OK (.int RD bv):=by simp[RE,lB]
        have p3:w8 (W2,3)=OK (.slice ie IU iq):=by simp[RE,lB]
        have p4:w8 (W2,4)=OK (.slice i6 IT iZ):=by simp[RE,lB]
        have d0:w8 w=OK (str []):=by simp[RE,th]
        have d1:w8 (w,1)=OK (.int RD (v:Nat)):=by simp[RE,th]
        have d2:w8 (w,2)=OK (.slice a1 ss.length c1):=by simp[RE,th]
        have d3:w8 (w,3)=OK (.slice a2 2 c2):=by simp[RE,th]
        have f0:w8.frozen? w=RC:=by simp[RO,th]
        have f1:w8.frozen? (w,1)=RC:=by simp[RO,th]
        have f2:w8.frozen? (w,2)=RC:=by simp[RO,th]
        have f3:w8.frozen? (w,3)=RC:=by simp[RO,th]
        have H8:=r9 (r_ aw (r_ D3 th));clear aw D3 lB th g5 g6 x2 lP;go_upto_region 22 with (fail)
        obtain⟨W9,Fo⟩:=zzN (yh w (str bs) (.int RD bv) (.slice ie IU iq) (.slice i6 IT iZ) w8);have oJ:=Fo;unfold yh at oJ;rw[oJ];have tF:WAt F ww d (k+1) l n H b' (e'++jV env t'.args ss) (⟨v,ss,y,no,env⟩::st) bs bv ie i6 IU iq IT iZ (.slice a8 (e'.length+(jV env t'.args ss).length) c8) (.slice a7 (st.length+1) c7) w W9:=by
         have sG:=s_.out.2.2.2.2;have iP:=H2.out.2.2.1.size;have lP:=H3.out.2.2.1;have aO:But (fun i=>i=w) w8 W9:=by rw[<- Fo];exact x_ (But.refl _ _) rfl
         have BH:But (fun i=>i=ww\/i=w) W2 W9:=(((But.ofBelow (m:=fun i=>i=ww\/i=w) H3.out.2.1).trans (But.ofBelow (H7.out.2.1))).trans (But.ofBelow H8.out.1)).trans (aO.weak fun i _ h=>.inr h);have hz9:=BH.size;have lg:(jV env t'.args ss).length=t'.args.length:=pU _ _ HM.out.2.2.2.2.1;have aE:=HM.out.2.2.2.2.2.2.2.2.1;have AB:=HM.out.2.2.2.2.2.2.2.2.2;have Ev:=sG.pre.ld;have MQ:=sG.pre.d20;have Kw:=sG.pre.stl;have kp:∀(i:Nat) (ob:Obj),Fx F w 2 i->W2.heap[i]?=OK ob->Fx F w 2 i/\W9.heap[i]?=OK ob:=fun i ob hi ho=>by
          have hx:=Fx.low' sG.pre.hF hi (by omega);exact⟨hi,by rw[BH.block i (zZ ho) (fun e=>e.elim hx.1 hx.2)];exact ho⟩
         refine sG.move ((H2.out.2.2.1.weak fun i _ h=>.inl h).trans BH) ?_ (by rw[<- Fo];exact pB H8.out.2.2) HM.out.2.2.2.2.2.1 (by rw[RL,lg];have:=aE.2.1;have:=HM.out.2.2.2.2.1;omega) (by rw[RU];omega)
          (jg _ _ (qY (by omega) _ aE.2.2) (pX (qY (by omega) _ sG.pre.ok) (by omega) _ _ (zo aE.1).1)) ⟨by show env.length<=_;omega,qY (by omega) _ sG.pre.ok,vm (by omega) _ sG.pre.okg⟩
          ⟨AB.1,jw _ _ AB.2 (wu sG.pre.wf.2.1 _ _ sG.pre.wf.1.1),fun f hf=>?_⟩ ((Rep.keep kp).2 _ _ HM.out.2.2.1) ?_ ?_
         ·have h:=H2.out.2.1;unfold Wri at *;rw[aO.block ww (by omega) (by show ww≠w;omega),H8.out.1.block ww (by omega),H7.out.2.1.block ww (by omega),H3.out.2.1.block ww (by omega),h,Li.out]
         ·rw[Sa]at hf;rcases Sc.1 hf with rfl|hf
          ·exact⟨sG.pre.wf.1.2.1,sG.pre.wf.1.2.2,sG.pre.wf.2.1⟩
          ·exact sG.pre.wf.2.2 f hf
         ·rw[RL];refine(Rep.keep fun i ob hi ho=>?_).1 _ _ H8.out.2.1;have hx:Fx F w 2 i:=by
           rcases hi with h|h
           ·exact h
           ·exact .inr (by omega)
          exact⟨hx,by rw[aO.block i (zZ ho) (Fx.low' sG.pre.hF hx (by omega)).2];exact ho⟩
         ·rw[RU];refine(H7.out.1.keep (w':=W9) fun g o hg ho=>?_).rep (fun g hg=>.inr (by have:=H7.out.2.2 g hg;omega)) ?_
          ·have h1:=H7.out.2.2 g hg;have h2:=zZ ho;rw[aO.block g (by omega) (by omega),H8.out.1.block g h2];exact ho
          ·rw[yB];refine zY.append ((Rep.keep kp).2 _ _ HM.out.2.2.2.2.2.2.1) ?_;rw[encF];exact zY.append ((Rep.keep kp).2 _ _ BK.out.1) (zQ.2 ⟨_,_,rfl,(Rep.keep kp).1 _ _ BK.out.2.1,zQ.2 ⟨_,_,rfl,zC.2 rfl,zE.2 rfl⟩⟩)
        have Fq:R=evN d (k+1) l b' (e'++jV env t'.args ss) n (TW WFr.gf (⟨v,ss,y,no,env⟩::st)):=by
         rw[s_.out.2.1,evN_bd HM.out.1];rfl
        have HN:=r9 (r_ tF (r_ Fq tF.pre.wri));clear tF Fq oJ Fo p1 p2 p3 p4 d0 d1 d2 d3 f0 f1 f2 f3;go_wp2_with fail
        go_roundw
        case rel=>exact⟨d,l,b',_,_,_,_,_,_,_,_,_,_,by have:=s_.out.1;omega,HN.out.2.1,HN.out.1⟩
        case measure=>
         rw[s_.out.2.2.1];refine SJ (SH (pP HN.out.2.2)) ?_;omega
theorem write_any (d:Nat):pC d:=by
 induction d using Nat.strongRecOn with
 |_ d ih=>exact write_step d ih
def jQ (F:Nat->Prop)(o:Option Bd)(w:World)(en:Ending)(w':World):Prop:=
 ∃ s v a1 n1 c1 a2 n2 c2,en=.returned (.tuple #[.agg #[str s,.int .i64 v,.slice a1 n1 c1,.slice a2 n2 c2],.bool o.isSome])/\Below w w w' /\
   ∀x,o=OK x->zY (fun i=>F i\/w<=i) w' (kU x) [s,.int RD v,.slice a1 n1 c1,.slice a2 n2 c2]
theorem jQ.drew {F:Nat->Prop}{o:Option Bd}{w w':World}{en:Ending}(h:jQ F o w en w'):jQ F o w en w'.drew:=by
 obtain⟨s,v,a1,n1,c1,a2,n2,c2,e,hb,hr⟩:=h;exact⟨s,v,a1,n1,c1,a2,n2,c2,e,Below.drew hb,fun x hx=>(hr x hx).drew⟩
structure SAppPre (F:Nat->Prop)(t a:Ty)(rest bs:List Ty)(m n:Bd)(tv bv:Value)(ms ns:Bs)(mv nv:Int)(E2 E0 aR tI:Option Addr)(EX EZ EW EY iR aN iM tL:Nat)(w:World):Prop where
 ts:t.args=a::rest
 t15:zU t<=15
 bl:bs.length<=100
 b15:∀t∈bs,zU t<=15
 fit:jo (bs++rest) m (zx bs a n rest) []
 wm:wfB m
 wn:wfB n
 rt:Rep F w (ki t) tv
 rm:zY F w (kU m) [ms,.int RD mv,.slice E2 EX EZ,.slice E0 EW EY]
 rn:zY F w (kU n) [ns,.int RD nv,.slice aR iR aN,.slice tI iM tL]
 rb:Rep F w (.sl 47 1 bs.length (qu bs)) bv
 hF:∀i,F i->i<(w:Nat)
theorem l4Apply_any (F:Nat->Prop)(t a:Ty)(rest bs:List Ty)(m n:Bd)(tv bv:Value)(ms ns:Bs)(mv nv:Int)(E2 E0 aR tI:Option Addr)(EX EZ EW EY iR aN iM tL:Nat)(w:World)(h:SAppPre F t a rest bs m n tv bv ms ns mv nv E2 E0 aR tI EX EZ EW EY iR aN iM tL w) :
 Calls RG 40 #[.agg #[tv],.agg #[ms,.int RD mv,.slice E2 EX EZ,.slice E0 EW EY],.agg #[ns,.int RD nv,.slice aR iR aN,.slice tI iM tL],bv] w
  (jQ F (yS m (zx bs a n rest) (bs.length+rest.length)) w):=by
 have tQ:=h.rt;rw[jJ]at tQ;obtain⟨ta,tc,e,htc,_,AD⟩:=zH tQ;subst e;rw[h.ts]at tQ htc AD;obtain⟨kb,ko,u,d1,e,hkF,il,F3,Fc,iK⟩:=AD 0 (by simp);subst e;simp only[qu,List.getElem?_cons_zero,RK]at F3;subst F3;obtain⟨ua,uc,rfl⟩:=za iK;obtain⟨ba,bc,ebv,_⟩:=zH h.rb;subst ebv;have Dk:=h.bl;have hFw:=h.hF;have hlen:t.args.length=rest.length+1:=by rw[h.ts];rfl
 rw[hlen];have sT:=zo h.t15;have I8:rest.length<=15:=by have:=sT.2;omega
 have PY:w (kb,ko)=OK (.slice ua a.args.length uc):=Fc;obtain⟨W,hW⟩:=zzN (((((w.alloc (.cells #[.slice (kb,ko) (rest.length+1) tc] 47)).alloc (.cells #[ms,.int RD mv,.slice E2 EX EZ,.slice E0 EW EY] 53)).alloc (.cells #[ns,.int RD nv,.slice aR iR aN,.slice tI iM tL] 53)).alloc (.cells #[str [],.int RD 0,(),()] 53)).alloc (.cells #[.int RD 200,.int RD 0] 144));have iV:(W:Nat)=w+5:=by rw[<- hW];simp only[zK]
 have sF:No w W:=by rw[<- hW];exact(((((sQ _ _).alloc (sZ _) _).alloc (by simp only[zK];omega) _).alloc (by simp only[zK];omega) _).alloc (by simp only[zK];omega) _).alloc (by simp only[zK];omega) _
 have bT:W.heap[(w:Nat)]?=OK (.cells #[.slice (kb,ko) (rest.length+1) tc] 47 (0,0)):=by rw[<- hW];exact zJ (zJ (zJ (zJ (zW _ _))))
 have bM:W.heap[(w:Nat)+1]?=OK (.cells #[ms,.int RD mv,.slice E2 EX EZ,.slice E0 EW EY] 53 (0,0)):=by
  rw[<- hW];refine zJ (zJ (zJ ?_));have:=zW (w.alloc (.cells #[.slice (kb,ko) (rest.length+1) tc] 47)) (.cells #[ms,.int RD mv,.slice E2 EX EZ,.slice E0 EW EY] 53);rwa [zK]at this
 have bN:W.heap[(w:Nat)+2]?=OK (.cells #[ns,.int RD nv,.slice aR iR aN,.slice tI iM tL] 53 (0,0)):=by
  rw[<- hW];refine zJ (zJ ?_);have:=zW ((w.alloc (.cells #[.slice (kb,ko) (rest.length+1) tc] 47)).alloc (.cells #[ms,.int RD mv,.slice E2 EX EZ,.slice E0 EW EY] 53)) (.cells #[ns,.int RD nv,.slice aR iR aN,.slice tI iM tL] 53);simpa only[zK] using this
 have bR:z9 ((w:Nat)+3) 0 () () W:=by
  unfold z9;rw[<- hW];refine zJ ?_;have:=zW (((w.alloc (.cells #[.slice (kb,ko) (rest.length+1) tc] 47)).alloc (.cells #[ms,.int RD mv,.slice E2 EX EZ,.slice E0 EW EY] 53)).alloc (.cells #[ns,.int RD nv,.slice aR iR aN,.slice tI iM tL] 53)) (.cells #[str [],.int RD 0,(),()] 53);simpa only[zK] using this
 have bW:Wri W ((w:Nat)+4) 200 0:=by
  unfold Wri;rw[<- hW];have:=zW ((((w.alloc (.cells #[.slice (kb,ko) (rest.length+1) tc] 47)).alloc (.cells #[ms,.int RD mv,.slice E2 EX EZ,.slice E0 EW EY] 53)).alloc (.cells #[ns,.int RD nv,.slice aR iR aN,.slice tI iM tL] 53)).alloc (.cells #[str [],.int RD 0,(),()] 53)) (.cells #[.int RD 200,.int RD 0] 144);simpa only[zK] using this
 have C1:=gh F 0 bs _ W (Rep.below sF (fun _ h=>h) h.rb) (by omega) (by omega);rw[show ((0:Nat):Int)=0 from rfl]at C1;have C1:=r9 C1;have HP:=r9 h;have HFw:=r9 hFw;clear hFw;have HT:=r9 (r_ tQ (r_ iK (r_ htc (r_ sT hlen))));have HW:=r9 (r_ hW (r_ iV (r_ sF (r_ bT (r_ bM (r_ bN (r_ bR bW)))))));clear h tQ iK htc sT hlen AD hW iV sF bT bM bN bR bW Fc;go_enter Tryz.func40,Tryz.ntmps40;go_upto_region 2 with (fail)
 rw[HW.out.1];go_wp2_with fail
 (with_reducible refine C1.out.mono ?_)
 rintro en w1 ⟨oa,oc,oxs,rfl,NG,aV,sX,Qf⟩;have iV:=HW.out.2.1;have lU:=sX.size;have b1:=fun {i:Nat} {o:Obj} (hi:i<W) (h:W.heap[i]?=OK o)=>(sX.block i hi).trans h;have bT1:=b1 (by omega) HW.out.2.2.2.1;have bN1:=b1 (by omega) HW.out.2.2.2.2.2.1;obtain⟨n0,n1,n2,n3⟩:=kD bN1;have t0:w1 w=OK (.slice (kb,ko) (rest.length+1) tc):=by simp[RE,bT1]
 have k1:w1 (kb,ko)=OK (.slice ua a.args.length uc):=(sX.cell (by show kb<W;omega)).trans ((HW.out.2.2.1.cell il).trans PY)
 have SX:Hid (∀ w',Below w1 w1 w'->w' ((w:Nat)+2,0)=str ns/\w' ((w:Nat)+2,1)=some (.int .i64 nv)/\w' ((w:Nat)+2,2)=some (.slice aR iR aN)/\w' ((w:Nat)+2,3)=some (.slice tI iM tL) /\
  w' w=some (.slice (kb,ko) (rest.length+1) tc)/\w' (kb,ko)=some (.slice ua a.args.length uc)):=by
  show ∀w',_->_;intro w' sA;exact⟨(sA.cell (sK _ _ n0)).trans n0,(sA.cell (sK _ _ n1)).trans n1,(sA.cell (sK _ _ n2)).trans n2,(sA.cell (sK _ _ n3)).trans n3,(sA.cell (sK _ _ t0)).trans t0,(sA.cell (sK _ _ k1)).trans k1⟩
 have H1:=r9 (r_ NG (r_ aV (r_ sX Qf)));clear NG aV sX Qf b1 bT1 bN1 n0 n1 n2 n3 t0 k1 PY C1;go_wp2_with fail
 refine wp_region_noPanic ?_;refine vL (fun w'=>No w1 w') (fun _=>RC) (by kernel_rfl) ?_;have sP:No w1 w1.drew:=Below.drew (sQ _ _);refine tC [0,1,2,3,4,5,6] sP ?_;iterate 7 (refine tl (fun w' sL=>SX.out w' sL) ?_)
 refine tz ?_;refine oC 7 (sP.alloc (sZ _) _) ?_;refine oC 8 (sP.alloc (sZ _) _) ?_;refine zX (by kernel_rfl) (RQ ?_) _;obtain⟨W2,se⟩:=zzN ((w1.alloc (.cells #[.int RD (-1),.string ⟨ns.toArray⟩,.int RD nv,.slice aR iR aN,.slice tI iM tL,.slice ua a.args.length uc,.slice oa bs.length oc,.int RD 0,.int RD 0] 147)).drew);rw[se];have sY:No w1 W2:=by rw[<- se];exact Below.drew ((sQ _ _).alloc (sZ _) _)
 have iP:(W2:Nat)=w1+1:=by rw[<- se];exact zK _ _
 have Lb:W2.heap[(w1:Nat)]?=OK (.cells #[.int RD (-1),ns,.int RD nv,.slice aR iR aN,.slice tI iM tL,.slice ua a.args.length uc,.slice oa bs.length oc,.int RD 0,.int RD 0] 147 (0,0)):=by rw[<- se];exact zW _ _
 have SY:Hid (∀ w',Below W2 W2 w'->w' w1=some (.int .i64 (-1))/\w' (w1,1)=str ns/\w' (w1,2)=some (.int .i64 nv)/\w' (w1,3)=some (.slice aR iR aN)/\w' (w1,4)=some (.slice tI iM tL) /\
  w' (w1,5)=some (.slice ua a.args.length uc)/\w' (w1,6)=some (.slice oa bs.length oc)/\w' (w1,7)=some (.int .i64 0)/\w' (w1,8)=some (.int .i64 0)):=by
  show ∀w',_->_;intro w' sA;have h:=(sA.block w1 (by omega)).trans Lb;simp[RE,h]
 have KB:zz 9 (.slice oa bs.length oc) bs.length oxs w1:=H1.out.1.src (vc _ _ H1.out.2.1);have SRC:Hid (∀w',No W2 w'->zz 9 (.slice oa bs.length oc) bs.length oxs w'):=by
  show ∀w',_->_;intro w' sA;exact(KB.belowAll sY (sZ _)).belowAll sA (sZ _)
 have H2:=r9 (r_ sY (r_ iP Lb));clear se sY Lb KB sP iP iV lU;go_wp2_with fail
 refine je (X:=Nat×Nat×Option Addr×Nat×Option Addr×Nat) (fun ac x=>(((((((ac.put (OK 29) (.slice x.1 0 0)).put (OK 30) (.slice oa bs.length oc)).put (OK 31) (.slice x.2.2.1 (bs.length) x.2.2.2.1)).put (OK 32) (.agg #[.int RD (-1),ns,.int RD nv,.slice aR iR aN,.slice tI iM tL,.slice ua a.args.length uc,.slice oa bs.length oc,.int RD 0,.int RD 0])).put (OK 33) (.slice x.2.1 1 1)).put (OK 34) (.slice x.2.2.2.2.1 (bs.length+1) x.2.2.2.2.2)).put (OK 14) (.slice x.2.2.2.2.1 (bs.length+1) x.2.2.2.2.2))) (fun x w7=>Own w7 147 9 (.slice x.2.2.2.2.1 (bs.length+1) x.2.2.2.2.2) (bs.length+1) (oxs++[.int RD (-1),str ns,.int RD nv,.slice aR iR aN,.slice tI iM tL,.slice ua a.args.length uc,.slice oa bs.length oc,.int RD 0,.int RD 0])/\No W2 w7/\∀g,(RI x.2.2.2.2.1 (bs.length+1) x.2.2.2.2.2).ownBlock=OK g->(W2:Nat)<=g) ?_ ?_
 ·refine wp_region_noPanic ?_;refine vL (fun w'=>No W2 w') (fun _=>RC) (by kernel_rfl) ?_;have sP:No W2 W2.drew:=Below.drew (sQ _ _);refine tC [1,3] sP ?_;iterate 2 (refine tl (fun w' sL=>SY.out w' sL) ?_)
  refine tz ?_;refine qU 0 4 (by kernel_rfl) ?_ ?_
  ·(intro o0 ho K' hK;simp at ho;subst ho);go_simp
   (refine hK.out _ _ (fun _=>(sP.alloc (sZ _) (.cells #[] 147))) ?_;clear hK K';try simp only[pQ,pN,pZ,pS]);refine qU 2 4 (by kernel_rfl) ?_ ?_
   focus
    (intro o2 ho K' hK;simp at ho;subst ho);refine zL (by rfl) _ _ _ (by rfl) 147 (.agg #[.int RD 0,str [],.int RD 0,(),(),(),(),.int RD 0,.int RD 0]) 9 144 Sp Tryz.infoBo rfl (by decide) (.slice W2 0 0) 0 [] (by rfl) (Own.litAt #[] 0 _ rfl (by decide) rfl) _ bs.length oxs (by rfl) (SRC.out _ (sP.alloc (sZ _) (.cells #[] 147))) (by unfold maxLen;omega) (by omega) ?_
    intro a5 c5 w5 lh sx li;simp only[SU,Ss]at lh li ⊢;have iI:No W2 w5:=(sP.alloc (sZ _) (.cells #[] 147)).trans (sx.toBelow ((sP.alloc (sZ _) (.cells #[] 147))).size fun i hi e=>by simp[RM]at e;omega);have Ck:Hid (∀g,(RI a5 (bs.length) c5).ownBlock=OK g->(W2:Nat)<=g):=fun g hg=>by rcases li g hg with h|h;simp[RM]at h;omega;have h:g=W2+1:=h.trans (zK _ _);omega
    (refine hK.out _ _ (fun _=>iI) ?_;clear hK K';try simp only[pQ,pN,pZ,pS]);refine oC 4 (iI.alloc iI.size _) ?_
    (refine on 5 ?_;intro o ho K' hK;simp at ho;subst ho);refine zL (by rfl) _ _ _ (by rfl) 147 (.agg #[.int RD 0,str [],.int RD 0,(),(),(),(),.int RD 0,.int RD 0]) 9 144 Sp Tryz.infoBo rfl (by decide) (.slice a5 (bs.length) c5) (bs.length) oxs (by rfl) (lh.alloc _) _ 1 [.int RD (-1),ns,.int RD nv,.slice aR iR aN,.slice tI iM tL,.slice ua a.args.length uc,.slice oa bs.length oc,.int RD 0,.int RD 0] (by rfl) (zz.lit1 #[.int RD (-1),str ns,.int RD nv,.slice aR iR aN,.slice tI iM tL,.slice ua a.args.length uc,.slice oa bs.length oc,.int RD 0,.int RD 0] rfl (by simp[str,R4]) _ (by rfl)) (by unfold maxLen;omega) (by omega) ?_
    intro a7 c7 w7 sj sH sS;have ik:No W2 w7:=(iI.alloc iI.size (.cells #[.int RD (-1),ns,.int RD nv,.slice aR iR aN,.slice tI iM tL,.slice ua a.args.length uc,.slice oa bs.length oc,.int RD 0,.int RD 0] 147)).trans (sH.toBelow ((iI.alloc iI.size (.cells #[.int RD (-1),ns,.int RD nv,.slice aR iR aN,.slice tI iM tL,.slice ua a.args.length uc,.slice oa bs.length oc,.int RD 0,.int RD 0] 147))).size fun i hi e=>by have:=Ck.out i e;omega);have tD:∀g,(RI a7 (bs.length+1) c7).ownBlock=OK g->(W2:Nat)<=g:=fun g hg=>by rcases sS g hg with h|h;exact Ck.out g h;exact sU ((iI.alloc iI.size (.cells #[.int RD (-1),ns,.int RD nv,.slice aR iR aN,.slice tI iM tL,.slice ua a.args.length uc,.slice oa bs.length oc,.int RD 0,.int RD 0] 147))).size (SH h.symm)
   rotate_left
   focus
    (intro o4 ho K' hK;simp at ho;subst ho);go_simp
    refine hK.out _ _ (fun _=>?_) ?_
    ·exact((sP.alloc (sZ _) (.cells #[] 147)).alloc (by rw[zK];exact SG _) (.cells #[.int RD (-1),ns,.int RD nv,.slice aR iR aN,.slice tI iM tL,.slice ua a.args.length uc,.slice oa bs.length oc,.int RD 0,.int RD 0] 147))
    clear hK K';(try simp only[pQ,pN,pZ,pS]);(refine on 2 ?_;intro o ho K' hK;simp at ho;subst ho);refine zL (by rfl) _ _ _ (by rfl) 147 (.agg #[.int RD 0,str [],.int RD 0,(),(),(),(),.int RD 0,.int RD 0]) 9 144 Sp Tryz.infoBo rfl (by decide) (.slice W2 0 0) 0 [] (by rfl) ((Own.litAt #[] 0 _ rfl (by decide) rfl).alloc _) _ bs.length oxs (by rfl) (SRC.out _ ((sP.alloc (sZ _) (.cells #[] 147)).alloc (by rw[zK];exact SG _) (.cells #[.int RD (-1),ns,.int RD nv,.slice aR iR aN,.slice tI iM tL,.slice ua a.args.length uc,.slice oa bs.length oc,.int RD 0,.int RD 0] 147))) (by unfold maxLen;omega) (by omega) ?_;intro a5 c5 w5 lh sx li;simp only[SU,Ss]at lh li ⊢;have iI:No W2 w5:=((sP.alloc (sZ _) (.cells #[] 147)).alloc (by rw[zK];exact SG _) (.cells #[.int RD (-1),ns,.int RD nv,.slice aR iR aN,.slice tI iM tL,.slice ua a.args.length uc,.slice oa bs.length oc,.int RD 0,.int RD 0] 147)).trans (sx.toBelow (((sP.alloc (sZ _) (.cells #[] 147)).alloc (by rw[zK];exact SG _) (.cells #[.int RD (-1),ns,.int RD nv,.slice aR iR aN,.slice tI iM tL,.slice ua a.args.length uc,.slice oa bs.length oc,.int RD 0,.int RD 0] 147))).size fun i hi e=>by simp[RM]at e;omega);have Ck:Hid (∀g,(RI a5 (bs.length) c5).ownBlock=OK g->(W2:Nat)<=g):=fun g hg=>by rcases li g hg with h|h;simp[RM]at h;omega;have h:g=W2+1+1:=h.trans (wP W2 _ _);omega
    have M5:zz 9 (.slice ((W2:Nat)+1,0) 1 1) 1 #[.int RD (-1),str ns,.int RD nv,.slice aR iR aN,.slice tI iM tL,.slice ua a.args.length uc,.slice oa bs.length oc,.int RD 0,.int RD 0].toList w5:=(zz.lit1 #[.int RD (-1),str ns,.int RD nv,.slice aR iR aN,.slice tI iM tL,.slice ua a.args.length uc,.slice oa bs.length oc,.int RD 0,.int RD 0] rfl (by simp[str,R4]) _ (by simp):zz 9 (.slice ((W2:Nat)+1,0) 1 1) 1 #[.int RD (-1),str ns,.int RD nv,.slice aR iR aN,.slice tI iM tL,.slice ua a.args.length uc,.slice oa bs.length oc,.int RD 0,.int RD 0].toList ((W2.drew.alloc (.cells #[] 147)).alloc (.cells #[.int RD (-1),ns,.int RD nv,.slice aR iR aN,.slice tI iM tL,.slice ua a.args.length uc,.slice oa bs.length oc,.int RD 0,.int RD 0] 147))).thru sx (fun e=>by simp[RM]at e);(refine hK.out _ _ (fun _=>iI) ?_;clear hK K';try simp only[pQ,pN,pZ,pS]);(refine on 5 ?_;intro o ho K' hK;simp at ho;subst ho);refine zL (by rfl) _ _ _ (by rfl) 147 (.agg #[.int RD 0,str [],.int RD 0,(),(),(),(),.int RD 0,.int RD 0]) 9 144 Sp Tryz.infoBo rfl (by decide) (.slice a5 (bs.length) c5) (bs.length) oxs (by rfl) (lh) _ 1 [.int RD (-1),ns,.int RD nv,.slice aR iR aN,.slice tI iM tL,.slice ua a.args.length uc,.slice oa bs.length oc,.int RD 0,.int RD 0] (by rfl) (M5) (by unfold maxLen;omega) (by omega) ?_;intro a7 c7 w7 sj sH sS;have ik:No W2 w7:=iI.trans (sH.toBelow (iI).size fun i hi e=>by have:=Ck.out i e;omega);have tD:∀g,(RI a7 (bs.length+1) c7).ownBlock=OK g->(W2:Nat)<=g:=fun g hg=>by rcases sS g hg with h|h;exact Ck.out g h;exact sU (iI).size (SH h.symm)
   all_goals
    (refine hK.out _ _ (fun _=>ik) ?_;clear hK K';try simp only[pQ,pN,pZ,pS]);refine oC 6 ik ?_
    refine zX (by kernel_rfl) (RQ ?_) _;clear sx li lh sH sS iI sP Ck;exact⟨rfl,⟨_,_,a5,c5,a7,c7⟩,by rfl,sj,ik,tD⟩
  ·(intro o4 ho K' hK;simp at ho;subst ho);go_simp
   (refine hK.out _ _ (fun _=>(sP.alloc (sZ _) (.cells #[.int RD (-1),ns,.int RD nv,.slice aR iR aN,.slice tI iM tL,.slice ua a.args.length uc,.slice oa bs.length oc,.int RD 0,.int RD 0] 147))) ?_;clear hK K';try simp only[pQ,pN,pZ,pS]);(refine on 0 ?_;intro o ho K' hK;simp at ho;subst ho;go_simp);refine hK.out _ _ (fun _=>?_) ?_
   ·exact((sP.alloc (sZ _) (.cells #[.int RD (-1),ns,.int RD nv,.slice aR iR aN,.slice tI iM tL,.slice ua a.args.length uc,.slice oa bs.length oc,.int RD 0,.int RD 0] 147)).alloc (by rw[zK];exact SG _) (.cells #[] 147))
   clear hK K';(try simp only[pQ,pN,pZ,pS]);(refine on 2 ?_;intro o ho K' hK;simp at ho;subst ho);refine zL (by rfl) _ _ _ (by rfl) 147 (.agg #[.int RD 0,str [],.int RD 0,.slice U 0 0,.slice U 0 0,.slice U 0 0,.slice U 0 0,.int RD 0,.int RD 0]) 9 144 Sp Tryz.infoBo rfl (by decide) (.slice (OK ⟨W2.heap.size+1,0,U⟩) 0 0) 0 [] (by rfl) (Own.litAt #[] 0 _ (by simp) (by decide) rfl) _ bs.length oxs (by rfl) (SRC.out _ ((sP.alloc (sZ _) (.cells #[.int RD (-1),str ns,.int RD nv,.slice aR iR aN,.slice tI iM tL,.slice ua a.args.length uc,.slice oa bs.length oc,.int RD 0,.int RD 0] 147)).alloc (by rw[zK];exact SG _) (.cells #[] 147))) (by unfold maxLen;omega) (by omega) ?_;intro a5 c5 w5 lh sx li;simp only[SU,Ss]at lh li ⊢;have iI:No W2 w5:=((sP.alloc (sZ _) (.cells #[.int RD (-1),ns,.int RD nv,.slice aR iR aN,.slice tI iM tL,.slice ua a.args.length uc,.slice oa bs.length oc,.int RD 0,.int RD 0] 147)).alloc (by rw[zK];exact SG _) (.cells #[] 147)).trans (sx.toBelow (((sP.alloc (sZ _) (.cells #[.int RD (-1),ns,.int RD nv,.slice aR iR aN,.slice tI iM tL,.slice ua a.args.length uc,.slice oa bs.length oc,.int RD 0,.int RD 0] 147)).alloc (by rw[zK];exact SG _) (.cells #[] 147))).size fun i hi e=>by simp[RM]at e;omega);have Ck:Hid (∀g,(RI a5 (bs.length) c5).ownBlock=OK g->(W2:Nat)<=g):=fun g hg=>by rcases li g hg with h|h;simp[RM]at h;omega;have h:g=W2+1+1:=h.trans (wP W2 _ _);omega
   have M5:zz 9 (.slice W2 1 1) 1 #[.int RD (-1),str ns,.int RD nv,.slice aR iR aN,.slice tI iM tL,.slice ua a.args.length uc,.slice oa bs.length oc,.int RD 0,.int RD 0].toList w5:=((zz.lit1 #[.int RD (-1),str ns,.int RD nv,.slice aR iR aN,.slice tI iM tL,.slice ua a.args.length uc,.slice oa bs.length oc,.int RD 0,.int RD 0] rfl (by simp[str,R4]) _ (by simp):zz 9 (.slice W2 1 1) 1 #[.int RD (-1),str ns,.int RD nv,.slice aR iR aN,.slice tI iM tL,.slice ua a.args.length uc,.slice oa bs.length oc,.int RD 0,.int RD 0].toList (W2.drew.alloc (.cells #[.int RD (-1),ns,.int RD nv,.slice aR iR aN,.slice tI iM tL,.slice ua a.args.length uc,.slice oa bs.length oc,.int RD 0,.int RD 0] 147))).alloc (.cells #[] 147)).thru sx (fun e=>by simp[RM]at e);(refine hK.out _ _ (fun _=>iI) ?_;clear hK K';try simp only[pQ,pN,pZ,pS]);(refine on 5 ?_;intro o ho K' hK;simp at ho;subst ho);refine zL (by rfl) _ _ _ (by rfl) 147 (.agg #[.int RD 0,str [],.int RD 0,(),(),(),(),.int RD 0,.int RD 0]) 9 144 Sp Tryz.infoBo rfl (by decide) (.slice a5 (bs.length) c5) (bs.length) oxs (by rfl) (lh) _ 1 [.int RD (-1),ns,.int RD nv,.slice aR iR aN,.slice tI iM tL,.slice ua a.args.length uc,.slice oa bs.length oc,.int RD 0,.int RD 0] (by rfl) (M5) (by unfold maxLen;omega) (by omega) ?_;intro a7 c7 w7 sj sH sS;have ik:No W2 w7:=iI.trans (sH.toBelow (iI).size fun i hi e=>by have:=Ck.out i e;omega);have tD:∀g,(RI a7 (bs.length+1) c7).ownBlock=OK g->(W2:Nat)<=g:=fun g hg=>by rcases sS g hg with h|h;exact Ck.out g h;exact sU (iI).size (SH h.symm)
   (refine hK.out _ _ (fun _=>ik) ?_;clear hK K';try simp only[pQ,pN,pZ,pS]);refine oC 6 ik ?_
   refine zX (by kernel_rfl) (RQ ?_) _;clear sx li lh sH sS iI sP Ck;exact⟨rfl,⟨_,_,a5,c5,a7,c7⟩,by rfl,sj,ik,tD⟩
 rintro⟨gE,gL,a5,c5,a7,c7⟩ w7 ⟨sj,ik,tD⟩;simp only[pQ,pN,pZ,pS];have H7:=r9 (r_ sj (r_ ik tD));clear sj ik tD;have MZ:No w1 w7:=H2.out.1.trans (H7.out.2.1.mono (by have:=H2.out.2.1;omega));have JZ:No W w7:=zzT H1.out.2.2.1 MZ;have EF:No w w7:=zzT HW.out.2.2.1 JZ;have t7:w7 w=OK (.slice (kb,ko) (rest.length+1) tc):=by
  have h:=(JZ.block w (by have:=HW.out.2.1;omega)).trans HW.out.2.2.2.1;simp[RE,h]
 have GC:¬tc=1->Rep F w7 (.sl 47 1 rest.length (qu rest)) (.slice (kb,ko+1) rest.length (tc-1)):=fun _=>Rep.below EF (fun _ h=>h) (eP (d:=ki a) HT.out.1);have hT1:tc=1->rest=[]/\Rep F w7 (.sl 47 1 rest.length (qu rest)) (.slice (kb,ko) rest.length 0):=fun h=>by
  obtain rfl:rest=[]:=by
   have h1:=HT.out.2.2.1;rw[h]at h1;simp at h1;exact h1
  exact⟨rfl,zv.2 ⟨by simp[qu],_,_,rfl,R6 _,fun h=>by simp at h,.inl rfl⟩⟩
 have H8:=r9 (r_ MZ (r_ JZ EF));clear MZ JZ EF;by_cases Md:tc=1
 ·have QQ:=(hT1 Md).2;subst Md;have htc0:(rest.length:Int)=0:=by have:=HT.out.2.2.1;simp at this;simp[this]
  clear hT1 GC;have C6:=r9 (gh F bs.length rest _ w7 QQ (by omega) (by omega));clear QQ;go_wp2_with fail
  (with_reducible refine C6.out.mono ?_);rintro en w8 ⟨a8,c8,Of,rfl,KI,D3,aw,ll⟩
  have Hx:=H7.out.1.keep (w':=w8) fun g o hg hh=>by rw[aw.block g (zZ hh)];exact hh
  have Du:=KI.src (vc _ _ D3);have HA:=r9 (r_ Hx (r_ Du (r_ D3 aw)));clear Hx Du KI D3 aw ll;go_wp2_with (at_builtin;refine zF rfl _ _ 105 rfl 147 (.agg #[.int RD 0,str [],.int RD 0,(),(),(),(),.int RD 0,.int RD 0]) 9 144 Sp Tryz.infoBo rfl (by decide) (.slice a7 (bs.length+1) c7) (bs.length+1) _ rfl HA.out.1 _ rest.length Of rfl HA.out.2.1 (by unfold maxLen;omega) (by omega) ?_)
  intro a9 c9 w9 KH aO KV;have EI:No W2 w9:=(zzT H7.out.2.1 HA.out.2.2.2).trans (aO.toBelow (by have:=H7.out.2.1.size;have:=HA.out.2.2.2.size;omega) fun i hi e=>by have:=H7.out.2.2 i e;omega);have Ik:∀g,(RI a9 (bs.length+1+rest.length) c9).ownBlock=OK g->(W2:Nat)<=g:=fun g hg=>by
   rcases KV g hg with h|h
   ·exact H7.out.2.2 g h
   ·have:=H7.out.2.1.size;have:=HA.out.2.2.2.size;omega
  have BF:No W w9:=H1.out.2.2.1.trans ((H2.out.1.trans (EI.mono (by have:=H2.out.2.1;omega))).mono H1.out.2.2.1.size);have iV:=HW.out.2.1;have Ii:∀ {i:Nat} {o:Obj},i<W->W.heap[i]?=OK o->w9.heap[i]?=OK o:=fun hi h=>(BF.block _ hi).trans h;have Re:=Ii (by omega) HW.out.2.2.2.1;have Rg:=Ii (by omega) HW.out.2.2.2.2.1;have Rf:z9 ((w:Nat)+3) 0 () () w9:=Ii (by omega) HW.out.2.2.2.2.2.2.1;have Rc:Wri w9 ((w:Nat)+4) 200 0:=Ii (by omega) HW.out.2.2.2.2.2.2.2;obtain⟨m0,m1,m2,m3⟩:=kD Rg;have t9:w9 w=OK (.slice (kb,ko) (rest.length+1) 1):=by simp[RE,Re]
  have t9':(w9.alloc (.cells #[] 155)) w=OK (.slice (kb,ko) (rest.length+1) 1):=zV t9;have EE:No w (w9.alloc (.cells #[] 155)):=(zzT HW.out.2.2.1 BF).alloc (by have:=BF.size;omega) _;have JA:zY (fun i=>(F i/\i<w)\/w+5<=i) w9 (qJ (zx bs a n rest)) (oxs++([.int RD (-1),str ns,.int RD nv,.slice aR iR aN,.slice tI iM tL,.slice ua a.args.length uc,.slice oa bs.length oc,.int RD 0,.int RD 0]++Of)):=by
   have kw:∀(i:Nat) (o:Obj),F i->w.heap[i]?=OK o->((F i/\i<w)\/w+5<=i)/\w9.heap[i]?=OK o:=fun i o hi ho=>⟨.inl ⟨hi,zZ ho⟩,by rw[BF.block i (by have:=zZ ho;omega),HW.out.2.2.1.block i (zZ ho)];exact ho⟩;have Q0:∀(i:Nat),i<w1->w9.heap[i]?=w1.heap[i]?:=fun i hi=>by rw[EI.block i (by have:=H2.out.2.1;omega),H2.out.1.block i hi]
   have kf:∀(i:Nat),F i->(F i/\i<w)\/w+5<=i:=fun i hi=>by
    rcases TR i w with h|h
    ·exact .inl ⟨hi,h⟩
    ·exact .inr (by have:=HFw.out i hi;omega)
   have Bj:zY (fun i=>(F i/\i<w)\/w+5<=i) w9 (qJ (opens 0 bs)) oxs:=(Rep.keep fun i o hi ho=>⟨kf i hi,by rw[Q0 i (zZ ho)];exact ho⟩).2 _ _ H1.out.2.1;unfold zx;rw[vu,qJ,de];refine zY.append Bj ?_;refine zY.append (vs:=[.int RD (-1),ns,.int RD nv,.slice aR iR aN,.slice tI iM tL,.slice ua a.args.length uc,.slice oa bs.length oc,.int RD 0,.int RD 0]) ?_ ?_
   ·refine zY.append (vs:=[.int RD (-1)]) (zY.one (zC.2 rfl)) (zY.append (ds:=kU n) (vs:=[ns,.int RD nv,.slice aR iR aN,.slice tI iM tL]) ((Rep.keep kw).2 _ _ HP.out.rn) ?_);refine zQ.2 ⟨_,_,rfl,(Rep.keep kw).1 _ _ HT.out.2.1,zQ.2 ⟨_,_,rfl,?_,zQ.2 ⟨_,_,rfl,zC.2 rfl,zQ.2 ⟨_,_,rfl,y9.2 ⟨_,rfl⟩,zE.2 rfl⟩⟩⟩⟩;rw[qF];refine(H1.out.1.keep (w':=w9) fun g o hg hh=>by rw[Q0 g (zZ hh)];exact hh).rep (fun g hg=>.inr (by have:=H1.out.2.2.2 g hg;omega)) Bj
   ·refine(Rep.keep fun i o hi ho=>⟨kf i hi,?_⟩).2 _ _ HA.out.2.2.1;have hl:=zZ ho;rw[aO.block i hl (fun e=>?_)];exact ho;have:=H7.out.2.2 i e;have h1:=HFw.out i hi;have h2:=H2.out.1.size;have h3:=H1.out.2.2.1.size;omega
  have Bt:(zx bs a n rest).length=bs.length+1+rest.length:=by unfold zx;simp[qF];omega
  have Hn:Rep (fun i=>(F i/\i<w)\/w+5<=i) (w9.alloc (.cells #[] 155)) (.sl 147 9 (zx bs a n rest).length (qJ (zx bs a n rest))) (.slice a9 (bs.length+1+rest.length) c9):=by
   rw[Bt];refine(Rep.keep fun i o hi ho=>⟨hi,zJ ho⟩).1 _ _ (KH.rep (fun g hg=>.inr ?_) JA);have:=Ik g hg;have h2:=H2.out.1.size;have h3:=H1.out.2.2.1.size;omega
  have Hk:zY (fun i=>(F i/\i<w)\/w+5<=i) (w9.alloc (.cells #[] 155)) (kU m) [ms,.int RD mv,.slice E2 EX EZ,.slice E0 EW EY]:=
   (Rep.keep fun i o hi ho=>⟨.inl ⟨hi,zZ ho⟩,by rw[EE.block i (zZ ho)];exact ho⟩).2 _ _ HP.out.rm
  have oZ:=HT.out.2.2.2.1;have Dx:∀x∈rest,zU x<=15:=fun x hx=>oZ.1 x (by rw[HP.out.ts];simp[hx]);have iE:zU a<=15:=oZ.1 a (by rw[HP.out.ts];simp);have OJ:Wri (w9.alloc (.cells #[] 155)) ((w:Nat)+4) ((200:Nat):Int) (20000-((20000:Nat):Int)):=zJ Rc
  have C7:=write_any 20000 (fun i=>(F i/\i<w)\/w+5<=i) ((w:Nat)+4) 200 20000 (bs.length+rest.length) (bs++rest) m (zx bs a n rest) [] ms mv E2 E0 EX EZ EW EY (.slice a9 (bs.length+1+rest.length) c9) (.slice w9 0 0) (w9.alloc (.cells #[] 155))
   { wri:=OJ,hF:=fun i hi=>(by
    rcases hi with h|h
    ·have:=h.2;omega
    ·omega),ld:=sZ _,d20:=sZ _,k200:=sZ _,fit:=HP.out.fit,hn:=by simp,el:=by rw [Bt];omega,nl:=by omega,stl:=by simp,
     ok:=jg _ _ (jO _ _ HP.out.b15 (by omega)) ⟨by rw[okM];exact⟨iE,by rw[qF];omega,jO _ _ HP.out.b15 (by omega)⟩,jO _ _ Dx (by omega)⟩,okg:=trivial,
     wf:=⟨HP.out.wm,jw _ _ (jI _ _) ⟨⟨HP.out.wn,jI _ _⟩,jI _ _⟩,by simp⟩,rb:=Hk,re:=Hn,rs:=zv.2 ⟨by simp [yB],_,_,rfl,sZ _,fun h=>by simp at h,.inl rfl⟩ }
  rw[show ((bs.length+rest.length:Nat):Int)=(bs.length:Int) from by omega,show (w:Nat)+4=(w:Nat)+1+1+1+1 from rfl]at C7;have C7:=r9 C7;have MY:=r9 (show (w8:Nat)<=w9 from aO.size);have H9:=r9 (r_ EE (r_ Rf iV));clear Ii Re Rg Rf Rc EE JA Bt Hn Hk oZ Dx iE OJ EI Ik BF iV KH aO KV;go_wp2_with fail
  (with_reducible refine C7.out.mono ?_);rintro en oE ⟨s,v,b1,p1,d1,b2,p2,d2,rfl,EL,Ic,Ei⟩
  obtain⟨L,S,M3,hL⟩:∃L S:Int,Wri oE ((w:Nat)+4) L S/\decide (0<=L)=(yS m (zx bs a n rest) (bs.length+rest.length)).isSome:=by
   unfold yS;cases hq:evN 20000 200 20000 m (zx bs a n rest) (bs.length+rest.length) (TW WFr.gf []) with
   | none =>
     obtain⟨st,u1,_,_⟩:=Ic hq;exact⟨-1,st,u1,by rw[show (TW WFr.gf []:List Gf)=[] from rfl]at hq;rw[hq];rfl⟩
   | some x =>
     obtain⟨u1,_⟩:=Ei x hq;exact⟨_,_,u1,by rw[show (TW WFr.gf []:List Gf)=[] from rfl]at hq;rw[hq];simp⟩
  have Db:z9 ((w:Nat)+3) 0 () () oE:=z9.but (zJ H9.out.2.1) EL (show ¬((w:Nat)+3=(w:Nat)+1+1+1+1) by omega);have oO:No w oE:=H9.out.1.trans (EL.toBelow H9.out.1.size fun i hi e=>by have e:i=w+1+1+1+1:=e;omega);obtain⟨Ca,Da⟩:=zzN (oE.alloc (.cells #[s,.int RD v,.slice b1 p1 d1,.slice b2 p2 d2] 53));have BI:No oE Ca:=by rw[<- Da];exact(sQ _ _).alloc (sZ _) _
  have Hy:Ca.heap[(oE:Nat)]?=OK (.cells #[s,.int RD v,.slice b1 p1 d1,.slice b2 p2 d2] 53 (0,0)):=by rw[<- Da];exact zW _ _
  have EP:z9 ((w:Nat)+3) 0 () () Ca:=Db.below BI (zZ Db);have IO:Ca ((w:Nat)+4,0)=OK (.int RD L):=(BI.cell (p:=((w:Nat)+4,0)) M3.cell.2.2.2).trans M3.cell.1;obtain⟨o0,o1,o2,o3⟩:=kD Hy;obtain⟨r0,r1,r2,r3,rlt,rf⟩:=EP.cells;have iX:=rf 0;have iu:=rf 1;have lA:=rf 2;have Aj:=rf 3;have Oy:=oO.size;have hne:(oE:Nat)≠w+3:=by have:=zZ Db;omega
  have SZ:Hid (∀w',But (fun i=>i=w+3) Ca w'->w' oE=str s/\w' (oE,1)=OK (.int RD v)/\w' (oE,2)=OK (.slice b1 p1 d1)/\w' (oE,3)=OK (.slice b2 p2 d2)/\w' ((w:Nat)+4,0)=OK (.int RD L)):=by
   show ∀w',_->_;intro w' sA;have k:∀ {p:Addr} {u:Value},p.block≠w+3->Ca.cell? p=u->w'.cell? p=u:=fun hn hu=>(sA.cell (sK _ _ hu) hn).trans hu;exact⟨k hne o0,k hne o1,k hne o2,k hne o3,k (by show (w:Nat)+4≠(w:Nat)+3;omega) IO⟩
  obtain⟨W13,C_,tm,tp,tf,aQ,ic,D4⟩:=EP.store (str s) (.int RD v) (.slice b1 p1 d1) (.slice b2 p2 d2);have CQ:jQ F (yS m (zx bs a n rest) (bs.length+rest.length)) w (.returned (.tuple #[.agg #[s,.int RD v,.slice b1 p1 d1,.slice b2 p2 d2],.bool (decide (0<=L))])) W13:=by
   refine⟨s,v,b1,p1,d1,b2,p2,d2,by rw[hL],ic _ _ (zzT oO BI) (by omega),fun x hx=>?_⟩;unfold yS at hx;rw[RP]at hx;obtain⟨y,hy,rfl⟩:=hx;obtain⟨_,u2⟩:=Ei y hy;refine(Rep.keep fun i o hi ho=>?_).2 _ _ u2;have hl:=zZ ho;have h9:w+5<=(w9.alloc (.cells #[] 155)).heap.size:=by
    have:=zZ (H9.out.2.1);have h5:=H9.out.2.2;have:=HA.out.2.2.2.size;have:=H7.out.2.1.size;have:=H2.out.1.size;have:=H1.out.2.2.1.size;have:=MY.out;rw[zK];omega
   have hc:(F i\/w<=i)/\i≠w+3:=by
    rcases hi with (h|h)|h
    ·exact⟨.inl h.1,by have:=h.2;omega⟩
    all_goals
     exact⟨.inr (by omega),by omega⟩
   exact⟨hc.1,D4 i _ hc.2 (by rw[BI.block i hl];exact ho)⟩
  have HF:=r9 (r_ Da (r_ C_ (r_ CQ ic)));clear Da BI Hy EP IO rf C_ CQ ic D4 hL M3 Db oO EL Ic Ei;go_wp2_with fail
  rw[HF.out.1];refine wp_region_noPanic ?_;refine vL (fun w'=>But (fun i=>i=w+3) Ca w') (fun _=>RC) (by kernel_rfl) ?_;have sP:But (fun i=>i=w+3) Ca Ca.drew:=(But.refl _ Ca).drew;refine tC [0,1,2,3,4,5] sP ?_;iterate 6 (refine tl (fun w' sL=>SZ.out w' sL) ?_)
  refine tz ?_;refine oC 6 ((((sP.setCell (p:=((w:Nat)+3,0)) (.inl rfl) _).setCell (p:=⟨w+3,1,U⟩) (.inl rfl) _).setCell (p:=⟨w+3,2,U⟩) (.inl rfl) _).setCell (p:=⟨w+3,3,U⟩) (.inl rfl) _) ?_;refine oC 7 ((((sP.setCell (p:=((w:Nat)+3,0)) (.inl rfl) _).setCell (p:=⟨w+3,1,U⟩) (.inl rfl) _).setCell (p:=⟨w+3,2,U⟩) (.inl rfl) _).setCell (p:=⟨w+3,3,U⟩) (.inl rfl) _) ?_;refine zX (by kernel_rfl) (RQ ?_) _;go_wp2_with fail
  obtain⟨-,C_,CQ,-⟩:=HF.out;rw[<- C_];refine bodyPost_ret (v:=.tuple #[.agg #[s,.int RD v,.slice b1 p1 d1,.slice b2 p2 d2],.bool (decide (0<=L))]) (by simp[results,Wj,go_sem,tm,tp,tf,aQ]) rfl ?_;exact CQ.drew
 ·have QQ:=GC Md;have htc2:rest.length+1<=tc:=by have:=HT.out.2.2.1;simpa using this
  clear hT1 GC;have C6:=r9 (gh F bs.length rest _ w7 QQ (by omega) (by omega));clear QQ;go_wp2_with fail
  (with_reducible refine C6.out.mono ?_);rintro en w8 ⟨a8,c8,Of,rfl,KI,D3,aw,ll⟩
  have Hx:=H7.out.1.keep (w':=w8) fun g o hg hh=>by rw[aw.block g (zZ hh)];exact hh
  have Du:=KI.src (vc _ _ D3);have HA:=r9 (r_ Hx (r_ Du (r_ D3 aw)));clear Hx Du KI D3 aw ll;go_wp2_with (at_builtin;refine zF rfl _ _ 105 rfl 147 (.agg #[.int RD 0,str [],.int RD 0,(),(),(),(),.int RD 0,.int RD 0]) 9 144 Sp Tryz.infoBo rfl (by decide) (.slice a7 (bs.length+1) c7) (bs.length+1) _ rfl HA.out.1 _ rest.length Of rfl HA.out.2.1 (by unfold maxLen;omega) (by omega) ?_)
  intro a9 c9 w9 KH aO KV;have EI:No W2 w9:=(zzT H7.out.2.1 HA.out.2.2.2).trans (aO.toBelow (by have:=H7.out.2.1.size;have:=HA.out.2.2.2.size;omega) fun i hi e=>by have:=H7.out.2.2 i e;omega);have Ik:∀g,(RI a9 (bs.length+1+rest.length) c9).ownBlock=OK g->(W2:Nat)<=g:=fun g hg=>by
   rcases KV g hg with h|h
   ·exact H7.out.2.2 g h
   ·have:=H7.out.2.1.size;have:=HA.out.2.2.2.size;omega
  have BF:No W w9:=H1.out.2.2.1.trans ((H2.out.1.trans (EI.mono (by have:=H2.out.2.1;omega))).mono H1.out.2.2.1.size);have iV:=HW.out.2.1;have Ii:∀ {i:Nat} {o:Obj},i<W->W.heap[i]?=OK o->w9.heap[i]?=OK o:=fun hi h=>(BF.block _ hi).trans h;have Re:=Ii (by omega) HW.out.2.2.2.1;have Rg:=Ii (by omega) HW.out.2.2.2.2.1;have Rf:z9 ((w:Nat)+3) 0 () () w9:=Ii (by omega) HW.out.2.2.2.2.2.2.1;have Rc:Wri w9 ((w:Nat)+4) 200 0:=Ii (by omega) HW.out.2.2.2.2.2.2.2;obtain⟨m0,m1,m2,m3⟩:=kD Rg;have t9:w9 w=OK (.slice (kb,ko) (rest.length+1) tc):=by simp[RE,Re]
  have t9':(w9.alloc (.cells #[] 155)) w=OK (.slice (kb,ko) (rest.length+1) tc):=zV t9;have EE:No w (w9.alloc (.cells #[] 155)):=(zzT HW.out.2.2.1 BF).alloc (by have:=BF.size;omega) _;have JA:zY (fun i=>(F i/\i<w)\/w+5<=i) w9 (qJ (zx bs a n rest)) (oxs++([.int RD (-1),str ns,.int RD nv,.slice aR iR aN,.slice tI iM tL,.slice ua a.args.length uc,.slice oa bs.length oc,.int RD 0,.int RD 0]++Of)):=by
   have kw:∀(i:Nat) (o:Obj),F i->w.heap[i]?=OK o->((F i/\i<w)\/w+5<=i)/\w9.heap[i]?=OK o:=fun i o hi ho=>⟨.inl ⟨hi,zZ ho⟩,by rw[BF.block i (by have:=zZ ho;omega),HW.out.2.2.1.block i (zZ ho)];exact ho⟩;have Q0:∀(i:Nat),i<w1->w9.heap[i]?=w1.heap[i]?:=fun i hi=>by rw[EI.block i (by have:=H2.out.2.1;omega),H2.out.1.block i hi]
   have kf:∀(i:Nat),F i->(F i/\i<w)\/w+5<=i:=fun i hi=>by
    rcases TR i w with h|h
    ·exact .inl ⟨hi,h⟩
    ·exact .inr (by have:=HFw.out i hi;omega)
   have Bj:zY (fun i=>(F i/\i<w)\/w+5<=i) w9 (qJ (opens 0 bs)) oxs:=(Rep.keep fun i o hi ho=>⟨kf i hi,by rw[Q0 i (zZ ho)];exact ho⟩).2 _ _ H1.out.2.1;unfold zx;rw[vu,qJ,de];refine zY.append Bj ?_;refine zY.append (vs:=[.int RD (-1),ns,.int RD nv,.slice aR iR aN,.slice tI iM tL,.slice ua a.args.length uc,.slice oa bs.length oc,.int RD 0,.int RD 0]) ?_ ?_
   ·refine zY.append (vs:=[.int RD (-1)]) (zY.one (zC.2 rfl)) (zY.append (ds:=kU n) (vs:=[ns,.int RD nv,.slice aR iR aN,.slice tI iM tL]) ((Rep.keep kw).2 _ _ HP.out.rn) ?_);refine zQ.2 ⟨_,_,rfl,(Rep.keep kw).1 _ _ HT.out.2.1,zQ.2 ⟨_,_,rfl,?_,zQ.2 ⟨_,_,rfl,zC.2 rfl,zQ.2 ⟨_,_,rfl,y9.2 ⟨_,rfl⟩,zE.2 rfl⟩⟩⟩⟩;rw[qF];refine(H1.out.1.keep (w':=w9) fun g o hg hh=>by rw[Q0 g (zZ hh)];exact hh).rep (fun g hg=>.inr (by have:=H1.out.2.2.2 g hg;omega)) Bj
   ·refine(Rep.keep fun i o hi ho=>⟨kf i hi,?_⟩).2 _ _ HA.out.2.2.1;have hl:=zZ ho;rw[aO.block i hl (fun e=>?_)];exact ho;have:=H7.out.2.2 i e;have h1:=HFw.out i hi;have h2:=H2.out.1.size;have h3:=H1.out.2.2.1.size;omega
  have Bt:(zx bs a n rest).length=bs.length+1+rest.length:=by unfold zx;simp[qF];omega
  have Hn:Rep (fun i=>(F i/\i<w)\/w+5<=i) (w9.alloc (.cells #[] 155)) (.sl 147 9 (zx bs a n rest).length (qJ (zx bs a n rest))) (.slice a9 (bs.length+1+rest.length) c9):=by
   rw[Bt];refine(Rep.keep fun i o hi ho=>⟨hi,zJ ho⟩).1 _ _ (KH.rep (fun g hg=>.inr ?_) JA);have:=Ik g hg;have h2:=H2.out.1.size;have h3:=H1.out.2.2.1.size;omega
  have Hk:zY (fun i=>(F i/\i<w)\/w+5<=i) (w9.alloc (.cells #[] 155)) (kU m) [ms,.int RD mv,.slice E2 EX EZ,.slice E0 EW EY]:=
   (Rep.keep fun i o hi ho=>⟨.inl ⟨hi,zZ ho⟩,by rw[EE.block i (zZ ho)];exact ho⟩).2 _ _ HP.out.rm
  have oZ:=HT.out.2.2.2.1;have Dx:∀x∈rest,zU x<=15:=fun x hx=>oZ.1 x (by rw[HP.out.ts];simp[hx]);have iE:zU a<=15:=oZ.1 a (by rw[HP.out.ts];simp);have OJ:Wri (w9.alloc (.cells #[] 155)) ((w:Nat)+4) ((200:Nat):Int) (20000-((20000:Nat):Int)):=zJ Rc
  have C7:=write_any 20000 (fun i=>(F i/\i<w)\/w+5<=i) ((w:Nat)+4) 200 20000 (bs.length+rest.length) (bs++rest) m (zx bs a n rest) [] ms mv E2 E0 EX EZ EW EY (.slice a9 (bs.length+1+rest.length) c9) (.slice w9 0 0) (w9.alloc (.cells #[] 155))
   { wri:=OJ,hF:=fun i hi=>(by
    rcases hi with h|h
    ·have:=h.2;omega
    ·omega),ld:=sZ _,d20:=sZ _,k200:=sZ _,fit:=HP.out.fit,hn:=by simp,el:=by rw [Bt];omega,nl:=by omega,stl:=by simp,
     ok:=jg _ _ (jO _ _ HP.out.b15 (by omega)) ⟨by rw[okM];exact⟨iE,by rw[qF];omega,jO _ _ HP.out.b15 (by omega)⟩,jO _ _ Dx (by omega)⟩,okg:=trivial,
     wf:=⟨HP.out.wm,jw _ _ (jI _ _) ⟨⟨HP.out.wn,jI _ _⟩,jI _ _⟩,by simp⟩,rb:=Hk,re:=Hn,rs:=zv.2 ⟨by simp [yB],_,_,rfl,sZ _,fun h=>by simp at h,.inl rfl⟩ }
  rw[show ((bs.length+rest.length:Nat):Int)=(bs.length:Int)+((rest.length:Int)+1)-1 from by omega,show (w:Nat)+4=(w:Nat)+1+1+1+1 from rfl]at C7;have C7:=r9 C7;have MY:=r9 (show (w8:Nat)<=w9 from aO.size);have H9:=r9 (r_ EE (r_ Rf iV));clear Ii Re Rg Rf Rc EE JA Bt Hn Hk oZ Dx iE OJ EI Ik BF iV KH aO KV;go_wp2_with fail
  (with_reducible refine C7.out.mono ?_);rintro en oE ⟨s,v,b1,p1,d1,b2,p2,d2,rfl,EL,Ic,Ei⟩
  obtain⟨L,S,M3,hL⟩:∃L S:Int,Wri oE ((w:Nat)+4) L S/\decide (0<=L)=(yS m (zx bs a n rest) (bs.length+rest.length)).isSome:=by
   unfold yS;cases hq:evN 20000 200 20000 m (zx bs a n rest) (bs.length+rest.length) (TW WFr.gf []) with
   | none =>
     obtain⟨st,u1,_,_⟩:=Ic hq;exact⟨-1,st,u1,by rw[show (TW WFr.gf []:List Gf)=[] from rfl]at hq;rw[hq];rfl⟩
   | some x =>
     obtain⟨u1,_⟩:=Ei x hq;exact⟨_,_,u1,by rw[show (TW WFr.gf []:List Gf)=[] from rfl]at hq;rw[hq];simp⟩
  have Db:z9 ((w:Nat)+3) 0 () () oE:=z9.but (zJ H9.out.2.1) EL (show ¬((w:Nat)+3=(w:Nat)+1+1+1+1) by omega);have oO:No w oE:=H9.out.1.trans (EL.toBelow H9.out.1.size fun i hi e=>by have e:i=w+1+1+1+1:=e;omega);obtain⟨Ca,Da⟩:=zzN (oE.alloc (.cells #[s,.int RD v,.slice b1 p1 d1,.slice b2 p2 d2] 53));have BI:No oE Ca:=by rw[<- Da];exact(sQ _ _).alloc (sZ _) _
  have Hy:Ca.heap[(oE:Nat)]?=OK (.cells #[s,.int RD v,.slice b1 p1 d1,.slice b2 p2 d2] 53 (0,0)):=by rw[<- Da];exact zW _ _
  have EP:z9 ((w:Nat)+3) 0 () () Ca:=Db.below BI (zZ Db);have IO:Ca ((w:Nat)+4,0)=OK (.int RD L):=(BI.cell (p:=((w:Nat)+4,0)) M3.cell.2.2.2).trans M3.cell.1;obtain⟨o0,o1,o2,o3⟩:=kD Hy;obtain⟨r0,r1,r2,r3,rlt,rf⟩:=EP.cells;have iX:=rf 0;have iu:=rf 1;have lA:=rf 2;have Aj:=rf 3;have Oy:=oO.size;have hne:(oE:Nat)≠w+3:=by have:=zZ Db;omega
  have SZ:Hid (∀w',But (fun i=>i=w+3) Ca w'->w' oE=str s/\w' (oE,1)=OK (.int RD v)/\w' (oE,2)=OK (.slice b1 p1 d1)/\w' (oE,3)=OK (.slice b2 p2 d2)/\w' ((w:Nat)+4,0)=OK (.int RD L)):=by
   show ∀w',_->_;intro w' sA;have k:∀ {p:Addr} {u:Value},p.block≠w+3->Ca.cell? p=u->w'.cell? p=u:=fun hn hu=>(sA.cell (sK _ _ hu) hn).trans hu;exact⟨k hne o0,k hne o1,k hne o2,k hne o3,k (by show (w:Nat)+4≠(w:Nat)+3;omega) IO⟩
  obtain⟨W13,C_,tm,tp,tf,aQ,ic,D4⟩:=EP.store (str s) (.int RD v) (.slice b1 p1 d1) (.slice b2 p2 d2);have CQ:jQ F (yS m (zx bs a n rest) (bs.length+rest.length)) w (.returned (.tuple #[.agg #[s,.int RD v,.slice b1 p1 d1,.slice b2 p2 d2],.bool (decide (0<=L))])) W13:=by
   refine⟨s,v,b1,p1,d1,b2,p2,d2,by rw[hL],ic _ _ (zzT oO BI) (by omega),fun x hx=>?_⟩;unfold yS at hx;rw[RP]at hx;obtain⟨y,hy,rfl⟩:=hx;obtain⟨_,u2⟩:=Ei y hy;refine(Rep.keep fun i o hi ho=>?_).2 _ _ u2;have hl:=zZ ho;have h9:w+5<=(w9.alloc (.cells #[] 155)).heap.size:=by
    have:=zZ (H9.out.2.1);have h5:=H9.out.2.2;have:=HA.out.2.2.2.size;have:=H7.out.2.1.size;have:=H2.out.1.size;have:=H1.out.2.2.1.size;have:=MY.out;rw[zK];omega
   have hc:(F i\/w<=i)/\i≠w+3:=by
    rcases hi with (h|h)|h
    ·exact⟨.inl h.1,by have:=h.2;omega⟩
    all_goals
     exact⟨.inr (by omega),by omega⟩
   exact⟨hc.1,D4 i _ hc.2 (by rw[BI.block i hl];exact ho)⟩
  have HF:=r9 (r_ Da (r_ C_ (r_ CQ ic)));clear Da BI Hy EP IO rf C_ CQ ic D4 hL M3 Db oO EL Ic Ei;go_wp2_with fail
  rw[HF.out.1];refine wp_region_noPanic ?_;refine vL (fun w'=>But (fun i=>i=w+3) Ca w') (fun _=>RC) (by kernel_rfl) ?_;have sP:But (fun i=>i=w+3) Ca Ca.drew:=(But.refl _ Ca).drew;refine tC [0,1,2,3,4,5] sP ?_;iterate 6 (refine tl (fun w' sL=>SZ.out w' sL) ?_)
  refine tz ?_;refine oC 6 ((((sP.setCell (p:=((w:Nat)+3,0)) (.inl rfl) _).setCell (p:=⟨w+3,1,U⟩) (.inl rfl) _).setCell (p:=⟨w+3,2,U⟩) (.inl rfl) _).setCell (p:=⟨w+3,3,U⟩) (.inl rfl) _) ?_;refine oC 7 ((((sP.setCell (p:=((w:Nat)+3,0)) (.inl rfl) _).setCell (p:=⟨w+3,1,U⟩) (.inl rfl) _).setCell (p:=⟨w+3,2,U⟩) (.inl rfl) _).setCell (p:=⟨w+3,3,U⟩) (.inl rfl) _) ?_;refine zX (by kernel_rfl) (RQ ?_) _;go_wp2_with fail
  obtain⟨-,C_,CQ,-⟩:=HF.out;rw[<- C_];refine bodyPost_ret (v:=.tuple #[.agg #[s,.int RD v,.slice b1 p1 d1,.slice b2 p2 d2],.bool (decide (0<=L))]) (by simp[results,Wj,go_sem,tm,tp,tf,aQ]) rfl ?_;exact CQ.drew
end Go.Proofs.YtnfenijemllkbaaGreatDoor

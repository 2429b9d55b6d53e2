/- Walks. -/
import Derived.Test.YtdhaafoiokkbnabGreatDoorQ12
set_option linter.unusedVariables false
set_option linter.unusedSimpArgs false
set_option maxHeartbeats 8000000
set_option maxRecDepth 100000
open Go.NoPanic renaming normal->Oy
open Go.Proofs.Tryz renaming prog->No,results39->Tb,results70->Qs,underlying131->Pm,underlying136->P7,underlying45->PD
open Go.Value renaming oneCell'->OR,ownBlock->OG,slice->Ox,string->RC
open Go.Value.int renaming injEq->RE
open Go.Value.slice renaming injEq->OK
open Go.World renaming cell?->Li,frozen?->OC,ownsRow_nil->Pq,setCell->Qi
open List renaming getElem?_eq_some_iff->OB,length_append->Ov,length_cons->OD,map->QI,map_cons->OU,mem_cons->OX,mem_cons_of_mem->Sy,nil_append->OW
open List.cons renaming injEq->OL
open Nat renaming le_of_eq->PL,le_succ->Pu,lt_of_le_of_lt->Qk,lt_or_ge->PT,zero_add->PW,zero_le->OS
open Option renaming bind_eq_bind->Ow,bind_some->Lx,map_eq_some_iff->OA
open Option.some renaming injEq->Oz
open Or renaming inl->OO
namespace Go.Proofs.YtdhaafoiokkbnabGreatDoor
open Go.RowKit
structure KeepPre (F:Nat->Prop) (ww d k l n vv o:Nat) (H:List Ty) (t:Ty) (ss:List Bd) (y no:Bd) (env:List Mn) (st:List WFr) (v0:Int) (a1 a2:Option Addr) (c1 c2:Nat) (ev sv:Value) (w:World):Prop where
 wri:Wri w ww ((k:Nat)+1) (20000-(l:Nat))
 hF:∀ i,F i->i≠ww
 ld:l<=d
 d20:d<=20000
 k200:k<=200
 hv:env[vv]? = some (.op o t)
 fit:ji H (.ask vv ss y no) env (st.map WFr.gf)
 hn:H.length=n
 el:env.length+16*(d+1)<=1000000
 nl:n+16*(d+1)<=1000000
 stl:st.length+d<=40000
 ok:xH (1000000-16*(d+1)) env
 okg:okGs (1000000-16*(d+1)) (st.map WFr.gf)
 wf:wfB (.ask vv ss y no)/\wS env/\∀ f∈st.map WFr.gf,wfG f
 rb:zW F w (kx (.ask vv ss y no)) [str [],.int .i64 (vv:Nat),.slice a1 ss.length c1,.slice a2 2 c2]
 re:Rep F w (.sl 134 9 env.length (qJ env)) ev
 rs:Rep F w (.sl 154 6 st.length (yC st)) sv
def fpos:Bool->Nat
 | false=>2
 | true=>3
def fk:Bool->Value->Value->Value
 | false,_,sv=>sv
 | true,ks,_=>ks
def fy:Bool->Value->Value
 | false,_=>.slice none 0 0
 | true,sv=>sv
structure NInv (F:Nat->Prop) (ww:Nat) (D:Int) (k l n o vv nk:Nat) (env:List Mn) (f:Nat->Nat->Bd->List Mn->Nat->List Gf->Option (Bd×Nat×Nat)) (k0 l0:Nat) (ts:List Ty) (bs:List Bd) (A Z:Prop) (fld:Bool) (ks:Value) (outs:List Bd)
 (a1 a2 ta:Option Addr) (c1 c2 nt tc:Nat) (i0:Int) (w:World) (Q j:Nat) (sv:Value) (us:List Value) (wr:World):Prop where
 but:But (· = ww) w wr
 zw:Q+1<=wr.heap.size
 box:wr.heap[w.heap.size]? = some (.cells #[str [],.int .i64 (vv:Nat),.slice a1 nk c1,.slice a2 2 c2] 47 (0,0))
 res:kU (w.heap.size+1) 0 (.slice none 0 0) (.slice none 0 0) wr
 bnd:wr.heap[w.heap.size+2]? = some (.cells #[.int .i64 (o:Nat),str [],.int .i64 0,.slice none 0 0,.slice none 0 0,.slice ta nt tc,.slice none 0 0,.int .i64 0,.int .i64 i0] 134 (0,0))
 blk:kU Q (o:Nat) (fk fld ks sv) (fy fld sv) wr
 own:Own wr 47 4 sv j us
 fr:∀ g,sv.ownBlock=some g->Q+1<=g
 mode:(∃ zs kj lj,A/\kq f env n k0 l0 (ts.take j) (bs.take j)=some (zs,kj,lj)/\zs.length=j/\Wri wr ww (kj:Nat) (20000-(lj:Nat))/\kj<=k/\lj<=l/\zW (fun i=>Fx F w 4 i/\sv.ownBlock≠some i) wr (zi zs) us /\
  Rep (fun i=>Fx F w 4 i/\sv.ownBlock≠some i) wr (.sl 47 4 outs.length (zi outs)) ks) \/
  (Z/\∃ s,Wri wr ww (-1) s/\0<=s/\s<=D+(j:Int))
theorem NInv.next {F:Nat->Prop} {ww:Nat} {D:Int} {k l n o vv nk:Nat} {env:List Mn} {f:Nat->Nat->Bd->List Mn->Nat->List Gf->Option (Bd×Nat×Nat)} {k0 l0:Nat} {ts:List Ty} {bs:List Bd} {A Z:Prop} {fld:Bool} {ks:Value} {outs:List Bd}
 {a1 a2 ta:Option Addr} {c1 c2 nt tc:Nat} {i0:Int} {w:World} {Q j:Nat} {sv:Value} {us:List Value} {wr:World}
 (h:NInv F ww D k l n o vv nk env f k0 l0 ts bs A Z fld ks outs a1 a2 ta c1 c2 nt tc i0 w Q j sv us wr) (hQ:Q=w.heap.size+3) (hww:ww<w.heap.size) (hF:∀ i,F i->i≠ww)
 {w6 w7:World} {O:Obj} {oo:Option (Bd×Nat×Nat)} {cs:List Value} {a':Option Addr} {c':Nat}
 (rC:But (· = ww) wr.drew w6)
 (lN:oo=none->∃ st,Wri w6 ww (-1) st/\0<=st/\st<=D+((j+1:Nat):Int))
 (lC:∀ x,oo=some x->Wri w6 ww (x.2.1:Nat) (20000-(x.2.2:Nat))/\zW (fun i=>(F i/\i<w.heap.size)\/wr.drew.heap.size<=i) w6 (kx x.1) cs)
 (JX:oo=none->Z)
 (F_:∀ x,oo=some x->∃ zs,A/\kq f env n k0 l0 (ts.take (j+1)) (bs.take (j+1))=some (zs++[x.1],x.2.1,x.2.2)/\zs.length=j/\x.2.1<=k/\x.2.2<=l/\zW (fun i=>Fx F w 4 i/\sv.ownBlock≠some i) wr (zi zs) us /\
  Rep (fun i=>Fx F w 4 i/\sv.ownBlock≠some i) wr (.sl 47 4 outs.length (zi outs)) ks)
 (r_:Own w7 47 4 (.slice a' (j+1) c') (j+1) (us++cs)) (rP:But (fun b=>sv.ownBlock=some b) (w6.alloc O) w7)
 (rL:∀ g,(Ox a' (j+1) c').ownBlock=some g->sv.ownBlock=some g\/g=(w6.alloc O).heap.size) :
 NInv F ww D k l n o vv nk env f k0 l0 ts bs A Z fld ks outs a1 a2 ta c1 c2 nt tc i0 w Q (j+1) (.slice a' (j+1) c') (us++cs) (w7.setCell ⟨Q,fpos fld,none⟩ (.slice a' (j+1) c')):=by
 have z6:wr.heap.size<=w6.heap.size:=rC.size;have z7:=rP.size;rw [zK] at z7;have zr:=h.zw;have svlt:∀ g,sv.ownBlock=some g->g<wr.heap.size:=fun g hg=>h.own.lt hg;obtain ⟨w8,He⟩:=zzN (w7.setCell ⟨Q,fpos fld,none⟩ (.slice a' (j+1) c'));have tM:∀ i x,w6.heap[i]? = some x->sv.ownBlock≠some i->i≠Q->w8.heap[i]? = some x:=by
  intro i x hx h2 h3;have hl:=zZ hx;rw [<- He,rK _ _ _ _ (by simpa using h3),rP.block i (by rw [zK];omega) h2,Below.heap_alloc _ _ _ hl];exact hx
 have keep:∀ i x,wr.heap[i]? = some x->i≠ww->sv.ownBlock≠some i->i≠Q->w8.heap[i]? = some x:=by
  intro i x hx h1 h2 h3;exact tM i x (by rw [rC.block i (zZ hx) h1];exact hx) h2 h3
 have nsv:∀ i,i<Q+1->sv.ownBlock≠some i:=fun i hi e=>by have:=h.fr i e;omega
 have fr':∀ g,(Ox a' (j+1) c').ownBlock=some g->Q+1<=g:=fun g hg=>by
  rcases rL g hg with e | e
  ·exact h.fr g e
  ·rw [zK] at e;omega
 have fxw:∀ i,Fx F w 4 i->i≠ww/\i≠Q:=fun i hi=>by
  rcases hi with hi | hi
  ·exact ⟨hF i hi.1,by have:=hi.2;omega⟩
  ·exact ⟨by omega,by omega⟩
 have rF:But (· = ww) w w8:=by
  have h1:But (· = ww) w w6:=h.but.trans ⟨rC.os,rC.tape,rC.output,rC.size,rC.block⟩;have h2:But (· = ww) w w7:=(h1.alloc O).trans' rP (fun i hi e=>absurd (h.fr i e) (by omega));rw [<- He];exact h2.setCell (p:=⟨Q,fpos fld,none⟩) (.inr (show w.heap.size<=Q by omega)) _
 have hsz:w8.heap.size=w7.heap.size:=by rw [<- He];simp [Qi]
 have hbk:kU Q (o:Nat) (fk fld ks (.slice a' (j+1) c')) (fy fld (.slice a' (j+1) c')) w8:=by
  have h1:kU Q (o:Nat) (fk fld ks sv) (fy fld sv) w7:=by
   unfold kU;rw [rP.block Q (by rw [zK];omega) (nsv Q (by omega)),Below.heap_alloc _ _ _ (by omega),rC.block Q (by show Q<wr.heap.size;omega) (by show Q≠ww;omega)];exact h.blk
  rw [<- He];cases fld
  ·exact h1.put2
  ·exact h1.put3
 have r9:Own w8 47 4 (.slice a' (j+1) c') (j+1) (us++cs) :=
  r_.keep fun g o hg ho=>by rw [<- He,rK _ _ _ _ (by have:=fr' g hg;simp;omega)];exact ho
 have Mk:(∃ zs kj lj,A/\kq f env n k0 l0 (ts.take (j+1)) (bs.take (j+1))=some (zs,kj,lj)/\zs.length=j+1/\Wri w8 ww (kj:Nat) (20000-(lj:Nat))/\kj<=k/\lj<=l/\zW (fun i=>Fx F w 4 i/\(Ox a' (j+1) c').ownBlock≠some i) w8 (zi zs) (us++cs) /\
  Rep (fun i=>Fx F w 4 i/\(Ox a' (j+1) c').ownBlock≠some i) w8 (.sl 47 4 outs.length (zi outs)) ks)\/(Z/\∃ s,Wri w8 ww (-1) s/\0<=s/\s<=D+((j+1:Nat):Int)):=by
  cases hoo:oo with
  | none =>
    obtain ⟨st,q1,q2,q3⟩:=lN hoo;exact .inr ⟨JX hoo,st,tM ww _ q1 (nsv ww (by omega)) (by omega),q2,q3⟩
  | some x =>
    obtain ⟨q1,q2⟩:=lC x hoo;obtain ⟨zs,hA,r1,r2,r3,r4,r5,r6⟩:=F_ x hoo
    have kG:∀ (i:Nat) (y:Obj),(Fx F w 4 i/\sv.ownBlock≠some i)->wr.heap[i]? = some y->(Fx F w 4 i/\(Ox a' (j+1) c').ownBlock≠some i)/\w8.heap[i]? = some y:=fun i y hi hy =>
     ⟨⟨hi.1,fun e=>by
       rcases rL i e with e' | e'
       ·exact hi.2 e'
       ·rw [zK] at e';have:=zZ hy;omega⟩,keep i y hy (fxw i hi.1).1 hi.2 (fxw i hi.1).2⟩
    refine .inl ⟨zs++[x.1],x.2.1,x.2.2,hA,r1,by simp [r2],tM ww _ q1 (nsv ww (by omega)) (by omega),r3,r4,?_,(Rep.keep kG).1 _ _ r6⟩;rw [qR];refine zW.append ((Rep.keep kG).2 _ _ r5) ?_;have e1:zi [x.1]=kx x.1:=by simp [zi]
    rw [e1];refine (Rep.keep fun i y hi hy=>?_).2 _ _ q2;have hl:=zZ hy;rcases hi with hi | hi
    ·have h2:=hi.2;exact ⟨⟨.inl hi,fun e=>by have:=fr' i e;omega⟩,tM i y hy (nsv i (by omega)) (by omega)⟩
    ·have h2:wr.heap.size<=i:=hi;refine ⟨⟨.inr (by omega),fun e=>?_⟩,tM i y hy (fun e=>by have:=svlt i e;omega) (by omega)⟩;rcases rL i e with e' | e'
     ·have:=svlt i e';omega
     ·rw [zK] at e';omega
 rw [He];exact { but:=rF,zw:=by omega,box:=keep _ _ h.box (by omega) (nsv _ (by omega)) (by omega),res:=keep _ _ h.res (by omega) (nsv _ (by omega)) (by omega),bnd:=keep _ _ h.bnd (by omega) (nsv _ (by omega)) (by omega),blk:=hbk,own:=r9,fr:=fr',mode:=Mk }
theorem node_ne {w:World} {ww:Nat} {k s:Int} {kb off:Nat} {s':Bs} (hw:Wri w ww k s) (g:w.cell? ⟨kb,off,none⟩=some (str s')):kb≠ww:=by
 intro e;subst e;unfold Wri at hw;simp only [Li,hw] at g;rcases PT off 2 with h | h
 ·have h2:off=0\/off=1:=by omega
  rcases h2 with h2 | h2 <;> rw [h2] at g <;> simp [str] at g
 ·rw [Array.getElem?_eq_none (by simpa using h)] at g;simp at g
theorem keptN_of {d k l n o k1 l1 kj lj:Nat} {t:Ty} {ss:List Bd} {y no:Bd} {env:List Mn} {st:List Gf} {outs zs:List Bd} (h0:kq (evN d) env n k l t.args ss=some (outs,k1,l1))
 (h1:kq (fun k l b _ _ _=>evN d k l b env n st) env n k1 l1 [t,t] [y,no]=some (zs,kj,lj)):∃ z1 z2,zs=[z1,z2]/\wU d k l n o t ss y no env st=some (.ask o outs z1 z2,kj,lj):=by
 unfold wU;rw [h0];simp only [kq,Ow,Lx] at h1 ⊢;cases h2:evN d k1 l1 y env n st with
 | none=>rw [h2] at h1;simp at h1
 | some x =>
   rw [h2] at h1;simp only [Lx] at h1 ⊢;cases h3:evN d x.2.1 x.2.2 no env n st with
   | none=>rw [h3] at h1;simp at h1
   | some u =>
     rw [h3] at h1;simp only [Lx,Oz,Prod.mk.injEq] at h1 ⊢;obtain ⟨rfl,rfl,rfl⟩:=h1;exact ⟨x.1,u.1,rfl,rfl,rfl,rfl⟩
theorem keptN_none {d k l n o k1 l1:Nat} {t:Ty} {ss:List Bd} {y no:Bd} {env:List Mn} {st:List Gf} {outs:List Bd} (h0:kq (evN d) env n k l t.args ss=some (outs,k1,l1))
 (h1:kq (fun k l b _ _ _=>evN d k l b env n st) env n k1 l1 [t,t] [y,no]=none):wU d k l n o t ss y no env st=none:=by
 unfold wU;rw [h0];simp only [kq,Ow,Lx] at h1 ⊢;cases h2:evN d k1 l1 y env n st with
 | none=>rfl
 | some x =>
   rw [h2] at h1;simp only [Lx] at h1 ⊢;cases h3:evN d x.2.1 x.2.2 no env n st with
   | none=>rfl
   | some u=>rw [h3] at h1;simp at h1
theorem keepN_any (d:Nat) (ih:pU d) (F:Nat->Prop) (ww k l n vv o:Nat) (H:List Ty) (t:Ty) (ss:List Bd) (y no:Bd) (env:List Mn) (st:List WFr) (v0:Int) (a1 a2:Option Addr) (c1 c2:Nat) (ev sv:Value) (w:World) (h:KeepPre F ww d k l n vv o H t ss y no env st v0 a1 a2 c1 c2 ev sv w) :
 Calls No 91 #[.pointer (some ⟨ww,0,none⟩),.agg #[str [],.int .i64 (vv:Nat),.slice a1 ss.length c1,.slice a2 2 c2],ev,sv,.int .i64 (n:Nat)] w
  (vf F ww (20001+20*(d+1)) (wU d k l n o t ss y no env (st.map WFr.gf)) w):=by
 have HP:=n7 h;have IH:=n7 ih;obtain ⟨eb,eo,ecap,ta,tc,i0,e,JC,hew,m0,m1,m2,m3,m4,m5,m6,m7,m8,Gl⟩:=bound_op h.re h.hv;subst e;have hww:=h.wri.cell.2.2.2;have hebw:=h.hF _ JC;obtain ⟨W,hW⟩:=zzN ((w.alloc (.cells #[str [],.int .i64 (vv:Nat),.slice a1 ss.length c1,.slice a2 2 c2] 47)).alloc (.cells #[str [],.int .i64 0,.slice none 0 0,.slice none 0 0] 47));have rF:Below w.heap.size w W:=by rw [<- hW];exact ((rZ _ _).alloc (n9 _) _).alloc (by rw [zK];omega) _
 have iE:w.heap.size+2=W.heap.size:=by rw [<- hW];simp only [zK]
 have FA:=h.wri.below rF;obtain ⟨k0,k1,kf,klt⟩:=FA.cell;have kf0:=kf 0;have k0':W.cell? ⟨ww,0,none⟩=some (.int .i64 ((k:Int)+1)):=k0;obtain ⟨W2,sC⟩:=zzN (W.setCell ⟨ww,0,none⟩ (.int .i64 (k:Nat)));have lr:Wri W2 ww (k:Nat) (20000-(l:Nat)):=by unfold Wri at *;rw [<- sC,zg FA];rfl
 have rY:But (· = ww) w W2:=by rw [<- sC];exact (But.ofBelow (m:=(· = ww)) rF).setCell (p:=⟨ww,0,none⟩) (.inl rfl) _
 have b0:W.heap[w.heap.size]? = some (.cells #[str [],.int .i64 (vv:Nat),.slice a1 ss.length c1,.slice a2 2 c2] 47 (0,0)):=by rw [<- hW];exact zY (zG _ _)
 have N8:W2.heap[w.heap.size]? = some (.cells #[str [],.int .i64 (vv:Nat),.slice a1 ss.length c1,.slice a2 2 c2] 47 (0,0)):=by
  rw [<- sC,rK _ _ _ _ (by show w.heap.size≠ww;omega)];exact b0
 obtain ⟨x0,x1,x2,x3⟩:=kR N8;have kX:∀ {j:Nat} {x:Value},w.cell? ⟨eb,j,none⟩=some x->W2.cell? ⟨eb,j,none⟩=some x:=fun hc=>(rY.cell (n_ w _ hc) hebw).trans hc;have j0:=kX m0;have j1:=kX m1;have j2:=kX m2;have j3:=kX m3;have j4:=kX m4;have j5:=kX m5;have j6:=kX m6;have j7:=kX m7;have j8:=kX m8;have B3:=(OB.1 h.hv).1;have Dv:(0:Int)<=(vv:Int):=by omega
 have lE:(vv:Int)<(env.length:Int):=by omega
 have MB:=h.k200;have tg:W2.heap.size=w.heap.size+2:=by rw [<- sC,iE];simp [Qi]
 have sj:kU (w.heap.size+1) 0 (.slice none 0 0) (.slice none 0 0) W2:=by
  have:=zG (w.alloc (.cells #[str [],.int .i64 (vv:Nat),.slice a1 ss.length c1,.slice a2 2 c2] 47)) (.cells #[str [],.int .i64 0,.slice none 0 0,.slice none 0 0] 47);rw [zK,hW] at this;unfold kU;rw [<- sC,rK _ _ _ _ (by show w.heap.size+1≠ww;omega)];exact this
 have HZ:=n7 (n8 tg sj);clear tg sj;have HW:=n7 (n8 hW (n8 sC (n8 rY (n8 lr (n8 N8 Gl)))));clear hW sC rF FA lr rY b0 N8 Gl kX m0 m1 m2 m3 m4 m5 m6 m7 m8 k0 kf h ih iE;go_enter Tryz.func91,Tryz.ntmps91;go_upto_region 1 with (fail)
 rw [HW.out.1];go_upto_region 2 with (fail)
 rw [HW.out.2.1];go_wp2_with fail
 go_loopw [13] (fun i wr=>∃ (j:Nat) (sv:Value) (us:List Value),j<=ss.length/\i=.int .i64 j/\NInv F ww (20001+20*(d:Int)) k l n o vv ss.length env (evN d) k l t.args ss True (kq (evN d) env n k l t.args ss=none) false (.slice none 0 0) [] a1 a2 ta c1 c2 t.args.length tc i0 w (W2.heap.size+1) j sv us wr) (fun i _=>ss.length-(intOf i).toNat)
 case atStart =>
  obtain ⟨tg,sj⟩:=HZ.out;obtain ⟨hW,sC,rY,lr,N8,Gl⟩:=HW.out;refine ⟨0,.slice none 0 0,[],OS _,rfl,?_⟩;refine { but:=(rY.alloc _).alloc _,zw:=by simp only [zK];omega,box:=zY (zY N8),res:=zY (zY sj),bnd:=?_,blk:=?_,own:=Pq _ _ _ _,fr:=fun g hg=>by simp [OG] at hg,mode:=.inl ⟨[],k,l,trivial,by simp [kq],rfl,zY (zY lr),n9 _,n9 _,by simp [zi,zC],zh.2 ⟨by simp [zi],none,0,rfl,n9 _,fun _=>rfl,.inl rfl⟩⟩ }
  ·rw [<- tg];exact zY (zG _ _)
  ·have:=zG (W2.alloc (.cells #[.int .i64 (o:Nat),str [],.int .i64 0,.slice none 0 0,.slice none 0 0,.slice ta t.args.length tc,.slice none 0 0,.int .i64 0,.int .i64 i0] 134)) (.cells #[str [],.int .i64 (o:Nat),.slice none 0 0,.slice none 0 0] 47);rw [zK] at this;exact this
 case round =>
  rename_i wr;obtain ⟨j,sv,us,hj,rfl,rD⟩:=hrel;obtain ⟨sa,sc,e⟩:=rD.own.slice;subst e;obtain ⟨y0,y1,y2,y3⟩:=kR rD.box;obtain ⟨q0,q1,q2,q3,qlt,qf⟩:=rD.blk.cells;have z5:wr.cell? ⟨W2.heap.size,5,none⟩=some (.slice ta t.args.length tc):=by
   rw [HZ.out.1];simp [Li,rD.bnd]
  have HI:=n7 rD;clear rD;by_cases rH:j<ss.length
  ·have sS:(j:Int)<(ss.length:Int):=by omega
   have rz:Rep F w (.sl 47 4 ss.length (zi ss)) (.slice a1 ss.length c1):=by
    have tH:=HP.out.rb;simp only [kx,zQ,zC] at tH;obtain ⟨_,_,e0,_,_,_,rfl,_,_,_,rfl,h2,_⟩:=tH;simp only [OL] at e0;obtain ⟨_,_,e2,_⟩:=e0;rw [e2];exact h2
   obtain ⟨ka',kc',e,BH⟩:=cQ.of rz;simp only [OK] at e;obtain ⟨rfl,_,rfl⟩:=e;obtain ⟨kb,ko,s',v',BW,AU,BV,Ek,Cc,Ei,sd,e,ij,oK,g0,g1,g2,g3,aS⟩:=BH j rH;subst e;have Es:=HP.out.fit.keep HP.out.hv;have hne:kb≠ww:=node_ne HP.out.wri g0;have I5:=HW.out.2.2.2.2.2;rw [jQ] at I5;obtain ⟨ta',tc',e,_,_,lK⟩:=zP I5;simp only [OK] at e;obtain ⟨rfl,_,rfl⟩:=e;have hjt:j<t.args.length:=by omega
   obtain ⟨tb,tO,tu,td,e,htF,htw,htd,g4,I3⟩:=lK j hjt;subst e;rw [uJ,OA] at htd;obtain ⟨tj,FX,rfl⟩:=htd;obtain ⟨ua,uc,rfl⟩:=kP I3;have p0:=(HI.out.but.cell (p:=⟨kb,ko+j*4,none⟩) ij hne).trans g0;have p1:=(HI.out.but.cell (p:=⟨kb,ko+j*4+1,none⟩) ij hne).trans g1;have p2:=(HI.out.but.cell (p:=⟨kb,ko+j*4+2,none⟩) ij hne).trans g2;have p3:=(HI.out.but.cell (p:=⟨kb,ko+j*4+3,none⟩) ij hne).trans g3;have p4:=(HI.out.but.cell (p:=⟨tb,tO+j,none⟩) htw (HP.out.hF _ htF)).trans g4;have A0:=bE _ HP.out.ok vv _ HP.out.hv;rw [okM] at A0;have Hi:=(kQ A0.1).1 tj (List.mem_of_getElem? FX);have DJ:But (· = ww) w wr.drew:=HI.out.but.drew;have iM:∀ b,(F b/\b<w.heap.size)->¬ (b=ww)/\(F b/\b<w.heap.size):=fun b hb=>⟨HP.out.hF b hb.1,hb⟩;have EU:zW (fun i=>F i/\i<w.heap.size) wr.drew (kx sd) [str s',.int .i64 v',.slice BW AU BV,.slice Ek Cc Ei]:=(zW.low aS).but DJ iM;have I4:=(Rep.low I3).but DJ iM;have DZ:=(Rep.low HP.out.re).but DJ iM;have Av:=HP.out.el;have AG:=HP.out.nl;have Cv:=HP.out.ld;have Fj:=HP.out.d20;have Bh:=HP.out.k200;have tY:=dz (f:=evN d) (env:=env) (n:=n) (k:=k) (l:=l) FX oK
   obtain ⟨oo,NJ,JX,F_⟩:∃ oo,Calls No 109 #[.pointer (some ⟨ww,0,none⟩),.agg #[str s',.int .i64 v',.slice BW AU BV,.slice Ek Cc Ei],.agg #[.slice ua tj.args.length uc],.slice (some ⟨eb,eo,none⟩) env.length ecap,.int .i64 (n:Nat)] wr.drew (vf (fun i=>F i/\i<w.heap.size) ww (20001+20*(d:Int)+((j+1:Nat):Int)) oo wr.drew) /\
    (oo=none->kq (evN d) env n k l t.args ss=none) /\
    (∀ y,oo=some y->∃ outs,True/\kq (evN d) env n k l (t.args.take (j+1)) (ss.take (j+1))=some (outs++[y.1],y.2.1,y.2.2)/\outs.length=j/\y.2.1<=k/\y.2.2<=l/\zW (fun i=>Fx F w 4 i/\(Ox sa j sc).ownBlock≠some i) wr (zi outs) us /\
     Rep (fun i=>Fx F w 4 i/\(Ox sa j sc).ownBlock≠some i) wr (.sl 47 4 ([]:List Bd).length (zi [])) (.slice none 0 0)):=by
    rcases HI.out.mode with ⟨outs,kj,lj,_,hev,Ad,aA,Jv,Jr,iJ,sT⟩ | ⟨hev,s,aA,ik,tJ⟩
    ·refine ⟨evN d kj lj sd (env++opens n tj.args) (n+tj.args.length) [],(open_live d IH.out _ ww kj lj n H tj sd env s' v' BW Ek AU BV Cc Ei _ _ wr.drew aA (fun i hi=>HP.out.hF i hi.1) (by omega) Fj (by omega) (Es.2.2.1 j tj sd FX oK) HP.out.hn Av AG Hi HP.out.ok I4 EU DZ ⟨fi _ HP.out.wf.1.1 j sd oK,HP.out.wf.2.1⟩).mono ?_,fun h=>?_,fun y h=>?_⟩
     ·rintro en w' ⟨q1,q2,q3,q4,q5,q6,q7,q8,q9,Kj,Hc,Ki⟩;exact ⟨q1,q2,q3,q4,q5,q6,q7,q8,q9,Kj,fun h=>by obtain ⟨st,u1,u2,u3⟩:=Hc h;exact ⟨st,u1,u2,by omega⟩,Ki⟩
     ·refine pR (j+1) _ _ _ _ ?_;rw [tY,hev];simp only [Lx];rw [h];rfl
     ·have sw:=evN_left _ _ _ _ _ _ _ _ _ _ h;exact ⟨outs,trivial,by rw [tY,hev];simp only [Lx];rw [h];rfl,Ad,rJ sw.1 Jv,rJ sw.2 Jr,iJ,sT⟩
    ·have hj15:=(kQ A0.1).2;refine ⟨none,(open_dead _ ww n s tj env s' v' BW Ek AU BV Cc Ei _ _ wr.drew aA ik (by omega) (by omega) (by omega) Hi I4 DZ).mono ?_,fun _=>hev,fun y h=>by simp at h⟩;rintro en w' ⟨q1,q2,q3,q4,q5,q6,q7,q8,q9,Kj,Hc,Ki⟩;exact ⟨q1,q2,q3,q4,q5,q6,q7,q8,q9,Kj,fun h=>by obtain ⟨st,u1,u2,u3⟩:=Hc h;exact ⟨st,u1,u2,by omega⟩,Ki⟩
   have CC:=n7 NJ;have FO:=n7 (n8 JX F_);have i2:j+1<=maxLen:=by unfold maxLen;have:=(kQ A0.1).2;omega
   have tC:(j+1)*72<=140737488355328:=by have:=(kQ A0.1).2;omega
   have h04:0<4:=by omega
   have Jf:¬ (W2.heap.size+1=ww):=by rw [HZ.out.1];omega
   have NB:=n7 (show ¬ (Ox sa j sc).ownBlock=some (W2.heap.size+1) from fun e=>by have:=HI.out.fr _ e;omega)
   have OWN:=n7 (fun (w6:World) (h6:But (· = ww) wr.drew w6)=>(HI.out.own.keep (w':=w6) fun g o hg hh=>by
    have:=HI.out.fr g hg
    rw [h6.block g (zZ hh) (fun e=>by have e:g=ww:=e;rw [HZ.out.1] at this;omega)];exact hh))
   have tg:=HZ.out.1;have Lz:=HP.out.hF _ htF
   have SX:Hid (∀ w',But (fun i=>i=ww\/(Ox sa j sc).ownBlock=some i) wr w'->w'.cell? ⟨W2.heap.size+1,2,none⟩=some (.slice sa j sc)/\w'.cell? ⟨w.heap.size,2,none⟩=some (.slice (some ⟨kb,ko,none⟩) ss.length c1) /\
    w'.cell? ⟨kb,ko+j*4,none⟩=some (str s')/\w'.cell? ⟨kb,ko+j*4+1,none⟩=some (.int .i64 v')/\w'.cell? ⟨kb,ko+j*4+2,none⟩=some (.slice BW AU BV)/\w'.cell? ⟨kb,ko+j*4+3,none⟩=some (.slice Ek Cc Ei) /\
    w'.cell? ⟨W2.heap.size,5,none⟩=some (.slice (some ⟨tb,tO,none⟩) t.args.length tc)/\w'.cell? ⟨tb,tO+j,none⟩=some (.slice ua tj.args.length uc)):=by
    show ∀ w',_->_;intro w' rS
    have key:∀ {p:Addr} {u:Value},p.block<W2.heap.size+2->p.block≠ww->wr.cell? p=some u->w'.cell? p=some u:=fun hp hne hu =>
     (rS.cell (n_ wr _ hu) (fun e=>e.elim hne (fun e=>by have:=HI.out.fr _ e;omega))).trans hu
    exact ⟨key (by show W2.heap.size+1<_;omega) Jf q2,key (by show w.heap.size<_;omega) (by show w.heap.size≠ww;omega) y2,key (by show kb<_;omega) hne p0,key (by show kb<_;omega) hne p1,key (by show kb<_;omega) hne p2,key (by show kb<_;omega) hne p3,
     key (by show W2.heap.size<_;omega) (by show W2.heap.size≠ww;omega) z5,key (by show tb<_;omega) Lz p4⟩
   have FS:=qf 2;clear Es hne I5 A0 iM EU I4 DZ tY JX F_ NJ rz BH lK g0 g1 g2 g3 g4 aS I3 oK FX qf DJ tg Lz y0 y1 y3 q0 q1 q3 p0 p1 p2 p3 p4 z5;go_wp2_with fail
   refine wp_region_noPanic ?_;refine zB (fun w'=>But (fun i=>i=ww\/(Ox sa j sc).ownBlock=some i) wr w') (fun i=>i == 20) (by kernel_rfl) ?_;have rU:But (fun i=>i=ww\/(Ox sa j sc).ownBlock=some i) wr wr.drew:=(But.refl _ wr).drew;refine tk [0,1,2,3,4,5,6,7,8,9,10,11,12,13,14,15] rU ?_;(intro d hd;simp [tkD] at hd;subst hd;simp only [tks,pQ,pZ,pS]);iterate 16 (refine ⟨?_,?_,?_⟩;rotate_left;· (intro oi ho;simp at ho;subst ho;refine OO ⟨by rfl,fun w' rB=>?_⟩;obtain ⟨e0,e1,e2,e3,e4,e5,e6,e7⟩:=SX.out w' rB;go_simp;try with_reducible rfl))
   refine jG 16 (by kernel_rfl) ?_;intro o16 ho K' hK;(simp at ho;subst ho);go_simp;go_at_call 109;(with_reducible refine CC.out.mono ?_);rintro Dh w6 ⟨s6,v6,b1,m1,d1,b2,m2,d2,rfl,rC,lN,lC⟩;have sX:Hid (But (fun i=>i=ww\/(Ox sa j sc).ownBlock=some i) wr w6):=rU.trans (rC.weak fun i _ h=>.inl h);have Lb:=but_cell rC Jf q2;have IT:=rQ qlt rC.size;have EE:=but_free rC Jf qlt FS;have sH:=(OWN.out _ rC).alloc (.cells #[str s6,.int .i64 v6,.slice b1 m1 d1,.slice b2 m2 d2] 47);have H6:=n7 (n8 rC (n8 lN lC));clear rC lN lC;(refine hK.out _ _ (fun _=>sX.out) ?_;clear hK K';try simp only [pQ,pN,pZ,pS]);refine jG 17 (by kernel_rfl) ?_;intro o17 ho K' hK;(simp at ho;subst ho);go_simp;(refine hK.out _ _ (fun _=>sX.out.alloc _) ?_;clear hK K';try simp only [pQ,pN,pZ,pS]);refine jG 18 (by kernel_rfl) ?_;intro o18 ho K' hK;(simp at ho;subst ho);refine zI (by rfl) _ _ _ (by rfl) 47 (.agg #[str [],.int .i64 0,.slice none 0 0,.slice none 0 0]) 4 72 PD Tryz.infoN rfl h04 (.slice sa j sc) j us (by rfl) sH _ 1 [str s6,.int .i64 v6,.slice b1 m1 d1,.slice b2 m2 d2] (by rfl) (zu.lit4 #[str s6,.int .i64 v6,.slice b1 m1 d1,.slice b2 m2 d2] rfl (by simp [str,OR]) _ rfl) i2 tC ?_;intro a' c' w7 r_ rP rL;(refine hK.out _ _ (fun _=>(sX.out.alloc _).trans (rP.weak fun i _ h=>.inr h)) ?_;clear hK K';try simp only [pQ,pN,pZ,pS]);have sn:=out_cell rP NB.out Lb;have Au:=out_free rP NB.out IT EE;refine jG 19 (by kernel_rfl) ?_;intro o19 ho K' hK;(simp at ho;subst ho);go_simp;(refine hK.out _ _ (fun _=>(sX.out.alloc _).trans (rP.weak fun i _ h=>.inr h)) ?_;clear hK K';try simp only [pQ,pN,pZ,pS]);refine jG 20 (by kernel_rfl) ?_;intro o20 ho K' hK;(simp at ho;subst ho);go_simp;(refine hK.out _ _ (fun h=>by simp at h) ?_;clear hK K';try simp only [pQ,pN,pZ,pS]);refine zX (by kernel_rfl) (Oy ?_) _;have hX:=HI.out.next (by rw [HZ.out.1]) hww HP.out.hF H6.out.1 H6.out.2.1 H6.out.2.2 FO.out.1 FO.out.2 r_ rP rL;have HN:=n7 hX;clear hX r_ rP rL rU Lb EE sH;go_wp2_with fail
   go_roundw
   case rel=>exact ⟨j+1,_,_,by omega,by go_num,HN.out⟩
   case measure=>simp [intOf];omega
  ·obtain rfl:j=ss.length:=by omega
   obtain ⟨outs,k1,l1,hst⟩:∃ outs k1 l1,NInv F ww (20001+20*(d:Int)+(ss.length:Int)) k l n o vv ss.length env (fun k l b _ _ _=>evN d k l b env n (st.map WFr.gf)) k1 l1 [t,t] [y,no] (kq (evN d) env n k l t.args ss=some (outs,k1,l1)) (wU d k l n o t ss y no env (st.map WFr.gf)=none) true (.slice sa ss.length sc) outs a1 a2 ta c1 c2 t.args.length tc i0 w (W2.heap.size+1) 0 (.slice none 0 0) [] wr:=by
    have Ar:=(HP.out.fit.keep HP.out.hv).1;have hI:=HI.out;rcases hI.mode with ⟨outs,kj,lj,_,hev,Ad,aA,Jv,Jr,iJ,_⟩ | ⟨hev,s,aA,ik,tJ⟩
    ·rw [List.take_length,List.take_of_length_le (by omega)] at hev;refine ⟨outs,kj,lj,{ but:=hI.but,zw:=hI.zw,box:=hI.box,res:=hI.res,bnd:=hI.bnd,blk:=hI.blk,own:=Pq _ _ _ _,fr:=fun g hg=>by simp [OG] at hg,mode:=.inl ⟨[],kj,lj,hev,by simp [kq],rfl,aA,Jv,Jr,by simp [zi,zC],?_⟩ }⟩;rw [Ad];refine hI.own.rep (fun g hg=>⟨.inr (by have h1:=hI.fr g hg;have h2:=HZ.out.1;omega),by simp [OG]⟩) ?_;exact (Rep.keep fun b o hf ho=>⟨⟨hf.1,by simp [OG]⟩,ho⟩).2 _ _ iJ
    ·exact ⟨[],0,0,{ but:=hI.but,zw:=hI.zw,box:=hI.box,res:=hI.res,bnd:=hI.bnd,blk:=hI.blk,own:=Pq _ _ _ _,fr:=fun g hg=>by simp [OG] at hg,mode:=.inr ⟨by unfold wU;rw [hev];rfl,s,aA,ik,by omega⟩ }⟩
   obtain ⟨ka,kc,hk⟩:∃ a c,Ox sa ss.length sc=.slice a ss.length c:=⟨_,_,rfl⟩;rw [hk] at hst;have Di:=n7 hst;clear hst hk;have LH:ss.length<=15:=by
    have A0:=bE _ HP.out.ok vv _ HP.out.hv;rw [okM] at A0;have h1:=(kQ A0.1).2;have h2:=(HP.out.fit.keep HP.out.hv).1;omega
   clear HI y0 y1 y3 q0 q1 q2 q3 qf z5 rH hj;go_wp2_with fail
   clear y2
   go_loopw [14] (fun i wr=>∃ (j:Nat) (sv:Value) (us:List Value),j<=2/\i=.int .i64 j/\NInv F ww (20001+20*(d:Int)+(ss.length:Int)) k l n o vv ss.length env (fun k l b _ _ _=>evN d k l b env n (st.map WFr.gf)) k1 l1 [t,t] [y,no] (kq (evN d) env n k l t.args ss=some (outs,k1,l1)) (wU d k l n o t ss y no env (st.map WFr.gf)=none) true (.slice ka ss.length kc) outs a1 a2 ta c1 c2 t.args.length tc i0 w (W2.heap.size+1) j sv us wr) (fun i _=>2-(intOf i).toNat)
   case atStart=>exact ⟨0,_,_,by omega,rfl,Di.out⟩
   case round =>
    rename_i wr;obtain ⟨j,sv1,us,hj,rfl,rD⟩:=hrel;obtain ⟨sa,sc,e⟩:=rD.own.slice;subst e;obtain ⟨y0,y1,y2,y3⟩:=kR rD.box;obtain ⟨q0,q1,q2,q3,qlt,qf⟩:=rD.blk.cells;have HI:=n7 rD;clear rD;by_cases rH:j<2
    ·have sS:(j:Int)<2:=by omega
     have Lq:Rep F w (.sl 47 4 [y,no].length (zi [y,no])) (.slice a2 2 c2):=by
      have tH:=HP.out.rb;rw [xD] at tH;simp only [zQ,zC] at tH;obtain ⟨_,_,e0,_,_,_,rfl,_,_,_,rfl,_,_,_,rfl,h3,_⟩:=tH;simp only [OL] at e0;obtain ⟨_,_,_,e2,_⟩:=e0;rw [e2];exact h3
     obtain ⟨ya,yc,e,Lr⟩:=cQ.of Lq;simp only [OK] at e;obtain ⟨rfl,_,rfl⟩:=e;obtain ⟨kb,ko,s',v',BW,AU,BV,Ek,Cc,Ei,sd,e,ij,oK,g0,g1,g2,g3,aS⟩:=Lr j rH;subst e;have Es:=HP.out.fit.keep HP.out.hv;have hne:kb≠ww:=node_ne HP.out.wri g0;have p0:=(HI.out.but.cell (p:=⟨kb,ko+j*4,none⟩) ij hne).trans g0;have p1:=(HI.out.but.cell (p:=⟨kb,ko+j*4+1,none⟩) ij hne).trans g1;have p2:=(HI.out.but.cell (p:=⟨kb,ko+j*4+2,none⟩) ij hne).trans g2;have p3:=(HI.out.but.cell (p:=⟨kb,ko+j*4+3,none⟩) ij hne).trans g3;have DJ:But (· = ww) w wr.drew:=HI.out.but.drew;have iM:∀ b,(F b/\b<w.heap.size)->¬ (b=ww)/\(F b/\b<w.heap.size):=fun b hb=>⟨HP.out.hF b hb.1,hb⟩;have EU:zW (fun i=>F i/\i<w.heap.size) wr.drew (kx sd) [str s',.int .i64 v',.slice BW AU BV,.slice Ek Cc Ei]:=(zW.low aS).but DJ iM;have DZ:=(Rep.low HP.out.re).but DJ iM;have LR:=(Rep.low HP.out.rs).but DJ iM;have Av:=HP.out.el;have AG:=HP.out.nl;have Cv:=HP.out.ld;have Fj:=HP.out.d20;have Bh:=HP.out.k200;have Gp:=HP.out.stl;have hfj:ji H sd env (st.map WFr.gf):=by
      rcases (by omega:j=0\/j=1) with rfl | rfl
      ·simp at oK;subst oK;exact Es.2.2.2.1
      ·simp at oK;subst oK;exact Es.2.2.2.2
     have hwj:wfB sd:=by
      rcases (by omega:j=0\/j=1) with rfl | rfl
      ·simp at oK;subst oK;exact HP.out.wf.1.2.1
      ·simp at oK;subst oK;exact HP.out.wf.1.2.2
     have FX:[t,t][j]? = some t:=by
      rcases (by omega:j=0\/j=1) with rfl | rfl <;> rfl
     have tY:=dz (f:=fun k l b _ _ _=>evN d k l b env n (st.map WFr.gf)) (env:=env) (n:=n) (k:=k1) (l:=l1) FX oK
     obtain ⟨oo,NJ,JX,F_⟩:∃ oo,Calls No 70 #[.pointer (some ⟨ww,0,none⟩),.agg #[str s',.int .i64 v',.slice BW AU BV,.slice Ek Cc Ei],.slice (some ⟨eb,eo,none⟩) env.length ecap,sv,.int .i64 (n:Nat)] wr.drew (vf (fun i=>F i/\i<w.heap.size) ww (20001+20*(d:Int)+(ss.length:Int)+((j+1:Nat):Int)) oo wr.drew) /\
      (oo=none->wU d k l n o t ss y no env (st.map WFr.gf)=none) /\
      (∀ x,oo=some x->∃ zs,kq (evN d) env n k l t.args ss=some (outs,k1,l1)/\kq (fun k l b _ _ _=>evN d k l b env n (st.map WFr.gf)) env n k1 l1 ([t,t].take (j+1)) ([y,no].take (j+1))=some (zs++[x.1],x.2.1,x.2.2)/\zs.length=j/\x.2.1<=k/\x.2.2<=l/\zW (fun i=>Fx F w 4 i/\(Ox sa j sc).ownBlock≠some i) wr (zi zs) us /\
       Rep (fun i=>Fx F w 4 i/\(Ox sa j sc).ownBlock≠some i) wr (.sl 47 4 outs.length (zi outs)) (.slice ka ss.length kc)):=by
      rcases HI.out.mode with ⟨zs,kj,lj,hA,hev,Ad,aA,Jv,Jr,iJ,sT⟩ | ⟨hev,s,aA,ik,tJ⟩
      ·refine ⟨evN d kj lj sd env n (st.map WFr.gf),(IH.out _ ww kj lj n H sd env st s' v' BW Ek AU BV Cc Ei _ _ wr.drew { wri:=aA,hF:=fun i hi=>HP.out.hF i hi.1,ld:=by omega,d20:=Fj,k200:=by omega,fit:=hfj,hn:=HP.out.hn,el:=by omega,nl:=by omega,stl:=by omega,ok:=qP (by omega) _ HP.out.ok,okg:=vg (by omega) _ HP.out.okg,wf:=⟨hwj,HP.out.wf.2⟩,rb:=EU,re:=DZ,rs:=LR }).mono ?_,fun h=>?_,fun x h=>?_⟩
       ·rintro en w' ⟨q1,q2,q3,q4,q5,q6,q7,q8,q9,Kj,Hc,Ki⟩;exact ⟨q1,q2,q3,q4,q5,q6,q7,q8,q9,Kj,fun h=>by obtain ⟨st,u1,u2,u3⟩:=Hc h;exact ⟨st,u1,u2,by omega⟩,Ki⟩
       ·have a_:kq (fun k l b _ _ _=>evN d k l b env n (st.map WFr.gf)) env n k1 l1 [t,t] [y,no]=none:=by
         refine pR (j+1) _ _ _ _ ?_;rw [tY,hev];simp only [Lx];rw [h];rfl
        exact keptN_none hA a_
       ·have sw:=evN_left _ _ _ _ _ _ _ _ _ _ h;exact ⟨zs,hA,by rw [tY,hev];simp only [Lx];rw [h];rfl,Ad,rJ sw.1 Jv,rJ sw.2 Jr,iJ,sT⟩
      ·refine ⟨none,(mV ww s _ s' v' BW Ek AU BV Cc Ei rfl _ _ n wr.drew aA ik (by omega)).mono ?_,fun _=>hev,fun y h=>by simp at h⟩;rintro en w' ⟨rfl,q1,q2⟩;exact ⟨_,_,_,_,_,_,_,_,rfl,q1,fun _=>⟨_,q2,by omega,by omega⟩,fun x h=>by simp at h⟩
     have CC:=n7 NJ;have FO:=n7 (n8 JX F_);have i2:j+1<=maxLen:=by unfold maxLen;omega
     have tC:(j+1)*72<=140737488355328:=by omega
     have h04:0<4:=by omega
     have Jf:¬ (W2.heap.size+1=ww):=by rw [HZ.out.1];omega
     have NB:=n7 (show ¬ (Ox sa j sc).ownBlock=some (W2.heap.size+1) from fun e=>by have:=HI.out.fr _ e;omega)
     have OWN:=n7 (fun (w6:World) (h6:But (· = ww) wr.drew w6)=>(HI.out.own.keep (w':=w6) fun g o hg hh=>by
      have:=HI.out.fr g hg
      rw [h6.block g (zZ hh) (fun e=>by have e:g=ww:=e;rw [HZ.out.1] at this;omega)];exact hh))
     have tg:=HZ.out.1
     have SX:Hid (∀ w',But (fun i=>i=ww\/(Ox sa j sc).ownBlock=some i) wr w'->w'.cell? ⟨W2.heap.size+1,3,none⟩=some (.slice sa j sc)/\w'.cell? ⟨w.heap.size,3,none⟩=some (.slice (some ⟨kb,ko,none⟩) 2 c2) /\
      w'.cell? ⟨kb,ko+j*4,none⟩=some (str s')/\w'.cell? ⟨kb,ko+j*4+1,none⟩=some (.int .i64 v')/\w'.cell? ⟨kb,ko+j*4+2,none⟩=some (.slice BW AU BV)/\w'.cell? ⟨kb,ko+j*4+3,none⟩=some (.slice Ek Cc Ei)/\True/\True):=by
      show ∀ w',_->_;intro w' rS
      have key:∀ {p:Addr} {u:Value},p.block<W2.heap.size+2->p.block≠ww->wr.cell? p=some u->w'.cell? p=some u:=fun hp hne hu =>
       (rS.cell (n_ wr _ hu) (fun e=>e.elim hne (fun e=>by have:=HI.out.fr _ e;omega))).trans hu
      exact ⟨key (by show W2.heap.size+1<_;omega) Jf q3,key (by show w.heap.size<_;omega) (by show w.heap.size≠ww;omega) y3,key (by show kb<_;omega) hne p0,key (by show kb<_;omega) hne p1,key (by show kb<_;omega) hne p2,key (by show kb<_;omega) hne p3,trivial,trivial⟩
     have q2:wr.cell? ⟨W2.heap.size+1,3,none⟩=some (.slice sa j sc):=q3;have FS:=qf 3;clear Es hne iM EU LR DZ tY JX F_ NJ Lq Lr g0 g1 g2 g3 aS oK FX hfj hwj qf DJ tg y0 y1 y2 y3 q0 q1 q3 p0 p1 p2 p3;go_wp2_with fail
     refine wp_region_noPanic ?_;refine zB (fun w'=>But (fun i=>i=ww\/(Ox sa j sc).ownBlock=some i) wr w') (fun i=>i == 15) (by kernel_rfl) ?_;have rU:But (fun i=>i=ww\/(Ox sa j sc).ownBlock=some i) wr wr.drew:=(But.refl _ wr).drew;refine tk [0,1,2,3,4,5,6,7,8,9,10] rU ?_;(intro d hd;simp [tkD] at hd;subst hd;simp only [tks,pQ,pZ,pS]);iterate 11 (refine ⟨?_,?_,?_⟩;rotate_left;· (intro oi ho;simp at ho;subst ho;refine OO ⟨by rfl,fun w' rB=>?_⟩;obtain ⟨e0,e1,e2,e3,e4,e5,e6,e7⟩:=SX.out w' rB;go_simp;try with_reducible rfl))
     refine jG 11 (by kernel_rfl) ?_;intro o11 ho K' hK;(simp at ho;subst ho);go_simp;go_at_call 70;(with_reducible refine CC.out.mono ?_);rintro Dh w6 ⟨s6,v6,b1,m1,d1,b2,m2,d2,rfl,rC,lN,lC⟩;have sX:Hid (But (fun i=>i=ww\/(Ox sa j sc).ownBlock=some i) wr w6):=rU.trans (rC.weak fun i _ h=>.inl h);have Lb:=but_cell rC Jf q2;have IT:=rQ qlt rC.size;have EE:=but_free rC Jf qlt FS;have sH:=(OWN.out _ rC).alloc (.cells #[str s6,.int .i64 v6,.slice b1 m1 d1,.slice b2 m2 d2] 47);have H6:=n7 (n8 rC (n8 lN lC));clear rC lN lC;(refine hK.out _ _ (fun _=>sX.out) ?_;clear hK K';try simp only [pQ,pN,pZ,pS]);refine jG 12 (by kernel_rfl) ?_;intro o12 ho K' hK;(simp at ho;subst ho);go_simp;(refine hK.out _ _ (fun _=>sX.out.alloc _) ?_;clear hK K';try simp only [pQ,pN,pZ,pS]);refine jG 13 (by kernel_rfl) ?_;intro o13 ho K' hK;(simp at ho;subst ho);refine zI (by rfl) _ _ _ (by rfl) 47 (.agg #[str [],.int .i64 0,.slice none 0 0,.slice none 0 0]) 4 72 PD Tryz.infoN rfl h04 (.slice sa j sc) j us (by rfl) sH _ 1 [str s6,.int .i64 v6,.slice b1 m1 d1,.slice b2 m2 d2] (by rfl) (zu.lit4 #[str s6,.int .i64 v6,.slice b1 m1 d1,.slice b2 m2 d2] rfl (by simp [str,OR]) _ rfl) i2 tC ?_;intro a' c' w7 r_ rP rL;(refine hK.out _ _ (fun _=>(sX.out.alloc _).trans (rP.weak fun i _ h=>.inr h)) ?_;clear hK K';try simp only [pQ,pN,pZ,pS]);have sn:=out_cell rP NB.out Lb;have Au:=out_free rP NB.out IT EE;refine jG 14 (by kernel_rfl) ?_;intro o14 ho K' hK;(simp at ho;subst ho);go_simp;(refine hK.out _ _ (fun _=>(sX.out.alloc _).trans (rP.weak fun i _ h=>.inr h)) ?_;clear hK K';try simp only [pQ,pN,pZ,pS]);refine jG 15 (by kernel_rfl) ?_;intro o15 ho K' hK;(simp at ho;subst ho);go_simp;(refine hK.out _ _ (fun h=>by simp at h) ?_;clear hK K';try simp only [pQ,pN,pZ,pS]);refine zX (by kernel_rfl) (Oy ?_) _;have hX:=HI.out.next (by rw [HZ.out.1]) hww HP.out.hF H6.out.1 H6.out.2.1 H6.out.2.2 FO.out.1 FO.out.2 r_ rP rL;have HN:=n7 hX;clear hX r_ rP rL rU Lb EE sH;go_wp2_with fail
     go_roundw
     case rel=>exact ⟨j+1,_,_,by omega,by go_num,HN.out⟩
     case measure=>simp [intOf];omega
    ·obtain rfl:j=2:=by omega
     obtain ⟨r0,r1,r2,r3,rlt,rf⟩:=HI.out.res.cells;have tF:=rf 0;have aX:=rf 1;have iX:=rf 2;have lH:=rf 3;have q2':wr.cell? ⟨W2.heap.size+1,2,none⟩=some (.slice ka ss.length kc):=q2;have q3':wr.cell? ⟨W2.heap.size+1,3,none⟩=some (.slice sa 2 sc):=q3;clear q2 q3 y0 y1 y2 y3 qf rf;go_wp2_with fail
     have hnn:wU d k l n o t ss y no env (st.map WFr.gf)=none->∃ s,Wri wr ww (-1) s/\0<=s/\s<=20001+20*((d:Int)+1):=by
      intro h0;rcases HI.out.mode with ⟨zs,kj,lj,hA,hev,Ad,aA,Jv,Jr,iJ,sT⟩ | ⟨hev,s,aA,ik,tJ⟩
      ·obtain ⟨z1,z2,_,h2⟩:=keptN_of (o:=o) hA hev;rw [h2] at h0;simp at h0
      ·exact ⟨s,aA,ik,by omega⟩
     have Gg:∀ x,wU d k l n o t ss y no env (st.map WFr.gf)=some x->Wri wr ww (x.2.1:Nat) (20000-(x.2.2:Nat))/\zW (fun i=>(F i/\i<w.heap.size)\/w.heap.size+2<=i) wr (kx x.1) [str [],.int .i64 (o:Nat),.slice ka ss.length kc,.slice sa 2 sc]:=by
      intro x hx;rcases HI.out.mode with ⟨zs,kj,lj,hA,hev,Ad,aA,Jv,Jr,iJ,sT⟩ | ⟨hev,s,aA,ik,tJ⟩
      ·obtain ⟨z1,z2,hz,h2⟩:=keptN_of (o:=o) hA hev;rw [h2] at hx;simp only [Oz] at hx;subst hx;subst hz;refine ⟨aA,?_⟩
       have hgg:∀ (i:Nat) (y:Obj),(Fx F w 4 i/\(Ox sa 2 sc).ownBlock≠some i)->wr.heap[i]? = some y->((F i/\i<w.heap.size)\/w.heap.size+2<=i)/\wr.heap[i]? = some y:=fun i y hi hy=>⟨by
        rcases hi.1 with h | h
        ·exact .inl h
        ·exact .inr (by omega),hy⟩
       have DY:=(Rep.keep hgg).1 _ _ sT;have hlo:outs.length=ss.length:=by
        rw [zh] at DY;obtain ⟨_,a,cap,e,_⟩:=DY;simp only [OK] at e;exact e.2.1.symm
       rw [xD];refine zQ.2 ⟨_,_,rfl,zH.2 rfl,zQ.2 ⟨_,_,rfl,zH.2 rfl,zQ.2 ⟨_,_,rfl,DY,zQ.2 ⟨_,_,rfl,?_,zC.2 rfl⟩⟩⟩⟩;exact HI.out.own.rep (fun g hg=>.inr (by have h1:=HI.out.fr g hg;have h2:=HZ.out.1;omega)) ((Rep.keep hgg).2 _ _ iJ)
      ·rw [hev] at hx;simp at hx
     obtain ⟨W4,iB,sR,sD,sN,sL,aG⟩:=wM (F:=F) (D:=20001+20*((d:Int)+1)) (o:=wU d k l n o t ss y no env (st.map WFr.gf)) (s:=[]) (v:=(o:Nat)) (a1:=ka) (n1:=ss.length) (c1:=kc) (a2:=sa) (n2:=2) (c2:=sc) HI.out.but hww HI.out.res hnn Gg;rw [<- iB];exact bodyPost_ret (v:=.agg #[str [],.int .i64 (o:Nat),.slice ka ss.length kc,.slice sa 2 sc]) (by simp [results,Tryz.results91,go_sem,sR,sD,sN,sL]) rfl aG
def y6 (B:Nat) (x0 x1 x2 x3:Value) (w:World):World:=(((w.setCell ⟨B,0,none⟩ x0).setCell ⟨B,1,none⟩ x1).setCell ⟨B,2,none⟩ x2).setCell ⟨B,3,none⟩ x3
theorem x8 {B:Nat} {x0 x1 x2 x3:Value} {m:Nat->Prop} {a w:World} (h:But m a w) (hm:m B):But m a (y6 B x0 x1 x2 x3 w) :=
 (((h.setCell (p:=⟨B,0,none⟩) (.inl hm) _).setCell (p:=⟨B,1,none⟩) (.inl hm) _).setCell (p:=⟨B,2,none⟩) (.inl hm) _).setCell (p:=⟨B,3,none⟩) (.inl hm) _
theorem pJ {B:Nat} {u0 u1 u2 u3 x0 x1 x2 x3:Value} {e:TypeId} {w:World} (h:w.heap[B]? = some (.cells #[u0,u1,u2,u3] e (0,0))):(y6 B x0 x1 x2 x3 w).heap[B]? = some (.cells #[x0,x1,x2,x3] e (0,0)):=by
 unfold y6;rw [zg (zg (zg (zg h)))];rfl
def leftW (ww:Nat) (wr:World):Nat:=match wr.heap[ww]? with
 | some (.cells c _ _)=>(20001-intOf (c.getD 1 (.int .i64 0))).toNat
 | _=>0
theorem wi {w:World} {ww:Nat} {k s:Int} (h:Wri w ww k s):leftW ww w=(20001-s).toNat:=by
 unfold Wri at h;unfold leftW;rw [h];simp [intOf]
structure WAt (F:Nat->Prop) (ww d k l n:Nat) (H:List Ty) (b:Bd) (env:List Mn) (st:List WFr) (s0:Bs) (v0:Int) (a1 a2:Option Addr) (n1 c1 n2 c2:Nat) (ev sv:Value) (w wr:World):Prop where
 pre:nz (Fx F w 2) ww d k l n H b env st s0 v0 a1 a2 n1 c1 n2 c2 ev sv wr
 box:wr.heap[w.heap.size]? = some (.cells #[str s0,.int .i64 v0,.slice a1 n1 c1,.slice a2 n2 c2] 47 (0,0))
 res:kU (w.heap.size+1) 0 (.slice none 0 0) (.slice none 0 0) wr
 but:But (· = ww) w wr
 zw:w.heap.size+2<=wr.heap.size
 hww:ww<w.heap.size
theorem Fx.low {F:Nat->Prop} {ww:Nat} {w:World} (hF:∀ i,F i->i≠ww) (hww:ww<w.heap.size) (i:Nat) (h:Fx F w 2 i):i≠ww/\i≠w.heap.size/\i≠w.heap.size+1:=by
 rcases h with h | h
 ·exact ⟨hF i h.1,by have:=h.2;omega,by have:=h.2;omega⟩
 ·exact ⟨by omega,by omega,by omega⟩
theorem Fx.low' {F:Nat->Prop} {ww:Nat} {w:World} (hF:∀ i,Fx F w 2 i->i≠ww) {i:Nat} (h:Fx F w 2 i) (_:0<=i):i≠ww/\i≠w.heap.size:=by
 refine ⟨hF i h,?_⟩;rcases h with h | h
 ·have:=h.2;omega
 ·omega
theorem WAt.start {F:Nat->Prop} {ww d k l n:Nat} {H:List Ty} {b:Bd} {env:List Mn} {st:List WFr} {s0:Bs} {v0:Int} {a1 a2:Option Addr} {n1 c1 n2 c2:Nat} {ev sv:Value} {w:World}
 (h:nz F ww d k l n H b env st s0 v0 a1 a2 n1 c1 n2 c2 ev sv w) :
 WAt F ww d k l n H b env st s0 v0 a1 a2 n1 c1 n2 c2 ev sv w ((w.alloc (.cells #[str s0,.int .i64 v0,.slice a1 n1 c1,.slice a2 n2 c2] 47)).alloc (.cells #[str [],.int .i64 0,.slice none 0 0,.slice none 0 0] 47)):=by
 have hww:=h.wri.cell.2.2.2
 have kk:∀ (i:Nat) (o:Obj),F i->w.heap[i]? = some o->Fx F w 2 i/\((w.alloc (.cells #[str s0,.int .i64 v0,.slice a1 n1 c1,.slice a2 n2 c2] 47)).alloc (.cells #[str [],.int .i64 0,.slice none 0 0,.slice none 0 0] 47)).heap[i]? = some o :=
  fun i o hf ho=>⟨.inl ⟨hf,zZ ho⟩,zY (zY ho)⟩
 have hn:=zG (w.alloc (.cells #[str s0,.int .i64 v0,.slice a1 n1 c1,.slice a2 n2 c2] 47)) (.cells #[str [],.int .i64 0,.slice none 0 0,.slice none 0 0] 47);rw [zK] at hn
 exact { pre:={ wri:=zY (zY h.wri),hF:=fun i hi=>by
                 rcases hi with hi | hi
                 ·exact h.hF i hi.1
                 ·omega
                ld:=h.ld,d20:=h.d20,k200:=h.k200,fit:=h.fit,hn:=h.hn,el:=h.el,nl:=h.nl,stl:=h.stl,ok:=h.ok,okg:=h.okg,wf:=h.wf,rb:=(Rep.keep kk).2 _ _ h.rb,re:=(Rep.keep kk).1 _ _ h.re,rs:=(Rep.keep kk).1 _ _ h.rs },
         box:=zY (zG _ _),res:=hn,but:=((But.refl _ _).alloc _).alloc _,zw:=by simp only [zK];omega,hww:=hww }
theorem WAt.move {F:Nat->Prop} {ww d k l n:Nat} {H:List Ty} {b:Bd} {env:List Mn} {st:List WFr} {s0:Bs} {v0:Int} {a1 a2:Option Addr} {n1 c1 n2 c2:Nat} {ev sv:Value} {w wr:World}
 (h:WAt F ww (d+1) k (l+1) n H b env st s0 v0 a1 a2 n1 c1 n2 c2 ev sv w wr) {w8:World} {b':Bd} {env':List Mn} {st':List WFr} {sR:Bs} {Iw:Int} {a1' BW:Option Addr} {n1' c1' AU BV:Nat} {ev' sv':Value}
 (sP:But (fun i=>i=ww\/i=w.heap.size) wr w8) (He:Wri w8 ww (k:Nat) (20000-(l:Nat)))
 (hbox:w8.heap[w.heap.size]? = some (.cells #[str sR,.int .i64 Iw,.slice a1' n1' c1',.slice BW AU BV] 47 (0,0)))
 (fit:ji H b' env' (st'.map WFr.gf)) (el:env'.length+16*d<=1000000) (stl:st'.length+d<=40000) (ok:xH (1000000-16*d) env') (okg:okGs (1000000-16*d) (st'.map WFr.gf)) (wf:wfB b'/\wS env'/\∀ f∈st'.map WFr.gf,wfG f)
 (rb:zW (Fx F w 2) w8 (kx b') [str sR,.int .i64 Iw,.slice a1' n1' c1',.slice BW AU BV]) (re:Rep (Fx F w 2) w8 (.sl 134 9 env'.length (qJ env')) ev') (rs:Rep (Fx F w 2) w8 (.sl 154 6 st'.length (yC st')) sv') :
 WAt F ww d k l n H b' env' st' sR Iw a1' BW n1' c1' AU BV ev' sv' w w8:=by
 have hz:=sP.size;have Cd:=h.zw;have hww:=h.hww;have Cv:=h.pre.ld;have hd:=h.pre.d20;have AG:=h.pre.nl
 exact { pre:={ wri:=He,hF:=h.pre.hF,ld:=by omega,d20:=by omega,k200:=h.pre.k200,fit:=fit,hn:=h.pre.hn,el:=el,nl:=by omega,stl:=stl,ok:=ok,okg:=okg,wf:=wf,rb:=rb,re:=re,rs:=rs },
         box:=hbox,res:=h.res.but sP (by omega),but:=h.but.trans' sP (fun i hi e=>by rcases e with e | e;exact e;omega),zw:=by omega,hww:=hww }
theorem cW {F:Nat->Prop} {w:World}:∀ (st:List WFr) (us:List Value),zW F w (yC st) us->∀ u∈us,u.oneCell'=true
 | [],us,h,u,hu=>by rw [yC,zC] at h;subst h;simp at hu
 | f::st,us,h,u,hu=>by
   rw [yC] at h;obtain ⟨h1,h2⟩:=h.split;rw [<- List.take_append_drop (yC st).length us] at hu;rcases List.mem_append.1 hu with hu | hu
   ·exact cW st _ h1 u hu
   ·rw [encF,xD] at h2;simp only [List.cons_append,OW,zQ,zC,zH] at h2;obtain ⟨_,_,e,rfl,_,_,rfl,rfl,x2,_,rfl,q2,x3,_,rfl,q3,x4,_,rfl,q4,_,_,rfl,rfl,rfl⟩:=h2;obtain ⟨_,aE,aU,e1,_⟩:=zh.1 q2;obtain ⟨_,iK,aV,e2,_⟩:=zh.1 q3;obtain ⟨_,ea,ec,e3,_⟩:=zh.1 q4;subst e1;subst e2;subst e3;rw [e] at hu;simp only [OX,List.not_mem_nil,or_false] at hu;rcases hu with rfl | rfl | rfl | rfl | rfl | rfl <;> rfl
theorem Tryz.infoFW:(No.info? 154).map (fun i=>(i.zero,i.size,i.bytes))=some (some (.agg #[str [],.int .i64 0,.slice none 0 0,.slice none 0 0,.slice none 0 0,.int .i64 0]),6,104):=by kernel_rfl
def WRel (F:Nat->Prop) (ww D k n:Nat) (H:List Ty) (R:Option (Bd×Nat×Nat)) (w:World) (ev sv:Value) (wr:World):Prop :=
 ∃ d l b env st s0 v0 a1 a2 n1 c1 n2 c2,d<=D/\R=evN d k l b env n (st.map WFr.gf)/\WAt F ww d k l n H b env st s0 v0 a1 a2 n1 c1 n2 c2 ev sv w wr
theorem write_step (D:Nat) (ih:∀ d,d<D->pU d):pU D:=by
 intro F ww k L n H b0 NU st0 s00 v00 Gc a20 n10 GW n20 c20 ev0 sv0 w h
 suffices HS:∀ R,R=evN D k L b0 NU n (st0.map WFr.gf)->Calls No 70 #[.pointer (some ⟨ww,0,none⟩),.agg #[str s00,.int .i64 v00,.slice Gc n10 GW,.slice a20 n20 c20],ev0,sv0,.int .i64 (n:Nat)] w (vf F ww (20001+20*D) R w) from HS _ rfl
 intro R hR;have IH:=n7 ih;have hst:=WAt.start h;have hD20:=h.d20;have Di:=n7 hst;clear h hst ih;obtain ⟨W,hW⟩:=zzN ((w.alloc (.cells #[str s00,.int .i64 v00,.slice Gc n10 GW,.slice a20 n20 c20] 47)).alloc (.cells #[str [],.int .i64 0,.slice none 0 0,.slice none 0 0] 47));have HW:=n7 hW;clear hW;have HR:=n7 hR;clear hR;go_enter Tryz.func70,Tryz.ntmps70;go_upto_region 1 with (fail)
 rw [HW.out];go_wp2_with fail
 go_loopw [2,3] (fun e s wr=>WRel F ww D k n H R w e s wr) (fun _ _ wr=>leftW ww wr)
 case atStart=>exact ⟨D,L,b0,NU,st0,s00,v00,Gc,a20,n10,GW,n20,c20,n9 _,HR.out,by rw [<- HW.out];exact Di.out⟩
 case round =>
  obtain ⟨d,l,b,env,st,s0,v0,a1,a2,n1,c1,n2,c2,hdD,hRe,rX⟩:=hrel;have hlm:=wi rX.pre.wri;obtain ⟨s,hs⟩:∃ s:Int,s=20000-(l:Int):=⟨_,rfl⟩;have hl20:l<=20000:=by have:=rX.pre.ld;have:=rX.pre.d20;omega
  have ik:0<=s:=by omega
  have tJ:s<=20000:=by omega
  have FA:Wri wr ww (k:Nat) s:=by rw [hs];exact rX.pre.wri
  obtain ⟨k0,k1,kf,klt⟩:=FA.cell;have Lk:=kf 1;have MB:=rX.pre.k200;obtain ⟨W2,sC⟩:=zzN (wr.setCell ⟨ww,1,none⟩ (.int .i64 (s+1)));have lr:Wri W2 ww (k:Nat) (s+1):=by unfold Wri at *;rw [<- sC,zg FA];rfl
  have rY:But (· = ww) wr W2:=by rw [<- sC];exact (But.refl (· = ww) wr).setCell (p:=⟨ww,1,none⟩) (.inl rfl) _
  have hww:=rX.hww;have JF:W2.heap[w.heap.size]? = some (.cells #[str s0,.int .i64 v0,.slice a1 n1 c1,.slice a2 n2 c2] 47 (0,0)):=by
   have hx:=rX.box;rw [rY.block _ (zZ hx) (by omega)];exact hx
  have sj:kU (w.heap.size+1) 0 (.slice none 0 0) (.slice none 0 0) W2:=rX.res.but rY (by omega);obtain ⟨m0,m1,mf,mlt⟩:=lr.cell;have mf0:=mf 0;have tZ:=n7 (n8 hdD (n8 hRe (n8 hlm (n8 hs rX))));have H2:=n7 (n8 sC (n8 lr (n8 rY (n8 JF sj))));obtain ⟨y0,y1,y2,y3⟩:=kR JF;clear hdD hRe hlm hs rX sC lr rY JF sj FA kf mf;by_cases GM:k=0\/l=0
  ·have HB:=n7 GM;have If:R=none:=by
    rw [tZ.out.2.1];rcases GM with h | h
    ·rw [h];exact evN_zk
    ·rw [h];exact evN_zl
   obtain ⟨W3,sx⟩:=zzN (W2.setCell ⟨ww,0,none⟩ (.int .i64 (-1)));have lY:Wri W3 ww (-1) (s+1):=by have:=H2.out.2.1;unfold Wri at *;rw [<- sx,zg this];rfl
   have rE:But (· = ww) W2 W3:=by rw [<- sx];exact (But.refl (· = ww) W2).setCell (p:=⟨ww,0,none⟩) (.inl rfl) _
   have sA:kU (w.heap.size+1) 0 (.slice none 0 0) (.slice none 0 0) W3:=H2.out.2.2.2.2.but rE (by omega);obtain ⟨r0,r1,r2,r3,rlt,rf⟩:=sA.cells;have tF:=rf 0;have aX:=rf 1;have iX:=rf 2;have lH:=rf 3;have aG:=wM (F:=F) (ww:=ww) (D:=20001+20*(D:Int)) (o:=R) (s:=[117]) (v:=0) (a1:=none) (n1:=0) (c1:=0) (a2:=none) (n2:=0) (c2:=0) ((tZ.out.2.2.2.2.but.trans H2.out.2.2.1).trans rE) hww sA (fun _=>⟨s+1,lY,by omega,by omega⟩) (fun x hx=>by rw [If] at hx;simp at hx);have HQ:=n7 (n8 sx aG);clear sx lY rE sA rf If aG;rcases GM with hk | hl
   ·subst hk;have m0':W2.cell? ⟨ww,0,none⟩=some (.int .i64 0):=m0;have k0':wr.cell? ⟨ww,0,none⟩=some (.int .i64 0):=k0;clear m0 k0;go_upto_region 2 with (fail)
    rw [H2.out.1];go_upto_region 4 with (fail)
    rw [HQ.out.1];go_wp2_with fail
    obtain ⟨W4,iB,sR,sD,sN,sL,hp⟩:=HQ.out.2;rw [show (RC ⟨#[117]⟩)=str [117] from rfl,<- iB];exact bodyPost_ret (v:=.agg #[str [117],.int .i64 0,.slice none 0 0,.slice none 0 0]) (by simp [results,Qs,go_sem,sR,sD,sN,sL]) rfl hp
   ·by_cases hk:k=0
    focus
     subst hk;have m0':W2.cell? ⟨ww,0,none⟩=some (.int .i64 0):=m0;have k0':wr.cell? ⟨ww,0,none⟩=some (.int .i64 0):=k0;clear m0 k0
    rotate_left
    focus
     have Et:¬ ((k:Int)<1):=by omega
     have iQ:(20000:Int)<s+1:=by have:=tZ.out.2.2.2.1;omega
    all_goals
     go_upto_region 2 with (fail)
     rw [H2.out.1];go_upto_region 4 with (fail)
     rw [HQ.out.1];go_wp2_with fail
     obtain ⟨W4,iB,sR,sD,sN,sL,hp⟩:=HQ.out.2;rw [show (RC ⟨#[117]⟩)=str [117] from rfl,<- iB];exact bodyPost_ret (v:=.agg #[str [117],.int .i64 0,.slice none 0 0,.slice none 0 0]) (by simp [results,Qs,go_sem,sR,sD,sN,sL]) rfl hp
  ·obtain ⟨k,rfl⟩:∃ k',k=k'+1:=⟨k-1,by omega⟩;obtain ⟨l,rfl⟩:∃ l',l=l'+1:=⟨l-1,by omega⟩;obtain ⟨d,rfl⟩:∃ d',d=d'+1:=⟨d-1,by have:=tZ.out.2.2.2.2.pre.ld;omega⟩;have m0':W2.cell? ⟨ww,0,none⟩=some (.int .i64 ((k:Int)+1)):=by rw [m0];rfl
   have Et:¬ ((k:Int)+1<1):=by omega
   have iQ:¬ ((20000:Int)<s+1):=by have:=tZ.out.2.2.2.1;omega
   have tN:s+1=20000-(l:Int):=by have:=tZ.out.2.2.2.1;omega
   have Io:=n7 tN;have o7:=tZ.out.2.2.2.2.pre.rb.but H2.out.2.2.1 (F':=Fx F w 2) (fun i hi=>⟨tZ.out.2.2.2.2.pre.hF i hi,hi⟩);clear m0 tN GM hl20;have re2:=tZ.out.2.2.2.2.pre.re.but H2.out.2.2.1 (F':=Fx F w 2) (fun i hi=>⟨tZ.out.2.2.2.2.pre.hF i hi,hi⟩);have rs2:=tZ.out.2.2.2.2.pre.rs.but H2.out.2.2.1 (F':=Fx F w 2) (fun i hi=>⟨tZ.out.2.2.2.2.pre.hF i hi,hi⟩);have oh:=n7 (n8 o7 (n8 re2 rs2));obtain ⟨bv,bx2,bk2,bx3,bk3,ebx,-,-⟩:=vh o7;simp only [OL,RE,OK,and_true,true_and] at ebx;obtain ⟨eat,rfl,⟨rfl,ek2,rfl⟩,rfl,ek3,rfl⟩:=ebx;obtain ⟨sa,scap,esv⟩:∃ a c,u3=.slice a st.length c:=by have h:=rs2;rw [zh] at h;obtain ⟨_,a,c,e,_⟩:=h;exact ⟨a,c,e⟩
   clear o7 re2 rs2;cases b with
   | leaf c =>
     have Nq:vM (.leaf c)=[c]:=rfl;rw [eat,Nq] at y0;have EAT:=n7 eat;subst esv;by_cases FG:c=117
     ·subst FG;have F9:R=some (.leaf 117,k,l):=by rw [tZ.out.2.1];exact evN_u
      obtain ⟨W3,sx⟩:=zzN (W2.setCell ⟨ww,0,none⟩ (.int .i64 (k:Nat)));have lY:Wri W3 ww (k:Nat) (s+1):=by have:=H2.out.2.1;unfold Wri at *;rw [<- sx,zg this];rfl
      have rE:But (· = ww) W2 W3:=by rw [<- sx];exact (But.refl (· = ww) W2).setCell (p:=⟨ww,0,none⟩) (.inl rfl) _
      have sA:kU (w.heap.size+1) 0 (.slice none 0 0) (.slice none 0 0) W3:=H2.out.2.2.2.2.but rE (by omega);obtain ⟨r0,r1,r2,r3,rlt,rf⟩:=sA.cells;have tF:=rf 0;have aX:=rf 1;have iX:=rf 2;have lH:=rf 3;have x0:W3.cell? ⟨w.heap.size,0,none⟩=some (.string ⟨#[117]⟩):=(rE.cell (p:=⟨w.heap.size,0,none⟩) (n_ W2 _ y0) (by show w.heap.size≠ww;omega)).trans y0;have y0':W2.cell? ⟨w.heap.size,0,none⟩=some (.string ⟨#[117]⟩):=y0
      have aG:=wM (F:=F) (ww:=ww) (D:=20001+20*(D:Int)) (o:=R) (s:=[117]) (v:=0) (a1:=none) (n1:=0) (c1:=0) (a2:=none) (n2:=0) (c2:=0) ((tZ.out.2.2.2.2.but.trans H2.out.2.2.1).trans rE) hww sA (fun h=>by rw [F9] at h;simp at h)
       (fun x hx=>by rw [F9] at hx;simp only [Oz] at hx;subst hx;exact ⟨by rw [<- Io.out];exact lY,eI _ _ _⟩)
      have HQ:=n7 (n8 sx aG);clear sx lY rE sA rf F9 aG y0;go_upto_region 2 with (fail)
      rw [H2.out.1];go_upto_region 7 with (fail)
      rw [HQ.out.1];go_wp2_with fail
      obtain ⟨W4,iB,sR,sD,sN,sL,hp⟩:=HQ.out.2;rw [show (RC ⟨#[117]⟩)=str [117] from rfl,<- iB];exact bodyPost_ret (v:=.agg #[str [117],.int .i64 0,.slice none 0 0,.slice none 0 0]) (by simp [results,Qs,go_sem,sR,sD,sN,sL]) rfl hp
     ·obtain ⟨S,KN⟩:∃ S:Bs,S=[c]:=⟨_,rfl⟩;rw [<- KN] at y0;have e117:(S == [117])=false:=by rw [beq_eq_false_iff_ne,KN];simpa using FG
      have ene:(S != [])=true:=by rw [bne_iff_ne,KN];simp
      have ene2:(!S.isEmpty)=true:=by rw [KN];rfl
      have HS1:=n7 KN;clear KN;cases st with
      | nil =>
        have F9:R=some (.leaf c,k,l):=by rw [tZ.out.2.1];exact evN_end
        obtain ⟨W3,sx⟩:=zzN (W2.setCell ⟨ww,0,none⟩ (.int .i64 (k:Nat)));have lY:Wri W3 ww (k:Nat) (s+1):=by have:=H2.out.2.1;unfold Wri at *;rw [<- sx,zg this];rfl
        have rE:But (· = ww) W2 W3:=by rw [<- sx];exact (But.refl (· = ww) W2).setCell (p:=⟨ww,0,none⟩) (.inl rfl) _
        have sA:kU (w.heap.size+1) 0 (.slice none 0 0) (.slice none 0 0) W3:=H2.out.2.2.2.2.but rE (by omega);obtain ⟨r0,r1,r2,r3,rlt,rf⟩:=sA.cells;have tF:=rf 0;have aX:=rf 1;have iX:=rf 2;have lH:=rf 3;have x0:W3.cell? ⟨w.heap.size,0,none⟩=some (str S):=(rE.cell (p:=⟨w.heap.size,0,none⟩) (n_ W2 _ y0) (by show w.heap.size≠ww;omega)).trans y0
        have aG:=wM (F:=F) (ww:=ww) (D:=20001+20*(D:Int)) (o:=R) (s:=S) (v:=0) (a1:=none) (n1:=0) (c1:=0) (a2:=none) (n2:=0) (c2:=0) ((tZ.out.2.2.2.2.but.trans H2.out.2.2.1).trans rE) hww sA (fun h=>by rw [F9] at h;simp at h)
         (fun x hx=>by rw [F9] at hx;simp only [Oz] at hx;subst hx;exact ⟨by rw [<- Io.out];exact lY,by rw [HS1.out];exact eI _ _ _⟩)
        have HQ:=n7 (n8 sx aG);clear sx lY rE sA rf F9 aG;rw [List.length_nil];go_upto_region 2 with (fail)
        rw [H2.out.1];go_upto_region 7 with (fail)
        rw [HQ.out.1];go_wp2_with fail
        obtain ⟨W4,iB,sR,sD,sN,sL,hp⟩:=HQ.out.2;rw [<- iB];exact bodyPost_ret (v:=.agg #[str S,.int .i64 0,.slice none 0 0,.slice none 0 0]) (by simp [results,Qs,go_sem,sR,sD,sN,sL]) rfl hp
      | cons f st =>
        obtain ⟨tb,tO,tcap,aE,aU,iK,aV,ea,ec,etop,NG,AX,hcap,t0,t1,t2,t3,t4,t5,Hp,E2,aS⟩:=top_rep (st:=st) oh.out.2.2;simp only [OD,OK,true_and] at etop;obtain ⟨rfl,rfl⟩:=etop;have hk:∃ i:Nat,i<2/\(i=1↔c=102):=by
         by_cases h:c=102
         ·exact ⟨1,by omega,by simp [h]⟩
         ·exact ⟨0,by omega,by simp [h]⟩
        obtain ⟨i,KC,D8⟩:=hk;have Fr:c=116\/c=102:=by
         have h:=tZ.out.2.2.2.2.pre.wf.1;rw [wfB] at h;rcases h with h | h | h
         ·exact .inl h
         ·exact .inr h
         ·exact absurd h FG
        obtain ⟨pa,pc,ep,L4⟩:=cQ.of (bs:=[f.yes,f.no]) Hp;simp only [OK] at ep;obtain ⟨rfl,_,rfl⟩:=ep;obtain ⟨pb,po,ns,nv,sO,tz,sI,Km,nn3,Kl,nx,e,hpb,Eq,p0,p1,p2,p3,Dx⟩:=L4 i KC;subst e;obtain ⟨nv',na2',nc2',na3',nc3',en,_,_⟩:=vh Dx;simp only [OL,RE,OK,and_true,true_and] at en;obtain ⟨ens,rfl,⟨rfl,rfl,rfl⟩,rfl,rfl,rfl⟩:=en;rw [ens] at p0 Dx;have Md:(if c=116 then (WFr.gf f).yes else (WFr.gf f).no)=nx:=by
         rcases (by omega:i=0\/i=1) with rfl | rfl
         ·have:¬ c=102:=fun h=>by have:=D8.2 h;omega
          have h116:c=116:=Fr.resolve_right this;simp at Eq;rw [if_pos h116];exact Eq
         ·have h102:c=102:=D8.1 rfl;have:¬ c=116:=by rw [h102];decide
          simp at Eq;rw [if_neg this];exact Eq
        have HF:=n7 (n8 Dx (n8 E2 (n8 aS (n8 D8 Md))));have Gp:=tZ.out.2.2.2.2.pre.stl;rw [OD] at Gp ⊢;clear Dx E2 aS Md Eq Hp L4 ens Fr;have Gy:(((st.length:Int)+1) == 0)=false:=by rw [beq_eq_false_iff_ne];omega
        have BA:(st.length:Int)<=(scap:Int):=by omega
        rcases (by omega:i=0\/i=1) with rfl | rfl
        focus
         have D8:¬ c=102:=fun h=>by have:=HF.out.2.2.2.1.2 h;omega
         simp only [Nat.zero_mul,Nat.add_zero] at p0 p1 p2 p3;have e102:(S == [102])=false:=by rw [beq_eq_false_iff_ne,HS1.out];have:=D8;simpa using this
         go_upto_region 2 with (fail)
         rw [H2.out.1];go_upto_region 13 with (fail)
         obtain ⟨W3,sx⟩:=zzN (W2.alloc (.cells #[str [],.int .i64 (f.v:Nat),.slice aE f.ss.length aU,.slice (some ⟨pb,po,none⟩) 2 aV,.slice ea f.env.length ec,.int .i64 0] 154));rw [sx];have ig:W3.heap.size=W2.heap.size+1:=by rw [<- sx];exact zK _ _
         have rE:Below W2.heap.size W2 W3:=by rw [<- sx];exact (rZ _ _).alloc (n9 _) _
         have u3':W3.cell? ⟨W2.heap.size,3,none⟩=some (.slice (some ⟨pb,po,none⟩) 2 aV):=by rw [<- sx];simp
         have Ix:W3.cell? ⟨W2.heap.size,4,none⟩=some (.slice ea f.env.length ec):=by rw [<- sx];simp
         have r0:W3.cell? ⟨pb,po,none⟩=some (str (vM nx)):=by rw [<- sx];exact zV p0
         have r1:W3.cell? ⟨pb,po+1,none⟩=some (.int .i64 nv):=by rw [<- sx];exact zV p1
         have r2:W3.cell? ⟨pb,po+2,none⟩=some (.slice sO (qd nx).length sI):=by rw [<- sx];exact zV p2
         have r3:W3.cell? ⟨pb,po+3,none⟩=some (.slice Km (jj nx).length Kl):=by rw [<- sx];exact zV p3
        rotate_left
        focus
         have D8:c=102:=HF.out.2.2.2.1.1 rfl;simp only [Nat.one_mul,Nat.add_assoc,Nat.reduceAdd] at p0 p1 p2 p3;have e102:(S == [102])=true:=by rw [beq_iff_eq,HS1.out];have:=D8;simpa using this
         go_upto_region 2 with (fail)
         rw [H2.out.1];go_upto_region 13 with (fail)
         obtain ⟨W3,sx⟩:=zzN (W2.alloc (.cells #[str [],.int .i64 (f.v:Nat),.slice aE f.ss.length aU,.slice (some ⟨pb,po,none⟩) 2 aV,.slice ea f.env.length ec,.int .i64 0] 154));rw [sx];have ig:W3.heap.size=W2.heap.size+1:=by rw [<- sx];exact zK _ _
         have rE:Below W2.heap.size W2 W3:=by rw [<- sx];exact (rZ _ _).alloc (n9 _) _
         have u3':W3.cell? ⟨W2.heap.size,3,none⟩=some (.slice (some ⟨pb,po,none⟩) 2 aV):=by rw [<- sx];simp
         have Ix:W3.cell? ⟨W2.heap.size,4,none⟩=some (.slice ea f.env.length ec):=by rw [<- sx];simp
         have r0:W3.cell? ⟨pb,po+4,none⟩=some (str (vM nx)):=by rw [<- sx];exact zV p0
         have r1:W3.cell? ⟨pb,po+5,none⟩=some (.int .i64 nv):=by rw [<- sx];exact zV p1
         have r2:W3.cell? ⟨pb,po+6,none⟩=some (.slice sO (qd nx).length sI):=by rw [<- sx];exact zV p2
         have r3:W3.cell? ⟨pb,po+7,none⟩=some (.slice Km (jj nx).length Kl):=by rw [<- sx];exact zV p3
        all_goals
         have AB:W3.heap[w.heap.size]? = some (.cells #[str s0,.int .i64 v0,.slice a1 n1 c1,.slice a2 n2 c2] 47 (0,0)):=by rw [<- sx];exact zY H2.out.2.2.2.1
         have Iw:W3.cell? ⟨w.heap.size,0,none⟩=some (str s0):=by simp [Li,AB]
         have v1':W3.cell? ⟨w.heap.size,1,none⟩=some (.int .i64 v0):=by simp [Li,AB]
         have v2':W3.cell? ⟨w.heap.size,2,none⟩=some (.slice a1 n1 c1):=by simp [Li,AB]
         have v3':W3.cell? ⟨w.heap.size,3,none⟩=some (.slice a2 n2 c2):=by simp [Li,AB]
         have f0:W3.frozen? ⟨w.heap.size,0,none⟩=false:=by simp [OC,AB]
         have f1:W3.frozen? ⟨w.heap.size,1,none⟩=false:=by simp [OC,AB]
         have f2:W3.frozen? ⟨w.heap.size,2,none⟩=false:=by simp [OC,AB]
         have f3:W3.frozen? ⟨w.heap.size,3,none⟩=false:=by simp [OC,AB]
         have H3:=n7 (n8 sx (n8 ig (n8 rE AB)));clear sx ig rE AB t0 t1 t2 t3 t4 t5 p0 p1 p2 p3 y0 y1 y2 y3;go_upto_region 15 with (fail)
         obtain ⟨W4,iB⟩:=zzN (y6 w.heap.size (str (vM nx)) (.int .i64 nv) (.slice sO (qd nx).length sI) (.slice Km (jj nx).length Kl) W3);have A_:=iB;unfold y6 at A_;rw [A_];have rX:=tZ.out.2.2.2.2;have Cd:=rX.zw;have tg:=H2.out.2.2.1.size;have rq:But (fun i=>i=w.heap.size) W3 W4:=by rw [<- iB];exact x8 (But.refl _ _) rfl
         have u4'':W4.cell? ⟨W2.heap.size,4,none⟩=some (.slice ea f.env.length ec):=(rq.cell (p:=⟨W2.heap.size,4,none⟩) (n_ W3 _ Ix) (by show W2.heap.size≠w.heap.size;omega)).trans Ix;have BL:W4.heap[w.heap.size]? = some (.cells #[str (vM nx),.int .i64 nv,.slice sO (qd nx).length sI,.slice Km (jj nx).length Kl] 47 (0,0)):=by rw [<- iB];exact pJ H3.out.2.2.2
         have Dd:But (fun i=>i=ww\/i=w.heap.size) W2 W4:=(But.ofBelow (m:=fun i=>i=ww\/i=w.heap.size) H3.out.2.2.1).trans (rq.weak fun i _ h=>.inr h);have Ch:Wri W4 ww ((k+1:Nat):Int) (20000-(l:Nat)):=by
          have h:=H2.out.2.1;unfold Wri at *;rw [rq.block ww (by have:=H3.out.2.1;omega) (by show ww≠w.heap.size;omega),H3.out.2.2.1.block ww (by omega),h,Io.out]
         have kp:∀ (i:Nat) (o:Obj),Fx F w 2 i->W2.heap[i]? = some o->Fx F w 2 i/\W4.heap[i]? = some o:=fun i o hi ho=>by
          have hx:=Fx.low' rX.pre.hF hi (by omega);exact ⟨hi,by rw [Dd.block i (zZ ho) (fun e=>e.elim hx.1 hx.2)];exact ho⟩
         have sG:=rX.move (b':=nx) (env':=f.env) (st':=st) ((H2.out.2.2.1.weak fun i _ h=>.inl h).trans Dd) Ch BL (by have:=rX.pre.fit.back c;rw [show (if c=116 then (WFr.gf f).yes else (WFr.gf f).no)=nx from HF.out.2.2.2.2] at this;exact this)
          (by have:=rX.pre.okg.1;have:=rX.pre.ld;have:=rX.pre.d20;show f.env.length+16*d<=1000000;have h9:f.env.length<=1000000-16*(d+1):=rX.pre.okg.1;omega) (by have:=rX.pre.stl;rw [OD] at this;omega) (qP (by omega) _ rX.pre.okg.2.1) (vg (by omega) _ rX.pre.okg.2.2)
          (by
           have h1:=rX.pre.wf.2.2 (WFr.gf f) (by simp);refine ⟨?_,h1.2.2,fun g hg=>rX.pre.wf.2.2 g (by rw [OU];exact Sy _ hg)⟩;rw [<- show (if c=116 then (WFr.gf f).yes else (WFr.gf f).no)=nx from HF.out.2.2.2.2];split
           ·exact h1.1
           ·exact h1.2.1)
          ((Rep.keep kp).2 _ _ HF.out.1) ((Rep.keep kp).1 _ _ HF.out.2.1) ((Rep.keep kp).1 _ _ HF.out.2.2.1)
         have DN:R=evN d (k+1) l nx f.env n (st.map WFr.gf):=by
          rw [tZ.out.2.1,OU,evN_back FG];rw [show (if c=116 then (WFr.gf f).yes else (WFr.gf f).no)=nx from HF.out.2.2.2.2];rfl
         have HN:=n7 (n8 sG (n8 DN Ch));clear sG DN Ch kp Dd BL rq A_ iB rX tg Cd u3' Ix r0 r1 r2 r3 Iw v1' v2' v3' f0 f1 f2 f3;go_wp2_with fail
         go_roundw
         case rel=>exact ⟨d,l,nx,f.env,st,_,_,_,_,_,_,_,_,by have:=tZ.out.1;omega,HN.out.2.1,HN.out.1⟩
         case measure =>
          rw [tZ.out.2.2.1];refine Qk (PL (wi HN.out.2.2)) ?_;omega
   | ask v ss y no =>
     subst esv;have tR:=tZ.out.2.2.2.2.pre.fit;obtain ⟨m,t,hh,hm,Jp,-,-,-,-⟩:=tR.ask;have iT:=oh.out.1;rw [xD] at iT;simp only [zQ,zC] at iT;obtain ⟨_,_,e0,Dv,_,_,rfl,lE,_,_,rfl,rz,_,_,rfl,Gh,rfl⟩:=iT;simp only [OL,and_true] at e0;obtain ⟨rfl,rfl,rfl,rfl⟩:=e0;rw [zH] at Dv lE;rw [Dv] at y0;rw [lE] at y1;simp only [RE,true_and] at lE;subst lE;obtain ⟨-,ka,kc,ek,-⟩:=zh.1 rz;simp only [OK] at ek;obtain ⟨rfl,rfl,rfl⟩:=ek;obtain ⟨-,ya,yc,ey,-⟩:=zh.1 Gh;simp only [OK] at ey;obtain ⟨rfl,rfl,rfl⟩:=ey;have hs00:s0=[]:=by simpa [str] using Dv
     subst hs00;have HK:=n7 (n8 rz (n8 Gh (n8 Dv tR)));clear rz Gh Dv tR eat ek2 ek3;cases m with
     | op o t' =>
       have ett:t'=t:=by rw [wV] at Jp;exact Jp.1
       subst ett;obtain ⟨eb,eo,ecap,ta,tc,i0,e,JC,hew,q0,q1,q2,q3,q4,q5,q6,q7,q8,Gl⟩:=bound_op oh.out.2.1 hm;subst e;have HM:=n7 (n8 hm (n8 Jp Gl));clear hm Jp Gl;obtain ⟨W3,sx⟩:=zzN (W2.alloc (.cells #[.int .i64 (o:Nat),str [],.int .i64 0,.slice none 0 0,.slice none 0 0,.slice ta t'.args.length tc,.slice none 0 0,.int .i64 0,.int .i64 i0] 134));have rE:Below W2.heap.size W2 W3:=by rw [<- sx];exact (rZ _ _).alloc (n9 _) _
       have ig:W3.heap.size=W2.heap.size+1:=by rw [<- sx];exact zK _ _
       have Ed:=(rE.block _ (zZ H2.out.2.2.2.1)).trans H2.out.2.2.2.1;obtain ⟨x0,x1,x2,x3⟩:=kR Ed;have z0:W3.cell? ⟨W2.heap.size,0,none⟩=some (.int .i64 (o:Nat)):=by rw [<- sx];simp
       have ho0:(0:Int)<=(o:Int):=by omega
       have sA:kU (w.heap.size+1) 0 (.slice none 0 0) (.slice none 0 0) W3:=by
        have h:=H2.out.2.2.2.2;unfold kU at *;rw [rE.block _ (zZ h)];exact h
       have B3:=(OB.1 HM.out.1).1;have lE:(v:Int)<(env.length:Int):=by omega
       have rX:=tZ.out.2.2.2.2;have Cv:=rX.pre.ld;have Fj:=rX.pre.d20;have Gp:=rX.pre.stl;have k3:∀ (i:Nat) (ob:Obj),Fx F w 2 i->W2.heap[i]? = some ob->Fx F w 2 i/\W3.heap[i]? = some ob:=fun i ob hi hh=>⟨hi,by rw [rE.block i (zZ hh)];exact hh⟩;have Lv:Wri W3 ww ((k:Nat)+1) (20000-(l:Nat)):=by
        have h:=H2.out.2.1;unfold Wri at *;rw [rE.block ww (zZ h),h,Io.out];rfl
       have C:=n7 (keepN_any d (IH.out d (by have:=tZ.out.1;omega)) (Fx F w 2) ww k l n v o H t' ss y no env st 0 a1 a2 c1 c2 (.slice (some ⟨eb,eo,none⟩) env.length ecap) (.slice sa st.length scap) W3
        { wri:=Lv,hF:=rX.pre.hF,ld:=by omega,d20:=by omega,k200:=by omega,hv:=HM.out.1,fit:=rX.pre.fit,hn:=rX.pre.hn,el:=rX.pre.el,nl:=rX.pre.nl,stl:=by omega,ok:=rX.pre.ok,okg:=rX.pre.okg,wf:=rX.pre.wf,
          rb:=(Rep.keep k3).2 _ _ oh.out.1,re:=(Rep.keep k3).1 _ _ oh.out.2.1,rs:=(Rep.keep k3).1 _ _ oh.out.2.2 })
       have F9:R=wU d k l n o t' ss y no env (st.map WFr.gf):=by rw [tZ.out.2.1];exact evN_op HM.out.1
       have H3:=n7 (n8 sx (n8 rE (n8 ig (n8 sA F9))));clear sx rE ig Ed sA B3 rX Lv F9 k3 Cv;go_upto_region 2 with (fail)
       rw [H2.out.1];go_upto_region 17 with (fail)
       rw [H3.out.1];go_wp2_with fail
       (with_reducible refine C.out.mono ?_);rintro en w9 ⟨s9,v9,b1,p1,d1,b2,p2,d2,rfl,sh,Cu,Cf⟩
       have oD:=H3.out.2.2.2.1.but sh (show ¬ (w.heap.size+1=ww) by omega);obtain ⟨r0,r1,r2,r3,rlt,rf⟩:=oD.cells;have tF:=rf 0;have aX:=rf 1;have iX:=rf 2;have lH:=rf 3
       have aG:=wM (F:=F) (ww:=ww) (D:=20001+20*(D:Int)) (o:=R) (s:=s9) (v:=v9) (a1:=b1) (n1:=p1) (c1:=d1) (a2:=b2) (n2:=p2) (c2:=d2) (((tZ.out.2.2.2.2.but.trans H2.out.2.2.1).trans (But.ofBelow H3.out.2.1)).trans sh) hww oD
        (fun h=>by
         obtain ⟨st',u1,u2,u3⟩:=Cu (by rw [<- H3.out.2.2.2.2];exact h)
         exact ⟨st',u1,u2,by have:=tZ.out.1;omega⟩)
        (fun x hx=>by
         obtain ⟨u1,u2⟩:=Cf x (by rw [<- H3.out.2.2.2.2];exact hx);refine ⟨u1,(Rep.keep fun i ob hi hh=>⟨?_,hh⟩).2 _ _ u2⟩;rcases hi with h | h
         ·exact h
         ·have h1:=H3.out.2.2.1;have h2:=tZ.out.2.2.2.2.zw;have h3:=H2.out.2.2.1.size
          exact .inr (by omega))
       have HQ:=n7 aG;clear aG sh Cu Cf oD rf;go_wp2_with fail
       obtain ⟨W4,iB,sR,sD,sN,sL,hp⟩:=HQ.out;rw [<- iB];exact bodyPost_ret (v:=.agg #[str s9,.int .i64 v9,.slice b1 p1 d1,.slice b2 p2 d2]) (by simp [results,Qs,go_sem,sR,sD,sN,sL]) rfl hp
     | bd t' b' e' =>
       have ett:t'=t:=by rw [wV] at Jp;exact Jp.1
       subst ett;obtain ⟨eb,eo,ecap,ta,tc,bs,bv,aE,FJ,aU,iK,FI,aV,ha,hcap,i0,e,JC,hew,q0,q1,q2,q3,q4,q5,q6,q7,q8,Gl,tH,E2⟩:=bound_bd oh.out.2.1 hm;subst e;obtain ⟨LG,Hz⟩:=HK.out.2.2.2.call hm;obtain ⟨xs,Ao,sE⟩:=zu.ofRep oh.out.2.2 (cW st);have se:=bE _ tZ.out.2.2.2.2.pre.ok v _ hm;rw [okM] at se;have ly:=wfMs_at _ tZ.out.2.2.2.2.pre.wf.2.1 v _ hm;rw [wfM] at ly;have rR:=(kQ se.1).2;have LH:ss.length<=15:=by omega
       have Av:=tZ.out.2.2.2.2.pre.el;have sw:e'.length<=1000000:=by have:=se.2.1;omega
       have HM:=n7 (n8 hm (n8 Gl (n8 tH (n8 E2 (n8 LG (n8 Hz (n8 Ao (n8 sE (n8 se ly)))))))));clear hm Jp Gl tH E2 LG Hz Ao sE se ly rR;obtain ⟨W3,sx⟩:=zzN (W2.alloc (.cells #[.int .i64 (-1),str bs,.int .i64 bv,.slice aE FJ aU,.slice iK FI aV,.slice ta t'.args.length tc,.slice ha e'.length hcap,.int .i64 0,.int .i64 i0] 134));have rE:Below W2.heap.size W2 W3:=by rw [<- sx];exact (rZ _ _).alloc (n9 _) _
       have ig:W3.heap.size=W2.heap.size+1:=by rw [<- sx];exact zK _ _
       have Ed:=(rE.block _ (zZ H2.out.2.2.2.1)).trans H2.out.2.2.2.1;have Ng:W3.heap[W2.heap.size]? = some (.cells #[.int .i64 (-1),str bs,.int .i64 bv,.slice aE FJ aU,.slice iK FI aV,.slice ta t'.args.length tc,.slice ha e'.length hcap,.int .i64 0,.int .i64 i0] 134 (0,0)):=by rw [<- sx];exact zG _ _
       obtain ⟨x0,x1,x2,x3⟩:=kR Ed;have z0:W3.cell? ⟨W2.heap.size,0,none⟩=some (.int .i64 (-1)):=by rw [<- sx];simp
       have B3:=(OB.1 HM.out.1).1;have lE:(v:Int)<(env.length:Int):=by omega
       have hwB:w.heap.size<W3.heap.size:=by have:=tZ.out.2.2.2.2.zw;have:=H2.out.2.2.1.size;omega
       have Gp:st.length<=40000:=by have:=tZ.out.2.2.2.2.pre.stl;omega
       have H3:=n7 (n8 sx (n8 rE (n8 ig (n8 Ed Ng))));have SX:Hid (∀ w',Below W3.heap.size W3 w'->w'.cell? ⟨w.heap.size,0,none⟩=some (str [])/\w'.cell? ⟨w.heap.size,1,none⟩=some (.int .i64 (v:Nat))/\w'.cell? ⟨w.heap.size,2,none⟩=some (.slice a1 ss.length c1)/\w'.cell? ⟨w.heap.size,3,none⟩=some (.slice a2 2 c2)):=by
        show ∀ w',_->_;intro w' rS;exact ⟨(rS.cell (by show w.heap.size<_;omega)).trans x0,(rS.cell (by show w.heap.size<_;omega)).trans x1,(rS.cell (by show w.heap.size<_;omega)).trans x2,(rS.cell (by show w.heap.size<_;omega)).trans x3⟩
       have SRC:Hid (∀ w',Below W3.heap.size W3 w'->zu 6 (.slice sa st.length scap) st.length xs w'):=by
        show ∀ w',_->_;intro w' rS;exact (HM.out.2.2.2.2.2.2.2.1.belowAll rE (n9 _)).belowAll rS (n9 _)
       clear sx rE ig Ed Ng B3 x0 x1 x2 x3;go_upto_region 2 with (fail)
       rw [H2.out.1];go_upto_region 17 with (fail)
       rw [H3.out.1];go_upto_region 19 with (fail)
       refine wp_region_noPanic ?_;refine zB (fun w'=>Below W3.heap.size W3 w') (fun _=>false) (by kernel_rfl) ?_;have rU:Below W3.heap.size W3 W3.drew:=Below.drew (rZ _ _);refine tk [1,3,4,5] rU ?_;(intro d hd;simp [tkD] at hd;subst hd;simp only [tks,pQ,pZ,pS]);iterate 4 (refine ⟨?_,?_,?_⟩;rotate_left;· (intro oi ho;simp at ho;subst ho;refine OO ⟨by rfl,fun w' rB=>?_⟩;obtain ⟨e0,e1,e2,e3⟩:=SX.out w' rB;go_simp;try with_reducible rfl))
       refine qX 0 6 (by kernel_rfl) ?_ ?_
       ·(intro o0 ho K' hK;simp at ho;subst ho);go_simp
        (refine hK.out _ _ (fun _=>(rU.alloc (n9 _) (.cells #[] 154))) ?_;clear hK K';try simp only [pQ,pN,pZ,pS]);refine qX 2 6 (by kernel_rfl) ?_ ?_
        focus
         (intro o2 ho K' hK;simp at ho;subst ho);refine zI (by rfl) _ _ _ (by rfl) 154 (.agg #[str [],.int .i64 0,.slice none 0 0,.slice none 0 0,.slice none 0 0,.int .i64 0]) 6 104 P7 Tryz.infoFW rfl (by decide) (.slice (some ⟨W3.heap.size,0,none⟩) 0 0) 0 [] (by rfl) (Own.litAt #[] 0 _ rfl (by decide) rfl) _ st.length xs (by rfl) (SRC.out _ (rU.alloc (n9 _) (.cells #[] 154))) (by unfold maxLen;omega) (by omega) ?_
         intro a5 c5 w5 i1 rx i6;simp only [PW,OW] at i1 i6 ⊢;have t_:Below W3.heap.size W3 w5:=(rU.alloc (n9 _) (.cells #[] 154)).trans (rx.toBelow ((rU.alloc (n9 _) (.cells #[] 154))).size fun i hi e=>by simp [OG] at e;omega);have AO:Hid (∀ g,(Ox a5 st.length c5).ownBlock=some g->W3.heap.size<=g):=fun g hg=>by rcases i6 g hg with h | h;simp [OG] at h;omega;have h:g=W3.heap.size+1:=h.trans (zK _ _);omega
         (refine hK.out _ _ (fun _=>t_) ?_;clear hK K';try simp only [pQ,pN,pZ,pS]);(refine on 6 ?_;intro o ho K' hK;simp at ho;subst ho;go_simp);(refine hK.out _ _ (fun _=>t_.alloc t_.size _) ?_;clear hK K';try simp only [pQ,pN,pZ,pS]);(refine on 7 ?_;intro o ho K' hK;simp at ho;subst ho);refine zI (by rfl) _ _ _ (by rfl) 154 (.agg #[str [],.int .i64 0,.slice none 0 0,.slice none 0 0,.slice none 0 0,.int .i64 0]) 6 104 P7 Tryz.infoFW rfl (by decide) (.slice a5 st.length c5) st.length xs (by rfl) (i1.alloc _) _ 1 [str [],.int .i64 (v:Nat),.slice a1 ss.length c1,.slice a2 2 c2,.slice (some ⟨eb,eo,none⟩) env.length ecap,.int .i64 0] (by rfl) (zu.lit1 #[str [],.int .i64 (v:Nat),.slice a1 ss.length c1,.slice a2 2 c2,.slice (some ⟨eb,eo,none⟩) env.length ecap,.int .i64 0] rfl (by simp [str,OR]) _ (by rfl)) (by unfold maxLen;omega) (by omega) ?_
         intro a7 c7 w7 r_ rP rL;have tI:Below W3.heap.size W3 w7:=(t_.alloc t_.size (.cells #[str [],.int .i64 (v:Nat),.slice a1 ss.length c1,.slice a2 2 c2,.slice (some ⟨eb,eo,none⟩) env.length ecap,.int .i64 0] 154)).trans (rP.toBelow ((t_.alloc t_.size (.cells #[str [],.int .i64 (v:Nat),.slice a1 ss.length c1,.slice a2 2 c2,.slice (some ⟨eb,eo,none⟩) env.length ecap,.int .i64 0] 154))).size fun i hi e=>by have:=AO.out i e;omega);have tf:∀ g,(Ox a7 (st.length+1) c7).ownBlock=some g->W3.heap.size<=g:=fun g hg=>by rcases rL g hg with h | h;exact AO.out g h;exact rJ ((t_.alloc t_.size (.cells #[str [],.int .i64 (v:Nat),.slice a1 ss.length c1,.slice a2 2 c2,.slice (some ⟨eb,eo,none⟩) env.length ecap,.int .i64 0] 154))).size (PL h.symm)
        rotate_left
        focus
         (intro o6 ho K' hK;simp at ho;subst ho);go_simp
         refine hK.out _ _ (fun _=>?_) ?_
         ·exact ((rU.alloc (n9 _) (.cells #[] 154)).alloc (by rw [zK];exact Pu _) (.cells #[str [],.int .i64 (v:Nat),.slice a1 ss.length c1,.slice a2 2 c2,.slice (some ⟨eb,eo,none⟩) env.length ecap,.int .i64 0] 154))
         clear hK K';(try simp only [pQ,pN,pZ,pS]);(refine on 2 ?_;intro o ho K' hK;simp at ho;subst ho);refine zI (by rfl) _ _ _ (by rfl) 154 (.agg #[str [],.int .i64 0,.slice none 0 0,.slice none 0 0,.slice none 0 0,.int .i64 0]) 6 104 P7 Tryz.infoFW rfl (by decide) (.slice (some ⟨W3.heap.size,0,none⟩) 0 0) 0 [] (by rfl) ((Own.litAt #[] 0 _ rfl (by decide) rfl).alloc _) _ st.length xs (by rfl) (SRC.out _ ((rU.alloc (n9 _) (.cells #[] 154)).alloc (by rw [zK];exact Pu _) (.cells #[str [],.int .i64 (v:Nat),.slice a1 ss.length c1,.slice a2 2 c2,.slice (some ⟨eb,eo,none⟩) env.length ecap,.int .i64 0] 154))) (by unfold maxLen;omega) (by omega) ?_;intro a5 c5 w5 i1 rx i6;simp only [PW,OW] at i1 i6 ⊢;have t_:Below W3.heap.size W3 w5:=((rU.alloc (n9 _) (.cells #[] 154)).alloc (by rw [zK];exact Pu _) (.cells #[str [],.int .i64 (v:Nat),.slice a1 ss.length c1,.slice a2 2 c2,.slice (some ⟨eb,eo,none⟩) env.length ecap,.int .i64 0] 154)).trans (rx.toBelow (((rU.alloc (n9 _) (.cells #[] 154)).alloc (by rw [zK];exact Pu _) (.cells #[str [],.int .i64 (v:Nat),.slice a1 ss.length c1,.slice a2 2 c2,.slice (some ⟨eb,eo,none⟩) env.length ecap,.int .i64 0] 154))).size fun i hi e=>by simp [OG] at e;omega);have AO:Hid (∀ g,(Ox a5 st.length c5).ownBlock=some g->W3.heap.size<=g):=fun g hg=>by rcases i6 g hg with h | h;simp [OG] at h;omega;have h:g=W3.heap.size+1+1:=h.trans (wJ W3 _ _);omega
         have JS:zu 6 (.slice (some ⟨W3.heap.size+1,0,none⟩) 1 1) 1 #[str [],.int .i64 (v:Nat),.slice a1 ss.length c1,.slice a2 2 c2,.slice (some ⟨eb,eo,none⟩) env.length ecap,.int .i64 0].toList w5:=(zu.lit1 #[str [],.int .i64 (v:Nat),.slice a1 ss.length c1,.slice a2 2 c2,.slice (some ⟨eb,eo,none⟩) env.length ecap,.int .i64 0] rfl (by simp [str,OR]) _ (by simp):zu 6 (.slice (some ⟨W3.heap.size+1,0,none⟩) 1 1) 1 #[str [],.int .i64 (v:Nat),.slice a1 ss.length c1,.slice a2 2 c2,.slice (some ⟨eb,eo,none⟩) env.length ecap,.int .i64 0].toList ((W3.drew.alloc (.cells #[] 154)).alloc (.cells #[str [],.int .i64 (v:Nat),.slice a1 ss.length c1,.slice a2 2 c2,.slice (some ⟨eb,eo,none⟩) env.length ecap,.int .i64 0] 154))).thru rx (fun e=>by simp [OG] at e);(refine hK.out _ _ (fun _=>t_) ?_;clear hK K';try simp only [pQ,pN,pZ,pS]);(refine on 7 ?_;intro o ho K' hK;simp at ho;subst ho);refine zI (by rfl) _ _ _ (by rfl) 154 (.agg #[str [],.int .i64 0,.slice none 0 0,.slice none 0 0,.slice none 0 0,.int .i64 0]) 6 104 P7 Tryz.infoFW rfl (by decide) (.slice a5 st.length c5) st.length xs (by rfl) (i1) _ 1 [str [],.int .i64 (v:Nat),.slice a1 ss.length c1,.slice a2 2 c2,.slice (some ⟨eb,eo,none⟩) env.length ecap,.int .i64 0] (by rfl) (JS) (by unfold maxLen;omega) (by omega) ?_;intro a7 c7 w7 r_ rP rL;have tI:Below W3.heap.size W3 w7:=t_.trans (rP.toBelow (t_).size fun i hi e=>by have:=AO.out i e;omega);have tf:∀ g,(Ox a7 (st.length+1) c7).ownBlock=some g->W3.heap.size<=g:=fun g hg=>by rcases rL g hg with h | h;exact AO.out g h;exact rJ (t_).size (PL h.symm)
        all_goals
         (refine hK.out _ _ (fun _=>tI) ?_;clear hK K';try simp only [pQ,pN,pZ,pS]);(refine on 8 ?_;intro o ho K' hK;simp at ho;subst ho;go_simp);(refine hK.out _ _ (fun _=>tI) ?_;clear hK K';try simp only [pQ,pN,pZ,pS]);refine zX (by kernel_rfl) (Oy ?_) _
         clear rx i6 i1 rP rL t_;have H7:=n7 (n8 r_ (n8 tI tf));clear r_ tI tf rU;have ig:=H3.out.2.2.1;have Ko:=H7.out.2.1.size;have Cd:=tZ.out.2.2.2.2.zw;have tg:=H2.out.2.2.1.size;have ib:=(H7.out.2.1.block W2.heap.size (by omega)).trans H3.out.2.2.2.2;have ou:=(H7.out.2.1.block w.heap.size (by omega)).trans H3.out.2.2.2.1;have g5:w7.cell? ⟨W2.heap.size,5,none⟩=some (.slice ta t'.args.length tc):=by simp [Li,ib]
         have g6:w7.cell? ⟨W2.heap.size,6,none⟩=some (.slice ha e'.length hcap):=by simp [Li,ib]
         have x2:w7.cell? ⟨w.heap.size,2,none⟩=some (.slice a1 ss.length c1):=by simp [Li,ou]
         have k7:∀ (i:Nat) (ob:Obj),Fx F w 2 i->W2.heap[i]? = some ob->Fx F w 2 i/\w7.heap[i]? = some ob:=fun i ob hi hh=>by
          have hl:=zZ hh;exact ⟨hi,by rw [H7.out.2.1.block i (by omega),H3.out.2.1.block i hl];exact hh⟩
         have FQ:=(cv (Fx F w 2) e' env ss t' (.slice ha e'.length hcap) (.slice a1 ss.length c1) (.slice ta t'.args.length tc) (.slice (some ⟨eb,eo,none⟩) env.length ecap) w7 ((Rep.keep k7).1 _ _ HM.out.2.2.2.1) ((Rep.keep k7).1 _ _ HK.out.1) ((Rep.keep k7).1 _ _ HM.out.2.1) ((Rep.keep k7).1 _ _ oh.out.2.1) (by omega) HM.out.2.2.2.2.1 (by omega));rw [show ((0:Nat):Int)=0 from rfl] at FQ;have CH:=n7 FQ;clear FQ;have Il:=n7 (n8 ib (n8 ou k7));clear ib ou k7 ig tg;go_wp2_with fail
         (with_reducible refine CH.out.mono ?_);rintro en w8 ⟨a8,c8,rfl,sP,io⟩
         have ig:=H3.out.2.2.1;have hz8:=sP.size;have ah:=(sP.block W2.heap.size (by omega)).trans Il.out.1;have sF:=(sP.block w.heap.size (by omega)).trans Il.out.2.1;have p1:w8.cell? ⟨W2.heap.size,1,none⟩=some (str bs):=by simp [Li,ah]
         have p2:w8.cell? ⟨W2.heap.size,2,none⟩=some (.int .i64 bv):=by simp [Li,ah]
         have p3:w8.cell? ⟨W2.heap.size,3,none⟩=some (.slice aE FJ aU):=by simp [Li,ah]
         have p4:w8.cell? ⟨W2.heap.size,4,none⟩=some (.slice iK FI aV):=by simp [Li,ah]
         have d0:w8.cell? ⟨w.heap.size,0,none⟩=some (str []):=by simp [Li,sF]
         have d1:w8.cell? ⟨w.heap.size,1,none⟩=some (.int .i64 (v:Nat)):=by simp [Li,sF]
         have d2:w8.cell? ⟨w.heap.size,2,none⟩=some (.slice a1 ss.length c1):=by simp [Li,sF]
         have d3:w8.cell? ⟨w.heap.size,3,none⟩=some (.slice a2 2 c2):=by simp [Li,sF]
         have f0:w8.frozen? ⟨w.heap.size,0,none⟩=false:=by simp [OC,sF]
         have f1:w8.frozen? ⟨w.heap.size,1,none⟩=false:=by simp [OC,sF]
         have f2:w8.frozen? ⟨w.heap.size,2,none⟩=false:=by simp [OC,sF]
         have f3:w8.frozen? ⟨w.heap.size,3,none⟩=false:=by simp [OC,sF]
         have H8:=n7 (n8 sP (n8 io sF));clear sP io ah sF g5 g6 x2 ig;go_upto_region 22 with (fail)
         obtain ⟨W9,DM⟩:=zzN (y6 w.heap.size (str bs) (.int .i64 bv) (.slice aE FJ aU) (.slice iK FI aV) w8);have A_:=DM;unfold y6 at A_;rw [A_];have sG:WAt F ww d (k+1) l n H b' (e'++owns env t'.args ss) (⟨v,ss,y,no,env⟩::st) bs bv aE iK FJ aU FI aV (.slice a8 (e'.length+(owns env t'.args ss).length) c8) (.slice a7 (st.length+1) c7) w W9:=by
          have rX:=tZ.out.2.2.2.2;have tg:=H2.out.2.2.1.size;have ig:=H3.out.2.2.1;have sh:But (fun i=>i=w.heap.size) w8 W9:=by rw [<- DM];exact x8 (But.refl _ _) rfl
          have og:But (fun i=>i=ww\/i=w.heap.size) W2 W9:=(((But.ofBelow (m:=fun i=>i=ww\/i=w.heap.size) H3.out.2.1).trans (But.ofBelow (H7.out.2.1))).trans (But.ofBelow H8.out.1)).trans (sh.weak fun i _ h=>.inr h);have hz9:=og.size;have Ad:(owns env t'.args ss).length=t'.args.length:=wh _ _ HM.out.2.2.2.2.1;have se:=HM.out.2.2.2.2.2.2.2.2.1;have ly:=HM.out.2.2.2.2.2.2.2.2.2;have Cv:=rX.pre.ld;have Fj:=rX.pre.d20;have Hk:=rX.pre.stl;have kp:∀ (i:Nat) (ob:Obj),Fx F w 2 i->W2.heap[i]? = some ob->Fx F w 2 i/\W9.heap[i]? = some ob:=fun i ob hi ho=>by
           have hx:=Fx.low' rX.pre.hF hi (by omega);exact ⟨hi,by rw [og.block i (zZ ho) (fun e=>e.elim hx.1 hx.2)];exact ho⟩
          refine rX.move ((H2.out.2.2.1.weak fun i _ h=>.inl h).trans og) ?_ (by rw [<- DM];exact pJ H8.out.2.2) HM.out.2.2.2.2.2.1 (by rw [Ov,Ad];have:=se.2.1;have:=HM.out.2.2.2.2.1;omega) (by rw [OD];omega)
           (jg _ _ (qP (by omega) _ se.2.2) (wt (qP (by omega) _ rX.pre.ok) (by omega) _ _ (kQ se.1).1)) ⟨by show env.length<=_;omega,qP (by omega) _ rX.pre.ok,vg (by omega) _ rX.pre.okg⟩
           ⟨ly.1,jp _ _ ly.2 (wR rX.pre.wf.2.1 _ _ rX.pre.wf.1.1),fun f hf=>?_⟩ ((Rep.keep kp).2 _ _ HM.out.2.2.1) ?_ ?_
          ·have h:=H2.out.2.1;unfold Wri at *;rw [sh.block ww (by omega) (by show ww≠w.heap.size;omega),H8.out.1.block ww (by omega),H7.out.2.1.block ww (by omega),H3.out.2.1.block ww (by omega),h,Io.out]
          ·rw [OU] at hf;rcases OX.1 hf with rfl | hf
           ·exact ⟨rX.pre.wf.1.2.1,rX.pre.wf.1.2.2,rX.pre.wf.2.1⟩
           ·exact rX.pre.wf.2.2 f hf
          ·rw [Ov];refine (Rep.keep fun i ob hi ho=>?_).1 _ _ H8.out.2.1;have hx:Fx F w 2 i:=by
            rcases hi with h | h
            ·exact h
            ·exact .inr (by omega)
           exact ⟨hx,by rw [sh.block i (zZ ho) (Fx.low' rX.pre.hF hx (by omega)).2];exact ho⟩
          ·rw [OD];refine (H7.out.1.keep (w':=W9) fun g o hg ho=>?_).rep (fun g hg=>.inr (by have:=H7.out.2.2 g hg;omega)) ?_
           ·have h1:=H7.out.2.2 g hg;have h2:=zZ ho;rw [sh.block g (by omega) (by omega),H8.out.1.block g h2];exact ho
           ·rw [yC];refine zW.append ((Rep.keep kp).2 _ _ HM.out.2.2.2.2.2.2.1) ?_;rw [encF];exact zW.append ((Rep.keep kp).2 _ _ oh.out.1) (zQ.2 ⟨_,_,rfl,(Rep.keep kp).1 _ _ oh.out.2.1,zQ.2 ⟨_,_,rfl,zH.2 rfl,zC.2 rfl⟩⟩)
         have DN:R=evN d (k+1) l b' (e'++owns env t'.args ss) n (QI WFr.gf (⟨v,ss,y,no,env⟩::st)):=by
          rw [tZ.out.2.1,evN_bd HM.out.1];rfl
         have HN:=n7 (n8 sG (n8 DN sG.pre.wri));clear sG DN A_ DM p1 p2 p3 p4 d0 d1 d2 d3 f0 f1 f2 f3;go_wp2_with fail
         go_roundw
         case rel=>exact ⟨d,l,b',_,_,_,_,_,_,_,_,_,_,by have:=tZ.out.1;omega,HN.out.2.1,HN.out.1⟩
         case measure =>
          rw [tZ.out.2.2.1];refine Qk (PL (wi HN.out.2.2)) ?_;omega
       ·(intro o6 ho K' hK;simp at ho;subst ho);go_simp
        (refine hK.out _ _ (fun _=>(rU.alloc (n9 _) (.cells #[str [],.int .i64 (v:Nat),.slice a1 ss.length c1,.slice a2 2 c2,.slice (some ⟨eb,eo,none⟩) env.length ecap,.int .i64 0] 154))) ?_;clear hK K';try simp only [pQ,pN,pZ,pS]);(refine on 0 ?_;intro o ho K' hK;simp at ho;subst ho;go_simp);refine hK.out _ _ (fun _=>?_) ?_
        ·exact ((rU.alloc (n9 _) (.cells #[str [],.int .i64 (v:Nat),.slice a1 ss.length c1,.slice a2 2 c2,.slice (some ⟨eb,eo,none⟩) env.length ecap,.int .i64 0] 154)).alloc (by rw [zK];exact Pu _) (.cells #[] 154))
        clear hK K';(try simp only [pQ,pN,pZ,pS]);(refine on 2 ?_;intro o ho K' hK;simp at ho;subst ho);refine zI (by rfl) _ _ _ (by rfl) 154 (.agg #[str [],.int .i64 0,.slice none 0 0,.slice none 0 0,.slice none 0 0,.int .i64 0]) 6 104 P7 Tryz.infoFW rfl (by decide) (.slice (some ⟨W3.heap.size+1,0,none⟩) 0 0) 0 [] (by rfl) (Own.litAt #[] 0 _ (by simp) (by decide) rfl) _ st.length xs (by rfl) (SRC.out _ ((rU.alloc (n9 _) (.cells #[str [],.int .i64 (v:Nat),.slice a1 ss.length c1,.slice a2 2 c2,.slice (some ⟨eb,eo,none⟩) env.length ecap,.int .i64 0] 154)).alloc (by rw [zK];exact Pu _) (.cells #[] 154))) (by unfold maxLen;omega) (by omega) ?_;intro a5 c5 w5 i1 rx i6;simp only [PW,OW] at i1 i6 ⊢;have t_:Below W3.heap.size W3 w5:=((rU.alloc (n9 _) (.cells #[str [],.int .i64 (v:Nat),.slice a1 ss.length c1,.slice a2 2 c2,.slice (some ⟨eb,eo,none⟩) env.length ecap,.int .i64 0] 154)).alloc (by rw [zK];exact Pu _) (.cells #[] 154)).trans (rx.toBelow (((rU.alloc (n9 _) (.cells #[str [],.int .i64 (v:Nat),.slice a1 ss.length c1,.slice a2 2 c2,.slice (some ⟨eb,eo,none⟩) env.length ecap,.int .i64 0] 154)).alloc (by rw [zK];exact Pu _) (.cells #[] 154))).size fun i hi e=>by simp [OG] at e;omega);have AO:Hid (∀ g,(Ox a5 st.length c5).ownBlock=some g->W3.heap.size<=g):=fun g hg=>by rcases i6 g hg with h | h;simp [OG] at h;omega;have h:g=W3.heap.size+1+1:=h.trans (wJ W3 _ _);omega
        have JS:zu 6 (.slice (some ⟨W3.heap.size,0,none⟩) 1 1) 1 #[str [],.int .i64 (v:Nat),.slice a1 ss.length c1,.slice a2 2 c2,.slice (some ⟨eb,eo,none⟩) env.length ecap,.int .i64 0].toList w5:=((zu.lit1 #[str [],.int .i64 (v:Nat),.slice a1 ss.length c1,.slice a2 2 c2,.slice (some ⟨eb,eo,none⟩) env.length ecap,.int .i64 0] rfl (by simp [str,OR]) _ (by simp):zu 6 (.slice (some ⟨W3.heap.size,0,none⟩) 1 1) 1 #[str [],.int .i64 (v:Nat),.slice a1 ss.length c1,.slice a2 2 c2,.slice (some ⟨eb,eo,none⟩) env.length ecap,.int .i64 0].toList (W3.drew.alloc (.cells #[str [],.int .i64 (v:Nat),.slice a1 ss.length c1,.slice a2 2 c2,.slice (some ⟨eb,eo,none⟩) env.length ecap,.int .i64 0] 154))).alloc (.cells #[] 154)).thru rx (fun e=>by simp [OG] at e);(refine hK.out _ _ (fun _=>t_) ?_;clear hK K';try simp only [pQ,pN,pZ,pS]);(refine on 7 ?_;intro o ho K' hK;simp at ho;subst ho);refine zI (by rfl) _ _ _ (by rfl) 154 (.agg #[str [],.int .i64 0,.slice none 0 0,.slice none 0 0,.slice none 0 0,.int .i64 0]) 6 104 P7 Tryz.infoFW rfl (by decide) (.slice a5 st.length c5) st.length xs (by rfl) (i1) _ 1 [str [],.int .i64 (v:Nat),.slice a1 ss.length c1,.slice a2 2 c2,.slice (some ⟨eb,eo,none⟩) env.length ecap,.int .i64 0] (by rfl) (JS) (by unfold maxLen;omega) (by omega) ?_;intro a7 c7 w7 r_ rP rL;have tI:Below W3.heap.size W3 w7:=t_.trans (rP.toBelow (t_).size fun i hi e=>by have:=AO.out i e;omega);have tf:∀ g,(Ox a7 (st.length+1) c7).ownBlock=some g->W3.heap.size<=g:=fun g hg=>by rcases rL g hg with h | h;exact AO.out g h;exact rJ (t_).size (PL h.symm)
        (refine hK.out _ _ (fun _=>tI) ?_;clear hK K';try simp only [pQ,pN,pZ,pS]);(refine on 8 ?_;intro o ho K' hK;simp at ho;subst ho;go_simp);(refine hK.out _ _ (fun _=>tI) ?_;clear hK K';try simp only [pQ,pN,pZ,pS]);refine zX (by kernel_rfl) (Oy ?_) _
        clear rx i6 i1 rP rL t_;have H7:=n7 (n8 r_ (n8 tI tf));clear r_ tI tf rU;have ig:=H3.out.2.2.1;have Ko:=H7.out.2.1.size;have Cd:=tZ.out.2.2.2.2.zw;have tg:=H2.out.2.2.1.size;have ib:=(H7.out.2.1.block W2.heap.size (by omega)).trans H3.out.2.2.2.2;have ou:=(H7.out.2.1.block w.heap.size (by omega)).trans H3.out.2.2.2.1;have g5:w7.cell? ⟨W2.heap.size,5,none⟩=some (.slice ta t'.args.length tc):=by simp [Li,ib]
        have g6:w7.cell? ⟨W2.heap.size,6,none⟩=some (.slice ha e'.length hcap):=by simp [Li,ib]
        have x2:w7.cell? ⟨w.heap.size,2,none⟩=some (.slice a1 ss.length c1):=by simp [Li,ou]
        have k7:∀ (i:Nat) (ob:Obj),Fx F w 2 i->W2.heap[i]? = some ob->Fx F w 2 i/\w7.heap[i]? = some ob:=fun i ob hi hh=>by
         have hl:=zZ hh;exact ⟨hi,by rw [H7.out.2.1.block i (by omega),H3.out.2.1.block i hl];exact hh⟩
        have FQ:=(cv (Fx F w 2) e' env ss t' (.slice ha e'.length hcap) (.slice a1 ss.length c1) (.slice ta t'.args.length tc) (.slice (some ⟨eb,eo,none⟩) env.length ecap) w7 ((Rep.keep k7).1 _ _ HM.out.2.2.2.1) ((Rep.keep k7).1 _ _ HK.out.1) ((Rep.keep k7).1 _ _ HM.out.2.1) ((Rep.keep k7).1 _ _ oh.out.2.1) (by omega) HM.out.2.2.2.2.1 (by omega));rw [show ((0:Nat):Int)=0 from rfl] at FQ;have CH:=n7 FQ;clear FQ;have Il:=n7 (n8 ib (n8 ou k7));clear ib ou k7 ig tg;go_wp2_with fail
        (with_reducible refine CH.out.mono ?_);rintro en w8 ⟨a8,c8,rfl,sP,io⟩
        have ig:=H3.out.2.2.1;have hz8:=sP.size;have ah:=(sP.block W2.heap.size (by omega)).trans Il.out.1;have sF:=(sP.block w.heap.size (by omega)).trans Il.out.2.1;have p1:w8.cell? ⟨W2.heap.size,1,none⟩=some (str bs):=by simp [Li,ah]
        have p2:w8.cell? ⟨W2.heap.size,2,none⟩=some (.int .i64 bv):=by simp [Li,ah]
        have p3:w8.cell? ⟨W2.heap.size,3,none⟩=some (.slice aE FJ aU):=by simp [Li,ah]
        have p4:w8.cell? ⟨W2.heap.size,4,none⟩=some (.slice iK FI aV):=by simp [Li,ah]
        have d0:w8.cell? ⟨w.heap.size,0,none⟩=some (str []):=by simp [Li,sF]
        have d1:w8.cell? ⟨w.heap.size,1,none⟩=some (.int .i64 (v:Nat)):=by simp [Li,sF]
        have d2:w8.cell? ⟨w.heap.size,2,none⟩=some (.slice a1 ss.length c1):=by simp [Li,sF]
        have d3:w8.cell? ⟨w.heap.size,3,none⟩=some (.slice a2 2 c2):=by simp [Li,sF]
        have f0:w8.frozen? ⟨w.heap.size,0,none⟩=false:=by simp [OC,sF]
        have f1:w8.frozen? ⟨w.heap.size,1,none⟩=false:=by simp [OC,sF]
        have f2:w8.frozen? ⟨w.heap.size,2,none⟩=false:=by simp [OC,sF]
        have f3:w8.frozen? ⟨w.heap.size,3,none⟩=false:=by simp [OC,sF]
        have H8:=n7 (n8 sP (n8 io sF));clear sP io ah sF g5 g6 x2 ig;go_upto_region 22 with (fail)
        obtain ⟨W9,DM⟩:=zzN (y6 w.heap.size (str bs) (.int .i64 bv) (.slice aE FJ aU) (.slice iK FI aV) w8);have A_:=DM;unfold y6 at A_;rw [A_];have sG:WAt F ww d (k+1) l n H b' (e'++owns env t'.args ss) (⟨v,ss,y,no,env⟩::st) bs bv aE iK FJ aU FI aV (.slice a8 (e'.length+(owns env t'.args ss).length) c8) (.slice a7 (st.length+1) c7) w W9:=by
         have rX:=tZ.out.2.2.2.2;have tg:=H2.out.2.2.1.size;have ig:=H3.out.2.2.1;have sh:But (fun i=>i=w.heap.size) w8 W9:=by rw [<- DM];exact x8 (But.refl _ _) rfl
         have og:But (fun i=>i=ww\/i=w.heap.size) W2 W9:=(((But.ofBelow (m:=fun i=>i=ww\/i=w.heap.size) H3.out.2.1).trans (But.ofBelow (H7.out.2.1))).trans (But.ofBelow H8.out.1)).trans (sh.weak fun i _ h=>.inr h);have hz9:=og.size;have Ad:(owns env t'.args ss).length=t'.args.length:=wh _ _ HM.out.2.2.2.2.1;have se:=HM.out.2.2.2.2.2.2.2.2.1;have ly:=HM.out.2.2.2.2.2.2.2.2.2;have Cv:=rX.pre.ld;have Fj:=rX.pre.d20;have Hk:=rX.pre.stl;have kp:∀ (i:Nat) (ob:Obj),Fx F w 2 i->W2.heap[i]? = some ob->Fx F w 2 i/\W9.heap[i]? = some ob:=fun i ob hi ho=>by
          have hx:=Fx.low' rX.pre.hF hi (by omega);exact ⟨hi,by rw [og.block i (zZ ho) (fun e=>e.elim hx.1 hx.2)];exact ho⟩
         refine rX.move ((H2.out.2.2.1.weak fun i _ h=>.inl h).trans og) ?_ (by rw [<- DM];exact pJ H8.out.2.2) HM.out.2.2.2.2.2.1 (by rw [Ov,Ad];have:=se.2.1;have:=HM.out.2.2.2.2.1;omega) (by rw [OD];omega)
          (jg _ _ (qP (by omega) _ se.2.2) (wt (qP (by omega) _ rX.pre.ok) (by omega) _ _ (kQ se.1).1)) ⟨by show env.length<=_;omega,qP (by omega) _ rX.pre.ok,vg (by omega) _ rX.pre.okg⟩
          ⟨ly.1,jp _ _ ly.2 (wR rX.pre.wf.2.1 _ _ rX.pre.wf.1.1),fun f hf=>?_⟩ ((Rep.keep kp).2 _ _ HM.out.2.2.1) ?_ ?_
         ·have h:=H2.out.2.1;unfold Wri at *;rw [sh.block ww (by omega) (by show ww≠w.heap.size;omega),H8.out.1.block ww (by omega),H7.out.2.1.block ww (by omega),H3.out.2.1.block ww (by omega),h,Io.out]
         ·rw [OU] at hf;rcases OX.1 hf with rfl | hf
          ·exact ⟨rX.pre.wf.1.2.1,rX.pre.wf.1.2.2,rX.pre.wf.2.1⟩
          ·exact rX.pre.wf.2.2 f hf
         ·rw [Ov];refine (Rep.keep fun i ob hi ho=>?_).1 _ _ H8.out.2.1;have hx:Fx F w 2 i:=by
           rcases hi with h | h
           ·exact h
           ·exact .inr (by omega)
          exact ⟨hx,by rw [sh.block i (zZ ho) (Fx.low' rX.pre.hF hx (by omega)).2];exact ho⟩
         ·rw [OD];refine (H7.out.1.keep (w':=W9) fun g o hg ho=>?_).rep (fun g hg=>.inr (by have:=H7.out.2.2 g hg;omega)) ?_
          ·have h1:=H7.out.2.2 g hg;have h2:=zZ ho;rw [sh.block g (by omega) (by omega),H8.out.1.block g h2];exact ho
          ·rw [yC];refine zW.append ((Rep.keep kp).2 _ _ HM.out.2.2.2.2.2.2.1) ?_;rw [encF];exact zW.append ((Rep.keep kp).2 _ _ oh.out.1) (zQ.2 ⟨_,_,rfl,(Rep.keep kp).1 _ _ oh.out.2.1,zQ.2 ⟨_,_,rfl,zH.2 rfl,zC.2 rfl⟩⟩)
        have DN:R=evN d (k+1) l b' (e'++owns env t'.args ss) n (QI WFr.gf (⟨v,ss,y,no,env⟩::st)):=by
         rw [tZ.out.2.1,evN_bd HM.out.1];rfl
        have HN:=n7 (n8 sG (n8 DN sG.pre.wri));clear sG DN A_ DM p1 p2 p3 p4 d0 d1 d2 d3 f0 f1 f2 f3;go_wp2_with fail
        go_roundw
        case rel=>exact ⟨d,l,b',_,_,_,_,_,_,_,_,_,_,by have:=tZ.out.1;omega,HN.out.2.1,HN.out.1⟩
        case measure =>
         rw [tZ.out.2.2.1];refine Qk (PL (wi HN.out.2.2)) ?_;omega
theorem write_any (d:Nat):pU d:=by
 induction d using Nat.strongRecOn with
 | _ d ih=>exact write_step d ih
def jK (F:Nat->Prop) (o:Option Bd) (w:World) (en:Ending) (w':World):Prop :=
 ∃ s v a1 n1 c1 a2 n2 c2,en=.returned (.tuple #[.agg #[str s,.int .i64 v,.slice a1 n1 c1,.slice a2 n2 c2],.bool o.isSome])/\Below w.heap.size w w' /\
   ∀ x,o=some x->zW (fun i=>F i\/w.heap.size<=i) w' (kx x) [str s,.int .i64 v,.slice a1 n1 c1,.slice a2 n2 c2]
theorem jK.drew {F:Nat->Prop} {o:Option Bd} {w w':World} {en:Ending} (h:jK F o w en w'):jK F o w en w'.drew:=by
 obtain ⟨s,v,a1,n1,c1,a2,n2,c2,e,hb,hr⟩:=h;exact ⟨s,v,a1,n1,c1,a2,n2,c2,e,Below.drew hb,fun x hx=>(hr x hx).drew⟩
structure SAppPre (F:Nat->Prop) (t a:Ty) (rest bs:List Ty) (m n:Bd) (tv bv:Value) (ms ns:Bs) (mv nv:Int) (Dr Dq tQ sO:Option Addr) (Dn Dp Dm Do tp tK tz sI:Nat) (w:World):Prop where
 ts:t.args=a::rest
 t15:zJ t<=15
 bl:bs.length<=100
 b15:∀ t∈bs,zJ t<=15
 fit:ji (bs++rest) m (zq bs a n rest) []
 wm:wfB m
 wn:wfB n
 rt:Rep F w (k9 t) tv
 rm:zW F w (kx m) [str ms,.int .i64 mv,.slice Dr Dn Dp,.slice Dq Dm Do]
 rn:zW F w (kx n) [str ns,.int .i64 nv,.slice tQ tp tK,.slice sO tz sI]
 rb:Rep F w (.sl 42 1 bs.length (qI bs)) bv
 hF:∀ i,F i->i<w.heap.size
theorem l4Apply_any (F:Nat->Prop) (t a:Ty) (rest bs:List Ty) (m n:Bd) (tv bv:Value) (ms ns:Bs) (mv nv:Int) (Dr Dq tQ sO:Option Addr) (Dn Dp Dm Do tp tK tz sI:Nat) (w:World) (h:SAppPre F t a rest bs m n tv bv ms ns mv nv Dr Dq tQ sO Dn Dp Dm Do tp tK tz sI w) :
 Calls No 39 #[.agg #[tv],.agg #[str ms,.int .i64 mv,.slice Dr Dn Dp,.slice Dq Dm Do],.agg #[str ns,.int .i64 nv,.slice tQ tp tK,.slice sO tz sI],bv] w
  (jK F (yR m (zq bs a n rest) (bs.length+rest.length)) w):=by
 have sM:=h.rt;rw [jQ] at sM;obtain ⟨ta,tc,e,Hj,_,lK⟩:=zP sM;subst e;rw [h.ts] at sM Hj lK;obtain ⟨kb,ko,u,d1,e,hkF,aQ,CQ,DB,tq⟩:=lK 0 (by simp);subst e;simp only [qI,List.getElem?_cons_zero,Oz] at CQ;subst CQ;obtain ⟨ua,uc,rfl⟩:=kP tq;obtain ⟨ba,bc,ebv,_⟩:=zP h.rb;subst ebv;have JI:=h.bl;have hFw:=h.hF;have hlen:t.args.length=rest.length+1:=by rw [h.ts];rfl
 rw [hlen];have rR:=kQ h.t15;have Hr:rest.length<=15:=by have:=rR.2;omega
 have MC:w.cell? ⟨kb,ko,none⟩=some (.slice ua a.args.length uc):=DB;obtain ⟨W,hW⟩:=zzN (((((w.alloc (.cells #[.slice (some ⟨kb,ko,none⟩) (rest.length+1) tc] 42)).alloc (.cells #[str ms,.int .i64 mv,.slice Dr Dn Dp,.slice Dq Dm Do] 47)).alloc (.cells #[str ns,.int .i64 nv,.slice tQ tp tK,.slice sO tz sI] 47)).alloc (.cells #[str [],.int .i64 0,.slice none 0 0,.slice none 0 0] 47)).alloc (.cells #[.int .i64 200,.int .i64 0] 130));have iE:W.heap.size=w.heap.size+5:=by rw [<- hW];simp only [zK]
 have rF:Below w.heap.size w W:=by rw [<- hW];exact (((((rZ _ _).alloc (n9 _) _).alloc (by simp only [zK];omega) _).alloc (by simp only [zK];omega) _).alloc (by simp only [zK];omega) _).alloc (by simp only [zK];omega) _
 have bT:W.heap[w.heap.size]? = some (.cells #[.slice (some ⟨kb,ko,none⟩) (rest.length+1) tc] 42 (0,0)):=by rw [<- hW];exact zY (zY (zY (zY (zG _ _))))
 have bM:W.heap[w.heap.size+1]? = some (.cells #[str ms,.int .i64 mv,.slice Dr Dn Dp,.slice Dq Dm Do] 47 (0,0)):=by
  rw [<- hW];refine zY (zY (zY ?_));have:=zG (w.alloc (.cells #[.slice (some ⟨kb,ko,none⟩) (rest.length+1) tc] 42)) (.cells #[str ms,.int .i64 mv,.slice Dr Dn Dp,.slice Dq Dm Do] 47);rwa [zK] at this
 have bN:W.heap[w.heap.size+2]? = some (.cells #[str ns,.int .i64 nv,.slice tQ tp tK,.slice sO tz sI] 47 (0,0)):=by
  rw [<- hW];refine zY (zY ?_);have:=zG ((w.alloc (.cells #[.slice (some ⟨kb,ko,none⟩) (rest.length+1) tc] 42)).alloc (.cells #[str ms,.int .i64 mv,.slice Dr Dn Dp,.slice Dq Dm Do] 47)) (.cells #[str ns,.int .i64 nv,.slice tQ tp tK,.slice sO tz sI] 47);simpa only [zK] using this
 have bR:kU (w.heap.size+3) 0 (.slice none 0 0) (.slice none 0 0) W:=by
  unfold kU;rw [<- hW];refine zY ?_;have:=zG (((w.alloc (.cells #[.slice (some ⟨kb,ko,none⟩) (rest.length+1) tc] 42)).alloc (.cells #[str ms,.int .i64 mv,.slice Dr Dn Dp,.slice Dq Dm Do] 47)).alloc (.cells #[str ns,.int .i64 nv,.slice tQ tp tK,.slice sO tz sI] 47)) (.cells #[str [],.int .i64 0,.slice none 0 0,.slice none 0 0] 47);simpa only [zK] using this
 have bW:Wri W (w.heap.size+4) 200 0:=by
  unfold Wri;rw [<- hW];have:=zG ((((w.alloc (.cells #[.slice (some ⟨kb,ko,none⟩) (rest.length+1) tc] 42)).alloc (.cells #[str ms,.int .i64 mv,.slice Dr Dn Dp,.slice Dq Dm Do] 47)).alloc (.cells #[str ns,.int .i64 nv,.slice tQ tp tK,.slice sO tz sI] 47)).alloc (.cells #[str [],.int .i64 0,.slice none 0 0,.slice none 0 0] 47)) (.cells #[.int .i64 200,.int .i64 0] 130);simpa only [zK] using this
 have C1:=gj F 0 bs _ W (Rep.below rF (fun _ h=>h) h.rb) (by omega) (by omega);rw [show ((0:Nat):Int)=0 from rfl] at C1;have C1:=n7 C1;have HP:=n7 h;have HFw:=n7 hFw;clear hFw;have HT:=n7 (n8 sM (n8 tq (n8 Hj (n8 rR hlen))));have HW:=n7 (n8 hW (n8 iE (n8 rF (n8 bT (n8 bM (n8 bN (n8 bR bW)))))));clear h sM tq Hj rR hlen lK hW iE rF bT bM bN bR bW DB;go_enter Tryz.func39,Tryz.ntmps39;go_upto_region 2 with (fail)
 rw [HW.out.1];go_wp2_with fail
 (with_reducible refine C1.out.mono ?_)
 rintro en w1 ⟨oa,oc,oxs,rfl,Ku,tX,rW,MX⟩;have iE:=HW.out.2.1;have Am:=rW.size;have b1:=fun {i:Nat} {o:Obj} (hi:i<W.heap.size) (h:W.heap[i]? = some o)=>(rW.block i hi).trans h;have bT1:=b1 (by omega) HW.out.2.2.2.1;have bN1:=b1 (by omega) HW.out.2.2.2.2.2.1;obtain ⟨n0,n1,n2,n3⟩:=kR bN1;have t0:w1.cell? ⟨w.heap.size,0,none⟩=some (.slice (some ⟨kb,ko,none⟩) (rest.length+1) tc):=by simp [Li,bT1]
 have k1:w1.cell? ⟨kb,ko,none⟩=some (.slice ua a.args.length uc):=(rW.cell (by show kb<W.heap.size;omega)).trans ((HW.out.2.2.1.cell aQ).trans MC)
 have SX:Hid (∀ w',Below w1.heap.size w1 w'->w'.cell? ⟨w.heap.size+2,0,none⟩=some (str ns)/\w'.cell? ⟨w.heap.size+2,1,none⟩=some (.int .i64 nv)/\w'.cell? ⟨w.heap.size+2,2,none⟩=some (.slice tQ tp tK)/\w'.cell? ⟨w.heap.size+2,3,none⟩=some (.slice sO tz sI) /\
  w'.cell? ⟨w.heap.size,0,none⟩=some (.slice (some ⟨kb,ko,none⟩) (rest.length+1) tc)/\w'.cell? ⟨kb,ko,none⟩=some (.slice ua a.args.length uc)):=by
  show ∀ w',_->_;intro w' rS;exact ⟨(rS.cell (n_ _ _ n0)).trans n0,(rS.cell (n_ _ _ n1)).trans n1,(rS.cell (n_ _ _ n2)).trans n2,(rS.cell (n_ _ _ n3)).trans n3,(rS.cell (n_ _ _ t0)).trans t0,(rS.cell (n_ _ _ k1)).trans k1⟩
 have H1:=n7 (n8 Ku (n8 tX (n8 rW MX)));clear Ku tX rW MX b1 bT1 bN1 n0 n1 n2 n3 t0 k1 MC C1;go_wp2_with fail
 refine wp_region_noPanic ?_;refine zB (fun w'=>Below w1.heap.size w1 w') (fun _=>false) (by kernel_rfl) ?_;have rU:Below w1.heap.size w1 w1.drew:=Below.drew (rZ _ _);refine tk [0,1,2,3,4,5,6] rU ?_
 (intro d hd;simp [tkD] at hd;subst hd;simp only [tks,pQ,pZ,pS])
 iterate 7 (refine ⟨?_,?_,?_⟩;rotate_left;· (intro oi ho;simp at ho;subst ho;refine OO ⟨by rfl,fun w' rB=>?_⟩;obtain ⟨e0,e1,e2,e3,e4,e5⟩:=SX.out w' rB;go_simp;try with_reducible rfl))
 (refine on 7 ?_;intro o ho K' hK;simp at ho;subst ho;go_simp)
 (refine hK.out _ _ (fun _=>rU.alloc (n9 _) _) ?_;clear hK K';try simp only [pQ,pN,pZ,pS])
 (refine on 8 ?_;intro o ho K' hK;simp at ho;subst ho;go_simp)
 (refine hK.out _ _ (fun _=>rU.alloc (n9 _) _) ?_;clear hK K';try simp only [pQ,pN,pZ,pS])
 refine zX (by kernel_rfl) (Oy ?_) _;obtain ⟨W2,sC⟩:=zzN ((w1.alloc (.cells #[.int .i64 (-1),.string ⟨ns.toArray⟩,.int .i64 nv,.slice tQ tp tK,.slice sO tz sI,.slice ua a.args.length uc,.slice oa bs.length oc,.int .i64 0,.int .i64 0] 134)).drew);rw [sC];have rY:Below w1.heap.size w1 W2:=by rw [<- sC];exact Below.drew ((rZ _ _).alloc (n9 _) _)
 have tg:W2.heap.size=w1.heap.size+1:=by rw [<- sC];exact zK _ _
 have FF:W2.heap[w1.heap.size]? = some (.cells #[.int .i64 (-1),str ns,.int .i64 nv,.slice tQ tp tK,.slice sO tz sI,.slice ua a.args.length uc,.slice oa bs.length oc,.int .i64 0,.int .i64 0] 134 (0,0)):=by rw [<- sC];exact zG _ _
 have SY:Hid (∀ w',Below W2.heap.size W2 w'->w'.cell? ⟨w1.heap.size,0,none⟩=some (.int .i64 (-1))/\w'.cell? ⟨w1.heap.size,1,none⟩=some (str ns)/\w'.cell? ⟨w1.heap.size,2,none⟩=some (.int .i64 nv)/\w'.cell? ⟨w1.heap.size,3,none⟩=some (.slice tQ tp tK)/\w'.cell? ⟨w1.heap.size,4,none⟩=some (.slice sO tz sI) /\
  w'.cell? ⟨w1.heap.size,5,none⟩=some (.slice ua a.args.length uc)/\w'.cell? ⟨w1.heap.size,6,none⟩=some (.slice oa bs.length oc)/\w'.cell? ⟨w1.heap.size,7,none⟩=some (.int .i64 0)/\w'.cell? ⟨w1.heap.size,8,none⟩=some (.int .i64 0)):=by
  show ∀ w',_->_;intro w' rS;have h:=(rS.block w1.heap.size (by omega)).trans FF;simp [Li,h]
 have Hm:zu 9 (.slice oa bs.length oc) bs.length oxs w1:=H1.out.1.src (vw _ _ H1.out.2.1);have SRC:Hid (∀ w',Below W2.heap.size W2 w'->zu 9 (.slice oa bs.length oc) bs.length oxs w'):=by
  show ∀ w',_->_;intro w' rS;exact (Hm.belowAll rY (n9 _)).belowAll rS (n9 _)
 have H2:=n7 (n8 rY (n8 tg FF));clear sC rY FF Hm rU tg iE Am;go_wp2_with fail
 refine jb (X:=Nat×Nat×Option Addr×Nat×Option Addr×Nat) (fun ac x=>(((((((ac.put (some 29) (.slice (some ⟨x.1,0,none⟩) 0 0)).put (some 30) (.slice oa bs.length oc)).put (some 31) (.slice x.2.2.1 (bs.length) x.2.2.2.1)).put (some 32) (.agg #[.int .i64 (-1),str ns,.int .i64 nv,.slice tQ tp tK,.slice sO tz sI,.slice ua a.args.length uc,.slice oa bs.length oc,.int .i64 0,.int .i64 0])).put (some 33) (.slice (some ⟨x.2.1,0,none⟩) 1 1)).put (some 34) (.slice x.2.2.2.2.1 (bs.length+1) x.2.2.2.2.2)).put (some 14) (.slice x.2.2.2.2.1 (bs.length+1) x.2.2.2.2.2))) (fun x w7=>Own w7 134 9 (.slice x.2.2.2.2.1 (bs.length+1) x.2.2.2.2.2) (bs.length+1) (oxs++[.int .i64 (-1),str ns,.int .i64 nv,.slice tQ tp tK,.slice sO tz sI,.slice ua a.args.length uc,.slice oa bs.length oc,.int .i64 0,.int .i64 0])/\Below W2.heap.size W2 w7/\∀ g,(Ox x.2.2.2.2.1 (bs.length+1) x.2.2.2.2.2).ownBlock=some g->W2.heap.size<=g) ?_ ?_
 ·refine wp_region_noPanic ?_;refine zB (fun w'=>Below W2.heap.size W2 w') (fun _=>false) (by kernel_rfl) ?_;have rU:Below W2.heap.size W2 W2.drew:=Below.drew (rZ _ _);refine tk [1,3] rU ?_;(intro d hd;simp [tkD] at hd;subst hd;simp only [tks,pQ,pZ,pS]);iterate 2 (refine ⟨?_,?_,?_⟩;rotate_left;· (intro oi ho;simp at ho;subst ho;refine OO ⟨by rfl,fun w' rB=>?_⟩;obtain ⟨e0,e1,e2,e3,e4,e5,e6,e7,e8⟩:=SY.out w' rB;go_simp;try with_reducible rfl))
  refine qX 0 4 (by kernel_rfl) ?_ ?_
  ·(intro o0 ho K' hK;simp at ho;subst ho);go_simp
   (refine hK.out _ _ (fun _=>(rU.alloc (n9 _) (.cells #[] 134))) ?_;clear hK K';try simp only [pQ,pN,pZ,pS]);refine qX 2 4 (by kernel_rfl) ?_ ?_
   focus
    (intro o2 ho K' hK;simp at ho;subst ho);refine zI (by rfl) _ _ _ (by rfl) 134 (.agg #[.int .i64 0,str [],.int .i64 0,.slice none 0 0,.slice none 0 0,.slice none 0 0,.slice none 0 0,.int .i64 0,.int .i64 0]) 9 144 Pm Tryz.infoBo rfl (by decide) (.slice (some ⟨W2.heap.size,0,none⟩) 0 0) 0 [] (by rfl) (Own.litAt #[] 0 _ rfl (by decide) rfl) _ bs.length oxs (by rfl) (SRC.out _ (rU.alloc (n9 _) (.cells #[] 134))) (by unfold maxLen;omega) (by omega) ?_
    intro a5 c5 w5 i1 rx i6;simp only [PW,OW] at i1 i6 ⊢;have t_:Below W2.heap.size W2 w5:=(rU.alloc (n9 _) (.cells #[] 134)).trans (rx.toBelow ((rU.alloc (n9 _) (.cells #[] 134))).size fun i hi e=>by simp [OG] at e;omega);have AO:Hid (∀ g,(Ox a5 (bs.length) c5).ownBlock=some g->W2.heap.size<=g):=fun g hg=>by rcases i6 g hg with h | h;simp [OG] at h;omega;have h:g=W2.heap.size+1:=h.trans (zK _ _);omega
    (refine hK.out _ _ (fun _=>t_) ?_;clear hK K';try simp only [pQ,pN,pZ,pS]);(refine on 4 ?_;intro o ho K' hK;simp at ho;subst ho;go_simp);(refine hK.out _ _ (fun _=>t_.alloc t_.size _) ?_;clear hK K';try simp only [pQ,pN,pZ,pS]);(refine on 5 ?_;intro o ho K' hK;simp at ho;subst ho);refine zI (by rfl) _ _ _ (by rfl) 134 (.agg #[.int .i64 0,str [],.int .i64 0,.slice none 0 0,.slice none 0 0,.slice none 0 0,.slice none 0 0,.int .i64 0,.int .i64 0]) 9 144 Pm Tryz.infoBo rfl (by decide) (.slice a5 (bs.length) c5) (bs.length) oxs (by rfl) (i1.alloc _) _ 1 [.int .i64 (-1),str ns,.int .i64 nv,.slice tQ tp tK,.slice sO tz sI,.slice ua a.args.length uc,.slice oa bs.length oc,.int .i64 0,.int .i64 0] (by rfl) (zu.lit1 #[.int .i64 (-1),str ns,.int .i64 nv,.slice tQ tp tK,.slice sO tz sI,.slice ua a.args.length uc,.slice oa bs.length oc,.int .i64 0,.int .i64 0] rfl (by simp [str,OR]) _ (by rfl)) (by unfold maxLen;omega) (by omega) ?_
    intro a7 c7 w7 r_ rP rL;have tI:Below W2.heap.size W2 w7:=(t_.alloc t_.size (.cells #[.int .i64 (-1),str ns,.int .i64 nv,.slice tQ tp tK,.slice sO tz sI,.slice ua a.args.length uc,.slice oa bs.length oc,.int .i64 0,.int .i64 0] 134)).trans (rP.toBelow ((t_.alloc t_.size (.cells #[.int .i64 (-1),str ns,.int .i64 nv,.slice tQ tp tK,.slice sO tz sI,.slice ua a.args.length uc,.slice oa bs.length oc,.int .i64 0,.int .i64 0] 134))).size fun i hi e=>by have:=AO.out i e;omega);have tf:∀ g,(Ox a7 (bs.length+1) c7).ownBlock=some g->W2.heap.size<=g:=fun g hg=>by rcases rL g hg with h | h;exact AO.out g h;exact rJ ((t_.alloc t_.size (.cells #[.int .i64 (-1),str ns,.int .i64 nv,.slice tQ tp tK,.slice sO tz sI,.slice ua a.args.length uc,.slice oa bs.length oc,.int .i64 0,.int .i64 0] 134))).size (PL h.symm)
   rotate_left
   focus
    (intro o4 ho K' hK;simp at ho;subst ho);go_simp
    refine hK.out _ _ (fun _=>?_) ?_
    ·exact ((rU.alloc (n9 _) (.cells #[] 134)).alloc (by rw [zK];exact Pu _) (.cells #[.int .i64 (-1),str ns,.int .i64 nv,.slice tQ tp tK,.slice sO tz sI,.slice ua a.args.length uc,.slice oa bs.length oc,.int .i64 0,.int .i64 0] 134))
    clear hK K';(try simp only [pQ,pN,pZ,pS]);(refine on 2 ?_;intro o ho K' hK;simp at ho;subst ho);refine zI (by rfl) _ _ _ (by rfl) 134 (.agg #[.int .i64 0,str [],.int .i64 0,.slice none 0 0,.slice none 0 0,.slice none 0 0,.slice none 0 0,.int .i64 0,.int .i64 0]) 9 144 Pm Tryz.infoBo rfl (by decide) (.slice (some ⟨W2.heap.size,0,none⟩) 0 0) 0 [] (by rfl) ((Own.litAt #[] 0 _ rfl (by decide) rfl).alloc _) _ bs.length oxs (by rfl) (SRC.out _ ((rU.alloc (n9 _) (.cells #[] 134)).alloc (by rw [zK];exact Pu _) (.cells #[.int .i64 (-1),str ns,.int .i64 nv,.slice tQ tp tK,.slice sO tz sI,.slice ua a.args.length uc,.slice oa bs.length oc,.int .i64 0,.int .i64 0] 134))) (by unfold maxLen;omega) (by omega) ?_;intro a5 c5 w5 i1 rx i6;simp only [PW,OW] at i1 i6 ⊢;have t_:Below W2.heap.size W2 w5:=((rU.alloc (n9 _) (.cells #[] 134)).alloc (by rw [zK];exact Pu _) (.cells #[.int .i64 (-1),str ns,.int .i64 nv,.slice tQ tp tK,.slice sO tz sI,.slice ua a.args.length uc,.slice oa bs.length oc,.int .i64 0,.int .i64 0] 134)).trans (rx.toBelow (((rU.alloc (n9 _) (.cells #[] 134)).alloc (by rw [zK];exact Pu _) (.cells #[.int .i64 (-1),str ns,.int .i64 nv,.slice tQ tp tK,.slice sO tz sI,.slice ua a.args.length uc,.slice oa bs.length oc,.int .i64 0,.int .i64 0] 134))).size fun i hi e=>by simp [OG] at e;omega);have AO:Hid (∀ g,(Ox a5 (bs.length) c5).ownBlock=some g->W2.heap.size<=g):=fun g hg=>by rcases i6 g hg with h | h;simp [OG] at h;omega;have h:g=W2.heap.size+1+1:=h.trans (wJ W2 _ _);omega
    have JS:zu 9 (.slice (some ⟨W2.heap.size+1,0,none⟩) 1 1) 1 #[.int .i64 (-1),str ns,.int .i64 nv,.slice tQ tp tK,.slice sO tz sI,.slice ua a.args.length uc,.slice oa bs.length oc,.int .i64 0,.int .i64 0].toList w5:=(zu.lit1 #[.int .i64 (-1),str ns,.int .i64 nv,.slice tQ tp tK,.slice sO tz sI,.slice ua a.args.length uc,.slice oa bs.length oc,.int .i64 0,.int .i64 0] rfl (by simp [str,OR]) _ (by simp):zu 9 (.slice (some ⟨W2.heap.size+1,0,none⟩) 1 1) 1 #[.int .i64 (-1),str ns,.int .i64 nv,.slice tQ tp tK,.slice sO tz sI,.slice ua a.args.length uc,.slice oa bs.length oc,.int .i64 0,.int .i64 0].toList ((W2.drew.alloc (.cells #[] 134)).alloc (.cells #[.int .i64 (-1),str ns,.int .i64 nv,.slice tQ tp tK,.slice sO tz sI,.slice ua a.args.length uc,.slice oa bs.length oc,.int .i64 0,.int .i64 0] 134))).thru rx (fun e=>by simp [OG] at e);(refine hK.out _ _ (fun _=>t_) ?_;clear hK K';try simp only [pQ,pN,pZ,pS]);(refine on 5 ?_;intro o ho K' hK;simp at ho;subst ho);refine zI (by rfl) _ _ _ (by rfl) 134 (.agg #[.int .i64 0,str [],.int .i64 0,.slice none 0 0,.slice none 0 0,.slice none 0 0,.slice none 0 0,.int .i64 0,.int .i64 0]) 9 144 Pm Tryz.infoBo rfl (by decide) (.slice a5 (bs.length) c5) (bs.length) oxs (by rfl) (i1) _ 1 [.int .i64 (-1),str ns,.int .i64 nv,.slice tQ tp tK,.slice sO tz sI,.slice ua a.args.length uc,.slice oa bs.length oc,.int .i64 0,.int .i64 0] (by rfl) (JS) (by unfold maxLen;omega) (by omega) ?_;intro a7 c7 w7 r_ rP rL;have tI:Below W2.heap.size W2 w7:=t_.trans (rP.toBelow (t_).size fun i hi e=>by have:=AO.out i e;omega);have tf:∀ g,(Ox a7 (bs.length+1) c7).ownBlock=some g->W2.heap.size<=g:=fun g hg=>by rcases rL g hg with h | h;exact AO.out g h;exact rJ (t_).size (PL h.symm)
   all_goals
    (refine hK.out _ _ (fun _=>tI) ?_;clear hK K';try simp only [pQ,pN,pZ,pS]);(refine on 6 ?_;intro o ho K' hK;simp at ho;subst ho;go_simp);(refine hK.out _ _ (fun _=>tI) ?_;clear hK K';try simp only [pQ,pN,pZ,pS]);refine zX (by kernel_rfl) (Oy ?_) _
    clear rx i6 i1 rP rL t_ rU AO;exact ⟨rfl,⟨_,_,a5,c5,a7,c7⟩,by rfl,r_,tI,tf⟩
  ·(intro o4 ho K' hK;simp at ho;subst ho);go_simp
   (refine hK.out _ _ (fun _=>(rU.alloc (n9 _) (.cells #[.int .i64 (-1),str ns,.int .i64 nv,.slice tQ tp tK,.slice sO tz sI,.slice ua a.args.length uc,.slice oa bs.length oc,.int .i64 0,.int .i64 0] 134))) ?_;clear hK K';try simp only [pQ,pN,pZ,pS]);(refine on 0 ?_;intro o ho K' hK;simp at ho;subst ho;go_simp);refine hK.out _ _ (fun _=>?_) ?_
   ·exact ((rU.alloc (n9 _) (.cells #[.int .i64 (-1),str ns,.int .i64 nv,.slice tQ tp tK,.slice sO tz sI,.slice ua a.args.length uc,.slice oa bs.length oc,.int .i64 0,.int .i64 0] 134)).alloc (by rw [zK];exact Pu _) (.cells #[] 134))
   clear hK K';(try simp only [pQ,pN,pZ,pS]);(refine on 2 ?_;intro o ho K' hK;simp at ho;subst ho);refine zI (by rfl) _ _ _ (by rfl) 134 (.agg #[.int .i64 0,str [],.int .i64 0,.slice none 0 0,.slice none 0 0,.slice none 0 0,.slice none 0 0,.int .i64 0,.int .i64 0]) 9 144 Pm Tryz.infoBo rfl (by decide) (.slice (some ⟨W2.heap.size+1,0,none⟩) 0 0) 0 [] (by rfl) (Own.litAt #[] 0 _ (by simp) (by decide) rfl) _ bs.length oxs (by rfl) (SRC.out _ ((rU.alloc (n9 _) (.cells #[.int .i64 (-1),str ns,.int .i64 nv,.slice tQ tp tK,.slice sO tz sI,.slice ua a.args.length uc,.slice oa bs.length oc,.int .i64 0,.int .i64 0] 134)).alloc (by rw [zK];exact Pu _) (.cells #[] 134))) (by unfold maxLen;omega) (by omega) ?_;intro a5 c5 w5 i1 rx i6;simp only [PW,OW] at i1 i6 ⊢;have t_:Below W2.heap.size W2 w5:=((rU.alloc (n9 _) (.cells #[.int .i64 (-1),str ns,.int .i64 nv,.slice tQ tp tK,.slice sO tz sI,.slice ua a.args.length uc,.slice oa bs.length oc,.int .i64 0,.int .i64 0] 134)).alloc (by rw [zK];exact Pu _) (.cells #[] 134)).trans (rx.toBelow (((rU.alloc (n9 _) (.cells #[.int .i64 (-1),str ns,.int .i64 nv,.slice tQ tp tK,.slice sO tz sI,.slice ua a.args.length uc,.slice oa bs.length oc,.int .i64 0,.int .i64 0] 134)).alloc (by rw [zK];exact Pu _) (.cells #[] 134))).size fun i hi e=>by simp [OG] at e;omega);have AO:Hid (∀ g,(Ox a5 (bs.length) c5).ownBlock=some g->W2.heap.size<=g):=fun g hg=>by rcases i6 g hg with h | h;simp [OG] at h;omega;have h:g=W2.heap.size+1+1:=h.trans (wJ W2 _ _);omega
   have JS:zu 9 (.slice (some ⟨W2.heap.size,0,none⟩) 1 1) 1 #[.int .i64 (-1),str ns,.int .i64 nv,.slice tQ tp tK,.slice sO tz sI,.slice ua a.args.length uc,.slice oa bs.length oc,.int .i64 0,.int .i64 0].toList w5:=((zu.lit1 #[.int .i64 (-1),str ns,.int .i64 nv,.slice tQ tp tK,.slice sO tz sI,.slice ua a.args.length uc,.slice oa bs.length oc,.int .i64 0,.int .i64 0] rfl (by simp [str,OR]) _ (by simp):zu 9 (.slice (some ⟨W2.heap.size,0,none⟩) 1 1) 1 #[.int .i64 (-1),str ns,.int .i64 nv,.slice tQ tp tK,.slice sO tz sI,.slice ua a.args.length uc,.slice oa bs.length oc,.int .i64 0,.int .i64 0].toList (W2.drew.alloc (.cells #[.int .i64 (-1),str ns,.int .i64 nv,.slice tQ tp tK,.slice sO tz sI,.slice ua a.args.length uc,.slice oa bs.length oc,.int .i64 0,.int .i64 0] 134))).alloc (.cells #[] 134)).thru rx (fun e=>by simp [OG] at e);(refine hK.out _ _ (fun _=>t_) ?_;clear hK K';try simp only [pQ,pN,pZ,pS]);(refine on 5 ?_;intro o ho K' hK;simp at ho;subst ho);refine zI (by rfl) _ _ _ (by rfl) 134 (.agg #[.int .i64 0,str [],.int .i64 0,.slice none 0 0,.slice none 0 0,.slice none 0 0,.slice none 0 0,.int .i64 0,.int .i64 0]) 9 144 Pm Tryz.infoBo rfl (by decide) (.slice a5 (bs.length) c5) (bs.length) oxs (by rfl) (i1) _ 1 [.int .i64 (-1),str ns,.int .i64 nv,.slice tQ tp tK,.slice sO tz sI,.slice ua a.args.length uc,.slice oa bs.length oc,.int .i64 0,.int .i64 0] (by rfl) (JS) (by unfold maxLen;omega) (by omega) ?_;intro a7 c7 w7 r_ rP rL;have tI:Below W2.heap.size W2 w7:=t_.trans (rP.toBelow (t_).size fun i hi e=>by have:=AO.out i e;omega);have tf:∀ g,(Ox a7 (bs.length+1) c7).ownBlock=some g->W2.heap.size<=g:=fun g hg=>by rcases rL g hg with h | h;exact AO.out g h;exact rJ (t_).size (PL h.symm)
   (refine hK.out _ _ (fun _=>tI) ?_;clear hK K';try simp only [pQ,pN,pZ,pS]);(refine on 6 ?_;intro o ho K' hK;simp at ho;subst ho;go_simp);(refine hK.out _ _ (fun _=>tI) ?_;clear hK K';try simp only [pQ,pN,pZ,pS]);refine zX (by kernel_rfl) (Oy ?_) _
   clear rx i6 i1 rP rL t_ rU AO;exact ⟨rfl,⟨_,_,a5,c5,a7,c7⟩,by rfl,r_,tI,tf⟩
 rintro ⟨gE,gL,a5,c5,a7,c7⟩ w7 ⟨r_,tI,tf⟩;simp only [pQ,pN,pZ,pS];have H7:=n7 (n8 r_ (n8 tI tf));clear r_ tI tf;have JL:Below w1.heap.size w1 w7:=H2.out.1.trans (H7.out.2.1.mono (by have:=H2.out.2.1;omega));have GN:Below W.heap.size W w7:=zzT H1.out.2.2.1 JL;have Da:Below w.heap.size w w7:=zzT HW.out.2.2.1 GN;have t7:w7.cell? ⟨w.heap.size,0,none⟩=some (.slice (some ⟨kb,ko,none⟩) (rest.length+1) tc):=by
  have h:=(GN.block w.heap.size (by have:=HW.out.2.1;omega)).trans HW.out.2.2.2.1;simp [Li,h]
 have GT:¬ tc=1->Rep F w7 (.sl 42 1 rest.length (qI rest)) (.slice (some ⟨kb,ko+1,none⟩) rest.length (tc-1)):=fun _=>Rep.below Da (fun _ h=>h) (ph (d:=k9 a) HT.out.1);have hT1:tc=1->rest=[]/\Rep F w7 (.sl 42 1 rest.length (qI rest)) (.slice (some ⟨kb,ko,none⟩) rest.length 0):=fun h=>by
  obtain rfl:rest=[]:=by
   have h1:=HT.out.2.2.1;rw [h] at h1;simp at h1;exact h1
  exact ⟨rfl,zh.2 ⟨by simp [qI],_,_,rfl,OS _,fun h=>by simp at h,.inl rfl⟩⟩
 have H8:=n7 (n8 JL (n8 GN Da));clear JL GN Da;by_cases I6:tc=1
 ·have NA:=(hT1 I6).2;subst I6;have htc0:(rest.length:Int)=0:=by have:=HT.out.2.2.1;simp at this;simp [this]
  clear hT1 GT;have C6:=n7 (gj F bs.length rest _ w7 NA (by omega) (by omega));clear NA;go_wp2_with fail
  (with_reducible refine C6.out.mono ?_);rintro en w8 ⟨a8,c8,K7,rfl,Ht,io,sP,iR⟩
  have E9:=H7.out.1.keep (w':=w8) fun g o hg hh=>by rw [sP.block g (zZ hh)];exact hh
  have Bz:=Ht.src (vw _ _ io);have HA:=n7 (n8 E9 (n8 Bz (n8 io sP)));clear E9 Bz Ht io sP iR;go_wp2_with (at_builtin;refine zM rfl _ _ 131 rfl 134 (.agg #[.int .i64 0,str [],.int .i64 0,.slice none 0 0,.slice none 0 0,.slice none 0 0,.slice none 0 0,.int .i64 0,.int .i64 0]) 9 144 Pm Tryz.infoBo rfl (by decide) (.slice a7 (bs.length+1) c7) (bs.length+1) _ rfl HA.out.1 _ rest.length K7 rfl HA.out.2.1 (by unfold maxLen;omega) (by omega) ?_)
  intro a9 c9 w9 L7 sh MJ;have Db:Below W2.heap.size W2 w9:=(zzT H7.out.2.1 HA.out.2.2.2).trans (sh.toBelow (by have:=H7.out.2.1.size;have:=HA.out.2.2.2.size;omega) fun i hi e=>by have:=H7.out.2.2 i e;omega);have Ff:∀ g,(Ox a9 (bs.length+1+rest.length) c9).ownBlock=some g->W2.heap.size<=g:=fun g hg=>by
   rcases MJ g hg with h | h
   ·exact H7.out.2.2 g h
   ·have:=H7.out.2.1.size;have:=HA.out.2.2.2.size;omega
  have ox:Below W.heap.size W w9:=H1.out.2.2.1.trans ((H2.out.1.trans (Db.mono (by have:=H2.out.2.1;omega))).mono H1.out.2.2.1.size);have iE:=HW.out.2.1;have Fe:∀ {i:Nat} {o:Obj},i<W.heap.size->W.heap[i]? = some o->w9.heap[i]? = some o:=fun hi h=>(ox.block _ hi).trans h;have N4:=Fe (by omega) HW.out.2.2.2.1;have N6:=Fe (by omega) HW.out.2.2.2.2.1;have N5:kU (w.heap.size+3) 0 (.slice none 0 0) (.slice none 0 0) w9:=Fe (by omega) HW.out.2.2.2.2.2.2.1;have N3:Wri w9 (w.heap.size+4) 200 0:=Fe (by omega) HW.out.2.2.2.2.2.2.2;obtain ⟨m0,m1,m2,m3⟩:=kR N6;have t9:w9.cell? ⟨w.heap.size,0,none⟩=some (.slice (some ⟨kb,ko,none⟩) (rest.length+1) 1):=by simp [Li,N4]
  have t9':(w9.alloc (.cells #[] 154)).cell? ⟨w.heap.size,0,none⟩=some (.slice (some ⟨kb,ko,none⟩) (rest.length+1) 1):=zV t9;have C_:Below w.heap.size w (w9.alloc (.cells #[] 154)):=(zzT HW.out.2.2.1 ox).alloc (by have:=ox.size;omega) _;have Co:zW (fun i=>(F i/\i<w.heap.size)\/w.heap.size+5<=i) w9 (qJ (zq bs a n rest)) (oxs++([.int .i64 (-1),str ns,.int .i64 nv,.slice tQ tp tK,.slice sO tz sI,.slice ua a.args.length uc,.slice oa bs.length oc,.int .i64 0,.int .i64 0]++K7)):=by
   have kw:∀ (i:Nat) (o:Obj),F i->w.heap[i]? = some o->((F i/\i<w.heap.size)\/w.heap.size+5<=i)/\w9.heap[i]? = some o:=fun i o hi ho=>⟨.inl ⟨hi,zZ ho⟩,by rw [ox.block i (by have:=zZ ho;omega),HW.out.2.2.1.block i (zZ ho)];exact ho⟩;have NS:∀ (i:Nat),i<w1.heap.size->w9.heap[i]? = w1.heap[i]?:=fun i hi=>by rw [Db.block i (by have:=H2.out.2.1;omega),H2.out.1.block i hi]
   have kf:∀ (i:Nat),F i->(F i/\i<w.heap.size)\/w.heap.size+5<=i:=fun i hi=>by
    rcases PT i w.heap.size with h | h
    ·exact .inl ⟨hi,h⟩
    ·exact .inr (by have:=HFw.out i hi;omega)
   have oS:zW (fun i=>(F i/\i<w.heap.size)\/w.heap.size+5<=i) w9 (qJ (opens 0 bs)) oxs:=(Rep.keep fun i o hi ho=>⟨kf i hi,by rw [NS i (zZ ho)];exact ho⟩).2 _ _ H1.out.2.1;unfold zq;rw [vu,qJ,dx];refine zW.append oS ?_;refine zW.append (vs:=[.int .i64 (-1),str ns,.int .i64 nv,.slice tQ tp tK,.slice sO tz sI,.slice ua a.args.length uc,.slice oa bs.length oc,.int .i64 0,.int .i64 0]) ?_ ?_
   ·refine zW.append (vs:=[.int .i64 (-1)]) (zW.one (zH.2 rfl)) (zW.append (ds:=kx n) (vs:=[str ns,.int .i64 nv,.slice tQ tp tK,.slice sO tz sI]) ((Rep.keep kw).2 _ _ HP.out.rn) ?_);refine zQ.2 ⟨_,_,rfl,(Rep.keep kw).1 _ _ HT.out.2.1,zQ.2 ⟨_,_,rfl,?_,zQ.2 ⟨_,_,rfl,zH.2 rfl,zQ.2 ⟨_,_,rfl,xK.2 ⟨_,rfl⟩,zC.2 rfl⟩⟩⟩⟩;rw [z_];refine (H1.out.1.keep (w':=w9) fun g o hg hh=>by rw [NS g (zZ hh)];exact hh).rep (fun g hg=>.inr (by have:=H1.out.2.2.2 g hg;omega)) oS
   ·refine (Rep.keep fun i o hi ho=>⟨kf i hi,?_⟩).2 _ _ HA.out.2.2.1;have hl:=zZ ho;rw [sh.block i hl (fun e=>?_)];exact ho;have:=H7.out.2.2 i e;have h1:=HFw.out i hi;have h2:=H2.out.1.size;have h3:=H1.out.2.2.1.size;omega
  have oA:(zq bs a n rest).length=bs.length+1+rest.length:=by unfold zq;simp [z_];omega
  have EZ:Rep (fun i=>(F i/\i<w.heap.size)\/w.heap.size+5<=i) (w9.alloc (.cells #[] 154)) (.sl 134 9 (zq bs a n rest).length (qJ (zq bs a n rest))) (.slice a9 (bs.length+1+rest.length) c9):=by
   rw [oA];refine (Rep.keep fun i o hi ho=>⟨hi,zY ho⟩).1 _ _ (L7.rep (fun g hg=>.inr ?_) Co);have:=Ff g hg;have h2:=H2.out.1.size;have h3:=H1.out.2.2.1.size;omega
  have EV:zW (fun i=>(F i/\i<w.heap.size)\/w.heap.size+5<=i) (w9.alloc (.cells #[] 154)) (kx m) [str ms,.int .i64 mv,.slice Dr Dn Dp,.slice Dq Dm Do] :=
   (Rep.keep fun i o hi ho=>⟨.inl ⟨hi,zZ ho⟩,by rw [C_.block i (zZ ho)];exact ho⟩).2 _ _ HP.out.rm
  have iL:=HT.out.2.2.2.1;have oM:∀ x∈rest,zJ x<=15:=fun x hx=>iL.1 x (by rw [HP.out.ts];simp [hx]);have tL:zJ a<=15:=iL.1 a (by rw [HP.out.ts];simp);have Lw:Wri (w9.alloc (.cells #[] 154)) (w.heap.size+4) ((200:Nat):Int) (20000-((20000:Nat):Int)):=zY N3
  have C7:=write_any 20000 (fun i=>(F i/\i<w.heap.size)\/w.heap.size+5<=i) (w.heap.size+4) 200 20000 (bs.length+rest.length) (bs++rest) m (zq bs a n rest) [] ms mv Dr Dq Dn Dp Dm Do (.slice a9 (bs.length+1+rest.length) c9) (.slice (some ⟨w9.heap.size,0,none⟩) 0 0) (w9.alloc (.cells #[] 154))
   { wri:=Lw,hF:=fun i hi=>(by
    rcases hi with h | h
    ·have:=h.2;omega
    ·omega),ld:=n9 _,d20:=n9 _,k200:=n9 _,fit:=HP.out.fit,hn:=by simp,el:=by rw [oA];omega,nl:=by omega,stl:=by simp,
     ok:=jg _ _ (jk _ _ HP.out.b15 (by omega)) ⟨by rw [okM];exact ⟨tL,by rw [z_];omega,jk _ _ HP.out.b15 (by omega)⟩,jk _ _ oM (by omega)⟩,okg:=trivial,
     wf:=⟨HP.out.wm,jp _ _ (jz _ _) ⟨⟨HP.out.wn,jz _ _⟩,jz _ _⟩,by simp⟩,rb:=EV,re:=EZ,rs:=zh.2 ⟨by simp [yC],_,_,rfl,n9 _,fun h=>by simp at h,.inl rfl⟩ }
  rw [show ((bs.length+rest.length:Nat):Int)=(bs.length:Int) from by omega,show w.heap.size+4=w.heap.size+1+1+1+1 from rfl] at C7;have C7:=n7 C7;have JK:=n7 (show w8.heap.size<=w9.heap.size from sh.size);have H9:=n7 (n8 C_ (n8 N5 iE));clear Fe N4 N6 N5 N3 C_ Co oA EZ EV iL oM tL Lw Db Ff ox iE L7 sh MJ;go_wp2_with fail
  (with_reducible refine C7.out.mono ?_);rintro en iz ⟨s,v,b1,p1,d1,b2,p2,d2,rfl,Az,Fb,Cg⟩
  obtain ⟨L,S,JQ,hL⟩:∃ L S:Int,Wri iz (w.heap.size+4) L S/\decide (0<=L)=(yR m (zq bs a n rest) (bs.length+rest.length)).isSome:=by
   unfold yR;cases hq:evN 20000 200 20000 m (zq bs a n rest) (bs.length+rest.length) (QI WFr.gf []) with
   | none =>
     obtain ⟨st,u1,_,_⟩:=Fb hq;exact ⟨-1,st,u1,by rw [show (QI WFr.gf []:List Gf)=[] from rfl] at hq;rw [hq];rfl⟩
   | some x =>
     obtain ⟨u1,_⟩:=Cg x hq;exact ⟨_,_,u1,by rw [show (QI WFr.gf []:List Gf)=[] from rfl] at hq;rw [hq];simp⟩
  have Bc:kU (w.heap.size+3) 0 (.slice none 0 0) (.slice none 0 0) iz:=kU.but (zY H9.out.2.1) Az (show ¬ (w.heap.size+3=w.heap.size+1+1+1+1) by omega);have ir:Below w.heap.size w iz:=H9.out.1.trans (Az.toBelow H9.out.1.size fun i hi e=>by have e:i=w.heap.size+1+1+1+1:=e;omega);obtain ⟨AD,Bb⟩:=zzN (iz.alloc (.cells #[str s,.int .i64 v,.slice b1 p1 d1,.slice b2 p2 d2] 47));have ia:Below iz.heap.size iz AD:=by rw [<- Bb];exact (rZ _ _).alloc (n9 _) _
  have BE:AD.heap[iz.heap.size]? = some (.cells #[str s,.int .i64 v,.slice b1 p1 d1,.slice b2 p2 d2] 47 (0,0)):=by rw [<- Bb];exact zG _ _
  have Dg:kU (w.heap.size+3) 0 (.slice none 0 0) (.slice none 0 0) AD:=Bc.below ia (zZ Bc);have FC:AD.cell? ⟨w.heap.size+4,0,none⟩=some (.int .i64 L):=(ia.cell (p:=⟨w.heap.size+4,0,none⟩) JQ.cell.2.2.2).trans JQ.cell.1;obtain ⟨o0,o1,o2,o3⟩:=kR BE;obtain ⟨r0,r1,r2,r3,rlt,rf⟩:=Dg.cells;have tF:=rf 0;have aX:=rf 1;have iX:=rf 2;have lH:=rf 3;have Ln:=ir.size;have hne:iz.heap.size≠w.heap.size+3:=by have:=zZ Bc;omega
  have SZ:Hid (∀ w',But (fun i=>i=w.heap.size+3) AD w'->w'.cell? ⟨iz.heap.size,0,none⟩=some (str s)/\w'.cell? ⟨iz.heap.size,1,none⟩=some (.int .i64 v)/\w'.cell? ⟨iz.heap.size,2,none⟩=some (.slice b1 p1 d1)/\w'.cell? ⟨iz.heap.size,3,none⟩=some (.slice b2 p2 d2)/\w'.cell? ⟨w.heap.size+4,0,none⟩=some (.int .i64 L)):=by
   show ∀ w',_->_;intro w' rS;have k:∀ {p:Addr} {u:Value},p.block≠w.heap.size+3->AD.cell? p=some u->w'.cell? p=some u:=fun hn hu=>(rS.cell (n_ _ _ hu) hn).trans hu;exact ⟨k hne o0,k hne o1,k hne o2,k hne o3,k (by show w.heap.size+4≠w.heap.size+3;omega) FC⟩
  obtain ⟨W13,Ba,sR,sD,sN,sL,ij,Bh⟩:=Dg.store (str s) (.int .i64 v) (.slice b1 p1 d1) (.slice b2 p2 d2);have A6:jK F (yR m (zq bs a n rest) (bs.length+rest.length)) w (.returned (.tuple #[.agg #[str s,.int .i64 v,.slice b1 p1 d1,.slice b2 p2 d2],.bool (decide (0<=L))])) W13:=by
   refine ⟨s,v,b1,p1,d1,b2,p2,d2,by rw [hL],ij _ _ (zzT ir ia) (by omega),fun x hx=>?_⟩;unfold yR at hx;rw [OA] at hx;obtain ⟨y,hy,rfl⟩:=hx;obtain ⟨_,u2⟩:=Cg y hy;refine (Rep.keep fun i o hi ho=>?_).2 _ _ u2;have hl:=zZ ho;have h9:w.heap.size+5<=(w9.alloc (.cells #[] 154)).heap.size:=by
    have:=zZ (H9.out.2.1);have h5:=H9.out.2.2;have:=HA.out.2.2.2.size;have:=H7.out.2.1.size;have:=H2.out.1.size;have:=H1.out.2.2.1.size;have:=JK.out;rw [zK];omega
   have hc:(F i\/w.heap.size<=i)/\i≠w.heap.size+3:=by
    rcases hi with (h | h) | h
    ·exact ⟨.inl h.1,by have:=h.2;omega⟩
    all_goals
     exact ⟨.inr (by omega),by omega⟩
   exact ⟨hc.1,Bh i _ hc.2 (by rw [ia.block i hl];exact ho)⟩
  have HF:=n7 (n8 Bb (n8 Ba (n8 A6 ij)));clear Bb ia BE Dg FC rf Ba A6 ij Bh hL JQ Bc ir Az Fb Cg;go_wp2_with fail
  rw [HF.out.1];refine wp_region_noPanic ?_;refine zB (fun w'=>But (fun i=>i=w.heap.size+3) AD w') (fun _=>false) (by kernel_rfl) ?_;have rU:But (fun i=>i=w.heap.size+3) AD AD.drew:=(But.refl _ AD).drew;refine tk [0,1,2,3,4,5] rU ?_;(intro d hd;simp [tkD] at hd;subst hd;simp only [tks,pQ,pZ,pS]);iterate 6 (refine ⟨?_,?_,?_⟩;rotate_left;· (intro oi ho;simp at ho;subst ho;refine OO ⟨by rfl,fun w' rB=>?_⟩;obtain ⟨e0,e1,e2,e3,e4⟩:=SZ.out w' rB;go_simp;try with_reducible rfl))
  (refine on 6 ?_;intro o ho K' hK;simp at ho;subst ho;go_simp);(refine hK.out _ _ (fun _=>(((rU.setCell (p:=⟨w.heap.size+3,0,none⟩) (.inl rfl) _).setCell (p:=⟨w.heap.size+3,1,none⟩) (.inl rfl) _).setCell (p:=⟨w.heap.size+3,2,none⟩) (.inl rfl) _).setCell (p:=⟨w.heap.size+3,3,none⟩) (.inl rfl) _) ?_;clear hK K';try simp only [pQ,pN,pZ,pS]);(refine on 7 ?_;intro o ho K' hK;simp at ho;subst ho;go_simp);(refine hK.out _ _ (fun _=>(((rU.setCell (p:=⟨w.heap.size+3,0,none⟩) (.inl rfl) _).setCell (p:=⟨w.heap.size+3,1,none⟩) (.inl rfl) _).setCell (p:=⟨w.heap.size+3,2,none⟩) (.inl rfl) _).setCell (p:=⟨w.heap.size+3,3,none⟩) (.inl rfl) _) ?_;clear hK K';try simp only [pQ,pN,pZ,pS]);refine zX (by kernel_rfl) (Oy ?_) _
  go_wp2_with fail
  obtain ⟨-,Ba,A6,-⟩:=HF.out;rw [<- Ba];refine bodyPost_ret (v:=.tuple #[.agg #[str s,.int .i64 v,.slice b1 p1 d1,.slice b2 p2 d2],.bool (decide (0<=L))]) (by simp [results,Tb,go_sem,sR,sD,sN,sL]) rfl ?_;exact A6.drew
 ·have NA:=GT I6;have htc2:rest.length+1<=tc:=by have:=HT.out.2.2.1;simpa using this
  clear hT1 GT;have C6:=n7 (gj F bs.length rest _ w7 NA (by omega) (by omega));clear NA;go_wp2_with fail
  (with_reducible refine C6.out.mono ?_);rintro en w8 ⟨a8,c8,K7,rfl,Ht,io,sP,iR⟩
  have E9:=H7.out.1.keep (w':=w8) fun g o hg hh=>by rw [sP.block g (zZ hh)];exact hh
  have Bz:=Ht.src (vw _ _ io);have HA:=n7 (n8 E9 (n8 Bz (n8 io sP)));clear E9 Bz Ht io sP iR;go_wp2_with (at_builtin;refine zM rfl _ _ 131 rfl 134 (.agg #[.int .i64 0,str [],.int .i64 0,.slice none 0 0,.slice none 0 0,.slice none 0 0,.slice none 0 0,.int .i64 0,.int .i64 0]) 9 144 Pm Tryz.infoBo rfl (by decide) (.slice a7 (bs.length+1) c7) (bs.length+1) _ rfl HA.out.1 _ rest.length K7 rfl HA.out.2.1 (by unfold maxLen;omega) (by omega) ?_)
  intro a9 c9 w9 L7 sh MJ;have Db:Below W2.heap.size W2 w9:=(zzT H7.out.2.1 HA.out.2.2.2).trans (sh.toBelow (by have:=H7.out.2.1.size;have:=HA.out.2.2.2.size;omega) fun i hi e=>by have:=H7.out.2.2 i e;omega);have Ff:∀ g,(Ox a9 (bs.length+1+rest.length) c9).ownBlock=some g->W2.heap.size<=g:=fun g hg=>by
   rcases MJ g hg with h | h
   ·exact H7.out.2.2 g h
   ·have:=H7.out.2.1.size;have:=HA.out.2.2.2.size;omega
  have ox:Below W.heap.size W w9:=H1.out.2.2.1.trans ((H2.out.1.trans (Db.mono (by have:=H2.out.2.1;omega))).mono H1.out.2.2.1.size);have iE:=HW.out.2.1;have Fe:∀ {i:Nat} {o:Obj},i<W.heap.size->W.heap[i]? = some o->w9.heap[i]? = some o:=fun hi h=>(ox.block _ hi).trans h;have N4:=Fe (by omega) HW.out.2.2.2.1;have N6:=Fe (by omega) HW.out.2.2.2.2.1;have N5:kU (w.heap.size+3) 0 (.slice none 0 0) (.slice none 0 0) w9:=Fe (by omega) HW.out.2.2.2.2.2.2.1;have N3:Wri w9 (w.heap.size+4) 200 0:=Fe (by omega) HW.out.2.2.2.2.2.2.2;obtain ⟨m0,m1,m2,m3⟩:=kR N6;have t9:w9.cell? ⟨w.heap.size,0,none⟩=some (.slice (some ⟨kb,ko,none⟩) (rest.length+1) tc):=by simp [Li,N4]
  have t9':(w9.alloc (.cells #[] 154)).cell? ⟨w.heap.size,0,none⟩=some (.slice (some ⟨kb,ko,none⟩) (rest.length+1) tc):=zV t9;have C_:Below w.heap.size w (w9.alloc (.cells #[] 154)):=(zzT HW.out.2.2.1 ox).alloc (by have:=ox.size;omega) _;have Co:zW (fun i=>(F i/\i<w.heap.size)\/w.heap.size+5<=i) w9 (qJ (zq bs a n rest)) (oxs++([.int .i64 (-1),str ns,.int .i64 nv,.slice tQ tp tK,.slice sO tz sI,.slice ua a.args.length uc,.slice oa bs.length oc,.int .i64 0,.int .i64 0]++K7)):=by
   have kw:∀ (i:Nat) (o:Obj),F i->w.heap[i]? = some o->((F i/\i<w.heap.size)\/w.heap.size+5<=i)/\w9.heap[i]? = some o:=fun i o hi ho=>⟨.inl ⟨hi,zZ ho⟩,by rw [ox.block i (by have:=zZ ho;omega),HW.out.2.2.1.block i (zZ ho)];exact ho⟩;have NS:∀ (i:Nat),i<w1.heap.size->w9.heap[i]? = w1.heap[i]?:=fun i hi=>by rw [Db.block i (by have:=H2.out.2.1;omega),H2.out.1.block i hi]
   have kf:∀ (i:Nat),F i->(F i/\i<w.heap.size)\/w.heap.size+5<=i:=fun i hi=>by
    rcases PT i w.heap.size with h | h
    ·exact .inl ⟨hi,h⟩
    ·exact .inr (by have:=HFw.out i hi;omega)
   have oS:zW (fun i=>(F i/\i<w.heap.size)\/w.heap.size+5<=i) w9 (qJ (opens 0 bs)) oxs:=(Rep.keep fun i o hi ho=>⟨kf i hi,by rw [NS i (zZ ho)];exact ho⟩).2 _ _ H1.out.2.1;unfold zq;rw [vu,qJ,dx];refine zW.append oS ?_;refine zW.append (vs:=[.int .i64 (-1),str ns,.int .i64 nv,.slice tQ tp tK,.slice sO tz sI,.slice ua a.args.length uc,.slice oa bs.length oc,.int .i64 0,.int .i64 0]) ?_ ?_
   ·refine zW.append (vs:=[.int .i64 (-1)]) (zW.one (zH.2 rfl)) (zW.append (ds:=kx n) (vs:=[str ns,.int .i64 nv,.slice tQ tp tK,.slice sO tz sI]) ((Rep.keep kw).2 _ _ HP.out.rn) ?_);refine zQ.2 ⟨_,_,rfl,(Rep.keep kw).1 _ _ HT.out.2.1,zQ.2 ⟨_,_,rfl,?_,zQ.2 ⟨_,_,rfl,zH.2 rfl,zQ.2 ⟨_,_,rfl,xK.2 ⟨_,rfl⟩,zC.2 rfl⟩⟩⟩⟩;rw [z_];refine (H1.out.1.keep (w':=w9) fun g o hg hh=>by rw [NS g (zZ hh)];exact hh).rep (fun g hg=>.inr (by have:=H1.out.2.2.2 g hg;omega)) oS
   ·refine (Rep.keep fun i o hi ho=>⟨kf i hi,?_⟩).2 _ _ HA.out.2.2.1;have hl:=zZ ho;rw [sh.block i hl (fun e=>?_)];exact ho;have:=H7.out.2.2 i e;have h1:=HFw.out i hi;have h2:=H2.out.1.size;have h3:=H1.out.2.2.1.size;omega
  have oA:(zq bs a n rest).length=bs.length+1+rest.length:=by unfold zq;simp [z_];omega
  have EZ:Rep (fun i=>(F i/\i<w.heap.size)\/w.heap.size+5<=i) (w9.alloc (.cells #[] 154)) (.sl 134 9 (zq bs a n rest).length (qJ (zq bs a n rest))) (.slice a9 (bs.length+1+rest.length) c9):=by
   rw [oA];refine (Rep.keep fun i o hi ho=>⟨hi,zY ho⟩).1 _ _ (L7.rep (fun g hg=>.inr ?_) Co);have:=Ff g hg;have h2:=H2.out.1.size;have h3:=H1.out.2.2.1.size;omega
  have EV:zW (fun i=>(F i/\i<w.heap.size)\/w.heap.size+5<=i) (w9.alloc (.cells #[] 154)) (kx m) [str ms,.int .i64 mv,.slice Dr Dn Dp,.slice Dq Dm Do] :=
   (Rep.keep fun i o hi ho=>⟨.inl ⟨hi,zZ ho⟩,by rw [C_.block i (zZ ho)];exact ho⟩).2 _ _ HP.out.rm
  have iL:=HT.out.2.2.2.1;have oM:∀ x∈rest,zJ x<=15:=fun x hx=>iL.1 x (by rw [HP.out.ts];simp [hx]);have tL:zJ a<=15:=iL.1 a (by rw [HP.out.ts];simp);have Lw:Wri (w9.alloc (.cells #[] 154)) (w.heap.size+4) ((200:Nat):Int) (20000-((20000:Nat):Int)):=zY N3
  have C7:=write_any 20000 (fun i=>(F i/\i<w.heap.size)\/w.heap.size+5<=i) (w.heap.size+4) 200 20000 (bs.length+rest.length) (bs++rest) m (zq bs a n rest) [] ms mv Dr Dq Dn Dp Dm Do (.slice a9 (bs.length+1+rest.length) c9) (.slice (some ⟨w9.heap.size,0,none⟩) 0 0) (w9.alloc (.cells #[] 154))
   { wri:=Lw,hF:=fun i hi=>(by
    rcases hi with h | h
    ·have:=h.2;omega
    ·omega),ld:=n9 _,d20:=n9 _,k200:=n9 _,fit:=HP.out.fit,hn:=by simp,el:=by rw [oA];omega,nl:=by omega,stl:=by simp,
     ok:=jg _ _ (jk _ _ HP.out.b15 (by omega)) ⟨by rw [okM];exact ⟨tL,by rw [z_];omega,jk _ _ HP.out.b15 (by omega)⟩,jk _ _ oM (by omega)⟩,okg:=trivial,
     wf:=⟨HP.out.wm,jp _ _ (jz _ _) ⟨⟨HP.out.wn,jz _ _⟩,jz _ _⟩,by simp⟩,rb:=EV,re:=EZ,rs:=zh.2 ⟨by simp [yC],_,_,rfl,n9 _,fun h=>by simp at h,.inl rfl⟩ }
  rw [show ((bs.length+rest.length:Nat):Int)=(bs.length:Int)+((rest.length:Int)+1)-1 from by omega,show w.heap.size+4=w.heap.size+1+1+1+1 from rfl] at C7;have C7:=n7 C7;have JK:=n7 (show w8.heap.size<=w9.heap.size from sh.size);have H9:=n7 (n8 C_ (n8 N5 iE));clear Fe N4 N6 N5 N3 C_ Co oA EZ EV iL oM tL Lw Db Ff ox iE L7 sh MJ;go_wp2_with fail
  (with_reducible refine C7.out.mono ?_);rintro en iz ⟨s,v,b1,p1,d1,b2,p2,d2,rfl,Az,Fb,Cg⟩
  obtain ⟨L,S,JQ,hL⟩:∃ L S:Int,Wri iz (w.heap.size+4) L S/\decide (0<=L)=(yR m (zq bs a n rest) (bs.length+rest.length)).isSome:=by
   unfold yR;cases hq:evN 20000 200 20000 m (zq bs a n rest) (bs.length+rest.length) (QI WFr.gf []) with
   | none =>
     obtain ⟨st,u1,_,_⟩:=Fb hq;exact ⟨-1,st,u1,by rw [show (QI WFr.gf []:List Gf)=[] from rfl] at hq;rw [hq];rfl⟩
   | some x =>
     obtain ⟨u1,_⟩:=Cg x hq;exact ⟨_,_,u1,by rw [show (QI WFr.gf []:List Gf)=[] from rfl] at hq;rw [hq];simp⟩
  have Bc:kU (w.heap.size+3) 0 (.slice none 0 0) (.slice none 0 0) iz:=kU.but (zY H9.out.2.1) Az (show ¬ (w.heap.size+3=w.heap.size+1+1+1+1) by omega);have ir:Below w.heap.size w iz:=H9.out.1.trans (Az.toBelow H9.out.1.size fun i hi e=>by have e:i=w.heap.size+1+1+1+1:=e;omega);obtain ⟨AD,Bb⟩:=zzN (iz.alloc (.cells #[str s,.int .i64 v,.slice b1 p1 d1,.slice b2 p2 d2] 47));have ia:Below iz.heap.size iz AD:=by rw [<- Bb];exact (rZ _ _).alloc (n9 _) _
  have BE:AD.heap[iz.heap.size]? = some (.cells #[str s,.int .i64 v,.slice b1 p1 d1,.slice b2 p2 d2] 47 (0,0)):=by rw [<- Bb];exact zG _ _
  have Dg:kU (w.heap.size+3) 0 (.slice none 0 0) (.slice none 0 0) AD:=Bc.below ia (zZ Bc);have FC:AD.cell? ⟨w.heap.size+4,0,none⟩=some (.int .i64 L):=(ia.cell (p:=⟨w.heap.size+4,0,none⟩) JQ.cell.2.2.2).trans JQ.cell.1;obtain ⟨o0,o1,o2,o3⟩:=kR BE;obtain ⟨r0,r1,r2,r3,rlt,rf⟩:=Dg.cells;have tF:=rf 0;have aX:=rf 1;have iX:=rf 2;have lH:=rf 3;have Ln:=ir.size;have hne:iz.heap.size≠w.heap.size+3:=by have:=zZ Bc;omega
  have SZ:Hid (∀ w',But (fun i=>i=w.heap.size+3) AD w'->w'.cell? ⟨iz.heap.size,0,none⟩=some (str s)/\w'.cell? ⟨iz.heap.size,1,none⟩=some (.int .i64 v)/\w'.cell? ⟨iz.heap.size,2,none⟩=some (.slice b1 p1 d1)/\w'.cell? ⟨iz.heap.size,3,none⟩=some (.slice b2 p2 d2)/\w'.cell? ⟨w.heap.size+4,0,none⟩=some (.int .i64 L)):=by
   show ∀ w',_->_;intro w' rS;have k:∀ {p:Addr} {u:Value},p.block≠w.heap.size+3->AD.cell? p=some u->w'.cell? p=some u:=fun hn hu=>(rS.cell (n_ _ _ hu) hn).trans hu;exact ⟨k hne o0,k hne o1,k hne o2,k hne o3,k (by show w.heap.size+4≠w.heap.size+3;omega) FC⟩
  obtain ⟨W13,Ba,sR,sD,sN,sL,ij,Bh⟩:=Dg.store (str s) (.int .i64 v) (.slice b1 p1 d1) (.slice b2 p2 d2);have A6:jK F (yR m (zq bs a n rest) (bs.length+rest.length)) w (.returned (.tuple #[.agg #[str s,.int .i64 v,.slice b1 p1 d1,.slice b2 p2 d2],.bool (decide (0<=L))])) W13:=by
   refine ⟨s,v,b1,p1,d1,b2,p2,d2,by rw [hL],ij _ _ (zzT ir ia) (by omega),fun x hx=>?_⟩;unfold yR at hx;rw [OA] at hx;obtain ⟨y,hy,rfl⟩:=hx;obtain ⟨_,u2⟩:=Cg y hy;refine (Rep.keep fun i o hi ho=>?_).2 _ _ u2;have hl:=zZ ho;have h9:w.heap.size+5<=(w9.alloc (.cells #[] 154)).heap.size:=by
    have:=zZ (H9.out.2.1);have h5:=H9.out.2.2;have:=HA.out.2.2.2.size;have:=H7.out.2.1.size;have:=H2.out.1.size;have:=H1.out.2.2.1.size;have:=JK.out;rw [zK];omega
   have hc:(F i\/w.heap.size<=i)/\i≠w.heap.size+3:=by
    rcases hi with (h | h) | h
    ·exact ⟨.inl h.1,by have:=h.2;omega⟩
    all_goals
     exact ⟨.inr (by omega),by omega⟩
   exact ⟨hc.1,Bh i _ hc.2 (by rw [ia.block i hl];exact ho)⟩
  have HF:=n7 (n8 Bb (n8 Ba (n8 A6 ij)));clear Bb ia BE Dg FC rf Ba A6 ij Bh hL JQ Bc ir Az Fb Cg;go_wp2_with fail
  rw [HF.out.1];refine wp_region_noPanic ?_;refine zB (fun w'=>But (fun i=>i=w.heap.size+3) AD w') (fun _=>false) (by kernel_rfl) ?_;have rU:But (fun i=>i=w.heap.size+3) AD AD.drew:=(But.refl _ AD).drew;refine tk [0,1,2,3,4,5] rU ?_;(intro d hd;simp [tkD] at hd;subst hd;simp only [tks,pQ,pZ,pS]);iterate 6 (refine ⟨?_,?_,?_⟩;rotate_left;· (intro oi ho;simp at ho;subst ho;refine OO ⟨by rfl,fun w' rB=>?_⟩;obtain ⟨e0,e1,e2,e3,e4⟩:=SZ.out w' rB;go_simp;try with_reducible rfl))
  (refine on 6 ?_;intro o ho K' hK;simp at ho;subst ho;go_simp);(refine hK.out _ _ (fun _=>(((rU.setCell (p:=⟨w.heap.size+3,0,none⟩) (.inl rfl) _).setCell (p:=⟨w.heap.size+3,1,none⟩) (.inl rfl) _).setCell (p:=⟨w.heap.size+3,2,none⟩) (.inl rfl) _).setCell (p:=⟨w.heap.size+3,3,none⟩) (.inl rfl) _) ?_;clear hK K';try simp only [pQ,pN,pZ,pS]);(refine on 7 ?_;intro o ho K' hK;simp at ho;subst ho;go_simp);(refine hK.out _ _ (fun _=>(((rU.setCell (p:=⟨w.heap.size+3,0,none⟩) (.inl rfl) _).setCell (p:=⟨w.heap.size+3,1,none⟩) (.inl rfl) _).setCell (p:=⟨w.heap.size+3,2,none⟩) (.inl rfl) _).setCell (p:=⟨w.heap.size+3,3,none⟩) (.inl rfl) _) ?_;clear hK K';try simp only [pQ,pN,pZ,pS]);refine zX (by kernel_rfl) (Oy ?_) _
  go_wp2_with fail
  obtain ⟨-,Ba,A6,-⟩:=HF.out;rw [<- Ba];refine bodyPost_ret (v:=.tuple #[.agg #[str s,.int .i64 v,.slice b1 p1 d1,.slice b2 p2 d2],.bool (decide (0<=L))]) (by simp [results,Tb,go_sem,sR,sD,sN,sL]) rfl ?_;exact A6.drew
end Go.Proofs.YtdhaafoiokkbnabGreatDoor

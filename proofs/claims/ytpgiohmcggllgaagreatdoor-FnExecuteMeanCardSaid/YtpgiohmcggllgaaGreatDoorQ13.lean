/- Walks. -/
import Derived.Test.YtpgiohmcggllgaaGreatDoorQ11
set_option linter.unusedVariables false
set_option linter.unusedSimpArgs false
set_option maxHeartbeats 8000000
set_option maxRecDepth 100000
open Go.NoPanic renaming normal->N0
open Go.Proofs.Tryz renaming prog->KD,results43->Sw,results74->PU,underlying142->OE,underlying147->Px,underlying45->OV
open Go.Value renaming oneCell'->Of,ownBlock->N7,slice->Nq,string->Q0
open Go.Value.int renaming injEq->Q3
open Go.Value.slice renaming injEq->N_
open Go.World renaming cell?->GD,frozen?->N4,ownsRow_nil->OL,setCell->PL
open List renaming getElem?_eq_some_iff->N6,length_append->NZ,length_cons->N5,map->Qa,map_cons->Ol,mem_cons->Om,mem_cons_of_mem->QR,nil_append->OB
open List.cons renaming injEq->Od
open Nat renaming le_of_eq->Ph,le_succ->OO,lt_of_le_of_lt->PN,lt_or_ge->Qr,zero_add->PD,zero_le->Og
open Option renaming bind_eq_bind->NX,bind_some->Mm,map_eq_some_iff->N3
open Option.some renaming injEq->N1
namespace Go.Proofs.YtpgiohmcggllgaaGreatDoor
open Go.RowKit
structure KeepPre (F:Nat->Prop) (ww d k l n vv o:Nat) (H:List Ty) (t:Ty) (ss:List Bd) (y no:Bd) (env:List Mn) (st:List WFr) (v0:Int) (a1 a2:Option Addr) (c1 c2:Nat) (ev sv:Value) (w:World):Prop where
 wri:Wri w ww ((k:Nat)+1) (20000-(l:Nat))
 hF:∀ i,F i->i≠ww
 ld:l<=d
 d20:d<=20000
 k200:k<=200
 hv:env[vv]? = some (.op o t)
 fit:jb H (.ask vv ss y no) env (st.map WFr.gf)
 hn:H.length=n
 el:env.length+16*(d+1)<=1000000
 nl:n+16*(d+1)<=1000000
 stl:st.length+d<=40000
 ok:y8 (1000000-16*(d+1)) env
 okg:okGs (1000000-16*(d+1)) (st.map WFr.gf)
 wf:wfB (.ask vv ss y no)/\wG env/\∀ f∈st.map WFr.gf,wfG f
 rb:zW F w (kL (.ask vv ss y no)) [str [],.int .i64 (vv:Nat),.slice a1 ss.length c1,.slice a2 2 c2]
 re:Rep F w (.sl 145 9 env.length (qK env)) ev
 rs:Rep F w (.sl 165 6 st.length (yV st)) sv
def fpos:Bool->Nat
 | false=>2
 | true=>3
def fk:Bool->Value->Value->Value
 | false,_,sv=>sv
 | true,ks,_=>ks
def fy:Bool->Value->Value
 | false,_=>.slice none 0 0
 | true,sv=>sv
structure NInv (F:Nat->Prop) (ww:Nat) (D:Int) (k l n o vv nk:Nat) (env:List Mn) (f:Nat->Nat->Bd->List Mn->Nat->List Gf->Option (Bd×Nat×Nat)) (k0 l0:Nat) (ts:List Ty) (bs:List Bd) (A Z:Prop) (fld:Bool) (ks:Value) (qN:List Bd)
 (a1 a2 ta:Option Addr) (c1 c2 nt tc:Nat) (i0:Int) (w:World) (Q j:Nat) (sv:Value) (us:List Value) (wr:World):Prop where
 but:But (· = ww) w wr
 zw:Q+1<=wr.heap.size
 box:wr.heap[w.heap.size]? = some (.cells #[str [],.int .i64 (vv:Nat),.slice a1 nk c1,.slice a2 2 c2] 47 (0,0))
 res:kQ (w.heap.size+1) 0 (.slice none 0 0) (.slice none 0 0) wr
 bnd:wr.heap[w.heap.size+2]? = some (.cells #[.int .i64 (o:Nat),str [],.int .i64 0,.slice none 0 0,.slice none 0 0,.slice ta nt tc,.slice none 0 0,.int .i64 0,.int .i64 i0] 145 (0,0))
 blk:kQ Q (o:Nat) (fk fld ks sv) (fy fld sv) wr
 own:Own wr 47 4 sv j us
 fr:∀ g,sv.ownBlock=some g->Q+1<=g
 mode:(∃ zs kj lj,A/\kT f env n k0 l0 (ts.take j) (bs.take j)=some (zs,kj,lj)/\zs.length=j/\Wri wr ww (kj:Nat) (20000-(lj:Nat))/\kj<=k/\lj<=l/\zW (fun i=>Fx F w 4 i/\sv.ownBlock≠some i) wr (zh zs) us /\
  Rep (fun i=>Fx F w 4 i/\sv.ownBlock≠some i) wr (.sl 47 4 qN.length (zh qN)) ks) \/
  (Z/\∃ s,Wri wr ww (-1) s/\0<=s/\s<=D+(j:Int))
theorem NInv.next {F:Nat->Prop} {ww:Nat} {D:Int} {k l n o vv nk:Nat} {env:List Mn} {f:Nat->Nat->Bd->List Mn->Nat->List Gf->Option (Bd×Nat×Nat)} {k0 l0:Nat} {ts:List Ty} {bs:List Bd} {A Z:Prop} {fld:Bool} {ks:Value} {qN:List Bd}
 {a1 a2 ta:Option Addr} {c1 c2 nt tc:Nat} {i0:Int} {w:World} {Q j:Nat} {sv:Value} {us:List Value} {wr:World}
 (h:NInv F ww D k l n o vv nk env f k0 l0 ts bs A Z fld ks qN a1 a2 ta c1 c2 nt tc i0 w Q j sv us wr) (hQ:Q=w.heap.size+3) (hww:ww<w.heap.size) (hF:∀ i,F i->i≠ww)
 {w6 w7:World} {O:Obj} {oo:Option (Bd×Nat×Nat)} {cs:List Value} {a':Option Addr} {c':Nat}
 (nJ:But (· = ww) wr.drew w6)
 (ij:oo=none->∃ st,Wri w6 ww (-1) st/\0<=st/\st<=D+((j+1:Nat):Int))
 (iI:∀ x,oo=some x->Wri w6 ww (x.2.1:Nat) (20000-(x.2.2:Nat))/\zW (fun i=>(F i/\i<w.heap.size)\/wr.drew.heap.size<=i) w6 (kL x.1) cs)
 (Fz:oo=none->Z)
 (Fy:∀ x,oo=some x->∃ zs,A/\kT f env n k0 l0 (ts.take (j+1)) (bs.take (j+1))=some (zs++[x.1],x.2.1,x.2.2)/\zs.length=j/\x.2.1<=k/\x.2.2<=l/\zW (fun i=>Fx F w 4 i/\sv.ownBlock≠some i) wr (zh zs) us /\
  Rep (fun i=>Fx F w 4 i/\sv.ownBlock≠some i) wr (.sl 47 4 qN.length (zh qN)) ks)
 (nL:Own w7 47 4 (.slice a' (j+1) c') (j+1) (us++cs)) (mo:But (fun b=>sv.ownBlock=some b) (w6.alloc O) w7)
 (nG:∀ g,(Nq a' (j+1) c').ownBlock=some g->sv.ownBlock=some g\/g=(w6.alloc O).heap.size) :
 NInv F ww D k l n o vv nk env f k0 l0 ts bs A Z fld ks qN a1 a2 ta c1 c2 nt tc i0 w Q (j+1) (.slice a' (j+1) c') (us++cs) (w7.setCell ⟨Q,fpos fld,none⟩ (.slice a' (j+1) c')):=by
 have z6:wr.heap.size<=w6.heap.size:=nJ.size;have z7:=mo.size;rw [zK] at z7;have zr:=h.zw;have svlt:∀ g,sv.ownBlock=some g->g<wr.heap.size:=fun g hg=>h.own.lt hg;obtain ⟨w8,GB⟩:=zzN (w7.setCell ⟨Q,fpos fld,none⟩ (.slice a' (j+1) c'));have sH:∀ i x,w6.heap[i]? = some x->sv.ownBlock≠some i->i≠Q->w8.heap[i]? = some x:=by
  intro i x hx h2 h3;have hl:=zZ hx;rw [<- GB,mp _ _ _ _ (by simpa using h3),mo.block i (by rw [zK];omega) h2,Below.heap_alloc _ _ _ hl];exact hx
 have keep:∀ i x,wr.heap[i]? = some x->i≠ww->sv.ownBlock≠some i->i≠Q->w8.heap[i]? = some x:=by
  intro i x hx h1 h2 h3;exact sH i x (by rw [nJ.block i (zZ hx) h1];exact hx) h2 h3
 have nsv:∀ i,i<Q+1->sv.ownBlock≠some i:=fun i hi e=>by have:=h.fr i e;omega
 have fr':∀ g,(Nq a' (j+1) c').ownBlock=some g->Q+1<=g:=fun g hg=>by
  rcases nG g hg with e | e
  ·exact h.fr g e
  ·rw [zK] at e;omega
 have fxw:∀ i,Fx F w 4 i->i≠ww/\i≠Q:=fun i hi=>by
  rcases hi with hi | hi
  ·exact ⟨hF i hi.1,by have:=hi.2;omega⟩
  ·exact ⟨by omega,by omega⟩
 have nV:But (· = ww) w w8:=by
  have h1:But (· = ww) w w6:=h.but.trans ⟨nJ.os,nJ.tape,nJ.output,nJ.size,nJ.block⟩;have h2:But (· = ww) w w7:=(h1.alloc O).trans' mo (fun i hi e=>absurd (h.fr i e) (by omega));rw [<- GB];exact h2.setCell (p:=⟨Q,fpos fld,none⟩) (.inr (show w.heap.size<=Q by omega)) _
 have hsz:w8.heap.size=w7.heap.size:=by rw [<- GB];simp [PL]
 have hbk:kQ Q (o:Nat) (fk fld ks (.slice a' (j+1) c')) (fy fld (.slice a' (j+1) c')) w8:=by
  have h1:kQ Q (o:Nat) (fk fld ks sv) (fy fld sv) w7:=by
   unfold kQ;rw [mo.block Q (by rw [zK];omega) (nsv Q (by omega)),Below.heap_alloc _ _ _ (by omega),nJ.block Q (by show Q<wr.heap.size;omega) (by show Q≠ww;omega)];exact h.blk
  rw [<- GB];cases fld
  ·exact h1.put2
  ·exact h1.put3
 have nM:Own w8 47 4 (.slice a' (j+1) c') (j+1) (us++cs) :=
  nL.keep fun g o hg ho=>by rw [<- GB,mp _ _ _ _ (by have:=fr' g hg;simp;omega)];exact ho
 have LR:(∃ zs kj lj,A/\kT f env n k0 l0 (ts.take (j+1)) (bs.take (j+1))=some (zs,kj,lj)/\zs.length=j+1/\Wri w8 ww (kj:Nat) (20000-(lj:Nat))/\kj<=k/\lj<=l/\zW (fun i=>Fx F w 4 i/\(Nq a' (j+1) c').ownBlock≠some i) w8 (zh zs) (us++cs) /\
  Rep (fun i=>Fx F w 4 i/\(Nq a' (j+1) c').ownBlock≠some i) w8 (.sl 47 4 qN.length (zh qN)) ks)\/(Z/\∃ s,Wri w8 ww (-1) s/\0<=s/\s<=D+((j+1:Nat):Int)):=by
  cases hoo:oo with
  | none =>
    obtain ⟨st,q1,q2,q3⟩:=ij hoo;exact .inr ⟨Fz hoo,st,sH ww _ q1 (nsv ww (by omega)) (by omega),q2,q3⟩
  | some x =>
    obtain ⟨q1,q2⟩:=iI x hoo;obtain ⟨zs,hA,r1,r2,r3,r4,r5,r6⟩:=Fy x hoo
    have kG:∀ (i:Nat) (y:Obj),(Fx F w 4 i/\sv.ownBlock≠some i)->wr.heap[i]? = some y->(Fx F w 4 i/\(Nq a' (j+1) c').ownBlock≠some i)/\w8.heap[i]? = some y:=fun i y hi hy =>
     ⟨⟨hi.1,fun e=>by
       rcases nG i e with e' | e'
       ·exact hi.2 e'
       ·rw [zK] at e';have:=zZ hy;omega⟩,keep i y hy (fxw i hi.1).1 hi.2 (fxw i hi.1).2⟩
    refine .inl ⟨zs++[x.1],x.2.1,x.2.2,hA,r1,by simp [r2],sH ww _ q1 (nsv ww (by omega)) (by omega),r3,r4,?_,(Rep.keep kG).1 _ _ r6⟩;rw [qD];refine zW.append ((Rep.keep kG).2 _ _ r5) ?_;have e1:zh [x.1]=kL x.1:=by simp [zh]
    rw [e1];refine (Rep.keep fun i y hi hy=>?_).2 _ _ q2;have hl:=zZ hy;rcases hi with hi | hi
    ·have h2:=hi.2;exact ⟨⟨.inl hi,fun e=>by have:=fr' i e;omega⟩,sH i y hy (nsv i (by omega)) (by omega)⟩
    ·have h2:wr.heap.size<=i:=hi;refine ⟨⟨.inr (by omega),fun e=>?_⟩,sH i y hy (fun e=>by have:=svlt i e;omega) (by omega)⟩;rcases nG i e with e' | e'
     ·have:=svlt i e';omega
     ·rw [zK] at e';omega
 rw [GB];exact { but:=nV,zw:=by omega,box:=keep _ _ h.box (by omega) (nsv _ (by omega)) (by omega),res:=keep _ _ h.res (by omega) (nsv _ (by omega)) (by omega),bnd:=keep _ _ h.bnd (by omega) (nsv _ (by omega)) (by omega),blk:=hbk,own:=nM,fr:=fr',mode:=LR }
theorem node_ne {w:World} {ww:Nat} {k s:Int} {kb off:Nat} {s':Bs} (hw:Wri w ww k s) (g:w.cell? ⟨kb,off,none⟩=some (str s')):kb≠ww:=by
 intro e;subst e;unfold Wri at hw;simp only [GD,hw] at g;rcases Qr off 2 with h | h
 ·have h2:off=0\/off=1:=by omega
  rcases h2 with h2 | h2 <;> rw [h2] at g <;> simp [str] at g
 ·rw [Array.getElem?_eq_none (by simpa using h)] at g;simp at g
theorem keptN_of {d k l n o k1 l1 kj lj:Nat} {t:Ty} {ss:List Bd} {y no:Bd} {env:List Mn} {st:List Gf} {qN zs:List Bd} (h0:kT (evN d) env n k l t.args ss=some (qN,k1,l1))
 (h1:kT (fun k l b _ _ _=>evN d k l b env n st) env n k1 l1 [t,t] [y,no]=some (zs,kj,lj)):∃ z1 z2,zs=[z1,z2]/\xi d k l n o t ss y no env st=some (.ask o qN z1 z2,kj,lj):=by
 unfold xi;rw [h0];simp only [kT,NX,Mm] at h1 ⊢;cases h2:evN d k1 l1 y env n st with
 | none=>rw [h2] at h1;simp at h1
 | some x =>
   rw [h2] at h1;simp only [Mm] at h1 ⊢;cases h3:evN d x.2.1 x.2.2 no env n st with
   | none=>rw [h3] at h1;simp at h1
   | some u =>
     rw [h3] at h1;simp only [Mm,N1,Prod.mk.injEq] at h1 ⊢;obtain ⟨rfl,rfl,rfl⟩:=h1;exact ⟨x.1,u.1,rfl,rfl,rfl,rfl⟩
theorem keptN_none {d k l n o k1 l1:Nat} {t:Ty} {ss:List Bd} {y no:Bd} {env:List Mn} {st:List Gf} {qN:List Bd} (h0:kT (evN d) env n k l t.args ss=some (qN,k1,l1))
 (h1:kT (fun k l b _ _ _=>evN d k l b env n st) env n k1 l1 [t,t] [y,no]=none):xi d k l n o t ss y no env st=none:=by
 unfold xi;rw [h0];simp only [kT,NX,Mm] at h1 ⊢;cases h2:evN d k1 l1 y env n st with
 | none=>rfl
 | some x =>
   rw [h2] at h1;simp only [Mm] at h1 ⊢;cases h3:evN d x.2.1 x.2.2 no env n st with
   | none=>rfl
   | some u=>rw [h3] at h1;simp at h1
theorem keepN_any (d:Nat) (ih:wv d) (F:Nat->Prop) (ww k l n vv o:Nat) (H:List Ty) (t:Ty) (ss:List Bd) (y no:Bd) (env:List Mn) (st:List WFr) (v0:Int) (a1 a2:Option Addr) (c1 c2:Nat) (ev sv:Value) (w:World) (h:KeepPre F ww d k l n vv o H t ss y no env st v0 a1 a2 c1 c2 ev sv w) :
 Calls KD 111 #[.pointer (some ⟨ww,0,none⟩),.agg #[str [],.int .i64 (vv:Nat),.slice a1 ss.length c1,.slice a2 2 c2],ev,sv,.int .i64 (n:Nat)] w
  (vm F ww (20001+20*(d+1)) (xi d k l n o t ss y no env (st.map WFr.gf)) w):=by
 have HP:=mj h;have IH:=mj ih;obtain ⟨eb,eo,ecap,ta,tc,i0,e,I5,hew,m0,m1,m2,m3,m4,m5,m6,m7,m8,FM⟩:=bound_op h.re h.hv;subst e;have hww:=h.wri.cell.2.2.2;have hebw:=h.hF _ I5;obtain ⟨W,hW⟩:=zzN ((w.alloc (.cells #[str [],.int .i64 (vv:Nat),.slice a1 ss.length c1,.slice a2 2 c2] 47)).alloc (.cells #[str [],.int .i64 0,.slice none 0 0,.slice none 0 0] 47));have nV:Below w.heap.size w W:=by rw [<- hW];exact ((mw _ _).alloc (my _) _).alloc (by rw [zK];omega) _
 have th:w.heap.size+2=W.heap.size:=by rw [<- hW];simp only [zK]
 have EW:=h.wri.below nV;obtain ⟨k0,k1,kf,klt⟩:=EW.cell;have kf0:=kf 0;have k0':W.cell? ⟨ww,0,none⟩=some (.int .i64 ((k:Int)+1)):=k0;obtain ⟨W2,rQ⟩:=zzN (W.setCell ⟨ww,0,none⟩ (.int .i64 (k:Nat)));have io:Wri W2 ww (k:Nat) (20000-(l:Nat)):=by unfold Wri at *;rw [<- rQ,zy EW];rfl
 have me:But (· = ww) w W2:=by rw [<- rQ];exact (But.ofBelow (m:=(· = ww)) nV).setCell (p:=⟨ww,0,none⟩) (.inl rfl) _
 have b0:W.heap[w.heap.size]? = some (.cells #[str [],.int .i64 (vv:Nat),.slice a1 ss.length c1,.slice a2 2 c2] 47 (0,0)):=by rw [<- hW];exact zU (zG _ _)
 have Ny:W2.heap[w.heap.size]? = some (.cells #[str [],.int .i64 (vv:Nat),.slice a1 ss.length c1,.slice a2 2 c2] 47 (0,0)):=by
  rw [<- rQ,mp _ _ _ _ (by show w.heap.size≠ww;omega)];exact b0
 obtain ⟨x0,x1,x2,x3⟩:=kE Ny;have kX:∀ {j:Nat} {x:Value},w.cell? ⟨eb,j,none⟩=some x->W2.cell? ⟨eb,j,none⟩=some x:=fun hc=>(me.cell (mx w _ hc) hebw).trans hc;have j0:=kX m0;have j1:=kX m1;have j2:=kX m2;have j3:=kX m3;have j4:=kX m4;have j5:=kX m5;have j6:=kX m6;have j7:=kX m7;have j8:=kX m8;have Cd:=(N6.1 h.hv).1;have Cf:(0:Int)<=(vv:Int):=by omega
 have iz:(vv:Int)<(env.length:Int):=by omega
 have L7:=h.k200;have sI:W2.heap.size=w.heap.size+2:=by rw [<- rQ,th];simp [PL]
 have rE:kQ (w.heap.size+1) 0 (.slice none 0 0) (.slice none 0 0) W2:=by
  have:=zG (w.alloc (.cells #[str [],.int .i64 (vv:Nat),.slice a1 ss.length c1,.slice a2 2 c2] 47)) (.cells #[str [],.int .i64 0,.slice none 0 0,.slice none 0 0] 47);rw [zK,hW] at this;unfold kQ;rw [<- rQ,mp _ _ _ _ (by show w.heap.size+1≠ww;omega)];exact this
 have HZ:=mj (mu sI rE);clear sI rE;have HW:=mj (mu hW (mu rQ (mu me (mu io (mu Ny FM)))));clear hW rQ nV EW io me b0 Ny FM kX m0 m1 m2 m3 m4 m5 m6 m7 m8 k0 kf h ih th;go_enter Tryz.func111,Tryz.ntmps111;go_upto_region 1 with (fail)
 rw [HW.out.1];go_upto_region 2 with (fail)
 rw [HW.out.2.1];go_wp2_with fail
 go_loopw [13] (fun i wr=>∃ (j:Nat) (sv:Value) (us:List Value),j<=ss.length/\i=.int .i64 j/\NInv F ww (20001+20*(d:Int)) k l n o vv ss.length env (evN d) k l t.args ss True (kT (evN d) env n k l t.args ss=none) false (.slice none 0 0) [] a1 a2 ta c1 c2 t.args.length tc i0 w (W2.heap.size+1) j sv us wr) (fun i _=>ss.length-(intOf i).toNat)
 case atStart =>
  obtain ⟨sI,rE⟩:=HZ.out;obtain ⟨hW,rQ,me,io,Ny,FM⟩:=HW.out;refine ⟨0,.slice none 0 0,[],Og _,rfl,?_⟩;refine { but:=(me.alloc _).alloc _,zw:=by simp only [zK];omega,box:=zU (zU Ny),res:=zU (zU rE),bnd:=?_,blk:=?_,own:=OL _ _ _ _,fr:=fun g hg=>by simp [N7] at hg,mode:=.inl ⟨[],k,l,trivial,by simp [kT],rfl,zU (zU io),my _,my _,by simp [zh,zC],zg.2 ⟨by simp [zh],none,0,rfl,my _,fun _=>rfl,.inl rfl⟩⟩ }
  ·rw [<- sI];exact zU (zG _ _)
  ·have:=zG (W2.alloc (.cells #[.int .i64 (o:Nat),str [],.int .i64 0,.slice none 0 0,.slice none 0 0,.slice ta t.args.length tc,.slice none 0 0,.int .i64 0,.int .i64 i0] 145)) (.cells #[str [],.int .i64 (o:Nat),.slice none 0 0,.slice none 0 0] 47);rw [zK] at this;exact this
 case round =>
  rename_i wr;obtain ⟨j,sv,us,hj,rfl,nQ⟩:=hrel;obtain ⟨sa,sc,e⟩:=nQ.own.slice;subst e;obtain ⟨y0,y1,y2,y3⟩:=kE nQ.box;obtain ⟨q0,q1,q2,q3,qlt,qf⟩:=nQ.blk.cells;have z5:wr.cell? ⟨W2.heap.size,5,none⟩=some (.slice ta t.args.length tc):=by
   rw [HZ.out.1];simp [GD,nQ.bnd]
  have HI:=mj nQ;clear nQ;by_cases m_:j<ss.length
  ·have rF:(j:Int)<(ss.length:Int):=by omega
   have nD:Rep F w (.sl 47 4 ss.length (zh ss)) (.slice a1 ss.length c1):=by
    have sY:=HP.out.rb;simp only [kL,zQ,zC] at sY;obtain ⟨_,_,e0,_,_,_,rfl,_,_,_,rfl,h2,_⟩:=sY;simp only [Od] at e0;obtain ⟨_,_,e2,_⟩:=e0;rw [e2];exact h2
   obtain ⟨ka',kc',e,AM⟩:=bH.of nD;simp only [N_] at e;obtain ⟨rfl,_,rfl⟩:=e;obtain ⟨kb,ko,s',v',A8,ow,A7,DE,Bu,DC,sd,e,aL,oK,g0,g1,g2,g3,tF⟩:=AM j m_;subst e;have DN:=HP.out.fit.keep HP.out.hv;have hne:kb≠ww:=node_ne HP.out.wri g0;have Iv:=HW.out.2.2.2.2.2;rw [q_] at Iv;obtain ⟨ta',tc',e,_,_,iG⟩:=zP Iv;simp only [N_] at e;obtain ⟨rfl,_,rfl⟩:=e;have hjt:j<t.args.length:=by omega
   obtain ⟨tb,tO,tu,td,e,htF,htw,htd,g4,It⟩:=iG j hjt;subst e;rw [v_,N3] at htd;obtain ⟨tj,Fj,rfl⟩:=htd;obtain ⟨ua,uc,rfl⟩:=kU It;have p0:=(HI.out.but.cell (p:=⟨kb,ko+j*4,none⟩) aL hne).trans g0;have p1:=(HI.out.but.cell (p:=⟨kb,ko+j*4+1,none⟩) aL hne).trans g1;have p2:=(HI.out.but.cell (p:=⟨kb,ko+j*4+2,none⟩) aL hne).trans g2;have p3:=(HI.out.but.cell (p:=⟨kb,ko+j*4+3,none⟩) aL hne).trans g3;have p4:=(HI.out.but.cell (p:=⟨tb,tO+j,none⟩) htw (HP.out.hF _ htF)).trans g4;have o7:=gr _ HP.out.ok vv _ HP.out.hv;rw [okM] at o7;have GG:=(kZ o7.1).1 tj (List.mem_of_getElem? Fj);have Cw:But (· = ww) w wr.drew:=HI.out.but.drew;have aB:∀ b,(F b/\b<w.heap.size)->¬ (b=ww)/\(F b/\b<w.heap.size):=fun b hb=>⟨HP.out.hF b hb.1,hb⟩;have Ee:zW (fun i=>F i/\i<w.heap.size) wr.drew (kL sd) [str s',.int .i64 v',.slice A8 ow A7,.slice DE Bu DC]:=(zW.low tF).but Cw aB;have Iu:=(Rep.low It).but Cw aB;have Dj:=(Rep.low HP.out.re).but Cw aB;have oX:=HP.out.el;have ia:=HP.out.nl;have BL:=HP.out.ld;have I6:=HP.out.d20;have Ap:=HP.out.k200;have sQ:=dZ (f:=evN d) (env:=env) (n:=n) (k:=k) (l:=l) Fj oK
   obtain ⟨oo,Na,Fz,Fy⟩:∃ oo,Calls KD 141 #[.pointer (some ⟨ww,0,none⟩),.agg #[str s',.int .i64 v',.slice A8 ow A7,.slice DE Bu DC],.agg #[.slice ua tj.args.length uc],.slice (some ⟨eb,eo,none⟩) env.length ecap,.int .i64 (n:Nat)] wr.drew (vm (fun i=>F i/\i<w.heap.size) ww (20001+20*(d:Int)+((j+1:Nat):Int)) oo wr.drew) /\
    (oo=none->kT (evN d) env n k l t.args ss=none) /\
    (∀ y,oo=some y->∃ qN,True/\kT (evN d) env n k l (t.args.take (j+1)) (ss.take (j+1))=some (qN++[y.1],y.2.1,y.2.2)/\qN.length=j/\y.2.1<=k/\y.2.2<=l/\zW (fun i=>Fx F w 4 i/\(Nq sa j sc).ownBlock≠some i) wr (zh qN) us /\
     Rep (fun i=>Fx F w 4 i/\(Nq sa j sc).ownBlock≠some i) wr (.sl 47 4 ([]:List Bd).length (zh [])) (.slice none 0 0)):=by
    rcases HI.out.mode with ⟨qN,kj,lj,_,hev,iB,tL,IX,IT,t_,rD⟩ | ⟨hev,s,tL,aT,rz⟩
    ·refine ⟨evN d kj lj sd (env++z8 n tj.args) (n+tj.args.length) [],(open_live d IH.out _ ww kj lj n H tj sd env s' v' A8 DE ow A7 Bu DC _ _ wr.drew tL (fun i hi=>HP.out.hF i hi.1) (by omega) I6 (by omega) (DN.2.2.1 j tj sd Fj oK) HP.out.hn oX ia GG HP.out.ok Iu Ee Dj ⟨wfBs_at _ HP.out.wf.1.1 j sd oK,HP.out.wf.2.1⟩).mono ?_,fun h=>?_,fun y h=>?_⟩
     ·rintro en w' ⟨q1,q2,q3,q4,q5,q6,q7,q8,q9,JI,Gz,JH⟩;exact ⟨q1,q2,q3,q4,q5,q6,q7,q8,q9,JI,fun h=>by obtain ⟨st,u1,u2,u3⟩:=Gz h;exact ⟨st,u1,u2,by omega⟩,JH⟩
     ·refine pV (j+1) _ _ _ _ ?_;rw [sQ,hev];simp only [Mm];rw [h];rfl
     ·have rL:=evN_left _ _ _ _ _ _ _ _ _ _ h;exact ⟨qN,trivial,by rw [sQ,hev];simp only [Mm];rw [h];rfl,iB,mh rL.1 IX,mh rL.2 IT,t_,rD⟩
    ·have hj15:=(kZ o7.1).2;refine ⟨none,(open_dead _ ww n s tj env s' v' A8 DE ow A7 Bu DC _ _ wr.drew tL aT (by omega) (by omega) (by omega) GG Iu Dj).mono ?_,fun _=>hev,fun y h=>by simp at h⟩;rintro en w' ⟨q1,q2,q3,q4,q5,q6,q7,q8,q9,JI,Gz,JH⟩;exact ⟨q1,q2,q3,q4,q5,q6,q7,q8,q9,JI,fun h=>by obtain ⟨st,u1,u2,u3⟩:=Gz h;exact ⟨st,u1,u2,by omega⟩,JH⟩
   have CC:=mj Na;have E_:=mj (mu Fz Fy);have iv:j+1<=maxLen:=by unfold maxLen;have:=(kZ o7.1).2;omega
   have sT:(j+1)*72<=140737488355328:=by have:=(kZ o7.1).2;omega
   have h04:0<4:=by omega
   have IG:¬ (W2.heap.size+1=ww):=by rw [HZ.out.1];omega
   have NB:=mj (show ¬ (Nq sa j sc).ownBlock=some (W2.heap.size+1) from fun e=>by have:=HI.out.fr _ e;omega)
   have OWN:=mj (fun (w6:World) (h6:But (· = ww) wr.drew w6)=>(HI.out.own.keep (w':=w6) fun g o hg hh=>by
    have:=HI.out.fr g hg
    rw [h6.block g (zZ hh) (fun e=>by have e:g=ww:=e;rw [HZ.out.1] at this;omega)];exact hh))
   have sI:=HZ.out.1;have KW:=HP.out.hF _ htF
   have SX:Hid (∀ w',But (fun i=>i=ww\/(Nq sa j sc).ownBlock=some i) wr w'->w'.cell? ⟨W2.heap.size+1,2,none⟩=some (.slice sa j sc)/\w'.cell? ⟨w.heap.size,2,none⟩=some (.slice (some ⟨kb,ko,none⟩) ss.length c1) /\
    w'.cell? ⟨kb,ko+j*4,none⟩=some (str s')/\w'.cell? ⟨kb,ko+j*4+1,none⟩=some (.int .i64 v')/\w'.cell? ⟨kb,ko+j*4+2,none⟩=some (.slice A8 ow A7)/\w'.cell? ⟨kb,ko+j*4+3,none⟩=some (.slice DE Bu DC) /\
    w'.cell? ⟨W2.heap.size,5,none⟩=some (.slice (some ⟨tb,tO,none⟩) t.args.length tc)/\w'.cell? ⟨tb,tO+j,none⟩=some (.slice ua tj.args.length uc)):=by
    show ∀ w',_->_;intro w' nW
    have key:∀ {p:Addr} {u:Value},p.block<W2.heap.size+2->p.block≠ww->wr.cell? p=some u->w'.cell? p=some u:=fun hp hne hu =>
     (nW.cell (mx wr _ hu) (fun e=>e.elim hne (fun e=>by have:=HI.out.fr _ e;omega))).trans hu
    exact ⟨key (by show W2.heap.size+1<_;omega) IG q2,key (by show w.heap.size<_;omega) (by show w.heap.size≠ww;omega) y2,key (by show kb<_;omega) hne p0,key (by show kb<_;omega) hne p1,key (by show kb<_;omega) hne p2,key (by show kb<_;omega) hne p3,
     key (by show W2.heap.size<_;omega) (by show W2.heap.size≠ww;omega) z5,key (by show tb<_;omega) KW p4⟩
   have Fe:=qf 2;clear DN hne Iv o7 aB Ee Iu Dj sQ Fz Fy Na nD AM iG g0 g1 g2 g3 g4 tF It oK Fj qf Cw sI KW y0 y1 y3 q0 q1 q3 p0 p1 p2 p3 p4 z5;go_wp2_with fail
   refine wp_region_noPanic ?_;refine zB (fun w'=>But (fun i=>i=ww\/(Nq sa j sc).ownBlock=some i) wr w') (fun i=>i == 20) (by kernel_rfl) ?_;have mt:But (fun i=>i=ww\/(Nq sa j sc).ownBlock=some i) wr wr.drew:=(But.refl _ wr).drew;refine tC [0,1,2,3,4,5,6,7,8,9,10,11,12,13,14,15] mt ?_;iterate 16 (refine tl (fun w' nP=>SX.out w' nP) ?_)
   refine tz ?_;refine jK 16 (by kernel_rfl) ?_;intro o16 ho K' hK;(simp at ho;subst ho);go_simp;go_at_call 141;(with_reducible refine CC.out.mono ?_);rintro C8 w6 ⟨s6,v6,b1,m1,d1,b2,m2,d2,rfl,nJ,ij,iI⟩;have rY:Hid (But (fun i=>i=ww\/(Nq sa j sc).ownBlock=some i) wr w6):=mt.trans (nJ.weak fun i _ h=>.inl h);have Kv:=but_cell nJ IG q2;have Ik:=mg qlt nJ.size;have DZ:=but_free nJ IG qlt Fe;have rZ:=(OWN.out _ nJ).alloc (.cells #[str s6,.int .i64 v6,.slice b1 m1 d1,.slice b2 m2 d2] 47);have H6:=mj (mu nJ (mu ij iI));clear nJ ij iI;(refine hK.out _ _ (fun _=>rY.out) ?_;clear hK K';try simp only [pQ,pN,pZ,pS]);refine jK 17 (by kernel_rfl) ?_;intro o17 ho K' hK;(simp at ho;subst ho);go_simp;(refine hK.out _ _ (fun _=>rY.out.alloc _) ?_;clear hK K';try simp only [pQ,pN,pZ,pS]);refine jK 18 (by kernel_rfl) ?_;intro o18 ho K' hK;(simp at ho;subst ho);refine zS (by rfl) _ _ _ (by rfl) 47 (.agg #[str [],.int .i64 0,.slice none 0 0,.slice none 0 0]) 4 72 OV Tryz.infoN rfl h04 (.slice sa j sc) j us (by rfl) rZ _ 1 [str s6,.int .i64 v6,.slice b1 m1 d1,.slice b2 m2 d2] (by rfl) (zq.lit4 #[str s6,.int .i64 v6,.slice b1 m1 d1,.slice b2 m2 d2] rfl (by simp [str,Of]) _ rfl) iv sT ?_;intro a' c' w7 nL mo nG;(refine hK.out _ _ (fun _=>(rY.out.alloc _).trans (mo.weak fun i _ h=>.inr h)) ?_;clear hK K';try simp only [pQ,pN,pZ,pS]);have ru:=out_cell mo NB.out Kv;have oY:=out_free mo NB.out Ik DZ;refine jK 19 (by kernel_rfl) ?_;intro o19 ho K' hK;(simp at ho;subst ho);go_simp;(refine hK.out _ _ (fun _=>(rY.out.alloc _).trans (mo.weak fun i _ h=>.inr h)) ?_;clear hK K';try simp only [pQ,pN,pZ,pS]);refine jK 20 (by kernel_rfl) ?_;intro o20 ho K' hK;(simp at ho;subst ho);go_simp;(refine hK.out _ _ (fun h=>by simp at h) ?_;clear hK K';try simp only [pQ,pN,pZ,pS]);refine zY (by kernel_rfl) (N0 ?_) _;have hX:=HI.out.next (by rw [HZ.out.1]) hww HP.out.hF H6.out.1 H6.out.2.1 H6.out.2.2 E_.out.1 E_.out.2 nL mo nG;have HN:=mj hX;clear hX nL mo nG mt Kv DZ rZ;go_wp2_with fail
   go_roundw
   case rel=>exact ⟨j+1,_,_,by omega,by go_num,HN.out⟩
   case measure=>simp [intOf];omega
  ·obtain rfl:j=ss.length:=by omega
   obtain ⟨qN,k1,l1,aG⟩:∃ qN k1 l1,NInv F ww (20001+20*(d:Int)+(ss.length:Int)) k l n o vv ss.length env (fun k l b _ _ _=>evN d k l b env n (st.map WFr.gf)) k1 l1 [t,t] [y,no] (kT (evN d) env n k l t.args ss=some (qN,k1,l1)) (xi d k l n o t ss y no env (st.map WFr.gf)=none) true (.slice sa ss.length sc) qN a1 a2 ta c1 c2 t.args.length tc i0 w (W2.heap.size+1) 0 (.slice none 0 0) [] wr:=by
    have Ao:=(HP.out.fit.keep HP.out.hv).1;have hI:=HI.out;rcases hI.mode with ⟨qN,kj,lj,_,hev,iB,tL,IX,IT,t_,_⟩ | ⟨hev,s,tL,aT,rz⟩
    ·rw [List.take_length,List.take_of_length_le (by omega)] at hev;refine ⟨qN,kj,lj,{ but:=hI.but,zw:=hI.zw,box:=hI.box,res:=hI.res,bnd:=hI.bnd,blk:=hI.blk,own:=OL _ _ _ _,fr:=fun g hg=>by simp [N7] at hg,mode:=.inl ⟨[],kj,lj,hev,by simp [kT],rfl,tL,IX,IT,by simp [zh,zC],?_⟩ }⟩;rw [iB];refine hI.own.rep (fun g hg=>⟨.inr (by have h1:=hI.fr g hg;have h2:=HZ.out.1;omega),by simp [N7]⟩) ?_;exact (Rep.keep fun b o hf ho=>⟨⟨hf.1,by simp [N7]⟩,ho⟩).2 _ _ t_
    ·exact ⟨[],0,0,{ but:=hI.but,zw:=hI.zw,box:=hI.box,res:=hI.res,bnd:=hI.bnd,blk:=hI.blk,own:=OL _ _ _ _,fr:=fun g hg=>by simp [N7] at hg,mode:=.inr ⟨by unfold xi;rw [hev];rfl,s,tL,aT,by omega⟩ }⟩
   obtain ⟨ka,kc,hk⟩:∃ a c,Nq sa ss.length sc=.slice a ss.length c:=⟨_,_,rfl⟩;rw [hk] at aG;have DG:=mj aG;clear aG hk;have Le:ss.length<=15:=by
    have o7:=gr _ HP.out.ok vv _ HP.out.hv;rw [okM] at o7;have h1:=(kZ o7.1).2;have h2:=(HP.out.fit.keep HP.out.hv).1;omega
   clear HI y0 y1 y3 q0 q1 q2 q3 qf z5 m_ hj;go_wp2_with fail
   clear y2
   go_loopw [14] (fun i wr=>∃ (j:Nat) (sv:Value) (us:List Value),j<=2/\i=.int .i64 j/\NInv F ww (20001+20*(d:Int)+(ss.length:Int)) k l n o vv ss.length env (fun k l b _ _ _=>evN d k l b env n (st.map WFr.gf)) k1 l1 [t,t] [y,no] (kT (evN d) env n k l t.args ss=some (qN,k1,l1)) (xi d k l n o t ss y no env (st.map WFr.gf)=none) true (.slice ka ss.length kc) qN a1 a2 ta c1 c2 t.args.length tc i0 w (W2.heap.size+1) j sv us wr) (fun i _=>2-(intOf i).toNat)
   case atStart=>exact ⟨0,_,_,by omega,rfl,DG.out⟩
   case round =>
    rename_i wr;obtain ⟨j,sv1,us,hj,rfl,nQ⟩:=hrel;obtain ⟨sa,sc,e⟩:=nQ.own.slice;subst e;obtain ⟨y0,y1,y2,y3⟩:=kE nQ.box;obtain ⟨q0,q1,q2,q3,qlt,qf⟩:=nQ.blk.cells;have HI:=mj nQ;clear nQ;by_cases m_:j<2
    ·have rF:(j:Int)<2:=by omega
     have KL:Rep F w (.sl 47 4 [y,no].length (zh [y,no])) (.slice a2 2 c2):=by
      have sY:=HP.out.rb;rw [xK] at sY;simp only [zQ,zC] at sY;obtain ⟨_,_,e0,_,_,_,rfl,_,_,_,rfl,_,_,_,rfl,h3,_⟩:=sY;simp only [Od] at e0;obtain ⟨_,_,_,e2,_⟩:=e0;rw [e2];exact h3
     obtain ⟨ya,yc,e,KM⟩:=bH.of KL;simp only [N_] at e;obtain ⟨rfl,_,rfl⟩:=e;obtain ⟨kb,ko,s',v',A8,ow,A7,DE,Bu,DC,sd,e,aL,oK,g0,g1,g2,g3,tF⟩:=KM j m_;subst e;have DN:=HP.out.fit.keep HP.out.hv;have hne:kb≠ww:=node_ne HP.out.wri g0;have p0:=(HI.out.but.cell (p:=⟨kb,ko+j*4,none⟩) aL hne).trans g0;have p1:=(HI.out.but.cell (p:=⟨kb,ko+j*4+1,none⟩) aL hne).trans g1;have p2:=(HI.out.but.cell (p:=⟨kb,ko+j*4+2,none⟩) aL hne).trans g2;have p3:=(HI.out.but.cell (p:=⟨kb,ko+j*4+3,none⟩) aL hne).trans g3;have Cw:But (· = ww) w wr.drew:=HI.out.but.drew;have aB:∀ b,(F b/\b<w.heap.size)->¬ (b=ww)/\(F b/\b<w.heap.size):=fun b hb=>⟨HP.out.hF b hb.1,hb⟩;have Ee:zW (fun i=>F i/\i<w.heap.size) wr.drew (kL sd) [str s',.int .i64 v',.slice A8 ow A7,.slice DE Bu DC]:=(zW.low tF).but Cw aB;have Dj:=(Rep.low HP.out.re).but Cw aB;have Lo:=(Rep.low HP.out.rs).but Cw aB;have oX:=HP.out.el;have ia:=HP.out.nl;have BL:=HP.out.ld;have I6:=HP.out.d20;have Ap:=HP.out.k200;have FP:=HP.out.stl;have hfj:jb H sd env (st.map WFr.gf):=by
      rcases (by omega:j=0\/j=1) with rfl | rfl
      ·simp at oK;subst oK;exact DN.2.2.2.1
      ·simp at oK;subst oK;exact DN.2.2.2.2
     have hwj:wfB sd:=by
      rcases (by omega:j=0\/j=1) with rfl | rfl
      ·simp at oK;subst oK;exact HP.out.wf.1.2.1
      ·simp at oK;subst oK;exact HP.out.wf.1.2.2
     have Fj:[t,t][j]? = some t:=by
      rcases (by omega:j=0\/j=1) with rfl | rfl <;> rfl
     have sQ:=dZ (f:=fun k l b _ _ _=>evN d k l b env n (st.map WFr.gf)) (env:=env) (n:=n) (k:=k1) (l:=l1) Fj oK
     obtain ⟨oo,Na,Fz,Fy⟩:∃ oo,Calls KD 74 #[.pointer (some ⟨ww,0,none⟩),.agg #[str s',.int .i64 v',.slice A8 ow A7,.slice DE Bu DC],.slice (some ⟨eb,eo,none⟩) env.length ecap,sv,.int .i64 (n:Nat)] wr.drew (vm (fun i=>F i/\i<w.heap.size) ww (20001+20*(d:Int)+(ss.length:Int)+((j+1:Nat):Int)) oo wr.drew) /\
      (oo=none->xi d k l n o t ss y no env (st.map WFr.gf)=none) /\
      (∀ x,oo=some x->∃ zs,kT (evN d) env n k l t.args ss=some (qN,k1,l1)/\kT (fun k l b _ _ _=>evN d k l b env n (st.map WFr.gf)) env n k1 l1 ([t,t].take (j+1)) ([y,no].take (j+1))=some (zs++[x.1],x.2.1,x.2.2)/\zs.length=j/\x.2.1<=k/\x.2.2<=l/\zW (fun i=>Fx F w 4 i/\(Nq sa j sc).ownBlock≠some i) wr (zh zs) us /\
       Rep (fun i=>Fx F w 4 i/\(Nq sa j sc).ownBlock≠some i) wr (.sl 47 4 qN.length (zh qN)) (.slice ka ss.length kc)):=by
      rcases HI.out.mode with ⟨zs,kj,lj,hA,hev,iB,tL,IX,IT,t_,rD⟩ | ⟨hev,s,tL,aT,rz⟩
      ·refine ⟨evN d kj lj sd env n (st.map WFr.gf),(IH.out _ ww kj lj n H sd env st s' v' A8 DE ow A7 Bu DC _ _ wr.drew { wri:=tL,hF:=fun i hi=>HP.out.hF i hi.1,ld:=by omega,d20:=I6,k200:=by omega,fit:=hfj,hn:=HP.out.hn,el:=by omega,nl:=by omega,stl:=by omega,ok:=qU (by omega) _ HP.out.ok,okg:=vg (by omega) _ HP.out.okg,wf:=⟨hwj,HP.out.wf.2⟩,rb:=Ee,re:=Dj,rs:=Lo }).mono ?_,fun h=>?_,fun x h=>?_⟩
       ·rintro en w' ⟨q1,q2,q3,q4,q5,q6,q7,q8,q9,JI,Gz,JH⟩;exact ⟨q1,q2,q3,q4,q5,q6,q7,q8,q9,JI,fun h=>by obtain ⟨st,u1,u2,u3⟩:=Gz h;exact ⟨st,u1,u2,by omega⟩,JH⟩
       ·have aA:kT (fun k l b _ _ _=>evN d k l b env n (st.map WFr.gf)) env n k1 l1 [t,t] [y,no]=none:=by
         refine pV (j+1) _ _ _ _ ?_;rw [sQ,hev];simp only [Mm];rw [h];rfl
        exact keptN_none hA aA
       ·have rL:=evN_left _ _ _ _ _ _ _ _ _ _ h;exact ⟨zs,hA,by rw [sQ,hev];simp only [Mm];rw [h];rfl,iB,mh rL.1 IX,mh rL.2 IT,t_,rD⟩
      ·refine ⟨none,(fJ ww s _ s' v' A8 DE ow A7 Bu DC rfl _ _ n wr.drew tL aT (by omega)).mono ?_,fun _=>hev,fun y h=>by simp at h⟩;rintro en w' ⟨rfl,q1,q2⟩;exact ⟨_,_,_,_,_,_,_,_,rfl,q1,fun _=>⟨_,q2,by omega,by omega⟩,fun x h=>by simp at h⟩
     have CC:=mj Na;have E_:=mj (mu Fz Fy);have iv:j+1<=maxLen:=by unfold maxLen;omega
     have sT:(j+1)*72<=140737488355328:=by omega
     have h04:0<4:=by omega
     have IG:¬ (W2.heap.size+1=ww):=by rw [HZ.out.1];omega
     have NB:=mj (show ¬ (Nq sa j sc).ownBlock=some (W2.heap.size+1) from fun e=>by have:=HI.out.fr _ e;omega)
     have OWN:=mj (fun (w6:World) (h6:But (· = ww) wr.drew w6)=>(HI.out.own.keep (w':=w6) fun g o hg hh=>by
      have:=HI.out.fr g hg
      rw [h6.block g (zZ hh) (fun e=>by have e:g=ww:=e;rw [HZ.out.1] at this;omega)];exact hh))
     have sI:=HZ.out.1
     have SX:Hid (∀ w',But (fun i=>i=ww\/(Nq sa j sc).ownBlock=some i) wr w'->w'.cell? ⟨W2.heap.size+1,3,none⟩=some (.slice sa j sc)/\w'.cell? ⟨w.heap.size,3,none⟩=some (.slice (some ⟨kb,ko,none⟩) 2 c2) /\
      w'.cell? ⟨kb,ko+j*4,none⟩=some (str s')/\w'.cell? ⟨kb,ko+j*4+1,none⟩=some (.int .i64 v')/\w'.cell? ⟨kb,ko+j*4+2,none⟩=some (.slice A8 ow A7)/\w'.cell? ⟨kb,ko+j*4+3,none⟩=some (.slice DE Bu DC)/\True/\True):=by
      show ∀ w',_->_;intro w' nW
      have key:∀ {p:Addr} {u:Value},p.block<W2.heap.size+2->p.block≠ww->wr.cell? p=some u->w'.cell? p=some u:=fun hp hne hu =>
       (nW.cell (mx wr _ hu) (fun e=>e.elim hne (fun e=>by have:=HI.out.fr _ e;omega))).trans hu
      exact ⟨key (by show W2.heap.size+1<_;omega) IG q3,key (by show w.heap.size<_;omega) (by show w.heap.size≠ww;omega) y3,key (by show kb<_;omega) hne p0,key (by show kb<_;omega) hne p1,key (by show kb<_;omega) hne p2,key (by show kb<_;omega) hne p3,trivial,trivial⟩
     have q2:wr.cell? ⟨W2.heap.size+1,3,none⟩=some (.slice sa j sc):=q3;have Fe:=qf 3;clear DN hne aB Ee Lo Dj sQ Fz Fy Na KL KM g0 g1 g2 g3 tF oK Fj hfj hwj qf Cw sI y0 y1 y2 y3 q0 q1 q3 p0 p1 p2 p3;go_wp2_with fail
     refine wp_region_noPanic ?_;refine zB (fun w'=>But (fun i=>i=ww\/(Nq sa j sc).ownBlock=some i) wr w') (fun i=>i == 15) (by kernel_rfl) ?_;have mt:But (fun i=>i=ww\/(Nq sa j sc).ownBlock=some i) wr wr.drew:=(But.refl _ wr).drew;refine tC [0,1,2,3,4,5,6,7,8,9,10] mt ?_;iterate 11 (refine tl (fun w' nP=>SX.out w' nP) ?_)
     refine tz ?_;refine jK 11 (by kernel_rfl) ?_;intro o11 ho K' hK;(simp at ho;subst ho);go_simp;go_at_call 74;(with_reducible refine CC.out.mono ?_);rintro C8 w6 ⟨s6,v6,b1,m1,d1,b2,m2,d2,rfl,nJ,ij,iI⟩;have rY:Hid (But (fun i=>i=ww\/(Nq sa j sc).ownBlock=some i) wr w6):=mt.trans (nJ.weak fun i _ h=>.inl h);have Kv:=but_cell nJ IG q2;have Ik:=mg qlt nJ.size;have DZ:=but_free nJ IG qlt Fe;have rZ:=(OWN.out _ nJ).alloc (.cells #[str s6,.int .i64 v6,.slice b1 m1 d1,.slice b2 m2 d2] 47);have H6:=mj (mu nJ (mu ij iI));clear nJ ij iI;(refine hK.out _ _ (fun _=>rY.out) ?_;clear hK K';try simp only [pQ,pN,pZ,pS]);refine jK 12 (by kernel_rfl) ?_;intro o12 ho K' hK;(simp at ho;subst ho);go_simp;(refine hK.out _ _ (fun _=>rY.out.alloc _) ?_;clear hK K';try simp only [pQ,pN,pZ,pS]);refine jK 13 (by kernel_rfl) ?_;intro o13 ho K' hK;(simp at ho;subst ho);refine zS (by rfl) _ _ _ (by rfl) 47 (.agg #[str [],.int .i64 0,.slice none 0 0,.slice none 0 0]) 4 72 OV Tryz.infoN rfl h04 (.slice sa j sc) j us (by rfl) rZ _ 1 [str s6,.int .i64 v6,.slice b1 m1 d1,.slice b2 m2 d2] (by rfl) (zq.lit4 #[str s6,.int .i64 v6,.slice b1 m1 d1,.slice b2 m2 d2] rfl (by simp [str,Of]) _ rfl) iv sT ?_;intro a' c' w7 nL mo nG;(refine hK.out _ _ (fun _=>(rY.out.alloc _).trans (mo.weak fun i _ h=>.inr h)) ?_;clear hK K';try simp only [pQ,pN,pZ,pS]);have ru:=out_cell mo NB.out Kv;have oY:=out_free mo NB.out Ik DZ;refine jK 14 (by kernel_rfl) ?_;intro o14 ho K' hK;(simp at ho;subst ho);go_simp;(refine hK.out _ _ (fun _=>(rY.out.alloc _).trans (mo.weak fun i _ h=>.inr h)) ?_;clear hK K';try simp only [pQ,pN,pZ,pS]);refine jK 15 (by kernel_rfl) ?_;intro o15 ho K' hK;(simp at ho;subst ho);go_simp;(refine hK.out _ _ (fun h=>by simp at h) ?_;clear hK K';try simp only [pQ,pN,pZ,pS]);refine zY (by kernel_rfl) (N0 ?_) _;have hX:=HI.out.next (by rw [HZ.out.1]) hww HP.out.hF H6.out.1 H6.out.2.1 H6.out.2.2 E_.out.1 E_.out.2 nL mo nG;have HN:=mj hX;clear hX nL mo nG mt Kv DZ rZ;go_wp2_with fail
     go_roundw
     case rel=>exact ⟨j+1,_,_,by omega,by go_num,HN.out⟩
     case measure=>simp [intOf];omega
    ·obtain rfl:j=2:=by omega
     obtain ⟨r0,r1,r2,r3,rlt,rf⟩:=HI.out.res.cells;have sG:=rf 0;have tZ:=rf 1;have aJ:=rf 2;have iA:=rf 3;have q2':wr.cell? ⟨W2.heap.size+1,2,none⟩=some (.slice ka ss.length kc):=q2;have q3':wr.cell? ⟨W2.heap.size+1,3,none⟩=some (.slice sa 2 sc):=q3;clear q2 q3 y0 y1 y2 y3 qf rf;go_wp2_with fail
     have hnn:xi d k l n o t ss y no env (st.map WFr.gf)=none->∃ s,Wri wr ww (-1) s/\0<=s/\s<=20001+20*((d:Int)+1):=by
      intro h0;rcases HI.out.mode with ⟨zs,kj,lj,hA,hev,iB,tL,IX,IT,t_,rD⟩ | ⟨hev,s,tL,aT,rz⟩
      ·obtain ⟨z1,z2,_,h2⟩:=keptN_of (o:=o) hA hev;rw [h2] at h0;simp at h0
      ·exact ⟨s,tL,aT,by omega⟩
     have FG:∀ x,xi d k l n o t ss y no env (st.map WFr.gf)=some x->Wri wr ww (x.2.1:Nat) (20000-(x.2.2:Nat))/\zW (fun i=>(F i/\i<w.heap.size)\/w.heap.size+2<=i) wr (kL x.1) [str [],.int .i64 (o:Nat),.slice ka ss.length kc,.slice sa 2 sc]:=by
      intro x hx;rcases HI.out.mode with ⟨zs,kj,lj,hA,hev,iB,tL,IX,IT,t_,rD⟩ | ⟨hev,s,tL,aT,rz⟩
      ·obtain ⟨z1,z2,hz,h2⟩:=keptN_of (o:=o) hA hev;rw [h2] at hx;simp only [N1] at hx;subst hx;subst hz;refine ⟨tL,?_⟩
       have hgg:∀ (i:Nat) (y:Obj),(Fx F w 4 i/\(Nq sa 2 sc).ownBlock≠some i)->wr.heap[i]? = some y->((F i/\i<w.heap.size)\/w.heap.size+2<=i)/\wr.heap[i]? = some y:=fun i y hi hy=>⟨by
        rcases hi.1 with h | h
        ·exact .inl h
        ·exact .inr (by omega),hy⟩
       have Di:=(Rep.keep hgg).1 _ _ rD;have hlo:qN.length=ss.length:=by
        rw [zg] at Di;obtain ⟨_,a,cap,e,_⟩:=Di;simp only [N_] at e;exact e.2.1.symm
       rw [xK];refine zQ.2 ⟨_,_,rfl,zH.2 rfl,zQ.2 ⟨_,_,rfl,zH.2 rfl,zQ.2 ⟨_,_,rfl,Di,zQ.2 ⟨_,_,rfl,?_,zC.2 rfl⟩⟩⟩⟩;exact HI.out.own.rep (fun g hg=>.inr (by have h1:=HI.out.fr g hg;have h2:=HZ.out.1;omega)) ((Rep.keep hgg).2 _ _ t_)
      ·rw [hev] at hx;simp at hx
     obtain ⟨W4,aY,rW,rJ,rX,rG,tJ⟩:=wY (F:=F) (D:=20001+20*((d:Int)+1)) (o:=xi d k l n o t ss y no env (st.map WFr.gf)) (s:=[]) (v:=(o:Nat)) (a1:=ka) (n1:=ss.length) (c1:=kc) (a2:=sa) (n2:=2) (c2:=sc) HI.out.but hww HI.out.res hnn FG;rw [<- aY];exact bodyPost_ret (v:=.agg #[str [],.int .i64 (o:Nat),.slice ka ss.length kc,.slice sa 2 sc]) (by simp [results,Tryz.results111,go_sem,rW,rJ,rX,rG]) rfl tJ
def yq (B:Nat) (x0 x1 x2 x3:Value) (w:World):World:=(((w.setCell ⟨B,0,none⟩ x0).setCell ⟨B,1,none⟩ x1).setCell ⟨B,2,none⟩ x2).setCell ⟨B,3,none⟩ x3
theorem xw {B:Nat} {x0 x1 x2 x3:Value} {m:Nat->Prop} {a w:World} (h:But m a w) (hm:m B):But m a (yq B x0 x1 x2 x3 w) :=
 (((h.setCell (p:=⟨B,0,none⟩) (.inl hm) _).setCell (p:=⟨B,1,none⟩) (.inl hm) _).setCell (p:=⟨B,2,none⟩) (.inl hm) _).setCell (p:=⟨B,3,none⟩) (.inl hm) _
theorem wk {B:Nat} {u0 u1 u2 u3 x0 x1 x2 x3:Value} {e:TypeId} {w:World} (h:w.heap[B]? = some (.cells #[u0,u1,u2,u3] e (0,0))):(yq B x0 x1 x2 x3 w).heap[B]? = some (.cells #[x0,x1,x2,x3] e (0,0)):=by
 unfold yq;rw [zy (zy (zy (zy h)))];rfl
def leftW (ww:Nat) (wr:World):Nat:=match wr.heap[ww]? with
 | some (.cells c _ _)=>(20001-intOf (c.getD 1 (.int .i64 0))).toNat
 | _=>0
theorem wA {w:World} {ww:Nat} {k s:Int} (h:Wri w ww k s):leftW ww w=(20001-s).toNat:=by
 unfold Wri at h;unfold leftW;rw [h];simp [intOf]
structure WAt (F:Nat->Prop) (ww d k l n:Nat) (H:List Ty) (b:Bd) (env:List Mn) (st:List WFr) (s0:Bs) (v0:Int) (a1 a2:Option Addr) (n1 c1 n2 c2:Nat) (ev sv:Value) (w wr:World):Prop where
 pre:mT (Fx F w 2) ww d k l n H b env st s0 v0 a1 a2 n1 c1 n2 c2 ev sv wr
 box:wr.heap[w.heap.size]? = some (.cells #[str s0,.int .i64 v0,.slice a1 n1 c1,.slice a2 n2 c2] 47 (0,0))
 res:kQ (w.heap.size+1) 0 (.slice none 0 0) (.slice none 0 0) wr
 but:But (· = ww) w wr
 zw:w.heap.size+2<=wr.heap.size
 hww:ww<w.heap.size
theorem Fx.low {F:Nat->Prop} {ww:Nat} {w:World} (hF:∀ i,F i->i≠ww) (hww:ww<w.heap.size) (i:Nat) (h:Fx F w 2 i):i≠ww/\i≠w.heap.size/\i≠w.heap.size+1:=by
 rcases h with h | h
 ·exact ⟨hF i h.1,by have:=h.2;omega,by have:=h.2;omega⟩
 ·exact ⟨by omega,by omega,by omega⟩
theorem Fx.low' {F:Nat->Prop} {ww:Nat} {w:World} (hF:∀ i,Fx F w 2 i->i≠ww) {i:Nat} (h:Fx F w 2 i) (_:0<=i):i≠ww/\i≠w.heap.size:=by
 refine ⟨hF i h,?_⟩;rcases h with h | h
 ·have:=h.2;omega
 ·omega
theorem WAt.start {F:Nat->Prop} {ww d k l n:Nat} {H:List Ty} {b:Bd} {env:List Mn} {st:List WFr} {s0:Bs} {v0:Int} {a1 a2:Option Addr} {n1 c1 n2 c2:Nat} {ev sv:Value} {w:World}
 (h:mT F ww d k l n H b env st s0 v0 a1 a2 n1 c1 n2 c2 ev sv w) :
 WAt F ww d k l n H b env st s0 v0 a1 a2 n1 c1 n2 c2 ev sv w ((w.alloc (.cells #[str s0,.int .i64 v0,.slice a1 n1 c1,.slice a2 n2 c2] 47)).alloc (.cells #[str [],.int .i64 0,.slice none 0 0,.slice none 0 0] 47)):=by
 have hww:=h.wri.cell.2.2.2
 have kk:∀ (i:Nat) (o:Obj),F i->w.heap[i]? = some o->Fx F w 2 i/\((w.alloc (.cells #[str s0,.int .i64 v0,.slice a1 n1 c1,.slice a2 n2 c2] 47)).alloc (.cells #[str [],.int .i64 0,.slice none 0 0,.slice none 0 0] 47)).heap[i]? = some o :=
  fun i o hf ho=>⟨.inl ⟨hf,zZ ho⟩,zU (zU ho)⟩
 have hn:=zG (w.alloc (.cells #[str s0,.int .i64 v0,.slice a1 n1 c1,.slice a2 n2 c2] 47)) (.cells #[str [],.int .i64 0,.slice none 0 0,.slice none 0 0] 47);rw [zK] at hn
 exact { pre:={ wri:=zU (zU h.wri),hF:=fun i hi=>by
                 rcases hi with hi | hi
                 ·exact h.hF i hi.1
                 ·omega
                ld:=h.ld,d20:=h.d20,k200:=h.k200,fit:=h.fit,hn:=h.hn,el:=h.el,nl:=h.nl,stl:=h.stl,ok:=h.ok,okg:=h.okg,wf:=h.wf,rb:=(Rep.keep kk).2 _ _ h.rb,re:=(Rep.keep kk).1 _ _ h.re,rs:=(Rep.keep kk).1 _ _ h.rs },
         box:=zU (zG _ _),res:=hn,but:=((But.refl _ _).alloc _).alloc _,zw:=by simp only [zK];omega,hww:=hww }
theorem WAt.move {F:Nat->Prop} {ww d k l n:Nat} {H:List Ty} {b:Bd} {env:List Mn} {st:List WFr} {s0:Bs} {v0:Int} {a1 a2:Option Addr} {n1 c1 n2 c2:Nat} {ev sv:Value} {w wr:World}
 (h:WAt F ww (d+1) k (l+1) n H b env st s0 v0 a1 a2 n1 c1 n2 c2 ev sv w wr) {w8:World} {b':Bd} {env':List Mn} {st':List WFr} {rW:Bs} {Ht:Int} {a1' A8:Option Addr} {n1' c1' ow A7:Nat} {ev' sv':Value}
 (rK:But (fun i=>i=ww\/i=w.heap.size) wr w8) (GB:Wri w8 ww (k:Nat) (20000-(l:Nat)))
 (hbox:w8.heap[w.heap.size]? = some (.cells #[str rW,.int .i64 Ht,.slice a1' n1' c1',.slice A8 ow A7] 47 (0,0)))
 (fit:jb H b' env' (st'.map WFr.gf)) (el:env'.length+16*d<=1000000) (stl:st'.length+d<=40000) (ok:y8 (1000000-16*d) env') (okg:okGs (1000000-16*d) (st'.map WFr.gf)) (wf:wfB b'/\wG env'/\∀ f∈st'.map WFr.gf,wfG f)
 (rb:zW (Fx F w 2) w8 (kL b') [str rW,.int .i64 Ht,.slice a1' n1' c1',.slice A8 ow A7]) (re:Rep (Fx F w 2) w8 (.sl 145 9 env'.length (qK env')) ev') (rs:Rep (Fx F w 2) w8 (.sl 165 6 st'.length (yV st')) sv') :
 WAt F ww d k l n H b' env' st' rW Ht a1' A8 n1' c1' ow A7 ev' sv' w w8:=by
 have hz:=rK.size;have Bv:=h.zw;have hww:=h.hww;have BL:=h.pre.ld;have hd:=h.pre.d20;have ia:=h.pre.nl
 exact { pre:={ wri:=GB,hF:=h.pre.hF,ld:=by omega,d20:=by omega,k200:=h.pre.k200,fit:=fit,hn:=h.pre.hn,el:=el,nl:=by omega,stl:=stl,ok:=ok,okg:=okg,wf:=wf,rb:=rb,re:=re,rs:=rs },
         box:=hbox,res:=h.res.but rK (by omega),but:=h.but.trans' rK (fun i hi e=>by rcases e with e | e;exact e;omega),zw:=by omega,hww:=hww }
theorem bx {F:Nat->Prop} {w:World}:∀ (st:List WFr) (us:List Value),zW F w (yV st) us->∀ u∈us,u.oneCell'=true
 | [],us,h,u,hu=>by rw [yV,zC] at h;subst h;simp at hu
 | f::st,us,h,u,hu=>by
   rw [yV] at h;obtain ⟨h1,h2⟩:=h.split;rw [<- List.take_append_drop (yV st).length us] at hu;rcases List.mem_append.1 hu with hu | hu
   ·exact bx st _ h1 u hu
   ·rw [encF,xK] at h2;simp only [List.cons_append,OB,zQ,zC,zH] at h2;obtain ⟨_,_,e,rfl,_,_,rfl,rfl,x2,_,rfl,q2,x3,_,rfl,q3,x4,_,rfl,q4,_,_,rfl,rfl,rfl⟩:=h2;obtain ⟨_,tG,sn,e1,_⟩:=zg.1 q2;obtain ⟨_,tm,si,e2,_⟩:=zg.1 q3;obtain ⟨_,ea,ec,e3,_⟩:=zg.1 q4;subst e1;subst e2;subst e3;rw [e] at hu;simp only [Om,List.not_mem_nil,or_false] at hu;rcases hu with rfl | rfl | rfl | rfl | rfl | rfl <;> rfl
theorem Tryz.infoFW:(KD.info? 165).map (fun i=>(i.zero,i.size,i.bytes))=some (some (.agg #[str [],.int .i64 0,.slice none 0 0,.slice none 0 0,.slice none 0 0,.int .i64 0]),6,104):=by kernel_rfl
def WRel (F:Nat->Prop) (ww D k n:Nat) (H:List Ty) (R:Option (Bd×Nat×Nat)) (w:World) (ev sv:Value) (wr:World):Prop :=
 ∃ d l b env st s0 v0 a1 a2 n1 c1 n2 c2,d<=D/\R=evN d k l b env n (st.map WFr.gf)/\WAt F ww d k l n H b env st s0 v0 a1 a2 n1 c1 n2 c2 ev sv w wr
theorem write_step (D:Nat) (ih:∀ d,d<D->wv d):wv D:=by
 intro F ww k L n H b0 Nj st0 s00 v00 FD a20 n10 Gn n20 c20 ev0 sv0 w h
 suffices HS:∀ R,R=evN D k L b0 Nj n (st0.map WFr.gf)->Calls KD 74 #[.pointer (some ⟨ww,0,none⟩),.agg #[str s00,.int .i64 v00,.slice FD n10 Gn,.slice a20 n20 c20],ev0,sv0,.int .i64 (n:Nat)] w (vm F ww (20001+20*D) R w) from HS _ rfl
 intro R hR;have IH:=mj ih;have aG:=WAt.start h;have hD20:=h.d20;have DG:=mj aG;clear h aG ih;obtain ⟨W,hW⟩:=zzN ((w.alloc (.cells #[str s00,.int .i64 v00,.slice FD n10 Gn,.slice a20 n20 c20] 47)).alloc (.cells #[str [],.int .i64 0,.slice none 0 0,.slice none 0 0] 47));have HW:=mj hW;clear hW;have HR:=mj hR;clear hR;go_enter Tryz.func74,Tryz.ntmps74;go_upto_region 1 with (fail)
 rw [HW.out];go_wp2_with fail
 go_loopw [2,3] (fun e s wr=>WRel F ww D k n H R w e s wr) (fun _ _ wr=>leftW ww wr)
 case atStart=>exact ⟨D,L,b0,Nj,st0,s00,v00,FD,a20,n10,Gn,n20,c20,my _,HR.out,by rw [<- HW.out];exact DG.out⟩
 case round =>
  obtain ⟨d,l,b,env,st,s0,v0,a1,a2,n1,c1,n2,c2,hdD,hRe,ml⟩:=hrel;have hlm:=wA ml.pre.wri;obtain ⟨s,hs⟩:∃ s:Int,s=20000-(l:Int):=⟨_,rfl⟩;have hl20:l<=20000:=by have:=ml.pre.ld;have:=ml.pre.d20;omega
  have aT:0<=s:=by omega
  have rz:s<=20000:=by omega
  have EW:Wri wr ww (k:Nat) s:=by rw [hs];exact ml.pre.wri
  obtain ⟨k0,k1,kf,klt⟩:=EW.cell;have KF:=kf 1;have L7:=ml.pre.k200;obtain ⟨W2,rQ⟩:=zzN (wr.setCell ⟨ww,1,none⟩ (.int .i64 (s+1)));have io:Wri W2 ww (k:Nat) (s+1):=by unfold Wri at *;rw [<- rQ,zy EW];rfl
  have me:But (· = ww) wr W2:=by rw [<- rQ];exact (But.refl (· = ww) wr).setCell (p:=⟨ww,1,none⟩) (.inl rfl) _
  have hww:=ml.hww;have I9:W2.heap[w.heap.size]? = some (.cells #[str s0,.int .i64 v0,.slice a1 n1 c1,.slice a2 n2 c2] 47 (0,0)):=by
   have hx:=ml.box;rw [me.block _ (zZ hx) (by omega)];exact hx
  have rE:kQ (w.heap.size+1) 0 (.slice none 0 0) (.slice none 0 0) W2:=ml.res.but me (by omega);obtain ⟨m0,m1,mf,mlt⟩:=io.cell;have mf0:=mf 0;have rh:=mj (mu hdD (mu hRe (mu hlm (mu hs ml))));have H2:=mj (mu rQ (mu io (mu me (mu I9 rE))));obtain ⟨y0,y1,y2,y3⟩:=kE I9;clear hdD hRe hlm hs ml rQ io me I9 rE EW kf mf;by_cases Gb:k=0\/l=0
  ·have HB:=mj Gb;have G_:R=none:=by
    rw [rh.out.2.1];rcases Gb with h | h
    ·rw [h];exact evN_zk
    ·rw [h];exact evN_zl
   obtain ⟨W3,rA⟩:=zzN (W2.setCell ⟨ww,0,none⟩ (.int .i64 (-1)));have iF:Wri W3 ww (-1) (s+1):=by have:=H2.out.2.1;unfold Wri at *;rw [<- rA,zy this];rfl
   have nZ:But (· = ww) W2 W3:=by rw [<- rA];exact (But.refl (· = ww) W2).setCell (p:=⟨ww,0,none⟩) (.inl rfl) _
   have rP:kQ (w.heap.size+1) 0 (.slice none 0 0) (.slice none 0 0) W3:=H2.out.2.2.2.2.but nZ (by omega);obtain ⟨r0,r1,r2,r3,rlt,rf⟩:=rP.cells;have sG:=rf 0;have tZ:=rf 1;have aJ:=rf 2;have iA:=rf 3;have tJ:=wY (F:=F) (ww:=ww) (D:=20001+20*(D:Int)) (o:=R) (s:=[117]) (v:=0) (a1:=none) (n1:=0) (c1:=0) (a2:=none) (n2:=0) (c2:=0) ((rh.out.2.2.2.2.but.trans H2.out.2.2.1).trans nZ) hww rP (fun _=>⟨s+1,iF,by omega,by omega⟩) (fun x hx=>by rw [G_] at hx;simp at hx);have HQ:=mj (mu rA tJ);clear rA iF nZ rP rf G_ tJ;rcases Gb with hk | hl
   ·subst hk;have m0':W2.cell? ⟨ww,0,none⟩=some (.int .i64 0):=m0;have k0':wr.cell? ⟨ww,0,none⟩=some (.int .i64 0):=k0;clear m0 k0;go_upto_region 2 with (fail)
    rw [H2.out.1];go_upto_region 4 with (fail)
    rw [HQ.out.1];go_wp2_with fail
    obtain ⟨W4,aY,rW,rJ,rX,rG,hp⟩:=HQ.out.2;rw [show (Q0 ⟨#[117]⟩)=str [117] from rfl,<- aY];exact bodyPost_ret (v:=.agg #[str [117],.int .i64 0,.slice none 0 0,.slice none 0 0]) (by simp [results,PU,go_sem,rW,rJ,rX,rG]) rfl hp
   ·by_cases hk:k=0
    focus
     subst hk;have m0':W2.cell? ⟨ww,0,none⟩=some (.int .i64 0):=m0;have k0':wr.cell? ⟨ww,0,none⟩=some (.int .i64 0):=k0;clear m0 k0
    rotate_left
    focus
     have Bf:¬ ((k:Int)<1):=by omega
     have t6:(20000:Int)<s+1:=by have:=rh.out.2.2.2.1;omega
    all_goals
     go_upto_region 2 with (fail)
     rw [H2.out.1];go_upto_region 4 with (fail)
     rw [HQ.out.1];go_wp2_with fail
     obtain ⟨W4,aY,rW,rJ,rX,rG,hp⟩:=HQ.out.2;rw [show (Q0 ⟨#[117]⟩)=str [117] from rfl,<- aY];exact bodyPost_ret (v:=.agg #[str [117],.int .i64 0,.slice none 0 0,.slice none 0 0]) (by simp [results,PU,go_sem,rW,rJ,rX,rG]) rfl hp
  ·obtain ⟨k,rfl⟩:∃ k',k=k'+1:=⟨k-1,by omega⟩;obtain ⟨l,rfl⟩:∃ l',l=l'+1:=⟨l-1,by omega⟩;obtain ⟨d,rfl⟩:∃ d',d=d'+1:=⟨d-1,by have:=rh.out.2.2.2.2.pre.ld;omega⟩;have m0':W2.cell? ⟨ww,0,none⟩=some (.int .i64 ((k:Int)+1)):=by rw [m0];rfl
   have Bf:¬ ((k:Int)+1<1):=by omega
   have t6:¬ ((20000:Int)<s+1):=by have:=rh.out.2.2.2.1;omega
   have sB:s+1=20000-(l:Int):=by have:=rh.out.2.2.2.1;omega
   have Hk:=mj sB;have ly:=rh.out.2.2.2.2.pre.rb.but H2.out.2.2.1 (F':=Fx F w 2) (fun i hi=>⟨rh.out.2.2.2.2.pre.hF i hi,hi⟩);clear m0 sB Gb hl20;have re2:=rh.out.2.2.2.2.pre.re.but H2.out.2.2.1 (F':=Fx F w 2) (fun i hi=>⟨rh.out.2.2.2.2.pre.hF i hi,hi⟩);have rs2:=rh.out.2.2.2.2.pre.rs.but H2.out.2.2.1 (F':=Fx F w 2) (fun i hi=>⟨rh.out.2.2.2.2.pre.hF i hi,hi⟩);have lO:=mj (mu ly (mu re2 rs2));obtain ⟨bv,bx2,bk2,bx3,bk3,ebx,-,-⟩:=vc ly;simp only [Od,Q3,N_,and_true,true_and] at ebx;obtain ⟨eat,rfl,⟨rfl,ek2,rfl⟩,rfl,ek3,rfl⟩:=ebx;obtain ⟨sa,scap,esv⟩:∃ a c,u3=.slice a st.length c:=by have h:=rs2;rw [zg] at h;obtain ⟨_,a,c,e,_⟩:=h;exact ⟨a,c,e⟩
   clear ly re2 rs2;cases b with
   | leaf c =>
     have MS:vD (.leaf c)=[c]:=rfl;rw [eat,MS] at y0;have EAT:=mj eat;subst esv;by_cases E3:c=117
     ·subst E3;have Fw:R=some (.leaf 117,k,l):=by rw [rh.out.2.1];exact evN_u
      obtain ⟨W3,rA⟩:=zzN (W2.setCell ⟨ww,0,none⟩ (.int .i64 (k:Nat)));have iF:Wri W3 ww (k:Nat) (s+1):=by have:=H2.out.2.1;unfold Wri at *;rw [<- rA,zy this];rfl
      have nZ:But (· = ww) W2 W3:=by rw [<- rA];exact (But.refl (· = ww) W2).setCell (p:=⟨ww,0,none⟩) (.inl rfl) _
      have rP:kQ (w.heap.size+1) 0 (.slice none 0 0) (.slice none 0 0) W3:=H2.out.2.2.2.2.but nZ (by omega);obtain ⟨r0,r1,r2,r3,rlt,rf⟩:=rP.cells;have sG:=rf 0;have tZ:=rf 1;have aJ:=rf 2;have iA:=rf 3;have x0:W3.cell? ⟨w.heap.size,0,none⟩=some (.string ⟨#[117]⟩):=(nZ.cell (p:=⟨w.heap.size,0,none⟩) (mx W2 _ y0) (by show w.heap.size≠ww;omega)).trans y0;have y0':W2.cell? ⟨w.heap.size,0,none⟩=some (.string ⟨#[117]⟩):=y0
      have tJ:=wY (F:=F) (ww:=ww) (D:=20001+20*(D:Int)) (o:=R) (s:=[117]) (v:=0) (a1:=none) (n1:=0) (c1:=0) (a2:=none) (n2:=0) (c2:=0) ((rh.out.2.2.2.2.but.trans H2.out.2.2.1).trans nZ) hww rP (fun h=>by rw [Fw] at h;simp at h)
       (fun x hx=>by rw [Fw] at hx;simp only [N1] at hx;subst hx;exact ⟨by rw [<- Hk.out];exact iF,dm _ _ _⟩)
      have HQ:=mj (mu rA tJ);clear rA iF nZ rP rf Fw tJ y0;go_upto_region 2 with (fail)
      rw [H2.out.1];go_upto_region 7 with (fail)
      rw [HQ.out.1];go_wp2_with fail
      obtain ⟨W4,aY,rW,rJ,rX,rG,hp⟩:=HQ.out.2;rw [show (Q0 ⟨#[117]⟩)=str [117] from rfl,<- aY];exact bodyPost_ret (v:=.agg #[str [117],.int .i64 0,.slice none 0 0,.slice none 0 0]) (by simp [results,PU,go_sem,rW,rJ,rX,rG]) rfl hp
     ·obtain ⟨S,Kc⟩:∃ S:Bs,S=[c]:=⟨_,rfl⟩;rw [<- Kc] at y0;have e117:(S == [117])=false:=by rw [beq_eq_false_iff_ne,Kc];simpa using E3
      have ene:(S != [])=true:=by rw [bne_iff_ne,Kc];simp
      have ene2:(!S.isEmpty)=true:=by rw [Kc];rfl
      have HS1:=mj Kc;clear Kc;cases st with
      | nil =>
        have Fw:R=some (.leaf c,k,l):=by rw [rh.out.2.1];exact evN_end
        obtain ⟨W3,rA⟩:=zzN (W2.setCell ⟨ww,0,none⟩ (.int .i64 (k:Nat)));have iF:Wri W3 ww (k:Nat) (s+1):=by have:=H2.out.2.1;unfold Wri at *;rw [<- rA,zy this];rfl
        have nZ:But (· = ww) W2 W3:=by rw [<- rA];exact (But.refl (· = ww) W2).setCell (p:=⟨ww,0,none⟩) (.inl rfl) _
        have rP:kQ (w.heap.size+1) 0 (.slice none 0 0) (.slice none 0 0) W3:=H2.out.2.2.2.2.but nZ (by omega);obtain ⟨r0,r1,r2,r3,rlt,rf⟩:=rP.cells;have sG:=rf 0;have tZ:=rf 1;have aJ:=rf 2;have iA:=rf 3;have x0:W3.cell? ⟨w.heap.size,0,none⟩=some (str S):=(nZ.cell (p:=⟨w.heap.size,0,none⟩) (mx W2 _ y0) (by show w.heap.size≠ww;omega)).trans y0
        have tJ:=wY (F:=F) (ww:=ww) (D:=20001+20*(D:Int)) (o:=R) (s:=S) (v:=0) (a1:=none) (n1:=0) (c1:=0) (a2:=none) (n2:=0) (c2:=0) ((rh.out.2.2.2.2.but.trans H2.out.2.2.1).trans nZ) hww rP (fun h=>by rw [Fw] at h;simp at h)
         (fun x hx=>by rw [Fw] at hx;simp only [N1] at hx;subst hx;exact ⟨by rw [<- Hk.out];exact iF,by rw [HS1.out];exact dm _ _ _⟩)
        have HQ:=mj (mu rA tJ);clear rA iF nZ rP rf Fw tJ;rw [List.length_nil];go_upto_region 2 with (fail)
        rw [H2.out.1];go_upto_region 7 with (fail)
        rw [HQ.out.1];go_wp2_with fail
        obtain ⟨W4,aY,rW,rJ,rX,rG,hp⟩:=HQ.out.2;rw [<- aY];exact bodyPost_ret (v:=.agg #[str S,.int .i64 0,.slice none 0 0,.slice none 0 0]) (by simp [results,PU,go_sem,rW,rJ,rX,rG]) rfl hp
      | cons f st =>
        obtain ⟨tb,tO,tcap,tG,sn,tm,si,ea,ec,etop,M8,od,hcap,t0,t1,t2,t3,t4,t5,GM,Em,tF⟩:=top_rep (st:=st) lO.out.2.2;simp only [N5,N_,true_and] at etop;obtain ⟨rfl,rfl⟩:=etop;have hk:∃ i:Nat,i<2/\(i=1↔c=102):=by
         by_cases h:c=102
         ·exact ⟨1,by omega,by simp [h]⟩
         ·exact ⟨0,by omega,by simp [h]⟩
        obtain ⟨i,J1,Dr⟩:=hk;have EL:c=116\/c=102:=by
         have h:=rh.out.2.2.2.2.pre.wf.1;rw [wfB] at h;rcases h with h | h | h
         ·exact .inl h
         ·exact .inr h
         ·exact absurd h E3
        obtain ⟨pa,pc,ep,LA⟩:=bH.of (bs:=[f.yes,f.no]) GM;simp only [N_] at ep;obtain ⟨rfl,_,rfl⟩:=ep;obtain ⟨pb,po,ns,nv,rB,sR,rH,JL,nn3,JK,nx,e,hpb,DL,p0,p1,p2,p3,Ch⟩:=LA i J1;subst e;obtain ⟨nv',na2',nc2',na3',nc3',en,_,_⟩:=vc Ch;simp only [Od,Q3,N_,and_true,true_and] at en;obtain ⟨ens,rfl,⟨rfl,rfl,rfl⟩,rfl,rfl,rfl⟩:=en;rw [ens] at p0 Ch;have LK:(if c=116 then (WFr.gf f).yes else (WFr.gf f).no)=nx:=by
         rcases (by omega:i=0\/i=1) with rfl | rfl
         ·have:¬ c=102:=fun h=>by have:=Dr.2 h;omega
          have h116:c=116:=EL.resolve_right this;simp at DL;rw [if_pos h116];exact DL
         ·have h102:c=102:=Dr.1 rfl;have:¬ c=116:=by rw [h102];decide
          simp at DL;rw [if_neg this];exact DL
        have HF:=mj (mu Ch (mu Em (mu tF (mu Dr LK))));have FP:=rh.out.2.2.2.2.pre.stl;rw [N5] at FP ⊢;clear Ch Em tF LK DL GM LA ens EL;have FY:(((st.length:Int)+1) == 0)=false:=by rw [beq_eq_false_iff_ne];omega
        have AF:(st.length:Int)<=(scap:Int):=by omega
        rcases (by omega:i=0\/i=1) with rfl | rfl
        focus
         have Dr:¬ c=102:=fun h=>by have:=HF.out.2.2.2.1.2 h;omega
         simp only [Nat.zero_mul,Nat.add_zero] at p0 p1 p2 p3;have e102:(S == [102])=false:=by rw [beq_eq_false_iff_ne,HS1.out];have:=Dr;simpa using this
         go_upto_region 2 with (fail)
         rw [H2.out.1];go_upto_region 13 with (fail)
         obtain ⟨W3,rA⟩:=zzN (W2.alloc (.cells #[str [],.int .i64 (f.v:Nat),.slice tG f.ss.length sn,.slice (some ⟨pb,po,none⟩) 2 si,.slice ea f.env.length ec,.int .i64 0] 165));rw [rA];have ap:W3.heap.size=W2.heap.size+1:=by rw [<- rA];exact zK _ _
         have nZ:Below W2.heap.size W2 W3:=by rw [<- rA];exact (mw _ _).alloc (my _) _
         have u3':W3.cell? ⟨W2.heap.size,3,none⟩=some (.slice (some ⟨pb,po,none⟩) 2 si):=by rw [<- rA];simp
         have Hu:W3.cell? ⟨W2.heap.size,4,none⟩=some (.slice ea f.env.length ec):=by rw [<- rA];simp
         have r0:W3.cell? ⟨pb,po,none⟩=some (str (vD nx)):=by rw [<- rA];exact zV p0
         have r1:W3.cell? ⟨pb,po+1,none⟩=some (.int .i64 nv):=by rw [<- rA];exact zV p1
         have r2:W3.cell? ⟨pb,po+2,none⟩=some (.slice rB (qw nx).length rH):=by rw [<- rA];exact zV p2
         have r3:W3.cell? ⟨pb,po+3,none⟩=some (.slice JL (jA nx).length JK):=by rw [<- rA];exact zV p3
        rotate_left
        focus
         have Dr:c=102:=HF.out.2.2.2.1.1 rfl;simp only [Nat.one_mul,Nat.add_assoc,Nat.reduceAdd] at p0 p1 p2 p3;have e102:(S == [102])=true:=by rw [beq_iff_eq,HS1.out];have:=Dr;simpa using this
         go_upto_region 2 with (fail)
         rw [H2.out.1];go_upto_region 13 with (fail)
         obtain ⟨W3,rA⟩:=zzN (W2.alloc (.cells #[str [],.int .i64 (f.v:Nat),.slice tG f.ss.length sn,.slice (some ⟨pb,po,none⟩) 2 si,.slice ea f.env.length ec,.int .i64 0] 165));rw [rA];have ap:W3.heap.size=W2.heap.size+1:=by rw [<- rA];exact zK _ _
         have nZ:Below W2.heap.size W2 W3:=by rw [<- rA];exact (mw _ _).alloc (my _) _
         have u3':W3.cell? ⟨W2.heap.size,3,none⟩=some (.slice (some ⟨pb,po,none⟩) 2 si):=by rw [<- rA];simp
         have Hu:W3.cell? ⟨W2.heap.size,4,none⟩=some (.slice ea f.env.length ec):=by rw [<- rA];simp
         have r0:W3.cell? ⟨pb,po+4,none⟩=some (str (vD nx)):=by rw [<- rA];exact zV p0
         have r1:W3.cell? ⟨pb,po+5,none⟩=some (.int .i64 nv):=by rw [<- rA];exact zV p1
         have r2:W3.cell? ⟨pb,po+6,none⟩=some (.slice rB (qw nx).length rH):=by rw [<- rA];exact zV p2
         have r3:W3.cell? ⟨pb,po+7,none⟩=some (.slice JL (jA nx).length JK):=by rw [<- rA];exact zV p3
        all_goals
         have oD:W3.heap[w.heap.size]? = some (.cells #[str s0,.int .i64 v0,.slice a1 n1 c1,.slice a2 n2 c2] 47 (0,0)):=by rw [<- rA];exact zU H2.out.2.2.2.1
         have Ht:W3.cell? ⟨w.heap.size,0,none⟩=some (str s0):=by simp [GD,oD]
         have v1':W3.cell? ⟨w.heap.size,1,none⟩=some (.int .i64 v0):=by simp [GD,oD]
         have v2':W3.cell? ⟨w.heap.size,2,none⟩=some (.slice a1 n1 c1):=by simp [GD,oD]
         have v3':W3.cell? ⟨w.heap.size,3,none⟩=some (.slice a2 n2 c2):=by simp [GD,oD]
         have f0:W3.frozen? ⟨w.heap.size,0,none⟩=false:=by simp [N4,oD]
         have f1:W3.frozen? ⟨w.heap.size,1,none⟩=false:=by simp [N4,oD]
         have f2:W3.frozen? ⟨w.heap.size,2,none⟩=false:=by simp [N4,oD]
         have f3:W3.frozen? ⟨w.heap.size,3,none⟩=false:=by simp [N4,oD]
         have H3:=mj (mu rA (mu ap (mu nZ oD)));clear rA ap nZ oD t0 t1 t2 t3 t4 t5 p0 p1 p2 p3 y0 y1 y2 y3;go_upto_region 15 with (fail)
         obtain ⟨W4,aY⟩:=zzN (yq w.heap.size (str (vD nx)) (.int .i64 nv) (.slice rB (qw nx).length rH) (.slice JL (jA nx).length JK) W3);have Ag:=aY;unfold yq at Ag;rw [Ag];have ml:=rh.out.2.2.2.2;have Bv:=ml.zw;have sI:=H2.out.2.2.1.size;have nS:But (fun i=>i=w.heap.size) W3 W4:=by rw [<- aY];exact xw (But.refl _ _) rfl
         have u4'':W4.cell? ⟨W2.heap.size,4,none⟩=some (.slice ea f.env.length ec):=(nS.cell (p:=⟨W2.heap.size,4,none⟩) (mx W3 _ Hu) (by show W2.heap.size≠w.heap.size;omega)).trans Hu;have AS:W4.heap[w.heap.size]? = some (.cells #[str (vD nx),.int .i64 nv,.slice rB (qw nx).length rH,.slice JL (jA nx).length JK] 47 (0,0)):=by rw [<- aY];exact wk H3.out.2.2.2
         have BY:But (fun i=>i=ww\/i=w.heap.size) W2 W4:=(But.ofBelow (m:=fun i=>i=ww\/i=w.heap.size) H3.out.2.2.1).trans (nS.weak fun i _ h=>.inr h);have Bz:Wri W4 ww ((k+1:Nat):Int) (20000-(l:Nat)):=by
          have h:=H2.out.2.1;unfold Wri at *;rw [nS.block ww (by have:=H3.out.2.1;omega) (by show ww≠w.heap.size;omega),H3.out.2.2.1.block ww (by omega),h,Hk.out]
         have kp:∀ (i:Nat) (o:Obj),Fx F w 2 i->W2.heap[i]? = some o->Fx F w 2 i/\W4.heap[i]? = some o:=fun i o hi ho=>by
          have hx:=Fx.low' ml.pre.hF hi (by omega);exact ⟨hi,by rw [BY.block i (zZ ho) (fun e=>e.elim hx.1 hx.2)];exact ho⟩
         have n_:=ml.move (b':=nx) (env':=f.env) (st':=st) ((H2.out.2.2.1.weak fun i _ h=>.inl h).trans BY) Bz AS (by have:=ml.pre.fit.back c;rw [show (if c=116 then (WFr.gf f).yes else (WFr.gf f).no)=nx from HF.out.2.2.2.2] at this;exact this)
          (by have:=ml.pre.okg.1;have:=ml.pre.ld;have:=ml.pre.d20;show f.env.length+16*d<=1000000;have h9:f.env.length<=1000000-16*(d+1):=ml.pre.okg.1;omega) (by have:=ml.pre.stl;rw [N5] at this;omega) (qU (by omega) _ ml.pre.okg.2.1) (vg (by omega) _ ml.pre.okg.2.2)
          (by
           have h1:=ml.pre.wf.2.2 (WFr.gf f) (by simp);refine ⟨?_,h1.2.2,fun g hg=>ml.pre.wf.2.2 g (by rw [Ol];exact QR _ hg)⟩;rw [<- show (if c=116 then (WFr.gf f).yes else (WFr.gf f).no)=nx from HF.out.2.2.2.2];split
           ·exact h1.1
           ·exact h1.2.1)
          ((Rep.keep kp).2 _ _ HF.out.1) ((Rep.keep kp).1 _ _ HF.out.2.1) ((Rep.keep kp).1 _ _ HF.out.2.2.1)
         have CQ:R=evN d (k+1) l nx f.env n (st.map WFr.gf):=by
          rw [rh.out.2.1,Ol,evN_back E3];rw [show (if c=116 then (WFr.gf f).yes else (WFr.gf f).no)=nx from HF.out.2.2.2.2];rfl
         have HN:=mj (mu n_ (mu CQ Bz));clear n_ CQ Bz kp BY AS nS Ag aY ml sI Bv u3' Hu r0 r1 r2 r3 Ht v1' v2' v3' f0 f1 f2 f3;go_wp2_with fail
         go_roundw
         case rel=>exact ⟨d,l,nx,f.env,st,_,_,_,_,_,_,_,_,by have:=rh.out.1;omega,HN.out.2.1,HN.out.1⟩
         case measure =>
          rw [rh.out.2.2.1];refine PN (Ph (wA HN.out.2.2)) ?_;omega
   | ask v ss y no =>
     subst esv;have tV:=rh.out.2.2.2.2.pre.fit;obtain ⟨m,t,hh,hm,IR,-,-,-,-⟩:=tV.ask;have aF:=lO.out.1;rw [xK] at aF;simp only [zQ,zC] at aF;obtain ⟨_,_,e0,Cf,_,_,rfl,iz,_,_,rfl,nD,_,_,rfl,FH,rfl⟩:=aF;simp only [Od,and_true] at e0;obtain ⟨rfl,rfl,rfl,rfl⟩:=e0;rw [zH] at Cf iz;rw [Cf] at y0;rw [iz] at y1;simp only [Q3,true_and] at iz;subst iz;obtain ⟨-,ka,kc,ek,-⟩:=zg.1 nD;simp only [N_] at ek;obtain ⟨rfl,rfl,rfl⟩:=ek;obtain ⟨-,ya,yc,ey,-⟩:=zg.1 FH;simp only [N_] at ey;obtain ⟨rfl,rfl,rfl⟩:=ey;have hs00:s0=[]:=by simpa [str] using Cf
     subst hs00;have HK:=mj (mu nD (mu FH (mu Cf tV)));clear nD FH Cf tV eat ek2 ek3;cases m with
     | op o t' =>
       have ett:t'=t:=by rw [xe] at IR;exact IR.1
       subst ett;obtain ⟨eb,eo,ecap,ta,tc,i0,e,I5,hew,q0,q1,q2,q3,q4,q5,q6,q7,q8,FM⟩:=bound_op lO.out.2.1 hm;subst e;have HM:=mj (mu hm (mu IR FM));clear hm IR FM;obtain ⟨W3,rA⟩:=zzN (W2.alloc (.cells #[.int .i64 (o:Nat),str [],.int .i64 0,.slice none 0 0,.slice none 0 0,.slice ta t'.args.length tc,.slice none 0 0,.int .i64 0,.int .i64 i0] 145));have nZ:Below W2.heap.size W2 W3:=by rw [<- rA];exact (mw _ _).alloc (my _) _
       have ap:W3.heap.size=W2.heap.size+1:=by rw [<- rA];exact zK _ _
       have Dx:=(nZ.block _ (zZ H2.out.2.2.2.1)).trans H2.out.2.2.2.1;obtain ⟨x0,x1,x2,x3⟩:=kE Dx;have z0:W3.cell? ⟨W2.heap.size,0,none⟩=some (.int .i64 (o:Nat)):=by rw [<- rA];simp
       have ho0:(0:Int)<=(o:Int):=by omega
       have rP:kQ (w.heap.size+1) 0 (.slice none 0 0) (.slice none 0 0) W3:=by
        have h:=H2.out.2.2.2.2;unfold kQ at *;rw [nZ.block _ (zZ h)];exact h
       have Cd:=(N6.1 HM.out.1).1;have iz:(v:Int)<(env.length:Int):=by omega
       have ml:=rh.out.2.2.2.2;have BL:=ml.pre.ld;have I6:=ml.pre.d20;have FP:=ml.pre.stl;have k3:∀ (i:Nat) (ob:Obj),Fx F w 2 i->W2.heap[i]? = some ob->Fx F w 2 i/\W3.heap[i]? = some ob:=fun i ob hi hh=>⟨hi,by rw [nZ.block i (zZ hh)];exact hh⟩;have KR:Wri W3 ww ((k:Nat)+1) (20000-(l:Nat)):=by
        have h:=H2.out.2.1;unfold Wri at *;rw [nZ.block ww (zZ h),h,Hk.out];rfl
       have C:=mj (keepN_any d (IH.out d (by have:=rh.out.1;omega)) (Fx F w 2) ww k l n v o H t' ss y no env st 0 a1 a2 c1 c2 (.slice (some ⟨eb,eo,none⟩) env.length ecap) (.slice sa st.length scap) W3
        { wri:=KR,hF:=ml.pre.hF,ld:=by omega,d20:=by omega,k200:=by omega,hv:=HM.out.1,fit:=ml.pre.fit,hn:=ml.pre.hn,el:=ml.pre.el,nl:=ml.pre.nl,stl:=by omega,ok:=ml.pre.ok,okg:=ml.pre.okg,wf:=ml.pre.wf,
          rb:=(Rep.keep k3).2 _ _ lO.out.1,re:=(Rep.keep k3).1 _ _ lO.out.2.1,rs:=(Rep.keep k3).1 _ _ lO.out.2.2 })
       have Fw:R=xi d k l n o t' ss y no env (st.map WFr.gf):=by rw [rh.out.2.1];exact evN_op HM.out.1
       have H3:=mj (mu rA (mu nZ (mu ap (mu rP Fw))));clear rA nZ ap Dx rP Cd ml KR Fw k3 BL;go_upto_region 2 with (fail)
       rw [H2.out.1];go_upto_region 17 with (fail)
       rw [H3.out.1];go_wp2_with fail
       (with_reducible refine C.out.mono ?_);rintro en w9 ⟨s9,v9,b1,p1,d1,b2,p2,d2,rfl,rR,BK,Bx⟩
       have lX:=H3.out.2.2.2.1.but rR (show ¬ (w.heap.size+1=ww) by omega);obtain ⟨r0,r1,r2,r3,rlt,rf⟩:=lX.cells;have sG:=rf 0;have tZ:=rf 1;have aJ:=rf 2;have iA:=rf 3
       have tJ:=wY (F:=F) (ww:=ww) (D:=20001+20*(D:Int)) (o:=R) (s:=s9) (v:=v9) (a1:=b1) (n1:=p1) (c1:=d1) (a2:=b2) (n2:=p2) (c2:=d2) (((rh.out.2.2.2.2.but.trans H2.out.2.2.1).trans (But.ofBelow H3.out.2.1)).trans rR) hww lX
        (fun h=>by
         obtain ⟨st',u1,u2,u3⟩:=BK (by rw [<- H3.out.2.2.2.2];exact h)
         exact ⟨st',u1,u2,by have:=rh.out.1;omega⟩)
        (fun x hx=>by
         obtain ⟨u1,u2⟩:=Bx x (by rw [<- H3.out.2.2.2.2];exact hx);refine ⟨u1,(Rep.keep fun i ob hi hh=>⟨?_,hh⟩).2 _ _ u2⟩;rcases hi with h | h
         ·exact h
         ·have h1:=H3.out.2.2.1;have h2:=rh.out.2.2.2.2.zw;have h3:=H2.out.2.2.1.size
          exact .inr (by omega))
       have HQ:=mj tJ;clear tJ rR BK Bx lX rf;go_wp2_with fail
       obtain ⟨W4,aY,rW,rJ,rX,rG,hp⟩:=HQ.out;rw [<- aY];exact bodyPost_ret (v:=.agg #[str s9,.int .i64 v9,.slice b1 p1 d1,.slice b2 p2 d2]) (by simp [results,PU,go_sem,rW,rJ,rX,rG]) rfl hp
     | bd t' b' e' =>
       have ett:t'=t:=by rw [xe] at IR;exact IR.1
       subst ett;obtain ⟨eb,eo,ecap,ta,tc,bs,bv,tG,E6,sn,tm,E5,si,ha,hcap,i0,e,I5,hew,q0,q1,q2,q3,q4,q5,q6,q7,q8,FM,sY,Em⟩:=bound_bd lO.out.2.1 hm;subst e;obtain ⟨Ld,G4⟩:=HK.out.2.2.2.call hm;obtain ⟨xs,Al,rO⟩:=zq.ofRep lO.out.2.2 (bx st);have rq:=gr _ rh.out.2.2.2.2.pre.ok v _ hm;rw [okM] at rq;have it:=wfMs_at _ rh.out.2.2.2.2.pre.wf.2.1 v _ hm;rw [wfM] at it;have nX:=(kZ rq.1).2;have Le:ss.length<=15:=by omega
       have oX:=rh.out.2.2.2.2.pre.el;have rL:e'.length<=1000000:=by have:=rq.2.1;omega
       have HM:=mj (mu hm (mu FM (mu sY (mu Em (mu Ld (mu G4 (mu Al (mu rO (mu rq it)))))))));clear hm IR FM sY Em Ld G4 Al rO rq it nX;obtain ⟨W3,rA⟩:=zzN (W2.alloc (.cells #[.int .i64 (-1),str bs,.int .i64 bv,.slice tG E6 sn,.slice tm E5 si,.slice ta t'.args.length tc,.slice ha e'.length hcap,.int .i64 0,.int .i64 i0] 145));have nZ:Below W2.heap.size W2 W3:=by rw [<- rA];exact (mw _ _).alloc (my _) _
       have ap:W3.heap.size=W2.heap.size+1:=by rw [<- rA];exact zK _ _
       have Dx:=(nZ.block _ (zZ H2.out.2.2.2.1)).trans H2.out.2.2.2.1;have ML:W3.heap[W2.heap.size]? = some (.cells #[.int .i64 (-1),str bs,.int .i64 bv,.slice tG E6 sn,.slice tm E5 si,.slice ta t'.args.length tc,.slice ha e'.length hcap,.int .i64 0,.int .i64 i0] 145 (0,0)):=by rw [<- rA];exact zG _ _
       obtain ⟨x0,x1,x2,x3⟩:=kE Dx;have z0:W3.cell? ⟨W2.heap.size,0,none⟩=some (.int .i64 (-1)):=by rw [<- rA];simp
       have Cd:=(N6.1 HM.out.1).1;have iz:(v:Int)<(env.length:Int):=by omega
       have hwB:w.heap.size<W3.heap.size:=by have:=rh.out.2.2.2.2.zw;have:=H2.out.2.2.1.size;omega
       have FP:st.length<=40000:=by have:=rh.out.2.2.2.2.pre.stl;omega
       have H3:=mj (mu rA (mu nZ (mu ap (mu Dx ML))));have SX:Hid (∀ w',Below W3.heap.size W3 w'->w'.cell? ⟨w.heap.size,0,none⟩=some (str [])/\w'.cell? ⟨w.heap.size,1,none⟩=some (.int .i64 (v:Nat))/\w'.cell? ⟨w.heap.size,2,none⟩=some (.slice a1 ss.length c1)/\w'.cell? ⟨w.heap.size,3,none⟩=some (.slice a2 2 c2)):=by
        show ∀ w',_->_;intro w' nW;exact ⟨(nW.cell (by show w.heap.size<_;omega)).trans x0,(nW.cell (by show w.heap.size<_;omega)).trans x1,(nW.cell (by show w.heap.size<_;omega)).trans x2,(nW.cell (by show w.heap.size<_;omega)).trans x3⟩
       have SRC:Hid (∀ w',Below W3.heap.size W3 w'->zq 6 (.slice sa st.length scap) st.length xs w'):=by
        show ∀ w',_->_;intro w' nW;exact (HM.out.2.2.2.2.2.2.2.1.belowAll nZ (my _)).belowAll nW (my _)
       clear rA nZ ap Dx ML Cd x0 x1 x2 x3;go_upto_region 2 with (fail)
       rw [H2.out.1];go_upto_region 17 with (fail)
       rw [H3.out.1];go_upto_region 19 with (fail)
       refine wp_region_noPanic ?_;refine zB (fun w'=>Below W3.heap.size W3 w') (fun _=>false) (by kernel_rfl) ?_;have mt:Below W3.heap.size W3 W3.drew:=Below.drew (mw _ _);refine tC [1,3,4,5] mt ?_;iterate 4 (refine tl (fun w' nP=>SX.out w' nP) ?_)
       refine tz ?_;refine qJ 0 6 (by kernel_rfl) ?_ ?_
       ·(intro o0 ho K' hK;simp at ho;subst ho);go_simp
        (refine hK.out _ _ (fun _=>(mt.alloc (my _) (.cells #[] 165))) ?_;clear hK K';try simp only [pQ,pN,pZ,pS]);refine qJ 2 6 (by kernel_rfl) ?_ ?_
        focus
         (intro o2 ho K' hK;simp at ho;subst ho);refine zS (by rfl) _ _ _ (by rfl) 165 (.agg #[str [],.int .i64 0,.slice none 0 0,.slice none 0 0,.slice none 0 0,.int .i64 0]) 6 104 Px Tryz.infoFW rfl (by decide) (.slice (some ⟨W3.heap.size,0,none⟩) 0 0) 0 [] (by rfl) (Own.litAt #[] 0 _ rfl (by decide) rfl) _ st.length xs (by rfl) (SRC.out _ (mt.alloc (my _) (.cells #[] 165))) (by unfold maxLen;omega) (by omega) ?_
         intro a5 c5 w5 iV nR iY;simp only [PD,OB] at iV iY ⊢;have sw:Below W3.heap.size W3 w5:=(mt.alloc (my _) (.cells #[] 165)).trans (nR.toBelow ((mt.alloc (my _) (.cells #[] 165))).size fun i hi e=>by simp [N7] at e;omega);have oq:Hid (∀ g,(Nq a5 st.length c5).ownBlock=some g->W3.heap.size<=g):=fun g hg=>by rcases iY g hg with h | h;simp [N7] at h;omega;have h:g=W3.heap.size+1:=h.trans (zK _ _);omega
         (refine hK.out _ _ (fun _=>sw) ?_;clear hK K';try simp only [pQ,pN,pZ,pS]);refine oC 6 (sw.alloc sw.size _) ?_
         (refine on 7 ?_;intro o ho K' hK;simp at ho;subst ho);refine zS (by rfl) _ _ _ (by rfl) 165 (.agg #[str [],.int .i64 0,.slice none 0 0,.slice none 0 0,.slice none 0 0,.int .i64 0]) 6 104 Px Tryz.infoFW rfl (by decide) (.slice a5 st.length c5) st.length xs (by rfl) (iV.alloc _) _ 1 [str [],.int .i64 (v:Nat),.slice a1 ss.length c1,.slice a2 2 c2,.slice (some ⟨eb,eo,none⟩) env.length ecap,.int .i64 0] (by rfl) (zq.lit1 #[str [],.int .i64 (v:Nat),.slice a1 ss.length c1,.slice a2 2 c2,.slice (some ⟨eb,eo,none⟩) env.length ecap,.int .i64 0] rfl (by simp [str,Of]) _ (by rfl)) (by unfold maxLen;omega) (by omega) ?_
         intro a7 c7 w7 nL mo nG;have sf:Below W3.heap.size W3 w7:=(sw.alloc sw.size (.cells #[str [],.int .i64 (v:Nat),.slice a1 ss.length c1,.slice a2 2 c2,.slice (some ⟨eb,eo,none⟩) env.length ecap,.int .i64 0] 165)).trans (mo.toBelow ((sw.alloc sw.size (.cells #[str [],.int .i64 (v:Nat),.slice a1 ss.length c1,.slice a2 2 c2,.slice (some ⟨eb,eo,none⟩) env.length ecap,.int .i64 0] 165))).size fun i hi e=>by have:=oq.out i e;omega);have sj:∀ g,(Nq a7 (st.length+1) c7).ownBlock=some g->W3.heap.size<=g:=fun g hg=>by rcases nG g hg with h | h;exact oq.out g h;exact mh ((sw.alloc sw.size (.cells #[str [],.int .i64 (v:Nat),.slice a1 ss.length c1,.slice a2 2 c2,.slice (some ⟨eb,eo,none⟩) env.length ecap,.int .i64 0] 165))).size (Ph h.symm)
        rotate_left
        focus
         (intro o6 ho K' hK;simp at ho;subst ho);go_simp
         refine hK.out _ _ (fun _=>?_) ?_
         ·exact ((mt.alloc (my _) (.cells #[] 165)).alloc (by rw [zK];exact OO _) (.cells #[str [],.int .i64 (v:Nat),.slice a1 ss.length c1,.slice a2 2 c2,.slice (some ⟨eb,eo,none⟩) env.length ecap,.int .i64 0] 165))
         clear hK K';(try simp only [pQ,pN,pZ,pS]);(refine on 2 ?_;intro o ho K' hK;simp at ho;subst ho);refine zS (by rfl) _ _ _ (by rfl) 165 (.agg #[str [],.int .i64 0,.slice none 0 0,.slice none 0 0,.slice none 0 0,.int .i64 0]) 6 104 Px Tryz.infoFW rfl (by decide) (.slice (some ⟨W3.heap.size,0,none⟩) 0 0) 0 [] (by rfl) ((Own.litAt #[] 0 _ rfl (by decide) rfl).alloc _) _ st.length xs (by rfl) (SRC.out _ ((mt.alloc (my _) (.cells #[] 165)).alloc (by rw [zK];exact OO _) (.cells #[str [],.int .i64 (v:Nat),.slice a1 ss.length c1,.slice a2 2 c2,.slice (some ⟨eb,eo,none⟩) env.length ecap,.int .i64 0] 165))) (by unfold maxLen;omega) (by omega) ?_;intro a5 c5 w5 iV nR iY;simp only [PD,OB] at iV iY ⊢;have sw:Below W3.heap.size W3 w5:=((mt.alloc (my _) (.cells #[] 165)).alloc (by rw [zK];exact OO _) (.cells #[str [],.int .i64 (v:Nat),.slice a1 ss.length c1,.slice a2 2 c2,.slice (some ⟨eb,eo,none⟩) env.length ecap,.int .i64 0] 165)).trans (nR.toBelow (((mt.alloc (my _) (.cells #[] 165)).alloc (by rw [zK];exact OO _) (.cells #[str [],.int .i64 (v:Nat),.slice a1 ss.length c1,.slice a2 2 c2,.slice (some ⟨eb,eo,none⟩) env.length ecap,.int .i64 0] 165))).size fun i hi e=>by simp [N7] at e;omega);have oq:Hid (∀ g,(Nq a5 st.length c5).ownBlock=some g->W3.heap.size<=g):=fun g hg=>by rcases iY g hg with h | h;simp [N7] at h;omega;have h:g=W3.heap.size+1+1:=h.trans (xt W3 _ _);omega
         have Jj:zq 6 (.slice (some ⟨W3.heap.size+1,0,none⟩) 1 1) 1 #[str [],.int .i64 (v:Nat),.slice a1 ss.length c1,.slice a2 2 c2,.slice (some ⟨eb,eo,none⟩) env.length ecap,.int .i64 0].toList w5:=(zq.lit1 #[str [],.int .i64 (v:Nat),.slice a1 ss.length c1,.slice a2 2 c2,.slice (some ⟨eb,eo,none⟩) env.length ecap,.int .i64 0] rfl (by simp [str,Of]) _ (by simp):zq 6 (.slice (some ⟨W3.heap.size+1,0,none⟩) 1 1) 1 #[str [],.int .i64 (v:Nat),.slice a1 ss.length c1,.slice a2 2 c2,.slice (some ⟨eb,eo,none⟩) env.length ecap,.int .i64 0].toList ((W3.drew.alloc (.cells #[] 165)).alloc (.cells #[str [],.int .i64 (v:Nat),.slice a1 ss.length c1,.slice a2 2 c2,.slice (some ⟨eb,eo,none⟩) env.length ecap,.int .i64 0] 165))).thru nR (fun e=>by simp [N7] at e);(refine hK.out _ _ (fun _=>sw) ?_;clear hK K';try simp only [pQ,pN,pZ,pS]);(refine on 7 ?_;intro o ho K' hK;simp at ho;subst ho);refine zS (by rfl) _ _ _ (by rfl) 165 (.agg #[str [],.int .i64 0,.slice none 0 0,.slice none 0 0,.slice none 0 0,.int .i64 0]) 6 104 Px Tryz.infoFW rfl (by decide) (.slice a5 st.length c5) st.length xs (by rfl) (iV) _ 1 [str [],.int .i64 (v:Nat),.slice a1 ss.length c1,.slice a2 2 c2,.slice (some ⟨eb,eo,none⟩) env.length ecap,.int .i64 0] (by rfl) (Jj) (by unfold maxLen;omega) (by omega) ?_;intro a7 c7 w7 nL mo nG;have sf:Below W3.heap.size W3 w7:=sw.trans (mo.toBelow (sw).size fun i hi e=>by have:=oq.out i e;omega);have sj:∀ g,(Nq a7 (st.length+1) c7).ownBlock=some g->W3.heap.size<=g:=fun g hg=>by rcases nG g hg with h | h;exact oq.out g h;exact mh (sw).size (Ph h.symm)
        all_goals
         (refine hK.out _ _ (fun _=>sf) ?_;clear hK K';try simp only [pQ,pN,pZ,pS]);refine oC 8 sf ?_
         refine zY (by kernel_rfl) (N0 ?_) _;clear nR iY iV mo nG sw;have H7:=mj (mu nL (mu sf sj));clear nL sf sj mt;have ap:=H3.out.2.2.1;have JM:=H7.out.2.1.size;have Bv:=rh.out.2.2.2.2.zw;have sI:=H2.out.2.2.1.size;have al:=(H7.out.2.1.block W2.heap.size (by omega)).trans H3.out.2.2.2.2;have lS:=(H7.out.2.1.block w.heap.size (by omega)).trans H3.out.2.2.2.1;have g5:w7.cell? ⟨W2.heap.size,5,none⟩=some (.slice ta t'.args.length tc):=by simp [GD,al]
         have g6:w7.cell? ⟨W2.heap.size,6,none⟩=some (.slice ha e'.length hcap):=by simp [GD,al]
         have x2:w7.cell? ⟨w.heap.size,2,none⟩=some (.slice a1 ss.length c1):=by simp [GD,lS]
         have k7:∀ (i:Nat) (ob:Obj),Fx F w 2 i->W2.heap[i]? = some ob->Fx F w 2 i/\w7.heap[i]? = some ob:=fun i ob hi hh=>by
          have hl:=zZ hh;exact ⟨hi,by rw [H7.out.2.1.block i (by omega),H3.out.2.1.block i hl];exact hh⟩
         have Fc:=(cX (Fx F w 2) e' env ss t' (.slice ha e'.length hcap) (.slice a1 ss.length c1) (.slice ta t'.args.length tc) (.slice (some ⟨eb,eo,none⟩) env.length ecap) w7 ((Rep.keep k7).1 _ _ HM.out.2.2.2.1) ((Rep.keep k7).1 _ _ HK.out.1) ((Rep.keep k7).1 _ _ HM.out.2.1) ((Rep.keep k7).1 _ _ lO.out.2.1) (by omega) HM.out.2.2.2.2.1 (by omega));rw [show ((0:Nat):Int)=0 from rfl] at Fc;have CH:=mj Fc;clear Fc;have Hh:=mj (mu al (mu lS k7));clear al lS k7 ap sI;go_wp2_with fail
         (with_reducible refine CH.out.mono ?_);rintro en w8 ⟨a8,c8,rfl,rK,iJ⟩
         have ap:=H3.out.2.2.1;have hz8:=rK.size;have tp:=(rK.block W2.heap.size (by omega)).trans Hh.out.1;have rV:=(rK.block w.heap.size (by omega)).trans Hh.out.2.1;have p1:w8.cell? ⟨W2.heap.size,1,none⟩=some (str bs):=by simp [GD,tp]
         have p2:w8.cell? ⟨W2.heap.size,2,none⟩=some (.int .i64 bv):=by simp [GD,tp]
         have p3:w8.cell? ⟨W2.heap.size,3,none⟩=some (.slice tG E6 sn):=by simp [GD,tp]
         have p4:w8.cell? ⟨W2.heap.size,4,none⟩=some (.slice tm E5 si):=by simp [GD,tp]
         have d0:w8.cell? ⟨w.heap.size,0,none⟩=some (str []):=by simp [GD,rV]
         have d1:w8.cell? ⟨w.heap.size,1,none⟩=some (.int .i64 (v:Nat)):=by simp [GD,rV]
         have d2:w8.cell? ⟨w.heap.size,2,none⟩=some (.slice a1 ss.length c1):=by simp [GD,rV]
         have d3:w8.cell? ⟨w.heap.size,3,none⟩=some (.slice a2 2 c2):=by simp [GD,rV]
         have f0:w8.frozen? ⟨w.heap.size,0,none⟩=false:=by simp [N4,rV]
         have f1:w8.frozen? ⟨w.heap.size,1,none⟩=false:=by simp [N4,rV]
         have f2:w8.frozen? ⟨w.heap.size,2,none⟩=false:=by simp [N4,rV]
         have f3:w8.frozen? ⟨w.heap.size,3,none⟩=false:=by simp [N4,rV]
         have H8:=mj (mu rK (mu iJ rV));clear rK iJ tp rV g5 g6 x2 ap;go_upto_region 22 with (fail)
         obtain ⟨W9,Cz⟩:=zzN (yq w.heap.size (str bs) (.int .i64 bv) (.slice tG E6 sn) (.slice tm E5 si) w8);have Ag:=Cz;unfold yq at Ag;rw [Ag];have n_:WAt F ww d (k+1) l n H b' (e'++jZ env t'.args ss) (⟨v,ss,y,no,env⟩::st) bs bv tG tm E6 sn E5 si (.slice a8 (e'.length+(jZ env t'.args ss).length) c8) (.slice a7 (st.length+1) c7) w W9:=by
          have ml:=rh.out.2.2.2.2;have sI:=H2.out.2.2.1.size;have ap:=H3.out.2.2.1;have rR:But (fun i=>i=w.heap.size) w8 W9:=by rw [<- Cz];exact xw (But.refl _ _) rfl
          have lI:But (fun i=>i=ww\/i=w.heap.size) W2 W9:=(((But.ofBelow (m:=fun i=>i=ww\/i=w.heap.size) H3.out.2.1).trans (But.ofBelow (H7.out.2.1))).trans (But.ofBelow H8.out.1)).trans (rR.weak fun i _ h=>.inr h);have hz9:=lI.size;have iB:(jZ env t'.args ss).length=t'.args.length:=wS _ _ HM.out.2.2.2.2.1;have rq:=HM.out.2.2.2.2.2.2.2.2.1;have it:=HM.out.2.2.2.2.2.2.2.2.2;have BL:=ml.pre.ld;have I6:=ml.pre.d20;have GI:=ml.pre.stl;have kp:∀ (i:Nat) (ob:Obj),Fx F w 2 i->W2.heap[i]? = some ob->Fx F w 2 i/\W9.heap[i]? = some ob:=fun i ob hi ho=>by
           have hx:=Fx.low' ml.pre.hF hi (by omega);exact ⟨hi,by rw [lI.block i (zZ ho) (fun e=>e.elim hx.1 hx.2)];exact ho⟩
          refine ml.move ((H2.out.2.2.1.weak fun i _ h=>.inl h).trans lI) ?_ (by rw [<- Cz];exact wk H8.out.2.2) HM.out.2.2.2.2.2.1 (by rw [NZ,iB];have:=rq.2.1;have:=HM.out.2.2.2.2.1;omega) (by rw [N5];omega)
           (jx _ _ (qU (by omega) _ rq.2.2) (wT (qU (by omega) _ ml.pre.ok) (by omega) _ _ (kZ rq.1).1)) ⟨by show env.length<=_;omega,qU (by omega) _ ml.pre.ok,vg (by omega) _ ml.pre.okg⟩
           ⟨it.1,ju _ _ it.2 (wP ml.pre.wf.2.1 _ _ ml.pre.wf.1.1),fun f hf=>?_⟩ ((Rep.keep kp).2 _ _ HM.out.2.2.1) ?_ ?_
          ·have h:=H2.out.2.1;unfold Wri at *;rw [rR.block ww (by omega) (by show ww≠w.heap.size;omega),H8.out.1.block ww (by omega),H7.out.2.1.block ww (by omega),H3.out.2.1.block ww (by omega),h,Hk.out]
          ·rw [Ol] at hf;rcases Om.1 hf with rfl | hf
           ·exact ⟨ml.pre.wf.1.2.1,ml.pre.wf.1.2.2,ml.pre.wf.2.1⟩
           ·exact ml.pre.wf.2.2 f hf
          ·rw [NZ];refine (Rep.keep fun i ob hi ho=>?_).1 _ _ H8.out.2.1;have hx:Fx F w 2 i:=by
            rcases hi with h | h
            ·exact h
            ·exact .inr (by omega)
           exact ⟨hx,by rw [rR.block i (zZ ho) (Fx.low' ml.pre.hF hx (by omega)).2];exact ho⟩
          ·rw [N5];refine (H7.out.1.keep (w':=W9) fun g o hg ho=>?_).rep (fun g hg=>.inr (by have:=H7.out.2.2 g hg;omega)) ?_
           ·have h1:=H7.out.2.2 g hg;have h2:=zZ ho;rw [rR.block g (by omega) (by omega),H8.out.1.block g h2];exact ho
           ·rw [yV];refine zW.append ((Rep.keep kp).2 _ _ HM.out.2.2.2.2.2.2.1) ?_;rw [encF];exact zW.append ((Rep.keep kp).2 _ _ lO.out.1) (zQ.2 ⟨_,_,rfl,(Rep.keep kp).1 _ _ lO.out.2.1,zQ.2 ⟨_,_,rfl,zH.2 rfl,zC.2 rfl⟩⟩)
         have CQ:R=evN d (k+1) l b' (e'++jZ env t'.args ss) n (Qa WFr.gf (⟨v,ss,y,no,env⟩::st)):=by
          rw [rh.out.2.1,evN_bd HM.out.1];rfl
         have HN:=mj (mu n_ (mu CQ n_.pre.wri));clear n_ CQ Ag Cz p1 p2 p3 p4 d0 d1 d2 d3 f0 f1 f2 f3;go_wp2_with fail
         go_roundw
         case rel=>exact ⟨d,l,b',_,_,_,_,_,_,_,_,_,_,by have:=rh.out.1;omega,HN.out.2.1,HN.out.1⟩
         case measure =>
          rw [rh.out.2.2.1];refine PN (Ph (wA HN.out.2.2)) ?_;omega
       ·(intro o6 ho K' hK;simp at ho;subst ho);go_simp
        (refine hK.out _ _ (fun _=>(mt.alloc (my _) (.cells #[str [],.int .i64 (v:Nat),.slice a1 ss.length c1,.slice a2 2 c2,.slice (some ⟨eb,eo,none⟩) env.length ecap,.int .i64 0] 165))) ?_;clear hK K';try simp only [pQ,pN,pZ,pS]);(refine on 0 ?_;intro o ho K' hK;simp at ho;subst ho;go_simp);refine hK.out _ _ (fun _=>?_) ?_
        ·exact ((mt.alloc (my _) (.cells #[str [],.int .i64 (v:Nat),.slice a1 ss.length c1,.slice a2 2 c2,.slice (some ⟨eb,eo,none⟩) env.length ecap,.int .i64 0] 165)).alloc (by rw [zK];exact OO _) (.cells #[] 165))
        clear hK K';(try simp only [pQ,pN,pZ,pS]);(refine on 2 ?_;intro o ho K' hK;simp at ho;subst ho);refine zS (by rfl) _ _ _ (by rfl) 165 (.agg #[str [],.int .i64 0,.slice none 0 0,.slice none 0 0,.slice none 0 0,.int .i64 0]) 6 104 Px Tryz.infoFW rfl (by decide) (.slice (some ⟨W3.heap.size+1,0,none⟩) 0 0) 0 [] (by rfl) (Own.litAt #[] 0 _ (by simp) (by decide) rfl) _ st.length xs (by rfl) (SRC.out _ ((mt.alloc (my _) (.cells #[str [],.int .i64 (v:Nat),.slice a1 ss.length c1,.slice a2 2 c2,.slice (some ⟨eb,eo,none⟩) env.length ecap,.int .i64 0] 165)).alloc (by rw [zK];exact OO _) (.cells #[] 165))) (by unfold maxLen;omega) (by omega) ?_;intro a5 c5 w5 iV nR iY;simp only [PD,OB] at iV iY ⊢;have sw:Below W3.heap.size W3 w5:=((mt.alloc (my _) (.cells #[str [],.int .i64 (v:Nat),.slice a1 ss.length c1,.slice a2 2 c2,.slice (some ⟨eb,eo,none⟩) env.length ecap,.int .i64 0] 165)).alloc (by rw [zK];exact OO _) (.cells #[] 165)).trans (nR.toBelow (((mt.alloc (my _) (.cells #[str [],.int .i64 (v:Nat),.slice a1 ss.length c1,.slice a2 2 c2,.slice (some ⟨eb,eo,none⟩) env.length ecap,.int .i64 0] 165)).alloc (by rw [zK];exact OO _) (.cells #[] 165))).size fun i hi e=>by simp [N7] at e;omega);have oq:Hid (∀ g,(Nq a5 st.length c5).ownBlock=some g->W3.heap.size<=g):=fun g hg=>by rcases iY g hg with h | h;simp [N7] at h;omega;have h:g=W3.heap.size+1+1:=h.trans (xt W3 _ _);omega
        have Jj:zq 6 (.slice (some ⟨W3.heap.size,0,none⟩) 1 1) 1 #[str [],.int .i64 (v:Nat),.slice a1 ss.length c1,.slice a2 2 c2,.slice (some ⟨eb,eo,none⟩) env.length ecap,.int .i64 0].toList w5:=((zq.lit1 #[str [],.int .i64 (v:Nat),.slice a1 ss.length c1,.slice a2 2 c2,.slice (some ⟨eb,eo,none⟩) env.length ecap,.int .i64 0] rfl (by simp [str,Of]) _ (by simp):zq 6 (.slice (some ⟨W3.heap.size,0,none⟩) 1 1) 1 #[str [],.int .i64 (v:Nat),.slice a1 ss.length c1,.slice a2 2 c2,.slice (some ⟨eb,eo,none⟩) env.length ecap,.int .i64 0].toList (W3.drew.alloc (.cells #[str [],.int .i64 (v:Nat),.slice a1 ss.length c1,.slice a2 2 c2,.slice (some ⟨eb,eo,none⟩) env.length ecap,.int .i64 0] 165))).alloc (.cells #[] 165)).thru nR (fun e=>by simp [N7] at e);(refine hK.out _ _ (fun _=>sw) ?_;clear hK K';try simp only [pQ,pN,pZ,pS]);(refine on 7 ?_;intro o ho K' hK;simp at ho;subst ho);refine zS (by rfl) _ _ _ (by rfl) 165 (.agg #[str [],.int .i64 0,.slice none 0 0,.slice none 0 0,.slice none 0 0,.int .i64 0]) 6 104 Px Tryz.infoFW rfl (by decide) (.slice a5 st.length c5) st.length xs (by rfl) (iV) _ 1 [str [],.int .i64 (v:Nat),.slice a1 ss.length c1,.slice a2 2 c2,.slice (some ⟨eb,eo,none⟩) env.length ecap,.int .i64 0] (by rfl) (Jj) (by unfold maxLen;omega) (by omega) ?_;intro a7 c7 w7 nL mo nG;have sf:Below W3.heap.size W3 w7:=sw.trans (mo.toBelow (sw).size fun i hi e=>by have:=oq.out i e;omega);have sj:∀ g,(Nq a7 (st.length+1) c7).ownBlock=some g->W3.heap.size<=g:=fun g hg=>by rcases nG g hg with h | h;exact oq.out g h;exact mh (sw).size (Ph h.symm)
        (refine hK.out _ _ (fun _=>sf) ?_;clear hK K';try simp only [pQ,pN,pZ,pS]);refine oC 8 sf ?_
        refine zY (by kernel_rfl) (N0 ?_) _;clear nR iY iV mo nG sw;have H7:=mj (mu nL (mu sf sj));clear nL sf sj mt;have ap:=H3.out.2.2.1;have JM:=H7.out.2.1.size;have Bv:=rh.out.2.2.2.2.zw;have sI:=H2.out.2.2.1.size;have al:=(H7.out.2.1.block W2.heap.size (by omega)).trans H3.out.2.2.2.2;have lS:=(H7.out.2.1.block w.heap.size (by omega)).trans H3.out.2.2.2.1;have g5:w7.cell? ⟨W2.heap.size,5,none⟩=some (.slice ta t'.args.length tc):=by simp [GD,al]
        have g6:w7.cell? ⟨W2.heap.size,6,none⟩=some (.slice ha e'.length hcap):=by simp [GD,al]
        have x2:w7.cell? ⟨w.heap.size,2,none⟩=some (.slice a1 ss.length c1):=by simp [GD,lS]
        have k7:∀ (i:Nat) (ob:Obj),Fx F w 2 i->W2.heap[i]? = some ob->Fx F w 2 i/\w7.heap[i]? = some ob:=fun i ob hi hh=>by
         have hl:=zZ hh;exact ⟨hi,by rw [H7.out.2.1.block i (by omega),H3.out.2.1.block i hl];exact hh⟩
        have Fc:=(cX (Fx F w 2) e' env ss t' (.slice ha e'.length hcap) (.slice a1 ss.length c1) (.slice ta t'.args.length tc) (.slice (some ⟨eb,eo,none⟩) env.length ecap) w7 ((Rep.keep k7).1 _ _ HM.out.2.2.2.1) ((Rep.keep k7).1 _ _ HK.out.1) ((Rep.keep k7).1 _ _ HM.out.2.1) ((Rep.keep k7).1 _ _ lO.out.2.1) (by omega) HM.out.2.2.2.2.1 (by omega));rw [show ((0:Nat):Int)=0 from rfl] at Fc;have CH:=mj Fc;clear Fc;have Hh:=mj (mu al (mu lS k7));clear al lS k7 ap sI;go_wp2_with fail
        (with_reducible refine CH.out.mono ?_);rintro en w8 ⟨a8,c8,rfl,rK,iJ⟩
        have ap:=H3.out.2.2.1;have hz8:=rK.size;have tp:=(rK.block W2.heap.size (by omega)).trans Hh.out.1;have rV:=(rK.block w.heap.size (by omega)).trans Hh.out.2.1;have p1:w8.cell? ⟨W2.heap.size,1,none⟩=some (str bs):=by simp [GD,tp]
        have p2:w8.cell? ⟨W2.heap.size,2,none⟩=some (.int .i64 bv):=by simp [GD,tp]
        have p3:w8.cell? ⟨W2.heap.size,3,none⟩=some (.slice tG E6 sn):=by simp [GD,tp]
        have p4:w8.cell? ⟨W2.heap.size,4,none⟩=some (.slice tm E5 si):=by simp [GD,tp]
        have d0:w8.cell? ⟨w.heap.size,0,none⟩=some (str []):=by simp [GD,rV]
        have d1:w8.cell? ⟨w.heap.size,1,none⟩=some (.int .i64 (v:Nat)):=by simp [GD,rV]
        have d2:w8.cell? ⟨w.heap.size,2,none⟩=some (.slice a1 ss.length c1):=by simp [GD,rV]
        have d3:w8.cell? ⟨w.heap.size,3,none⟩=some (.slice a2 2 c2):=by simp [GD,rV]
        have f0:w8.frozen? ⟨w.heap.size,0,none⟩=false:=by simp [N4,rV]
        have f1:w8.frozen? ⟨w.heap.size,1,none⟩=false:=by simp [N4,rV]
        have f2:w8.frozen? ⟨w.heap.size,2,none⟩=false:=by simp [N4,rV]
        have f3:w8.frozen? ⟨w.heap.size,3,none⟩=false:=by simp [N4,rV]
        have H8:=mj (mu rK (mu iJ rV));clear rK iJ tp rV g5 g6 x2 ap;go_upto_region 22 with (fail)
        obtain ⟨W9,Cz⟩:=zzN (yq w.heap.size (str bs) (.int .i64 bv) (.slice tG E6 sn) (.slice tm E5 si) w8);have Ag:=Cz;unfold yq at Ag;rw [Ag];have n_:WAt F ww d (k+1) l n H b' (e'++jZ env t'.args ss) (⟨v,ss,y,no,env⟩::st) bs bv tG tm E6 sn E5 si (.slice a8 (e'.length+(jZ env t'.args ss).length) c8) (.slice a7 (st.length+1) c7) w W9:=by
         have ml:=rh.out.2.2.2.2;have sI:=H2.out.2.2.1.size;have ap:=H3.out.2.2.1;have rR:But (fun i=>i=w.heap.size) w8 W9:=by rw [<- Cz];exact xw (But.refl _ _) rfl
         have lI:But (fun i=>i=ww\/i=w.heap.size) W2 W9:=(((But.ofBelow (m:=fun i=>i=ww\/i=w.heap.size) H3.out.2.1).trans (But.ofBelow (H7.out.2.1))).trans (But.ofBelow H8.out.1)).trans (rR.weak fun i _ h=>.inr h);have hz9:=lI.size;have iB:(jZ env t'.args ss).length=t'.args.length:=wS _ _ HM.out.2.2.2.2.1;have rq:=HM.out.2.2.2.2.2.2.2.2.1;have it:=HM.out.2.2.2.2.2.2.2.2.2;have BL:=ml.pre.ld;have I6:=ml.pre.d20;have GI:=ml.pre.stl;have kp:∀ (i:Nat) (ob:Obj),Fx F w 2 i->W2.heap[i]? = some ob->Fx F w 2 i/\W9.heap[i]? = some ob:=fun i ob hi ho=>by
          have hx:=Fx.low' ml.pre.hF hi (by omega);exact ⟨hi,by rw [lI.block i (zZ ho) (fun e=>e.elim hx.1 hx.2)];exact ho⟩
         refine ml.move ((H2.out.2.2.1.weak fun i _ h=>.inl h).trans lI) ?_ (by rw [<- Cz];exact wk H8.out.2.2) HM.out.2.2.2.2.2.1 (by rw [NZ,iB];have:=rq.2.1;have:=HM.out.2.2.2.2.1;omega) (by rw [N5];omega)
          (jx _ _ (qU (by omega) _ rq.2.2) (wT (qU (by omega) _ ml.pre.ok) (by omega) _ _ (kZ rq.1).1)) ⟨by show env.length<=_;omega,qU (by omega) _ ml.pre.ok,vg (by omega) _ ml.pre.okg⟩
          ⟨it.1,ju _ _ it.2 (wP ml.pre.wf.2.1 _ _ ml.pre.wf.1.1),fun f hf=>?_⟩ ((Rep.keep kp).2 _ _ HM.out.2.2.1) ?_ ?_
         ·have h:=H2.out.2.1;unfold Wri at *;rw [rR.block ww (by omega) (by show ww≠w.heap.size;omega),H8.out.1.block ww (by omega),H7.out.2.1.block ww (by omega),H3.out.2.1.block ww (by omega),h,Hk.out]
         ·rw [Ol] at hf;rcases Om.1 hf with rfl | hf
          ·exact ⟨ml.pre.wf.1.2.1,ml.pre.wf.1.2.2,ml.pre.wf.2.1⟩
          ·exact ml.pre.wf.2.2 f hf
         ·rw [NZ];refine (Rep.keep fun i ob hi ho=>?_).1 _ _ H8.out.2.1;have hx:Fx F w 2 i:=by
           rcases hi with h | h
           ·exact h
           ·exact .inr (by omega)
          exact ⟨hx,by rw [rR.block i (zZ ho) (Fx.low' ml.pre.hF hx (by omega)).2];exact ho⟩
         ·rw [N5];refine (H7.out.1.keep (w':=W9) fun g o hg ho=>?_).rep (fun g hg=>.inr (by have:=H7.out.2.2 g hg;omega)) ?_
          ·have h1:=H7.out.2.2 g hg;have h2:=zZ ho;rw [rR.block g (by omega) (by omega),H8.out.1.block g h2];exact ho
          ·rw [yV];refine zW.append ((Rep.keep kp).2 _ _ HM.out.2.2.2.2.2.2.1) ?_;rw [encF];exact zW.append ((Rep.keep kp).2 _ _ lO.out.1) (zQ.2 ⟨_,_,rfl,(Rep.keep kp).1 _ _ lO.out.2.1,zQ.2 ⟨_,_,rfl,zH.2 rfl,zC.2 rfl⟩⟩)
        have CQ:R=evN d (k+1) l b' (e'++jZ env t'.args ss) n (Qa WFr.gf (⟨v,ss,y,no,env⟩::st)):=by
         rw [rh.out.2.1,evN_bd HM.out.1];rfl
        have HN:=mj (mu n_ (mu CQ n_.pre.wri));clear n_ CQ Ag Cz p1 p2 p3 p4 d0 d1 d2 d3 f0 f1 f2 f3;go_wp2_with fail
        go_roundw
        case rel=>exact ⟨d,l,b',_,_,_,_,_,_,_,_,_,_,by have:=rh.out.1;omega,HN.out.2.1,HN.out.1⟩
        case measure =>
         rw [rh.out.2.2.1];refine PN (Ph (wA HN.out.2.2)) ?_;omega
theorem write_any (d:Nat):wv d:=by
 induction d using Nat.strongRecOn with
 | _ d ih=>exact write_step d ih
def qo (F:Nat->Prop) (o:Option Bd) (w:World) (en:Ending) (w':World):Prop :=
 ∃ s v a1 n1 c1 a2 n2 c2,en=.returned (.tuple #[.agg #[str s,.int .i64 v,.slice a1 n1 c1,.slice a2 n2 c2],.bool o.isSome])/\Below w.heap.size w w' /\
   ∀ x,o=some x->zW (fun i=>F i\/w.heap.size<=i) w' (kL x) [str s,.int .i64 v,.slice a1 n1 c1,.slice a2 n2 c2]
theorem qo.drew {F:Nat->Prop} {o:Option Bd} {w w':World} {en:Ending} (h:qo F o w en w'):qo F o w en w'.drew:=by
 obtain ⟨s,v,a1,n1,c1,a2,n2,c2,e,hb,hr⟩:=h;exact ⟨s,v,a1,n1,c1,a2,n2,c2,e,Below.drew hb,fun x hx=>(hr x hx).drew⟩
structure SAppPre (F:Nat->Prop) (t a:Ty) (rest bs:List Ty) (m n:Bd) (tv bv:Value) (ms ns:Bs) (mv nv:Int) (Ca B_ r_ rB:Option Addr) (B7 B9 B6 B8 sL ri sR rH:Nat) (w:World):Prop where
 ts:t.args=a::rest
 t15:zJ t<=15
 bl:bs.length<=100
 b15:∀ t∈bs,zJ t<=15
 fit:jb (bs++rest) m (zp bs a n rest) []
 wm:wfB m
 wn:wfB n
 rt:Rep F w (ke t) tv
 rm:zW F w (kL m) [str ms,.int .i64 mv,.slice Ca B7 B9,.slice B_ B6 B8]
 rn:zW F w (kL n) [str ns,.int .i64 nv,.slice r_ sL ri,.slice rB sR rH]
 rb:Rep F w (.sl 42 1 bs.length (qA bs)) bv
 hF:∀ i,F i->i<w.heap.size
theorem l4Apply_any (F:Nat->Prop) (t a:Ty) (rest bs:List Ty) (m n:Bd) (tv bv:Value) (ms ns:Bs) (mv nv:Int) (Ca B_ r_ rB:Option Addr) (B7 B9 B6 B8 sL ri sR rH:Nat) (w:World) (h:SAppPre F t a rest bs m n tv bv ms ns mv nv Ca B_ r_ rB B7 B9 B6 B8 sL ri sR rH w) :
 Calls KD 43 #[.agg #[tv],.agg #[str ms,.int .i64 mv,.slice Ca B7 B9,.slice B_ B6 B8],.agg #[str ns,.int .i64 nv,.slice r_ sL ri,.slice rB sR rH],bv] w
  (qo F (yC m (zp bs a n rest) (bs.length+rest.length)) w):=by
 have rU:=h.rt;rw [q_] at rU;obtain ⟨ta,tc,e,GH,_,iG⟩:=zP rU;subst e;rw [h.ts] at rU GH iG;obtain ⟨kb,ko,u,d1,e,hkF,tH,As,Cp,tQ⟩:=iG 0 (by simp);subst e;simp only [qA,List.getElem?_cons_zero,N1] at As;subst As;obtain ⟨ua,uc,rfl⟩:=kU tQ;obtain ⟨ba,bc,ebv,_⟩:=zP h.rb;subst ebv;have Fv:=h.bl;have hFw:=h.hF;have hlen:t.args.length=rest.length+1:=by rw [h.ts];rfl
 rw [hlen];have nX:=kZ h.t15;have Eg:rest.length<=15:=by have:=nX.2;omega
 have L8:w.cell? ⟨kb,ko,none⟩=some (.slice ua a.args.length uc):=Cp;obtain ⟨W,hW⟩:=zzN (((((w.alloc (.cells #[.slice (some ⟨kb,ko,none⟩) (rest.length+1) tc] 42)).alloc (.cells #[str ms,.int .i64 mv,.slice Ca B7 B9,.slice B_ B6 B8] 47)).alloc (.cells #[str ns,.int .i64 nv,.slice r_ sL ri,.slice rB sR rH] 47)).alloc (.cells #[str [],.int .i64 0,.slice none 0 0,.slice none 0 0] 47)).alloc (.cells #[.int .i64 200,.int .i64 0] 141));have th:W.heap.size=w.heap.size+5:=by rw [<- hW];simp only [zK]
 have nV:Below w.heap.size w W:=by rw [<- hW];exact (((((mw _ _).alloc (my _) _).alloc (by simp only [zK];omega) _).alloc (by simp only [zK];omega) _).alloc (by simp only [zK];omega) _).alloc (by simp only [zK];omega) _
 have bT:W.heap[w.heap.size]? = some (.cells #[.slice (some ⟨kb,ko,none⟩) (rest.length+1) tc] 42 (0,0)):=by rw [<- hW];exact zU (zU (zU (zU (zG _ _))))
 have bM:W.heap[w.heap.size+1]? = some (.cells #[str ms,.int .i64 mv,.slice Ca B7 B9,.slice B_ B6 B8] 47 (0,0)):=by
  rw [<- hW];refine zU (zU (zU ?_));have:=zG (w.alloc (.cells #[.slice (some ⟨kb,ko,none⟩) (rest.length+1) tc] 42)) (.cells #[str ms,.int .i64 mv,.slice Ca B7 B9,.slice B_ B6 B8] 47);rwa [zK] at this
 have bN:W.heap[w.heap.size+2]? = some (.cells #[str ns,.int .i64 nv,.slice r_ sL ri,.slice rB sR rH] 47 (0,0)):=by
  rw [<- hW];refine zU (zU ?_);have:=zG ((w.alloc (.cells #[.slice (some ⟨kb,ko,none⟩) (rest.length+1) tc] 42)).alloc (.cells #[str ms,.int .i64 mv,.slice Ca B7 B9,.slice B_ B6 B8] 47)) (.cells #[str ns,.int .i64 nv,.slice r_ sL ri,.slice rB sR rH] 47);simpa only [zK] using this
 have bR:kQ (w.heap.size+3) 0 (.slice none 0 0) (.slice none 0 0) W:=by
  unfold kQ;rw [<- hW];refine zU ?_;have:=zG (((w.alloc (.cells #[.slice (some ⟨kb,ko,none⟩) (rest.length+1) tc] 42)).alloc (.cells #[str ms,.int .i64 mv,.slice Ca B7 B9,.slice B_ B6 B8] 47)).alloc (.cells #[str ns,.int .i64 nv,.slice r_ sL ri,.slice rB sR rH] 47)) (.cells #[str [],.int .i64 0,.slice none 0 0,.slice none 0 0] 47);simpa only [zK] using this
 have bW:Wri W (w.heap.size+4) 200 0:=by
  unfold Wri;rw [<- hW];have:=zG ((((w.alloc (.cells #[.slice (some ⟨kb,ko,none⟩) (rest.length+1) tc] 42)).alloc (.cells #[str ms,.int .i64 mv,.slice Ca B7 B9,.slice B_ B6 B8] 47)).alloc (.cells #[str ns,.int .i64 nv,.slice r_ sL ri,.slice rB sR rH] 47)).alloc (.cells #[str [],.int .i64 0,.slice none 0 0,.slice none 0 0] 47)) (.cells #[.int .i64 200,.int .i64 0] 141);simpa only [zK] using this
 have C1:=gY F 0 bs _ W (Rep.below nV (fun _ h=>h) h.rb) (by omega) (by omega);rw [show ((0:Nat):Int)=0 from rfl] at C1;have C1:=mj C1;have HP:=mj h;have HFw:=mj hFw;clear hFw;have HT:=mj (mu rU (mu tQ (mu GH (mu nX hlen))));have HW:=mj (mu hW (mu th (mu nV (mu bT (mu bM (mu bN (mu bR bW)))))));clear h rU tQ GH nX hlen iG hW th nV bT bM bN bR bW Cp;go_enter Tryz.func43,Tryz.ntmps43;go_upto_region 2 with (fail)
 rw [HW.out.1];go_wp2_with fail
 (with_reducible refine C1.out.mono ?_)
 rintro en w1 ⟨oa,oc,oxs,rfl,JT,sJ,mi,Ms⟩;have th:=HW.out.2.1;have ln:=mi.size;have b1:=fun {i:Nat} {o:Obj} (hi:i<W.heap.size) (h:W.heap[i]? = some o)=>(mi.block i hi).trans h;have bT1:=b1 (by omega) HW.out.2.2.2.1;have bN1:=b1 (by omega) HW.out.2.2.2.2.2.1;obtain ⟨n0,n1,n2,n3⟩:=kE bN1;have t0:w1.cell? ⟨w.heap.size,0,none⟩=some (.slice (some ⟨kb,ko,none⟩) (rest.length+1) tc):=by simp [GD,bT1]
 have k1:w1.cell? ⟨kb,ko,none⟩=some (.slice ua a.args.length uc):=(mi.cell (by show kb<W.heap.size;omega)).trans ((HW.out.2.2.1.cell tH).trans L8)
 have SX:Hid (∀ w',Below w1.heap.size w1 w'->w'.cell? ⟨w.heap.size+2,0,none⟩=some (str ns)/\w'.cell? ⟨w.heap.size+2,1,none⟩=some (.int .i64 nv)/\w'.cell? ⟨w.heap.size+2,2,none⟩=some (.slice r_ sL ri)/\w'.cell? ⟨w.heap.size+2,3,none⟩=some (.slice rB sR rH) /\
  w'.cell? ⟨w.heap.size,0,none⟩=some (.slice (some ⟨kb,ko,none⟩) (rest.length+1) tc)/\w'.cell? ⟨kb,ko,none⟩=some (.slice ua a.args.length uc)):=by
  show ∀ w',_->_;intro w' nW;exact ⟨(nW.cell (mx _ _ n0)).trans n0,(nW.cell (mx _ _ n1)).trans n1,(nW.cell (mx _ _ n2)).trans n2,(nW.cell (mx _ _ n3)).trans n3,(nW.cell (mx _ _ t0)).trans t0,(nW.cell (mx _ _ k1)).trans k1⟩
 have H1:=mj (mu JT (mu sJ (mu mi Ms)));clear JT sJ mi Ms b1 bT1 bN1 n0 n1 n2 n3 t0 k1 L8 C1;go_wp2_with fail
 refine wp_region_noPanic ?_;refine zB (fun w'=>Below w1.heap.size w1 w') (fun _=>false) (by kernel_rfl) ?_;have mt:Below w1.heap.size w1 w1.drew:=Below.drew (mw _ _);refine tC [0,1,2,3,4,5,6] mt ?_;iterate 7 (refine tl (fun w' nP=>SX.out w' nP) ?_)
 refine tz ?_;refine oC 7 (mt.alloc (my _) _) ?_;refine oC 8 (mt.alloc (my _) _) ?_;refine zY (by kernel_rfl) (N0 ?_) _;obtain ⟨W2,rQ⟩:=zzN ((w1.alloc (.cells #[.int .i64 (-1),.string ⟨ns.toArray⟩,.int .i64 nv,.slice r_ sL ri,.slice rB sR rH,.slice ua a.args.length uc,.slice oa bs.length oc,.int .i64 0,.int .i64 0] 145)).drew);rw [rQ];have me:Below w1.heap.size w1 W2:=by rw [<- rQ];exact Below.drew ((mw _ _).alloc (my _) _)
 have sI:W2.heap.size=w1.heap.size+1:=by rw [<- rQ];exact zK _ _
 have E2:W2.heap[w1.heap.size]? = some (.cells #[.int .i64 (-1),str ns,.int .i64 nv,.slice r_ sL ri,.slice rB sR rH,.slice ua a.args.length uc,.slice oa bs.length oc,.int .i64 0,.int .i64 0] 145 (0,0)):=by rw [<- rQ];exact zG _ _
 have SY:Hid (∀ w',Below W2.heap.size W2 w'->w'.cell? ⟨w1.heap.size,0,none⟩=some (.int .i64 (-1))/\w'.cell? ⟨w1.heap.size,1,none⟩=some (str ns)/\w'.cell? ⟨w1.heap.size,2,none⟩=some (.int .i64 nv)/\w'.cell? ⟨w1.heap.size,3,none⟩=some (.slice r_ sL ri)/\w'.cell? ⟨w1.heap.size,4,none⟩=some (.slice rB sR rH) /\
  w'.cell? ⟨w1.heap.size,5,none⟩=some (.slice ua a.args.length uc)/\w'.cell? ⟨w1.heap.size,6,none⟩=some (.slice oa bs.length oc)/\w'.cell? ⟨w1.heap.size,7,none⟩=some (.int .i64 0)/\w'.cell? ⟨w1.heap.size,8,none⟩=some (.int .i64 0)):=by
  show ∀ w',_->_;intro w' nW;have h:=(nW.block w1.heap.size (by omega)).trans E2;simp [GD,h]
 have GK:zq 9 (.slice oa bs.length oc) bs.length oxs w1:=H1.out.1.src (vw _ _ H1.out.2.1);have SRC:Hid (∀ w',Below W2.heap.size W2 w'->zq 9 (.slice oa bs.length oc) bs.length oxs w'):=by
  show ∀ w',_->_;intro w' nW;exact (GK.belowAll me (my _)).belowAll nW (my _)
 have H2:=mj (mu me (mu sI E2));clear rQ me E2 GK mt sI th ln;go_wp2_with fail
 refine jr (X:=Nat×Nat×Option Addr×Nat×Option Addr×Nat) (fun ac x=>(((((((ac.put (some 29) (.slice (some ⟨x.1,0,none⟩) 0 0)).put (some 30) (.slice oa bs.length oc)).put (some 31) (.slice x.2.2.1 (bs.length) x.2.2.2.1)).put (some 32) (.agg #[.int .i64 (-1),str ns,.int .i64 nv,.slice r_ sL ri,.slice rB sR rH,.slice ua a.args.length uc,.slice oa bs.length oc,.int .i64 0,.int .i64 0])).put (some 33) (.slice (some ⟨x.2.1,0,none⟩) 1 1)).put (some 34) (.slice x.2.2.2.2.1 (bs.length+1) x.2.2.2.2.2)).put (some 14) (.slice x.2.2.2.2.1 (bs.length+1) x.2.2.2.2.2))) (fun x w7=>Own w7 145 9 (.slice x.2.2.2.2.1 (bs.length+1) x.2.2.2.2.2) (bs.length+1) (oxs++[.int .i64 (-1),str ns,.int .i64 nv,.slice r_ sL ri,.slice rB sR rH,.slice ua a.args.length uc,.slice oa bs.length oc,.int .i64 0,.int .i64 0])/\Below W2.heap.size W2 w7/\∀ g,(Nq x.2.2.2.2.1 (bs.length+1) x.2.2.2.2.2).ownBlock=some g->W2.heap.size<=g) ?_ ?_
 ·refine wp_region_noPanic ?_;refine zB (fun w'=>Below W2.heap.size W2 w') (fun _=>false) (by kernel_rfl) ?_;have mt:Below W2.heap.size W2 W2.drew:=Below.drew (mw _ _);refine tC [1,3] mt ?_;iterate 2 (refine tl (fun w' nP=>SY.out w' nP) ?_)
  refine tz ?_;refine qJ 0 4 (by kernel_rfl) ?_ ?_
  ·(intro o0 ho K' hK;simp at ho;subst ho);go_simp
   (refine hK.out _ _ (fun _=>(mt.alloc (my _) (.cells #[] 145))) ?_;clear hK K';try simp only [pQ,pN,pZ,pS]);refine qJ 2 4 (by kernel_rfl) ?_ ?_
   focus
    (intro o2 ho K' hK;simp at ho;subst ho);refine zS (by rfl) _ _ _ (by rfl) 145 (.agg #[.int .i64 0,str [],.int .i64 0,.slice none 0 0,.slice none 0 0,.slice none 0 0,.slice none 0 0,.int .i64 0,.int .i64 0]) 9 144 OE Tryz.infoBo rfl (by decide) (.slice (some ⟨W2.heap.size,0,none⟩) 0 0) 0 [] (by rfl) (Own.litAt #[] 0 _ rfl (by decide) rfl) _ bs.length oxs (by rfl) (SRC.out _ (mt.alloc (my _) (.cells #[] 145))) (by unfold maxLen;omega) (by omega) ?_
    intro a5 c5 w5 iV nR iY;simp only [PD,OB] at iV iY ⊢;have sw:Below W2.heap.size W2 w5:=(mt.alloc (my _) (.cells #[] 145)).trans (nR.toBelow ((mt.alloc (my _) (.cells #[] 145))).size fun i hi e=>by simp [N7] at e;omega);have oq:Hid (∀ g,(Nq a5 (bs.length) c5).ownBlock=some g->W2.heap.size<=g):=fun g hg=>by rcases iY g hg with h | h;simp [N7] at h;omega;have h:g=W2.heap.size+1:=h.trans (zK _ _);omega
    (refine hK.out _ _ (fun _=>sw) ?_;clear hK K';try simp only [pQ,pN,pZ,pS]);refine oC 4 (sw.alloc sw.size _) ?_
    (refine on 5 ?_;intro o ho K' hK;simp at ho;subst ho);refine zS (by rfl) _ _ _ (by rfl) 145 (.agg #[.int .i64 0,str [],.int .i64 0,.slice none 0 0,.slice none 0 0,.slice none 0 0,.slice none 0 0,.int .i64 0,.int .i64 0]) 9 144 OE Tryz.infoBo rfl (by decide) (.slice a5 (bs.length) c5) (bs.length) oxs (by rfl) (iV.alloc _) _ 1 [.int .i64 (-1),str ns,.int .i64 nv,.slice r_ sL ri,.slice rB sR rH,.slice ua a.args.length uc,.slice oa bs.length oc,.int .i64 0,.int .i64 0] (by rfl) (zq.lit1 #[.int .i64 (-1),str ns,.int .i64 nv,.slice r_ sL ri,.slice rB sR rH,.slice ua a.args.length uc,.slice oa bs.length oc,.int .i64 0,.int .i64 0] rfl (by simp [str,Of]) _ (by rfl)) (by unfold maxLen;omega) (by omega) ?_
    intro a7 c7 w7 nL mo nG;have sf:Below W2.heap.size W2 w7:=(sw.alloc sw.size (.cells #[.int .i64 (-1),str ns,.int .i64 nv,.slice r_ sL ri,.slice rB sR rH,.slice ua a.args.length uc,.slice oa bs.length oc,.int .i64 0,.int .i64 0] 145)).trans (mo.toBelow ((sw.alloc sw.size (.cells #[.int .i64 (-1),str ns,.int .i64 nv,.slice r_ sL ri,.slice rB sR rH,.slice ua a.args.length uc,.slice oa bs.length oc,.int .i64 0,.int .i64 0] 145))).size fun i hi e=>by have:=oq.out i e;omega);have sj:∀ g,(Nq a7 (bs.length+1) c7).ownBlock=some g->W2.heap.size<=g:=fun g hg=>by rcases nG g hg with h | h;exact oq.out g h;exact mh ((sw.alloc sw.size (.cells #[.int .i64 (-1),str ns,.int .i64 nv,.slice r_ sL ri,.slice rB sR rH,.slice ua a.args.length uc,.slice oa bs.length oc,.int .i64 0,.int .i64 0] 145))).size (Ph h.symm)
   rotate_left
   focus
    (intro o4 ho K' hK;simp at ho;subst ho);go_simp
    refine hK.out _ _ (fun _=>?_) ?_
    ·exact ((mt.alloc (my _) (.cells #[] 145)).alloc (by rw [zK];exact OO _) (.cells #[.int .i64 (-1),str ns,.int .i64 nv,.slice r_ sL ri,.slice rB sR rH,.slice ua a.args.length uc,.slice oa bs.length oc,.int .i64 0,.int .i64 0] 145))
    clear hK K';(try simp only [pQ,pN,pZ,pS]);(refine on 2 ?_;intro o ho K' hK;simp at ho;subst ho);refine zS (by rfl) _ _ _ (by rfl) 145 (.agg #[.int .i64 0,str [],.int .i64 0,.slice none 0 0,.slice none 0 0,.slice none 0 0,.slice none 0 0,.int .i64 0,.int .i64 0]) 9 144 OE Tryz.infoBo rfl (by decide) (.slice (some ⟨W2.heap.size,0,none⟩) 0 0) 0 [] (by rfl) ((Own.litAt #[] 0 _ rfl (by decide) rfl).alloc _) _ bs.length oxs (by rfl) (SRC.out _ ((mt.alloc (my _) (.cells #[] 145)).alloc (by rw [zK];exact OO _) (.cells #[.int .i64 (-1),str ns,.int .i64 nv,.slice r_ sL ri,.slice rB sR rH,.slice ua a.args.length uc,.slice oa bs.length oc,.int .i64 0,.int .i64 0] 145))) (by unfold maxLen;omega) (by omega) ?_;intro a5 c5 w5 iV nR iY;simp only [PD,OB] at iV iY ⊢;have sw:Below W2.heap.size W2 w5:=((mt.alloc (my _) (.cells #[] 145)).alloc (by rw [zK];exact OO _) (.cells #[.int .i64 (-1),str ns,.int .i64 nv,.slice r_ sL ri,.slice rB sR rH,.slice ua a.args.length uc,.slice oa bs.length oc,.int .i64 0,.int .i64 0] 145)).trans (nR.toBelow (((mt.alloc (my _) (.cells #[] 145)).alloc (by rw [zK];exact OO _) (.cells #[.int .i64 (-1),str ns,.int .i64 nv,.slice r_ sL ri,.slice rB sR rH,.slice ua a.args.length uc,.slice oa bs.length oc,.int .i64 0,.int .i64 0] 145))).size fun i hi e=>by simp [N7] at e;omega);have oq:Hid (∀ g,(Nq a5 (bs.length) c5).ownBlock=some g->W2.heap.size<=g):=fun g hg=>by rcases iY g hg with h | h;simp [N7] at h;omega;have h:g=W2.heap.size+1+1:=h.trans (xt W2 _ _);omega
    have Jj:zq 9 (.slice (some ⟨W2.heap.size+1,0,none⟩) 1 1) 1 #[.int .i64 (-1),str ns,.int .i64 nv,.slice r_ sL ri,.slice rB sR rH,.slice ua a.args.length uc,.slice oa bs.length oc,.int .i64 0,.int .i64 0].toList w5:=(zq.lit1 #[.int .i64 (-1),str ns,.int .i64 nv,.slice r_ sL ri,.slice rB sR rH,.slice ua a.args.length uc,.slice oa bs.length oc,.int .i64 0,.int .i64 0] rfl (by simp [str,Of]) _ (by simp):zq 9 (.slice (some ⟨W2.heap.size+1,0,none⟩) 1 1) 1 #[.int .i64 (-1),str ns,.int .i64 nv,.slice r_ sL ri,.slice rB sR rH,.slice ua a.args.length uc,.slice oa bs.length oc,.int .i64 0,.int .i64 0].toList ((W2.drew.alloc (.cells #[] 145)).alloc (.cells #[.int .i64 (-1),str ns,.int .i64 nv,.slice r_ sL ri,.slice rB sR rH,.slice ua a.args.length uc,.slice oa bs.length oc,.int .i64 0,.int .i64 0] 145))).thru nR (fun e=>by simp [N7] at e);(refine hK.out _ _ (fun _=>sw) ?_;clear hK K';try simp only [pQ,pN,pZ,pS]);(refine on 5 ?_;intro o ho K' hK;simp at ho;subst ho);refine zS (by rfl) _ _ _ (by rfl) 145 (.agg #[.int .i64 0,str [],.int .i64 0,.slice none 0 0,.slice none 0 0,.slice none 0 0,.slice none 0 0,.int .i64 0,.int .i64 0]) 9 144 OE Tryz.infoBo rfl (by decide) (.slice a5 (bs.length) c5) (bs.length) oxs (by rfl) (iV) _ 1 [.int .i64 (-1),str ns,.int .i64 nv,.slice r_ sL ri,.slice rB sR rH,.slice ua a.args.length uc,.slice oa bs.length oc,.int .i64 0,.int .i64 0] (by rfl) (Jj) (by unfold maxLen;omega) (by omega) ?_;intro a7 c7 w7 nL mo nG;have sf:Below W2.heap.size W2 w7:=sw.trans (mo.toBelow (sw).size fun i hi e=>by have:=oq.out i e;omega);have sj:∀ g,(Nq a7 (bs.length+1) c7).ownBlock=some g->W2.heap.size<=g:=fun g hg=>by rcases nG g hg with h | h;exact oq.out g h;exact mh (sw).size (Ph h.symm)
   all_goals
    (refine hK.out _ _ (fun _=>sf) ?_;clear hK K';try simp only [pQ,pN,pZ,pS]);refine oC 6 sf ?_
    refine zY (by kernel_rfl) (N0 ?_) _;clear nR iY iV mo nG sw mt oq;exact ⟨rfl,⟨_,_,a5,c5,a7,c7⟩,by rfl,nL,sf,sj⟩
  ·(intro o4 ho K' hK;simp at ho;subst ho);go_simp
   (refine hK.out _ _ (fun _=>(mt.alloc (my _) (.cells #[.int .i64 (-1),str ns,.int .i64 nv,.slice r_ sL ri,.slice rB sR rH,.slice ua a.args.length uc,.slice oa bs.length oc,.int .i64 0,.int .i64 0] 145))) ?_;clear hK K';try simp only [pQ,pN,pZ,pS]);(refine on 0 ?_;intro o ho K' hK;simp at ho;subst ho;go_simp);refine hK.out _ _ (fun _=>?_) ?_
   ·exact ((mt.alloc (my _) (.cells #[.int .i64 (-1),str ns,.int .i64 nv,.slice r_ sL ri,.slice rB sR rH,.slice ua a.args.length uc,.slice oa bs.length oc,.int .i64 0,.int .i64 0] 145)).alloc (by rw [zK];exact OO _) (.cells #[] 145))
   clear hK K';(try simp only [pQ,pN,pZ,pS]);(refine on 2 ?_;intro o ho K' hK;simp at ho;subst ho);refine zS (by rfl) _ _ _ (by rfl) 145 (.agg #[.int .i64 0,str [],.int .i64 0,.slice none 0 0,.slice none 0 0,.slice none 0 0,.slice none 0 0,.int .i64 0,.int .i64 0]) 9 144 OE Tryz.infoBo rfl (by decide) (.slice (some ⟨W2.heap.size+1,0,none⟩) 0 0) 0 [] (by rfl) (Own.litAt #[] 0 _ (by simp) (by decide) rfl) _ bs.length oxs (by rfl) (SRC.out _ ((mt.alloc (my _) (.cells #[.int .i64 (-1),str ns,.int .i64 nv,.slice r_ sL ri,.slice rB sR rH,.slice ua a.args.length uc,.slice oa bs.length oc,.int .i64 0,.int .i64 0] 145)).alloc (by rw [zK];exact OO _) (.cells #[] 145))) (by unfold maxLen;omega) (by omega) ?_;intro a5 c5 w5 iV nR iY;simp only [PD,OB] at iV iY ⊢;have sw:Below W2.heap.size W2 w5:=((mt.alloc (my _) (.cells #[.int .i64 (-1),str ns,.int .i64 nv,.slice r_ sL ri,.slice rB sR rH,.slice ua a.args.length uc,.slice oa bs.length oc,.int .i64 0,.int .i64 0] 145)).alloc (by rw [zK];exact OO _) (.cells #[] 145)).trans (nR.toBelow (((mt.alloc (my _) (.cells #[.int .i64 (-1),str ns,.int .i64 nv,.slice r_ sL ri,.slice rB sR rH,.slice ua a.args.length uc,.slice oa bs.length oc,.int .i64 0,.int .i64 0] 145)).alloc (by rw [zK];exact OO _) (.cells #[] 145))).size fun i hi e=>by simp [N7] at e;omega);have oq:Hid (∀ g,(Nq a5 (bs.length) c5).ownBlock=some g->W2.heap.size<=g):=fun g hg=>by rcases iY g hg with h | h;simp [N7] at h;omega;have h:g=W2.heap.size+1+1:=h.trans (xt W2 _ _);omega
   have Jj:zq 9 (.slice (some ⟨W2.heap.size,0,none⟩) 1 1) 1 #[.int .i64 (-1),str ns,.int .i64 nv,.slice r_ sL ri,.slice rB sR rH,.slice ua a.args.length uc,.slice oa bs.length oc,.int .i64 0,.int .i64 0].toList w5:=((zq.lit1 #[.int .i64 (-1),str ns,.int .i64 nv,.slice r_ sL ri,.slice rB sR rH,.slice ua a.args.length uc,.slice oa bs.length oc,.int .i64 0,.int .i64 0] rfl (by simp [str,Of]) _ (by simp):zq 9 (.slice (some ⟨W2.heap.size,0,none⟩) 1 1) 1 #[.int .i64 (-1),str ns,.int .i64 nv,.slice r_ sL ri,.slice rB sR rH,.slice ua a.args.length uc,.slice oa bs.length oc,.int .i64 0,.int .i64 0].toList (W2.drew.alloc (.cells #[.int .i64 (-1),str ns,.int .i64 nv,.slice r_ sL ri,.slice rB sR rH,.slice ua a.args.length uc,.slice oa bs.length oc,.int .i64 0,.int .i64 0] 145))).alloc (.cells #[] 145)).thru nR (fun e=>by simp [N7] at e);(refine hK.out _ _ (fun _=>sw) ?_;clear hK K';try simp only [pQ,pN,pZ,pS]);(refine on 5 ?_;intro o ho K' hK;simp at ho;subst ho);refine zS (by rfl) _ _ _ (by rfl) 145 (.agg #[.int .i64 0,str [],.int .i64 0,.slice none 0 0,.slice none 0 0,.slice none 0 0,.slice none 0 0,.int .i64 0,.int .i64 0]) 9 144 OE Tryz.infoBo rfl (by decide) (.slice a5 (bs.length) c5) (bs.length) oxs (by rfl) (iV) _ 1 [.int .i64 (-1),str ns,.int .i64 nv,.slice r_ sL ri,.slice rB sR rH,.slice ua a.args.length uc,.slice oa bs.length oc,.int .i64 0,.int .i64 0] (by rfl) (Jj) (by unfold maxLen;omega) (by omega) ?_;intro a7 c7 w7 nL mo nG;have sf:Below W2.heap.size W2 w7:=sw.trans (mo.toBelow (sw).size fun i hi e=>by have:=oq.out i e;omega);have sj:∀ g,(Nq a7 (bs.length+1) c7).ownBlock=some g->W2.heap.size<=g:=fun g hg=>by rcases nG g hg with h | h;exact oq.out g h;exact mh (sw).size (Ph h.symm)
   (refine hK.out _ _ (fun _=>sf) ?_;clear hK K';try simp only [pQ,pN,pZ,pS]);refine oC 6 sf ?_
   refine zY (by kernel_rfl) (N0 ?_) _;clear nR iY iV mo nG sw mt oq;exact ⟨rfl,⟨_,_,a5,c5,a7,c7⟩,by rfl,nL,sf,sj⟩
 rintro ⟨gE,gL,a5,c5,a7,c7⟩ w7 ⟨nL,sf,sj⟩;simp only [pQ,pN,pZ,pS];have H7:=mj (mu nL (mu sf sj));clear nL sf sj;have Je:Below w1.heap.size w1 w7:=H2.out.1.trans (H7.out.2.1.mono (by have:=H2.out.2.1;omega));have Gc:Below W.heap.size W w7:=zzT H1.out.2.2.1 Je;have BU:Below w.heap.size w w7:=zzT HW.out.2.2.1 Gc;have t7:w7.cell? ⟨w.heap.size,0,none⟩=some (.slice (some ⟨kb,ko,none⟩) (rest.length+1) tc):=by
  have h:=(Gc.block w.heap.size (by have:=HW.out.2.1;omega)).trans HW.out.2.2.2.1;simp [GD,h]
 have DA:¬ tc=1->Rep F w7 (.sl 42 1 rest.length (qA rest)) (.slice (some ⟨kb,ko+1,none⟩) rest.length (tc-1)):=fun _=>Rep.below BU (fun _ h=>h) (pF (d:=ke a) HT.out.1);have hT1:tc=1->rest=[]/\Rep F w7 (.sl 42 1 rest.length (qA rest)) (.slice (some ⟨kb,ko,none⟩) rest.length 0):=fun h=>by
  obtain rfl:rest=[]:=by
   have h1:=HT.out.2.2.1;rw [h] at h1;simp at h1;exact h1
  exact ⟨rfl,zg.2 ⟨by simp [qA],_,_,rfl,Og _,fun h=>by simp at h,.inl rfl⟩⟩
 have H8:=mj (mu Je (mu Gc BU));clear Je Gc BU;by_cases Iw:tc=1
 ·have M3:=(hT1 Iw).2;subst Iw;have htc0:(rest.length:Int)=0:=by have:=HT.out.2.2.1;simp at this;simp [this]
  clear hT1 DA;have C6:=mj (gY F bs.length rest _ w7 M3 (by omega) (by omega));clear M3;go_wp2_with fail
  (with_reducible refine C6.out.mono ?_);rintro en w8 ⟨a8,c8,Kr,rfl,GX,iJ,rK,aD⟩
  have Et:=H7.out.1.keep (w':=w8) fun g o hg hh=>by rw [rK.block g (zZ hh)];exact hh
  have AE:=GX.src (vw _ _ iJ);have HA:=mj (mu Et (mu AE (mu iJ rK)));clear Et AE GX iJ rK aD;go_wp2_with (at_builtin;refine zE rfl _ _ 142 rfl 145 (.agg #[.int .i64 0,str [],.int .i64 0,.slice none 0 0,.slice none 0 0,.slice none 0 0,.slice none 0 0,.int .i64 0,.int .i64 0]) 9 144 OE Tryz.infoBo rfl (by decide) (.slice a7 (bs.length+1) c7) (bs.length+1) _ rfl HA.out.1 _ rest.length Kr rfl HA.out.2.1 (by unfold maxLen;omega) (by omega) ?_)
  intro a9 c9 w9 LD rR Me;have BV:Below W2.heap.size W2 w9:=(zzT H7.out.2.1 HA.out.2.2.2).trans (rR.toBelow (by have:=H7.out.2.1.size;have:=HA.out.2.2.2.size;omega) fun i hi e=>by have:=H7.out.2.2 i e;omega);have EB:∀ g,(Nq a9 (bs.length+1+rest.length) c9).ownBlock=some g->W2.heap.size<=g:=fun g hg=>by
   rcases Me g hg with h | h
   ·exact H7.out.2.2 g h
   ·have:=H7.out.2.1.size;have:=HA.out.2.2.2.size;omega
  have lA:Below W.heap.size W w9:=H1.out.2.2.1.trans ((H2.out.1.trans (BV.mono (by have:=H2.out.2.1;omega))).mono H1.out.2.2.1.size);have th:=HW.out.2.1;have Ez:∀ {i:Nat} {o:Obj},i<W.heap.size->W.heap[i]? = some o->w9.heap[i]? = some o:=fun hi h=>(lA.block _ hi).trans h;have Nu:=Ez (by omega) HW.out.2.2.2.1;have Nw:=Ez (by omega) HW.out.2.2.2.2.1;have Nv:kQ (w.heap.size+3) 0 (.slice none 0 0) (.slice none 0 0) w9:=Ez (by omega) HW.out.2.2.2.2.2.2.1;have Nt:Wri w9 (w.heap.size+4) 200 0:=Ez (by omega) HW.out.2.2.2.2.2.2.2;obtain ⟨m0,m1,m2,m3⟩:=kE Nw;have t9:w9.cell? ⟨w.heap.size,0,none⟩=some (.slice (some ⟨kb,ko,none⟩) (rest.length+1) 1):=by simp [GD,Nu]
  have t9':(w9.alloc (.cells #[] 165)).cell? ⟨w.heap.size,0,none⟩=some (.slice (some ⟨kb,ko,none⟩) (rest.length+1) 1):=zV t9;have BS:Below w.heap.size w (w9.alloc (.cells #[] 165)):=(zzT HW.out.2.2.1 lA).alloc (by have:=lA.size;omega) _;have BE:zW (fun i=>(F i/\i<w.heap.size)\/w.heap.size+5<=i) w9 (qK (zp bs a n rest)) (oxs++([.int .i64 (-1),str ns,.int .i64 nv,.slice r_ sL ri,.slice rB sR rH,.slice ua a.args.length uc,.slice oa bs.length oc,.int .i64 0,.int .i64 0]++Kr)):=by
   have kw:∀ (i:Nat) (o:Obj),F i->w.heap[i]? = some o->((F i/\i<w.heap.size)\/w.heap.size+5<=i)/\w9.heap[i]? = some o:=fun i o hi ho=>⟨.inl ⟨hi,zZ ho⟩,by rw [lA.block i (by have:=zZ ho;omega),HW.out.2.2.1.block i (zZ ho)];exact ho⟩;have Nh:∀ (i:Nat),i<w1.heap.size->w9.heap[i]? = w1.heap[i]?:=fun i hi=>by rw [BV.block i (by have:=H2.out.2.1;omega),H2.out.1.block i hi]
   have kf:∀ (i:Nat),F i->(F i/\i<w.heap.size)\/w.heap.size+5<=i:=fun i hi=>by
    rcases Qr i w.heap.size with h | h
    ·exact .inl ⟨hi,h⟩
    ·exact .inr (by have:=HFw.out i hi;omega)
   have lC:zW (fun i=>(F i/\i<w.heap.size)\/w.heap.size+5<=i) w9 (qK (z8 0 bs)) oxs:=(Rep.keep fun i o hi ho=>⟨kf i hi,by rw [Nh i (zZ ho)];exact ho⟩).2 _ _ H1.out.2.1;unfold zp;rw [vI,qK,dJ];refine zW.append lC ?_;refine zW.append (vs:=[.int .i64 (-1),str ns,.int .i64 nv,.slice r_ sL ri,.slice rB sR rH,.slice ua a.args.length uc,.slice oa bs.length oc,.int .i64 0,.int .i64 0]) ?_ ?_
   ·refine zW.append (vs:=[.int .i64 (-1)]) (zW.one (zH.2 rfl)) (zW.append (ds:=kL n) (vs:=[str ns,.int .i64 nv,.slice r_ sL ri,.slice rB sR rH]) ((Rep.keep kw).2 _ _ HP.out.rn) ?_);refine zQ.2 ⟨_,_,rfl,(Rep.keep kw).1 _ _ HT.out.2.1,zQ.2 ⟨_,_,rfl,?_,zQ.2 ⟨_,_,rfl,zH.2 rfl,zQ.2 ⟨_,_,rfl,yg.2 ⟨_,rfl⟩,zC.2 rfl⟩⟩⟩⟩;rw [qG];refine (H1.out.1.keep (w':=w9) fun g o hg hh=>by rw [Nh g (zZ hh)];exact hh).rep (fun g hg=>.inr (by have:=H1.out.2.2.2 g hg;omega)) lC
   ·refine (Rep.keep fun i o hi ho=>⟨kf i hi,?_⟩).2 _ _ HA.out.2.2.1;have hl:=zZ ho;rw [rR.block i hl (fun e=>?_)];exact ho;have:=H7.out.2.2 i e;have h1:=HFw.out i hi;have h2:=H2.out.1.size;have h3:=H1.out.2.2.1.size;omega
  have lE:(zp bs a n rest).length=bs.length+1+rest.length:=by unfold zp;simp [qG];omega
  have Ek:Rep (fun i=>(F i/\i<w.heap.size)\/w.heap.size+5<=i) (w9.alloc (.cells #[] 165)) (.sl 145 9 (zp bs a n rest).length (qK (zp bs a n rest))) (.slice a9 (bs.length+1+rest.length) c9):=by
   rw [lE];refine (Rep.keep fun i o hi ho=>⟨hi,zU ho⟩).1 _ _ (LD.rep (fun g hg=>.inr ?_) BE);have:=EB g hg;have h2:=H2.out.1.size;have h3:=H1.out.2.2.1.size;omega
  have Ef:zW (fun i=>(F i/\i<w.heap.size)\/w.heap.size+5<=i) (w9.alloc (.cells #[] 165)) (kL m) [str ms,.int .i64 mv,.slice Ca B7 B9,.slice B_ B6 B8] :=
   (Rep.keep fun i o hi ho=>⟨.inl ⟨hi,zZ ho⟩,by rw [BS.block i (zZ ho)];exact ho⟩).2 _ _ HP.out.rm
  have aN:=HT.out.2.2.2.1;have lH:∀ x∈rest,zJ x<=15:=fun x hx=>aN.1 x (by rw [HP.out.ts];simp [hx]);have sN:zJ a<=15:=aN.1 a (by rw [HP.out.ts];simp);have KU:Wri (w9.alloc (.cells #[] 165)) (w.heap.size+4) ((200:Nat):Int) (20000-((20000:Nat):Int)):=zU Nt
  have C7:=write_any 20000 (fun i=>(F i/\i<w.heap.size)\/w.heap.size+5<=i) (w.heap.size+4) 200 20000 (bs.length+rest.length) (bs++rest) m (zp bs a n rest) [] ms mv Ca B_ B7 B9 B6 B8 (.slice a9 (bs.length+1+rest.length) c9) (.slice (some ⟨w9.heap.size,0,none⟩) 0 0) (w9.alloc (.cells #[] 165))
   { wri:=KU,hF:=fun i hi=>(by
    rcases hi with h | h
    ·have:=h.2;omega
    ·omega),ld:=my _,d20:=my _,k200:=my _,fit:=HP.out.fit,hn:=by simp,el:=by rw [lE];omega,nl:=by omega,stl:=by simp,
     ok:=jx _ _ (jR _ _ HP.out.b15 (by omega)) ⟨by rw [okM];exact ⟨sN,by rw [qG];omega,jR _ _ HP.out.b15 (by omega)⟩,jR _ _ lH (by omega)⟩,okg:=trivial,
     wf:=⟨HP.out.wm,ju _ _ (jN _ _) ⟨⟨HP.out.wn,jN _ _⟩,jN _ _⟩,by simp⟩,rb:=Ef,re:=Ek,rs:=zg.2 ⟨by simp [yV],_,_,rfl,my _,fun h=>by simp at h,.inl rfl⟩ }
  rw [show ((bs.length+rest.length:Nat):Int)=(bs.length:Int) from by omega,show w.heap.size+4=w.heap.size+1+1+1+1 from rfl] at C7;have C7:=mj C7;have Jd:=mj (show w8.heap.size<=w9.heap.size from rR.size);have H9:=mj (mu BS (mu Nv th));clear Ez Nu Nw Nv Nt BS BE lE Ek Ef aN lH sN KU BV EB lA th LD rR Me;go_wp2_with fail
  (with_reducible refine C7.out.mono ?_);rintro en aP ⟨s,v,b1,p1,d1,b2,p2,d2,rfl,oH,Ew,By⟩
  obtain ⟨L,S,Jh,hL⟩:∃ L S:Int,Wri aP (w.heap.size+4) L S/\decide (0<=L)=(yC m (zp bs a n rest) (bs.length+rest.length)).isSome:=by
   unfold yC;cases hq:evN 20000 200 20000 m (zp bs a n rest) (bs.length+rest.length) (Qa WFr.gf []) with
   | none =>
     obtain ⟨st,u1,_,_⟩:=Ew hq;exact ⟨-1,st,u1,by rw [show (Qa WFr.gf []:List Gf)=[] from rfl] at hq;rw [hq];rfl⟩
   | some x =>
     obtain ⟨u1,_⟩:=By x hq;exact ⟨_,_,u1,by rw [show (Qa WFr.gf []:List Gf)=[] from rfl] at hq;rw [hq];simp⟩
  have Aj:kQ (w.heap.size+3) 0 (.slice none 0 0) (.slice none 0 0) aP:=kQ.but (zU H9.out.2.1) oH (show ¬ (w.heap.size+3=w.heap.size+1+1+1+1) by omega);have ai:Below w.heap.size w aP:=H9.out.1.trans (oH.toBelow H9.out.1.size fun i hi e=>by have e:i=w.heap.size+1+1+1+1:=e;omega);obtain ⟨oE,Ai⟩:=zzN (aP.alloc (.cells #[str s,.int .i64 v,.slice b1 p1 d1,.slice b2 p2 d2] 47));have tW:Below aP.heap.size aP oE:=by rw [<- Ai];exact (mw _ _).alloc (my _) _
  have AJ:oE.heap[aP.heap.size]? = some (.cells #[str s,.int .i64 v,.slice b1 p1 d1,.slice b2 p2 d2] 47 (0,0)):=by rw [<- Ai];exact zG _ _
  have B1:kQ (w.heap.size+3) 0 (.slice none 0 0) (.slice none 0 0) oE:=Aj.below tW (zZ Aj);have EY:oE.cell? ⟨w.heap.size+4,0,none⟩=some (.int .i64 L):=(tW.cell (p:=⟨w.heap.size+4,0,none⟩) Jh.cell.2.2.2).trans Jh.cell.1;obtain ⟨o0,o1,o2,o3⟩:=kE AJ;obtain ⟨r0,r1,r2,r3,rlt,rf⟩:=B1.cells;have sG:=rf 0;have tZ:=rf 1;have aJ:=rf 2;have iA:=rf 3;have KI:=ai.size;have hne:aP.heap.size≠w.heap.size+3:=by have:=zZ Aj;omega
  have SZ:Hid (∀ w',But (fun i=>i=w.heap.size+3) oE w'->w'.cell? ⟨aP.heap.size,0,none⟩=some (str s)/\w'.cell? ⟨aP.heap.size,1,none⟩=some (.int .i64 v)/\w'.cell? ⟨aP.heap.size,2,none⟩=some (.slice b1 p1 d1)/\w'.cell? ⟨aP.heap.size,3,none⟩=some (.slice b2 p2 d2)/\w'.cell? ⟨w.heap.size+4,0,none⟩=some (.int .i64 L)):=by
   show ∀ w',_->_;intro w' nW;have k:∀ {p:Addr} {u:Value},p.block≠w.heap.size+3->oE.cell? p=some u->w'.cell? p=some u:=fun hn hu=>(nW.cell (mx _ _ hu) hn).trans hu;exact ⟨k hne o0,k hne o1,k hne o2,k hne o3,k (by show w.heap.size+4≠w.heap.size+3;omega) EY⟩
  obtain ⟨W13,Ah,rW,rJ,rX,rG,aL,Ap⟩:=B1.store (str s) (.int .i64 v) (.slice b1 p1 d1) (.slice b2 p2 d2);have Ab:qo F (yC m (zp bs a n rest) (bs.length+rest.length)) w (.returned (.tuple #[.agg #[str s,.int .i64 v,.slice b1 p1 d1,.slice b2 p2 d2],.bool (decide (0<=L))])) W13:=by
   refine ⟨s,v,b1,p1,d1,b2,p2,d2,by rw [hL],aL _ _ (zzT ai tW) (by omega),fun x hx=>?_⟩;unfold yC at hx;rw [N3] at hx;obtain ⟨y,hy,rfl⟩:=hx;obtain ⟨_,u2⟩:=By y hy;refine (Rep.keep fun i o hi ho=>?_).2 _ _ u2;have hl:=zZ ho;have h9:w.heap.size+5<=(w9.alloc (.cells #[] 165)).heap.size:=by
    have:=zZ (H9.out.2.1);have h5:=H9.out.2.2;have:=HA.out.2.2.2.size;have:=H7.out.2.1.size;have:=H2.out.1.size;have:=H1.out.2.2.1.size;have:=Jd.out;rw [zK];omega
   have hc:(F i\/w.heap.size<=i)/\i≠w.heap.size+3:=by
    rcases hi with (h | h) | h
    ·exact ⟨.inl h.1,by have:=h.2;omega⟩
    all_goals
     exact ⟨.inr (by omega),by omega⟩
   exact ⟨hc.1,Ap i _ hc.2 (by rw [tW.block i hl];exact ho)⟩
  have HF:=mj (mu Ai (mu Ah (mu Ab aL)));clear Ai tW AJ B1 EY rf Ah Ab aL Ap hL Jh Aj ai oH Ew By;go_wp2_with fail
  rw [HF.out.1];refine wp_region_noPanic ?_;refine zB (fun w'=>But (fun i=>i=w.heap.size+3) oE w') (fun _=>false) (by kernel_rfl) ?_;have mt:But (fun i=>i=w.heap.size+3) oE oE.drew:=(But.refl _ oE).drew;refine tC [0,1,2,3,4,5] mt ?_;iterate 6 (refine tl (fun w' nP=>SZ.out w' nP) ?_)
  refine tz ?_;refine oC 6 ((((mt.setCell (p:=⟨w.heap.size+3,0,none⟩) (.inl rfl) _).setCell (p:=⟨w.heap.size+3,1,none⟩) (.inl rfl) _).setCell (p:=⟨w.heap.size+3,2,none⟩) (.inl rfl) _).setCell (p:=⟨w.heap.size+3,3,none⟩) (.inl rfl) _) ?_;refine oC 7 ((((mt.setCell (p:=⟨w.heap.size+3,0,none⟩) (.inl rfl) _).setCell (p:=⟨w.heap.size+3,1,none⟩) (.inl rfl) _).setCell (p:=⟨w.heap.size+3,2,none⟩) (.inl rfl) _).setCell (p:=⟨w.heap.size+3,3,none⟩) (.inl rfl) _) ?_;refine zY (by kernel_rfl) (N0 ?_) _;go_wp2_with fail
  obtain ⟨-,Ah,Ab,-⟩:=HF.out;rw [<- Ah];refine bodyPost_ret (v:=.tuple #[.agg #[str s,.int .i64 v,.slice b1 p1 d1,.slice b2 p2 d2],.bool (decide (0<=L))]) (by simp [results,Sw,go_sem,rW,rJ,rX,rG]) rfl ?_;exact Ab.drew
 ·have M3:=DA Iw;have htc2:rest.length+1<=tc:=by have:=HT.out.2.2.1;simpa using this
  clear hT1 DA;have C6:=mj (gY F bs.length rest _ w7 M3 (by omega) (by omega));clear M3;go_wp2_with fail
  (with_reducible refine C6.out.mono ?_);rintro en w8 ⟨a8,c8,Kr,rfl,GX,iJ,rK,aD⟩
  have Et:=H7.out.1.keep (w':=w8) fun g o hg hh=>by rw [rK.block g (zZ hh)];exact hh
  have AE:=GX.src (vw _ _ iJ);have HA:=mj (mu Et (mu AE (mu iJ rK)));clear Et AE GX iJ rK aD;go_wp2_with (at_builtin;refine zE rfl _ _ 142 rfl 145 (.agg #[.int .i64 0,str [],.int .i64 0,.slice none 0 0,.slice none 0 0,.slice none 0 0,.slice none 0 0,.int .i64 0,.int .i64 0]) 9 144 OE Tryz.infoBo rfl (by decide) (.slice a7 (bs.length+1) c7) (bs.length+1) _ rfl HA.out.1 _ rest.length Kr rfl HA.out.2.1 (by unfold maxLen;omega) (by omega) ?_)
  intro a9 c9 w9 LD rR Me;have BV:Below W2.heap.size W2 w9:=(zzT H7.out.2.1 HA.out.2.2.2).trans (rR.toBelow (by have:=H7.out.2.1.size;have:=HA.out.2.2.2.size;omega) fun i hi e=>by have:=H7.out.2.2 i e;omega);have EB:∀ g,(Nq a9 (bs.length+1+rest.length) c9).ownBlock=some g->W2.heap.size<=g:=fun g hg=>by
   rcases Me g hg with h | h
   ·exact H7.out.2.2 g h
   ·have:=H7.out.2.1.size;have:=HA.out.2.2.2.size;omega
  have lA:Below W.heap.size W w9:=H1.out.2.2.1.trans ((H2.out.1.trans (BV.mono (by have:=H2.out.2.1;omega))).mono H1.out.2.2.1.size);have th:=HW.out.2.1;have Ez:∀ {i:Nat} {o:Obj},i<W.heap.size->W.heap[i]? = some o->w9.heap[i]? = some o:=fun hi h=>(lA.block _ hi).trans h;have Nu:=Ez (by omega) HW.out.2.2.2.1;have Nw:=Ez (by omega) HW.out.2.2.2.2.1;have Nv:kQ (w.heap.size+3) 0 (.slice none 0 0) (.slice none 0 0) w9:=Ez (by omega) HW.out.2.2.2.2.2.2.1;have Nt:Wri w9 (w.heap.size+4) 200 0:=Ez (by omega) HW.out.2.2.2.2.2.2.2;obtain ⟨m0,m1,m2,m3⟩:=kE Nw;have t9:w9.cell? ⟨w.heap.size,0,none⟩=some (.slice (some ⟨kb,ko,none⟩) (rest.length+1) tc):=by simp [GD,Nu]
  have t9':(w9.alloc (.cells #[] 165)).cell? ⟨w.heap.size,0,none⟩=some (.slice (some ⟨kb,ko,none⟩) (rest.length+1) tc):=zV t9;have BS:Below w.heap.size w (w9.alloc (.cells #[] 165)):=(zzT HW.out.2.2.1 lA).alloc (by have:=lA.size;omega) _;have BE:zW (fun i=>(F i/\i<w.heap.size)\/w.heap.size+5<=i) w9 (qK (zp bs a n rest)) (oxs++([.int .i64 (-1),str ns,.int .i64 nv,.slice r_ sL ri,.slice rB sR rH,.slice ua a.args.length uc,.slice oa bs.length oc,.int .i64 0,.int .i64 0]++Kr)):=by
   have kw:∀ (i:Nat) (o:Obj),F i->w.heap[i]? = some o->((F i/\i<w.heap.size)\/w.heap.size+5<=i)/\w9.heap[i]? = some o:=fun i o hi ho=>⟨.inl ⟨hi,zZ ho⟩,by rw [lA.block i (by have:=zZ ho;omega),HW.out.2.2.1.block i (zZ ho)];exact ho⟩;have Nh:∀ (i:Nat),i<w1.heap.size->w9.heap[i]? = w1.heap[i]?:=fun i hi=>by rw [BV.block i (by have:=H2.out.2.1;omega),H2.out.1.block i hi]
   have kf:∀ (i:Nat),F i->(F i/\i<w.heap.size)\/w.heap.size+5<=i:=fun i hi=>by
    rcases Qr i w.heap.size with h | h
    ·exact .inl ⟨hi,h⟩
    ·exact .inr (by have:=HFw.out i hi;omega)
   have lC:zW (fun i=>(F i/\i<w.heap.size)\/w.heap.size+5<=i) w9 (qK (z8 0 bs)) oxs:=(Rep.keep fun i o hi ho=>⟨kf i hi,by rw [Nh i (zZ ho)];exact ho⟩).2 _ _ H1.out.2.1;unfold zp;rw [vI,qK,dJ];refine zW.append lC ?_;refine zW.append (vs:=[.int .i64 (-1),str ns,.int .i64 nv,.slice r_ sL ri,.slice rB sR rH,.slice ua a.args.length uc,.slice oa bs.length oc,.int .i64 0,.int .i64 0]) ?_ ?_
   ·refine zW.append (vs:=[.int .i64 (-1)]) (zW.one (zH.2 rfl)) (zW.append (ds:=kL n) (vs:=[str ns,.int .i64 nv,.slice r_ sL ri,.slice rB sR rH]) ((Rep.keep kw).2 _ _ HP.out.rn) ?_);refine zQ.2 ⟨_,_,rfl,(Rep.keep kw).1 _ _ HT.out.2.1,zQ.2 ⟨_,_,rfl,?_,zQ.2 ⟨_,_,rfl,zH.2 rfl,zQ.2 ⟨_,_,rfl,yg.2 ⟨_,rfl⟩,zC.2 rfl⟩⟩⟩⟩;rw [qG];refine (H1.out.1.keep (w':=w9) fun g o hg hh=>by rw [Nh g (zZ hh)];exact hh).rep (fun g hg=>.inr (by have:=H1.out.2.2.2 g hg;omega)) lC
   ·refine (Rep.keep fun i o hi ho=>⟨kf i hi,?_⟩).2 _ _ HA.out.2.2.1;have hl:=zZ ho;rw [rR.block i hl (fun e=>?_)];exact ho;have:=H7.out.2.2 i e;have h1:=HFw.out i hi;have h2:=H2.out.1.size;have h3:=H1.out.2.2.1.size;omega
  have lE:(zp bs a n rest).length=bs.length+1+rest.length:=by unfold zp;simp [qG];omega
  have Ek:Rep (fun i=>(F i/\i<w.heap.size)\/w.heap.size+5<=i) (w9.alloc (.cells #[] 165)) (.sl 145 9 (zp bs a n rest).length (qK (zp bs a n rest))) (.slice a9 (bs.length+1+rest.length) c9):=by
   rw [lE];refine (Rep.keep fun i o hi ho=>⟨hi,zU ho⟩).1 _ _ (LD.rep (fun g hg=>.inr ?_) BE);have:=EB g hg;have h2:=H2.out.1.size;have h3:=H1.out.2.2.1.size;omega
  have Ef:zW (fun i=>(F i/\i<w.heap.size)\/w.heap.size+5<=i) (w9.alloc (.cells #[] 165)) (kL m) [str ms,.int .i64 mv,.slice Ca B7 B9,.slice B_ B6 B8] :=
   (Rep.keep fun i o hi ho=>⟨.inl ⟨hi,zZ ho⟩,by rw [BS.block i (zZ ho)];exact ho⟩).2 _ _ HP.out.rm
  have aN:=HT.out.2.2.2.1;have lH:∀ x∈rest,zJ x<=15:=fun x hx=>aN.1 x (by rw [HP.out.ts];simp [hx]);have sN:zJ a<=15:=aN.1 a (by rw [HP.out.ts];simp);have KU:Wri (w9.alloc (.cells #[] 165)) (w.heap.size+4) ((200:Nat):Int) (20000-((20000:Nat):Int)):=zU Nt
  have C7:=write_any 20000 (fun i=>(F i/\i<w.heap.size)\/w.heap.size+5<=i) (w.heap.size+4) 200 20000 (bs.length+rest.length) (bs++rest) m (zp bs a n rest) [] ms mv Ca B_ B7 B9 B6 B8 (.slice a9 (bs.length+1+rest.length) c9) (.slice (some ⟨w9.heap.size,0,none⟩) 0 0) (w9.alloc (.cells #[] 165))
   { wri:=KU,hF:=fun i hi=>(by
    rcases hi with h | h
    ·have:=h.2;omega
    ·omega),ld:=my _,d20:=my _,k200:=my _,fit:=HP.out.fit,hn:=by simp,el:=by rw [lE];omega,nl:=by omega,stl:=by simp,
     ok:=jx _ _ (jR _ _ HP.out.b15 (by omega)) ⟨by rw [okM];exact ⟨sN,by rw [qG];omega,jR _ _ HP.out.b15 (by omega)⟩,jR _ _ lH (by omega)⟩,okg:=trivial,
     wf:=⟨HP.out.wm,ju _ _ (jN _ _) ⟨⟨HP.out.wn,jN _ _⟩,jN _ _⟩,by simp⟩,rb:=Ef,re:=Ek,rs:=zg.2 ⟨by simp [yV],_,_,rfl,my _,fun h=>by simp at h,.inl rfl⟩ }
  rw [show ((bs.length+rest.length:Nat):Int)=(bs.length:Int)+((rest.length:Int)+1)-1 from by omega,show w.heap.size+4=w.heap.size+1+1+1+1 from rfl] at C7;have C7:=mj C7;have Jd:=mj (show w8.heap.size<=w9.heap.size from rR.size);have H9:=mj (mu BS (mu Nv th));clear Ez Nu Nw Nv Nt BS BE lE Ek Ef aN lH sN KU BV EB lA th LD rR Me;go_wp2_with fail
  (with_reducible refine C7.out.mono ?_);rintro en aP ⟨s,v,b1,p1,d1,b2,p2,d2,rfl,oH,Ew,By⟩
  obtain ⟨L,S,Jh,hL⟩:∃ L S:Int,Wri aP (w.heap.size+4) L S/\decide (0<=L)=(yC m (zp bs a n rest) (bs.length+rest.length)).isSome:=by
   unfold yC;cases hq:evN 20000 200 20000 m (zp bs a n rest) (bs.length+rest.length) (Qa WFr.gf []) with
   | none =>
     obtain ⟨st,u1,_,_⟩:=Ew hq;exact ⟨-1,st,u1,by rw [show (Qa WFr.gf []:List Gf)=[] from rfl] at hq;rw [hq];rfl⟩
   | some x =>
     obtain ⟨u1,_⟩:=By x hq;exact ⟨_,_,u1,by rw [show (Qa WFr.gf []:List Gf)=[] from rfl] at hq;rw [hq];simp⟩
  have Aj:kQ (w.heap.size+3) 0 (.slice none 0 0) (.slice none 0 0) aP:=kQ.but (zU H9.out.2.1) oH (show ¬ (w.heap.size+3=w.heap.size+1+1+1+1) by omega);have ai:Below w.heap.size w aP:=H9.out.1.trans (oH.toBelow H9.out.1.size fun i hi e=>by have e:i=w.heap.size+1+1+1+1:=e;omega);obtain ⟨oE,Ai⟩:=zzN (aP.alloc (.cells #[str s,.int .i64 v,.slice b1 p1 d1,.slice b2 p2 d2] 47));have tW:Below aP.heap.size aP oE:=by rw [<- Ai];exact (mw _ _).alloc (my _) _
  have AJ:oE.heap[aP.heap.size]? = some (.cells #[str s,.int .i64 v,.slice b1 p1 d1,.slice b2 p2 d2] 47 (0,0)):=by rw [<- Ai];exact zG _ _
  have B1:kQ (w.heap.size+3) 0 (.slice none 0 0) (.slice none 0 0) oE:=Aj.below tW (zZ Aj);have EY:oE.cell? ⟨w.heap.size+4,0,none⟩=some (.int .i64 L):=(tW.cell (p:=⟨w.heap.size+4,0,none⟩) Jh.cell.2.2.2).trans Jh.cell.1;obtain ⟨o0,o1,o2,o3⟩:=kE AJ;obtain ⟨r0,r1,r2,r3,rlt,rf⟩:=B1.cells;have sG:=rf 0;have tZ:=rf 1;have aJ:=rf 2;have iA:=rf 3;have KI:=ai.size;have hne:aP.heap.size≠w.heap.size+3:=by have:=zZ Aj;omega
  have SZ:Hid (∀ w',But (fun i=>i=w.heap.size+3) oE w'->w'.cell? ⟨aP.heap.size,0,none⟩=some (str s)/\w'.cell? ⟨aP.heap.size,1,none⟩=some (.int .i64 v)/\w'.cell? ⟨aP.heap.size,2,none⟩=some (.slice b1 p1 d1)/\w'.cell? ⟨aP.heap.size,3,none⟩=some (.slice b2 p2 d2)/\w'.cell? ⟨w.heap.size+4,0,none⟩=some (.int .i64 L)):=by
   show ∀ w',_->_;intro w' nW;have k:∀ {p:Addr} {u:Value},p.block≠w.heap.size+3->oE.cell? p=some u->w'.cell? p=some u:=fun hn hu=>(nW.cell (mx _ _ hu) hn).trans hu;exact ⟨k hne o0,k hne o1,k hne o2,k hne o3,k (by show w.heap.size+4≠w.heap.size+3;omega) EY⟩
  obtain ⟨W13,Ah,rW,rJ,rX,rG,aL,Ap⟩:=B1.store (str s) (.int .i64 v) (.slice b1 p1 d1) (.slice b2 p2 d2);have Ab:qo F (yC m (zp bs a n rest) (bs.length+rest.length)) w (.returned (.tuple #[.agg #[str s,.int .i64 v,.slice b1 p1 d1,.slice b2 p2 d2],.bool (decide (0<=L))])) W13:=by
   refine ⟨s,v,b1,p1,d1,b2,p2,d2,by rw [hL],aL _ _ (zzT ai tW) (by omega),fun x hx=>?_⟩;unfold yC at hx;rw [N3] at hx;obtain ⟨y,hy,rfl⟩:=hx;obtain ⟨_,u2⟩:=By y hy;refine (Rep.keep fun i o hi ho=>?_).2 _ _ u2;have hl:=zZ ho;have h9:w.heap.size+5<=(w9.alloc (.cells #[] 165)).heap.size:=by
    have:=zZ (H9.out.2.1);have h5:=H9.out.2.2;have:=HA.out.2.2.2.size;have:=H7.out.2.1.size;have:=H2.out.1.size;have:=H1.out.2.2.1.size;have:=Jd.out;rw [zK];omega
   have hc:(F i\/w.heap.size<=i)/\i≠w.heap.size+3:=by
    rcases hi with (h | h) | h
    ·exact ⟨.inl h.1,by have:=h.2;omega⟩
    all_goals
     exact ⟨.inr (by omega),by omega⟩
   exact ⟨hc.1,Ap i _ hc.2 (by rw [tW.block i hl];exact ho)⟩
  have HF:=mj (mu Ai (mu Ah (mu Ab aL)));clear Ai tW AJ B1 EY rf Ah Ab aL Ap hL Jh Aj ai oH Ew By;go_wp2_with fail
  rw [HF.out.1];refine wp_region_noPanic ?_;refine zB (fun w'=>But (fun i=>i=w.heap.size+3) oE w') (fun _=>false) (by kernel_rfl) ?_;have mt:But (fun i=>i=w.heap.size+3) oE oE.drew:=(But.refl _ oE).drew;refine tC [0,1,2,3,4,5] mt ?_;iterate 6 (refine tl (fun w' nP=>SZ.out w' nP) ?_)
  refine tz ?_;refine oC 6 ((((mt.setCell (p:=⟨w.heap.size+3,0,none⟩) (.inl rfl) _).setCell (p:=⟨w.heap.size+3,1,none⟩) (.inl rfl) _).setCell (p:=⟨w.heap.size+3,2,none⟩) (.inl rfl) _).setCell (p:=⟨w.heap.size+3,3,none⟩) (.inl rfl) _) ?_;refine oC 7 ((((mt.setCell (p:=⟨w.heap.size+3,0,none⟩) (.inl rfl) _).setCell (p:=⟨w.heap.size+3,1,none⟩) (.inl rfl) _).setCell (p:=⟨w.heap.size+3,2,none⟩) (.inl rfl) _).setCell (p:=⟨w.heap.size+3,3,none⟩) (.inl rfl) _) ?_;refine zY (by kernel_rfl) (N0 ?_) _;go_wp2_with fail
  obtain ⟨-,Ah,Ab,-⟩:=HF.out;rw [<- Ah];refine bodyPost_ret (v:=.tuple #[.agg #[str s,.int .i64 v,.slice b1 p1 d1,.slice b2 p2 d2],.bool (decide (0<=L))]) (by simp [results,Sw,go_sem,rW,rJ,rX,rG]) rfl ?_;exact Ab.drew
end Go.Proofs.YtpgiohmcggllgaaGreatDoor

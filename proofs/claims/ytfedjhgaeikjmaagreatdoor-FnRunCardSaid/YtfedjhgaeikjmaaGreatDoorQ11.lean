/- Walks of functions that the statement reaches, and plain words. No conditions. -/
import Derived.Test.YtfedjhgaeikjmaaGreatDoorQ10
set_option linter.unusedVariables false
set_option linter.unusedSimpArgs false
set_option maxHeartbeats 8000000
namespace Go.Proofs.YtfedjhgaeikjmaaGreatDoor
open Go.RowKit
structure NodeC (F:Nat->Prop) (w:World) (rd rb nb:Nat) (no:Obj) (ob Z:Nat) (v:Int) (wr:World) (pk py:List Bd) (kv yv:List Value) (ks:Value) (nk:Nat) (ys:Value) (ny:Nat):Prop where
 hnk:nk=pk.length
 hny:ny=py.length
 ksl:∃ a c,ks=.slice a nk c
 ysl:∃ a c,ys=.slice a ny c
 but:But (· = rd) w wr
 res:kY rb 0 (.slice none 0 0) (.slice none 0 0) wr
 out:kY ob v ks ys wr
 ownK:Own wr 64 4 ks nk kv
 ownY:Own wr 64 4 ys ny yv
 blkK:∀ g,ks.ownBlock=some g->Z<=g/\ys.ownBlock≠some g
 blkY:∀ g,ys.ownBlock=some g->Z<=g
 repK:zG (fun b=>(F b\/Z<=b)/\ks.ownBlock≠some b/\ys.ownBlock≠some b) wr (zm pk) kv
 repY:zG (fun b=>(F b\/Z<=b)/\ks.ownBlock≠some b/\ys.ownBlock≠some b) wr (zm py) yv
 z:Z<=wr.heap.size
 old:∀ k,F k->k<w.heap.size/\k≠rd
 rbl:(w.heap.size<=rb/\rb<ob)/\(w.heap.size<=nb/\nb<ob)
 nbx:wr.heap[nb]? = some no
theorem NodeC.kid {F:Nat->Prop} {w:World} {rd rb nb:Nat} {no:Obj} {ob Z:Nat} {v:Int} {wr:World} {pk py:List Bd} {kv yv:List Value} {ks ys:Value} {nk ny:Nat}
 (h:NodeC F w rd rb nb no ob Z v wr pk py kv yv ks nk ys ny) (dZ:rd<w.heap.size) (rc:ob<Z) (Az:w.heap.size<ob) {W w7:World} {b:Bd} {cs:List Value} {a':Option Addr} {c':Nat}
 (cW:But (· = rd) wr W) (hcs:zG (fun k=>F k\/wr.heap.size<=k) W (kC b) cs) (cV:Own w7 64 4 (.slice a' (nk+1) c') (nk+1) (kv++cs)) (cJ:But (fun i=>ks.ownBlock=some i) W w7)
 (cB:∀ g,(Value.slice a' (nk+1) c').ownBlock=some g->ks.ownBlock=some g\/g=W.heap.size) :
 NodeC F w rd rb nb no ob Z v (w7.setCell ⟨ob,2,none⟩ (.slice a' (nk+1) c')) (pk++[b]) py (kv++cs) yv (.slice a' (nk+1) c') (nk+1) ys ny:=by
 have z6:=cW.size
 have mu:=h.rbl
 have z7:=cJ.size
 have zr:=h.z
 have zb:=h.but.size
 have keep:∀ i x,wr.heap[i]? = some x->ks.ownBlock≠some i->i≠ob->i≠rd->(w7.setCell ⟨ob,2,none⟩ (.slice a' (nk+1) c')).heap[i]? = some x:=by
  intro i x hx h1 h2 h3
  have:=zZ hx
  rw [b5 _ _ _ _ (by simpa using h2),cJ.block i (by omega) h1,cW.block i this h3];exact hx
 have dJ:∀ i x,W.heap[i]? = some x->ks.ownBlock≠some i->i≠ob->(w7.setCell ⟨ob,2,none⟩ (.slice a' (nk+1) c')).heap[i]? = some x:=by
  intro i x hx h1 h2
  have:=zZ hx
  rw [b5 _ _ _ _ (by simpa using h2),cJ.block i (by omega) h1];exact hx
 have FO:∀ i,F i\/Z<=i->i≠ob/\i≠rd:=fun i hi=>by
  rcases hi with hi | hi
  ·have:=h.old i hi;omega
  ·omega
 have ltK:∀ g,ks.ownBlock=some g->g<wr.heap.size:=fun g hg=>h.ownK.lt hg
 have ltY:∀ g,ys.ownBlock=some g->g<wr.heap.size:=fun g hg=>h.ownY.lt hg
 have nK:∀ i,i<Z->ks.ownBlock≠some i:=fun i hi e=>by have:=(h.blkK i e).1;omega
 have newg:∀ g,(Value.slice a' (nk+1) c').ownBlock=some g->Z<=g:=fun g hg=>by
  rcases cB g hg with e | e
  ·exact (h.blkK g e).1
  ·omega
 refine ⟨by simp [h.hnk],h.hny,⟨_,_,rfl⟩,h.ysl,?_,?_,?_,?_,?_,?_,h.blkY,?_,?_,by simp [World.setCell];omega,h.old,h.rbl,?_⟩
 ·refine But.setCell ?_ (.inr (show w.heap.size<=ob by omega)) _
  exact (h.but.trans cW).trans' cJ (fun i hi e=>absurd e (nK i (by omega)))
 ·exact keep _ _ h.res (nK _ (by omega)) (by omega) (by omega)
 ·have h1:kY ob v ks ys w7:=by
   unfold kY;rw [cJ.block ob (by omega) (nK _ rc),cW.block ob (by omega) (show ¬ ob=rd by omega)];exact h.out
  exact h1.put2
 ·exact cV.keep fun g o hg ho=>by rw [b5 _ _ _ _ (by have:=newg g hg;simp;omega)];exact ho
 ·exact h.ownY.keep fun g o hg ho=>keep g o ho (fun e=>(h.blkK g e).2 hg) (by have:=h.blkY g hg;omega) (by have:=h.blkY g hg;omega)
 ·intro g hg
  refine ⟨newg g hg,fun e=>?_⟩
  rcases cB g hg with e' | e'
  ·exact (h.blkK g e').2 e
  ·have:=ltY g e;omega
 ·rw [kr]
  have h1:=h.repK
  refine zG.append ((Rep.keep fun i x hi hx=>⟨⟨hi.1,fun e=>(cB i e).elim (fun e'=>hi.2.1 e') (fun e'=>by have:=zZ hx;omega),hi.2.2⟩,keep i x hx hi.2.1 (FO i hi.1).1 (FO i hi.1).2⟩).2 _ _ h1) ?_
  ·have e1:zm [b]=kC b:=by simp [zm]
   rw [e1]
   refine (Rep.keep fun i x hi hx=>?_).2 _ _ hcs
   have h2:=zZ hx
   rcases hi with hf | h3
   ·have BR:=(h.old i hf).1
    exact ⟨⟨.inl hf,fun e=>by have:=newg i e;omega,fun e=>by have:=h.blkY i e;omega⟩,dJ i x hx (fun e=>by have:=(h.blkK i e).1;omega) (by omega)⟩
   refine ⟨⟨.inr (by omega),fun e=>?_,fun e=>by have:=ltY i e;omega⟩,dJ i x hx (fun e=>by have:=ltK i e;omega) (by omega)⟩
   rcases cB i e with e' | e'
   ·have:=ltK i e';omega
   ·omega
 ·exact (Rep.keep fun i x hi hx=>⟨⟨hi.1,fun e=>(cB i e).elim (fun e'=>hi.2.1 e') (fun e'=>by have:=zZ hx;omega),hi.2.2⟩,keep i x hx hi.2.1 (FO i hi.1).1 (FO i hi.1).2⟩).2 _ _ h.repY
 ·exact keep _ _ h.nbx (nK _ (by omega)) (by omega) (by omega)
theorem NodeC.yes {F:Nat->Prop} {w:World} {rd rb nb:Nat} {no:Obj} {ob Z:Nat} {v:Int} {wr:World} {pk py:List Bd} {kv yv:List Value} {ks ys:Value} {nk ny:Nat}
 (h:NodeC F w rd rb nb no ob Z v wr pk py kv yv ks nk ys ny) (dZ:rd<w.heap.size) (rc:ob<Z) (Az:w.heap.size<ob) {W w7:World} {b:Bd} {cs:List Value} {a':Option Addr} {c':Nat}
 (cW:But (· = rd) wr W) (hcs:zG (fun k=>F k\/wr.heap.size<=k) W (kC b) cs) (cV:Own w7 64 4 (.slice a' (ny+1) c') (ny+1) (yv++cs)) (cJ:But (fun i=>ys.ownBlock=some i) W w7)
 (cB:∀ g,(Value.slice a' (ny+1) c').ownBlock=some g->ys.ownBlock=some g\/g=W.heap.size) :
 NodeC F w rd rb nb no ob Z v (w7.setCell ⟨ob,3,none⟩ (.slice a' (ny+1) c')) pk (py++[b]) kv (yv++cs) ks nk (.slice a' (ny+1) c') (ny+1):=by
 have z6:=cW.size
 have mu:=h.rbl
 have z7:=cJ.size
 have zr:=h.z
 have zb:=h.but.size
 have keep:∀ i x,wr.heap[i]? = some x->ys.ownBlock≠some i->i≠ob->i≠rd->(w7.setCell ⟨ob,3,none⟩ (.slice a' (ny+1) c')).heap[i]? = some x:=by
  intro i x hx h1 h2 h3
  have:=zZ hx
  rw [b5 _ _ _ _ (by simpa using h2),cJ.block i (by omega) h1,cW.block i this h3];exact hx
 have dJ:∀ i x,W.heap[i]? = some x->ys.ownBlock≠some i->i≠ob->(w7.setCell ⟨ob,3,none⟩ (.slice a' (ny+1) c')).heap[i]? = some x:=by
  intro i x hx h1 h2
  have:=zZ hx
  rw [b5 _ _ _ _ (by simpa using h2),cJ.block i (by omega) h1];exact hx
 have FO:∀ i,F i\/Z<=i->i≠ob/\i≠rd:=fun i hi=>by
  rcases hi with hi | hi
  ·have:=h.old i hi;omega
  ·omega
 have ltK:∀ g,ks.ownBlock=some g->g<wr.heap.size:=fun g hg=>h.ownK.lt hg
 have ltY:∀ g,ys.ownBlock=some g->g<wr.heap.size:=fun g hg=>h.ownY.lt hg
 have nY:∀ i,i<Z->ys.ownBlock≠some i:=fun i hi e=>by have:=h.blkY i e;omega
 have newg:∀ g,(Value.slice a' (ny+1) c').ownBlock=some g->Z<=g:=fun g hg=>by
  rcases cB g hg with e | e
  ·exact h.blkY g e
  ·omega
 refine ⟨h.hnk,by simp [h.hny],h.ksl,⟨_,_,rfl⟩,?_,?_,?_,?_,?_,?_,newg,?_,?_,by simp [World.setCell];omega,h.old,h.rbl,?_⟩
 ·refine But.setCell ?_ (.inr (show w.heap.size<=ob by omega)) _
  exact (h.but.trans cW).trans' cJ (fun i hi e=>absurd e (nY i (by omega)))
 ·exact keep _ _ h.res (nY _ (by omega)) (by omega) (by omega)
 ·have h1:kY ob v ks ys w7:=by
   unfold kY;rw [cJ.block ob (by omega) (nY _ rc),cW.block ob (by omega) (show ¬ ob=rd by omega)];exact h.out
  exact h1.put3
 ·exact h.ownK.keep fun g o hg ho=>keep g o ho (h.blkK g hg).2 (by have:=(h.blkK g hg).1;omega) (by have:=(h.blkK g hg).1;omega)
 ·exact cV.keep fun g o hg ho=>by rw [b5 _ _ _ _ (by have:=newg g hg;simp;omega)];exact ho
 ·intro g hg
  refine ⟨(h.blkK g hg).1,fun e=>?_⟩
  rcases cB g e with e' | e'
  ·exact (h.blkK g hg).2 e'
  ·have:=ltK g hg;omega
 ·exact (Rep.keep fun i x hi hx=>⟨⟨hi.1,hi.2.1,fun e=>(cB i e).elim (fun e'=>hi.2.2 e') (fun e'=>by have:=zZ hx;omega)⟩,keep i x hx hi.2.2 (FO i hi.1).1 (FO i hi.1).2⟩).2 _ _ h.repK
 ·rw [kr]
  refine zG.append ((Rep.keep fun i x hi hx=>⟨⟨hi.1,hi.2.1,fun e=>(cB i e).elim (fun e'=>hi.2.2 e') (fun e'=>by have:=zZ hx;omega)⟩,keep i x hx hi.2.2 (FO i hi.1).1 (FO i hi.1).2⟩).2 _ _ h.repY) ?_
  ·have e1:zm [b]=kC b:=by simp [zm]
   rw [e1]
   refine (Rep.keep fun i x hi hx=>?_).2 _ _ hcs
   have h2:=zZ hx
   rcases hi with hf | h3
   ·have BR:=(h.old i hf).1
    exact ⟨⟨.inl hf,fun e=>by have:=(h.blkK i e).1;omega,fun e=>by have:=newg i e;omega⟩,dJ i x hx (fun e=>by have:=h.blkY i e;omega) (by omega)⟩
   refine ⟨⟨.inr (by omega),fun e=>by have:=ltK i e;omega,fun e=>?_⟩,dJ i x hx (fun e=>by have:=ltY i e;omega) (by omega)⟩
   rcases cB i e with e' | e'
   ·have:=ltY i e';omega
   ·omega
 ·exact keep _ _ h.nbx (nY _ (by omega)) (by omega) (by omega)
theorem kD.not_str {w:World} {rd P j:Nat} {x:Bs} (h:kD w rd P) (hc:w.cell? ⟨rd,j,none⟩=some (str x)):False:=by
 obtain ⟨a,m,c,p,h1,hp,hm,hcs⟩:=h
 simp only [World.cell?,h1] at hc
 match j,hc with
 | 0,hc=>simp at hc
 | 1,hc=>simp at hc
 | j+2,hc=>simp at hc
theorem AtN.out {F:Nat->Prop} {w:World} {bs:List Bd} {a:Option Addr} {k rd P:Nat} (h:AtN F w bs a k) (hr:kD w rd P):∃ b o s v a2 n2 c2 a3 n3 c3 d,a=some ⟨b,o,none⟩/\b<w.heap.size/\b≠rd/\bs[k]? = some d/\w.cell? ⟨b,o+k*4,none⟩=some (str s)/\w.cell? ⟨b,o+k*4+1,none⟩=some (.int .i64 v) /\
 w.cell? ⟨b,o+k*4+2,none⟩=some (.slice a2 n2 c2)/\w.cell? ⟨b,o+k*4+3,none⟩=some (.slice a3 n3 c3)/\zG F w (kC d) [str s,.int .i64 v,.slice a2 n2 c2,.slice a3 n3 c3]:=by
 obtain ⟨b,o,s,v,a2,n2,c2,a3,n3,c3,d,rfl,hb,hd,h0,h1,h2,h3,fl⟩:=h
 refine ⟨b,o,s,v,a2,n2,c2,a3,n3,c3,d,rfl,hb,fun e=>?_,hd,h0,h1,h2,h3,fl⟩
 rw [e] at h0
 exact hr.not_str h0
theorem args_atomsD {t:Ty} (h:zV t<=15):(∀ a∈t.args,zV a<=15)/\t.args.length<=15:=by
 have hm:=zp t
 constructor
 ·intro a ha
  have key:∀ ts:List Ty,a∈ts->1+zV a<=zE ts:=by
   intro ts
   induction ts with
   | nil=>intro h;simp at h
   | cons x xs ih =>
     intro h
     rcases List.mem_cons.1 h with rfl | h
     ·simp only [zE];omega
     ·have:=ih h;simp only [zE];omega
  have:=key _ ha;omega
 ·have:=zc t.args;omega
theorem runM_more:∀ (f m:Nat) (b:Bd) (env:List Clo) (bg:Nat) (p:Bs) (st:List Fr) (r:UInt8×List (Bs×Nat)),vI f m b env bg p st=some r->∀ f',f<=f'->vI f' m b env bg p st=some r:=by
 intro f
 induction f with
 | zero =>
   intro m b env bg p st r h f' _
   cases b with
   | leaf d =>
     by_cases hd:d=117
     ·subst hd;rw [xM] at h ⊢;exact h
     ·rw [xm hd] at h;simp at h
   | ask l ss y n=>rw [yi] at h;simp at h
 | succ f ih =>
   intro m b env bg p st r h f' hf
   obtain ⟨f',rfl⟩:∃ k,f'=k+1:=⟨f'-1,by omega⟩
   cases b with
   | leaf d =>
     by_cases hd:d=117
     ·subst hd;rw [xM] at h ⊢;exact h
     ·cases st with
      | nil=>rw [xr hd] at h ⊢;exact h
      | cons fr st' =>
        rw [uD hd,Option.map_eq_some_iff] at h
        obtain ⟨x,h1,h2⟩:=h
        rw [uD hd,ih _ _ _ _ _ _ _ h1 f' (by omega),Option.map_some,h2]
   | ask l ss y n =>
     cases he:env[l]? with
     | none=>simp [vI,he] at h
     | some e =>
       rw [yA _ _ _ _ _ _ _ _ _ _ he,Option.map_eq_some_iff] at h
       obtain ⟨x,h1,h2⟩:=h
       rw [yA _ _ _ _ _ _ _ _ _ _ he,ih _ _ _ _ _ _ _ h1 f' (by omega),Option.map_some,h2]
theorem pB:∀ (ts:List Ty) (xs:List Bs) (bs:List Bd),(∀ t∈ts,zV t<=15)->ts.length=xs.length->zk ts xs=some bs->zg (zu [] ts) bs/\vi bs
 | [],[],bs,_,_,h=>by
   simp [zk] at h;subst h
   exact ⟨by simp [zg,zu],by simp [vi]⟩
 | [],x::xs,_,_,hl,_=>by simp at hl
 | t::ts,[],_,_,hl,_=>by simp at hl
 | t::ts,x::xs,bs,ha,hl,h=>by
   simp only [zk,Option.bind_eq_some_iff,Option.map_eq_some_iff] at h
   obtain ⟨b,hb,bs',sK,rfl⟩:=h
   obtain ⟨h1,h2⟩:=pB ts xs bs' (fun t h=>ha t (by simp [h])) (by simpa using hl) sK
   have ht:=ha t (by simp)
   rw [up ht] at hb
   have hg:=(qP hb).1
   rw [je ht] at hg
   refine ⟨?_,?_⟩
   ·rw [zg]
    exact ⟨t.args,zu [] ts,by simp [zu],hg.fit,h1⟩
   ·rw [vi];exact ⟨hg.wf,h2⟩
structure RunF (s text:Bs) (xs:List Bs) (c:UInt8) (log:Pl):Prop where
 more:z_ 5000 s text xs=some (c,log)
 leg:jq s (log.map (·.1)) (log.map (·.2))=true
 fol:jY s text (log.map (·.1)) (log.map (·.2))=true
 pos:0<log.length
 len:log.length<=60
 lim:∀ x∈log,Lim x.1.length
 last:c=117/\(∃ y,log[log.length-1]? = some y/\y.1≠[117])\/(c=116\/c=102)/\log[log.length-1]? = some ([c],0)/\1<log.length
theorem run_facts {s text:Bs} {xs:List Bs} {c:UInt8} {log:Pl} (h:z_ 60 s text xs=some (c,log)):RunF s text xs c log:=by
 unfold z_ at h
 rw [uw] at h
 cases hq:zT s text with
 | none=>rw [hq] at h;simp at h
 | some b =>
   rw [hq] at h
   simp only [Option.map_some,Option.bind_some] at h
   split at h
   ·rename_i b_
    rw [Option.bind_eq_some_iff] at h
    obtain ⟨bs,sK,hr⟩:=h
    have hg:=(qP hq).1
    obtain ⟨hf,hw⟩:=pB _ _ _ (args_atomsD hg.atoms).1 b_ sK
    obtain ⟨hI,aM⟩:=runAll_in hg.atoms hg.fit hg.wf hf hw (by omega) (br _) hr
    have BK:=follow_in hq hI
    obtain ⟨_,_,_,hleg⟩:=in_of_follow BK
    have fd:=qc hI.ok
    have mx:0<log.length:=by
     unfold v8 at hr
     rw [Option.map_eq_some_iff] at hr
     obtain ⟨x,_,e⟩:=hr
     simp only [Prod.mk.injEq] at e
     rw [<- e.2];simp
    refine ⟨?_,hleg,BK,mx,fd,legPl_lim hg.atoms hI.ok,?_⟩
    ·unfold z_
     rw [uw,hq]
     simp only [Option.map_some,Option.bind_some]
     rw [if_pos b_,sK,Option.bind_some]
     unfold v8 at hr ⊢
     rw [Option.map_eq_some_iff] at hr
     obtain ⟨x,hx,e⟩:=hr
     rw [runM_more _ _ _ _ _ _ _ _ hx _ (by omega),Option.map_some,e]
    ·rcases aM with rfl | ⟨hc,w,rfl,tn⟩
     ·left
      obtain ⟨d,p,z,hv,ho⟩:=kq hI.ok (show log.length-1<log.length by omega)
      refine ⟨rfl,_,hv,fun e=>?_⟩
      have h1:=ho.hc
      have e:d::p=[117]:=e
      simp only [List.cons.injEq] at e
      rw [e.1] at h1
      rcases h1 with h | h | h <;> exact absurd h (by decide)
     ·right
      refine ⟨hc,?_,by rw [List.length_append,List.length_singleton];omega⟩
      rw [List.length_append,List.length_singleton,Nat.add_sub_cancel,List.getElem?_append_right (br _),Nat.sub_self]
      rfl
   ·simp at h
theorem za.cellP {w:World} {l:Pl} {mv pt:Value} (h:za w l mv pt) {i:Nat} {x:Bs×Int} (hi:l[i]? = some x):∃ g c,pt=.slice (some ⟨g,0,none⟩) l.length c/\w.cell? ⟨g,i,none⟩=some (.int .i64 x.2) :=
 h.2.at (by simp [jU,hi])
set_option maxRecDepth 100000 in
theorem fnRun_any (a0:Option Addr) (len cap:Nat) (zs:List Int) (w:World) (h8:Row8 w a0 len cap zs) (hg:qF w) (rN:jH w) :
 Calls Tryz.prog 4 #[.slice a0 len cap] w fun en w'=>en=.returned (.bool true)/\Below w.heap.size w w':=by
 by_cases hl:1048576<len
 ·have eS:(1048576:Int)<(len:Int):=by omega
  go_enter Tryz.func4,Tryz.ntmps4
  go_wp2_with fail
  go_ret
  exact ⟨rfl,bi _ _⟩
 have eS:¬ (1048576:Int)<(len:Int):=by omega
 have CD:=bc (drawRunOf_any a0 len cap zs w h8 (by omega))
 have HG:=bc (fun (y:World) (hy:Below w.heap.size w y)=>bm (hg.below hy) (rN.but (m:=fun _=>False) (But.ofBelow hy) (fun h=>h)))
 clear h8 hg rN hl
 go_enter Tryz.func4,Tryz.ntmps4
 go_wp2_with fail
 (with_reducible refine CD.out.mono ?_)
 rintro en w1 ⟨s,text,xs,a,c,rfl,hs,ht,mV,_,eF,hx,b9⟩
 have ls:Lim s.length:=show _<=_ by omega
 have lt:Lim text.length:=show _<=_ by omega
 have lx:Lim xs.length:=show _<=_ by omega
 have lxs:∀ x∈xs,Lim x.length:=fun x h=>show _<=_ by have:=eF x h;omega
 have dh:=bc b9
 have HX:=bc hx.at
 have CI:=bc (fun (y:World) (hy:Below w.heap.size w y) (h:qD y a xs)=>implRunOf_any s text xs a c y (HG.out y hy).1 (HG.out y hy).2 h ls lt lxs lx)
 have CS:=bc (fun (y:World) (h:qD y a xs)=>specRunOf_any s text xs a c y h ls lt lxs lx)
 have CR:=bc (fun (y:World) (hy:Below w.heap.size w y) (h:qD y a xs)=>wV s text xs a c y (HG.out y hy).1 (HG.out y hy).2 h ls lt lxs lx)
 have CF:=bc (fun (y:World) (hy:Below w.heap.size w y) (u:Pl) (mv pt:Value) (hp:za y u mv pt) (rE:∀ x∈u,Lim x.1.length)=>uS (fun _=>True) s text mv pt (u.map (·.1)) (u.map (·.2)) y (HG.out y hy).1 ls lt (za.mv (F:=fun _=>True) hp (fun _ _=>trivial)).1.ms (za.mv (F:=fun _=>True) hp (fun _ _=>trivial)).2.ps (fun x hx=>by
  obtain ⟨z,hz,rfl⟩:=List.mem_map.1 hx
  exact rE z hz))
 have CL:=bc (fun (y:World) (u:Pl) (mv pt:Value) (hp:za y u mv pt) (rE:∀ x∈u,Lim x.1.length)=>vr (fun _=>True) s mv pt (u.map (·.1)) (u.map (·.2)) y ls (za.mv (F:=fun _=>True) hp (fun _ _=>trivial)).1.ms (za.mv (F:=fun _=>True) hp (fun _ _=>trivial)).2.ps (fun x hx=>by
  obtain ⟨z,hz,rfl⟩:=List.mem_map.1 hx
  exact rE z hz))
 have Dg:=bc (fun (c:UInt8) (log:Pl) (h:z_ 60 s text xs=some (c,log))=>run_facts h)
 have iH:logOf (kO true 60 s text xs)=logOf (z_ 60 s text xs):=by
  obtain ⟨h1,h2⟩:=run_eq true 60 s text xs
  cases h:z_ 60 s text xs with
  | none=>rw [h1 h]
  | some x =>
    obtain ⟨log',h3,h4⟩:=h2 x.1 x.2 h
    rw [h3,h4 rfl]
 have dD:=res_same true 60 s text xs
 unfold pU at CI CS
 rw [iH,dD] at CS
 clear iH dD hs ht mV eF hx b9 ls lt lx lxs CD
 have C1:=bc (CI.out w1 dh.out HX.out)
 clear CI
 cases hR:z_ 60 s text xs with
 | none =>
   have C1:=C1.out
   have CS:=CS.out
   rw [hR] at C1 CS
   have C1:Calls _ _ _ _ fun en w'=>∃ mv pt,en=.returned (.tuple #[.agg #[mv,pt],str [],.bool false])/\Below w1.heap.size w1 w'/\za w' [] mv pt/\(∀ g,mv.ownBlock=some g\/pt.ownBlock=some g->w1.heap.size<=g):=C1
   have CS:∀ y,qD y a xs->Calls _ _ _ _ fun en w'=>∃ mv pt,en=.returned (.tuple #[.agg #[mv,pt],str [],.bool false])/\Below y.heap.size y w'/\za w' [] mv pt/\(∀ g,mv.ownBlock=some g\/pt.ownBlock=some g->y.heap.size<=g):=CS
   have C1:=bc C1
   have CS:=bc CS
   clear hR Dg CR CF CL
   go_wp2_with fail
   (with_reducible refine C1.out.mono ?_)
   rintro en w2 ⟨mv,pt,rfl,b8,rB,_⟩
   obtain ⟨b1,d1,e1⟩:=rB.1.slice
   obtain ⟨b2,d2,e2⟩:=rB.2.slice
   change mv=.slice b1 0 d1 at e1
   change pt=.slice b2 0 d2 at e2
   subst e1;subst e2
   obtain ⟨W3,sJ,nS,_,x3⟩:=qn w2 (.cells #[.slice b1 0 d1,.slice b2 0 d2] 33)
   have eV:=zzT b8 nS
   have BO:=bc (wI.mk' nS x3 rB)
   have nV:=bc (zzT dh.out eV)
   have HW3:=bc sJ
   have C2:=bc (CS.out W3 (HX.out.below eV))
   clear b8 rB sJ nS x3 eV C1 CS
   go_upto_region 5 with (fail)
   rw [HW3.out]
   go_wp2_with fail
   (with_reducible refine C2.out.mono ?_)
   rintro en w4 ⟨mv,pt,rfl,cA,aQ,_⟩
   obtain ⟨b3,d3,e3⟩:=aQ.1.slice
   obtain ⟨b4,d4,e4⟩:=aQ.2.slice
   change mv=.slice b3 0 d3 at e3
   change pt=.slice b4 0 d4 at e4
   subst e3;subst e4
   obtain ⟨W5,Cq,nR,_,x5⟩:=qn w4 (.cells #[.slice b3 0 d3,.slice b4 0 d4] 33)
   have ml:=zzT cA nR
   have BN:=bc (wI.mk' nR x5 aQ)
   have ao:=bc (BO.out.next ml)
   have sV:=bc (zzT nV.out ml)
   have HW5:=bc Cq
   clear cA aQ Cq nR x5 ml C2 BO nV
   obtain ⟨⟨e2,e3⟩,lH⟩:=ao.out W5 (bi _ _)
   obtain ⟨⟨e4,e5⟩,AX⟩:=BN.out W5 (bi _ _)
   have C3:=bc (uj [] _ _ _ _ W5 lH AX (by simp))
   have C4:=bc (fun (y:World) (hy:Below W5.heap.size W5 y)=>uj [] _ _ _ _ y (ao.out y hy).2 (BN.out y hy).2 (by simp))
   clear lH AX
   go_upto_region 6 with (fail)
   rw [HW5.out]
   go_wp2_with fail
   (with_reducible refine C3.out.mono ?_)
   rintro en w6 ⟨rfl,cW⟩
   have H6:=bc cW
   have C5:=bc (C4.out w6 cW)
   clear cW C3 C4 e2 e3 e4 e5
   obtain ⟨⟨e2,e3⟩,_⟩:=ao.out w6 H6.out
   obtain ⟨⟨e4,e5⟩,_⟩:=BN.out w6 H6.out
   go_wp2_with fail
   (with_reducible refine C5.out.mono ?_)
   rintro en w7 ⟨rfl,cJ⟩
   have HF:=bc (sV.out.trans ((zzT H6.out cJ).mono sV.out.size))
   clear cJ C5
   go_wp2_with fail
   go_ret
   exact ⟨rfl,HF.out⟩
 | some r =>
   obtain ⟨cc,log⟩:=r
   have ae:=bc (Dg.out cc log hR)
   have C1:=C1.out
   have CS:=CS.out
   have CR:=CR.out
   rw [hR] at C1 CS
   rw [ae.out.more] at CR
   have C1:Calls _ _ _ _ fun en w'=>∃ mv pt,en=.returned (.tuple #[.agg #[mv,pt],str [cc],.bool true])/\Below w1.heap.size w1 w'/\za w' log mv pt/\(∀ g,mv.ownBlock=some g\/pt.ownBlock=some g->w1.heap.size<=g):=C1
   have CS:∀ y,qD y a xs->Calls _ _ _ _ fun en w'=>∃ mv pt,en=.returned (.tuple #[.agg #[mv,pt],str [cc],.bool true])/\Below y.heap.size y w'/\za w' log mv pt/\(∀ g,mv.ownBlock=some g\/pt.ownBlock=some g->y.heap.size<=g):=CS
   have CR:∀ y,Below w.heap.size w y->qD y a xs->Calls _ _ _ _ fun en w'=>en=.returned (.tuple #[str [cc],.bool true])/\Below y.heap.size y w':=CR
   have C1:=bc C1
   have CS:=bc CS
   have CR:=bc CR
   clear hR Dg
   go_wp2_with fail
   (with_reducible refine C1.out.mono ?_)
   rintro en w2 ⟨mv,pt,rfl,b8,rB,_⟩
   obtain ⟨b1,d1,e1⟩:=rB.1.slice
   obtain ⟨b2,d2,e2⟩:=rB.2.slice
   subst e1;subst e2
   obtain ⟨W3,sJ,nS,_,x3⟩:=qn w2 (.cells #[.slice b1 log.length d1,.slice b2 log.length d2] 33)
   have eV:=zzT b8 nS
   have BO:=bc (wI.mk' nS x3 rB)
   have nV:=bc (zzT dh.out eV)
   have HW3:=bc sJ
   have HX3:=bc (HX.out.below eV)
   have C2:=bc (CS.out W3 HX3.out)
   clear b8 rB sJ nS x3 eV C1 CS
   go_upto_region 5 with (fail)
   rw [HW3.out]
   go_wp2_with fail
   (with_reducible refine C2.out.mono ?_)
   rintro en w4 ⟨mv,pt,rfl,cA,aQ,_⟩
   obtain ⟨b3,d3,e3⟩:=aQ.1.slice
   obtain ⟨b4,d4,e4⟩:=aQ.2.slice
   subst e3;subst e4
   obtain ⟨W5,Cq,nR,_,x5⟩:=qn w4 (.cells #[.slice b3 log.length d3,.slice b4 log.length d4] 33)
   have ml:=zzT cA nR
   have BN:=bc (wI.mk' nR x5 aQ)
   have ao:=bc (BO.out.next ml)
   have sV:=bc (zzT nV.out ml)
   have HX5:=bc (HX3.out.below ml)
   have HW5:=bc Cq
   clear cA aQ Cq nR x5 ml C2 BO nV
   obtain ⟨⟨e2,e3⟩,lH⟩:=ao.out W5 (bi _ _)
   obtain ⟨⟨e4,e5⟩,AX⟩:=BN.out W5 (bi _ _)
   have C3:=bc (uj log _ _ _ _ W5 lH AX (by have:=ae.out.len;omega))
   have key:∃ (y:Bs×Int),log[log.length-1]? = some y/\(cc=117/\(y.1 == [117])=false\/(cc=116\/cc=102)/\y=([cc],0)/\1<log.length):=by
    rcases ae.out.last with ⟨h1,y,h2,h3⟩ | ⟨h1,h2,h3⟩
    ·exact ⟨y,h2,.inl ⟨h1,by rw [beq_eq_false_iff_ne];exact h3⟩⟩
    ·exact ⟨_,h2,.inr ⟨h1,rfl,h3⟩⟩
   obtain ⟨⟨em,ez⟩,dw,dG⟩:=key
   obtain ⟨gu,cu,eu,ku⟩:=lH.cellM dw
   obtain ⟨gz,cz,eu2,kz⟩:=lH.cellP dw
   simp only [Value.slice.injEq,true_and] at eu eu2
   obtain ⟨rfl,rfl⟩:=eu
   obtain ⟨rfl,rfl⟩:=eu2
   have mx:=ae.out.pos
   have b_:=ae.out.len
   have KU:Hid (∀ y,Below W5.heap.size W5 y->y.cell? ⟨gu,log.length-1,none⟩=some (str em)/\y.cell? ⟨gz,log.length-1,none⟩=some (.int .i64 ez)):=bc (fun y hy =>
    ⟨(hy.cell (be _ _ ku)).trans ku,(hy.cell (be _ _ kz)).trans kz⟩)
   have CLL:=bc (fun (y:World) (hy:Below W5.heap.size W5 y)=>CL.out y log _ _ (ao.out y hy).2 ae.out.lim)
   have CFF:=bc (fun (y:World) (hy:Below W5.heap.size W5 y)=>CF.out y (zzT sV.out hy) log _ _ (ao.out y hy).2 ae.out.lim)
   rw [ae.out.leg] at CLL
   rw [ae.out.fol] at CFF
   have BOO:Hid (∀ y,Below W5.heap.size W5 y->y.cell? ⟨w2.heap.size,0,none⟩=some (.slice (some ⟨gu,0,none⟩) log.length d1)/\y.cell? ⟨w2.heap.size,1,none⟩=some (.slice (some ⟨gz,0,none⟩) log.length d2)):=bc (fun y hy=>(ao.out y hy).1)
   obtain ⟨n,hn⟩:=zzN (log.length)
   rw [hn] at C3 KU CLL CFF BOO mx b_ dG e2 e3 e4 e5 HW5 ⊢
   have hnI:IntKind.i64.wrap ((n:Int)-1)=((n-1:Nat):Int):=by rw [uW _ (by omega) (by omega)];omega
   have cT:((n-1:Nat):Int)<(n:Int):=by omega
   clear lH AX dw ku kz hn CL CF ao BN b_
   go_upto_region 6 with (fail)
   rw [HW5.out]
   go_wp2_with fail
   (with_reducible refine C3.out.mono ?_)
   rintro en w6 ⟨rfl,cW⟩
   have H6:=bc cW
   clear cW C3 e2 e3 e4 e5
   have C6:=bc (CR.out w6 (zzT sV.out H6.out) (HX5.out.below H6.out))
   rcases dG with ⟨rfl,hem⟩ | ⟨hcc,o3,fB⟩
   ·have hem2:(em != [117])=true:=by
     cases hh:(em == [117]) with
     | true=>rw [hh] at hem;simp at hem
     | false=>simp [bne,hh]
    go_wp2_with fail
    (with_reducible refine C6.out.mono ?_)
    rintro en w7 ⟨rfl,cJ⟩
    have H7:=bc (zzT H6.out cJ)
    clear cJ C6
    obtain ⟨e2,e3⟩:=BOO.out w7 H7.out
    obtain ⟨k1,k2⟩:=KU.out w7 H7.out
    have C7:=bc (CLL.out w7 H7.out)
    go_wp2_with fail
    (with_reducible refine C7.out.mono ?_)
    rintro en w8 ⟨rfl,tJ⟩
    have H8:=bc (zzT H7.out tJ)
    clear tJ C7 e2 e3 k1 k2
    obtain ⟨e2,e3⟩:=BOO.out w8 H8.out
    have C8:=bc (CFF.out w8 H8.out)
    go_wp2_with fail
    (with_reducible refine C8.out.mono ?_)
    rintro en w9 ⟨rfl,tp⟩
    have HF:=bc (sV.out.trans ((zzT H8.out tp).mono sV.out.size))
    clear tp C8
    go_wp2_with fail
    go_ret
    exact ⟨rfl,HF.out⟩
   ·simp only [Prod.mk.injEq] at o3
    obtain ⟨rfl,rfl⟩:=o3
    have hn2I:(1:Int)<(n:Int):=by omega
    have HF0:=bc sV.out
    rcases hcc with rfl | rfl
    all_goals
     go_wp2_with fail
     (with_reducible refine C6.out.mono ?_)
     rintro en w7 ⟨rfl,cJ⟩
     have H7:=bc (zzT H6.out cJ)
     clear cJ C6
     obtain ⟨e2,e3⟩:=BOO.out w7 H7.out
     obtain ⟨k1,k2⟩:=KU.out w7 H7.out
     have C7:=bc (CLL.out w7 H7.out)
     go_wp2_with fail
     (with_reducible refine C7.out.mono ?_)
     rintro en w8 ⟨rfl,tJ⟩
     have H8:=bc (zzT H7.out tJ)
     clear tJ C7 e2 e3 k1 k2
     obtain ⟨e2,e3⟩:=BOO.out w8 H8.out
     have C8:=bc (CFF.out w8 H8.out)
     go_wp2_with fail
     (with_reducible refine C8.out.mono ?_)
     rintro en w9 ⟨rfl,tp⟩
     have HF:=bc (sV.out.trans ((zzT H8.out tp).mono sV.out.size))
     clear tp C8
     go_wp2_with fail
     go_ret
     exact ⟨rfl,HF.out⟩
end Go.Proofs.YtfedjhgaeikjmaaGreatDoor

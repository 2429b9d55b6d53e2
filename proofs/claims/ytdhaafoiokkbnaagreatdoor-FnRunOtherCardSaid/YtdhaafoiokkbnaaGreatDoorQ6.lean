/- Walks of functions that the statement reaches, and plain words. No conditions. -/
import Derived.Laws.IdiomStrings
import Derived.Test.YtdhaafoiokkbnaaGreatDoorQ5
set_option linter.unusedVariables false
set_option linter.unusedSimpArgs false
set_option maxHeartbeats 4000000
namespace Go.Proofs.YtdhaafoiokkbnaaGreatDoor
open Go.RowKit
inductive SC where
 | mk (b:Bd) (t:Ty) (env:List SC) (begun arg:Nat)
def SC.body:SC->Bd | .mk b _ _ _ _=>b
def SC.kind:SC->Ty | .mk _ t _ _ _=>t
def SC.env:SC->List SC | .mk _ _ e _ _=>e
def SC.begun:SC->Nat | .mk _ _ _ n _=>n
def SC.arg:SC->Nat | .mk _ _ _ _ n=>n
structure SF where
 v:Nat
 ss:List Bd
 yes:Bd
 no:Bd
 env:List SC
 opens:Nat
def qA (env:List SC) (asked:Nat):Nat->List Ty->List Bd->List SC
 | i,t::ts,s::ss=>.mk s t env asked i::qA env asked (i+1) ts ss
 | _,_,_=>[]
def qy (keep:Bool) (log:List (Bs×Int)) (i:Nat):Bs:=if keep then ((log[i]?).map fun x=>x.1.drop 1).getD [] else []
def j0 (keep:Bool):Nat->List (Bs×Int)->Bd->List SC->Nat->List SF->Option (UInt8×List (Bs×Int))
 | f,log,.leaf c,_,opens,st =>
   if c=117 then some (117,log) else
   match f with
   | 0=>none
   | f+1=>match st with
     | []=>some (c,log++[(c::qy keep log opens,(opens:Int))])
     | fr::st'=>j0 keep f (log++[(c::qy keep log opens,(opens:Int))]) (if c=102 then fr.no else fr.yes) fr.env fr.opens st'
 | f,log,.ask v ss y n,env,opens,st =>
   match f with
   | 0=>none
   | f+1=>match env[v]? with
     | none=>none
     | some e=>j0 keep f (log++[(113::(qy keep log e.begun++dec e.arg),(e.begun:Int))]) e.body (e.env++qA env log.length 0 e.kind.args ss) log.length (⟨v,ss,y,n,env,opens⟩::st)
mutual
def simC (keep:Bool) (log:List (Bs×Int)):SC->Clo->Prop
 | .mk b t env bg i,c=>c.body=b/\jH keep log env c.env/\c.begun=bg/\(keep=true->∃ q p,log[bg]? = some (q,p)/\c.path=q.drop 1++dec i)
def jH (keep:Bool) (log:List (Bs×Int)):List SC->List Clo->Prop
 | [],cs=>cs=[]
 | x::xs,cs=>∃ c cs',cs=c::cs'/\simC keep log x c/\jH keep log xs cs'
end
mutual
theorem simC_more {keep:Bool} {log:List (Bs×Int)} (m:List (Bs×Int)):∀ (x:SC) (c:Clo),simC keep log x c->simC keep (log++m) x c
 | .mk b t env bg i,c,h=>by
   rw [simC] at *
   refine ⟨h.1,jq m env _ h.2.1,h.2.2.1,fun hk=>?_⟩
   obtain ⟨q,p,h1,h2⟩:=h.2.2.2 hk
   exact ⟨q,p,by rw [List.getElem?_append_left (List.getElem?_eq_some_iff.1 h1).1];exact h1,h2⟩
theorem jq {keep:Bool} {log:List (Bs×Int)} (m:List (Bs×Int)):∀ (xs:List SC) (cs:List Clo),jH keep log xs cs->jH keep (log++m) xs cs
 | [],cs,h=>by rw [jH] at *;exact h
 | x::xs,cs,h=>by
   rw [jH] at *
   obtain ⟨c,cs',rfl,h1,h2⟩:=h
   exact ⟨c,cs',rfl,simC_more m x c h1,jq m xs cs' h2⟩
end
theorem wG {keep:Bool} {log:List (Bs×Int)}:∀ (xs:List SC) (cs:List Clo) (ys:List SC) (ds:List Clo),jH keep log xs cs->jH keep log ys ds->jH keep log (xs++ys) (cs++ds)
 | [],cs,ys,ds,h,k=>by rw [jH] at h;subst h;simpa using k
 | x::xs,cs,ys,ds,h,k=>by
   rw [jH] at h
   obtain ⟨c,cs',rfl,h1,h2⟩:=h
   simp only [List.cons_append]
   rw [jH]
   exact ⟨c,cs'++ds,rfl,h1,wG xs cs' ys ds h2 k⟩
theorem pX {keep:Bool} {log:List (Bs×Int)} {env:List SC} {cenv:List Clo} (he:jH keep log env cenv) {m:Nat} {path q:Bs} {p:Int} (hm:keep=true->log[m]? = some (q,p)/\q.drop 1=path) :
 ∀ (ts:List Ty) (ss:List Bd) (i:Nat),ts.length=ss.length->jH keep log (qA env m i ts ss) (zD cenv m path i ss)
 | [],[],i,_=>by rw [zD,qA,jH];intros;contradiction
 | [],s::ss,i,h=>by simp at h
 | t::ts,[],i,h=>by simp at h
 | t::ts,s::ss,i,h=>by
   rw [zD,qA,jH]
   refine ⟨_,_,rfl,?_,pX he hm ts ss (i+1) (by simpa using h)⟩
   rw [simC]
   exact ⟨rfl,he,rfl,fun hk=>⟨q,p,(hm hk).1,by rw [(hm hk).2];rfl⟩⟩
structure simF (keep:Bool) (log:List (Bs×Int)) (x:SF) (f:Fr):Prop where
 yes:f.yes=x.yes
 no:f.no=x.no
 env:jH keep log x.env f.env
 opens:f.begun=x.opens
 path:keep=true->∃ q p,log[x.opens]? = some (q,p)/\f.path=q.drop 1
theorem simF.more {keep:Bool} {log:List (Bs×Int)} {x:SF} {f:Fr} (h:simF keep log x f) (m:List (Bs×Int)):simF keep (log++m) x f :=
 ⟨h.yes,h.no,jq m _ _ h.env,h.opens,fun hk=>by
  obtain ⟨q,p,h1,h2⟩:=h.path hk
  exact ⟨q,p,by rw [List.getElem?_append_left (List.getElem?_eq_some_iff.1 h1).1];exact h1,h2⟩⟩
def simFs (keep:Bool) (log:List (Bs×Int)):List SF->List Fr->Prop
 | [],fs=>fs=[]
 | x::xs,fs=>∃ f fs',fs=f::fs'/\simF keep log x f/\simFs keep log xs fs'
theorem xh {keep:Bool} {log:List (Bs×Int)} (m:List (Bs×Int)):∀ (xs:List SF) (fs:List Fr),simFs keep log xs fs->simFs keep (log++m) xs fs
 | [],fs,h=>h
 | x::xs,fs,h=>by
   obtain ⟨f,fs',e,h1,h2⟩:=h
   exact ⟨f,fs',e,h1.more m,xh m xs fs' h2⟩
def qF (keep:Bool) (log:List (Bs×Int)) (a:Option (UInt8×List (Bs×Int))) (b:Option (UInt8×List (Bs×Nat))):Prop :=
 (b=none->a=none)/\∀ c ms,b=some (c,ms)->∃ log',a=some (c,log')/\(keep=true->log'=log++kK ms)
theorem qF.step {keep:Bool} {log:List (Bs×Int)} {s:Bs} {n:Nat} {a:Option (UInt8×List (Bs×Int))} {b:Option (UInt8×List (Bs×Nat))} {s':Bs} (h:qF keep (log++[(s,(n:Int))]) a b) (hs:keep=true->s'=s):qF keep log a (b.map fun x=>(x.1,(s',n)::x.2)):=by
 constructor
 ·intro hb
  cases b with
  | none=>exact h.1 rfl
  | some x=>simp at hb
 ·intro c ms hb
  cases b with
  | none=>simp at hb
  | some x =>
    simp only [Option.map_some,Option.some.injEq,Prod.mk.injEq] at hb
    obtain ⟨rfl,rfl⟩:=hb
    obtain ⟨log',h1,h2⟩:=h.2 x.1 x.2 rfl
    exact ⟨log',h1,fun hk=>by rw [h2 hk,hs hk];simp [kK]⟩
theorem qF.log {keep:Bool} {log:List (Bs×Int)} (c:UInt8):qF keep log (some (c,log)) (some (c,[])) :=
 ⟨fun h=>by simp at h,fun c' ms h=>by
  simp only [Option.some.injEq,Prod.mk.injEq] at h
  obtain ⟨rfl,rfl⟩:=h
  exact ⟨log,rfl,fun _=>by simp [kK]⟩⟩
theorem qF.none {keep:Bool} {log:List (Bs×Int)}:qF keep log none none:=⟨fun _=>rfl,fun c ms h=>by simp at h⟩
mutual
def okS:SC->Prop
 | .mk b t env _ _=>wfB b/\uw env/\kX (env.map SC.kind++t.args) b
def uw:List SC->Prop
 | []=>True
 | x::xs=>okS x/\uw xs
end
theorem okSs_at:∀ (xs:List SC),uw xs->∀ (i:Nat) (x:SC),xs[i]? = some x->okS x
 | [],_,i,x,h=>by simp at h
 | y::xs,k,i,x,h=>by
   rw [uw] at k
   cases i with
   | zero=>simp at h;subst h;exact k.1
   | succ i=>exact okSs_at xs k.2 i x (by simpa using h)
theorem pi:∀ (xs ys:List SC),uw xs->uw ys->uw (xs++ys)
 | [],ys,_,h=>h
 | x::xs,ys,h,k=>by rw [uw] at h;exact ⟨h.1,pi xs ys h.2 k⟩
theorem gT {env:List SC} (he:uw env) (m:Nat):∀ (ts:List Ty) (ss:List Bd) (i:Nat),za (zp (env.map SC.kind) ts) ss->uY ss->uw (qA env m i ts ss)/\(qA env m i ts ss).map SC.kind=ts
 | [],ss,i,_,_=>by
   rw [qA]
   ·exact ⟨by rw [uw];trivial,rfl⟩
   ·intros;contradiction
 | t::ts,[],i,h,_=>by rw [za] at h;simp [zp] at h
 | t::ts,s::ss,i,h,hw=>by
   rw [za] at h
   obtain ⟨h',fE,e,h1,h2⟩:=h
   simp only [zp,List.map_cons,List.cons.injEq] at e
   obtain ⟨rfl,rfl⟩:=e
   rw [uY] at hw
   obtain ⟨k1,k2⟩:=gT he m ts ss (i+1) h2 hw.2
   rw [qA]
   refine ⟨?_,by rw [List.map_cons,k2];rfl⟩
   rw [uw]
   exact ⟨by rw [okS];exact ⟨hw.1,he,h1⟩,k1⟩
structure okF (x:SF):Prop where
 yes:wfB x.yes
 no:wfB x.no
 env:uw x.env
 node:kX (x.env.map SC.kind) (.ask x.v x.ss x.yes x.no)
theorem okF.fits {x:SF} (h:okF x):kX (x.env.map SC.kind) x.yes/\kX (x.env.map SC.kind) x.no:=by
 have:=h.node
 rw [kX] at this
 obtain ⟨t,_,_,h1,h2⟩:=this
 exact ⟨h1,h2⟩
theorem simCs_at' {keep:Bool} {log:List (Bs×Int)}:∀ (xs:List SC) (cs:List Clo),jH keep log xs cs->∀ (i:Nat) (x:SC),xs[i]? = some x->∃ c,cs[i]? = some c/\simC keep log x c
 | [],cs,h,i,x,hx=>by simp at hx
 | y::xs,cs,h,i,x,hx=>by
   rw [jH] at h
   obtain ⟨c,cs',rfl,h1,h2⟩:=h
   cases i with
   | zero=>simp at hx;subst hx;exact ⟨c,rfl,h1⟩
   | succ i=>simpa using simCs_at' xs cs' h2 i x (by simpa using hx)
theorem wa {env:List SC} {v:Nat} {ss:List Bd} {y n:Bd} (he:uw env) (hf:kX (env.map SC.kind) (.ask v ss y n)) :
 ∃ e,env[v]? = some e/\okS e/\ss.length=e.kind.args.length/\za (zp (env.map SC.kind) e.kind.args) ss:=by
 rw [kX] at hf
 obtain ⟨t,h1,h2,_,_⟩:=hf
 rw [List.getElem?_map,Option.map_eq_some_iff] at h1
 obtain ⟨e,h3,rfl⟩:=h1
 refine ⟨e,h3,okSs_at _ he _ _ h3,?_,h2⟩
 have:=qB _ _ h2
 rw [qH] at this;exact this.symm
theorem ask_ok {env:List SC} {v:Nat} {ss:List Bd} {y n:Bd} (he:uw env) (hf:kX (env.map SC.kind) (.ask v ss y n)) (hw:wfB (.ask v ss y n)) {e:SC} (hv:env[v]? = some e) (m:Nat) :
 wfB e.body/\uw (e.env++qA env m 0 e.kind.args ss)/\kX ((e.env++qA env m 0 e.kind.args ss).map SC.kind) e.body:=by
 obtain ⟨e',dg,co,hl,iE⟩:=wa he hf
 rw [hv] at dg;simp at dg;subst dg
 rw [wfB] at hw
 obtain ⟨k1,k2⟩:=gT he m _ _ 0 iE hw.1
 obtain ⟨b,t,en,bg,i⟩:=e
 rw [okS] at co
 refine ⟨co.1,pi _ _ co.2.1 k1,?_⟩
 rw [List.map_append,k2];exact co.2.2
theorem run_same (keep:Bool):∀ (f:Nat) (log:List (Bs×Int)) (b:Bd) (senv:List SC) (opens:Nat) (sst:List SF) (env:List Clo) (path:Bs) (st:List Fr),
 wfB b->uw senv->kX (senv.map SC.kind) b->(∀ x∈sst,okF x)->jH keep log senv env->simFs keep log sst st->(keep=true->∃ q p,log[opens]? = some (q,p)/\path=q.drop 1) ->
 qF keep log (j0 keep f log b senv opens sst) (qm f log.length b env opens path st):=by
 intro f
 induction f with
 | zero =>
   intro log b senv opens sst env path st hw co dP lF sQ fp hp
   cases b with
   | leaf c =>
     by_cases hc:c=117
     ·subst hc
      rw [jc]
      simp only [j0,if_pos]
      exact qF.log _
     ·rw [v7 hc]
      simp only [j0,if_neg hc]
      exact qF.none
   | ask v ss y n =>
     rw [j3]
     simp only [j0]
     exact qF.none
 | succ f ih =>
   intro log b senv opens sst env path st hw co dP lF sQ fp hp
   cases b with
   | leaf c =>
     by_cases hc:c=117
     ·subst hc
      rw [jc]
      simp only [j0,if_pos]
      exact qF.log _
     ·have hs:keep=true->c::path=c::qy keep log opens:=by
       intro hk
       obtain ⟨q,p,h1,h2⟩:=hp hk
       simp [qy,hk,h1,h2]
      cases sst with
      | nil =>
        rw [simFs] at fp;subst fp
        rw [vY hc]
        simp only [j0,if_neg hc]
        have:=qF.step (keep:=keep) (log:=log) (s:=c::qy keep log opens) (n:=opens) (qF.log (log:=log++[(c::qy keep log opens,(opens:Int))]) c) (s':=c::path) hs
        exact this
      | cons x sst =>
        obtain ⟨fr,st',rfl,hx,mJ⟩:=fp
        have ff:=lF x (by simp)
        rw [qp hc]
        simp only [j0,if_neg hc]
        refine qF.step ?_ hs
        have hl:log.length+1=(log++[(c::qy keep log opens,(opens:Int))]).length:=by simp
        have hy:(if c=116 then fr.yes else fr.no)=(if c=102 then x.no else x.yes):=by
         rw [wfB] at hw
         rcases hw with rfl | rfl | rfl
         ·rw [if_pos rfl,if_neg (by decide)];exact hx.yes
         ·rw [if_neg (by decide),if_pos rfl];exact hx.no
         ·exact absurd rfl hc
        rw [hl,hy,hx.opens]
        have lN:=ff.fits
        refine ih _ _ _ _ _ _ _ _ ?_ ff.env ?_ (fun z hz=>lF z (by simp [hz])) (jq _ _ _ hx.env) (xh _ _ _ mJ) (hx.more _).path
        ·split
         ·exact ff.no
         ·exact ff.yes
        ·split
         ·exact lN.2
         ·exact lN.1
   | ask v ss y n =>
     obtain ⟨e,hv,_,hl,_⟩:=wa co dP
     obtain ⟨k1,k2,k3⟩:=ask_ok co dP hw hv log.length
     obtain ⟨c,hcv,rA⟩:=simCs_at' _ _ sQ v e hv
     rw [qb _ _ _ _ _ _ _ _ _ _ hcv]
     simp only [j0,hv]
     obtain ⟨eb,et,ee,eg,ei⟩:=e
     rw [simC] at rA
     obtain ⟨s1,s2,s3,s4⟩:=rA
     simp only [SC.body,SC.kind,SC.env,SC.begun,SC.arg] at *
     rw [s3]
     have lQ:keep=true->c.path=qy keep log eg++dec ei:=by
      intro hk
      obtain ⟨q,p,h1,h2⟩:=s4 hk
      simp [qy,hk,h1,h2]
     refine qF.step ?_ (fun hk=>by rw [lQ hk])
     have lU:log.length+1=(log++[(113::(qy keep log eg++dec ei),(eg:Int))]).length:=by simp
     rw [lU,s1]
     have ch:keep=true->(log++[(113::(qy keep log eg++dec ei),(eg:Int))])[log.length]? = some (113::(qy keep log eg++dec ei),(eg:Int)):=fun _=>by simp
     refine ih _ _ _ _ _ _ _ _ k1 k2 k3 ?_ ?_ ?_ ?_
     ·intro z hz
      rcases List.mem_cons.1 hz with rfl | hz
      ·have cv:=hw
       rw [wfB] at cv
       exact ⟨cv.2.1,cv.2.2,co,dP⟩
      ·exact lF z hz
     ·exact wG _ _ _ _ (jq _ _ _ s2) (pX (jq _ _ _ sQ) (q:=113::(qy keep log eg++dec ei)) (p:=(eg:Int)) (fun hk=>⟨ch hk,by rw [lQ hk];rfl⟩) _ _ 0 hl.symm)
     ·refine ⟨_,_,rfl,⟨rfl,rfl,jq _ _ _ sQ,rfl,fun hk=>?_⟩,xh _ _ _ fp⟩
      obtain ⟨q,p,h1,h2⟩:=hp hk
      exact ⟨q,p,by rw [List.getElem?_append_left (List.getElem?_eq_some_iff.1 h1).1];exact h1,h2⟩
     ·intro hk
      exact ⟨_,_,ch hk,by rw [lQ hk];rfl⟩
def Rn (w:World) (ra:Nat) (mv pt:Value) (moves most:Nat) (bad:Bool):Prop:=w.heap[ra]? = some (.cells #[mv,pt,.int .i64 (moves:Nat),.int .i64 (most:Nat),.bool false,.bool bad] 46 (0,0))
theorem Rn.cells {w:World} {ra:Nat} {mv pt:Value} {moves most:Nat} {bad:Bool} (h:Rn w ra mv pt moves most bad):w.cell? ⟨ra,2,none⟩=some (.int .i64 (moves:Nat))/\w.cell? ⟨ra,3,none⟩=some (.int .i64 (most:Nat))/\w.cell? ⟨ra,4,none⟩=some (.bool false)/\w.cell? ⟨ra,5,none⟩=some (.bool bad)/\w.frozen? ⟨ra,2,none⟩=false/\w.frozen? ⟨ra,5,none⟩=false:=by
 unfold Rn at h
 exact ⟨by simp [World.cell?,h],by simp [World.cell?,h],by simp [World.cell?,h],by simp [World.cell?,h],by simp [World.frozen?,h],by simp [World.frozen?,h]⟩
theorem Rn.below {w w':World} {ra:Nat} {mv pt:Value} {moves most:Nat} {bad:Bool} (h:Rn w ra mv pt moves most bad) (hb:Below w.heap.size w w'):Rn w' ra mv pt moves most bad:=by
 unfold Rn;rw [hb.block ra (zZ h)];exact h
theorem b6 {W:World} {g r:Nat} (hr:r<10) (h:W.cell? ⟨g,0,none⟩=some (.int .u8 (48+(r:Int)))) :
 (convert 22 9 (.slice (some ⟨g,0,none⟩) 1 1)).run Tryz.prog W=.ok (str [jC r]) W:=by
 refine run_convert_bytes_back (P:=Tryz.prog) W 22 9 5 ⟨g,0,none⟩ 1 [jC r] Tryz.underlying22 Tryz.underlying5 Tryz.underlying9 (fun j hj=>?_)
 have hj0:j=0:=by simpa using hj
 subst hj0
 have e:(jC r).toNat=48+r:=by rw [jC,UInt8.toNat_ofNat'];exact Nat.mod_eq_of_lt (by omega)
 show W.cell? ((⟨g,0,none⟩:Addr).add 0)=some (.int .u8 ((jC r).toNat:Int))
 rw [e]
 have e2:((48+r:Nat):Int)=48+(r:Int):=by omega
 rw [e2];exact h
theorem conv_new {r:Nat} (hr:r<10) (w:World):(convert 22 9 (.slice (some ⟨w.heap.size,0,none⟩) 1 1)).run Tryz.prog (w.alloc (.cells #[.int .u8 (48+(r:Int))] 5))=.ok (str [jC r]) (w.alloc (.cells #[.int .u8 (48+(r:Int))] 5)) :=
 b6 hr (by simp)
theorem conv_newd {r:Nat} (hr:r<10) (w:World):(convert 22 9 (.slice (some ⟨w.heap.size,0,none⟩) 1 1)).run Tryz.prog (w.alloc (.cells #[.int .u8 (48+(r:Int))] 5)).drew=.ok (str [jC r]) (w.alloc (.cells #[.int .u8 (48+(r:Int))] 5)).drew :=
 b6 hr (show (w.alloc (.cells #[.int .u8 (48+(r:Int))] 5)).cell? _=_ by simp)
theorem conv_kept {r:Nat} (hr:r<10) {w W:World} (hb:Below (w.alloc (.cells #[.int .u8 (48+(r:Int))] 5)).drew.heap.size (w.alloc (.cells #[.int .u8 (48+(r:Int))] 5)).drew W) :
 (convert 22 9 (.slice (some ⟨w.heap.size,0,none⟩) 1 1)).run Tryz.prog W=.ok (str [jC r]) W :=
 b6 hr ((hb.cell (show w.heap.size<(w.alloc (.cells #[.int .u8 (48+(r:Int))] 5)).heap.size by simp)).trans (show (w.alloc (.cells #[.int .u8 (48+(r:Int))] 5)).cell? _=_ by simp))
set_option maxRecDepth 100000 in
theorem l6Dec_small (n:Nat) (hn:n<10) (w:World):Calls Tryz.prog 55 #[.int .i64 (n:Nat)] w fun en w'=>en=.returned (str (dec n))/\Below w.heap.size w w':=by
 have hn':(n:Int)<10:=by omega
 have e:=cH (jW hn)
 have hcv:=conv_new hn w
 go_enter Tryz.func55,Tryz.ntmps55
 go_wp2_with fail
 go_ret
 exact ⟨by rw [e.out];rfl,(cE _ _).alloc (cC _) _⟩
theorem size_alloc_le (w:World) (o:Obj):w.heap.size<=(w.alloc o).drew.heap.size:=by
 show w.heap.size<=(w.alloc o).heap.size
 rw [zK];omega
set_option maxRecDepth 100000 in
theorem l6Dec_step (n:Nat) (hn:¬ n<10) (hl:n<=16777216) (ih:∀ w,Calls Tryz.prog 55 #[.int .i64 ((n / 10:Nat):Int)] w fun en w'=>en=.returned (str (dec (n / 10)))/\Below w.heap.size w w') (w:World) :
 Calls Tryz.prog 55 #[.int .i64 (n:Nat)] w fun en w'=>en=.returned (str (dec n))/\Below w.heap.size w w':=by
 have IH:=cH ih;clear ih
 have hn':¬ (n:Int)<10:=by omega
 have e:=cH (ud hn)
 have q1:(n:Int).tdiv 10=((n / 10:Nat):Int):=ge n 10
 have q2:(n:Int).tmod 10=((n % 10:Nat):Int):=yu n 10
 have hR:n % 10<10:=Nat.mod_lt _ (by omega)
 have hQ:n / 10<=16777216:=cR (Nat.div_le_self _ _) hl
 have hD:(dec (n / 10)).length<=8:=qn 7 (n / 10) (by omega)
 generalize n % 10=R at *
 generalize n / 10=Q at *
 have q3:IntKind.i64.wrap (Q:Int)=(Q:Int):=qt Q (by omega)
 have q4:IntKind.i64.wrap (48+(R:Int))=48+(R:Int):=by rw [show (48:Int)+R=((48+R:Nat):Int) from by omega];exact qt _ (by omega)
 have q5:IntKind.u8.wrap (48+(R:Int))=48+(R:Int):=by simp [IntKind.wrap,IntKind.bits,IntKind.signed];omega
 have HR:=cH hR
 have er:=fun w0=>kG (P:=Tryz.prog) (dec Q) [jC R] (by simp;omega) w0
 have hcv:=conv_newd hR w
 have hcv0:=fun w0=>conv_new hR w0
 go_enter Tryz.func55,Tryz.ntmps55
 go_wp2_with fail
 go_region_with (first
  | (go_at_call 55;refine (IH.out (w.alloc (.cells #[.int .u8 (48+(R:Int))] 5)).drew).mono ?_;rintro en w2 ⟨rfl,cS⟩;have hcv2:=conv_kept HR.out cS;have hbb:=Below.trans (((cE w.heap.size w).alloc (cC _) (.cells #[.int .u8 (48+(R:Int))] 5)).drew) (cS.mono (size_alloc_le w _)))
  | (go_at_call 55;refine (IH.out w.drew).mono ?_;rintro en w2 ⟨rfl,cS⟩;have hbb:=Below.trans ((cE w.heap.size w).drew) cS))
 all_goals
  go_wp2_with fail
  go_ret
  refine ⟨by rw [e.out];rfl,?_⟩
  first
   | exact hbb
   | exact hbb.alloc hbb.size _
theorem l6Dec_any (n:Nat):n<=16777216->∀ w,Calls Tryz.prog 55 #[.int .i64 (n:Nat)] w fun en w'=>en=.returned (str (dec n))/\Below w.heap.size w w':=by
 induction n using Nat.strongRecOn with
 | _ n ih =>
   intro hl w
   by_cases h:n<10
   ·exact l6Dec_small n h w
   ·exact l6Dec_step n h hl (ih (n / 10) (Nat.div_lt_self (by omega) (by omega)) (cR (Nat.div_le_self _ _) hl)) w
def pT (b:Bd):Prop:=∀ (F:Nat->Prop) (w:World) (s v k y:Value),zH F w (kT b) [s,v,k,y] ->
 Calls Tryz.prog 43 #[.agg #[s,v,k,y]] w fun en w'=>en=.returned (str (k_ b))/\Below w.heap.size w w'
abbrev KeepY (g:Nat) (ky:Value) (eT yo:Nat) (s0 v0 p0 q0 s1 v1 p1 q1:Value) (w':World):Prop :=
 w'.cell? ⟨g,3,none⟩=some ky/\w'.cell? ⟨eT,yo,none⟩=some s0/\w'.cell? ⟨eT,yo+1,none⟩=some v0/\w'.cell? ⟨eT,yo+2,none⟩=some p0/\w'.cell? ⟨eT,yo+3,none⟩=some q0 /\
  w'.cell? ⟨eT,yo+4,none⟩=some s1/\w'.cell? ⟨eT,yo+5,none⟩=some v1/\w'.cell? ⟨eT,yo+6,none⟩=some p1/\w'.cell? ⟨eT,yo+7,none⟩=some q1
theorem KeepY.below {g:Nat} {ky:Value} {eT yo:Nat} {s0 v0 p0 q0 s1 v1 p1 q1:Value} {w w':World} (h:KeepY g ky eT yo s0 v0 p0 q0 s1 v1 p1 q1 w) (hb:Below w.heap.size w w'):KeepY g ky eT yo s0 v0 p0 q0 s1 v1 p1 q1 w':=by
 have key:∀ (a:Addr) (v:Value),w.cell? a=some v->w'.cell? a=some v:=fun a v ha=>by
  rw [hb.cell (cD w _ ha)];exact ha
 obtain ⟨h1,h2,h3,h4,h5,h6,h7,h8,h9⟩:=h
 exact ⟨key _ _ h1,key _ _ h2,key _ _ h3,key _ _ h4,key _ _ h5,key _ _ h6,key _ _ h7,key _ _ h8,key _ _ h9⟩
set_option maxRecDepth 100000 in
theorem l3Text_step (b:Bd) (hl:zk b<=1000000) (eJ:lvB b) (ih:∀ b',zk b'<zk b->lvB b'->pT b'):pT b:=by
 intro F w s v k y hv
 have e1:=encN_lv hv
 subst e1
 obtain ⟨_,a2,c2,a3,c3,e,hk,hy⟩:=jw hv
 simp only [List.cons.injEq,and_true] at e
 obtain ⟨rfl,_,rfl,rfl⟩:=e
 cases b with
 | leaf c =>
   clear hv hk hy ih
   show Calls Tryz.prog 43 #[.agg #[str [c],.int .i64 (0:Nat),.slice a2 0 c2,.slice a3 0 c3]] w _
   go_enter Tryz.func43,Tryz.ntmps43
   go_wp2_with fail
   go_ret
   exact ⟨rfl,(cE _ _).alloc (cC _) _⟩
 | ask lv ss yb nb =>
   have IH:=cH ih;clear ih
   have hsz:=yd (.ask lv ss yb nb)
   rw [bG,kx] at hsz
   change zk (.ask lv ss yb nb)=1+(zN ss+zN [yb,nb]) at hsz
   have oK:zN [yb,nb]=zk yb+zk nb:=by simp [zN]
   rw [lvB] at eJ
   obtain ⟨lv1,lv2,lv3,lv4⟩:=eJ
   have t1:=uE ss lv2
   have t2:=qP yb lv3
   have t3:=qP nb lv4
   have t4:(dec lv).length<=5:=qn 4 lv (by omega)
   obtain ⟨_,_,ek,atk⟩:=AtNs.of hk
   simp only [Value.slice.injEq,true_and] at ek
   rw [<- ek.1] at atk;clear ek
   obtain ⟨_,_,ek,aty⟩:=AtNs.of hy
   simp only [Value.slice.injEq,true_and] at ek
   rw [<- ek.1] at aty;clear ek
   change AtNs F w ss a2 at atk
   change AtNs F w [yb,nb] a3 at aty
   obtain ⟨eT,yo,s0,v0,p2,m2,d2,p3,m3,d3,yt,ey,hyb0,hyt,u0,u1,u2,u3,oC⟩:=aty 0 (by simp)
   obtain ⟨yb1,yo1,s1,v1,p4,m4,d4,p5,m5,d5,nt,en1,hyb1,hnt,z0,z1,z2,z3,BF⟩:=aty 1 (by simp)
   rw [ey] at en1
   simp only [Option.some.injEq,Addr.mk.injEq,and_true] at en1
   obtain ⟨rfl,rfl⟩:=en1
   simp only [List.getElem?_cons_zero,Option.some.injEq] at hyt
   simp only [List.getElem?_cons_succ,List.getElem?_cons_zero,Option.some.injEq] at hnt
   subst hyt;subst hnt
   simp only [Nat.zero_mul,Nat.add_zero] at u0 u1 u2 u3
   simp only [Nat.one_mul,Nat.add_assoc,Nat.reduceAdd] at z0 z1 z2 z3
   have nss:ss.length<=16777216:=by have:=j7 ss;omega
   have iy:=cH hsz;have HYN:=cH oK
   have ATK:=cH atk
   have LV:=cH lv2;have LV3:=cH lv3;have LV4:=cH lv4
   have lvl:lv<=16777216:=by omega
   have Ct:KeepY w.heap.size (.slice a3 2 c3) eT yo (str s0) (.int .i64 v0) (.slice p2 m2 d2) (.slice p3 m3 d3) (str s1) (.int .i64 v1) (.slice p4 m4 d4) (.slice p5 m5 d5) (w.alloc (.cells #[str [],.int .i64 lv,.slice a2 ss.length c2,.slice a3 2 c3] 80)) :=
    ⟨by simp,zX u0,zX u1,zX u2,zX u3,zX z0,zX z1,zX z2,zX z3⟩
   have A5:=cH Ct
   have HRY:=cH oC;have HRN:=cH BF
   subst ey
   clear hv hk hy atk aty hsz oK lv2 lv3 lv4 u0 u1 u2 u3 z0 z1 z2 z3 oC BF Ct
   show Calls Tryz.prog 43 #[.agg #[str [],.int .i64 lv,.slice a2 ss.length c2,.slice (some ⟨eT,yo,none⟩) 2 c3]] w _
   have DB:=fun w0=>kG (P:=Tryz.prog) [40] (dec lv) (by simp;omega) w0
   go_enter Tryz.func43,Tryz.ntmps43
   go_wp2_with fail
   refine (l6Dec_any lv lvl _).mono ?_
   rintro en w1 ⟨rfl,cT⟩
   have dm:Below w.heap.size w w1:=Below.trans ((cE w.heap.size w).alloc (cC _) (.cells #[str [],.int .i64 lv,.slice a2 ss.length c2,.slice (some ⟨eT,yo,none⟩) 2 c3] 80)) (cT.mono (by simp))
   have mV:w1.cell? ⟨w.heap.size,2,none⟩=some (.slice a2 ss.length c2):=(cT.cell (by simp)).trans (by simp)
   have Ea:=cH (A5.out.below cT)
   go_wp2_with fail
   clear DB
   go_loopw [3,4] (fun o i wr=>∃ k:Nat,k<=ss.length/\i=.int .i64 k/\o=str ([40]++dec lv++kh (ss.take k))/\Below w.heap.size w wr/\wr.cell? ⟨w.heap.size,2,none⟩=some (.slice a2 ss.length c2)/\KeepY w.heap.size (.slice (some ⟨eT,yo,none⟩) 2 c3) eT yo (str s0) (.int .i64 v0) (.slice p2 m2 d2) (.slice p3 m3 d3) (str s1) (.int .i64 v1) (.slice p4 m4 d4) (.slice p5 m5 d5) wr) (fun _ i _=>ss.length-(intOf i).toNat)
   case atStart=>exact ⟨0,Nat.zero_le _,rfl,by simp [kh],dm,mV,Ea.out⟩
   case round =>
    clear mV Ea A5 dm
    obtain ⟨k,hk,rfl,rfl,hb,mV,Ct⟩:=hrel
    have A5:=cH Ct;clear Ct
    have cA:([40]++dec lv++kh (ss.take k)).length<=16777216:=by
     have h1:=gH ss k
     have h2:=iy.out
     simp only [List.length_append,List.length_cons,List.length_nil];omega
    by_cases cL:k<ss.length
    ·obtain ⟨bb,o,s',v',b2,n2,e2,b3,n3,e3,t,eb,hbb,ht,u0,u1,u2,u3,hr⟩:=ATK.out k cL
     subst eb
     have q0:=(hb.cell hbb).trans u0
     have q1:=(hb.cell hbb).trans u1
     have q2:=(hb.cell hbb).trans u2
     have q3:=(hb.cell hbb).trans u3
     have mz:=zH.below (F':=fun _=>True) hb (fun _ _=>trivial) hr
     have d7:=yh ht
     have eA:=vi ss (k+1)
     have mG:=iy.out
     have mh:=qP t (lvBs_at _ LV.out k t ht)
     have C:=cH (IH.out t (by omega) (lvBs_at _ LV.out k t ht) _ wr _ _ _ _ mz)
     have HT:=cH (textBs_take ht)
     have ht16:(k_ t).length<=16777216:=by omega
     have d8:(k:Int)<(ss.length:Int):=by omega
     generalize hO:[40]++dec lv++kh (ss.take k)=O at *
     have HO:=cH hO
     have eR:=fun w0=>kG (P:=Tryz.prog) O [32] (by simp;omega) w0
     have fX:=fun w0=>kG (P:=Tryz.prog) (O++[32]) (k_ t) (by simp;omega) w0
     clear hO d7 eA mG mh ht u0 u1 u2 u3 hr mz
     go_wp2_with fail
     refine C.out.mono ?_
     rintro en w2 ⟨rfl,cS⟩
     have cr:=zzT hb cS
     have hx2':w2.cell? ⟨w.heap.size,2,none⟩=some (.slice (some ⟨bb,o,none⟩) ss.length c2):=(cS.cell (cD _ ⟨w.heap.size,2,none⟩ mV)).trans mV
     have HKY2:=cH (A5.out.below cS)
     go_wp2_with fail
     go_roundw
     case rel=>exact ⟨k+1,by omega,by go_num,by rw [HT.out,<- HO.out];simp [str],cr,hx2',HKY2.out⟩
     case measure=>simp [intOf];omega
    ·obtain rfl:k=ss.length:=by omega
     rw [List.take_length] at cA ⊢
     have hnl:¬ ((ss.length:Int)<(ss.length:Int)):=by omega
     have HE:Hid (k_ (.ask lv ss yb nb)=((((([40]++dec lv++kh ss)++[32])++k_ yb)++[32])++k_ nb)++[41]):=by show k_ _=_;rw [k_]
     generalize hO:[40]++dec lv++kh ss=O at *
     clear hO
     obtain ⟨ii,q0,q1,q2,q3,q4,q5,q6,q7⟩:=A5.out
     have Bz:=(zH.below (F':=fun _=>True) hb (fun _ _=>trivial) HRY.out).drew
     have BE:=zH.below (F':=fun _=>True) hb (fun _ _=>trivial) HRN.out
     have mG:=iy.out
     have mh:=HYN.out
     have y16:(k_ yb).length<=16777216:=by omega
     have n16:(k_ nb).length<=16777216:=by omega
     have pp:=jY yb;have pq:=jY nb
     have CY:=cH (IH.out yb (by omega) LV3.out _ wr.drew _ _ _ _ Bz)
     have CN:=fun W F' h=>IH.out nb (by omega) LV4.out F' W (str s1) (.int .i64 v1) (.slice p4 m4 d4) (.slice p5 m5 d5) h
     have CN':=cH CN;clear CN
     have RN:=cH BE
     have e16:(O++[32]).length=O.length+1:=by simp
     obtain ⟨O1,h1⟩:=zzM (O++[32])
     obtain ⟨O2,h2⟩:=zzM (O1++k_ yb)
     obtain ⟨O3,h3⟩:=zzM (O2++[32])
     obtain ⟨O4,h4⟩:=zzM (O3++k_ nb)
     obtain ⟨O5,h5⟩:=zzM (O4++[41])
     have l1:O1.length<=16777217:=by rw [h1];simp;omega
     have l2:O2.length<=33554433:=by rw [h2];simp;omega
     have l3:O3.length<=33554434:=by rw [h3];simp;omega
     have l4:O4.length<=50331650:=by rw [h4];simp;omega
     have eR:=fun w0=>kG (P:=Tryz.prog) O [32] (by simp;omega) w0
     have fX:=fun w0=>kG (P:=Tryz.prog) O1 (k_ yb) (by omega) w0
     have nd:=fun w0=>kG (P:=Tryz.prog) O2 [32] (by simp;omega) w0
     have nh:=fun w0=>kG (P:=Tryz.prog) O3 (k_ nb) (by omega) w0
     have DA:=fun w0=>kG (P:=Tryz.prog) O4 [41] (by simp;omega) w0
     have HE5:Hid (O5=k_ (.ask lv ss yb nb)):=by show O5=_;rw [HE.out,h5,h4,h3,h2,h1]
     rw [<- h1] at eR;rw [<- h2] at fX;rw [<- h3] at nd;rw [<- h4] at nh;rw [<- h5] at DA
     clear h1 h2 h3 h4 h5 HE e16 l1 l2 l3 l4
     have hKd:KeepY w.heap.size (.slice (some ⟨eT,yo,none⟩) 2 c3) eT yo (str s0) (.int .i64 v0) (.slice p2 m2 d2) (.slice p3 m3 d3) (str s1) (.int .i64 v1) (.slice p4 m4 d4) (.slice p5 m5 d5) wr.drew:=A5.out
     clear mG mh pp pq Bz BE t1 t2 t3 t4
     go_wp2_with fail
     go_region_held3 (fun w'=>w'.cell? ⟨w.heap.size,3,none⟩=some (.slice (some ⟨eT,yo,none⟩) 2 c3)/\w'.cell? ⟨eT,yo,none⟩=some (str s0)/\w'.cell? ⟨eT,yo+1,none⟩=some (.int .i64 v0)/\w'.cell? ⟨eT,yo+2,none⟩=some (.slice p2 m2 d2)/\w'.cell? ⟨eT,yo+3,none⟩=some (.slice p3 m3 d3)/\w'.cell? ⟨eT,yo+4,none⟩=some (str s1)/\w'.cell? ⟨eT,yo+5,none⟩=some (.int .i64 v1)/\w'.cell? ⟨eT,yo+6,none⟩=some (.slice p4 m4 d4)/\w'.cell? ⟨eT,yo+7,none⟩=some (.slice p5 m5 d5))
      (first
       | with_reducible exact hKd
       | with_reducible exact aw
       | with_reducible exact hK4)
      (first
       | (go_at_call 43;refine (CN'.out _ _ rn3).mono ?_;rintro en w4 ⟨rfl,dJ⟩;have hK4:=aw.below dJ)
       | (go_at_call 43;refine CY.out.mono ?_;rintro en w3 ⟨rfl,cr⟩;have aw:=hKd.below cr;have rn3:=zH.below (F':=fun _=>True) cr (fun _ _=>trivial) RN.out.drew))
     go_wp2_with fail
     go_ret
     exact ⟨by rw [<- HE5.out];rfl,hb.trans ((((cE _ wr).drew).trans (zzT cr dJ)).mono hb.size)⟩
theorem l3Text_any (n:Nat):∀ b,zk b<=n->n<=1000000->lvB b->pT b:=by
 induction n with
 | zero=>intro b h _;have:=jY b;omega
 | succ n ih=>exact fun b h hn eJ=>l3Text_step b (by omega) eJ (fun b' h' fM=>ih b' (by omega) (by omega) fM)
mutual
def br:SC->List DV
 | .mk b t env bg i=>[.val (.int .i64 (-1))]++(kT b++[jA t,.sl 136 9 env.length (kU env),.val (.int .i64 (bg:Nat)),.val (.int .i64 (i:Nat))])
def kU:List SC->List DV
 | []=>[]
 | x::xs=>br x++kU xs
end
theorem yE (x:SC):(br x).length=9:=by cases x;simp [br,qz]
theorem xz:∀ xs:List SC,(kU xs).length=xs.length*9
 | []=>by simp [kU]
 | x::xs=>by rw [kU,List.length_append,yE,xz xs];simp;omega
theorem uA:∀ (xs ys:List SC),kU (xs++ys)=kU xs++kU ys
 | [],ys=>by simp [kU]
 | x::xs,ys=>by simp [kU,uA xs ys]
theorem ownS_at (env:List SC) (m:Nat):∀ (ts:List Ty) (ss:List Bd) (i k:Nat) (t:Ty) (s:Bd),ts[k]? = some t->ss[k]? = some s->(qA env m i ts ss)[k]? = some (.mk s t env m (i+k))
 | [],ss,i,k,t,s,h,_=>by simp at h
 | t'::ts,[],i,k,t,s,_,h=>by simp at h
 | t'::ts,s'::ss,i,k,t,s,h1,h2=>by
   rw [qA]
   cases k with
   | zero=>simp at h1 h2;subst h1;subst h2;simp
   | succ k=>simp only [List.getElem?_cons_succ] at *;rw [ownS_at env m ts ss (i+1) k t s h1 h2,show i+1+k=i+(k+1) from by omega]
theorem vG (env:List SC) (m:Nat):∀ (ts:List Ty) (ss:List Bd) (i:Nat),ts.length=ss.length->(qA env m i ts ss).length=ss.length
 | [],[],i,_=>by rw [qA];· rfl
                 ·intros;contradiction
 | [],s::ss,i,h=>by simp at h
 | t::ts,[],i,h=>by simp at h
 | t::ts,s::ss,i,h=>by rw [qA];simp [vG env m ts ss (i+1) (by simpa using h)]
theorem ym {F:Nat->Prop} {w:World}:∀ (xs:List SC) (us:List Value),zH F w (kU xs) us->∀ u∈us,u.oneCell'=true
 | [],us,h,u,hu=>by rw [kU,zF] at h;subst h;simp at hu
 | .mk b t env bg i::xs,us,h,u,hu=>by
   rw [kU] at h
   obtain ⟨h1,h2⟩:=h.split
   rw [yE] at h1 h2
   rw [<- List.take_append_drop 9 us] at hu
   rcases List.mem_append.1 hu with hu | hu
   ·rw [br] at h1
    obtain ⟨k1,k2⟩:=h1.split
    obtain ⟨k3,k4⟩:=k2.split
    rw [<- List.take_append_drop 1 (us.take 9)] at hu
    rcases List.mem_append.1 hu with hu | hu
    ·simp only [List.length_singleton,zV,zF,zj] at k1
     obtain ⟨_,_,e,rfl,rfl⟩:=k1
     rw [e] at hu;simp at hu;subst hu;rfl
    ·rw [qz] at k3 k4
     simp only [List.length_singleton] at k3 k4
     rw [<- List.take_append_drop 4 (List.drop 1 (us.take 9))] at hu
     rcases List.mem_append.1 hu with hu | hu
     ·exact oneCell_encN k3 u hu
     ·simp only [zV,zF,zj] at k4
      obtain ⟨x0,_,e,q1,x1,_,rfl,q2,_,_,rfl,rfl,_,_,rfl,rfl,rfl⟩:=k4
      rw [e] at hu
      obtain ⟨sa,sc,rfl⟩:=kJ q1
      rw [kM] at q2
      obtain ⟨_,a,c,rfl,_⟩:=q2
      simp only [List.mem_cons,List.not_mem_nil,or_false] at hu
      rcases hu with rfl | rfl | rfl | rfl <;> rfl
   ·exact ym xs _ h2 u hu
def pO (F:Nat->Prop) (hand:List SC) (own:List SC) (w:World) (en:Ending) (w':World):Prop :=
 ∃ a c,en=.returned (.slice a (hand.length+own.length) c)/\Below w.heap.size w w'/\Rep (fun i=>F i\/w.heap.size<=i) w' (.sl 136 9 (hand.length+own.length) (kU (hand++own))) (.slice a (hand.length+own.length) c)
set_option maxRecDepth 100000 in
theorem p_ (F:Nat->Prop) (hand env:List SC) (ss:List Bd) (t:Ty) (begun:Nat) (hv kv tv ev:Value) (w:World) (hh:Rep F w (.sl 136 9 hand.length (kU hand)) hv) (hk:Rep F w (.sl 80 4 ss.length (zl ss)) kv)
 (ht:Rep F w (jA t) tv) (he:Rep F w (.sl 136 9 env.length (kU env)) ev) (hl:hand.length<=10000000) (hs:ss.length=t.args.length) (oB:ss.length<=16) :
 Calls Tryz.prog 34 #[hv,kv,.agg #[tv],ev,.int .i64 (begun:Nat)] w (pO F hand (qA env begun 0 t.args ss) w):=by
 obtain ⟨xs1,mP,g1⟩:=zM.ofRep hh (ym _)
 obtain ⟨a1,c1,e1⟩:=g1.slice
 subst e1
 obtain ⟨ka,kc,e,lC⟩:=AtNs.of hk
 subst e
 have eI:=ht
 rw [qE] at eI
 obtain ⟨ta,tc,e,_,_,mX⟩:=zC eI
 subst e
 obtain ⟨ea,ec,e⟩:∃ a c,ev=.slice a env.length c:=by have h:=he;rw [kM] at h;obtain ⟨_,a,c,e,_⟩:=h;exact ⟨a,c,e⟩
 subst e
 have H:=cH (cB mP (cB g1 (cB lC (cB mX (cB he hs)))))
 clear mP g1 lC mX he hs hh hk ht eI
 have lJ:(qA env begun 0 t.args ss).length=ss.length:=vG _ _ _ _ _ H.out.2.2.2.2.2.symm
 have HOL:=cH lJ;clear lJ
 go_enter Tryz.func34,Tryz.ntmps34
 go_wp2_with (at_builtin;refine zG rfl _ _ 87 rfl 136 (.agg #[.int .i64 0,str [],.int .i64 0,.slice none 0 0,.slice none 0 0,.slice none 0 0,.slice none 0 0,.int .i64 0,.int .i64 0]) 9 144 Tryz.underlying87 Tryz.infoBo rfl (by decide) (.slice (some ⟨w.heap.size+1,0,none⟩) 0 0) 0 [] rfl ?c1 _ hand.length xs1 rfl ?c2 ?c3 ?c4 ?_)
 case c1=>exact Own.litAt #[] 0 _ (by simp) (by decide) rfl
 case c2=>exact (H.out.2.1.alloc _).alloc _
 case c3=>unfold maxLen;omega
 case c4=>omega
 intro ax cx wx hox fu hgx
 obtain ⟨Ad,hfx⟩:=yC (w:=w.alloc (.cells #[.slice ta t.args.length tc] 77)) ((cE _ _).alloc (cC _) _) (own_some (by simp)) fu (fun g h=>by have:=hgx g h;simpa only [zK] using this)
 have dm:Below w.heap.size w (w.alloc (.cells #[.slice ta t.args.length tc] 77)):=(cE _ _).alloc (cC _) _
 have Dj:Below w.heap.size w wx:=dm.trans (Ad.mono (by rw [zK];omega))
 have oo:wx.cell? ⟨w.heap.size,0,none⟩=some (.slice ta t.args.length tc):=by rw [Ad.cell (p:=⟨w.heap.size,0,none⟩) (by rw [zK];simp)];simp
 have CU:∀ g,(Value.slice ax hand.length cx).ownBlock=some g->w.heap.size+1<=g:=fun g hg=>by have:=hfx g hg;rwa [zK] at this
 have HX:=cH (cB hox (cB Dj (cB oo CU)));clear hox fu hgx Ad hfx dm Dj oo CU
 go_wp2_with fail
 go_loopw [12,11] (fun i o wr=>∃ (k:Nat) (a':Option Addr) (c':Nat) (cells:List Value),k<=ss.length/\i=.int .i64 k/\o=.slice a' (hand.length+k) c'/\Own wr 136 9 (.slice a' (hand.length+k) c') (hand.length+k) cells /\
  zH (fun i=>F i/\(Value.slice a' (hand.length+k) c').ownBlock≠some i) wr (kU (hand++(qA env begun 0 t.args ss).take k)) cells/\Below w.heap.size w wr/\wr.cell? ⟨w.heap.size,0,none⟩=some (.slice ta t.args.length tc)/\(∀ g,(Value.slice a' (hand.length+k) c').ownBlock=some g->w.heap.size+1<=g)) (fun i _ _=>ss.length-(intOf i).toNat)
 case atStart =>
  refine ⟨0,ax,cx,xs1,Nat.zero_le _,rfl,rfl,HX.out.1,?_,HX.out.2.1,HX.out.2.2.1,HX.out.2.2.2⟩
  rw [List.take_zero,List.append_nil]
  exact (Rep.keep fun b o hf ho=>⟨⟨hf,fun e=>by have h1:w.heap.size+1<=b:=HX.out.2.2.2 b e;have:=zZ ho;omega⟩,by rw [HX.out.2.1.block b (zZ ho)];exact ho⟩).2 _ _ H.out.1
 case round =>
  obtain ⟨k,a',c',cells,hk,rfl,rfl,ho,hr,hb,hc,hf⟩:=hrel
  have HR:=cH (cB ho (cB hr (cB hb hf)));clear ho hr hb hf
  by_cases cL:k<ss.length
  ·obtain ⟨kb,ko,s',v',a2,n2,c2,a3,n3,c3,d,e,sg,hd,k0,k1,k2,k3,dT⟩:=H.out.2.2.1 k cL
   subst e
   have Cr:k<t.args.length:=by have:=H.out.2.2.2.2.2;omega
   obtain ⟨bt,ot,ut,dt,e,_,dx,hdt,lR,dy⟩:=H.out.2.2.2.1 k Cr
   subst e
   rw [js,Option.map_eq_some_iff] at hdt
   obtain ⟨tk,d6,rfl⟩:=hdt
   obtain ⟨ua,uc,rfl⟩:=kJ dy
   have q0:=(HR.out.2.2.1.cell (p:=⟨kb,ko+k*4,none⟩) sg).trans k0
   have q1:=(HR.out.2.2.1.cell (p:=⟨kb,ko+k*4+1,none⟩) sg).trans k1
   have q2:=(HR.out.2.2.1.cell (p:=⟨kb,ko+k*4+2,none⟩) sg).trans k2
   have q3:=(HR.out.2.2.1.cell (p:=⟨kb,ko+k*4+3,none⟩) sg).trans k3
   have q4:=(HR.out.2.2.1.cell (p:=⟨bt,ot+k,none⟩) dx).trans lR
   have HK:=cH (cB hd (cB dT (cB d6 dy)));clear hd dT d6 dy k0 k1 k2 k3 lR
   have d8:(k:Int)<(ss.length:Int):=by omega
   have Cq:(k:Int)<(t.args.length:Int):=by omega
   have h09:0<9:=by omega
   have iW:hand.length+k+1<=maxLen:=by unfold maxLen;omega
   have eW:(hand.length+k+1)*144<=140737488355328:=by omega
   have tL:=(zM.litk (w:=wr) (e:=136) #[.int .i64 (-1),str s',.int .i64 v',.slice a2 n2 c2,.slice a3 n3 c3,.slice ua tk.args.length uc,.slice ea env.length ec,.int .i64 (begun:Nat),.int .i64 (k:Nat)] rfl (by simp [str,Value.oneCell']) _ rfl).drew
   have HL:=cH tL;clear tL
   have hrw:∀ g,(Value.slice a' (hand.length+k) c').ownBlock=some g->g<wr.heap.size:=fun g hg=>HR.out.1.lt hg
   have SIX:Hid (∀ w7:World,But (fun b=>(Value.slice a' (hand.length+k) c').ownBlock=some b) (wr.alloc (.cells #[.int .i64 (-1),str s',.int .i64 v',.slice a2 n2 c2,.slice a3 n3 c3,.slice ua tk.args.length uc,.slice ea env.length ec,.int .i64 (begun:Nat),.int .i64 (k:Nat)] 136)).drew w7 ->
    w7.cell? ⟨kb,ko+k*4,none⟩=some (str s')/\w7.cell? ⟨kb,ko+k*4+1,none⟩=some (.int .i64 v')/\w7.cell? ⟨kb,ko+k*4+2,none⟩=some (.slice a2 n2 c2)/\w7.cell? ⟨kb,ko+k*4+3,none⟩=some (.slice a3 n3 c3)/\w7.cell? ⟨bt,ot+k,none⟩=some (.slice ua tk.args.length uc)/\w7.cell? ⟨w.heap.size,0,none⟩=some (.slice (some ⟨bt,ot,none⟩) t.args.length tc)):=by
    show ∀ w7:World,_->_
    intro w7 cq
    have hz:=HR.out.2.2.1.size
    have key:∀ (p:Addr) (u:Value),p.block<w.heap.size+1->wr.cell? p=some u->w7.cell? p=some u:=by
     intro p u hp hu
     have h1:(wr.alloc (.cells #[.int .i64 (-1),str s',.int .i64 v',.slice a2 n2 c2,.slice a3 n3 c3,.slice ua tk.args.length uc,.slice ea env.length ec,.int .i64 (begun:Nat),.int .i64 (k:Nat)] 136)).drew.cell? p=some u:=zX hu
     exact (cq.cell (cD _ _ h1) (fun e=>by have:=HR.out.2.2.2 _ e;omega)).trans h1
    exact ⟨key _ _ (by simp only;omega) q0,key _ _ (by simp only;omega) q1,key _ _ (by simp only;omega) q2,key _ _ (by simp only;omega) q3,key _ _ (by simp only;omega) q4,key _ _ (by simp only;omega) hc⟩
   go_wp2_with fail
   go_region_held3 (fun w'=>w'.cell? ⟨kb,ko+k*4,none⟩=some (str s')/\w'.cell? ⟨kb,ko+k*4+1,none⟩=some (.int .i64 v')/\w'.cell? ⟨kb,ko+k*4+2,none⟩=some (.slice a2 n2 c2)/\w'.cell? ⟨kb,ko+k*4+3,none⟩=some (.slice a3 n3 c3)/\w'.cell? ⟨bt,ot+k,none⟩=some (.slice ua tk.args.length uc)/\w'.cell? ⟨w.heap.size,0,none⟩=some (.slice (some ⟨bt,ot,none⟩) t.args.length tc))
    (first
     | exact ⟨q0,q1,q2,q3,q4,hc⟩
     | exact hS7
     | go_keep)
    (first
     | (refine zc (by rfl) _ _ _ (by rfl) 136 (.agg #[.int .i64 0,str [],.int .i64 0,.slice none 0 0,.slice none 0 0,.slice none 0 0,.slice none 0 0,.int .i64 0,.int .i64 0]) 9 144 Tryz.underlying87 Tryz.infoBo rfl h09 (.slice a' (hand.length+k) c') (hand.length+k) cells (by rfl) (HR.out.1.alloc _).drew _ 1 [.int .i64 (-1),str s',.int .i64 v',.slice a2 n2 c2,.slice a3 n3 c3,.slice ua tk.args.length uc,.slice ea env.length ec,.int .i64 (begun:Nat),.int .i64 (k:Nat)] (by rfl) HL.out iW eW ?_;intro a7 c7 w7 dB cq ci;have hS7:=SIX.out w7 cq))
   have hz:=HR.out.2.2.1.size
   have eE:∀ g,(Value.slice a7 (hand.length+k+1) c7).ownBlock=some g->(Value.slice a' (hand.length+k) c').ownBlock=some g\/g=wr.heap.size+1:=by
    intro g hg
    rcases ci g hg with h | h
    ·exact .inl h
    ·exact .inr (by rw [h];exact zK _ _)
   have dG:Below w.heap.size w w7:=by
    refine ((HR.out.2.2.1.alloc hz _).drew).trans (cq.toBelow (by show _<=(wr.alloc _).heap.size;rw [zK];omega) fun i hi e=>?_)
    have:=HR.out.2.2.2 i e;omega
   have eB:∀ (b:Nat) (o:Obj),(Value.slice a' (hand.length+k) c').ownBlock≠some b->wr.heap[b]? = some o->w7.heap[b]? = some o:=by
    intro b o hf ho
    have h2:=zZ ho
    have h3:(wr.alloc (.cells #[.int .i64 (-1),str s',.int .i64 v',.slice a2 n2 c2,.slice a3 n3 c3,.slice ua tk.args.length uc,.slice ea env.length ec,.int .i64 (begun:Nat),.int .i64 (k:Nat)] 136)).drew.heap[b]? = some o:=zY ho
    rw [cq.block b (zZ h3) hf];exact h3
   have rI:zH (fun i=>F i/\(Value.slice a7 (hand.length+k+1) c7).ownBlock≠some i) w7 (kU (hand++(qA env begun 0 t.args ss).take (k+1))) (cells++[.int .i64 (-1),str s',.int .i64 v',.slice a2 n2 c2,.slice a3 n3 c3,.slice ua tk.args.length uc,.slice ea env.length ec,.int .i64 (begun:Nat),.int .i64 (k:Nat)]):=by
    have how:=ownS_at env begun t.args ss 0 k tk d HK.out.2.2.1 HK.out.1
    rw [Nat.zero_add] at how
    rw [List.take_add_one,how]
    simp only [Option.toList_some]
    rw [<- List.append_assoc,uA]
    have Cb:∀ (b:Nat) (o:Obj),F b->w.heap[b]? = some o->(F b/\(Value.slice a7 (hand.length+k+1) c7).ownBlock≠some b)/\w7.heap[b]? = some o:=by
     intro b o hf ho
     have h1:=zZ ho
     refine ⟨⟨hf,fun e=>?_⟩,by rw [dG.block b h1];exact ho⟩
     rcases eE b e with h | h
     ·have:=HR.out.2.2.2 b h;omega
     ·omega
    refine zH.append ?_ ?_
    ·exact (Rep.keep fun b o hf ho=>⟨⟨hf.1,fun e=>by
      have:=zZ ho
      rcases eE b e with h | h
      ·exact hf.2 h
      ·omega⟩,eB b o hf.2 ho⟩).2 _ _ HR.out.2.1
    ·simp only [kU,br,List.append_nil,List.cons_append,List.nil_append]
     refine zV.2 ⟨_,_,rfl,zj.2 rfl,?_⟩
     have h4:=(Rep.keep Cb).2 _ _ HK.out.2.1
     have h5:=(Rep.keep Cb).1 _ _ HK.out.2.2.2
     have h6:=(Rep.keep Cb).1 _ _ H.out.2.2.2.2.1
     exact zH.append h4 (zV.2 ⟨_,_,rfl,h5,zV.2 ⟨_,_,rfl,h6,zV.2 ⟨_,_,rfl,zj.2 rfl,zV.2 ⟨_,_,rfl,zj.2 rfl,zF.2 rfl⟩⟩⟩⟩)
   have dz:∀ g,(Value.slice a7 (hand.length+k+1) c7).ownBlock=some g->w.heap.size+1<=g:=by
    intro g hg
    rcases eE g hg with h | h
    ·exact HR.out.2.2.2 g h
    ·omega
   have H7:=cH (cB dB (cB rI (cB dG (cB hS7.2.2.2.2.2 dz))));clear dB rI dG hS7 dz cq ci eE eB q0 q1 q2 q3 q4 hc
   go_wp2_with fail
   go_roundw
   case rel=>exact ⟨k+1,a7,c7,_,by omega,by go_num,rfl,H7.out.1,H7.out.2.1,H7.out.2.2.1,H7.out.2.2.2.1,H7.out.2.2.2.2⟩
   case measure=>simp [intOf];omega
  ·obtain rfl:k=ss.length:=by omega
   have oN:¬ (ss.length:Int)<(ss.length:Int):=by omega
   clear hc
   go_wp2_with fail
   go_ret
   have hr:=HR.out.2.1
   rw [List.take_of_length_le (by rw [HOL.out];exact cC _)] at hr
   unfold pO
   rw [HOL.out]
   refine ⟨a',c',rfl,HR.out.2.2.1,HR.out.1.rep (fun g hg=>.inr (by have:=HR.out.2.2.2 g hg;omega)) ((Rep.keep fun b o hf ho=>⟨.inl hf.1,ho⟩).2 _ _ hr)⟩
structure RS (keep:Bool) (most ra:Nat) (log:List (Bs×Int)) (mv pt:Value) (w:World):Prop where
 blk:w.heap[ra]? = some (.cells #[mv,pt,.int .i64 (log.length:Nat),.int .i64 (most:Nat),.bool keep,.bool (decide (most<log.length))] 46 (0,0))
 sls:∃ a n k a' n' k',mv=.slice a n k/\pt=.slice a' n' k'
 rows:keep=true->log.length<=most->Own w 9 1 mv log.length (qg log)/\Own w 3 1 pt log.length (qD log)
 ne:∀ g,mv.ownBlock=some g\/pt.ownBlock=some g->g≠ra/\g<w.heap.size
theorem RS.but {keep:Bool} {most ra:Nat} {log:List (Bs×Int)} {mv pt:Value} {m:Nat->Prop} {w w':World} (h:RS keep most ra log mv pt w) (hb:But m w w') (hm:∀ b,MBk ra mv pt b->¬ m b):RS keep most ra log mv pt w' :=
 ⟨by rw [hb.block ra (zZ h.blk) (hm ra (.inl rfl))];exact h.blk,h.sls,
  fun hk hl=>⟨(h.rows hk hl).1.keep fun g o hg ho=>by rw [hb.block g (zZ ho) (hm g (.inr (.inl hg)))];exact ho,(h.rows hk hl).2.keep fun g o hg ho=>by rw [hb.block g (zZ ho) (hm g (.inr (.inr hg)))];exact ho⟩,
  fun g hg=>⟨(h.ne g hg).1,cM (h.ne g hg).2 hb.size⟩⟩
theorem RS.below {keep:Bool} {most ra:Nat} {log:List (Bs×Int)} {mv pt:Value} {w w':World} (h:RS keep most ra log mv pt w) (hb:Below w.heap.size w w'):RS keep most ra log mv pt w' :=
 h.but (m:=fun _=>False) (But.ofBelow hb) fun _ _ h=>h
theorem RS.drew {keep:Bool} {most ra:Nat} {log:List (Bs×Int)} {mv pt:Value} {w:World} (h:RS keep most ra log mv pt w):RS keep most ra log mv pt w.drew:=h.but (m:=fun _=>False) (But.refl _ _).drew fun _ _ h=>h
theorem RS.lt {keep:Bool} {most ra:Nat} {log:List (Bs×Int)} {mv pt:Value} {w:World} (h:RS keep most ra log mv pt w) {b:Nat} (hb:MBk ra mv pt b):b<w.heap.size:=by
 rcases hb with rfl | hb | hb
 ·exact zZ h.blk
 ·exact (h.ne b (.inl hb)).2
 ·exact (h.ne b (.inr hb)).2
theorem RS.bad {keep:Bool} {most ra:Nat} {log:List (Bs×Int)} {mv pt:Value} {w:World} (h:RS keep most ra log mv pt w):w.cell? ⟨ra,5,none⟩=some (.bool (decide (most<log.length))):=by simp [World.cell?,h.blk]
def cX (keep:Bool):Prop:=∀ (most ra:Nat) (log:List (Bs×Int)) (mv pt:Value) (s:Bs) (p:Int) (w:World),RS keep most ra log mv pt w->log.length<=most->most<=100000->s.length<=1000000 ->
 Calls Tryz.prog 32 #[.pointer (some ⟨ra,0,none⟩),str s,.int .i64 p] w fun en w'=>∃ mv' pt',en=.returned (.int .i64 (log.length:Nat))/\But (MBk ra mv pt) w w'/\RS keep most ra (log++[(s,p)]) mv' pt' w'/\(∀ b,MBk ra mv' pt' b->MBk ra mv pt b\/w.heap.size<=b)
def cU (keep:Bool):Prop:=∀ (most ra:Nat) (log:List (Bs×Int)) (mv pt:Value) (i:Nat) (w:World),RS keep most ra log mv pt w->log.length<=most->most<=100000->(∃ q p,log[i]? = some (q,p)/\1<=q.length/\q.length<=1000000) ->
 Calls Tryz.prog 54 #[.pointer (some ⟨ra,0,none⟩),.int .i64 (i:Nat)] w fun en w'=>en=.returned (str (qy keep log i))/\w'=w
structure BoxS (F:Nat->Prop) (B:Nat) (b:Bd) (v:Int) (x2 x3:Value) (w:World):Prop where
 blk:w.heap[B]? = some (.cells #[str (z8 b),.int .i64 v,x2,x3] 80 (0,0))
 rep:zH F w (kT b) [str (z8 b),.int .i64 v,x2,x3]
def encSF (x:SF):List DV:=kT (.ask x.v x.ss x.yes x.no)++[.sl 136 9 x.env.length (kU x.env),.val (.int .i64 (x.opens:Nat))]
def jM:List SF->List DV
 | []=>[]
 | x::xs=>encSF x++jM xs
theorem encSF_length (x:SF):(encSF x).length=6:=by simp [encSF,qz]
theorem uT:∀ (xs ys:List SF),jM (xs++ys)=jM xs++jM ys
 | [],ys=>by simp [jM]
 | x::xs,ys=>by simp [jM,uT xs ys]
theorem xO:∀ fs:List SF,(jM fs).length=fs.length*6
 | []=>by simp [jM]
 | f::fs=>by rw [jM,List.length_append,xO fs,encSF_length];simp;omega
mutual
def okN (n:Nat):SC->Prop
 | .mk b _ e bg i=>nB b/\uR n e/\e.length<=16*n/\bg<n/\i<=15
def uR (n:Nat):List SC->Prop
 | []=>True
 | c::cs=>okN n c/\uR n cs
end
mutual
theorem okN_mono {n m:Nat} (h:n<=m):∀ c,okN n c->okN m c
 | .mk b _ e bg i,k=>by
   rw [okN] at *
   exact ⟨k.1,j5 h e k.2.1,by have:=k.2.2.1;omega,by have:=k.2.2.2.1;omega,k.2.2.2.2⟩
theorem j5 {n m:Nat} (h:n<=m):∀ cs,uR n cs->uR m cs
 | [],k=>by rw [uR] at *;trivial
 | c::cs,k=>by rw [uR] at *;exact ⟨okN_mono h c k.1,j5 h cs k.2⟩
end
theorem okNs_at {n:Nat}:∀ (cs:List SC),uR n cs->∀ (i:Nat) (c:SC),cs[i]? = some c->okN n c
 | [],_,i,c,h=>by simp at h
 | x::cs,k,i,c,h=>by
   rw [uR] at k
   cases i with
   | zero=>simp at h;subst h;exact k.1
   | succ i=>exact okNs_at cs k.2 i c (by simpa using h)
theorem pn {n:Nat}:∀ (xs ys:List SC),uR n xs->uR n ys->uR n (xs++ys)
 | [],ys,_,h=>h
 | x::xs,ys,h,k=>by rw [uR] at h;exact ⟨h.1,pn xs ys h.2 k⟩
theorem bC {n m:Nat} {env:List SC} (he:uR n env) (hl:env.length<=16*n) (hm:m<n):∀ (ts:List Ty) (ss:List Bd) (i:Nat),i+ss.length<=16->nBs ss->uR n (qA env m i ts ss)
 | [],ss,i,_,_=>by
   rw [qA]
   ·rw [uR];trivial
   ·intros;contradiction
 | t::ts,[],i,_,_=>by
   rw [qA]
   ·rw [uR];trivial
   ·intros;contradiction
 | t::ts,s::ss,i,hi,h=>by
   rw [nBs] at h
   simp only [List.length_cons] at hi
   rw [qA,uR]
   refine ⟨?_,bC he hl hm ts ss (i+1) (by omega) h.2⟩
   rw [okN]
   exact ⟨h.1,he,hl,hm,by omega⟩
structure SFOk (n:Nat) (x:SF):Prop where
 ok:okF x
 yes:nB x.yes
 no:nB x.no
 env:uR n x.env
 len:x.env.length<=16*n
 opens:x.opens<n
theorem SFOk.mono {n m:Nat} {x:SF} (h:SFOk n x) (k:n<=m):SFOk m x:=⟨h.ok,h.yes,h.no,j5 k _ h.env,by have:=h.len;omega,by have:=h.opens;omega⟩
def LogOk (log:List (Bs×Int)):Prop:=∀ (i:Nat) (q:Bs) (p:Int),log[i]? = some (q,p)->1<=q.length/\q.length<=2*log.length+1
theorem LogOk.snoc {log:List (Bs×Int)} (h:LogOk log) {s:Bs} {p:Int} (h1:1<=s.length) (h2:s.length<=2*log.length+3):LogOk (log++[(s,p)]):=by
 intro i q p' hi
 have hl:(log++[(s,p)]).length=log.length+1:=by simp
 rw [hl]
 rcases Nat.lt_or_ge i log.length with cL | eV
 ·rw [List.getElem?_append_left cL] at hi
  have:=h i q p' hi
  omega
 ·rw [List.getElem?_append_right eV] at hi
  rcases Nat.eq_zero_or_pos (i-log.length) with h0 | h0
  ·rw [h0] at hi;simp at hi;obtain ⟨rfl,rfl⟩:=hi;omega
  ·rw [List.getElem?_eq_none (by simp;omega)] at hi;simp at hi
theorem uG (keep:Bool) {log:List (Bs×Int)} (h:LogOk log) (i:Nat):(qy keep log i).length<=2*log.length:=by
 unfold qy
 split
 ·cases hi:log[i]? with
  | none=>simp
  | some x=>obtain ⟨q,p⟩:=x;have:=h i q p hi;simp;omega
 ·simp
structure GoPl (keep:Bool) (R:Option (UInt8×List (Bs×Int))) (most:Nat) (b:Bd) (env:List SC) (opens:Nat) (st:List SF) (log:List (Bs×Int)):Prop where
 goes:(log.length<=most/\R=j0 keep (most-log.length) log b env opens st)\/(most<log.length/\log.length<=most+1/\R=none)
 wf:wfB b
 oks:uw env
 fit:kX (env.map SC.kind) b
 nb:nB b
 oke:uR log.length env
 len:env.length<=16*log.length
 opn:opens<log.length
 frs:∀ f∈st,SFOk log.length f
 stl:st.length<=log.length
 lok:LogOk log
structure GoAt (keep:Bool) (most ra:Nat) (rQ rZ:Value) (w:World) (B:Nat) (b:Bd) (env:List SC) (opens:Nat) (st:List SF) (log:List (Bs×Int)) (mv pt:Value) (v:Int) (x2 x3 ev sv:Value) (cells:List Value) (wr:World):Prop where
 rs:RS keep most ra log mv pt wr
 box:BoxS (fun i=>¬ Chg ra mv pt B sv i) B b v x2 x3 wr
 re:Rep (fun i=>¬ Chg ra mv pt B sv i) wr (.sl 136 9 env.length (kU env)) ev
 own:Own wr 134 6 sv st.length cells
 rf:zH (fun i=>¬ Chg ra mv pt B sv i) wr (jM st.reverse) cells
 but:But (MBk ra rQ rZ) w wr
 new:∀ i,MBk ra mv pt i->MBk ra rQ rZ i\/w.heap.size<=i
 bB:w.heap.size<=B/\¬ MBk ra mv pt B
 sB:∀ g,sv.ownBlock=some g->w.heap.size<=g/\g≠B/\¬ MBk ra mv pt g
theorem gopl_back {keep:Bool} {R:Option (UInt8×List (Bs×Int))} {most:Nat} {c:UInt8} {env:List SC} {opens:Nat} {x:SF} {st:List SF} {log:List (Bs×Int)} (h:GoPl keep R most (.leaf c) env opens (x::st) log) (hc:c≠117) (hm:log.length<=most) :
 GoPl keep R most (if c=102 then x.no else x.yes) x.env x.opens st (log++[(c::qy keep log opens,(opens:Int))]):=by
 obtain ⟨n7,mU,iU,dP,ez,fd,cA,hopn,mt,fx,tA⟩:=h
 have hl:(log++[(c::qy keep log opens,(opens:Int))]).length=log.length+1:=by simp
 have k:=mt x (by simp)
 have hf:=k.ok.fits
 have hp:=uG keep tA opens
 refine ⟨?_,by split;exact k.ok.no;exact k.ok.yes,k.ok.env,by split;exact hf.2;exact hf.1,by split;exact k.no;exact k.yes,by rw [hl];exact j5 (by omega) _ k.env,by rw [hl];have:=k.len;omega,by rw [hl];have:=k.opens;omega,fun g hg=>by rw [hl];exact (mt g (by simp [hg])).mono (by omega),by rw [hl];simp at fx;omega,tA.snoc (by simp) (by simp;omega)⟩
 rw [hl]
 rcases n7 with ⟨_,n7⟩ | ⟨h1,_⟩
 ·rcases Nat.lt_or_ge log.length most with h2 | h2
  ·refine .inl ⟨by omega,?_⟩
   obtain ⟨d,hd⟩:∃ d,most-log.length=d+1:=⟨most-log.length-1,by omega⟩
   rw [n7,hd,show most-(log.length+1)=d from by omega]
   simp only [j0,if_neg hc]
  ·refine .inr ⟨by omega,by omega,?_⟩
   rw [n7,show most-log.length=0 from by omega]
   simp only [j0,if_neg hc]
 ·omega
theorem gopl_ask {keep:Bool} {R:Option (UInt8×List (Bs×Int))} {most:Nat} {v:Nat} {ss:List Bd} {y n:Bd} {env:List SC} {opens:Nat} {st:List SF} {log:List (Bs×Int)} (h:GoPl keep R most (.ask v ss y n) env opens st log) (hm:log.length<=most) {e:SC} (he:env[v]? = some e) :
 GoPl keep R most e.body (e.env++qA env log.length 0 e.kind.args ss) log.length (⟨v,ss,y,n,env,opens⟩::st) (log++[(113::(qy keep log e.begun++dec e.arg),(e.begun:Int))]):=by
 obtain ⟨n7,mU,iU,dP,ez,fd,cA,hopn,mt,fx,tA⟩:=h
 have hl:(log++[(113::(qy keep log e.begun++dec e.arg),(e.begun:Int))]).length=log.length+1:=by simp
 obtain ⟨k1,k2,k3⟩:=ask_ok iU dP mU he log.length
 obtain ⟨e',iN,_,rJ,_⟩:=wa iU dP
 rw [he] at iN;simp at iN;subst iN
 have hp:=uG keep tA e.begun
 have fN:=okNs_at _ fd _ _ he
 have hnb':=ez
 rw [nB] at ez
 have AV:(dec e.arg).length<=2:=qn 1 _ (by obtain ⟨_,_,_,_,_⟩:=e;rw [okN] at fN;have:=fN.2.2.2.2;simp only [SC.arg];omega)
 obtain ⟨eb,et,ee,eg,ei⟩:=e
 rw [okN] at fN
 simp only [SC.body,SC.kind,SC.env,SC.begun,SC.arg] at *
 have co:uR (log.length+1) (qA env log.length 0 et.args ss):=bC (j5 (by omega) _ fd) (by omega) (by omega) et.args ss 0 (by omega) ez.2.1
 have hw:=mU
 rw [wfB] at hw
 refine ⟨?_,k1,k2,k3,fN.1,?_,?_,by rw [hl];omega,?_,by rw [hl];simp only [List.length_cons];omega,tA.snoc (by simp) (by simp only [List.length_cons,List.length_append];omega)⟩
 ·rw [hl]
  rcases n7 with ⟨_,n7⟩ | ⟨h1,_⟩
  ·rcases Nat.lt_or_ge log.length most with h2 | h2
   ·refine .inl ⟨by omega,?_⟩
    obtain ⟨d,hd⟩:∃ d,most-log.length=d+1:=⟨most-log.length-1,by omega⟩
    rw [n7,hd,show most-(log.length+1)=d from by omega]
    simp only [j0,he,SC.body,SC.kind,SC.env,SC.begun,SC.arg]
   ·refine .inr ⟨by omega,by omega,?_⟩
    rw [n7,show most-log.length=0 from by omega]
    simp only [j0]
  ·omega
 ·rw [hl];exact pn _ _ (j5 (by omega) _ fN.2.1) co
 ·rw [hl,List.length_append,vG _ _ _ _ _ rJ.symm];have:=fN.2.2.1;omega
 ·intro f hf
  rw [hl]
  rcases List.mem_cons.1 hf with rfl | hf
  ·exact ⟨⟨hw.2.1,hw.2.2,iU,dP⟩,ez.2.2.1,ez.2.2.2,j5 (by omega) _ fd,by simp only;omega,by simp only;omega⟩
  ·exact (mt f hf).mono (by omega)
theorem rep_sl_at {F:Nat->Prop} {w:World} {T:TypeId} {sz n:Nat} {pre mid post:List DV} {v:Value} (h:Rep F w (.sl T sz n (pre++(mid++post))) v) {k:Nat} (hp:pre.length=k*sz) (hm:mid.length=sz) (hk:k<n) :
 ∃ b o cap vs,v=.slice (some ⟨b,o,none⟩) n cap/\F b/\b<w.heap.size/\zH F w mid vs/\∀ (j:Nat) (u:Value),vs[j]? = some u->w.cell? ⟨b,o+k*sz+j,none⟩=some u:=by
 rw [kM] at h
 obtain ⟨hl,a,cap,rfl,hn,hz,h⟩:=h
 rcases h with h0 | ⟨b,o,cs,fr,rfl,hb,hcs,hr⟩
 ·omega
 have h2:=hr.split.2
 rw [hp] at h2
 have h3:=h2.split.1
 rw [hm] at h3
 refine ⟨b,o,cap,_,rfl,hb,zZ hcs,h3,fun j u hj=>?_⟩
 have hj2:j<sz:=by
  have:=(List.getElem?_eq_some_iff.1 hj).1
  rw [<- h3.length,hm] at this;exact this
 rw [List.getElem?_take,if_pos hj2,List.getElem?_drop,List.getElem?_take] at hj
 split at hj
 ·rw [List.getElem?_drop] at hj
  simp only [World.cell?,hcs]
  simpa [Nat.add_assoc] using hj
 ·simp at hj
theorem encSCs_split {env:List SC} {v:Nat} {e:SC} (h:env[v]? = some e):kU env=kU (env.take v)++(br e++kU (env.drop (v+1))):=by
 have e2:env=env.take v++e::env.drop (v+1):=by
  have hv:=(List.getElem?_eq_some_iff.1 h).1
  have:env[v]=e:=(List.getElem?_eq_some_iff.1 h).2
  rw [<- this,List.getElem_cons_drop,List.take_append_drop]
 conv=>lhs;rw [e2]
 rw [uA,kU]
theorem boundR_at {F:Nat->Prop} {w:World} {env:List SC} {ev:Value} (h:Rep F w (.sl 136 9 env.length (kU env)) ev) {v:Nat} {e:SC} (he:env[v]? = some e) :
 ∃ b o cap bv a2 c2 a3 c3 ta tc ea ec,ev=.slice (some ⟨b,o,none⟩) env.length cap/\F b/\b<w.heap.size/\w.cell? ⟨b,o+v*9,none⟩=some (.int .i64 (-1))/\w.cell? ⟨b,o+v*9+1,none⟩=some (str (z8 e.body))/\w.cell? ⟨b,o+v*9+2,none⟩=some (.int .i64 bv) /\
   w.cell? ⟨b,o+v*9+3,none⟩=some (.slice a2 (qU e.body).length c2)/\w.cell? ⟨b,o+v*9+4,none⟩=some (.slice a3 (qr e.body).length c3)/\w.cell? ⟨b,o+v*9+5,none⟩=some (.slice ta e.kind.args.length tc) /\
   w.cell? ⟨b,o+v*9+6,none⟩=some (.slice ea e.env.length ec)/\w.cell? ⟨b,o+v*9+7,none⟩=some (.int .i64 (e.begun:Nat))/\w.cell? ⟨b,o+v*9+8,none⟩=some (.int .i64 (e.arg:Nat)) /\
   zH F w (kT e.body) [str (z8 e.body),.int .i64 bv,.slice a2 (qU e.body).length c2,.slice a3 (qr e.body).length c3]/\Rep F w (jA e.kind) (.slice ta e.kind.args.length tc)/\Rep F w (.sl 136 9 e.env.length (kU e.env)) (.slice ea e.env.length ec):=by
 have hv:=(List.getElem?_eq_some_iff.1 he).1
 rw [encSCs_split he] at h
 obtain ⟨b,o,cap,vs,rfl,hF,cL,hr,hat⟩:=rep_sl_at h (k:=v) (by rw [xz,List.length_take,Nat.min_eq_left (by omega)]) (yE e) hv
 obtain ⟨eb,et,ee,eg,ei⟩:=e
 rw [br] at hr
 obtain ⟨k1,k2⟩:=hr.split
 obtain ⟨k3,k4⟩:=k2.split
 rw [qz] at k3 k4
 simp only [List.length_singleton,List.length_cons,List.length_nil,Nat.zero_add] at k1 k3 k4
 obtain ⟨bv,a2,c2,a3,c3,e3,_⟩:=jw k3
 simp only [zV,zF,zj] at k1 k4
 obtain ⟨_,_,e1,rfl,rfl⟩:=k1
 obtain ⟨x0,_,e4,q1,x1,_,rfl,q2,_,_,rfl,rfl,_,_,rfl,rfl,rfl⟩:=k4
 obtain ⟨ta,tc,rfl⟩:=kJ q1
 obtain ⟨ea,ec,rfl⟩:∃ a c,x1=.slice a ee.length c:=by
  have h:=q2;rw [kM] at h;obtain ⟨_,a,c,e,_⟩:=h;exact ⟨a,c,e⟩
 have hvs:vs=[.int .i64 (-1)]++([str (z8 eb),.int .i64 bv,.slice a2 (qU eb).length c2,.slice a3 (qr eb).length c3]++[.slice ta et.args.length tc,.slice ea ee.length ec,.int .i64 (eg:Nat),.int .i64 (ei:Nat)]):=by
  rw [<- e3,<- e4,<- e1,List.take_append_drop,List.take_append_drop]
 rw [e3] at k3
 subst hvs
 exact ⟨b,o,cap,bv,a2,c2,a3,c3,ta,tc,ea,ec,rfl,hF,cL,hat 0 _ rfl,hat 1 _ rfl,hat 2 _ rfl,hat 3 _ rfl,hat 4 _ rfl,hat 5 _ rfl,hat 6 _ rfl,hat 7 _ rfl,hat 8 _ rfl,k3,q1,q2⟩
theorem pair_at {F:Nat->Prop} {w:World} {y n:Bd} {v:Value} (h:Rep F w (.sl 80 4 2 (zl [y,n])) v) (k:Nat) (hk:k<2) :
 ∃ b o cap bv a2 c2 a3 c3,v=.slice (some ⟨b,o,none⟩) 2 cap/\F b/\b<w.heap.size/\w.cell? ⟨b,o+k*4,none⟩=some (str (z8 (if k=1 then n else y)))/\w.cell? ⟨b,o+k*4+1,none⟩=some (.int .i64 bv) /\
   w.cell? ⟨b,o+k*4+2,none⟩=some (.slice a2 (qU (if k=1 then n else y)).length c2)/\w.cell? ⟨b,o+k*4+3,none⟩=some (.slice a3 (qr (if k=1 then n else y)).length c3) /\
   zH F w (kT (if k=1 then n else y)) [str (z8 (if k=1 then n else y)),.int .i64 bv,.slice a2 (qU (if k=1 then n else y)).length c2,.slice a3 (qr (if k=1 then n else y)).length c3]:=by
 have hs:zl [y,n]=zl ([y,n].take k)++(kT (if k=1 then n else y)++zl ([y,n].drop (k+1))):=by
  rcases (by omega:k=0\/k=1) with rfl | rfl <;> simp [zl]
 rw [hs] at h
 obtain ⟨b,o,cap,vs,rfl,hF,cL,hr,hat⟩:=rep_sl_at h (k:=k) (by rw [wO,List.length_take];simp;omega) (qz _) hk
 obtain ⟨bv,a2,c2,a3,c3,rfl,_⟩:=jw hr
 exact ⟨b,o,cap,bv,a2,c2,a3,c3,rfl,hF,cL,hat 0 _ rfl,hat 1 _ rfl,hat 2 _ rfl,hat 3 _ rfl,hr⟩
theorem top_at {F:Nat->Prop} {w:World} {sv:Value} {x:SF} {st:List SF} {cells:List Value} (ho:Own w 134 6 sv (st.length+1) cells) (hr:zH F w (jM (x::st).reverse) cells) :
 ∃ g c bv a2 c2 yv ea ec cells1 tl,sv=.slice (some ⟨g,0,none⟩) (st.length+1) c/\st.length+1<=c/\w.cell? ⟨g,st.length*6,none⟩=some (str [])/\w.cell? ⟨g,st.length*6+1,none⟩=some (.int .i64 bv)/\w.cell? ⟨g,st.length*6+2,none⟩=some (.slice a2 x.ss.length c2) /\
   w.cell? ⟨g,st.length*6+3,none⟩=some yv/\w.cell? ⟨g,st.length*6+4,none⟩=some (.slice ea x.env.length ec)/\w.cell? ⟨g,st.length*6+5,none⟩=some (.int .i64 (x.opens:Nat))/\cells=cells1++tl/\cells1.length=st.length*6 /\
   zH F w (jM st.reverse) cells1/\Rep F w (.sl 80 4 2 (zl [x.yes,x.no])) yv/\Rep F w (.sl 136 9 x.env.length (kU x.env)) (.slice ea x.env.length ec):=by
 rw [List.reverse_cons,uT] at hr
 have hs:=hr.split
 rw [xO,List.length_reverse] at hs
 obtain ⟨h1,h2⟩:=hs
 simp only [jM,List.append_nil] at h2
 rw [encSF] at h2
 obtain ⟨k1,k2⟩:=h2.split
 rw [qz] at k1 k2
 have k1':=k1
 obtain ⟨bv,a2,c2,a3,c3,e1,_,hyy⟩:=jw k1
 simp only [zV,zF,zj] at k2
 obtain ⟨x1,_,e2,q2,_,_,rfl,rfl,rfl⟩:=k2
 obtain ⟨ea,ec,rfl⟩:∃ a c,x1=.slice a x.env.length c:=by
  have h:=q2;rw [kM] at h;obtain ⟨_,a,c,e,_⟩:=h;exact ⟨a,c,e⟩
 have oW:cells.drop (st.length*6)=[str [],.int .i64 bv,.slice a2 x.ss.length c2,.slice a3 2 c3]++[.slice ea x.env.length ec,.int .i64 (x.opens:Nat)]:=by
  have e1':List.take 4 (cells.drop (st.length*6))=[str [],.int .i64 bv,.slice a2 x.ss.length c2,.slice a3 2 c3]:=e1
  rw [<- e1',<- e2,List.take_append_drop]
 have fv:cells=cells.take (st.length*6)++cells.drop (st.length*6):=(List.take_append_drop _ _).symm
 have hl:(cells.take (st.length*6)).length=st.length*6:=by
  have:=ho.1;rw [List.length_take];omega
 have at6:∀ (j:Nat) (u:Value),([str [],.int .i64 bv,.slice a2 x.ss.length c2,.slice a3 2 c3]++[.slice ea x.env.length ec,.int .i64 (x.opens:Nat)])[j]? = some u->cells[st.length*6+j]? = some u:=by
  intro j u hj
  rw [fv,List.getElem?_append_right (by omega),hl,Nat.add_sub_cancel_left,oW];exact hj
 obtain ⟨g,c,es,rW⟩:=ho.at (at6 0 _ rfl)
 subst es
 have get:∀ (j:Nat) (u:Value),([str [],.int .i64 bv,.slice a2 x.ss.length c2,.slice a3 2 c3]++[.slice ea x.env.length ec,.int .i64 (x.opens:Nat)])[j]? = some u->w.cell? ⟨g,st.length*6+j,none⟩=some u:=by
  intro j u hj
  obtain ⟨g',c',es,hc⟩:=ho.at (at6 j u hj)
  simp only [Value.slice.injEq,Option.some.injEq,Addr.mk.injEq,and_true,true_and] at es
  obtain ⟨rfl,rfl⟩:=es
  exact hc
 have d9:st.length+1<=c:=by
  rcases ho.2 with ⟨e,_⟩ | ⟨g',cap,cur,e,_,_,nZ,_⟩
  ·simp at e
  ·simp only [Value.slice.injEq,true_and] at e
   rw [e.2];exact nZ
 exact ⟨g,c,bv,a2,c2,_,ea,ec,_,_,rfl,d9,get 0 _ rfl,get 1 _ rfl,get 2 _ rfl,get 3 _ rfl,get 4 _ rfl,get 5 _ rfl,fv,hl,h1,hyy,q2⟩
def j9 (B:Nat) (x0 x1 x2 x3:Value) (w:World):World:=(((w.setCell ⟨B,0,none⟩ x0).setCell ⟨B,1,none⟩ x1).setCell ⟨B,2,none⟩ x2).setCell ⟨B,3,none⟩ x3
theorem boxPut_at {B:Nat} {y0 y1 y2 y3:Value} {T:TypeId} {w:World} (h:w.heap[B]? = some (.cells #[y0,y1,y2,y3] T (0,0))) (x0 x1 x2 x3:Value):(j9 B x0 x1 x2 x3 w).heap[B]? = some (.cells #[x0,x1,x2,x3] T (0,0)):=by
 unfold j9;rw [zu (zu (zu (zu h)))];rfl
theorem uJ {m:Nat->Prop} {B:Nat} {w w':World} (h:But m w w') (hB:m B) (x0 x1 x2 x3:Value):But m w (j9 B x0 x1 x2 x3 w') :=
 (((h.setCell (p:=⟨B,0,none⟩) (.inl hB) _).setCell (p:=⟨B,1,none⟩) (.inl hB) _).setCell (p:=⟨B,2,none⟩) (.inl hB) _).setCell (p:=⟨B,3,none⟩) (.inl hB) _
theorem pC {keep:Bool} {most ra:Nat} {rQ rZ:Value} {w:World} {B:Nat} {b b':Bd} {env env':List SC} {opens opens':Nat} {st st':List SF} {log log':List (Bs×Int)} {mv pt mv' pt':Value} {v v':Int} {x2 x3 ic l_ ev ev' sv sv':Value} {cells cells':List Value} {wr w1 w6:World} {y0 y1 y2 y3:Value}
 (h:GoAt keep most ra rQ rZ w B b env opens st log mv pt v x2 x3 ev sv cells wr)
 (n9:But (Chg ra mv pt B sv) wr w6) (eP:But (fun b=>sv.ownBlock=some b) w1 w6) (dX:RS keep most ra log' mv' pt' w1) (hz:wr.heap.size<=w1.heap.size)
 (hn:∀ i,MBk ra mv' pt' i->MBk ra mv pt i\/wr.heap.size<=i) (hB6:w6.heap[B]? = some (.cells #[y0,y1,y2,y3] 80 (0,0)))
 (hos:Own w6 134 6 sv' st'.length cells') (eG:∀ g,sv'.ownBlock=some g->sv.ownBlock=some g\/w1.heap.size<=g)
 {F6:Nat->Prop} (ad:∀ i,F6 i->i<w6.heap.size->¬ Chg ra mv' pt' B sv' i)
 (nG:zH F6 w6 (kT b') [str (z8 b'),.int .i64 v',ic,l_]) (hre:Rep F6 w6 (.sl 136 9 env'.length (kU env')) ev') (BH:zH F6 w6 (jM st'.reverse) cells') :
 GoAt keep most ra rQ rZ w B b' env' opens' st' log' mv' pt' v' ic l_ ev' sv' cells' (j9 B (str (z8 b')) (.int .i64 v') ic l_ w6):=by
 have ia:=zZ h.box.blk
 have rJ:∀ g,sv.ownBlock=some g->g<wr.heap.size:=fun g hg=>h.own.lt hg
 have mE:∀ i,MBk ra mv' pt' i->i<w1.heap.size:=fun i hi=>dX.lt hi
 have fq:∀ i,MBk ra mv' pt' i->i≠B:=by
  rintro i hi rfl
  rcases hn _ hi with h' | h'
  ·exact h.bB.2 h'
  ·omega
 have tF:∀ i,MBk ra mv' pt' i->sv.ownBlock≠some i:=by
  intro i hi hs
  rcases hn _ hi with h' | h'
  ·exact (h.sB i hs).2.2 h'
  ·have:=rJ i hs;omega
 have By:∀ g,sv'.ownBlock=some g->g≠B:=by
  rintro g hg rfl
  rcases eG _ hg with h' | h'
  ·exact (h.sB _ h').2.1 rfl
  ·omega
 have uZ:∀ {i:Nat} {o:Obj},i≠B->w6.heap[i]? = some o->(j9 B (str (z8 b')) (.int .i64 v') ic l_ w6).heap[i]? = some o:=by
  intro i o hi ho
  have:=(uJ (But.refl (fun i=>i=B) w6) rfl (str (z8 b')) (.int .i64 v') ic l_).block i (zZ ho) hi
  rw [this];exact ho
 have fi:∀ (i:Nat) (o:Obj),F6 i->w6.heap[i]? = some o->¬ Chg ra mv' pt' B sv' i/\(j9 B (str (z8 b')) (.int .i64 v') ic l_ w6).heap[i]? = some o:=by
  intro i o hi ho
  have nZ:=ad i hi (zZ ho)
  exact ⟨nZ,uZ (fun e=>nZ (.inr (.inl e))) ho⟩
 have cS:But (Chg ra mv pt B sv) wr (j9 B (str (z8 b')) (.int .i64 v') ic l_ w6):=uJ n9 (.inr (.inl rfl)) _ _ _ _
 have s8:=h.but.size
 refine ⟨?_,⟨boxPut_at hB6 _ _ _ _,(Rep.keep fi).2 _ _ nG⟩,(Rep.keep fi).1 _ _ hre,hos.keep fun g o hg ho=>uZ (By g hg) ho,(Rep.keep fi).2 _ _ BH,?_,?_,⟨h.bB.1,fun hi=>fq _ hi rfl⟩,fun g' dF=>⟨?_,By g' dF,fun hi=>?_⟩⟩
 ·refine dX.but (m:=fun i=>sv.ownBlock=some i\/i=B) (uJ (eP.weak fun i _ hi=>.inl hi) (.inr rfl) _ _ _ _) fun b hb e=>?_
  rcases e with e | e
  ·exact tF b hb e
  ·exact fq b hb e
 ·refine h.but.trans' cS fun i hi hh=>?_
  rcases hh with hh | hh | hh
  ·rcases h.new i hh with h' | h'
   ·exact h'
   ·omega
  ·subst hh;have:=h.bB.1;omega
  ·have:=(h.sB i hh).1;omega
 ·intro i hi
  rcases hn i hi with h' | h'
  ·exact h.new i h'
  ·exact .inr (by omega)
 ·rcases eG g' dF with h' | h'
  ·exact (h.sB g' h').1
  ·omega
 ·rcases eG g' dF with h' | h'
  ·exact tF g' hi h'
  ·have:=mE g' hi;omega
theorem GoAt.drew {keep:Bool} {most ra:Nat} {rQ rZ:Value} {w:World} {B:Nat} {b:Bd} {env:List SC} {opens:Nat} {st:List SF} {log:List (Bs×Int)} {mv pt:Value} {v:Int} {x2 x3 ev sv:Value} {cells:List Value} {wr:World} (h:GoAt keep most ra rQ rZ w B b env opens st log mv pt v x2 x3 ev sv cells wr) :
 GoAt keep most ra rQ rZ w B b env opens st log mv pt v x2 x3 ev sv cells wr.drew :=
 ⟨h.rs.drew,⟨h.box.blk,h.box.rep.drew⟩,h.re.drew,h.own.drew,h.rf.drew,h.but.drew,h.new,h.bB,h.sB⟩
def GoPost (keep:Bool) (R:Option (UInt8×List (Bs×Int))) (most ra:Nat) (mv pt:Value) (w:World) (en:Ending) (w':World):Prop :=
 ∃ mv' pt' log' o,en=.returned (str o)/\But (MBk ra mv pt) w w'/\RS keep most ra log' mv' pt' w'/\(∀ i,MBk ra mv' pt' i->MBk ra mv pt i\/w.heap.size<=i)/\(R=none->most<log'.length)/\(∀ c l,R=some (c,l)->o=[c]/\l=log'/\log'.length<=most)
def GoRel (keep:Bool) (R:Option (UInt8×List (Bs×Int))) (most ra:Nat) (rQ rZ:Value) (w:World) (B:Nat) (ev ov sv:Value) (wr:World):Prop :=
 ∃ b env opens st log mv pt v a2 n2 c2 a3 n3 c3 cells,ov=.int .i64 (opens:Nat)/\GoPl keep R most b env opens st log/\GoAt keep most ra rQ rZ w B b env opens st log mv pt v (.slice a2 n2 c2) (.slice a3 n3 c3) ev sv cells wr
def leftG (most ra:Nat) (wr:World):Nat:=match wr.heap[ra]? with
 | some (.cells c _ _)=>most+2-(intOf (c.getD 2 (.int .i64 0))).toNat
 | _=>0
theorem wN {keep:Bool} {most ra:Nat} {log:List (Bs×Int)} {mv pt:Value} {w:World} (h:RS keep most ra log mv pt w):leftG most ra w=most+2-log.length:=by
 unfold leftG
 rw [h.blk]
 simp [intOf]
theorem go_start {keep:Bool} {most ra:Nat} {log:List (Bs×Int)} {mv pt:Value} {w:World} {b:Bd} {env:List SC} {opens:Nat} {v:Int} {x2 x3 ev:Value}
 (h:RS keep most ra log mv pt w) (rb:zH (fun i=>¬ MBk ra mv pt i) w (kT b) [str (z8 b),.int .i64 v,x2,x3]) (re:Rep (fun i=>¬ MBk ra mv pt i) w (.sl 136 9 env.length (kU env)) ev) :
 GoAt keep most ra mv pt w w.heap.size b env opens [] log mv pt v x2 x3 ev (.slice (some ⟨w.heap.size+1,0,none⟩) 0 0) [] ((w.alloc (.cells #[str (z8 b),.int .i64 v,x2,x3] 80)).alloc (.cells #[] 134)):=by
 have hb:Below w.heap.size w ((w.alloc (.cells #[str (z8 b),.int .i64 v,x2,x3] 80)).alloc (.cells #[] 134)):=((cE _ _).alloc (cC _) _).alloc (by rw [zK];omega) _
 have cL:∀ i,MBk ra mv pt i->i<w.heap.size:=fun i hi=>h.lt hi
 have hk:∀ (i:Nat) (o:Obj),¬ MBk ra mv pt i->w.heap[i]? = some o->¬ Chg ra mv pt w.heap.size (.slice (some ⟨w.heap.size+1,0,none⟩) 0 0) i/\((w.alloc (.cells #[str (z8 b),.int .i64 v,x2,x3] 80)).alloc (.cells #[] 134)).heap[i]? = some o:=by
  intro i o hi ho
  have:=zZ ho
  refine ⟨?_,zY (zY ho)⟩
  rintro (h' | h' | h')
  ·exact hi h'
  ·omega
  ·simp [Value.ownBlock] at h';omega
 refine ⟨h.below hb,⟨zY (zT _ _),(Rep.keep hk).2 _ _ rb⟩,(Rep.keep hk).1 _ _ re,Own.litAt #[] 0 _ (by simp) (by decide) rfl,zF.2 rfl,But.ofBelow hb,fun i hi=>.inl hi,⟨cC _,fun hi=>by have:=cL _ hi;omega⟩,fun g hg=>?_⟩
 simp [Value.ownBlock] at hg
 subst hg
 exact ⟨by omega,by omega,fun hi=>by have:=cL _ hi;omega⟩
theorem askbox {F:Nat->Prop} {w:World} {v:Nat} {ss:List Bd} {y n:Bd} {x0 x1 x2 x3:Value} (h:zH F w (kT (.ask v ss y n)) [x0,x1,x2,x3]) :
 x1=.int .i64 (v:Nat)/\(∃ a c,x2=.slice a ss.length c)/\(∃ a c,x3=.slice a 2 c)/\Rep F w (.sl 80 4 ss.length (zl ss)) x2/\Rep F w (.sl 80 4 2 (zl [y,n])) x3:=by
 rw [wk] at h
 obtain ⟨u0,r0,e0,h0,h⟩:=zV.1 h
 simp only [List.cons.injEq] at e0
 obtain ⟨rfl,rfl⟩:=e0
 obtain ⟨u1,r1,e1,h1,h⟩:=zV.1 h
 simp only [List.cons.injEq] at e1
 obtain ⟨rfl,rfl⟩:=e1
 obtain ⟨u2,r2,e2,h2,h⟩:=zV.1 h
 simp only [List.cons.injEq] at e2
 obtain ⟨rfl,rfl⟩:=e2
 obtain ⟨u3,r3,e3,h3,h⟩:=zV.1 h
 simp only [List.cons.injEq] at e3
 obtain ⟨rfl,rfl⟩:=e3
 refine ⟨zj.1 h1,?_,?_,h2,h3⟩
 ·rw [kM] at h2;obtain ⟨_,a,c,e,_⟩:=h2;exact ⟨a,c,e⟩
 ·rw [kM] at h3;obtain ⟨_,a,c,e,_⟩:=h3;exact ⟨a,c,e⟩
theorem Tryz.infoFS:(Tryz.prog.info? 134).map (fun i=>(i.zero,i.size,i.bytes))=some (some (.agg #[str [],.int .i64 0,.slice none 0 0,.slice none 0 0,.slice none 0 0,.int .i64 0]),6,104):=by kernel_rfl
theorem runS_u (keep:Bool) (f:Nat) (log:List (Bs×Int)) (env:List SC) (opens:Nat) (st:List SF):j0 keep f log (.leaf 117) env opens st=some (117,log):=by cases f <;> simp [j0]
theorem runS_end {keep:Bool} {c:UInt8} (hc:c≠117) (f:Nat) (log:List (Bs×Int)) (env:List SC) (opens:Nat):j0 keep f log (.leaf c) env opens []=if f=0 then none else some (c,log++[(c::qy keep log opens,(opens:Int))]):=by cases f <;> simp [j0,hc]
theorem kF {m:Nat->Prop} {w w':World} {a:Addr} {u:Value} (hb:But m w w') (ha:w.cell? a=some u) (na:¬ m a.block):w'.cell? a=some u:=(hb.cell (cD w _ ha) na).trans ha
theorem cells1 {m:Nat->Prop} {w w':World} {a:Addr} {u:Value} (hb:But m w w') (ha:w.cell? a=some u) (na:¬ m a.block):w'.cell? a=some u:=(hb.cell (cD w _ ha) na).trans ha
set_option maxRecDepth 100000 in
theorem l4Go_any (keep:Bool) (HM:cX keep) (HP:cU keep) (R:Option (UInt8×List (Bs×Int))) (most ra:Nat) (b:Bd) (env:List SC) (opens:Nat) (log:List (Bs×Int)) (mv pt:Value) (v:Int) (a2:Option Addr) (n2 c2:Nat) (a3:Option Addr) (n3 c3:Nat) (ev:Value) (w:World)
 (h:RS keep most ra log mv pt w) (pl:GoPl keep R most b env opens [] log) (rb:zH (fun i=>¬ MBk ra mv pt i) w (kT b) [str (z8 b),.int .i64 v,.slice a2 n2 c2,.slice a3 n3 c3])
 (re:Rep (fun i=>¬ MBk ra mv pt i) w (.sl 136 9 env.length (kU env)) ev) (eQ:most<=100000) :
 Calls Tryz.prog 33 #[.pointer (some ⟨ra,0,none⟩),.agg #[str (z8 b),.int .i64 v,.slice a2 n2 c2,.slice a3 n3 c3],ev,.int .i64 (opens:Nat)] w (GoPost keep R most ra mv pt w):=by
 have HMM:=cH HM;have HPP:=cH HP
 have dI:=go_start (opens:=opens) h rb re
 have aD:=cH (cB pl dI)
 clear HM HP h pl rb re dI
 generalize hat0:z8 b=s0 at *
 go_enter Tryz.func33,Tryz.ntmps33
 go_wp2_with fail
 generalize hB:w.heap.size=B at *
 go_loopw [2,3,9] (fun e o s wr=>GoRel keep R most ra mv pt w B e o s wr) (fun _ _ _ wr=>leftG most ra wr)
 case atStart=>exact ⟨b,env,opens,[],log,mv,pt,v,a2,n2,c2,a3,n3,c3,[],rfl,aD.out.1,aD.out.2⟩
 case round =>
  clear aD hat0
  obtain ⟨b,env,opens,st,log,dZ,c_,v,a2,n2,c2,a3,n3,c3,cells,rfl,dU,hat⟩:=hrel
  have dL:=cH dU;have dE:=cH hat
  have sw:=wN hat.rs
  have cL:=zZ hat.box.blk
  have b0:wr.cell? ⟨B,0,none⟩=some (str (z8 b)):=by simp [World.cell?,hat.box.blk]
  have b1:wr.cell? ⟨B,1,none⟩=some (.int .i64 v):=by simp [World.cell?,hat.box.blk]
  have Dn:=hat.rs.bad
  have HX:=cH sw;clear sw dU hat
  by_cases sF:most<log.length
  ·rw [decide_eq_true sF] at Dn
   have At:=cH sF;clear sF
   go_wp2_with fail
   go_ret
   have hR:R=none:=by
    rcases dL.out.goes with ⟨h1,_⟩ | ⟨_,_,h2⟩
    ·have:=At.out;omega
    ·exact h2
   exact ⟨dZ,c_,log,[117],rfl,dE.out.but,dE.out.rs,dE.out.new,fun _=>At.out,fun c l h=>by rw [hR] at h;simp at h⟩
  ·rw [decide_eq_false sF] at Dn
   have eX:log.length<=most:=by omega
   have At:=cH sF;clear sF
   cases b with
   | leaf c =>
     by_cases fS:c=117
     ·subst fS
      have hR:R=some (117,log):=by
       rcases dL.out.goes with ⟨_,h1⟩ | ⟨h1,_,_⟩
       ·rw [h1,runS_u]
       ·omega
      have HR:=cH hR;clear hR
      have b0':wr.cell? ⟨B,0,none⟩=some (.string ⟨#[117]⟩):=b0
      clear b0
      go_wp2_with fail
      go_ret
      refine ⟨dZ,c_,log,[117],rfl,dE.out.but,dE.out.rs,dE.out.new,fun h=>by rw [HR.out] at h;simp at h,fun c l h=>?_⟩
      rw [HR.out] at h
      simp only [Option.some.injEq,Prod.mk.injEq] at h
      obtain ⟨rfl,rfl⟩:=h
      exact ⟨rfl,rfl,eX⟩
     ·have Ab:=dE.out.box.blk
      obtain ⟨S,hS⟩:=zzM (z8 (.leaf c))
      have Ah:S=[c]:=hS
      rw [<- hS] at b0
      have e117:(S == [117])=false:=by rw [beq_eq_false_iff_ne,Ah];simpa using fS
      have ene:(S != [])=true:=by rw [bne_iff_ne,Ah];simp
      have ene2:(!S.isEmpty)=true:=by rw [Ah];rfl
      obtain ⟨P,hP⟩:=zzM (qy keep log opens)
      have dU:=uG keep dL.out.lok opens
      rw [<- hP] at dU
      have er:=fun w0=>kG (P:=Tryz.prog) S P (by rw [Ah];simp;omega) w0
      have rJ:(S++P).length<=1000000:=by rw [Ah];simp;omega
      have BX:∃ q p,log[opens]? = some (q,p)/\1<=q.length/\q.length<=1000000:=by
       have h:=dL.out.opn
       obtain ⟨x,hx⟩:∃ x,log[opens]? = some x:=⟨log[opens],by simp [h]⟩
       obtain ⟨q,p⟩:=x
       have:=dL.out.lok opens q p hx
       exact ⟨q,p,hx,this.1,by omega⟩
      have CP:=cH (HPP.out most ra log dZ c_ opens wr.drew dE.out.rs.drew eX eQ BX)
      rw [<- hP] at CP
      have CM:=cH (HMM.out most ra log dZ c_ (S++P) (opens:Int) wr.drew dE.out.rs.drew eX eQ rJ)
      have rK:¬ MBk ra dZ c_ B:=dE.out.bB.2
      have HS:=cH (cB Ah (cB hP fS));clear hS Ah hP fS rJ BX Ab
      go_wp2_with fail
      go_region_held3 (fun w'=>w'.cell? ⟨B,0,none⟩=some (str S))
       (first
        | exact b0
        | exact cells1 cT b0 rK
        | go_keep)
       (first
        | (go_at_call 32;refine CM.out.mono ?_;rintro en w1 ⟨dN,dM,rfl,nw,dH,dY⟩;have cT:=but_ud nw;clear nw)
        | (go_at_call 54;refine CP.out.mono ?_;rintro en w5 ⟨rfl,e5⟩;subst e5))
      have d0:=cells1 cT b0 rK
      have eS:=cH (cB cT (cB dH dY));clear cT dH dY b0 b1 Dn CP CM er
      obtain ⟨sa,sc,es⟩:=dE.out.own.slice
      subst es
      have lG:(log++[(S++P,(opens:Int))]).length=log.length+1:=by simp
      cases st with
      | nil =>
        have hR:R=if most-log.length=0 then none else some (c,log++[(c::qy keep log opens,(opens:Int))]):=by
         rcases dL.out.goes with ⟨_,h1⟩ | ⟨h1,_,_⟩
         ·rw [h1,runS_end HS.out.2.2]
         ·omega
        have HR:=cH hR;have HL1:=cH lG;clear hR lG
        rw [List.length_nil]
        go_wp2_with fail
        go_ret
        have mF:S++P=c::qy keep log opens:=by rw [HS.out.1,HS.out.2.1];rfl
        refine ⟨dN,dM,_,S,rfl,dE.out.but.trans' eS.out.1 fun i hi hh=>?_,eS.out.2.1,fun i hi=>?_,fun h=>?_,fun c' l h=>?_⟩
        ·rcases dE.out.new i hh with h | h
         ·exact h
         ·omega
        ·rcases eS.out.2.2 i hi with h | h
         ·exact dE.out.new i h
         ·exact .inr (by rw [hB];exact cR (Nat.le_of_lt cL) h)
        ·rw [HR.out] at h
         split at h
         ·rw [HL1.out];omega
         ·simp at h
        ·rw [HR.out] at h
         split at h
         ·simp at h
         ·simp only [Option.some.injEq,Prod.mk.injEq] at h
          obtain ⟨rfl,rfl⟩:=h
          refine ⟨HS.out.1,by rw [mF],by rw [HL1.out];omega⟩
      | cons x st =>
        obtain ⟨g,gc,bv,ta2,tc2,yv,ea,ec,cells1,tl,es,d9,k0,k1,k2,k3,k4,k5,fv,nA,dH,ry,re⟩:=top_at dE.out.own dE.out.rf
        simp only [List.length_cons,Value.slice.injEq,true_and] at es
        obtain ⟨rfl,rfl⟩:=es
        have hk:∃ k:Nat,k<2/\(k=1↔c=102):=by
         by_cases h:c=102
         ·exact ⟨1,by omega,by simp [h]⟩
         ·exact ⟨0,by omega,by simp [h]⟩
        obtain ⟨k,sh,hkc⟩:=hk
        obtain ⟨pb,po,pc,nv,na2,nc2,na3,nc3,e,hpF,hpl2,m0,m1,m2,m3,BF⟩:=pair_at ry k sh
        subst e
        have eG:=dE.out.sB g rfl
        have q0:=kF eS.out.1 k0 eG.2.2
        have q1:=kF eS.out.1 k1 eG.2.2
        have q2:=kF eS.out.1 k2 eG.2.2
        have q3:=kF eS.out.1 k3 eG.2.2
        have q4:=kF eS.out.1 k4 eG.2.2
        have q5:=kF eS.out.1 k5 eG.2.2
        have hpM:¬ MBk ra dZ c_ pb:=fun h=>hpF (.inl h)
        have p0:=kF eS.out.1 m0 hpM
        have p1:=kF eS.out.1 m1 hpM
        have p2:=kF eS.out.1 m2 hpM
        have p3:=kF eS.out.1 m3 hpM
        generalize tE:(if k=1 then x.no else x.yes)=nx at *
        have HF:=cH (cB fv (cB nA (cB dH (cB re (cB BF (cB tE (cB hkc d9)))))))
        have fx:=dL.out.stl
        rw [List.length_cons] at fx ⊢
        clear fv nA dH ry re BF tE hkc d9 k0 k1 k2 k3 k4 k5 m0 m1 m2 m3
        have rA:(st.length:Int)<=(sc:Int):=by have:=HF.out.2.2.2.2.2.2.2;omega
        have hzB1:B<w1.heap.size:=cD w1 _ d0
        have hzpb:pb<w1.heap.size:=cD w1 _ p0
        rcases (by omega:k=0\/k=1) with rfl | rfl
        ·have hd:(S == [102])=false:=by
          rw [beq_eq_false_iff_ne,HS.out.1];have:=HF.out.2.2.2.2.2.2.1;simpa using this
         simp only [Nat.zero_mul,Nat.add_zero] at p0 p1 p2 p3
         go_upto_region 15 with (fail)
         obtain ⟨W2,dQ⟩:=zzN (w1.alloc (.cells #[str [],.int .i64 bv,.slice ta2 x.ss.length tc2,.slice (some ⟨pb,po,none⟩) 2 pc,.slice ea x.env.length ec,.int .i64 (x.opens:Nat)] 134))
         have t3:W2.cell? ⟨w1.heap.size,3,none⟩=some (.slice (some ⟨pb,po,none⟩) 2 pc):=by rw [<- dQ];simp
         have t4:W2.cell? ⟨w1.heap.size,4,none⟩=some (.slice ea x.env.length ec):=by rw [<- dQ];simp
         have t5:W2.cell? ⟨w1.heap.size,5,none⟩=some (.int .i64 (x.opens:Nat)):=by rw [<- dQ];simp
         have r0:W2.cell? ⟨pb,po,none⟩=some (str (z8 nx)):=by rw [<- dQ];exact zX p0
         have r1:W2.cell? ⟨pb,po+1,none⟩=some (.int .i64 nv):=by rw [<- dQ];exact zX p1
         have r2:W2.cell? ⟨pb,po+2,none⟩=some (.slice na2 (qU nx).length nc2):=by rw [<- dQ];exact zX p2
         have r3:W2.cell? ⟨pb,po+3,none⟩=some (.slice na3 (qr nx).length nc3):=by rw [<- dQ];exact zX p3
         have db:W2.heap[B]? = some (.cells #[str (z8 (.leaf c)),.int .i64 v,.slice a2 n2 c2,.slice a3 n3 c3] 80 (0,0)):=by
          rw [<- dQ];exact zY (by rw [eS.out.1.block B cL rK];exact dE.out.box.blk)
         have Bl:W2.heap.size=w1.heap.size+1:=by rw [<- dQ];exact zK _ _
         have Dp:Below w1.heap.size w1 W2:=by rw [<- dQ];exact (cE _ _).alloc (cC _) _
         have u0:W2.cell? ⟨B,0,none⟩=some (str (z8 (.leaf c))):=by simp [World.cell?,db]
         have u1:W2.cell? ⟨B,1,none⟩=some (.int .i64 v):=by simp [World.cell?,db]
         have u2:W2.cell? ⟨B,2,none⟩=some (.slice a2 n2 c2):=by simp [World.cell?,db]
         have u3:W2.cell? ⟨B,3,none⟩=some (.slice a3 n3 c3):=by simp [World.cell?,db]
         have f0:W2.frozen? ⟨B,0,none⟩=false:=by simp [World.frozen?,db]
         have f1:W2.frozen? ⟨B,1,none⟩=false:=by simp [World.frozen?,db]
         have f2:W2.frozen? ⟨B,2,none⟩=false:=by simp [World.frozen?,db]
         have f3:W2.frozen? ⟨B,3,none⟩=false:=by simp [World.frozen?,db]
         rw [dQ]
         have eL:=cH (cB dQ (cB db (cB Bl Dp)));clear dQ db Bl Dp d0 q0 q1 q2 q3 q4 q5 p0 p1 p2 p3
         go_upto_region 16 with (fail)
         obtain ⟨W,hW⟩:=zzN (j9 B (str (z8 nx)) (.int .i64 nv) (.slice na2 (qU nx).length nc2) (.slice na3 (qr nx).length nc3) W2)
         have DO:w1.heap.size≠B:=by omega
         have cO:But (fun i=>i=B) W2 W:=by rw [<- hW];exact uJ (m:=fun i=>i=B) (But.refl _ _) rfl _ _ _ _
         have t4':=kF cO t4 DO
         have t5':=kF cO t5 DO
         have aU:=hW
         unfold j9 at aU
         rw [aU]
         have mF:S++P=c::qy keep log opens:=by rw [HS.out.1,HS.out.2.1];rfl
         have nU:RS keep most ra (log++[(c::qy keep log opens,(opens:Int))]) dN dM w1:=by have:=eS.out.2.1;rw [mF] at this;exact this
         have dO:=gopl_back dL.out HS.out.2.2 eX
         have Cw:(if c=102 then x.no else x.yes)=nx:=by
          rw [<- HF.out.2.2.2.2.2.1]
          by_cases h:c=102
          ·rw [if_pos h,if_pos (HF.out.2.2.2.2.2.2.1.2 h)]
          ·rw [if_neg h,if_neg (fun e=>h (HF.out.2.2.2.2.2.2.1.1 e))]
         rw [Cw] at dO
         have eK:=eS.out.1.size
         have s8:wr.heap.size<=w1.heap.size:=eK
         have keepF:∀ (i:Nat) (o:Obj),¬ Chg ra dZ c_ B (.slice (some ⟨g,0,none⟩) (st.length+1) sc) i->wr.heap[i]? = some o->(¬ Chg ra dZ c_ B (.slice (some ⟨g,0,none⟩) (st.length+1) sc) i/\i<wr.heap.size)/\W2.heap[i]? = some o:=by
          intro i o hi ho
          have h1:=zZ ho
          have h2:w1.heap[i]? = some o:=by rw [eS.out.1.block i h1 (fun h=>hi (.inl h))];exact ho
          exact ⟨⟨hi,h1⟩,by rw [eL.out.2.2.2.block i (zZ h2)];exact h2⟩
         have cw:Own W2 134 6 (.slice (some ⟨g,0,none⟩) st.length sc) st.length cells1:=by
          have hs:=dE.out.own.short (m:=st.length) (by simp) (by simp)
          rw [HF.out.1,<- HF.out.2.1,List.take_left] at hs
          refine hs.keep fun g' o dF ho=>?_
          have e:g'=g:=by simpa [Value.ownBlock] using dF.symm
          subst e
          have h2:w1.heap[g']? = some o:=by rw [eS.out.1.block g' (zZ ho) eG.2.2];exact ho
          rw [eL.out.2.2.2.block g' (zZ h2)];exact h2
         have n9:But (Chg ra dZ c_ B (.slice (some ⟨g,0,none⟩) (st.length+1) sc)) wr W2:=(eS.out.1.weak fun i _ hi=>.inl hi).trans' (But.ofBelow (m:=fun _=>False) eL.out.2.2.2) (fun _ _ h=>h.elim)
         have ad:∀ i,(¬ Chg ra dZ c_ B (.slice (some ⟨g,0,none⟩) (st.length+1) sc) i/\i<wr.heap.size)->i<W2.heap.size->¬ Chg ra dN dM B (.slice (some ⟨g,0,none⟩) st.length sc) i:=by
          rintro i ⟨h1,h2⟩ _ (h | h | h)
          ·rcases eS.out.2.2 i h with h' | h'
           ·exact h1 (.inl h')
           ·have h3:wr.heap.size<=i:=h'
            omega
          ·exact h1 (.inr (.inl h))
          ·exact h1 (.inr (.inr h))
         have ch:=pC (opens':=x.opens) (b':=nx) dE.out n9 (But.ofBelow eL.out.2.2.2) nU s8 eS.out.2.2 eL.out.2.1 cw (fun g' h'=>.inl h') ad ((Rep.keep keepF).2 _ _ HF.out.2.2.2.2.1) ((Rep.keep keepF).1 _ _ HF.out.2.2.2.1) ((Rep.keep keepF).2 _ _ HF.out.2.2.1)
         rw [hW] at ch
         have dR:=cH (cB dO ch)
         clear dO ch nU keepF cw n9 ad Cw mF aU hW cO t3 t4 t5 r0 r1 r2 r3 u0 u1 u2 u3 f0 f1 f2 f3
         go_wp2_with fail
         go_roundw
         case rel=>exact ⟨_,_,_,_,_,_,_,_,_,_,_,_,_,_,_,rfl,dR.out.1,dR.out.2⟩
         case measure =>
          rw [HX.out]
          have h:=wN dR.out.2.rs
          have hl:(log++[(c::qy keep log opens,(opens:Int))]).length=log.length+1:=by simp
          refine Nat.lt_of_le_of_lt (Nat.le_of_eq h) ?_
          rw [hl];omega
        ·have hd:(S == [102])=true:=by
          rw [beq_iff_eq,HS.out.1];have:=HF.out.2.2.2.2.2.2.1;simpa using this
         simp only [Nat.one_mul,Nat.add_assoc,Nat.reduceAdd] at p0 p1 p2 p3
         go_upto_region 15 with (fail)
         obtain ⟨W2,dQ⟩:=zzN (w1.alloc (.cells #[str [],.int .i64 bv,.slice ta2 x.ss.length tc2,.slice (some ⟨pb,po,none⟩) 2 pc,.slice ea x.env.length ec,.int .i64 (x.opens:Nat)] 134))
         have t3:W2.cell? ⟨w1.heap.size,3,none⟩=some (.slice (some ⟨pb,po,none⟩) 2 pc):=by rw [<- dQ];simp
         have t4:W2.cell? ⟨w1.heap.size,4,none⟩=some (.slice ea x.env.length ec):=by rw [<- dQ];simp
         have t5:W2.cell? ⟨w1.heap.size,5,none⟩=some (.int .i64 (x.opens:Nat)):=by rw [<- dQ];simp
         have r0:W2.cell? ⟨pb,po+4,none⟩=some (str (z8 nx)):=by rw [<- dQ];exact zX p0
         have r1:W2.cell? ⟨pb,po+5,none⟩=some (.int .i64 nv):=by rw [<- dQ];exact zX p1
         have r2:W2.cell? ⟨pb,po+6,none⟩=some (.slice na2 (qU nx).length nc2):=by rw [<- dQ];exact zX p2
         have r3:W2.cell? ⟨pb,po+7,none⟩=some (.slice na3 (qr nx).length nc3):=by rw [<- dQ];exact zX p3
         have db:W2.heap[B]? = some (.cells #[str (z8 (.leaf c)),.int .i64 v,.slice a2 n2 c2,.slice a3 n3 c3] 80 (0,0)):=by
          rw [<- dQ];exact zY (by rw [eS.out.1.block B cL rK];exact dE.out.box.blk)
         have Bl:W2.heap.size=w1.heap.size+1:=by rw [<- dQ];exact zK _ _
         have Dp:Below w1.heap.size w1 W2:=by rw [<- dQ];exact (cE _ _).alloc (cC _) _
         have u0:W2.cell? ⟨B,0,none⟩=some (str (z8 (.leaf c))):=by simp [World.cell?,db]
         have u1:W2.cell? ⟨B,1,none⟩=some (.int .i64 v):=by simp [World.cell?,db]
         have u2:W2.cell? ⟨B,2,none⟩=some (.slice a2 n2 c2):=by simp [World.cell?,db]
         have u3:W2.cell? ⟨B,3,none⟩=some (.slice a3 n3 c3):=by simp [World.cell?,db]
         have f0:W2.frozen? ⟨B,0,none⟩=false:=by simp [World.frozen?,db]
         have f1:W2.frozen? ⟨B,1,none⟩=false:=by simp [World.frozen?,db]
         have f2:W2.frozen? ⟨B,2,none⟩=false:=by simp [World.frozen?,db]
         have f3:W2.frozen? ⟨B,3,none⟩=false:=by simp [World.frozen?,db]
         rw [dQ]
         have eL:=cH (cB dQ (cB db (cB Bl Dp)));clear dQ db Bl Dp d0 q0 q1 q2 q3 q4 q5 p0 p1 p2 p3
         go_upto_region 16 with (fail)
         obtain ⟨W,hW⟩:=zzN (j9 B (str (z8 nx)) (.int .i64 nv) (.slice na2 (qU nx).length nc2) (.slice na3 (qr nx).length nc3) W2)
         have DO:w1.heap.size≠B:=by omega
         have cO:But (fun i=>i=B) W2 W:=by rw [<- hW];exact uJ (m:=fun i=>i=B) (But.refl _ _) rfl _ _ _ _
         have t4':=kF cO t4 DO
         have t5':=kF cO t5 DO
         have aU:=hW
         unfold j9 at aU
         rw [aU]
         have mF:S++P=c::qy keep log opens:=by rw [HS.out.1,HS.out.2.1];rfl
         have nU:RS keep most ra (log++[(c::qy keep log opens,(opens:Int))]) dN dM w1:=by have:=eS.out.2.1;rw [mF] at this;exact this
         have dO:=gopl_back dL.out HS.out.2.2 eX
         have Cw:(if c=102 then x.no else x.yes)=nx:=by
          rw [<- HF.out.2.2.2.2.2.1]
          by_cases h:c=102
          ·rw [if_pos h,if_pos (HF.out.2.2.2.2.2.2.1.2 h)]
          ·rw [if_neg h,if_neg (fun e=>h (HF.out.2.2.2.2.2.2.1.1 e))]
         rw [Cw] at dO
         have eK:=eS.out.1.size
         have s8:wr.heap.size<=w1.heap.size:=eK
         have keepF:∀ (i:Nat) (o:Obj),¬ Chg ra dZ c_ B (.slice (some ⟨g,0,none⟩) (st.length+1) sc) i->wr.heap[i]? = some o->(¬ Chg ra dZ c_ B (.slice (some ⟨g,0,none⟩) (st.length+1) sc) i/\i<wr.heap.size)/\W2.heap[i]? = some o:=by
          intro i o hi ho
          have h1:=zZ ho
          have h2:w1.heap[i]? = some o:=by rw [eS.out.1.block i h1 (fun h=>hi (.inl h))];exact ho
          exact ⟨⟨hi,h1⟩,by rw [eL.out.2.2.2.block i (zZ h2)];exact h2⟩
         have cw:Own W2 134 6 (.slice (some ⟨g,0,none⟩) st.length sc) st.length cells1:=by
          have hs:=dE.out.own.short (m:=st.length) (by simp) (by simp)
          rw [HF.out.1,<- HF.out.2.1,List.take_left] at hs
          refine hs.keep fun g' o dF ho=>?_
          have e:g'=g:=by simpa [Value.ownBlock] using dF.symm
          subst e
          have h2:w1.heap[g']? = some o:=by rw [eS.out.1.block g' (zZ ho) eG.2.2];exact ho
          rw [eL.out.2.2.2.block g' (zZ h2)];exact h2
         have n9:But (Chg ra dZ c_ B (.slice (some ⟨g,0,none⟩) (st.length+1) sc)) wr W2:=(eS.out.1.weak fun i _ hi=>.inl hi).trans' (But.ofBelow (m:=fun _=>False) eL.out.2.2.2) (fun _ _ h=>h.elim)
         have ad:∀ i,(¬ Chg ra dZ c_ B (.slice (some ⟨g,0,none⟩) (st.length+1) sc) i/\i<wr.heap.size)->i<W2.heap.size->¬ Chg ra dN dM B (.slice (some ⟨g,0,none⟩) st.length sc) i:=by
          rintro i ⟨h1,h2⟩ _ (h | h | h)
          ·rcases eS.out.2.2 i h with h' | h'
           ·exact h1 (.inl h')
           ·have h3:wr.heap.size<=i:=h'
            omega
          ·exact h1 (.inr (.inl h))
          ·exact h1 (.inr (.inr h))
         have ch:=pC (opens':=x.opens) (b':=nx) dE.out n9 (But.ofBelow eL.out.2.2.2) nU s8 eS.out.2.2 eL.out.2.1 cw (fun g' h'=>.inl h') ad ((Rep.keep keepF).2 _ _ HF.out.2.2.2.2.1) ((Rep.keep keepF).1 _ _ HF.out.2.2.2.1) ((Rep.keep keepF).2 _ _ HF.out.2.2.1)
         rw [hW] at ch
         have dR:=cH (cB dO ch)
         clear dO ch nU keepF cw n9 ad Cw mF aU hW cO t3 t4 t5 r0 r1 r2 r3 u0 u1 u2 u3 f0 f1 f2 f3
         go_wp2_with fail
         go_roundw
         case rel=>exact ⟨_,_,_,_,_,_,_,_,_,_,_,_,_,_,_,rfl,dR.out.1,dR.out.2⟩
         case measure =>
          rw [HX.out]
          have h:=wN dR.out.2.rs
          have hl:(log++[(c::qy keep log opens,(opens:Int))]).length=log.length+1:=by simp
          refine Nat.lt_of_le_of_lt (Nat.le_of_eq h) ?_
          rw [hl];omega
   | ask v' ss y n =>
     obtain ⟨e,hev,fd,rJ,iE⟩:=wa dL.out.oks dL.out.fit
     obtain ⟨e1,⟨_,_,e2⟩,⟨_,_,e3⟩,lB,oK⟩:=askbox dE.out.box.rep
     simp only [Value.int.injEq,true_and] at e1
     subst e1
     simp only [Value.slice.injEq] at e2 e3
     obtain ⟨rfl,rfl,rfl⟩:=e2
     obtain ⟨rfl,rfl,rfl⟩:=e3
     obtain ⟨eb,eo,ecap,bv,D2,D0,D1,DZ,ta,tc,ea,ec,eev,hFe,hle2,k0,k1,k2,k3,k4,k5,k6,k7,k8,nG,dy,hre⟩:=boundR_at dE.out.re hev
     subst eev
     have mY:=(List.getElem?_eq_some_iff.1 hev).1
     have hvl':(v':Int)<(env.length:Int):=by omega
     have tC:=okNs_at _ dL.out.oke _ _ hev
     have fU:e.begun<log.length/\e.arg<=15/\e.env.length<=16*log.length:=by obtain ⟨_,_,_,_,_⟩:=e;rw [okN] at tC;exact ⟨tC.2.2.2.1,tC.2.2.2.2,tC.2.2.1⟩
     have hss:ss.length<=15:=by have:=dL.out.nb;rw [nB] at this;exact this.1
     have b2:wr.cell? ⟨B,2,none⟩=some (.slice a2 ss.length c2):=by simp [World.cell?,dE.out.box.blk]
     have b3:wr.cell? ⟨B,3,none⟩=some (.slice a3 2 c3):=by simp [World.cell?,dE.out.box.blk]
     have fu:=dE.out.box.blk
     have rK:¬ MBk ra dZ c_ B:=dE.out.bB.2
     have mE:∀ i,MBk ra dZ c_ i->i<wr.heap.size:=fun i hi=>dE.out.rs.lt hi
     have hZ:=cH (cB hev (cB rJ (cB lB (cB nG (cB dy (cB hre (cB fu mE)))))))
     clear hev rJ lB nG dy hre fu mE oK fd iE tC
     have b0':wr.cell? ⟨B,0,none⟩=some (str []):=b0
     clear b0
     go_upto_region 19 with (fail)
     obtain ⟨W,hW⟩:=zzN (wr.alloc (.cells #[.int .i64 (-1),str (z8 e.body),.int .i64 bv,.slice D2 (qU e.body).length D0,.slice D1 (qr e.body).length DZ,.slice ta e.kind.args.length tc,.slice ea e.env.length ec,.int .i64 (e.begun:Nat),.int .i64 (e.arg:Nat)] 136))
     rw [hW]
     have cO:Below wr.heap.size wr W:=by rw [<- hW];exact (cE _ _).alloc (cC _) _
     have ni:W.heap.size=wr.heap.size+1:=by rw [<- hW];exact zK _ _
     have hQ:W.heap[wr.heap.size]? = some (.cells #[.int .i64 (-1),str (z8 e.body),.int .i64 bv,.slice D2 (qU e.body).length D0,.slice D1 (qr e.body).length DZ,.slice ta e.kind.args.length tc,.slice ea e.env.length ec,.int .i64 (e.begun:Nat),.int .i64 (e.arg:Nat)] 136 (0,0)):=by rw [<- hW];exact zT _ _
     have q7:W.cell? ⟨wr.heap.size,7,none⟩=some (.int .i64 (e.begun:Nat)):=by simp [World.cell?,hQ]
     have q8:W.cell? ⟨wr.heap.size,8,none⟩=some (.int .i64 (e.arg:Nat)):=by simp [World.cell?,hQ]
     have rL:=dE.out.rs.below cO
     obtain ⟨P,hP⟩:=zzM (qy keep log e.begun)
     obtain ⟨D,hD⟩:=zzM (dec e.arg)
     have dU:=uG keep dL.out.lok e.begun
     rw [<- hP] at dU
     have AV:D.length<=2:=by rw [hD];exact qn 1 _ (by omega)
     obtain ⟨O,hO⟩:=zzM ([113]++P)
     have lJ:O.length=P.length+1:=by rw [hO];simp
     have eR:=fun w0=>kG (P:=Tryz.prog) [113] P (by simp;omega) w0
     rw [<- hO] at eR
     have fX:=fun w0=>kG (P:=Tryz.prog) O D (by omega) w0
     have sK:(O++D).length<=1000000:=by simp;omega
     have BX:∃ q p,log[e.begun]? = some (q,p)/\1<=q.length/\q.length<=1000000:=by
      obtain ⟨x,hx⟩:∃ x,log[e.begun]? = some x:=⟨log[e.begun],by simp [fU.1]⟩
      obtain ⟨q,p⟩:=x
      have:=dL.out.lok e.begun q p hx
      exact ⟨q,p,hx,this.1,by omega⟩
     have CP:=cH (fun (wz:World) (hz:RS keep most ra log dZ c_ wz)=>HPP.out most ra log dZ c_ e.begun wz hz eX eQ BX)
     rw [<- hP] at CP
     have CD:=cH (fun wz=>l6Dec_any e.arg (by omega) wz)
     rw [<- hD] at CD
     have CM:=cH (fun (wz:World) (hz:RS keep most ra log dZ c_ wz)=>HMM.out most ra log dZ c_ (O++D) (e.begun:Int) wz hz eX eQ sK)
     have BL:=rL.drew
     have nQ:¬ MBk ra dZ c_ wr.heap.size:=fun h=>Nat.lt_irrefl _ (hZ.out.2.2.2.2.2.2.2 _ h)
     have HS:=cH (cB hP (cB hD (cB hO (cB cO (cB ni (cB hQ rL))))))
     have BK:=cH BL
     clear hP hD hO cO ni hQ rL hW BL BX sK k0 k1 k2 k3 k4 k5 k6 k7 k8
     go_region_held3 (fun w'=>w'.cell? ⟨wr.heap.size,7,none⟩=some (.int .i64 (e.begun:Nat))/\w'.cell? ⟨wr.heap.size,8,none⟩=some (.int .i64 (e.arg:Nat)))
      (first
       | exact ⟨q7,q8⟩
       | exact ⟨kF cT q7 nQ,kF cT q8 nQ⟩
       | exact ⟨kF cT r7 nQ,kF cT r8 nQ⟩
       | exact ⟨r7,r8⟩
       | go_keep)
      (first
       | (go_at_call 32;refine (CM.out _ mO.out).mono ?_;rintro en w1 ⟨dN,dM,rfl,cT,dH,dY⟩)
       | (go_at_call 54;refine (CP.out _ mO.out).mono ?_;rintro en w6 ⟨rfl,e5⟩;subst e5)
       | (go_at_call 54;refine (CP.out _ BK.out).mono ?_;rintro en w6 ⟨rfl,e5⟩;subst e5)
       | (go_at_call 55;refine (CD.out _).mono ?_;rintro en w5 ⟨rfl,aJ⟩;have dK:=wm aJ;clear aJ;have mO:=cH (HS.out.2.2.2.2.2.2.below dK);have r7:=kF (But.ofBelow (m:=fun _=>False) dK) q7 (fun h=>h);have r8:=kF (But.ofBelow (m:=fun _=>False) dK) q8 (fun h=>h)))
     obtain ⟨sta,stc,es⟩:=dE.out.own.slice
     subst es
     have fx:=dL.out.stl
     have hz5:=dK.size
     have eK:=cT.size
     have ni:=HS.out.2.2.2.2.1
     have Dq:But (Chg ra dZ c_ B (.slice sta st.length stc)) wr w1:=((But.ofBelow HS.out.2.2.2.1).trans (But.ofBelow dK)).trans' cT fun i _ hi=>.inl hi
     have iL:But (MBk ra dZ c_) wr w1:=((But.ofBelow HS.out.2.2.2.1).trans (But.ofBelow dK)).trans cT
     have hQ1:w1.heap[wr.heap.size]? = some (.cells #[.int .i64 (-1),str (z8 e.body),.int .i64 bv,.slice D2 (qU e.body).length D0,.slice D1 (qr e.body).length DZ,.slice ta e.kind.args.length tc,.slice ea e.env.length ec,.int .i64 (e.begun:Nat),.int .i64 (e.arg:Nat)] 136 (0,0)):=by
      rw [cT.block _ (by omega) nQ,dK.block _ (by omega)];exact HS.out.2.2.2.2.2.1
     have sR:w1.heap[B]? = some (.cells #[str [],.int .i64 (v':Nat),.slice a2 ss.length c2,.slice a3 2 c3] 80 (0,0)):=by
      rw [iL.block B cL rK];exact hZ.out.2.2.2.2.2.2.1
     have iq:Own w1 134 6 (.slice sta st.length stc) st.length cells :=
      dE.out.own.keep fun g o hg ho=>by rw [iL.block g (zZ ho) (dE.out.sB g hg).2.2];exact ho
     have d0:w1.cell? ⟨B,0,none⟩=some (str []):=by simp [World.cell?,sR]
     have d1:w1.cell? ⟨B,1,none⟩=some (.int .i64 (v':Nat)):=by simp [World.cell?,sR]
     have d2:w1.cell? ⟨B,2,none⟩=some (.slice a2 ss.length c2):=by simp [World.cell?,sR]
     have d3:w1.cell? ⟨B,3,none⟩=some (.slice a3 2 c3):=by simp [World.cell?,sR]
     have Ci:∀ i,MBk ra dN dM i->MBk ra dZ c_ i\/wr.heap.size<=i:=fun i hi=>by
      rcases dY i hi with h | h
      ·exact .inl h
      ·exact .inr (by omega)
     have H1:=cH (cB Dq (cB iL (cB hQ1 (cB sR (cB iq (cB dH Ci))))))
     have hzw1:wr.heap.size<w1.heap.size:=by omega
     clear Dq iL hQ1 sR iq dH dY Ci cT dK mO BK q7 q8 r7 r8 hz5 eK ni eR fX b0' b1 b2 b3 Dn CP CD CM
     go_wp2_with (at_builtin;refine zG rfl _ _ 131 rfl 134 (.agg #[str [],.int .i64 0,.slice none 0 0,.slice none 0 0,.slice none 0 0,.int .i64 0]) 6 104 Tryz.underlying131 Tryz.infoFS rfl (by decide) (.slice sta st.length stc) st.length cells rfl ?c1 _ 1 [str [],.int .i64 (v':Nat),.slice a2 ss.length c2,.slice a3 2 c3,.slice (some ⟨eb,eo,none⟩) env.length ecap,.int .i64 (opens:Nat)] rfl ?c2 ?c3 ?c4 ?_)
     case c1=>exact H1.out.2.2.2.2.1.alloc _
     case c2=>exact zM.litk #[str [],.int .i64 (v':Nat),.slice a2 ss.length c2,.slice a3 2 c3,.slice (some ⟨eb,eo,none⟩) env.length ecap,.int .i64 (opens:Nat)] rfl (by simp [str,Value.oneCell']) _ (by simp)
     case c3=>unfold maxLen;omega
     case c4=>omega
     intro a' c' w2 tD cS mr
     have rS:=cS.size
     rw [zK] at rS
     have tw:∀ g,(Value.slice a' (st.length+1) c').ownBlock=some g->(Value.slice sta st.length stc).ownBlock=some g\/w1.heap.size<=g:=by
      intro g hg
      rcases mr g hg with h | h
      ·exact .inl h
      ·have:g=w1.heap.size+1:=by simpa using h
       exact .inr (by omega)
     have rC:But (Chg ra dZ c_ B (.slice sta st.length stc)) wr w2:=(H1.out.1.alloc _).trans' cS fun i _ hi=>.inr (.inr hi)
     have mg:But (fun b=>(Value.slice sta st.length stc).ownBlock=some b) w1 w2:=((But.refl _ w1).alloc _).trans cS
     have nSB:¬ (Value.slice sta st.length stc).ownBlock=some B:=fun h=>(dE.out.sB _ h).2.1 rfl
     have nSQ:¬ (Value.slice sta st.length stc).ownBlock=some wr.heap.size:=fun h=>Nat.lt_irrefl _ (dE.out.own.lt h)
     have A0:=(mg.block wr.heap.size hzw1 nSQ).trans H1.out.2.2.1
     have Aj:=(mg.block B (by omega) nSB).trans H1.out.2.2.2.1
     have q5:w2.cell? ⟨wr.heap.size,5,none⟩=some (.slice ta e.kind.args.length tc):=by simp [World.cell?,A0]
     have q6:w2.cell? ⟨wr.heap.size,6,none⟩=some (.slice ea e.env.length ec):=by simp [World.cell?,A0]
     have b2:w2.cell? ⟨B,2,none⟩=some (.slice a2 ss.length c2):=by simp [World.cell?,Aj]
     have keepF:∀ (i:Nat) (o:Obj),¬ Chg ra dZ c_ B (.slice sta st.length stc) i->wr.heap[i]? = some o->(¬ Chg ra dZ c_ B (.slice sta st.length stc) i/\i<wr.heap.size)/\w2.heap[i]? = some o:=fun i o hi ho =>
      ⟨⟨hi,zZ ho⟩,by rw [rC.block i (zZ ho) hi];exact ho⟩
     have C:=p_ (fun i=>¬ Chg ra dZ c_ B (.slice sta st.length stc) i/\i<wr.heap.size) e.env env ss e.kind log.length (.slice ea e.env.length ec) (.slice a2 ss.length c2) (.slice ta e.kind.args.length tc) (.slice (some ⟨eb,eo,none⟩) env.length ecap) w2
      ((Rep.keep keepF).1 _ _ hZ.out.2.2.2.2.2.1) ((Rep.keep keepF).1 _ _ hZ.out.2.2.1) ((Rep.keep keepF).1 _ _ hZ.out.2.2.2.2.1) ((Rep.keep keepF).1 _ _ dE.out.re) (by omega) hZ.out.2.1 (by omega)
     have CH:=cH C
     have H2:=cH (cB rC (cB mg (cB A0 (cB Aj (cB keepF (cB tD tw))))))
     clear C rC mg A0 Aj keepF tD tw cS mr nSB nSQ d0 d1 d2 d3
     go_wp2_with fail
     refine CH.out.mono ?_
     rintro en w3 ⟨ha,hc,rfl,cr,rO⟩
     have aN:=cr.size
     have DH:=(cr.block wr.heap.size (by omega)).trans H2.out.2.2.1
     have mR:=(cr.block B (by omega)).trans H2.out.2.2.2.1
     have p1:w3.cell? ⟨wr.heap.size,1,none⟩=some (str (z8 e.body)):=by simp [World.cell?,DH]
     have p2:w3.cell? ⟨wr.heap.size,2,none⟩=some (.int .i64 bv):=by simp [World.cell?,DH]
     have p3:w3.cell? ⟨wr.heap.size,3,none⟩=some (.slice D2 (qU e.body).length D0):=by simp [World.cell?,DH]
     have p4:w3.cell? ⟨wr.heap.size,4,none⟩=some (.slice D1 (qr e.body).length DZ):=by simp [World.cell?,DH]
     have u0:w3.cell? ⟨B,0,none⟩=some (str []):=by simp [World.cell?,mR]
     have u1:w3.cell? ⟨B,1,none⟩=some (.int .i64 (v':Nat)):=by simp [World.cell?,mR]
     have u2:w3.cell? ⟨B,2,none⟩=some (.slice a2 ss.length c2):=by simp [World.cell?,mR]
     have u3:w3.cell? ⟨B,3,none⟩=some (.slice a3 2 c3):=by simp [World.cell?,mR]
     have f0:w3.frozen? ⟨B,0,none⟩=false:=by simp [World.frozen?,mR]
     have f1:w3.frozen? ⟨B,1,none⟩=false:=by simp [World.frozen?,mR]
     have f2:w3.frozen? ⟨B,2,none⟩=false:=by simp [World.frozen?,mR]
     have f3:w3.frozen? ⟨B,3,none⟩=false:=by simp [World.frozen?,mR]
     have H3:=cH (cB cr (cB rO mR));clear cr rO DH mR q5 q6 b2
     go_upto_region 23 with (fail)
     obtain ⟨W4,iz⟩:=zzN (j9 B (str (z8 e.body)) (.int .i64 bv) (.slice D2 (qU e.body).length D0) (.slice D1 (qr e.body).length DZ) w3)
     have aU:=iz
     unfold j9 at aU
     rw [aU]
     have mF:O++D=113::(qy keep log e.begun++dec e.arg):=by rw [HS.out.2.2.1,HS.out.1,HS.out.2.1];rfl
     have nU:RS keep most ra (log++[(113::(qy keep log e.begun++dec e.arg),(e.begun:Int))]) dN dM w1:=by have:=H1.out.2.2.2.2.2.1;rw [mF] at this;exact this
     have dO:=gopl_ask dL.out eX hZ.out.1
     have ed:Below w2.heap.size w2 w3:=H3.out.1
     have k1:But (Chg ra dZ c_ B (.slice sta st.length stc)) wr w3:=H2.out.1.trans (But.ofBelow ed)
     have k2:But (fun b=>(Value.slice sta st.length stc).ownBlock=some b) w1 w3:=H2.out.2.1.trans (But.ofBelow ed)
     have k5:=H2.out.2.2.2.2.2.1.keep (w':=w3) fun g o hg ho=>by rw [ed.block g (zZ ho)];exact ho
     have ad:∀ i,((¬ Chg ra dZ c_ B (.slice sta st.length stc) i/\i<wr.heap.size)\/w2.heap.size<=i)->i<w3.heap.size->¬ Chg ra dN dM B (.slice a' (st.length+1) c') i:=by
      intro i hi _ h
      have hm:=fun hm:MBk ra dN dM i=>H1.out.2.2.2.2.2.1.lt hm
      rcases hi with ⟨h1,h2⟩ | h1
      ·rcases h with h | h | h
       ·rcases H1.out.2.2.2.2.2.2 i h with h' | h'
        ·exact h1 (.inl h')
        ·omega
       ·exact h1 (.inr (.inl h))
       ·rcases H2.out.2.2.2.2.2.2 i h with h' | h'
        ·exact h1 (.inr (.inr h'))
        ·omega
      ·rcases h with h | h | h
       ·have:=hm h;omega
       ·omega
       ·have:=H2.out.2.2.2.2.2.1.lt h;omega
     have nJ:∀ (i:Nat) (o:Obj),¬ Chg ra dZ c_ B (.slice sta st.length stc) i->wr.heap[i]? = some o->((¬ Chg ra dZ c_ B (.slice sta st.length stc) i/\i<wr.heap.size)\/w2.heap.size<=i)/\w3.heap[i]? = some o:=fun i o hi ho=>by
      obtain ⟨h1,h2⟩:=H2.out.2.2.2.2.1 i o hi ho
      exact ⟨.inl h1,by rw [ed.block i (zZ h2)];exact h2⟩
     have BH:zH (fun i=>(¬ Chg ra dZ c_ B (.slice sta st.length stc) i/\i<wr.heap.size)\/w2.heap.size<=i) w3 (jM (⟨v',ss,y,n,env,opens⟩::st:List SF).reverse) (cells++[str [],.int .i64 (v':Nat),.slice a2 ss.length c2,.slice a3 2 c3,.slice (some ⟨eb,eo,none⟩) env.length ecap,.int .i64 (opens:Nat)]):=by
      rw [List.reverse_cons,uT]
      refine zH.append ((Rep.keep nJ).2 _ _ dE.out.rf) ?_
      simp only [jM,List.append_nil]
      rw [encSF]
      exact zH.append ((Rep.keep nJ).2 _ _ dE.out.box.rep) (zV.2 ⟨_,_,rfl,(Rep.keep nJ).1 _ _ dE.out.re,zV.2 ⟨_,_,rfl,zj.2 rfl,zF.2 rfl⟩⟩)
     have BI:Rep (fun i=>(¬ Chg ra dZ c_ B (.slice sta st.length stc) i/\i<wr.heap.size)\/w2.heap.size<=i) w3 (.sl 136 9 (e.env++qA env log.length 0 e.kind.args ss).length (kU (e.env++qA env log.length 0 e.kind.args ss))) (.slice ha (e.env.length+(qA env log.length 0 e.kind.args ss).length) hc):=by
      rw [List.length_append];exact H3.out.2.1
     have ch:=pC (opens':=log.length) (b':=e.body) (st':=⟨v',ss,y,n,env,opens⟩::st) dE.out k1 k2 nU (by omega) H1.out.2.2.2.2.2.2 H3.out.2.2 k5 H2.out.2.2.2.2.2.2 ad ((Rep.keep nJ).2 _ _ hZ.out.2.2.2.1) BI BH
     rw [iz] at ch
     have dR:=cH (cB dO ch)
     clear dO ch nU ed k1 k2 k5 ad nJ BH BI mF aU iz u0 u1 u2 u3 f0 f1 f2 f3 p1 p2 p3 p4
     go_wp2_with fail
     go_roundw
     case rel=>exact ⟨_,_,_,_,_,_,_,_,_,_,_,_,_,_,_,rfl,dR.out.1,dR.out.2⟩
     case measure =>
      rw [HX.out]
      have h:=wN dR.out.2.rs
      have hl:(log++[(113::(qy keep log e.begun++dec e.arg),(e.begun:Int))]).length=log.length+1:=by simp
      refine Nat.lt_of_le_of_lt (Nat.le_of_eq h) ?_
      rw [hl];omega
end Go.Proofs.YtdhaafoiokkbnaaGreatDoor

/- Walks of functions that the statement reaches, and plain words. No conditions. -/
import Derived.Laws.IdiomStrings
import Derived.Test.YtfedjhgaeikjmaaGreatDoorQ5
set_option linter.unusedVariables false
set_option linter.unusedSimpArgs false
set_option maxHeartbeats 4000000
namespace Go.Proofs.YtfedjhgaeikjmaaGreatDoor
open Go.RowKit
inductive SC where
 | mk (b:Bd) (t:Ty) (env:List SC) (begun arg:Nat)
def SC.body:SC->Bd | .mk b _ _ _ _=>b
def SC.kind:SC->Ty | .mk _ t _ _ _=>t
def SC.env:SC->List SC | .mk _ _ e _ _=>e
def SC.begun:SC->Nat | .mk _ _ _ n _=>n
def SC.arg:SC->Nat | .mk _ _ _ _ n=>n
structure SF where
 v:Nat
 ss:List Bd
 yes:Bd
 no:Bd
 env:List SC
 opens:Nat
def qM (env:List SC) (asked:Nat):Nat->List Ty->List Bd->List SC
 | i,t::ts,s::ss=>.mk s t env asked i::qM env asked (i+1) ts ss
 | _,_,_=>[]
def qO (keep:Bool) (log:List (Bs×Int)) (i:Nat):Bs:=if keep then ((log[i]?).map fun x=>x.1.drop 1).getD [] else []
def jh (keep:Bool):Nat->List (Bs×Int)->Bd->List SC->Nat->List SF->Option (UInt8×List (Bs×Int))
 | f,log,.leaf c,_,opens,st =>
   if c=117 then some (117,log) else
   match f with
   | 0=>none
   | f+1=>match st with
     | []=>some (c,log++[(c::qO keep log opens,(opens:Int))])
     | fr::st'=>jh keep f (log++[(c::qO keep log opens,(opens:Int))]) (if c=102 then fr.no else fr.yes) fr.env fr.opens st'
 | f,log,.ask v ss y n,env,opens,st =>
   match f with
   | 0=>none
   | f+1=>match env[v]? with
     | none=>none
     | some e=>jh keep f (log++[(113::(qO keep log e.begun++dec e.arg),(e.begun:Int))]) e.body (e.env++qM env log.length 0 e.kind.args ss) log.length (⟨v,ss,y,n,env,opens⟩::st)
mutual
def simC (keep:Bool) (log:List (Bs×Int)):SC->Clo->Prop
 | .mk b t env bg i,c=>c.body=b/\qa keep log env c.env/\c.begun=bg/\(keep=true->∃ q p,log[bg]? = some (q,p)/\c.path=q.drop 1++dec i)
def qa (keep:Bool) (log:List (Bs×Int)):List SC->List Clo->Prop
 | [],cs=>cs=[]
 | x::xs,cs=>∃ c cs',cs=c::cs'/\simC keep log x c/\qa keep log xs cs'
end
mutual
theorem simC_more {keep:Bool} {log:List (Bs×Int)} (m:List (Bs×Int)):∀ (x:SC) (c:Clo),simC keep log x c->simC keep (log++m) x c
 | .mk b t env bg i,c,h=>by
   rw [simC] at *
   refine ⟨h.1,jF m env _ h.2.1,h.2.2.1,fun hk=>?_⟩
   obtain ⟨q,p,h1,h2⟩:=h.2.2.2 hk
   exact ⟨q,p,by rw [List.getElem?_append_left (List.getElem?_eq_some_iff.1 h1).1];exact h1,h2⟩
theorem jF {keep:Bool} {log:List (Bs×Int)} (m:List (Bs×Int)):∀ (xs:List SC) (cs:List Clo),qa keep log xs cs->qa keep (log++m) xs cs
 | [],cs,h=>by rw [qa] at *;exact h
 | x::xs,cs,h=>by
   rw [qa] at *
   obtain ⟨c,cs',rfl,h1,h2⟩:=h
   exact ⟨c,cs',rfl,simC_more m x c h1,jF m xs cs' h2⟩
end
theorem xf {keep:Bool} {log:List (Bs×Int)}:∀ (xs:List SC) (cs:List Clo) (ys:List SC) (ds:List Clo),qa keep log xs cs->qa keep log ys ds->qa keep log (xs++ys) (cs++ds)
 | [],cs,ys,ds,h,k=>by rw [qa] at h;subst h;simpa using k
 | x::xs,cs,ys,ds,h,k=>by
   rw [qa] at h
   obtain ⟨c,cs',rfl,h1,h2⟩:=h
   simp only [List.cons_append]
   rw [qa]
   exact ⟨c,cs'++ds,rfl,h1,xf xs cs' ys ds h2 k⟩
theorem wh {keep:Bool} {log:List (Bs×Int)} {env:List SC} {cenv:List Clo} (he:qa keep log env cenv) {m:Nat} {path q:Bs} {p:Int} (hm:keep=true->log[m]? = some (q,p)/\q.drop 1=path) :
 ∀ (ts:List Ty) (ss:List Bd) (i:Nat),ts.length=ss.length->qa keep log (qM env m i ts ss) (zq cenv m path i ss)
 | [],[],i,_=>by rw [zq,qM,qa];intros;contradiction
 | [],s::ss,i,h=>by simp at h
 | t::ts,[],i,h=>by simp at h
 | t::ts,s::ss,i,h=>by
   rw [zq,qM,qa]
   refine ⟨_,_,rfl,?_,wh he hm ts ss (i+1) (by simpa using h)⟩
   rw [simC]
   exact ⟨rfl,he,rfl,fun hk=>⟨q,p,(hm hk).1,by rw [(hm hk).2];rfl⟩⟩
structure simF (keep:Bool) (log:List (Bs×Int)) (x:SF) (f:Fr):Prop where
 yes:f.yes=x.yes
 no:f.no=x.no
 env:qa keep log x.env f.env
 opens:f.begun=x.opens
 path:keep=true->∃ q p,log[x.opens]? = some (q,p)/\f.path=q.drop 1
theorem simF.more {keep:Bool} {log:List (Bs×Int)} {x:SF} {f:Fr} (h:simF keep log x f) (m:List (Bs×Int)):simF keep (log++m) x f :=
 ⟨h.yes,h.no,jF m _ _ h.env,h.opens,fun hk=>by
  obtain ⟨q,p,h1,h2⟩:=h.path hk
  exact ⟨q,p,by rw [List.getElem?_append_left (List.getElem?_eq_some_iff.1 h1).1];exact h1,h2⟩⟩
def simFs (keep:Bool) (log:List (Bs×Int)):List SF->List Fr->Prop
 | [],fs=>fs=[]
 | x::xs,fs=>∃ f fs',fs=f::fs'/\simF keep log x f/\simFs keep log xs fs'
theorem xF {keep:Bool} {log:List (Bs×Int)} (m:List (Bs×Int)):∀ (xs:List SF) (fs:List Fr),simFs keep log xs fs->simFs keep (log++m) xs fs
 | [],fs,h=>h
 | x::xs,fs,h=>by
   obtain ⟨f,fs',e,h1,h2⟩:=h
   exact ⟨f,fs',e,h1.more m,xF m xs fs' h2⟩
def qW (keep:Bool) (log:List (Bs×Int)) (a:Option (UInt8×List (Bs×Int))) (b:Option (UInt8×List (Bs×Nat))):Prop :=
 (b=none->a=none)/\∀ c ms,b=some (c,ms)->∃ log',a=some (c,log')/\(keep=true->log'=log++jK ms)
theorem qW.step {keep:Bool} {log:List (Bs×Int)} {s:Bs} {n:Nat} {a:Option (UInt8×List (Bs×Int))} {b:Option (UInt8×List (Bs×Nat))} {s':Bs} (h:qW keep (log++[(s,(n:Int))]) a b) (hs:keep=true->s'=s):qW keep log a (b.map fun x=>(x.1,(s',n)::x.2)):=by
 constructor
 ·intro hb
  cases b with
  | none=>exact h.1 rfl
  | some x=>simp at hb
 ·intro c ms hb
  cases b with
  | none=>simp at hb
  | some x =>
    simp only [Option.map_some,Option.some.injEq,Prod.mk.injEq] at hb
    obtain ⟨rfl,rfl⟩:=hb
    obtain ⟨log',h1,h2⟩:=h.2 x.1 x.2 rfl
    exact ⟨log',h1,fun hk=>by rw [h2 hk,hs hk];simp [jK]⟩
theorem qW.log {keep:Bool} {log:List (Bs×Int)} (c:UInt8):qW keep log (some (c,log)) (some (c,[])) :=
 ⟨fun h=>by simp at h,fun c' ms h=>by
  simp only [Option.some.injEq,Prod.mk.injEq] at h
  obtain ⟨rfl,rfl⟩:=h
  exact ⟨log,rfl,fun _=>by simp [jK]⟩⟩
theorem qW.none {keep:Bool} {log:List (Bs×Int)}:qW keep log none none:=⟨fun _=>rfl,fun c ms h=>by simp at h⟩
mutual
def okS:SC->Prop
 | .mk b t env _ _=>wfB b/\uM env/\kJ (env.map SC.kind++t.args) b
def uM:List SC->Prop
 | []=>True
 | x::xs=>okS x/\uM xs
end
theorem okSs_at:∀ (xs:List SC),uM xs->∀ (i:Nat) (x:SC),xs[i]? = some x->okS x
 | [],_,i,x,h=>by simp at h
 | y::xs,k,i,x,h=>by
   rw [uM] at k
   cases i with
   | zero=>simp at h;subst h;exact k.1
   | succ i=>exact okSs_at xs k.2 i x (by simpa using h)
theorem pM:∀ (xs ys:List SC),uM xs->uM ys->uM (xs++ys)
 | [],ys,_,h=>h
 | x::xs,ys,h,k=>by rw [uM] at h;exact ⟨h.1,pM xs ys h.2 k⟩
theorem gK {env:List SC} (he:uM env) (m:Nat):∀ (ts:List Ty) (ss:List Bd) (i:Nat),zg (zu (env.map SC.kind) ts) ss->vi ss->uM (qM env m i ts ss)/\(qM env m i ts ss).map SC.kind=ts
 | [],ss,i,_,_=>by
   rw [qM]
   ·exact ⟨by rw [uM];trivial,rfl⟩
   ·intros;contradiction
 | t::ts,[],i,h,_=>by rw [zg] at h;simp [zu] at h
 | t::ts,s::ss,i,h,hw=>by
   rw [zg] at h
   obtain ⟨h',eN,e,h1,h2⟩:=h
   simp only [zu,List.map_cons,List.cons.injEq] at e
   obtain ⟨rfl,rfl⟩:=e
   rw [vi] at hw
   obtain ⟨k1,k2⟩:=gK he m ts ss (i+1) h2 hw.2
   rw [qM]
   refine ⟨?_,by rw [List.map_cons,k2];rfl⟩
   rw [uM]
   exact ⟨by rw [okS];exact ⟨hw.1,he,h1⟩,k1⟩
structure okF (x:SF):Prop where
 yes:wfB x.yes
 no:wfB x.no
 env:uM x.env
 node:kJ (x.env.map SC.kind) (.ask x.v x.ss x.yes x.no)
theorem okF.fits {x:SF} (h:okF x):kJ (x.env.map SC.kind) x.yes/\kJ (x.env.map SC.kind) x.no:=by
 have:=h.node
 rw [kJ] at this
 obtain ⟨t,_,_,h1,h2⟩:=this
 exact ⟨h1,h2⟩
theorem simCs_at' {keep:Bool} {log:List (Bs×Int)}:∀ (xs:List SC) (cs:List Clo),qa keep log xs cs->∀ (i:Nat) (x:SC),xs[i]? = some x->∃ c,cs[i]? = some c/\simC keep log x c
 | [],cs,h,i,x,hx=>by simp at hx
 | y::xs,cs,h,i,x,hx=>by
   rw [qa] at h
   obtain ⟨c,cs',rfl,h1,h2⟩:=h
   cases i with
   | zero=>simp at hx;subst hx;exact ⟨c,rfl,h1⟩
   | succ i=>simpa using simCs_at' xs cs' h2 i x (by simpa using hx)
theorem wM {env:List SC} {v:Nat} {ss:List Bd} {y n:Bd} (he:uM env) (hf:kJ (env.map SC.kind) (.ask v ss y n)) :
 ∃ e,env[v]? = some e/\okS e/\ss.length=e.kind.args.length/\zg (zu (env.map SC.kind) e.kind.args) ss:=by
 rw [kJ] at hf
 obtain ⟨t,h1,h2,_,_⟩:=hf
 rw [List.getElem?_map,Option.map_eq_some_iff] at h1
 obtain ⟨e,h3,rfl⟩:=h1
 refine ⟨e,h3,okSs_at _ he _ _ h3,?_,h2⟩
 have:=qI _ _ h2
 rw [qL] at this;exact this.symm
theorem ask_ok {env:List SC} {v:Nat} {ss:List Bd} {y n:Bd} (he:uM env) (hf:kJ (env.map SC.kind) (.ask v ss y n)) (hw:wfB (.ask v ss y n)) {e:SC} (hv:env[v]? = some e) (m:Nat) :
 wfB e.body/\uM (e.env++qM env m 0 e.kind.args ss)/\kJ ((e.env++qM env m 0 e.kind.args ss).map SC.kind) e.body:=by
 obtain ⟨e',dB,cH,hl,lL⟩:=wM he hf
 rw [hv] at dB;simp at dB;subst dB
 rw [wfB] at hw
 obtain ⟨k1,k2⟩:=gK he m _ _ 0 lL hw.1
 obtain ⟨b,t,en,bg,i⟩:=e
 rw [okS] at cH
 refine ⟨cH.1,pM _ _ cH.2.1 k1,?_⟩
 rw [List.map_append,k2];exact cH.2.2
theorem run_same (keep:Bool):∀ (f:Nat) (log:List (Bs×Int)) (b:Bd) (senv:List SC) (opens:Nat) (sst:List SF) (env:List Clo) (path:Bs) (st:List Fr),
 wfB b->uM senv->kJ (senv.map SC.kind) b->(∀ x∈sst,okF x)->qa keep log senv env->simFs keep log sst st->(keep=true->∃ q p,log[opens]? = some (q,p)/\path=q.drop 1) ->
 qW keep log (jh keep f log b senv opens sst) (vI f log.length b env opens path st):=by
 intro f
 induction f with
 | zero =>
   intro log b senv opens sst env path st hw cH ct iq rX fU hp
   cases b with
   | leaf c =>
     by_cases hc:c=117
     ·subst hc
      rw [xM]
      simp only [jh,if_pos]
      exact qW.log _
     ·rw [xm hc]
      simp only [jh,if_neg hc]
      exact qW.none
   | ask v ss y n =>
     rw [yi]
     simp only [jh]
     exact qW.none
 | succ f ih =>
   intro log b senv opens sst env path st hw cH ct iq rX fU hp
   cases b with
   | leaf c =>
     by_cases hc:c=117
     ·subst hc
      rw [xM]
      simp only [jh,if_pos]
      exact qW.log _
     ·have hs:keep=true->c::path=c::qO keep log opens:=by
       intro hk
       obtain ⟨q,p,h1,h2⟩:=hp hk
       simp [qO,hk,h1,h2]
      cases sst with
      | nil =>
        rw [simFs] at fU;subst fU
        rw [xr hc]
        simp only [jh,if_neg hc]
        have:=qW.step (keep:=keep) (log:=log) (s:=c::qO keep log opens) (n:=opens) (qW.log (log:=log++[(c::qO keep log opens,(opens:Int))]) c) (s':=c::path) hs
        exact this
      | cons x sst =>
        obtain ⟨fr,st',rfl,hx,eF⟩:=fU
        have fG:=iq x (by simp)
        rw [uD hc]
        simp only [jh,if_neg hc]
        refine qW.step ?_ hs
        have hl:log.length+1=(log++[(c::qO keep log opens,(opens:Int))]).length:=by simp
        have hy:(if c=116 then fr.yes else fr.no)=(if c=102 then x.no else x.yes):=by
         rw [wfB] at hw
         rcases hw with rfl | rfl | rfl
         ·rw [if_pos rfl,if_neg (by decide)];exact hx.yes
         ·rw [if_neg (by decide),if_pos rfl];exact hx.no
         ·exact absurd rfl hc
        rw [hl,hy,hx.opens]
        have ij:=fG.fits
        refine ih _ _ _ _ _ _ _ _ ?_ fG.env ?_ (fun z hz=>iq z (by simp [hz])) (jF _ _ _ hx.env) (xF _ _ _ eF) (hx.more _).path
        ·split
         ·exact fG.no
         ·exact fG.yes
        ·split
         ·exact ij.2
         ·exact ij.1
   | ask v ss y n =>
     obtain ⟨e,hv,_,hl,_⟩:=wM cH ct
     obtain ⟨k1,k2,k3⟩:=ask_ok cH ct hw hv log.length
     obtain ⟨c,hcv,nu⟩:=simCs_at' _ _ rX v e hv
     rw [yA _ _ _ _ _ _ _ _ _ _ hcv]
     simp only [jh,hv]
     obtain ⟨eb,et,ee,eg,ei⟩:=e
     rw [simC] at nu
     obtain ⟨s1,s2,s3,s4⟩:=nu
     simp only [SC.body,SC.kind,SC.env,SC.begun,SC.arg] at *
     rw [s3]
     have iF:keep=true->c.path=qO keep log eg++dec ei:=by
      intro hk
      obtain ⟨q,p,h1,h2⟩:=s4 hk
      simp [qO,hk,h1,h2]
     refine qW.step ?_ (fun hk=>by rw [iF hk])
     have iN:log.length+1=(log++[(113::(qO keep log eg++dec ei),(eg:Int))]).length:=by simp
     rw [iN,s1]
     have cU:keep=true->(log++[(113::(qO keep log eg++dec ei),(eg:Int))])[log.length]? = some (113::(qO keep log eg++dec ei),(eg:Int)):=fun _=>by simp
     refine ih _ _ _ _ _ _ _ _ k1 k2 k3 ?_ ?_ ?_ ?_
     ·intro z hz
      rcases List.mem_cons.1 hz with rfl | hz
      ·have cL:=hw
       rw [wfB] at cL
       exact ⟨cL.2.1,cL.2.2,cH,ct⟩
      ·exact iq z hz
     ·exact xf _ _ _ _ (jF _ _ _ s2) (wh (jF _ _ _ rX) (q:=113::(qO keep log eg++dec ei)) (p:=(eg:Int)) (fun hk=>⟨cU hk,by rw [iF hk];rfl⟩) _ _ 0 hl.symm)
     ·refine ⟨_,_,rfl,⟨rfl,rfl,jF _ _ _ rX,rfl,fun hk=>?_⟩,xF _ _ _ fU⟩
      obtain ⟨q,p,h1,h2⟩:=hp hk
      exact ⟨q,p,by rw [List.getElem?_append_left (List.getElem?_eq_some_iff.1 h1).1];exact h1,h2⟩
     ·intro hk
      exact ⟨_,_,cU hk,by rw [iF hk];rfl⟩
def Rn (w:World) (ra:Nat) (mv pt:Value) (moves most:Nat) (bad:Bool):Prop:=w.heap[ra]? = some (.cells #[mv,pt,.int .i64 (moves:Nat),.int .i64 (most:Nat),.bool false,.bool bad] 80 (0,0))
theorem Rn.cells {w:World} {ra:Nat} {mv pt:Value} {moves most:Nat} {bad:Bool} (h:Rn w ra mv pt moves most bad):w.cell? ⟨ra,2,none⟩=some (.int .i64 (moves:Nat))/\w.cell? ⟨ra,3,none⟩=some (.int .i64 (most:Nat))/\w.cell? ⟨ra,4,none⟩=some (.bool false)/\w.cell? ⟨ra,5,none⟩=some (.bool bad)/\w.frozen? ⟨ra,2,none⟩=false/\w.frozen? ⟨ra,5,none⟩=false:=by
 unfold Rn at h
 exact ⟨by simp [World.cell?,h],by simp [World.cell?,h],by simp [World.cell?,h],by simp [World.cell?,h],by simp [World.frozen?,h],by simp [World.frozen?,h]⟩
theorem Rn.below {w w':World} {ra:Nat} {mv pt:Value} {moves most:Nat} {bad:Bool} (h:Rn w ra mv pt moves most bad) (hb:Below w.heap.size w w'):Rn w' ra mv pt moves most bad:=by
 unfold Rn;rw [hb.block ra (zZ h)];exact h
theorem bF {W:World} {g r:Nat} (hr:r<10) (h:W.cell? ⟨g,0,none⟩=some (.int .u8 (48+(r:Int)))) :
 (convert 22 9 (.slice (some ⟨g,0,none⟩) 1 1)).run Tryz.prog W=.ok (str [qi r]) W:=by
 refine run_convert_bytes_back (P:=Tryz.prog) W 22 9 5 ⟨g,0,none⟩ 1 [qi r] Tryz.underlying22 Tryz.underlying5 Tryz.underlying9 (fun j hj=>?_)
 have hj0:j=0:=by simpa using hj
 subst hj0
 have e:(qi r).toNat=48+r:=by rw [qi,UInt8.toNat_ofNat'];exact Nat.mod_eq_of_lt (by omega)
 show W.cell? ((⟨g,0,none⟩:Addr).add 0)=some (.int .u8 ((qi r).toNat:Int))
 rw [e]
 have e2:((48+r:Nat):Int)=48+(r:Int):=by omega
 rw [e2];exact h
theorem conv_new {r:Nat} (hr:r<10) (w:World):(convert 22 9 (.slice (some ⟨w.heap.size,0,none⟩) 1 1)).run Tryz.prog (w.alloc (.cells #[.int .u8 (48+(r:Int))] 5))=.ok (str [qi r]) (w.alloc (.cells #[.int .u8 (48+(r:Int))] 5)) :=
 bF hr (by simp)
theorem conv_newd {r:Nat} (hr:r<10) (w:World):(convert 22 9 (.slice (some ⟨w.heap.size,0,none⟩) 1 1)).run Tryz.prog (w.alloc (.cells #[.int .u8 (48+(r:Int))] 5)).drew=.ok (str [qi r]) (w.alloc (.cells #[.int .u8 (48+(r:Int))] 5)).drew :=
 bF hr (show (w.alloc (.cells #[.int .u8 (48+(r:Int))] 5)).cell? _=_ by simp)
theorem conv_kept {r:Nat} (hr:r<10) {w W:World} (hb:Below (w.alloc (.cells #[.int .u8 (48+(r:Int))] 5)).drew.heap.size (w.alloc (.cells #[.int .u8 (48+(r:Int))] 5)).drew W) :
 (convert 22 9 (.slice (some ⟨w.heap.size,0,none⟩) 1 1)).run Tryz.prog W=.ok (str [qi r]) W :=
 bF hr ((hb.cell (show w.heap.size<(w.alloc (.cells #[.int .u8 (48+(r:Int))] 5)).heap.size by simp)).trans (show (w.alloc (.cells #[.int .u8 (48+(r:Int))] 5)).cell? _=_ by simp))
set_option maxRecDepth 100000 in
theorem l6Dec_small (n:Nat) (hn:n<10) (w:World):Calls Tryz.prog 96 #[.int .i64 (n:Nat)] w fun en w'=>en=.returned (str (dec n))/\Below w.heap.size w w':=by
 have hn':(n:Int)<10:=by omega
 have e:=bc (jL hn)
 have hcv:=conv_new hn w
 go_enter Tryz.func96,Tryz.ntmps96
 go_wp2_with fail
 go_ret
 exact ⟨by rw [e.out];rfl,(bi _ _).alloc (br _) _⟩
theorem size_alloc_le (w:World) (o:Obj):w.heap.size<=(w.alloc o).drew.heap.size:=by
 show w.heap.size<=(w.alloc o).heap.size
 rw [zK];omega
set_option maxRecDepth 100000 in
theorem l6Dec_step (n:Nat) (hn:¬ n<10) (hl:n<=16777216) (ih:∀ w,Calls Tryz.prog 96 #[.int .i64 ((n / 10:Nat):Int)] w fun en w'=>en=.returned (str (dec (n / 10)))/\Below w.heap.size w w') (w:World) :
 Calls Tryz.prog 96 #[.int .i64 (n:Nat)] w fun en w'=>en=.returned (str (dec n))/\Below w.heap.size w w':=by
 have IH:=bc ih;clear ih
 have hn':¬ (n:Int)<10:=by omega
 have e:=bc (uT hn)
 have q1:(n:Int).tdiv 10=((n / 10:Nat):Int):=gE n 10
 have q2:(n:Int).tmod 10=((n % 10:Nat):Int):=yC n 10
 have hR:n % 10<10:=Nat.mod_lt _ (by omega)
 have hQ:n / 10<=16777216:=b7 (Nat.div_le_self _ _) hl
 have hD:(dec (n / 10)).length<=8:=qx 7 (n / 10) (by omega)
 generalize n % 10=R at *
 generalize n / 10=Q at *
 have q3:IntKind.i64.wrap (Q:Int)=(Q:Int):=qu Q (by omega)
 have q4:IntKind.i64.wrap (48+(R:Int))=48+(R:Int):=by rw [show (48:Int)+R=((48+R:Nat):Int) from by omega];exact qu _ (by omega)
 have q5:IntKind.u8.wrap (48+(R:Int))=48+(R:Int):=by simp [IntKind.wrap,IntKind.bits,IntKind.signed];omega
 have HR:=bc hR
 have eI:=fun w0=>kN (P:=Tryz.prog) (dec Q) [qi R] (by simp;omega) w0
 have hcv:=conv_newd hR w
 have hcv0:=fun w0=>conv_new hR w0
 go_enter Tryz.func96,Tryz.ntmps96
 go_wp2_with fail
 go_region_with (first
  | (go_at_call 96;refine (IH.out (w.alloc (.cells #[.int .u8 (48+(R:Int))] 5)).drew).mono ?_;rintro en w2 ⟨rfl,b8⟩;have hcv2:=conv_kept HR.out b8;have hbb:=Below.trans (((bi w.heap.size w).alloc (br _) (.cells #[.int .u8 (48+(R:Int))] 5)).drew) (b8.mono (size_alloc_le w _)))
  | (go_at_call 96;refine (IH.out w.drew).mono ?_;rintro en w2 ⟨rfl,b8⟩;have hbb:=Below.trans ((bi w.heap.size w).drew) b8))
 all_goals
  go_wp2_with fail
  go_ret
  refine ⟨by rw [e.out];rfl,?_⟩
  first
   | exact hbb
   | exact hbb.alloc hbb.size _
theorem l6Dec_any (n:Nat):n<=16777216->∀ w,Calls Tryz.prog 96 #[.int .i64 (n:Nat)] w fun en w'=>en=.returned (str (dec n))/\Below w.heap.size w w':=by
 induction n using Nat.strongRecOn with
 | _ n ih =>
   intro hl w
   by_cases h:n<10
   ·exact l6Dec_small n h w
   ·exact l6Dec_step n h hl (ih (n / 10) (Nat.div_lt_self (by omega) (by omega)) (b7 (Nat.div_le_self _ _) hl)) w
def pK (b:Bd):Prop:=∀ (F:Nat->Prop) (w:World) (s v k y:Value),zG F w (kC b) [s,v,k,y] ->
 Calls Tryz.prog 57 #[.agg #[s,v,k,y]] w fun en w'=>en=.returned (str (kt b))/\Below w.heap.size w w'
abbrev KeepY (g:Nat) (ky:Value) (d7 yo:Nat) (s0 v0 p0 q0 s1 v1 p1 q1:Value) (w':World):Prop :=
 w'.cell? ⟨g,3,none⟩=some ky/\w'.cell? ⟨d7,yo,none⟩=some s0/\w'.cell? ⟨d7,yo+1,none⟩=some v0/\w'.cell? ⟨d7,yo+2,none⟩=some p0/\w'.cell? ⟨d7,yo+3,none⟩=some q0 /\
  w'.cell? ⟨d7,yo+4,none⟩=some s1/\w'.cell? ⟨d7,yo+5,none⟩=some v1/\w'.cell? ⟨d7,yo+6,none⟩=some p1/\w'.cell? ⟨d7,yo+7,none⟩=some q1
theorem KeepY.below {g:Nat} {ky:Value} {d7 yo:Nat} {s0 v0 p0 q0 s1 v1 p1 q1:Value} {w w':World} (h:KeepY g ky d7 yo s0 v0 p0 q0 s1 v1 p1 q1 w) (hb:Below w.heap.size w w'):KeepY g ky d7 yo s0 v0 p0 q0 s1 v1 p1 q1 w':=by
 have key:∀ (a:Addr) (v:Value),w.cell? a=some v->w'.cell? a=some v:=fun a v ha=>by
  rw [hb.cell (be w _ ha)];exact ha
 obtain ⟨h1,h2,h3,h4,h5,h6,h7,h8,h9⟩:=h
 exact ⟨key _ _ h1,key _ _ h2,key _ _ h3,key _ _ h4,key _ _ h5,key _ _ h6,key _ _ h7,key _ _ h8,key _ _ h9⟩
set_option maxRecDepth 100000 in
theorem l3Text_step (b:Bd) (hl:zL b<=1000000) (dx:lvB b) (ih:∀ b',zL b'<zL b->lvB b'->pK b'):pK b:=by
 intro F w s v k y hv
 have e1:=encN_lv hv
 subst e1
 obtain ⟨_,a2,c2,a3,c3,e,hk,hy⟩:=jA hv
 simp only [List.cons.injEq,and_true] at e
 obtain ⟨rfl,_,rfl,rfl⟩:=e
 cases b with
 | leaf c =>
   clear hv hk hy ih
   show Calls Tryz.prog 57 #[.agg #[str [c],.int .i64 (0:Nat),.slice a2 0 c2,.slice a3 0 c3]] w _
   go_enter Tryz.func57,Tryz.ntmps57
   go_wp2_with fail
   go_ret
   exact ⟨rfl,(bi _ _).alloc (br _) _⟩
 | ask lv ss yb nb =>
   have IH:=bc ih;clear ih
   have eX:=yS (.ask lv ss yb nb)
   rw [gr,kk] at eX
   change zL (.ask lv ss yb nb)=1+(zD ss+zD [yb,nb]) at eX
   have i9:zD [yb,nb]=zL yb+zL nb:=by simp [zD]
   rw [lvB] at dx
   obtain ⟨lv1,lv2,lv3,lv4⟩:=dx
   have t1:=v7 ss lv2
   have t2:=qV yb lv3
   have t3:=qV nb lv4
   have t4:(dec lv).length<=5:=qx 4 lv (by omega)
   obtain ⟨_,_,ek,atk⟩:=AtNs.of hk
   simp only [Value.slice.injEq,true_and] at ek
   rw [<- ek.1] at atk;clear ek
   obtain ⟨_,_,ek,aty⟩:=AtNs.of hy
   simp only [Value.slice.injEq,true_and] at ek
   rw [<- ek.1] at aty;clear ek
   change AtNs F w ss a2 at atk
   change AtNs F w [yb,nb] a3 at aty
   obtain ⟨d7,yo,s0,v0,p2,m2,d2,p3,m3,d3,yt,ey,hyb0,hyt,u0,u1,u2,u3,lX⟩:=aty 0 (by simp)
   obtain ⟨yb1,yo1,s1,v1,p4,m4,d4,p5,m5,d5,nt,en1,hyb1,hnt,z0,z1,z2,z3,AN⟩:=aty 1 (by simp)
   rw [ey] at en1
   simp only [Option.some.injEq,Addr.mk.injEq,and_true] at en1
   obtain ⟨rfl,rfl⟩:=en1
   simp only [List.getElem?_cons_zero,Option.some.injEq] at hyt
   simp only [List.getElem?_cons_succ,List.getElem?_cons_zero,Option.some.injEq] at hnt
   subst hyt;subst hnt
   simp only [Nat.zero_mul,Nat.add_zero] at u0 u1 u2 u3
   simp only [Nat.one_mul,Nat.add_assoc,Nat.reduceAdd] at z0 z1 z2 z3
   have nss:ss.length<=16777216:=by have:=jf ss;omega
   have ad:=bc eX;have HYN:=bc i9
   have ATK:=bc atk
   have LV:=bc lv2;have LV3:=bc lv3;have LV4:=bc lv4
   have lvl:lv<=16777216:=by omega
   have By:KeepY w.heap.size (.slice a3 2 c3) d7 yo (str s0) (.int .i64 v0) (.slice p2 m2 d2) (.slice p3 m3 d3) (str s1) (.int .i64 v1) (.slice p4 m4 d4) (.slice p5 m5 d5) (w.alloc (.cells #[str [],.int .i64 lv,.slice a2 ss.length c2,.slice a3 2 c3] 64)) :=
    ⟨by simp,zU u0,zU u1,zU u2,zU u3,zU z0,zU z1,zU z2,zU z3⟩
   have Ai:=bc By
   have HRY:=bc lX;have HRN:=bc AN
   subst ey
   clear hv hk hy atk aty eX i9 lv2 lv3 lv4 u0 u1 u2 u3 z0 z1 z2 z3 lX AN By
   show Calls Tryz.prog 57 #[.agg #[str [],.int .i64 lv,.slice a2 ss.length c2,.slice (some ⟨d7,yo,none⟩) 2 c3]] w _
   have Co:=fun w0=>kN (P:=Tryz.prog) [40] (dec lv) (by simp;omega) w0
   go_enter Tryz.func57,Tryz.ntmps57
   go_wp2_with fail
   refine (l6Dec_any lv lvl _).mono ?_
   rintro en w1 ⟨rfl,b9⟩
   have dM:Below w.heap.size w w1:=Below.trans ((bi w.heap.size w).alloc (br _) (.cells #[str [],.int .i64 lv,.slice a2 ss.length c2,.slice (some ⟨d7,yo,none⟩) 2 c3] 64)) (b9.mono (by simp))
   have fR:w1.cell? ⟨w.heap.size,2,none⟩=some (.slice a2 ss.length c2):=(b9.cell (by simp)).trans (by simp)
   have Df:=bc (Ai.out.below b9)
   go_wp2_with fail
   clear Co
   go_loopw [3,4] (fun o i wr=>∃ k:Nat,k<=ss.length/\i=.int .i64 k/\o=str ([40]++dec lv++kj (ss.take k))/\Below w.heap.size w wr/\wr.cell? ⟨w.heap.size,2,none⟩=some (.slice a2 ss.length c2)/\KeepY w.heap.size (.slice (some ⟨d7,yo,none⟩) 2 c3) d7 yo (str s0) (.int .i64 v0) (.slice p2 m2 d2) (.slice p3 m3 d3) (str s1) (.int .i64 v1) (.slice p4 m4 d4) (.slice p5 m5 d5) wr) (fun _ i _=>ss.length-(intOf i).toNat)
   case atStart=>exact ⟨0,Nat.zero_le _,rfl,by simp [kj],dM,fR,Df.out⟩
   case round =>
    clear fR Df Ai dM
    obtain ⟨k,hk,rfl,rfl,hb,fR,By⟩:=hrel
    have Ai:=bc By;clear By
    have b_:([40]++dec lv++kj (ss.take k)).length<=16777216:=by
     have h1:=pd ss k
     have h2:=ad.out
     simp only [List.length_append,List.length_cons,List.length_nil];omega
    by_cases cZ:k<ss.length
    ·obtain ⟨bb,o,s',v',b2,n2,e2,b3,n3,e3,t,eb,hbb,ht,u0,u1,u2,u3,hr⟩:=ATK.out k cZ
     subst eb
     have q0:=(hb.cell hbb).trans u0
     have q1:=(hb.cell hbb).trans u1
     have q2:=(hb.cell hbb).trans u2
     have q3:=(hb.cell hbb).trans u3
     have fl:=zG.below (F':=fun _=>True) hb (fun _ _=>trivial) hr
     have dO:=yR ht
     have d9:=vL ss (k+1)
     have fO:=ad.out
     have mW:=qV t (lvBs_at _ LV.out k t ht)
     have C:=bc (IH.out t (by omega) (lvBs_at _ LV.out k t ht) _ wr _ _ _ _ fl)
     have HT:=bc (textBs_take ht)
     have ht16:(kt t).length<=16777216:=by omega
     have dd:(k:Int)<(ss.length:Int):=by omega
     generalize hO:[40]++dec lv++kj (ss.take k)=O at *
     have HO:=bc hO
     have fN:=fun w0=>kN (P:=Tryz.prog) O [32] (by simp;omega) w0
     have mJ:=fun w0=>kN (P:=Tryz.prog) (O++[32]) (kt t) (by simp;omega) w0
     clear hO dO d9 fO mW ht u0 u1 u2 u3 hr fl
     go_wp2_with fail
     refine C.out.mono ?_
     rintro en w2 ⟨rfl,b8⟩
     have cP:=zzT hb b8
     have hx2':w2.cell? ⟨w.heap.size,2,none⟩=some (.slice (some ⟨bb,o,none⟩) ss.length c2):=(b8.cell (be _ ⟨w.heap.size,2,none⟩ fR)).trans fR
     have HKY2:=bc (Ai.out.below b8)
     go_wp2_with fail
     go_roundw
     case rel=>exact ⟨k+1,by omega,by go_num,by rw [HT.out,<- HO.out];simp [str],cP,hx2',HKY2.out⟩
     case measure=>simp [intOf];omega
    ·obtain rfl:k=ss.length:=by omega
     rw [List.take_length] at b_ ⊢
     have hnl:¬ ((ss.length:Int)<(ss.length:Int)):=by omega
     have HE:Hid (kt (.ask lv ss yb nb)=((((([40]++dec lv++kj ss)++[32])++kt yb)++[32])++kt nb)++[41]):=by show kt _=_;rw [kt]
     generalize hO:[40]++dec lv++kj ss=O at *
     clear hO
     obtain ⟨iQ,q0,q1,q2,q3,q4,q5,q6,q7⟩:=Ai.out
     have AJ:=(zG.below (F':=fun _=>True) hb (fun _ _=>trivial) HRY.out).drew
     have AM:=zG.below (F':=fun _=>True) hb (fun _ _=>trivial) HRN.out
     have fO:=ad.out
     have mW:=HYN.out
     have y16:(kt yb).length<=16777216:=by omega
     have n16:(kt nb).length<=16777216:=by omega
     have pp:=qm yb;have pq:=qm nb
     have CY:=bc (IH.out yb (by omega) LV3.out _ wr.drew _ _ _ _ AJ)
     have CN:=fun W F' h=>IH.out nb (by omega) LV4.out F' W (str s1) (.int .i64 v1) (.slice p4 m4 d4) (.slice p5 m5 d5) h
     have CN':=bc CN;clear CN
     have RN:=bc AM
     have e16:(O++[32]).length=O.length+1:=by simp
     obtain ⟨O1,h1⟩:=zzM (O++[32])
     obtain ⟨O2,h2⟩:=zzM (O1++kt yb)
     obtain ⟨O3,h3⟩:=zzM (O2++[32])
     obtain ⟨O4,h4⟩:=zzM (O3++kt nb)
     obtain ⟨O5,h5⟩:=zzM (O4++[41])
     have l1:O1.length<=16777217:=by rw [h1];simp;omega
     have l2:O2.length<=33554433:=by rw [h2];simp;omega
     have l3:O3.length<=33554434:=by rw [h3];simp;omega
     have l4:O4.length<=50331650:=by rw [h4];simp;omega
     have fN:=fun w0=>kN (P:=Tryz.prog) O [32] (by simp;omega) w0
     have mJ:=fun w0=>kN (P:=Tryz.prog) O1 (kt yb) (by omega) w0
     have tX:=fun w0=>kN (P:=Tryz.prog) O2 [32] (by simp;omega) w0
     have tY:=fun w0=>kN (P:=Tryz.prog) O3 (kt nb) (by omega) w0
     have Cn:=fun w0=>kN (P:=Tryz.prog) O4 [41] (by simp;omega) w0
     have HE5:Hid (O5=kt (.ask lv ss yb nb)):=by show O5=_;rw [HE.out,h5,h4,h3,h2,h1]
     rw [<- h1] at fN;rw [<- h2] at mJ;rw [<- h3] at tX;rw [<- h4] at tY;rw [<- h5] at Cn
     clear h1 h2 h3 h4 h5 HE e16 l1 l2 l3 l4
     have hKd:KeepY w.heap.size (.slice (some ⟨d7,yo,none⟩) 2 c3) d7 yo (str s0) (.int .i64 v0) (.slice p2 m2 d2) (.slice p3 m3 d3) (str s1) (.int .i64 v1) (.slice p4 m4 d4) (.slice p5 m5 d5) wr.drew:=Ai.out
     clear fO mW pp pq AJ AM t1 t2 t3 t4
     go_wp2_with fail
     go_region_held3 (fun w'=>w'.cell? ⟨w.heap.size,3,none⟩=some (.slice (some ⟨d7,yo,none⟩) 2 c3)/\w'.cell? ⟨d7,yo,none⟩=some (str s0)/\w'.cell? ⟨d7,yo+1,none⟩=some (.int .i64 v0)/\w'.cell? ⟨d7,yo+2,none⟩=some (.slice p2 m2 d2)/\w'.cell? ⟨d7,yo+3,none⟩=some (.slice p3 m3 d3)/\w'.cell? ⟨d7,yo+4,none⟩=some (str s1)/\w'.cell? ⟨d7,yo+5,none⟩=some (.int .i64 v1)/\w'.cell? ⟨d7,yo+6,none⟩=some (.slice p4 m4 d4)/\w'.cell? ⟨d7,yo+7,none⟩=some (.slice p5 m5 d5))
      (first
       | with_reducible exact hKd
       | with_reducible exact tg
       | with_reducible exact hK4)
      (first
       | (go_at_call 57;refine (CN'.out _ _ rn3).mono ?_;rintro en w4 ⟨rfl,cA⟩;have hK4:=tg.below cA)
       | (go_at_call 57;refine CY.out.mono ?_;rintro en w3 ⟨rfl,cP⟩;have tg:=hKd.below cP;have rn3:=zG.below (F':=fun _=>True) cP (fun _ _=>trivial) RN.out.drew))
     go_wp2_with fail
     go_ret
     exact ⟨by rw [<- HE5.out];rfl,hb.trans ((((bi _ wr).drew).trans (zzT cP cA)).mono hb.size)⟩
theorem l3Text_any (n:Nat):∀ b,zL b<=n->n<=1000000->lvB b->pK b:=by
 induction n with
 | zero=>intro b h _;have:=qm b;omega
 | succ n ih=>exact fun b h hn dx=>l3Text_step b (by omega) dx (fun b' h' eS=>ih b' (by omega) (by omega) eS)
mutual
def bH:SC->List DV
 | .mk b t env bg i=>[.val (.int .i64 (-1))]++(kC b++[jX t,.sl 187 9 env.length (z8 env),.val (.int .i64 (bg:Nat)),.val (.int .i64 (i:Nat))])
def z8:List SC->List DV
 | []=>[]
 | x::xs=>bH x++z8 xs
end
theorem yZ (x:SC):(bH x).length=9:=by cases x;simp [bH,qS]
theorem xP:∀ xs:List SC,(z8 xs).length=xs.length*9
 | []=>by simp [z8]
 | x::xs=>by rw [z8,List.length_append,yZ,xP xs];simp;omega
theorem uV:∀ (xs ys:List SC),z8 (xs++ys)=z8 xs++z8 ys
 | [],ys=>by simp [z8]
 | x::xs,ys=>by simp [z8,uV xs ys]
theorem ownS_at (env:List SC) (m:Nat):∀ (ts:List Ty) (ss:List Bd) (i k:Nat) (t:Ty) (s:Bd),ts[k]? = some t->ss[k]? = some s->(qM env m i ts ss)[k]? = some (.mk s t env m (i+k))
 | [],ss,i,k,t,s,h,_=>by simp at h
 | t'::ts,[],i,k,t,s,_,h=>by simp at h
 | t'::ts,s'::ss,i,k,t,s,h1,h2=>by
   rw [qM]
   cases k with
   | zero=>simp at h1 h2;subst h1;subst h2;simp
   | succ k=>simp only [List.getElem?_cons_succ] at *;rw [ownS_at env m ts ss (i+1) k t s h1 h2,show i+1+k=i+(k+1) from by omega]
theorem j3 (env:List SC) (m:Nat):∀ (ts:List Ty) (ss:List Bd) (i:Nat),ts.length=ss.length->(qM env m i ts ss).length=ss.length
 | [],[],i,_=>by rw [qM];· rfl
                 ·intros;contradiction
 | [],s::ss,i,h=>by simp at h
 | t::ts,[],i,h=>by simp at h
 | t::ts,s::ss,i,h=>by rw [qM];simp [j3 env m ts ss (i+1) (by simpa using h)]
theorem yL {F:Nat->Prop} {w:World}:∀ (xs:List SC) (us:List Value),zG F w (z8 xs) us->∀ u∈us,u.oneCell'=true
 | [],us,h,u,hu=>by rw [z8,zC] at h;subst h;simp at hu
 | .mk b t env bg i::xs,us,h,u,hu=>by
   rw [z8] at h
   obtain ⟨h1,h2⟩:=h.split
   rw [yZ] at h1 h2
   rw [<- List.take_append_drop 9 us] at hu
   rcases List.mem_append.1 hu with hu | hu
   ·rw [bH] at h1
    obtain ⟨k1,k2⟩:=h1.split
    obtain ⟨k3,k4⟩:=k2.split
    rw [<- List.take_append_drop 1 (us.take 9)] at hu
    rcases List.mem_append.1 hu with hu | hu
    ·simp only [List.length_singleton,zJ,zC,zI] at k1
     obtain ⟨_,_,e,rfl,rfl⟩:=k1
     rw [e] at hu;simp at hu;subst hu;rfl
    ·rw [qS] at k3 k4
     simp only [List.length_singleton] at k3 k4
     rw [<- List.take_append_drop 4 (List.drop 1 (us.take 9))] at hu
     rcases List.mem_append.1 hu with hu | hu
     ·exact oneCell_encN k3 u hu
     ·simp only [zJ,zC,zI] at k4
      obtain ⟨x0,_,e,q1,x1,_,rfl,q2,_,_,rfl,rfl,_,_,rfl,rfl,rfl⟩:=k4
      rw [e] at hu
      obtain ⟨sa,sc,rfl⟩:=zl q1
      rw [kP] at q2
      obtain ⟨_,a,c,rfl,_⟩:=q2
      simp only [List.mem_cons,List.not_mem_nil,or_false] at hu
      rcases hu with rfl | rfl | rfl | rfl <;> rfl
   ·exact yL xs _ h2 u hu
def pY (F:Nat->Prop) (hand:List SC) (own:List SC) (w:World) (en:Ending) (w':World):Prop :=
 ∃ a c,en=.returned (.slice a (hand.length+own.length) c)/\Below w.heap.size w w'/\Rep (fun i=>F i\/w.heap.size<=i) w' (.sl 187 9 (hand.length+own.length) (z8 (hand++own))) (.slice a (hand.length+own.length) c)
set_option maxRecDepth 100000 in
theorem pI (F:Nat->Prop) (hand env:List SC) (ss:List Bd) (t:Ty) (begun:Nat) (hv kv tv ev:Value) (w:World) (hh:Rep F w (.sl 187 9 hand.length (z8 hand)) hv) (hk:Rep F w (.sl 64 4 ss.length (zm ss)) kv)
 (ht:Rep F w (jX t) tv) (he:Rep F w (.sl 187 9 env.length (z8 env)) ev) (hl:hand.length<=10000000) (hs:ss.length=t.args.length) (lY:ss.length<=16) :
 Calls Tryz.prog 78 #[hv,kv,.agg #[tv],ev,.int .i64 (begun:Nat)] w (pY F hand (qM env begun 0 t.args ss) w):=by
 obtain ⟨xs1,fI,g1⟩:=zM.ofRep hh (yL _)
 obtain ⟨a1,c1,e1⟩:=g1.slice
 subst e1
 obtain ⟨ka,kc,e,iO⟩:=AtNs.of hk
 subst e
 have eM:=ht
 rw [qY] at eM
 obtain ⟨ta,tc,e,_,_,t6⟩:=zF eM
 subst e
 obtain ⟨ea,ec,e⟩:∃ a c,ev=.slice a env.length c:=by have h:=he;rw [kP] at h;obtain ⟨_,a,c,e,_⟩:=h;exact ⟨a,c,e⟩
 subst e
 have H:=bc (bm fI (bm g1 (bm iO (bm t6 (bm he hs)))))
 clear fI g1 iO t6 he hs hh hk ht eM
 have iM:(qM env begun 0 t.args ss).length=ss.length:=j3 _ _ _ _ _ H.out.2.2.2.2.2.symm
 have HOL:=bc iM;clear iM
 go_enter Tryz.func78,Tryz.ntmps78
 go_wp2_with (at_builtin;refine zW rfl _ _ 135 rfl 187 (.agg #[.int .i64 0,str [],.int .i64 0,.slice none 0 0,.slice none 0 0,.slice none 0 0,.slice none 0 0,.int .i64 0,.int .i64 0]) 9 144 Tryz.underlying135 Tryz.infoBo rfl (by decide) (.slice (some ⟨w.heap.size+1,0,none⟩) 0 0) 0 [] rfl ?c1 _ hand.length xs1 rfl ?c2 ?c3 ?c4 ?_)
 case c1=>exact Own.litAt #[] 0 _ (by simp) (by decide) rfl
 case c2=>exact (H.out.2.1.alloc _).alloc _
 case c3=>unfold maxLen;omega
 case c4=>omega
 intro ax cx wx hox mA hgx
 obtain ⟨l6,hfx⟩:=uo (w:=w.alloc (.cells #[.slice ta t.args.length tc] 61)) ((bi _ _).alloc (br _) _) (own_some (by simp)) mA (fun g h=>by have:=hgx g h;simpa only [zK] using this)
 have dM:Below w.heap.size w (w.alloc (.cells #[.slice ta t.args.length tc] 61)):=(bi _ _).alloc (br _) _
 have B6:Below w.heap.size w wx:=dM.trans (l6.mono (by rw [zK];omega))
 have BW:wx.cell? ⟨w.heap.size,0,none⟩=some (.slice ta t.args.length tc):=by rw [l6.cell (p:=⟨w.heap.size,0,none⟩) (by rw [zK];simp)];simp
 have BJ:∀ g,(Value.slice ax hand.length cx).ownBlock=some g->w.heap.size+1<=g:=fun g hg=>by have:=hfx g hg;rwa [zK] at this
 have HX:=bc (bm hox (bm B6 (bm BW BJ)));clear hox mA hgx l6 hfx dM B6 BW BJ
 go_wp2_with fail
 go_loopw [12,11] (fun i o wr=>∃ (k:Nat) (a':Option Addr) (c':Nat) (cells:List Value),k<=ss.length/\i=.int .i64 k/\o=.slice a' (hand.length+k) c'/\Own wr 187 9 (.slice a' (hand.length+k) c') (hand.length+k) cells /\
  zG (fun i=>F i/\(Value.slice a' (hand.length+k) c').ownBlock≠some i) wr (z8 (hand++(qM env begun 0 t.args ss).take k)) cells/\Below w.heap.size w wr/\wr.cell? ⟨w.heap.size,0,none⟩=some (.slice ta t.args.length tc)/\(∀ g,(Value.slice a' (hand.length+k) c').ownBlock=some g->w.heap.size+1<=g)) (fun i _ _=>ss.length-(intOf i).toNat)
 case atStart =>
  refine ⟨0,ax,cx,xs1,Nat.zero_le _,rfl,rfl,HX.out.1,?_,HX.out.2.1,HX.out.2.2.1,HX.out.2.2.2⟩
  rw [List.take_zero,List.append_nil]
  exact (Rep.keep fun b o hf ho=>⟨⟨hf,fun e=>by have h1:w.heap.size+1<=b:=HX.out.2.2.2 b e;have:=zZ ho;omega⟩,by rw [HX.out.2.1.block b (zZ ho)];exact ho⟩).2 _ _ H.out.1
 case round =>
  obtain ⟨k,a',c',cells,hk,rfl,rfl,ho,hr,hb,hc,hf⟩:=hrel
  have HR:=bc (bm ho (bm hr (bm hb hf)));clear ho hr hb hf
  by_cases cZ:k<ss.length
  ·obtain ⟨kb,ko,s',v',a2,n2,c2,a3,n3,c3,d,e,ri,hd,k0,k1,k2,k3,dZ⟩:=H.out.2.2.1 k cZ
   subst e
   have Bw:k<t.args.length:=by have:=H.out.2.2.2.2.2;omega
   obtain ⟨bt,ot,ut,dt,e,_,dX,hdt,iv,dY⟩:=H.out.2.2.2.1 k Bw
   subst e
   rw [jv,Option.map_eq_some_iff] at hdt
   obtain ⟨tk,dI,rfl⟩:=hdt
   obtain ⟨ua,uc,rfl⟩:=zl dY
   have q0:=(HR.out.2.2.1.cell (p:=⟨kb,ko+k*4,none⟩) ri).trans k0
   have q1:=(HR.out.2.2.1.cell (p:=⟨kb,ko+k*4+1,none⟩) ri).trans k1
   have q2:=(HR.out.2.2.1.cell (p:=⟨kb,ko+k*4+2,none⟩) ri).trans k2
   have q3:=(HR.out.2.2.1.cell (p:=⟨kb,ko+k*4+3,none⟩) ri).trans k3
   have q4:=(HR.out.2.2.1.cell (p:=⟨bt,ot+k,none⟩) dX).trans iv
   have HK:=bc (bm hd (bm dZ (bm dI dY)));clear hd dZ dI dY k0 k1 k2 k3 iv
   have dd:(k:Int)<(ss.length:Int):=by omega
   have Bv:(k:Int)<(t.args.length:Int):=by omega
   have h09:0<9:=by omega
   have hmx:hand.length+k+1<=maxLen:=by unfold maxLen;omega
   have dm:(hand.length+k+1)*144<=140737488355328:=by omega
   have sy:=(zM.litk (w:=wr) (e:=187) #[.int .i64 (-1),str s',.int .i64 v',.slice a2 n2 c2,.slice a3 n3 c3,.slice ua tk.args.length uc,.slice ea env.length ec,.int .i64 (begun:Nat),.int .i64 (k:Nat)] rfl (by simp [str,Value.oneCell']) _ rfl).drew
   have HL:=bc sy;clear sy
   have hrw:∀ g,(Value.slice a' (hand.length+k) c').ownBlock=some g->g<wr.heap.size:=fun g hg=>HR.out.1.lt hg
   have SIX:Hid (∀ w7:World,But (fun b=>(Value.slice a' (hand.length+k) c').ownBlock=some b) (wr.alloc (.cells #[.int .i64 (-1),str s',.int .i64 v',.slice a2 n2 c2,.slice a3 n3 c3,.slice ua tk.args.length uc,.slice ea env.length ec,.int .i64 (begun:Nat),.int .i64 (k:Nat)] 187)).drew w7 ->
    w7.cell? ⟨kb,ko+k*4,none⟩=some (str s')/\w7.cell? ⟨kb,ko+k*4+1,none⟩=some (.int .i64 v')/\w7.cell? ⟨kb,ko+k*4+2,none⟩=some (.slice a2 n2 c2)/\w7.cell? ⟨kb,ko+k*4+3,none⟩=some (.slice a3 n3 c3)/\w7.cell? ⟨bt,ot+k,none⟩=some (.slice ua tk.args.length uc)/\w7.cell? ⟨w.heap.size,0,none⟩=some (.slice (some ⟨bt,ot,none⟩) t.args.length tc)):=by
    show ∀ w7:World,_->_
    intro w7 cJ
    have hz:=HR.out.2.2.1.size
    have key:∀ (p:Addr) (u:Value),p.block<w.heap.size+1->wr.cell? p=some u->w7.cell? p=some u:=by
     intro p u hp hu
     have h1:(wr.alloc (.cells #[.int .i64 (-1),str s',.int .i64 v',.slice a2 n2 c2,.slice a3 n3 c3,.slice ua tk.args.length uc,.slice ea env.length ec,.int .i64 (begun:Nat),.int .i64 (k:Nat)] 187)).drew.cell? p=some u:=zU hu
     exact (cJ.cell (be _ _ h1) (fun e=>by have:=HR.out.2.2.2 _ e;omega)).trans h1
    exact ⟨key _ _ (by simp only;omega) q0,key _ _ (by simp only;omega) q1,key _ _ (by simp only;omega) q2,key _ _ (by simp only;omega) q3,key _ _ (by simp only;omega) q4,key _ _ (by simp only;omega) hc⟩
   go_wp2_with fail
   go_region_held3 (fun w'=>w'.cell? ⟨kb,ko+k*4,none⟩=some (str s')/\w'.cell? ⟨kb,ko+k*4+1,none⟩=some (.int .i64 v')/\w'.cell? ⟨kb,ko+k*4+2,none⟩=some (.slice a2 n2 c2)/\w'.cell? ⟨kb,ko+k*4+3,none⟩=some (.slice a3 n3 c3)/\w'.cell? ⟨bt,ot+k,none⟩=some (.slice ua tk.args.length uc)/\w'.cell? ⟨w.heap.size,0,none⟩=some (.slice (some ⟨bt,ot,none⟩) t.args.length tc))
    (first
     | exact ⟨q0,q1,q2,q3,q4,hc⟩
     | exact hS7
     | go_keep)
    (first
     | (refine kK (by rfl) _ _ _ (by rfl) 187 (.agg #[.int .i64 0,str [],.int .i64 0,.slice none 0 0,.slice none 0 0,.slice none 0 0,.slice none 0 0,.int .i64 0,.int .i64 0]) 9 144 Tryz.underlying135 Tryz.infoBo rfl h09 (.slice a' (hand.length+k) c') (hand.length+k) cells (by rfl) (HR.out.1.alloc _).drew _ 1 [.int .i64 (-1),str s',.int .i64 v',.slice a2 n2 c2,.slice a3 n3 c3,.slice ua tk.args.length uc,.slice ea env.length ec,.int .i64 (begun:Nat),.int .i64 (k:Nat)] (by rfl) HL.out hmx dm ?_;intro a7 c7 w7 dP cJ cB;have hS7:=SIX.out w7 cJ))
   have hz:=HR.out.2.2.1.size
   have dl:∀ g,(Value.slice a7 (hand.length+k+1) c7).ownBlock=some g->(Value.slice a' (hand.length+k) c').ownBlock=some g\/g=wr.heap.size+1:=by
    intro g hg
    rcases cB g hg with h | h
    ·exact .inl h
    ·exact .inr (by rw [h];exact zK _ _)
   have ci:Below w.heap.size w w7:=by
    refine ((HR.out.2.2.1.alloc hz _).drew).trans (cJ.toBelow (by show _<=(wr.alloc _).heap.size;rw [zK];omega) fun i hi e=>?_)
    have:=HR.out.2.2.2 i e;omega
   have de:∀ (b:Nat) (o:Obj),(Value.slice a' (hand.length+k) c').ownBlock≠some b->wr.heap[b]? = some o->w7.heap[b]? = some o:=by
    intro b o hf ho
    have h2:=zZ ho
    have h3:(wr.alloc (.cells #[.int .i64 (-1),str s',.int .i64 v',.slice a2 n2 c2,.slice a3 n3 c3,.slice ua tk.args.length uc,.slice ea env.length ec,.int .i64 (begun:Nat),.int .i64 (k:Nat)] 187)).drew.heap[b]? = some o:=zX ho
    rw [cJ.block b (zZ h3) hf];exact h3
   have np:zG (fun i=>F i/\(Value.slice a7 (hand.length+k+1) c7).ownBlock≠some i) w7 (z8 (hand++(qM env begun 0 t.args ss).take (k+1))) (cells++[.int .i64 (-1),str s',.int .i64 v',.slice a2 n2 c2,.slice a3 n3 c3,.slice ua tk.args.length uc,.slice ea env.length ec,.int .i64 (begun:Nat),.int .i64 (k:Nat)]):=by
    have how:=ownS_at env begun t.args ss 0 k tk d HK.out.2.2.1 HK.out.1
    rw [Nat.zero_add] at how
    rw [List.take_add_one,how]
    simp only [Option.toList_some]
    rw [<- List.append_assoc,uV]
    have Bg:∀ (b:Nat) (o:Obj),F b->w.heap[b]? = some o->(F b/\(Value.slice a7 (hand.length+k+1) c7).ownBlock≠some b)/\w7.heap[b]? = some o:=by
     intro b o hf ho
     have h1:=zZ ho
     refine ⟨⟨hf,fun e=>?_⟩,by rw [ci.block b h1];exact ho⟩
     rcases dl b e with h | h
     ·have:=HR.out.2.2.2 b h;omega
     ·omega
    refine zG.append ?_ ?_
    ·exact (Rep.keep fun b o hf ho=>⟨⟨hf.1,fun e=>by
      have:=zZ ho
      rcases dl b e with h | h
      ·exact hf.2 h
      ·omega⟩,de b o hf.2 ho⟩).2 _ _ HR.out.2.1
    ·simp only [z8,bH,List.append_nil,List.cons_append,List.nil_append]
     refine zJ.2 ⟨_,_,rfl,zI.2 rfl,?_⟩
     have h4:=(Rep.keep Bg).2 _ _ HK.out.2.1
     have h5:=(Rep.keep Bg).1 _ _ HK.out.2.2.2
     have h6:=(Rep.keep Bg).1 _ _ H.out.2.2.2.2.1
     exact zG.append h4 (zJ.2 ⟨_,_,rfl,h5,zJ.2 ⟨_,_,rfl,h6,zJ.2 ⟨_,_,rfl,zI.2 rfl,zJ.2 ⟨_,_,rfl,zI.2 rfl,zC.2 rfl⟩⟩⟩⟩)
   have eA:∀ g,(Value.slice a7 (hand.length+k+1) c7).ownBlock=some g->w.heap.size+1<=g:=by
    intro g hg
    rcases dl g hg with h | h
    ·exact HR.out.2.2.2 g h
    ·omega
   have H7:=bc (bm dP (bm np (bm ci (bm hS7.2.2.2.2.2 eA))));clear dP np ci hS7 eA cJ cB dl de q0 q1 q2 q3 q4 hc
   go_wp2_with fail
   go_roundw
   case rel=>exact ⟨k+1,a7,c7,_,by omega,by go_num,rfl,H7.out.1,H7.out.2.1,H7.out.2.2.1,H7.out.2.2.2.1,H7.out.2.2.2.2⟩
   case measure=>simp [intOf];omega
  ·obtain rfl:k=ss.length:=by omega
   have lD:¬ (ss.length:Int)<(ss.length:Int):=by omega
   clear hc
   go_wp2_with fail
   go_ret
   have hr:=HR.out.2.1
   rw [List.take_of_length_le (by rw [HOL.out];exact br _)] at hr
   unfold pY
   rw [HOL.out]
   refine ⟨a',c',rfl,HR.out.2.2.1,HR.out.1.rep (fun g hg=>.inr (by have:=HR.out.2.2.2 g hg;omega)) ((Rep.keep fun b o hf ho=>⟨.inl hf.1,ho⟩).2 _ _ hr)⟩
structure RS (keep:Bool) (most ra:Nat) (log:List (Bs×Int)) (mv pt:Value) (w:World):Prop where
 blk:w.heap[ra]? = some (.cells #[mv,pt,.int .i64 (log.length:Nat),.int .i64 (most:Nat),.bool keep,.bool (decide (most<log.length))] 80 (0,0))
 sls:∃ a n k a' n' k',mv=.slice a n k/\pt=.slice a' n' k'
 rows:keep=true->log.length<=most->Own w 9 1 mv log.length (jk log)/\Own w 3 1 pt log.length (jU log)
 ne:∀ g,mv.ownBlock=some g\/pt.ownBlock=some g->g≠ra/\g<w.heap.size
theorem RS.but {keep:Bool} {most ra:Nat} {log:List (Bs×Int)} {mv pt:Value} {m:Nat->Prop} {w w':World} (h:RS keep most ra log mv pt w) (hb:But m w w') (hm:∀ b,MBk ra mv pt b->¬ m b):RS keep most ra log mv pt w' :=
 ⟨by rw [hb.block ra (zZ h.blk) (hm ra (.inl rfl))];exact h.blk,h.sls,
  fun hk hl=>⟨(h.rows hk hl).1.keep fun g o hg ho=>by rw [hb.block g (zZ ho) (hm g (.inr (.inl hg)))];exact ho,(h.rows hk hl).2.keep fun g o hg ho=>by rw [hb.block g (zZ ho) (hm g (.inr (.inr hg)))];exact ho⟩,
  fun g hg=>⟨(h.ne g hg).1,b6 (h.ne g hg).2 hb.size⟩⟩
theorem RS.below {keep:Bool} {most ra:Nat} {log:List (Bs×Int)} {mv pt:Value} {w w':World} (h:RS keep most ra log mv pt w) (hb:Below w.heap.size w w'):RS keep most ra log mv pt w' :=
 h.but (m:=fun _=>False) (But.ofBelow hb) fun _ _ h=>h
theorem RS.drew {keep:Bool} {most ra:Nat} {log:List (Bs×Int)} {mv pt:Value} {w:World} (h:RS keep most ra log mv pt w):RS keep most ra log mv pt w.drew:=h.but (m:=fun _=>False) (But.refl _ _).drew fun _ _ h=>h
theorem RS.lt {keep:Bool} {most ra:Nat} {log:List (Bs×Int)} {mv pt:Value} {w:World} (h:RS keep most ra log mv pt w) {b:Nat} (hb:MBk ra mv pt b):b<w.heap.size:=by
 rcases hb with rfl | hb | hb
 ·exact zZ h.blk
 ·exact (h.ne b (.inl hb)).2
 ·exact (h.ne b (.inr hb)).2
theorem RS.bad {keep:Bool} {most ra:Nat} {log:List (Bs×Int)} {mv pt:Value} {w:World} (h:RS keep most ra log mv pt w):w.cell? ⟨ra,5,none⟩=some (.bool (decide (most<log.length))):=by simp [World.cell?,h.blk]
def bj (keep:Bool):Prop:=∀ (most ra:Nat) (log:List (Bs×Int)) (mv pt:Value) (s:Bs) (p:Int) (w:World),RS keep most ra log mv pt w->log.length<=most->most<=100000->s.length<=1000000 ->
 Calls Tryz.prog 76 #[.pointer (some ⟨ra,0,none⟩),str s,.int .i64 p] w fun en w'=>∃ mv' pt',en=.returned (.int .i64 (log.length:Nat))/\But (MBk ra mv pt) w w'/\RS keep most ra (log++[(s,p)]) mv' pt' w'/\(∀ b,MBk ra mv' pt' b->MBk ra mv pt b\/w.heap.size<=b)
def bz (keep:Bool):Prop:=∀ (most ra:Nat) (log:List (Bs×Int)) (mv pt:Value) (i:Nat) (w:World),RS keep most ra log mv pt w->log.length<=most->most<=100000->(∃ q p,log[i]? = some (q,p)/\1<=q.length/\q.length<=1000000) ->
 Calls Tryz.prog 112 #[.pointer (some ⟨ra,0,none⟩),.int .i64 (i:Nat)] w fun en w'=>en=.returned (str (qO keep log i))/\w'=w
structure BoxS (F:Nat->Prop) (B:Nat) (b:Bd) (v:Int) (x2 x3:Value) (w:World):Prop where
 blk:w.heap[B]? = some (.cells #[str (zt b),.int .i64 v,x2,x3] 64 (0,0))
 rep:zG F w (kC b) [str (zt b),.int .i64 v,x2,x3]
def encSF (x:SF):List DV:=kC (.ask x.v x.ss x.yes x.no)++[.sl 187 9 x.env.length (z8 x.env),.val (.int .i64 (x.opens:Nat))]
def jZ:List SF->List DV
 | []=>[]
 | x::xs=>encSF x++jZ xs
theorem encSF_length (x:SF):(encSF x).length=6:=by simp [encSF,qS]
theorem uJ:∀ (xs ys:List SF),jZ (xs++ys)=jZ xs++jZ ys
 | [],ys=>by simp [jZ]
 | x::xs,ys=>by simp [jZ,uJ xs ys]
theorem xW:∀ fs:List SF,(jZ fs).length=fs.length*6
 | []=>by simp [jZ]
 | f::fs=>by rw [jZ,List.length_append,xW fs,encSF_length];simp;omega
mutual
def okN (n:Nat):SC->Prop
 | .mk b _ e bg i=>nB b/\uK n e/\e.length<=16*n/\bg<n/\i<=15
def uK (n:Nat):List SC->Prop
 | []=>True
 | c::cs=>okN n c/\uK n cs
end
mutual
theorem okN_mono {n m:Nat} (h:n<=m):∀ c,okN n c->okN m c
 | .mk b _ e bg i,k=>by
   rw [okN] at *
   exact ⟨k.1,jc h e k.2.1,by have:=k.2.2.1;omega,by have:=k.2.2.2.1;omega,k.2.2.2.2⟩
theorem jc {n m:Nat} (h:n<=m):∀ cs,uK n cs->uK m cs
 | [],k=>by rw [uK] at *;trivial
 | c::cs,k=>by rw [uK] at *;exact ⟨okN_mono h c k.1,jc h cs k.2⟩
end
theorem okNs_at {n:Nat}:∀ (cs:List SC),uK n cs->∀ (i:Nat) (c:SC),cs[i]? = some c->okN n c
 | [],_,i,c,h=>by simp at h
 | x::cs,k,i,c,h=>by
   rw [uK] at k
   cases i with
   | zero=>simp at h;subst h;exact k.1
   | succ i=>exact okNs_at cs k.2 i c (by simpa using h)
theorem pR {n:Nat}:∀ (xs ys:List SC),uK n xs->uK n ys->uK n (xs++ys)
 | [],ys,_,h=>h
 | x::xs,ys,h,k=>by rw [uK] at h;exact ⟨h.1,pR xs ys h.2 k⟩
theorem ga {n m:Nat} {env:List SC} (he:uK n env) (hl:env.length<=16*n) (hm:m<n):∀ (ts:List Ty) (ss:List Bd) (i:Nat),i+ss.length<=16->nBs ss->uK n (qM env m i ts ss)
 | [],ss,i,_,_=>by
   rw [qM]
   ·rw [uK];trivial
   ·intros;contradiction
 | t::ts,[],i,_,_=>by
   rw [qM]
   ·rw [uK];trivial
   ·intros;contradiction
 | t::ts,s::ss,i,hi,h=>by
   rw [nBs] at h
   simp only [List.length_cons] at hi
   rw [qM,uK]
   refine ⟨?_,ga he hl hm ts ss (i+1) (by omega) h.2⟩
   rw [okN]
   exact ⟨h.1,he,hl,hm,by omega⟩
structure SFOk (n:Nat) (x:SF):Prop where
 ok:okF x
 yes:nB x.yes
 no:nB x.no
 env:uK n x.env
 len:x.env.length<=16*n
 opens:x.opens<n
theorem SFOk.mono {n m:Nat} {x:SF} (h:SFOk n x) (k:n<=m):SFOk m x:=⟨h.ok,h.yes,h.no,jc k _ h.env,by have:=h.len;omega,by have:=h.opens;omega⟩
def LogOk (log:List (Bs×Int)):Prop:=∀ (i:Nat) (q:Bs) (p:Int),log[i]? = some (q,p)->1<=q.length/\q.length<=2*log.length+1
theorem LogOk.snoc {log:List (Bs×Int)} (h:LogOk log) {s:Bs} {p:Int} (h1:1<=s.length) (h2:s.length<=2*log.length+3):LogOk (log++[(s,p)]):=by
 intro i q p' hi
 have hl:(log++[(s,p)]).length=log.length+1:=by simp
 rw [hl]
 rcases Nat.lt_or_ge i log.length with cZ | dp
 ·rw [List.getElem?_append_left cZ] at hi
  have:=h i q p' hi
  omega
 ·rw [List.getElem?_append_right dp] at hi
  rcases Nat.eq_zero_or_pos (i-log.length) with h0 | h0
  ·rw [h0] at hi;simp at hi;obtain ⟨rfl,rfl⟩:=hi;omega
  ·rw [List.getElem?_eq_none (by simp;omega)] at hi;simp at hi
theorem vh (keep:Bool) {log:List (Bs×Int)} (h:LogOk log) (i:Nat):(qO keep log i).length<=2*log.length:=by
 unfold qO
 split
 ·cases hi:log[i]? with
  | none=>simp
  | some x=>obtain ⟨q,p⟩:=x;have:=h i q p hi;simp;omega
 ·simp
structure GoPl (keep:Bool) (R:Option (UInt8×List (Bs×Int))) (most:Nat) (b:Bd) (env:List SC) (opens:Nat) (st:List SF) (log:List (Bs×Int)):Prop where
 goes:(log.length<=most/\R=jh keep (most-log.length) log b env opens st)\/(most<log.length/\log.length<=most+1/\R=none)
 wf:wfB b
 oks:uM env
 fit:kJ (env.map SC.kind) b
 nb:nB b
 oke:uK log.length env
 len:env.length<=16*log.length
 opn:opens<log.length
 frs:∀ f∈st,SFOk log.length f
 stl:st.length<=log.length
 lok:LogOk log
structure GoAt (keep:Bool) (most ra:Nat) (nW nU:Value) (w:World) (B:Nat) (b:Bd) (env:List SC) (opens:Nat) (st:List SF) (log:List (Bs×Int)) (mv pt:Value) (v:Int) (x2 x3 ev sv:Value) (cells:List Value) (wr:World):Prop where
 rs:RS keep most ra log mv pt wr
 box:BoxS (fun i=>¬ Chg ra mv pt B sv i) B b v x2 x3 wr
 re:Rep (fun i=>¬ Chg ra mv pt B sv i) wr (.sl 187 9 env.length (z8 env)) ev
 own:Own wr 185 6 sv st.length cells
 rf:zG (fun i=>¬ Chg ra mv pt B sv i) wr (jZ st.reverse) cells
 but:But (MBk ra nW nU) w wr
 new:∀ i,MBk ra mv pt i->MBk ra nW nU i\/w.heap.size<=i
 bB:w.heap.size<=B/\¬ MBk ra mv pt B
 sB:∀ g,sv.ownBlock=some g->w.heap.size<=g/\g≠B/\¬ MBk ra mv pt g
theorem gopl_back {keep:Bool} {R:Option (UInt8×List (Bs×Int))} {most:Nat} {c:UInt8} {env:List SC} {opens:Nat} {x:SF} {st:List SF} {log:List (Bs×Int)} (h:GoPl keep R most (.leaf c) env opens (x::st) log) (hc:c≠117) (hm:log.length<=most) :
 GoPl keep R most (if c=102 then x.no else x.yes) x.env x.opens st (log++[(c::qO keep log opens,(opens:Int))]):=by
 obtain ⟨m_,mU,aV,ct,eK,fP,b_,hopn,mC,fJ,sj⟩:=h
 have hl:(log++[(c::qO keep log opens,(opens:Int))]).length=log.length+1:=by simp
 have k:=mC x (by simp)
 have hf:=k.ok.fits
 have hp:=vh keep sj opens
 refine ⟨?_,by split;exact k.ok.no;exact k.ok.yes,k.ok.env,by split;exact hf.2;exact hf.1,by split;exact k.no;exact k.yes,by rw [hl];exact jc (by omega) _ k.env,by rw [hl];have:=k.len;omega,by rw [hl];have:=k.opens;omega,fun g hg=>by rw [hl];exact (mC g (by simp [hg])).mono (by omega),by rw [hl];simp at fJ;omega,sj.snoc (by simp) (by simp;omega)⟩
 rw [hl]
 rcases m_ with ⟨_,m_⟩ | ⟨h1,_⟩
 ·rcases Nat.lt_or_ge log.length most with h2 | h2
  ·refine .inl ⟨by omega,?_⟩
   obtain ⟨d,hd⟩:∃ d,most-log.length=d+1:=⟨most-log.length-1,by omega⟩
   rw [m_,hd,show most-(log.length+1)=d from by omega]
   simp only [jh,if_neg hc]
  ·refine .inr ⟨by omega,by omega,?_⟩
   rw [m_,show most-log.length=0 from by omega]
   simp only [jh,if_neg hc]
 ·omega
theorem gopl_ask {keep:Bool} {R:Option (UInt8×List (Bs×Int))} {most:Nat} {v:Nat} {ss:List Bd} {y n:Bd} {env:List SC} {opens:Nat} {st:List SF} {log:List (Bs×Int)} (h:GoPl keep R most (.ask v ss y n) env opens st log) (hm:log.length<=most) {e:SC} (he:env[v]? = some e) :
 GoPl keep R most e.body (e.env++qM env log.length 0 e.kind.args ss) log.length (⟨v,ss,y,n,env,opens⟩::st) (log++[(113::(qO keep log e.begun++dec e.arg),(e.begun:Int))]):=by
 obtain ⟨m_,mU,aV,ct,eK,fP,b_,hopn,mC,fJ,sj⟩:=h
 have hl:(log++[(113::(qO keep log e.begun++dec e.arg),(e.begun:Int))]).length=log.length+1:=by simp
 obtain ⟨k1,k2,k3⟩:=ask_ok aV ct mU he log.length
 obtain ⟨e',lw,_,nH,_⟩:=wM aV ct
 rw [he] at lw;simp at lw;subst lw
 have hp:=vh keep sj e.begun
 have eT:=okNs_at _ fP _ _ he
 have hnb':=eK
 rw [nB] at eK
 have o7:(dec e.arg).length<=2:=qx 1 _ (by obtain ⟨_,_,_,_,_⟩:=e;rw [okN] at eT;have:=eT.2.2.2.2;simp only [SC.arg];omega)
 obtain ⟨eb,et,ee,eg,ei⟩:=e
 rw [okN] at eT
 simp only [SC.body,SC.kind,SC.env,SC.begun,SC.arg] at *
 have cH:uK (log.length+1) (qM env log.length 0 et.args ss):=ga (jc (by omega) _ fP) (by omega) (by omega) et.args ss 0 (by omega) eK.2.1
 have hw:=mU
 rw [wfB] at hw
 refine ⟨?_,k1,k2,k3,eT.1,?_,?_,by rw [hl];omega,?_,by rw [hl];simp only [List.length_cons];omega,sj.snoc (by simp) (by simp only [List.length_cons,List.length_append];omega)⟩
 ·rw [hl]
  rcases m_ with ⟨_,m_⟩ | ⟨h1,_⟩
  ·rcases Nat.lt_or_ge log.length most with h2 | h2
   ·refine .inl ⟨by omega,?_⟩
    obtain ⟨d,hd⟩:∃ d,most-log.length=d+1:=⟨most-log.length-1,by omega⟩
    rw [m_,hd,show most-(log.length+1)=d from by omega]
    simp only [jh,he,SC.body,SC.kind,SC.env,SC.begun,SC.arg]
   ·refine .inr ⟨by omega,by omega,?_⟩
    rw [m_,show most-log.length=0 from by omega]
    simp only [jh]
  ·omega
 ·rw [hl];exact pR _ _ (jc (by omega) _ eT.2.1) cH
 ·rw [hl,List.length_append,j3 _ _ _ _ _ nH.symm];have:=eT.2.2.1;omega
 ·intro f hf
  rw [hl]
  rcases List.mem_cons.1 hf with rfl | hf
  ·exact ⟨⟨hw.2.1,hw.2.2,aV,ct⟩,eK.2.2.1,eK.2.2.2,jc (by omega) _ fP,by simp only;omega,by simp only;omega⟩
  ·exact (mC f hf).mono (by omega)
theorem rep_sl_at {F:Nat->Prop} {w:World} {T:TypeId} {sz n:Nat} {pre mid post:List DV} {v:Value} (h:Rep F w (.sl T sz n (pre++(mid++post))) v) {k:Nat} (hp:pre.length=k*sz) (hm:mid.length=sz) (hk:k<n) :
 ∃ b o cap vs,v=.slice (some ⟨b,o,none⟩) n cap/\F b/\b<w.heap.size/\zG F w mid vs/\∀ (j:Nat) (u:Value),vs[j]? = some u->w.cell? ⟨b,o+k*sz+j,none⟩=some u:=by
 rw [kP] at h
 obtain ⟨hl,a,cap,rfl,hn,hz,h⟩:=h
 rcases h with h0 | ⟨b,o,cs,fr,rfl,hb,hcs,hr⟩
 ·omega
 have h2:=hr.split.2
 rw [hp] at h2
 have h3:=h2.split.1
 rw [hm] at h3
 refine ⟨b,o,cap,_,rfl,hb,zZ hcs,h3,fun j u hj=>?_⟩
 have hj2:j<sz:=by
  have:=(List.getElem?_eq_some_iff.1 hj).1
  rw [<- h3.length,hm] at this;exact this
 rw [List.getElem?_take,if_pos hj2,List.getElem?_drop,List.getElem?_take] at hj
 split at hj
 ·rw [List.getElem?_drop] at hj
  simp only [World.cell?,hcs]
  simpa [Nat.add_assoc] using hj
 ·simp at hj
theorem encSCs_split {env:List SC} {v:Nat} {e:SC} (h:env[v]? = some e):z8 env=z8 (env.take v)++(bH e++z8 (env.drop (v+1))):=by
 have e2:env=env.take v++e::env.drop (v+1):=by
  have hv:=(List.getElem?_eq_some_iff.1 h).1
  have:env[v]=e:=(List.getElem?_eq_some_iff.1 h).2
  rw [<- this,List.getElem_cons_drop,List.take_append_drop]
 conv=>lhs;rw [e2]
 rw [uV,z8]
theorem boundR_at {F:Nat->Prop} {w:World} {env:List SC} {ev:Value} (h:Rep F w (.sl 187 9 env.length (z8 env)) ev) {v:Nat} {e:SC} (he:env[v]? = some e) :
 ∃ b o cap bv a2 c2 a3 c3 ta tc ea ec,ev=.slice (some ⟨b,o,none⟩) env.length cap/\F b/\b<w.heap.size/\w.cell? ⟨b,o+v*9,none⟩=some (.int .i64 (-1))/\w.cell? ⟨b,o+v*9+1,none⟩=some (str (zt e.body))/\w.cell? ⟨b,o+v*9+2,none⟩=some (.int .i64 bv) /\
   w.cell? ⟨b,o+v*9+3,none⟩=some (.slice a2 (k_ e.body).length c2)/\w.cell? ⟨b,o+v*9+4,none⟩=some (.slice a3 (qv e.body).length c3)/\w.cell? ⟨b,o+v*9+5,none⟩=some (.slice ta e.kind.args.length tc) /\
   w.cell? ⟨b,o+v*9+6,none⟩=some (.slice ea e.env.length ec)/\w.cell? ⟨b,o+v*9+7,none⟩=some (.int .i64 (e.begun:Nat))/\w.cell? ⟨b,o+v*9+8,none⟩=some (.int .i64 (e.arg:Nat)) /\
   zG F w (kC e.body) [str (zt e.body),.int .i64 bv,.slice a2 (k_ e.body).length c2,.slice a3 (qv e.body).length c3]/\Rep F w (jX e.kind) (.slice ta e.kind.args.length tc)/\Rep F w (.sl 187 9 e.env.length (z8 e.env)) (.slice ea e.env.length ec):=by
 have hv:=(List.getElem?_eq_some_iff.1 he).1
 rw [encSCs_split he] at h
 obtain ⟨b,o,cap,vs,rfl,hF,cZ,hr,hat⟩:=rep_sl_at h (k:=v) (by rw [xP,List.length_take,Nat.min_eq_left (by omega)]) (yZ e) hv
 obtain ⟨eb,et,ee,eg,ei⟩:=e
 rw [bH] at hr
 obtain ⟨k1,k2⟩:=hr.split
 obtain ⟨k3,k4⟩:=k2.split
 rw [qS] at k3 k4
 simp only [List.length_singleton,List.length_cons,List.length_nil,Nat.zero_add] at k1 k3 k4
 obtain ⟨bv,a2,c2,a3,c3,e3,_⟩:=jA k3
 simp only [zJ,zC,zI] at k1 k4
 obtain ⟨_,_,e1,rfl,rfl⟩:=k1
 obtain ⟨x0,_,e4,q1,x1,_,rfl,q2,_,_,rfl,rfl,_,_,rfl,rfl,rfl⟩:=k4
 obtain ⟨ta,tc,rfl⟩:=zl q1
 obtain ⟨ea,ec,rfl⟩:∃ a c,x1=.slice a ee.length c:=by
  have h:=q2;rw [kP] at h;obtain ⟨_,a,c,e,_⟩:=h;exact ⟨a,c,e⟩
 have hvs:vs=[.int .i64 (-1)]++([str (zt eb),.int .i64 bv,.slice a2 (k_ eb).length c2,.slice a3 (qv eb).length c3]++[.slice ta et.args.length tc,.slice ea ee.length ec,.int .i64 (eg:Nat),.int .i64 (ei:Nat)]):=by
  rw [<- e3,<- e4,<- e1,List.take_append_drop,List.take_append_drop]
 rw [e3] at k3
 subst hvs
 exact ⟨b,o,cap,bv,a2,c2,a3,c3,ta,tc,ea,ec,rfl,hF,cZ,hat 0 _ rfl,hat 1 _ rfl,hat 2 _ rfl,hat 3 _ rfl,hat 4 _ rfl,hat 5 _ rfl,hat 6 _ rfl,hat 7 _ rfl,hat 8 _ rfl,k3,q1,q2⟩
theorem pair_at {F:Nat->Prop} {w:World} {y n:Bd} {v:Value} (h:Rep F w (.sl 64 4 2 (zm [y,n])) v) (k:Nat) (hk:k<2) :
 ∃ b o cap bv a2 c2 a3 c3,v=.slice (some ⟨b,o,none⟩) 2 cap/\F b/\b<w.heap.size/\w.cell? ⟨b,o+k*4,none⟩=some (str (zt (if k=1 then n else y)))/\w.cell? ⟨b,o+k*4+1,none⟩=some (.int .i64 bv) /\
   w.cell? ⟨b,o+k*4+2,none⟩=some (.slice a2 (k_ (if k=1 then n else y)).length c2)/\w.cell? ⟨b,o+k*4+3,none⟩=some (.slice a3 (qv (if k=1 then n else y)).length c3) /\
   zG F w (kC (if k=1 then n else y)) [str (zt (if k=1 then n else y)),.int .i64 bv,.slice a2 (k_ (if k=1 then n else y)).length c2,.slice a3 (qv (if k=1 then n else y)).length c3]:=by
 have hs:zm [y,n]=zm ([y,n].take k)++(kC (if k=1 then n else y)++zm ([y,n].drop (k+1))):=by
  rcases (by omega:k=0\/k=1) with rfl | rfl <;> simp [zm]
 rw [hs] at h
 obtain ⟨b,o,cap,vs,rfl,hF,cZ,hr,hat⟩:=rep_sl_at h (k:=k) (by rw [wY,List.length_take];simp;omega) (qS _) hk
 obtain ⟨bv,a2,c2,a3,c3,rfl,_⟩:=jA hr
 exact ⟨b,o,cap,bv,a2,c2,a3,c3,rfl,hF,cZ,hat 0 _ rfl,hat 1 _ rfl,hat 2 _ rfl,hat 3 _ rfl,hr⟩
theorem top_at {F:Nat->Prop} {w:World} {sv:Value} {x:SF} {st:List SF} {cells:List Value} (ho:Own w 185 6 sv (st.length+1) cells) (hr:zG F w (jZ (x::st).reverse) cells) :
 ∃ g c bv a2 c2 yv ea ec cells1 tl,sv=.slice (some ⟨g,0,none⟩) (st.length+1) c/\st.length+1<=c/\w.cell? ⟨g,st.length*6,none⟩=some (str [])/\w.cell? ⟨g,st.length*6+1,none⟩=some (.int .i64 bv)/\w.cell? ⟨g,st.length*6+2,none⟩=some (.slice a2 x.ss.length c2) /\
   w.cell? ⟨g,st.length*6+3,none⟩=some yv/\w.cell? ⟨g,st.length*6+4,none⟩=some (.slice ea x.env.length ec)/\w.cell? ⟨g,st.length*6+5,none⟩=some (.int .i64 (x.opens:Nat))/\cells=cells1++tl/\cells1.length=st.length*6 /\
   zG F w (jZ st.reverse) cells1/\Rep F w (.sl 64 4 2 (zm [x.yes,x.no])) yv/\Rep F w (.sl 187 9 x.env.length (z8 x.env)) (.slice ea x.env.length ec):=by
 rw [List.reverse_cons,uJ] at hr
 have hs:=hr.split
 rw [xW,List.length_reverse] at hs
 obtain ⟨h1,h2⟩:=hs
 simp only [jZ,List.append_nil] at h2
 rw [encSF] at h2
 obtain ⟨k1,k2⟩:=h2.split
 rw [qS] at k1 k2
 have k1':=k1
 obtain ⟨bv,a2,c2,a3,c3,e1,_,hyy⟩:=jA k1
 simp only [zJ,zC,zI] at k2
 obtain ⟨x1,_,e2,q2,_,_,rfl,rfl,rfl⟩:=k2
 obtain ⟨ea,ec,rfl⟩:∃ a c,x1=.slice a x.env.length c:=by
  have h:=q2;rw [kP] at h;obtain ⟨_,a,c,e,_⟩:=h;exact ⟨a,c,e⟩
 have htl:cells.drop (st.length*6)=[str [],.int .i64 bv,.slice a2 x.ss.length c2,.slice a3 2 c3]++[.slice ea x.env.length ec,.int .i64 (x.opens:Nat)]:=by
  have e1':List.take 4 (cells.drop (st.length*6))=[str [],.int .i64 bv,.slice a2 x.ss.length c2,.slice a3 2 c3]:=e1
  rw [<- e1',<- e2,List.take_append_drop]
 have fK:cells=cells.take (st.length*6)++cells.drop (st.length*6):=(List.take_append_drop _ _).symm
 have hl:(cells.take (st.length*6)).length=st.length*6:=by
  have:=ho.1;rw [List.length_take];omega
 have at6:∀ (j:Nat) (u:Value),([str [],.int .i64 bv,.slice a2 x.ss.length c2,.slice a3 2 c3]++[.slice ea x.env.length ec,.int .i64 (x.opens:Nat)])[j]? = some u->cells[st.length*6+j]? = some u:=by
  intro j u hj
  rw [fK,List.getElem?_append_right (by omega),hl,Nat.add_sub_cancel_left,htl];exact hj
 obtain ⟨g,c,es,sZ⟩:=ho.at (at6 0 _ rfl)
 subst es
 have get:∀ (j:Nat) (u:Value),([str [],.int .i64 bv,.slice a2 x.ss.length c2,.slice a3 2 c3]++[.slice ea x.env.length ec,.int .i64 (x.opens:Nat)])[j]? = some u->w.cell? ⟨g,st.length*6+j,none⟩=some u:=by
  intro j u hj
  obtain ⟨g',c',es,hc⟩:=ho.at (at6 j u hj)
  simp only [Value.slice.injEq,Option.some.injEq,Addr.mk.injEq,and_true,true_and] at es
  obtain ⟨rfl,rfl⟩:=es
  exact hc
 have dz:st.length+1<=c:=by
  rcases ho.2 with ⟨e,_⟩ | ⟨g',cap,cur,e,_,_,mT,_⟩
  ·simp at e
  ·simp only [Value.slice.injEq,true_and] at e
   rw [e.2];exact mT
 exact ⟨g,c,bv,a2,c2,_,ea,ec,_,_,rfl,dz,get 0 _ rfl,get 1 _ rfl,get 2 _ rfl,get 3 _ rfl,get 4 _ rfl,get 5 _ rfl,fK,hl,h1,hyy,q2⟩
def jr (B:Nat) (x0 x1 x2 x3:Value) (w:World):World:=(((w.setCell ⟨B,0,none⟩ x0).setCell ⟨B,1,none⟩ x1).setCell ⟨B,2,none⟩ x2).setCell ⟨B,3,none⟩ x3
theorem boxPut_at {B:Nat} {y0 y1 y2 y3:Value} {T:TypeId} {w:World} (h:w.heap[B]? = some (.cells #[y0,y1,y2,y3] T (0,0))) (x0 x1 x2 x3:Value):(jr B x0 x1 x2 x3 w).heap[B]? = some (.cells #[x0,x1,x2,x3] T (0,0)):=by
 unfold jr;rw [zO (zO (zO (zO h)))];rfl
theorem vj {m:Nat->Prop} {B:Nat} {w w':World} (h:But m w w') (hB:m B) (x0 x1 x2 x3:Value):But m w (jr B x0 x1 x2 x3 w') :=
 (((h.setCell (p:=⟨B,0,none⟩) (.inl hB) _).setCell (p:=⟨B,1,none⟩) (.inl hB) _).setCell (p:=⟨B,2,none⟩) (.inl hB) _).setCell (p:=⟨B,3,none⟩) (.inl hB) _
theorem we {keep:Bool} {most ra:Nat} {nW nU:Value} {w:World} {B:Nat} {b b':Bd} {env env':List SC} {opens opens':Nat} {st st':List SF} {log log':List (Bs×Int)} {mv pt mv' pt':Value} {v v':Int} {x2 x3 a9 i5 ev ev' sv sv':Value} {cells cells':List Value} {wr w1 w6:World} {y0 y1 y2 y3:Value}
 (h:GoAt keep most ra nW nU w B b env opens st log mv pt v x2 x3 ev sv cells wr)
 (nJ:But (Chg ra mv pt B sv) wr w6) (d8:But (fun b=>sv.ownBlock=some b) w1 w6) (cO:RS keep most ra log' mv' pt' w1) (hz:wr.heap.size<=w1.heap.size)
 (hn:∀ i,MBk ra mv' pt' i->MBk ra mv pt i\/wr.heap.size<=i) (hB6:w6.heap[B]? = some (.cells #[y0,y1,y2,y3] 64 (0,0)))
 (hos:Own w6 185 6 sv' st'.length cells') (dr:∀ g,sv'.ownBlock=some g->sv.ownBlock=some g\/w1.heap.size<=g)
 {F6:Nat->Prop} (th:∀ i,F6 i->i<w6.heap.size->¬ Chg ra mv' pt' B sv' i)
 (mu:zG F6 w6 (kC b') [str (zt b'),.int .i64 v',a9,i5]) (hre:Rep F6 w6 (.sl 187 9 env'.length (z8 env')) ev') (AQ:zG F6 w6 (jZ st'.reverse) cells') :
 GoAt keep most ra nW nU w B b' env' opens' st' log' mv' pt' v' a9 i5 ev' sv' cells' (jr B (str (zt b')) (.int .i64 v') a9 i5 w6):=by
 have i6:=zZ h.box.blk
 have nH:∀ g,sv.ownBlock=some g->g<wr.heap.size:=fun g hg=>h.own.lt hg
 have fu:∀ i,MBk ra mv' pt' i->i<w1.heap.size:=fun i hi=>cO.lt hi
 have e_:∀ i,MBk ra mv' pt' i->i≠B:=by
  rintro i hi rfl
  rcases hn _ hi with h' | h'
  ·exact h.bB.2 h'
  ·omega
 have sA:∀ i,MBk ra mv' pt' i->sv.ownBlock≠some i:=by
  intro i hi hs
  rcases hn _ hi with h' | h'
  ·exact (h.sB i hs).2.2 h'
  ·have:=nH i hs;omega
 have AI:∀ g,sv'.ownBlock=some g->g≠B:=by
  rintro g hg rfl
  rcases dr _ hg with h' | h'
  ·exact (h.sB _ h').2.1 rfl
  ·omega
 have vk:∀ {i:Nat} {o:Obj},i≠B->w6.heap[i]? = some o->(jr B (str (zt b')) (.int .i64 v') a9 i5 w6).heap[i]? = some o:=by
  intro i o hi ho
  have:=(vj (But.refl (fun i=>i=B) w6) rfl (str (zt b')) (.int .i64 v') a9 i5).block i (zZ ho) hi
  rw [this];exact ho
 have fC:∀ (i:Nat) (o:Obj),F6 i->w6.heap[i]? = some o->¬ Chg ra mv' pt' B sv' i/\(jr B (str (zt b')) (.int .i64 v') a9 i5 w6).heap[i]? = some o:=by
  intro i o hi ho
  have mT:=th i hi (zZ ho)
  exact ⟨mT,vk (fun e=>mT (.inr (.inl e))) ho⟩
 have b8:But (Chg ra mv pt B sv) wr (jr B (str (zt b')) (.int .i64 v') a9 i5 w6):=vj nJ (.inr (.inl rfl)) _ _ _ _
 have tR:=h.but.size
 refine ⟨?_,⟨boxPut_at hB6 _ _ _ _,(Rep.keep fC).2 _ _ mu⟩,(Rep.keep fC).1 _ _ hre,hos.keep fun g o hg ho=>vk (AI g hg) ho,(Rep.keep fC).2 _ _ AQ,?_,?_,⟨h.bB.1,fun hi=>e_ _ hi rfl⟩,fun g' ch=>⟨?_,AI g' ch,fun hi=>?_⟩⟩
 ·refine cO.but (m:=fun i=>sv.ownBlock=some i\/i=B) (vj (d8.weak fun i _ hi=>.inl hi) (.inr rfl) _ _ _ _) fun b hb e=>?_
  rcases e with e | e
  ·exact sA b hb e
  ·exact e_ b hb e
 ·refine h.but.trans' b8 fun i hi hh=>?_
  rcases hh with hh | hh | hh
  ·rcases h.new i hh with h' | h'
   ·exact h'
   ·omega
  ·subst hh;have:=h.bB.1;omega
  ·have:=(h.sB i hh).1;omega
 ·intro i hi
  rcases hn i hi with h' | h'
  ·exact h.new i h'
  ·exact .inr (by omega)
 ·rcases dr g' ch with h' | h'
  ·exact (h.sB g' h').1
  ·omega
 ·rcases dr g' ch with h' | h'
  ·exact sA g' hi h'
  ·have:=fu g' hi;omega
theorem GoAt.drew {keep:Bool} {most ra:Nat} {nW nU:Value} {w:World} {B:Nat} {b:Bd} {env:List SC} {opens:Nat} {st:List SF} {log:List (Bs×Int)} {mv pt:Value} {v:Int} {x2 x3 ev sv:Value} {cells:List Value} {wr:World} (h:GoAt keep most ra nW nU w B b env opens st log mv pt v x2 x3 ev sv cells wr) :
 GoAt keep most ra nW nU w B b env opens st log mv pt v x2 x3 ev sv cells wr.drew :=
 ⟨h.rs.drew,⟨h.box.blk,h.box.rep.drew⟩,h.re.drew,h.own.drew,h.rf.drew,h.but.drew,h.new,h.bB,h.sB⟩
def GoPost (keep:Bool) (R:Option (UInt8×List (Bs×Int))) (most ra:Nat) (mv pt:Value) (w:World) (en:Ending) (w':World):Prop :=
 ∃ mv' pt' log' o,en=.returned (str o)/\But (MBk ra mv pt) w w'/\RS keep most ra log' mv' pt' w'/\(∀ i,MBk ra mv' pt' i->MBk ra mv pt i\/w.heap.size<=i)/\(R=none->most<log'.length)/\(∀ c l,R=some (c,l)->o=[c]/\l=log'/\log'.length<=most)
def GoRel (keep:Bool) (R:Option (UInt8×List (Bs×Int))) (most ra:Nat) (nW nU:Value) (w:World) (B:Nat) (ev ov sv:Value) (wr:World):Prop :=
 ∃ b env opens st log mv pt v a2 n2 c2 a3 n3 c3 cells,ov=.int .i64 (opens:Nat)/\GoPl keep R most b env opens st log/\GoAt keep most ra nW nU w B b env opens st log mv pt v (.slice a2 n2 c2) (.slice a3 n3 c3) ev sv cells wr
def leftG (most ra:Nat) (wr:World):Nat:=match wr.heap[ra]? with
 | some (.cells c _ _)=>most+2-(intOf (c.getD 2 (.int .i64 0))).toNat
 | _=>0
theorem x_ {keep:Bool} {most ra:Nat} {log:List (Bs×Int)} {mv pt:Value} {w:World} (h:RS keep most ra log mv pt w):leftG most ra w=most+2-log.length:=by
 unfold leftG
 rw [h.blk]
 simp [intOf]
theorem go_start {keep:Bool} {most ra:Nat} {log:List (Bs×Int)} {mv pt:Value} {w:World} {b:Bd} {env:List SC} {opens:Nat} {v:Int} {x2 x3 ev:Value}
 (h:RS keep most ra log mv pt w) (rb:zG (fun i=>¬ MBk ra mv pt i) w (kC b) [str (zt b),.int .i64 v,x2,x3]) (re:Rep (fun i=>¬ MBk ra mv pt i) w (.sl 187 9 env.length (z8 env)) ev) :
 GoAt keep most ra mv pt w w.heap.size b env opens [] log mv pt v x2 x3 ev (.slice (some ⟨w.heap.size+1,0,none⟩) 0 0) [] ((w.alloc (.cells #[str (zt b),.int .i64 v,x2,x3] 64)).alloc (.cells #[] 185)):=by
 have hb:Below w.heap.size w ((w.alloc (.cells #[str (zt b),.int .i64 v,x2,x3] 64)).alloc (.cells #[] 185)):=((bi _ _).alloc (br _) _).alloc (by rw [zK];omega) _
 have cZ:∀ i,MBk ra mv pt i->i<w.heap.size:=fun i hi=>h.lt hi
 have hk:∀ (i:Nat) (o:Obj),¬ MBk ra mv pt i->w.heap[i]? = some o->¬ Chg ra mv pt w.heap.size (.slice (some ⟨w.heap.size+1,0,none⟩) 0 0) i/\((w.alloc (.cells #[str (zt b),.int .i64 v,x2,x3] 64)).alloc (.cells #[] 185)).heap[i]? = some o:=by
  intro i o hi ho
  have:=zZ ho
  refine ⟨?_,zX (zX ho)⟩
  rintro (h' | h' | h')
  ·exact hi h'
  ·omega
  ·simp [Value.ownBlock] at h';omega
 refine ⟨h.below hb,⟨zX (zS _ _),(Rep.keep hk).2 _ _ rb⟩,(Rep.keep hk).1 _ _ re,Own.litAt #[] 0 _ (by simp) (by decide) rfl,zC.2 rfl,But.ofBelow hb,fun i hi=>.inl hi,⟨br _,fun hi=>by have:=cZ _ hi;omega⟩,fun g hg=>?_⟩
 simp [Value.ownBlock] at hg
 subst hg
 exact ⟨by omega,by omega,fun hi=>by have:=cZ _ hi;omega⟩
theorem askbox {F:Nat->Prop} {w:World} {v:Nat} {ss:List Bd} {y n:Bd} {x0 x1 x2 x3:Value} (h:zG F w (kC (.ask v ss y n)) [x0,x1,x2,x3]) :
 x1=.int .i64 (v:Nat)/\(∃ a c,x2=.slice a ss.length c)/\(∃ a c,x3=.slice a 2 c)/\Rep F w (.sl 64 4 ss.length (zm ss)) x2/\Rep F w (.sl 64 4 2 (zm [y,n])) x3:=by
 rw [wX] at h
 obtain ⟨u0,r0,e0,h0,h⟩:=zJ.1 h
 simp only [List.cons.injEq] at e0
 obtain ⟨rfl,rfl⟩:=e0
 obtain ⟨u1,r1,e1,h1,h⟩:=zJ.1 h
 simp only [List.cons.injEq] at e1
 obtain ⟨rfl,rfl⟩:=e1
 obtain ⟨u2,r2,e2,h2,h⟩:=zJ.1 h
 simp only [List.cons.injEq] at e2
 obtain ⟨rfl,rfl⟩:=e2
 obtain ⟨u3,r3,e3,h3,h⟩:=zJ.1 h
 simp only [List.cons.injEq] at e3
 obtain ⟨rfl,rfl⟩:=e3
 refine ⟨zI.1 h1,?_,?_,h2,h3⟩
 ·rw [kP] at h2;obtain ⟨_,a,c,e,_⟩:=h2;exact ⟨a,c,e⟩
 ·rw [kP] at h3;obtain ⟨_,a,c,e,_⟩:=h3;exact ⟨a,c,e⟩
theorem Tryz.infoFS:(Tryz.prog.info? 185).map (fun i=>(i.zero,i.size,i.bytes))=some (some (.agg #[str [],.int .i64 0,.slice none 0 0,.slice none 0 0,.slice none 0 0,.int .i64 0]),6,104):=by kernel_rfl
theorem runS_u (keep:Bool) (f:Nat) (log:List (Bs×Int)) (env:List SC) (opens:Nat) (st:List SF):jh keep f log (.leaf 117) env opens st=some (117,log):=by cases f <;> simp [jh]
theorem runS_end {keep:Bool} {c:UInt8} (hc:c≠117) (f:Nat) (log:List (Bs×Int)) (env:List SC) (opens:Nat):jh keep f log (.leaf c) env opens []=if f=0 then none else some (c,log++[(c::qO keep log opens,(opens:Int))]):=by cases f <;> simp [jh,hc]
theorem kW {m:Nat->Prop} {w w':World} {a:Addr} {u:Value} (hb:But m w w') (ha:w.cell? a=some u) (na:¬ m a.block):w'.cell? a=some u:=(hb.cell (be w _ ha) na).trans ha
theorem cells1 {m:Nat->Prop} {w w':World} {a:Addr} {u:Value} (hb:But m w w') (ha:w.cell? a=some u) (na:¬ m a.block):w'.cell? a=some u:=(hb.cell (be w _ ha) na).trans ha
set_option maxRecDepth 100000 in
theorem l4Go_any (keep:Bool) (HM:bj keep) (HP:bz keep) (R:Option (UInt8×List (Bs×Int))) (most ra:Nat) (b:Bd) (env:List SC) (opens:Nat) (log:List (Bs×Int)) (mv pt:Value) (v:Int) (a2:Option Addr) (n2 c2:Nat) (a3:Option Addr) (n3 c3:Nat) (ev:Value) (w:World)
 (h:RS keep most ra log mv pt w) (pl:GoPl keep R most b env opens [] log) (rb:zG (fun i=>¬ MBk ra mv pt i) w (kC b) [str (zt b),.int .i64 v,.slice a2 n2 c2,.slice a3 n3 c3])
 (re:Rep (fun i=>¬ MBk ra mv pt i) w (.sl 187 9 env.length (z8 env)) ev) (dy:most<=100000) :
 Calls Tryz.prog 77 #[.pointer (some ⟨ra,0,none⟩),.agg #[str (zt b),.int .i64 v,.slice a2 n2 c2,.slice a3 n3 c3],ev,.int .i64 (opens:Nat)] w (GoPost keep R most ra mv pt w):=by
 have HMM:=bc HM;have HPP:=bc HP
 have dC:=go_start (opens:=opens) h rb re
 have tE:=bc (bm pl dC)
 clear HM HP h pl rb re dC
 generalize hat0:zt b=s0 at *
 go_enter Tryz.func77,Tryz.ntmps77
 go_wp2_with fail
 generalize hB:w.heap.size=B at *
 go_loopw [2,3,9] (fun e o s wr=>GoRel keep R most ra mv pt w B e o s wr) (fun _ _ _ wr=>leftG most ra wr)
 case atStart=>exact ⟨b,env,opens,[],log,mv,pt,v,a2,n2,c2,a3,n3,c3,[],rfl,tE.out.1,tE.out.2⟩
 case round =>
  clear tE hat0
  obtain ⟨b,env,opens,st,log,cD,cC,v,a2,n2,c2,a3,n3,c3,cells,rfl,cI,hat⟩:=hrel
  have dQ:=bc cI;have cv:=bc hat
  have rt:=x_ hat.rs
  have cZ:=zZ hat.box.blk
  have b0:wr.cell? ⟨B,0,none⟩=some (str (zt b)):=by simp [World.cell?,hat.box.blk]
  have b1:wr.cell? ⟨B,1,none⟩=some (.int .i64 v):=by simp [World.cell?,hat.box.blk]
  have Cb:=hat.rs.bad
  have HX:=bc rt;clear rt cI hat
  by_cases rI:most<log.length
  ·rw [decide_eq_true rI] at Cb
   have oB:=bc rI;clear rI
   go_wp2_with fail
   go_ret
   have hR:R=none:=by
    rcases dQ.out.goes with ⟨h1,_⟩ | ⟨_,_,h2⟩
    ·have:=oB.out;omega
    ·exact h2
   exact ⟨cD,cC,log,[117],rfl,cv.out.but,cv.out.rs,cv.out.new,fun _=>oB.out,fun c l h=>by rw [hR] at h;simp at h⟩
  ·rw [decide_eq_false rI] at Cb
   have d_:log.length<=most:=by omega
   have oB:=bc rI;clear rI
   cases b with
   | leaf c =>
     by_cases eO:c=117
     ·subst eO
      have hR:R=some (117,log):=by
       rcases dQ.out.goes with ⟨_,h1⟩ | ⟨h1,_,_⟩
       ·rw [h1,runS_u]
       ·omega
      have HR:=bc hR;clear hR
      have b0':wr.cell? ⟨B,0,none⟩=some (.string ⟨#[117]⟩):=b0
      clear b0
      go_wp2_with fail
      go_ret
      refine ⟨cD,cC,log,[117],rfl,cv.out.but,cv.out.rs,cv.out.new,fun h=>by rw [HR.out] at h;simp at h,fun c l h=>?_⟩
      rw [HR.out] at h
      simp only [Option.some.injEq,Prod.mk.injEq] at h
      obtain ⟨rfl,rfl⟩:=h
      exact ⟨rfl,rfl,d_⟩
     ·have l5:=cv.out.box.blk
      obtain ⟨S,hS⟩:=zzM (zt (.leaf c))
      have oK:S=[c]:=hS
      rw [<- hS] at b0
      have e117:(S == [117])=false:=by rw [beq_eq_false_iff_ne,oK];simpa using eO
      have ene:(S != [])=true:=by rw [bne_iff_ne,oK];simp
      have ene2:(!S.isEmpty)=true:=by rw [oK];rfl
      obtain ⟨P,hP⟩:=zzM (qO keep log opens)
      have cI:=vh keep dQ.out.lok opens
      rw [<- hP] at cI
      have eI:=fun w0=>kN (P:=Tryz.prog) S P (by rw [oK];simp;omega) w0
      have nH:(S++P).length<=1000000:=by rw [oK];simp;omega
      have A2:∃ q p,log[opens]? = some (q,p)/\1<=q.length/\q.length<=1000000:=by
       have h:=dQ.out.opn
       obtain ⟨x,hx⟩:∃ x,log[opens]? = some x:=⟨log[opens],by simp [h]⟩
       obtain ⟨q,p⟩:=x
       have:=dQ.out.lok opens q p hx
       exact ⟨q,p,hx,this.1,by omega⟩
      have CP:=bc (HPP.out most ra log cD cC opens wr.drew cv.out.rs.drew d_ dy A2)
      rw [<- hP] at CP
      have CM:=bc (HMM.out most ra log cD cC (S++P) (opens:Int) wr.drew cv.out.rs.drew d_ dy nH)
      have nX:¬ MBk ra cD cC B:=cv.out.bB.2
      have HS:=bc (bm oK (bm hP eO));clear hS oK hP eO nH A2 l5
      go_wp2_with fail
      go_region_held3 (fun w'=>w'.cell? ⟨B,0,none⟩=some (str S))
       (first
        | exact b0
        | exact cells1 b9 b0 nX
        | go_keep)
       (first
        | (go_at_call 76;refine CM.out.mono ?_;rintro en w1 ⟨cr,cd,rfl,mn,cw,cT⟩;have b9:=but_ud mn;clear mn)
        | (go_at_call 112;refine CP.out.mono ?_;rintro en w5 ⟨rfl,e5⟩;subst e5))
      have d0:=cells1 b9 b0 nX
      have d6:=bc (bm b9 (bm cw cT));clear b9 cw cT b0 b1 Cb CP CM eI
      obtain ⟨sa,sc,es⟩:=cv.out.own.slice
      subst es
      have iA:(log++[(S++P,(opens:Int))]).length=log.length+1:=by simp
      cases st with
      | nil =>
        have hR:R=if most-log.length=0 then none else some (c,log++[(c::qO keep log opens,(opens:Int))]):=by
         rcases dQ.out.goes with ⟨_,h1⟩ | ⟨h1,_,_⟩
         ·rw [h1,runS_end HS.out.2.2]
         ·omega
        have HR:=bc hR;have HL1:=bc iA;clear hR iA
        rw [List.length_nil]
        go_wp2_with fail
        go_ret
        have fx:S++P=c::qO keep log opens:=by rw [HS.out.1,HS.out.2.1];rfl
        refine ⟨cr,cd,_,S,rfl,cv.out.but.trans' d6.out.1 fun i hi hh=>?_,d6.out.2.1,fun i hi=>?_,fun h=>?_,fun c' l h=>?_⟩
        ·rcases cv.out.new i hh with h | h
         ·exact h
         ·omega
        ·rcases d6.out.2.2 i hi with h | h
         ·exact cv.out.new i h
         ·exact .inr (by rw [hB];exact b7 (Nat.le_of_lt cZ) h)
        ·rw [HR.out] at h
         split at h
         ·rw [HL1.out];omega
         ·simp at h
        ·rw [HR.out] at h
         split at h
         ·simp at h
         ·simp only [Option.some.injEq,Prod.mk.injEq] at h
          obtain ⟨rfl,rfl⟩:=h
          refine ⟨HS.out.1,by rw [fx],by rw [HL1.out];omega⟩
      | cons x st =>
        obtain ⟨g,gc,bv,ta2,tc2,yv,ea,ec,cells1,tl,es,dz,k0,k1,k2,k3,k4,k5,fK,rF,cw,ry,re⟩:=top_at cv.out.own cv.out.rf
        simp only [List.length_cons,Value.slice.injEq,true_and] at es
        obtain ⟨rfl,rfl⟩:=es
        have hk:∃ k:Nat,k<2/\(k=1↔c=102):=by
         by_cases h:c=102
         ·exact ⟨1,by omega,by simp [h]⟩
         ·exact ⟨0,by omega,by simp [h]⟩
        obtain ⟨k,ro,hkc⟩:=hk
        obtain ⟨pb,po,pc,nv,na2,nc2,na3,nc3,e,hpF,hpl2,m0,m1,m2,m3,AN⟩:=pair_at ry k ro
        subst e
        have dr:=cv.out.sB g rfl
        have q0:=kW d6.out.1 k0 dr.2.2
        have q1:=kW d6.out.1 k1 dr.2.2
        have q2:=kW d6.out.1 k2 dr.2.2
        have q3:=kW d6.out.1 k3 dr.2.2
        have q4:=kW d6.out.1 k4 dr.2.2
        have q5:=kW d6.out.1 k5 dr.2.2
        have hpM:¬ MBk ra cD cC pb:=fun h=>hpF (.inl h)
        have p0:=kW d6.out.1 m0 hpM
        have p1:=kW d6.out.1 m1 hpM
        have p2:=kW d6.out.1 m2 hpM
        have p3:=kW d6.out.1 m3 hpM
        generalize sT:(if k=1 then x.no else x.yes)=nx at *
        have HF:=bc (bm fK (bm rF (bm cw (bm re (bm AN (bm sT (bm hkc dz)))))))
        have fJ:=dQ.out.stl
        rw [List.length_cons] at fJ ⊢
        clear fK rF cw ry re AN sT hkc dz k0 k1 k2 k3 k4 k5 m0 m1 m2 m3
        have nu:(st.length:Int)<=(sc:Int):=by have:=HF.out.2.2.2.2.2.2.2;omega
        have hzB1:B<w1.heap.size:=be w1 _ d0
        have hzpb:pb<w1.heap.size:=be w1 _ p0
        rcases (by omega:k=0\/k=1) with rfl | rfl
        ·have hd:(S == [102])=false:=by
          rw [beq_eq_false_iff_ne,HS.out.1];have:=HF.out.2.2.2.2.2.2.1;simpa using this
         simp only [Nat.zero_mul,Nat.add_zero] at p0 p1 p2 p3
         go_upto_region 15 with (fail)
         obtain ⟨W2,cM⟩:=zzN (w1.alloc (.cells #[str [],.int .i64 bv,.slice ta2 x.ss.length tc2,.slice (some ⟨pb,po,none⟩) 2 pc,.slice ea x.env.length ec,.int .i64 (x.opens:Nat)] 185))
         have t3:W2.cell? ⟨w1.heap.size,3,none⟩=some (.slice (some ⟨pb,po,none⟩) 2 pc):=by rw [<- cM];simp
         have t4:W2.cell? ⟨w1.heap.size,4,none⟩=some (.slice ea x.env.length ec):=by rw [<- cM];simp
         have t5:W2.cell? ⟨w1.heap.size,5,none⟩=some (.int .i64 (x.opens:Nat)):=by rw [<- cM];simp
         have r0:W2.cell? ⟨pb,po,none⟩=some (str (zt nx)):=by rw [<- cM];exact zU p0
         have r1:W2.cell? ⟨pb,po+1,none⟩=some (.int .i64 nv):=by rw [<- cM];exact zU p1
         have r2:W2.cell? ⟨pb,po+2,none⟩=some (.slice na2 (k_ nx).length nc2):=by rw [<- cM];exact zU p2
         have r3:W2.cell? ⟨pb,po+3,none⟩=some (.slice na3 (qv nx).length nc3):=by rw [<- cM];exact zU p3
         have dN:W2.heap[B]? = some (.cells #[str (zt (.leaf c)),.int .i64 v,.slice a2 n2 c2,.slice a3 n3 c3] 64 (0,0)):=by
          rw [<- cM];exact zX (by rw [d6.out.1.block B cZ nX];exact cv.out.box.blk)
         have Au:W2.heap.size=w1.heap.size+1:=by rw [<- cM];exact zK _ _
         have Cc:Below w1.heap.size w1 W2:=by rw [<- cM];exact (bi _ _).alloc (br _) _
         have u0:W2.cell? ⟨B,0,none⟩=some (str (zt (.leaf c))):=by simp [World.cell?,dN]
         have u1:W2.cell? ⟨B,1,none⟩=some (.int .i64 v):=by simp [World.cell?,dN]
         have u2:W2.cell? ⟨B,2,none⟩=some (.slice a2 n2 c2):=by simp [World.cell?,dN]
         have u3:W2.cell? ⟨B,3,none⟩=some (.slice a3 n3 c3):=by simp [World.cell?,dN]
         have f0:W2.frozen? ⟨B,0,none⟩=false:=by simp [World.frozen?,dN]
         have f1:W2.frozen? ⟨B,1,none⟩=false:=by simp [World.frozen?,dN]
         have f2:W2.frozen? ⟨B,2,none⟩=false:=by simp [World.frozen?,dN]
         have f3:W2.frozen? ⟨B,3,none⟩=false:=by simp [World.frozen?,dN]
         rw [cM]
         have eZ:=bc (bm cM (bm dN (bm Au Cc)));clear cM dN Au Cc d0 q0 q1 q2 q3 q4 q5 p0 p1 p2 p3
         go_upto_region 16 with (fail)
         obtain ⟨W,hW⟩:=zzN (jr B (str (zt nx)) (.int .i64 nv) (.slice na2 (k_ nx).length nc2) (.slice na3 (qv nx).length nc3) W2)
         have Cx:w1.heap.size≠B:=by omega
         have cK:But (fun i=>i=B) W2 W:=by rw [<- hW];exact vj (m:=fun i=>i=B) (But.refl _ _) rfl _ _ _ _
         have t4':=kW cK t4 Cx
         have t5':=kW cK t5 Cx
         have tW:=hW
         unfold jr at tW
         rw [tW]
         have fx:S++P=c::qO keep log opens:=by rw [HS.out.1,HS.out.2.1];rfl
         have mO:RS keep most ra (log++[(c::qO keep log opens,(opens:Int))]) cr cd w1:=by have:=d6.out.2.1;rw [fx] at this;exact this
         have dK:=gopl_back dQ.out HS.out.2.2 d_
         have BB:(if c=102 then x.no else x.yes)=nx:=by
          rw [<- HF.out.2.2.2.2.2.1]
          by_cases h:c=102
          ·rw [if_pos h,if_pos (HF.out.2.2.2.2.2.2.1.2 h)]
          ·rw [if_neg h,if_neg (fun e=>h (HF.out.2.2.2.2.2.2.1.1 e))]
         rw [BB] at dK
         have du:=d6.out.1.size
         have tR:wr.heap.size<=w1.heap.size:=du
         have keepF:∀ (i:Nat) (o:Obj),¬ Chg ra cD cC B (.slice (some ⟨g,0,none⟩) (st.length+1) sc) i->wr.heap[i]? = some o->(¬ Chg ra cD cC B (.slice (some ⟨g,0,none⟩) (st.length+1) sc) i/\i<wr.heap.size)/\W2.heap[i]? = some o:=by
          intro i o hi ho
          have h1:=zZ ho
          have h2:w1.heap[i]? = some o:=by rw [d6.out.1.block i h1 (fun h=>hi (.inl h))];exact ho
          exact ⟨⟨hi,h1⟩,by rw [eZ.out.2.2.2.block i (zZ h2)];exact h2⟩
         have cV:Own W2 185 6 (.slice (some ⟨g,0,none⟩) st.length sc) st.length cells1:=by
          have hs:=cv.out.own.short (m:=st.length) (by simp) (by simp)
          rw [HF.out.1,<- HF.out.2.1,List.take_left] at hs
          refine hs.keep fun g' o ch ho=>?_
          have e:g'=g:=by simpa [Value.ownBlock] using ch.symm
          subst e
          have h2:w1.heap[g']? = some o:=by rw [d6.out.1.block g' (zZ ho) dr.2.2];exact ho
          rw [eZ.out.2.2.2.block g' (zZ h2)];exact h2
         have nJ:But (Chg ra cD cC B (.slice (some ⟨g,0,none⟩) (st.length+1) sc)) wr W2:=(d6.out.1.weak fun i _ hi=>.inl hi).trans' (But.ofBelow (m:=fun _=>False) eZ.out.2.2.2) (fun _ _ h=>h.elim)
         have th:∀ i,(¬ Chg ra cD cC B (.slice (some ⟨g,0,none⟩) (st.length+1) sc) i/\i<wr.heap.size)->i<W2.heap.size->¬ Chg ra cr cd B (.slice (some ⟨g,0,none⟩) st.length sc) i:=by
          rintro i ⟨h1,h2⟩ _ (h | h | h)
          ·rcases d6.out.2.2 i h with h' | h'
           ·exact h1 (.inl h')
           ·have h3:wr.heap.size<=i:=h'
            omega
          ·exact h1 (.inr (.inl h))
          ·exact h1 (.inr (.inr h))
         have cU:=we (opens':=x.opens) (b':=nx) cv.out nJ (But.ofBelow eZ.out.2.2.2) mO tR d6.out.2.2 eZ.out.2.1 cV (fun g' h'=>.inl h') th ((Rep.keep keepF).2 _ _ HF.out.2.2.2.2.1) ((Rep.keep keepF).1 _ _ HF.out.2.2.2.1) ((Rep.keep keepF).2 _ _ HF.out.2.2.1)
         rw [hW] at cU
         have c9:=bc (bm dK cU)
         clear dK cU mO keepF cV nJ th BB fx tW hW cK t3 t4 t5 r0 r1 r2 r3 u0 u1 u2 u3 f0 f1 f2 f3
         go_wp2_with fail
         go_roundw
         case rel=>exact ⟨_,_,_,_,_,_,_,_,_,_,_,_,_,_,_,rfl,c9.out.1,c9.out.2⟩
         case measure =>
          rw [HX.out]
          have h:=x_ c9.out.2.rs
          have hl:(log++[(c::qO keep log opens,(opens:Int))]).length=log.length+1:=by simp
          refine Nat.lt_of_le_of_lt (Nat.le_of_eq h) ?_
          rw [hl];omega
        ·have hd:(S == [102])=true:=by
          rw [beq_iff_eq,HS.out.1];have:=HF.out.2.2.2.2.2.2.1;simpa using this
         simp only [Nat.one_mul,Nat.add_assoc,Nat.reduceAdd] at p0 p1 p2 p3
         go_upto_region 15 with (fail)
         obtain ⟨W2,cM⟩:=zzN (w1.alloc (.cells #[str [],.int .i64 bv,.slice ta2 x.ss.length tc2,.slice (some ⟨pb,po,none⟩) 2 pc,.slice ea x.env.length ec,.int .i64 (x.opens:Nat)] 185))
         have t3:W2.cell? ⟨w1.heap.size,3,none⟩=some (.slice (some ⟨pb,po,none⟩) 2 pc):=by rw [<- cM];simp
         have t4:W2.cell? ⟨w1.heap.size,4,none⟩=some (.slice ea x.env.length ec):=by rw [<- cM];simp
         have t5:W2.cell? ⟨w1.heap.size,5,none⟩=some (.int .i64 (x.opens:Nat)):=by rw [<- cM];simp
         have r0:W2.cell? ⟨pb,po+4,none⟩=some (str (zt nx)):=by rw [<- cM];exact zU p0
         have r1:W2.cell? ⟨pb,po+5,none⟩=some (.int .i64 nv):=by rw [<- cM];exact zU p1
         have r2:W2.cell? ⟨pb,po+6,none⟩=some (.slice na2 (k_ nx).length nc2):=by rw [<- cM];exact zU p2
         have r3:W2.cell? ⟨pb,po+7,none⟩=some (.slice na3 (qv nx).length nc3):=by rw [<- cM];exact zU p3
         have dN:W2.heap[B]? = some (.cells #[str (zt (.leaf c)),.int .i64 v,.slice a2 n2 c2,.slice a3 n3 c3] 64 (0,0)):=by
          rw [<- cM];exact zX (by rw [d6.out.1.block B cZ nX];exact cv.out.box.blk)
         have Au:W2.heap.size=w1.heap.size+1:=by rw [<- cM];exact zK _ _
         have Cc:Below w1.heap.size w1 W2:=by rw [<- cM];exact (bi _ _).alloc (br _) _
         have u0:W2.cell? ⟨B,0,none⟩=some (str (zt (.leaf c))):=by simp [World.cell?,dN]
         have u1:W2.cell? ⟨B,1,none⟩=some (.int .i64 v):=by simp [World.cell?,dN]
         have u2:W2.cell? ⟨B,2,none⟩=some (.slice a2 n2 c2):=by simp [World.cell?,dN]
         have u3:W2.cell? ⟨B,3,none⟩=some (.slice a3 n3 c3):=by simp [World.cell?,dN]
         have f0:W2.frozen? ⟨B,0,none⟩=false:=by simp [World.frozen?,dN]
         have f1:W2.frozen? ⟨B,1,none⟩=false:=by simp [World.frozen?,dN]
         have f2:W2.frozen? ⟨B,2,none⟩=false:=by simp [World.frozen?,dN]
         have f3:W2.frozen? ⟨B,3,none⟩=false:=by simp [World.frozen?,dN]
         rw [cM]
         have eZ:=bc (bm cM (bm dN (bm Au Cc)));clear cM dN Au Cc d0 q0 q1 q2 q3 q4 q5 p0 p1 p2 p3
         go_upto_region 16 with (fail)
         obtain ⟨W,hW⟩:=zzN (jr B (str (zt nx)) (.int .i64 nv) (.slice na2 (k_ nx).length nc2) (.slice na3 (qv nx).length nc3) W2)
         have Cx:w1.heap.size≠B:=by omega
         have cK:But (fun i=>i=B) W2 W:=by rw [<- hW];exact vj (m:=fun i=>i=B) (But.refl _ _) rfl _ _ _ _
         have t4':=kW cK t4 Cx
         have t5':=kW cK t5 Cx
         have tW:=hW
         unfold jr at tW
         rw [tW]
         have fx:S++P=c::qO keep log opens:=by rw [HS.out.1,HS.out.2.1];rfl
         have mO:RS keep most ra (log++[(c::qO keep log opens,(opens:Int))]) cr cd w1:=by have:=d6.out.2.1;rw [fx] at this;exact this
         have dK:=gopl_back dQ.out HS.out.2.2 d_
         have BB:(if c=102 then x.no else x.yes)=nx:=by
          rw [<- HF.out.2.2.2.2.2.1]
          by_cases h:c=102
          ·rw [if_pos h,if_pos (HF.out.2.2.2.2.2.2.1.2 h)]
          ·rw [if_neg h,if_neg (fun e=>h (HF.out.2.2.2.2.2.2.1.1 e))]
         rw [BB] at dK
         have du:=d6.out.1.size
         have tR:wr.heap.size<=w1.heap.size:=du
         have keepF:∀ (i:Nat) (o:Obj),¬ Chg ra cD cC B (.slice (some ⟨g,0,none⟩) (st.length+1) sc) i->wr.heap[i]? = some o->(¬ Chg ra cD cC B (.slice (some ⟨g,0,none⟩) (st.length+1) sc) i/\i<wr.heap.size)/\W2.heap[i]? = some o:=by
          intro i o hi ho
          have h1:=zZ ho
          have h2:w1.heap[i]? = some o:=by rw [d6.out.1.block i h1 (fun h=>hi (.inl h))];exact ho
          exact ⟨⟨hi,h1⟩,by rw [eZ.out.2.2.2.block i (zZ h2)];exact h2⟩
         have cV:Own W2 185 6 (.slice (some ⟨g,0,none⟩) st.length sc) st.length cells1:=by
          have hs:=cv.out.own.short (m:=st.length) (by simp) (by simp)
          rw [HF.out.1,<- HF.out.2.1,List.take_left] at hs
          refine hs.keep fun g' o ch ho=>?_
          have e:g'=g:=by simpa [Value.ownBlock] using ch.symm
          subst e
          have h2:w1.heap[g']? = some o:=by rw [d6.out.1.block g' (zZ ho) dr.2.2];exact ho
          rw [eZ.out.2.2.2.block g' (zZ h2)];exact h2
         have nJ:But (Chg ra cD cC B (.slice (some ⟨g,0,none⟩) (st.length+1) sc)) wr W2:=(d6.out.1.weak fun i _ hi=>.inl hi).trans' (But.ofBelow (m:=fun _=>False) eZ.out.2.2.2) (fun _ _ h=>h.elim)
         have th:∀ i,(¬ Chg ra cD cC B (.slice (some ⟨g,0,none⟩) (st.length+1) sc) i/\i<wr.heap.size)->i<W2.heap.size->¬ Chg ra cr cd B (.slice (some ⟨g,0,none⟩) st.length sc) i:=by
          rintro i ⟨h1,h2⟩ _ (h | h | h)
          ·rcases d6.out.2.2 i h with h' | h'
           ·exact h1 (.inl h')
           ·have h3:wr.heap.size<=i:=h'
            omega
          ·exact h1 (.inr (.inl h))
          ·exact h1 (.inr (.inr h))
         have cU:=we (opens':=x.opens) (b':=nx) cv.out nJ (But.ofBelow eZ.out.2.2.2) mO tR d6.out.2.2 eZ.out.2.1 cV (fun g' h'=>.inl h') th ((Rep.keep keepF).2 _ _ HF.out.2.2.2.2.1) ((Rep.keep keepF).1 _ _ HF.out.2.2.2.1) ((Rep.keep keepF).2 _ _ HF.out.2.2.1)
         rw [hW] at cU
         have c9:=bc (bm dK cU)
         clear dK cU mO keepF cV nJ th BB fx tW hW cK t3 t4 t5 r0 r1 r2 r3 u0 u1 u2 u3 f0 f1 f2 f3
         go_wp2_with fail
         go_roundw
         case rel=>exact ⟨_,_,_,_,_,_,_,_,_,_,_,_,_,_,_,rfl,c9.out.1,c9.out.2⟩
         case measure =>
          rw [HX.out]
          have h:=x_ c9.out.2.rs
          have hl:(log++[(c::qO keep log opens,(opens:Int))]).length=log.length+1:=by simp
          refine Nat.lt_of_le_of_lt (Nat.le_of_eq h) ?_
          rw [hl];omega
   | ask v' ss y n =>
     obtain ⟨e,mZ,fP,nH,lL⟩:=wM dQ.out.oks dQ.out.fit
     obtain ⟨e1,⟨_,_,e2⟩,⟨_,_,e3⟩,iI,i9⟩:=askbox cv.out.box.rep
     simp only [Value.int.injEq,true_and] at e1
     subst e1
     simp only [Value.slice.injEq] at e2 e3
     obtain ⟨rfl,rfl,rfl⟩:=e2
     obtain ⟨rfl,rfl,rfl⟩:=e3
     obtain ⟨eb,eo,ecap,bv,Da,C9,C_,C0,ta,tc,ea,ec,eev,hFe,hle2,k0,k1,k2,k3,k4,k5,k6,k7,k8,mu,dY,hre⟩:=boundR_at cv.out.re mZ
     subst eev
     have fS:=(List.getElem?_eq_some_iff.1 mZ).1
     have hvl':(v':Int)<(env.length:Int):=by omega
     have sR:=okNs_at _ dQ.out.oke _ _ mZ
     have fA:e.begun<log.length/\e.arg<=15/\e.env.length<=16*log.length:=by obtain ⟨_,_,_,_,_⟩:=e;rw [okN] at sR;exact ⟨sR.2.2.2.1,sR.2.2.2.2,sR.2.2.1⟩
     have hss:ss.length<=15:=by have:=dQ.out.nb;rw [nB] at this;exact this.1
     have b2:wr.cell? ⟨B,2,none⟩=some (.slice a2 ss.length c2):=by simp [World.cell?,cv.out.box.blk]
     have b3:wr.cell? ⟨B,3,none⟩=some (.slice a3 2 c3):=by simp [World.cell?,cv.out.box.blk]
     have mA:=cv.out.box.blk
     have nX:¬ MBk ra cD cC B:=cv.out.bB.2
     have fu:∀ i,MBk ra cD cC i->i<wr.heap.size:=fun i hi=>cv.out.rs.lt hi
     have hZ:=bc (bm mZ (bm nH (bm iI (bm mu (bm dY (bm hre (bm mA fu)))))))
     clear mZ nH iI mu dY hre mA fu i9 fP lL sR
     have b0':wr.cell? ⟨B,0,none⟩=some (str []):=b0
     clear b0
     go_upto_region 19 with (fail)
     obtain ⟨W,hW⟩:=zzN (wr.alloc (.cells #[.int .i64 (-1),str (zt e.body),.int .i64 bv,.slice Da (k_ e.body).length C9,.slice C_ (qv e.body).length C0,.slice ta e.kind.args.length tc,.slice ea e.env.length ec,.int .i64 (e.begun:Nat),.int .i64 (e.arg:Nat)] 187))
     rw [hW]
     have cK:Below wr.heap.size wr W:=by rw [<- hW];exact (bi _ _).alloc (br _) _
     have m9:W.heap.size=wr.heap.size+1:=by rw [<- hW];exact zK _ _
     have hQ:W.heap[wr.heap.size]? = some (.cells #[.int .i64 (-1),str (zt e.body),.int .i64 bv,.slice Da (k_ e.body).length C9,.slice C_ (qv e.body).length C0,.slice ta e.kind.args.length tc,.slice ea e.env.length ec,.int .i64 (e.begun:Nat),.int .i64 (e.arg:Nat)] 187 (0,0)):=by rw [<- hW];exact zS _ _
     have q7:W.cell? ⟨wr.heap.size,7,none⟩=some (.int .i64 (e.begun:Nat)):=by simp [World.cell?,hQ]
     have q8:W.cell? ⟨wr.heap.size,8,none⟩=some (.int .i64 (e.arg:Nat)):=by simp [World.cell?,hQ]
     have nw:=cv.out.rs.below cK
     obtain ⟨P,hP⟩:=zzM (qO keep log e.begun)
     obtain ⟨D,hD⟩:=zzM (dec e.arg)
     have cI:=vh keep dQ.out.lok e.begun
     rw [<- hP] at cI
     have o7:D.length<=2:=by rw [hD];exact qx 1 _ (by omega)
     obtain ⟨O,hO⟩:=zzM ([113]++P)
     have iM:O.length=P.length+1:=by rw [hO];simp
     have fN:=fun w0=>kN (P:=Tryz.prog) [113] P (by simp;omega) w0
     rw [<- hO] at fN
     have mJ:=fun w0=>kN (P:=Tryz.prog) O D (by omega) w0
     have rY:(O++D).length<=1000000:=by simp;omega
     have A2:∃ q p,log[e.begun]? = some (q,p)/\1<=q.length/\q.length<=1000000:=by
      obtain ⟨x,hx⟩:∃ x,log[e.begun]? = some x:=⟨log[e.begun],by simp [fA.1]⟩
      obtain ⟨q,p⟩:=x
      have:=dQ.out.lok e.begun q p hx
      exact ⟨q,p,hx,this.1,by omega⟩
     have CP:=bc (fun (wz:World) (hz:RS keep most ra log cD cC wz)=>HPP.out most ra log cD cC e.begun wz hz d_ dy A2)
     rw [<- hP] at CP
     have CD:=bc (fun wz=>l6Dec_any e.arg (by omega) wz)
     rw [<- hD] at CD
     have CM:=bc (fun (wz:World) (hz:RS keep most ra log cD cC wz)=>HMM.out most ra log cD cC (O++D) (e.begun:Int) wz hz d_ dy rY)
     have AV:=nw.drew
     have nQ:¬ MBk ra cD cC wr.heap.size:=fun h=>Nat.lt_irrefl _ (hZ.out.2.2.2.2.2.2.2 _ h)
     have HS:=bc (bm hP (bm hD (bm hO (bm cK (bm m9 (bm hQ nw))))))
     have AU:=bc AV
     clear hP hD hO cK m9 hQ nw hW AV A2 rY k0 k1 k2 k3 k4 k5 k6 k7 k8
     go_region_held3 (fun w'=>w'.cell? ⟨wr.heap.size,7,none⟩=some (.int .i64 (e.begun:Nat))/\w'.cell? ⟨wr.heap.size,8,none⟩=some (.int .i64 (e.arg:Nat)))
      (first
       | exact ⟨q7,q8⟩
       | exact ⟨kW b9 q7 nQ,kW b9 q8 nQ⟩
       | exact ⟨kW b9 r7 nQ,kW b9 r8 nQ⟩
       | exact ⟨r7,r8⟩
       | go_keep)
      (first
       | (go_at_call 76;refine (CM.out _ fi.out).mono ?_;rintro en w1 ⟨cr,cd,rfl,b9,cw,cT⟩)
       | (go_at_call 112;refine (CP.out _ fi.out).mono ?_;rintro en w6 ⟨rfl,e5⟩;subst e5)
       | (go_at_call 112;refine (CP.out _ AU.out).mono ?_;rintro en w6 ⟨rfl,e5⟩;subst e5)
       | (go_at_call 96;refine (CD.out _).mono ?_;rintro en w5 ⟨rfl,tV⟩;have cF:=wD tV;clear tV;have fi:=bc (HS.out.2.2.2.2.2.2.below cF);have r7:=kW (But.ofBelow (m:=fun _=>False) cF) q7 (fun h=>h);have r8:=kW (But.ofBelow (m:=fun _=>False) cF) q8 (fun h=>h)))
     obtain ⟨sta,stc,es⟩:=cv.out.own.slice
     subst es
     have fJ:=dQ.out.stl
     have hz5:=cF.size
     have du:=b9.size
     have m9:=HS.out.2.2.2.2.1
     have Cd:But (Chg ra cD cC B (.slice sta st.length stc)) wr w1:=((But.ofBelow HS.out.2.2.2.1).trans (But.ofBelow cF)).trans' b9 fun i _ hi=>.inl hi
     have aA:But (MBk ra cD cC) wr w1:=((But.ofBelow HS.out.2.2.2.1).trans (But.ofBelow cF)).trans b9
     have hQ1:w1.heap[wr.heap.size]? = some (.cells #[.int .i64 (-1),str (zt e.body),.int .i64 bv,.slice Da (k_ e.body).length C9,.slice C_ (qv e.body).length C0,.slice ta e.kind.args.length tc,.slice ea e.env.length ec,.int .i64 (e.begun:Nat),.int .i64 (e.arg:Nat)] 187 (0,0)):=by
      rw [b9.block _ (by omega) nQ,cF.block _ (by omega)];exact HS.out.2.2.2.2.2.1
     have rz:w1.heap[B]? = some (.cells #[str [],.int .i64 (v':Nat),.slice a2 ss.length c2,.slice a3 2 c3] 64 (0,0)):=by
      rw [aA.block B cZ nX];exact hZ.out.2.2.2.2.2.2.1
     have aq:Own w1 185 6 (.slice sta st.length stc) st.length cells :=
      cv.out.own.keep fun g o hg ho=>by rw [aA.block g (zZ ho) (cv.out.sB g hg).2.2];exact ho
     have d0:w1.cell? ⟨B,0,none⟩=some (str []):=by simp [World.cell?,rz]
     have d1:w1.cell? ⟨B,1,none⟩=some (.int .i64 (v':Nat)):=by simp [World.cell?,rz]
     have d2:w1.cell? ⟨B,2,none⟩=some (.slice a2 ss.length c2):=by simp [World.cell?,rz]
     have d3:w1.cell? ⟨B,3,none⟩=some (.slice a3 2 c3):=by simp [World.cell?,rz]
     have Bm:∀ i,MBk ra cr cd i->MBk ra cD cC i\/wr.heap.size<=i:=fun i hi=>by
      rcases cT i hi with h | h
      ·exact .inl h
      ·exact .inr (by omega)
     have H1:=bc (bm Cd (bm aA (bm hQ1 (bm rz (bm aq (bm cw Bm))))))
     have hzw1:wr.heap.size<w1.heap.size:=by omega
     clear Cd aA hQ1 rz aq cw cT Bm b9 cF fi AU q7 q8 r7 r8 hz5 du m9 fN mJ b0' b1 b2 b3 Cb CP CD CM
     go_wp2_with (at_builtin;refine zW rfl _ _ 182 rfl 185 (.agg #[str [],.int .i64 0,.slice none 0 0,.slice none 0 0,.slice none 0 0,.int .i64 0]) 6 104 Tryz.underlying182 Tryz.infoFS rfl (by decide) (.slice sta st.length stc) st.length cells rfl ?c1 _ 1 [str [],.int .i64 (v':Nat),.slice a2 ss.length c2,.slice a3 2 c3,.slice (some ⟨eb,eo,none⟩) env.length ecap,.int .i64 (opens:Nat)] rfl ?c2 ?c3 ?c4 ?_)
     case c1=>exact H1.out.2.2.2.2.1.alloc _
     case c2=>exact zM.litk #[str [],.int .i64 (v':Nat),.slice a2 ss.length c2,.slice a3 2 c3,.slice (some ⟨eb,eo,none⟩) env.length ecap,.int .i64 (opens:Nat)] rfl (by simp [str,Value.oneCell']) _ (by simp)
     case c3=>unfold maxLen;omega
     case c4=>omega
     intro a' c' w2 sS b8 mB
     have nj:=b8.size
     rw [zK] at nj
     have sf:∀ g,(Value.slice a' (st.length+1) c').ownBlock=some g->(Value.slice sta st.length stc).ownBlock=some g\/w1.heap.size<=g:=by
      intro g hg
      rcases mB g hg with h | h
      ·exact .inl h
      ·have:g=w1.heap.size+1:=by simpa using h
       exact .inr (by omega)
     have nA:But (Chg ra cD cC B (.slice sta st.length stc)) wr w2:=(H1.out.1.alloc _).trans' b8 fun i _ hi=>.inr (.inr hi)
     have mY:But (fun b=>(Value.slice sta st.length stc).ownBlock=some b) w1 w2:=((But.refl _ w1).alloc _).trans b8
     have nSB:¬ (Value.slice sta st.length stc).ownBlock=some B:=fun h=>(cv.out.sB _ h).2.1 rfl
     have nSQ:¬ (Value.slice sta st.length stc).ownBlock=some wr.heap.size:=fun h=>Nat.lt_irrefl _ (cv.out.own.lt h)
     have Ad:=(mY.block wr.heap.size hzw1 nSQ).trans H1.out.2.2.1
     have oQ:=(mY.block B (by omega) nSB).trans H1.out.2.2.2.1
     have q5:w2.cell? ⟨wr.heap.size,5,none⟩=some (.slice ta e.kind.args.length tc):=by simp [World.cell?,Ad]
     have q6:w2.cell? ⟨wr.heap.size,6,none⟩=some (.slice ea e.env.length ec):=by simp [World.cell?,Ad]
     have b2:w2.cell? ⟨B,2,none⟩=some (.slice a2 ss.length c2):=by simp [World.cell?,oQ]
     have keepF:∀ (i:Nat) (o:Obj),¬ Chg ra cD cC B (.slice sta st.length stc) i->wr.heap[i]? = some o->(¬ Chg ra cD cC B (.slice sta st.length stc) i/\i<wr.heap.size)/\w2.heap[i]? = some o:=fun i o hi ho =>
      ⟨⟨hi,zZ ho⟩,by rw [nA.block i (zZ ho) hi];exact ho⟩
     have C:=pI (fun i=>¬ Chg ra cD cC B (.slice sta st.length stc) i/\i<wr.heap.size) e.env env ss e.kind log.length (.slice ea e.env.length ec) (.slice a2 ss.length c2) (.slice ta e.kind.args.length tc) (.slice (some ⟨eb,eo,none⟩) env.length ecap) w2
      ((Rep.keep keepF).1 _ _ hZ.out.2.2.2.2.2.1) ((Rep.keep keepF).1 _ _ hZ.out.2.2.1) ((Rep.keep keepF).1 _ _ hZ.out.2.2.2.2.1) ((Rep.keep keepF).1 _ _ cv.out.re) (by omega) hZ.out.2.1 (by omega)
     have CH:=bc C
     have H2:=bc (bm nA (bm mY (bm Ad (bm oQ (bm keepF (bm sS sf))))))
     clear C nA mY Ad oQ keepF sS sf b8 mB nSB nSQ d0 d1 d2 d3
     go_wp2_with fail
     refine CH.out.mono ?_
     rintro en w3 ⟨ha,hc,rfl,cP,nh⟩
     have tS:=cP.size
     have Ct:=(cP.block wr.heap.size (by omega)).trans H2.out.2.2.1
     have fh:=(cP.block B (by omega)).trans H2.out.2.2.2.1
     have p1:w3.cell? ⟨wr.heap.size,1,none⟩=some (str (zt e.body)):=by simp [World.cell?,Ct]
     have p2:w3.cell? ⟨wr.heap.size,2,none⟩=some (.int .i64 bv):=by simp [World.cell?,Ct]
     have p3:w3.cell? ⟨wr.heap.size,3,none⟩=some (.slice Da (k_ e.body).length C9):=by simp [World.cell?,Ct]
     have p4:w3.cell? ⟨wr.heap.size,4,none⟩=some (.slice C_ (qv e.body).length C0):=by simp [World.cell?,Ct]
     have u0:w3.cell? ⟨B,0,none⟩=some (str []):=by simp [World.cell?,fh]
     have u1:w3.cell? ⟨B,1,none⟩=some (.int .i64 (v':Nat)):=by simp [World.cell?,fh]
     have u2:w3.cell? ⟨B,2,none⟩=some (.slice a2 ss.length c2):=by simp [World.cell?,fh]
     have u3:w3.cell? ⟨B,3,none⟩=some (.slice a3 2 c3):=by simp [World.cell?,fh]
     have f0:w3.frozen? ⟨B,0,none⟩=false:=by simp [World.frozen?,fh]
     have f1:w3.frozen? ⟨B,1,none⟩=false:=by simp [World.frozen?,fh]
     have f2:w3.frozen? ⟨B,2,none⟩=false:=by simp [World.frozen?,fh]
     have f3:w3.frozen? ⟨B,3,none⟩=false:=by simp [World.frozen?,fh]
     have H3:=bc (bm cP (bm nh fh));clear cP nh Ct fh q5 q6 b2
     go_upto_region 23 with (fail)
     obtain ⟨W4,aO⟩:=zzN (jr B (str (zt e.body)) (.int .i64 bv) (.slice Da (k_ e.body).length C9) (.slice C_ (qv e.body).length C0) w3)
     have tW:=aO
     unfold jr at tW
     rw [tW]
     have fx:O++D=113::(qO keep log e.begun++dec e.arg):=by rw [HS.out.2.2.1,HS.out.1,HS.out.2.1];rfl
     have mO:RS keep most ra (log++[(113::(qO keep log e.begun++dec e.arg),(e.begun:Int))]) cr cd w1:=by have:=H1.out.2.2.2.2.2.1;rw [fx] at this;exact this
     have dK:=gopl_ask dQ.out d_ hZ.out.1
     have eV:Below w2.heap.size w2 w3:=H3.out.1
     have k1:But (Chg ra cD cC B (.slice sta st.length stc)) wr w3:=H2.out.1.trans (But.ofBelow eV)
     have k2:But (fun b=>(Value.slice sta st.length stc).ownBlock=some b) w1 w3:=H2.out.2.1.trans (But.ofBelow eV)
     have k5:=H2.out.2.2.2.2.2.1.keep (w':=w3) fun g o hg ho=>by rw [eV.block g (zZ ho)];exact ho
     have th:∀ i,((¬ Chg ra cD cC B (.slice sta st.length stc) i/\i<wr.heap.size)\/w2.heap.size<=i)->i<w3.heap.size->¬ Chg ra cr cd B (.slice a' (st.length+1) c') i:=by
      intro i hi _ h
      have hm:=fun hm:MBk ra cr cd i=>H1.out.2.2.2.2.2.1.lt hm
      rcases hi with ⟨h1,h2⟩ | h1
      ·rcases h with h | h | h
       ·rcases H1.out.2.2.2.2.2.2 i h with h' | h'
        ·exact h1 (.inl h')
        ·omega
       ·exact h1 (.inr (.inl h))
       ·rcases H2.out.2.2.2.2.2.2 i h with h' | h'
        ·exact h1 (.inr (.inr h'))
        ·omega
      ·rcases h with h | h | h
       ·have:=hm h;omega
       ·omega
       ·have:=H2.out.2.2.2.2.2.1.lt h;omega
     have mL:∀ (i:Nat) (o:Obj),¬ Chg ra cD cC B (.slice sta st.length stc) i->wr.heap[i]? = some o->((¬ Chg ra cD cC B (.slice sta st.length stc) i/\i<wr.heap.size)\/w2.heap.size<=i)/\w3.heap[i]? = some o:=fun i o hi ho=>by
      obtain ⟨h1,h2⟩:=H2.out.2.2.2.2.1 i o hi ho
      exact ⟨.inl h1,by rw [eV.block i (zZ h2)];exact h2⟩
     have AQ:zG (fun i=>(¬ Chg ra cD cC B (.slice sta st.length stc) i/\i<wr.heap.size)\/w2.heap.size<=i) w3 (jZ (⟨v',ss,y,n,env,opens⟩::st:List SF).reverse) (cells++[str [],.int .i64 (v':Nat),.slice a2 ss.length c2,.slice a3 2 c3,.slice (some ⟨eb,eo,none⟩) env.length ecap,.int .i64 (opens:Nat)]):=by
      rw [List.reverse_cons,uJ]
      refine zG.append ((Rep.keep mL).2 _ _ cv.out.rf) ?_
      simp only [jZ,List.append_nil]
      rw [encSF]
      exact zG.append ((Rep.keep mL).2 _ _ cv.out.box.rep) (zJ.2 ⟨_,_,rfl,(Rep.keep mL).1 _ _ cv.out.re,zJ.2 ⟨_,_,rfl,zI.2 rfl,zC.2 rfl⟩⟩)
     have AR:Rep (fun i=>(¬ Chg ra cD cC B (.slice sta st.length stc) i/\i<wr.heap.size)\/w2.heap.size<=i) w3 (.sl 187 9 (e.env++qM env log.length 0 e.kind.args ss).length (z8 (e.env++qM env log.length 0 e.kind.args ss))) (.slice ha (e.env.length+(qM env log.length 0 e.kind.args ss).length) hc):=by
      rw [List.length_append];exact H3.out.2.1
     have cU:=we (opens':=log.length) (b':=e.body) (st':=⟨v',ss,y,n,env,opens⟩::st) cv.out k1 k2 mO (by omega) H1.out.2.2.2.2.2.2 H3.out.2.2 k5 H2.out.2.2.2.2.2.2 th ((Rep.keep mL).2 _ _ hZ.out.2.2.2.1) AR AQ
     rw [aO] at cU
     have c9:=bc (bm dK cU)
     clear dK cU mO eV k1 k2 k5 th mL AQ AR fx tW aO u0 u1 u2 u3 f0 f1 f2 f3 p1 p2 p3 p4
     go_wp2_with fail
     go_roundw
     case rel=>exact ⟨_,_,_,_,_,_,_,_,_,_,_,_,_,_,_,rfl,c9.out.1,c9.out.2⟩
     case measure =>
      rw [HX.out]
      have h:=x_ c9.out.2.rs
      have hl:(log++[(113::(qO keep log e.begun++dec e.arg),(e.begun:Int))]).length=log.length+1:=by simp
      refine Nat.lt_of_le_of_lt (Nat.le_of_eq h) ?_
      rw [hl];omega
end Go.Proofs.YtfedjhgaeikjmaaGreatDoor

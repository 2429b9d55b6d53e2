/- Walks of functions that the statement reaches, and plain words. No conditions. -/
import Derived.Lib.SliceRun
import Derived.RangeFuncNested
import Derived.RangeFuncBound
import Derived.RangeFuncCalls
import Derived.RangeFuncLeaves
import Derived.RangeFuncFrom
import Derived.RangeFuncBox
import Derived.Shelf.Abstract
import Derived.Shelf.RegionOpen
import Derived.OwnWalkIn
import Derived.TacticsInMore
import Derived.LoopNIn
import Derived.LoopIn
import Derived.Test.YtdhaafoiokkbnaaGreatDoorQ10
set_option linter.unusedVariables false
set_option linter.unusedSimpArgs false
set_option maxHeartbeats 2000000
namespace Go.Proofs.YtdhaafoiokkbnaaGreatDoor
open Go.RowKit
theorem runM_more:∀ (f m:Nat) (b:Bd) (env:List Clo) (bg:Nat) (p:Bs) (st:List Fr) (r:UInt8×List (Bs×Nat)),qm f m b env bg p st=some r->∀ f',f<=f'->qm f' m b env bg p st=some r:=by
 intro f
 induction f with
 | zero =>
   intro m b env bg p st r h f' _
   cases b with
   | leaf d =>
     by_cases hd:d=117
     ·subst hd;rw [jc] at h ⊢;exact h
     ·rw [v7 hd] at h;simp at h
   | ask l ss y n=>rw [j3] at h;simp at h
 | succ f ih =>
   intro m b env bg p st r h f' hf
   obtain ⟨f',rfl⟩:∃ k,f'=k+1:=⟨f'-1,by omega⟩
   cases b with
   | leaf d =>
     by_cases hd:d=117
     ·subst hd;rw [jc] at h ⊢;exact h
     ·cases st with
      | nil=>rw [vY hd] at h ⊢;exact h
      | cons fr st' =>
        rw [qp hd,Option.map_eq_some_iff] at h
        obtain ⟨x,h1,h2⟩:=h
        rw [qp hd,ih _ _ _ _ _ _ _ h1 f' (by omega),Option.map_some,h2]
   | ask l ss y n =>
     cases he:env[l]? with
     | none=>simp [qm,he] at h
     | some e =>
       rw [qb _ _ _ _ _ _ _ _ _ _ he,Option.map_eq_some_iff] at h
       obtain ⟨x,h1,h2⟩:=h
       rw [qb _ _ _ _ _ _ _ _ _ _ he,ih _ _ _ _ _ _ _ h1 f' (by omega),Option.map_some,h2]
theorem px:∀ (ts:List Ty) (xs:List Bs) (bs:List Bd),(∀ t∈ts,zU t<=15)->ts.length=xs.length->zv ts xs=some bs->za (zp [] ts) bs/\uY bs
 | [],[],bs,_,_,h=>by
   simp [zv] at h;subst h
   exact ⟨by simp [za,zp],by simp [uY]⟩
 | [],x::xs,_,_,hl,_=>by simp at hl
 | t::ts,[],_,_,hl,_=>by simp at hl
 | t::ts,x::xs,bs,ha,hl,h=>by
   simp only [zv,Option.bind_eq_some_iff,Option.map_eq_some_iff] at h
   obtain ⟨b,hb,bs',nj,rfl⟩:=h
   obtain ⟨h1,h2⟩:=px ts xs bs' (fun t h=>ha t (by simp [h])) (by simpa using hl) nj
   have ht:=ha t (by simp)
   rw [vu ht] at hb
   have hg:=(kd hb).1
   rw [jS ht] at hg
   refine ⟨?_,?_⟩
   ·rw [za]
    exact ⟨t.args,zp [] ts,by simp [zp],hg.fit,h1⟩
   ·rw [uY];exact ⟨hg.wf,h2⟩
structure RunF (s text:Bs) (xs:List Bs) (c:UInt8) (log:Pl):Prop where
 more:kV 5000 s text xs=some (c,log)
 leg:jf s (log.map (·.1)) (log.map (·.2))=true
 fol:qa s text (log.map (·.1)) (log.map (·.2))=true
 pos:0<log.length
 len:log.length<=60
 lim:∀ x∈log,Lim x.1.length
 last:c=117/\(∃ y,log[log.length-1]? = some y/\y.1≠[117])\/(c=116\/c=102)/\log[log.length-1]? = some ([c],0)/\1<log.length
theorem run_facts {s text:Bs} {xs:List Bs} {c:UInt8} {log:Pl} (h:kV 60 s text xs=some (c,log)):RunF s text xs c log:=by
 unfold kV at h
 rw [vj] at h
 cases hq:zI s text with
 | none=>rw [hq] at h;simp at h
 | some b =>
   rw [hq] at h
   simp only [Option.map_some,Option.bind_some] at h
   split at h
   ·rename_i cA
    rw [Option.bind_eq_some_iff] at h
    obtain ⟨bs,nj,hr⟩:=h
    have hg:=(kd hq).1
    obtain ⟨hf,hw⟩:=px _ _ _ (gX hg.atoms).1 cA nj
    obtain ⟨hI,rX⟩:=runAll_in hg.atoms hg.fit hg.wf hf hw (by omega) (cC _) hr
    have CX:=follow_in hq hI
    obtain ⟨_,_,_,hleg⟩:=in_of_follow CX
    have mT:=jV hI.ok
    have nC:0<log.length:=by
     unfold v8 at hr
     rw [Option.map_eq_some_iff] at hr
     obtain ⟨x,_,e⟩:=hr
     simp only [Prod.mk.injEq] at e
     rw [<- e.2];simp
    refine ⟨?_,hleg,CX,nC,mT,legPl_lim hg.atoms hI.ok,?_⟩
    ·unfold kV
     rw [vj,hq]
     simp only [Option.map_some,Option.bind_some]
     rw [if_pos cA,nj,Option.bind_some]
     unfold v8 at hr ⊢
     rw [Option.map_eq_some_iff] at hr
     obtain ⟨x,hx,e⟩:=hr
     rw [runM_more _ _ _ _ _ _ _ _ hx _ (by omega),Option.map_some,e]
    ·rcases rX with rfl | ⟨hc,w,rfl,a9⟩
     ·left
      obtain ⟨d,p,z,hv,ho⟩:=kg hI.ok (show log.length-1<log.length by omega)
      refine ⟨rfl,_,hv,fun e=>?_⟩
      have h1:=ho.hc
      have e:d::p=[117]:=e
      simp only [List.cons.injEq] at e
      rw [e.1] at h1
      rcases h1 with h | h | h <;> exact absurd h (by decide)
     ·right
      refine ⟨hc,?_,by rw [List.length_append,List.length_singleton];omega⟩
      rw [List.length_append,List.length_singleton,Nat.add_sub_cancel,List.getElem?_append_right (cC _),Nat.sub_self]
      rfl
   ·simp at h
theorem zo.cellP {w:World} {l:Pl} {mv pt:Value} (h:zo w l mv pt) {i:Nat} {x:Bs×Int} (hi:l[i]? = some x):∃ g c,pt=.slice (some ⟨g,0,none⟩) l.length c/\w.cell? ⟨g,i,none⟩=some (.int .i64 x.2) :=
 h.2.at (by simp [qD,hi])
mutual
def shC:Clo->Clo
 | .mk b env g p=>.mk b (shE env) (g-1) (p.drop 1)
def shE:List Clo->List Clo
 | []=>[]
 | e::es=>shC e::shE es
end
def shF (fr:Fr):Fr:=⟨fr.yes,fr.no,shE fr.env,fr.begun-1,fr.path.drop 1⟩
def shM (x:Bs×Nat):Bs×Nat:=(x.1.take 1++x.1.drop 2,x.2-1)
mutual
def InC:Clo->Prop
 | .mk _ env g p=>(∃ p',p=48::p')/\(p=[48]\/1<=g)/\InE env
def InE:List Clo->Prop
 | []=>True
 | e::es=>InC e/\InE es
end
theorem g_:∀ (a b:List Clo),shE (a++b)=shE a++shE b
 | [],b=>by rw [shE];rfl
 | e::es,b=>by rw [List.cons_append,shE,shE,g_ es b];rfl
theorem wQ:∀ (a b:List Clo),InE a->InE b->InE (a++b)
 | [],b,_,h=>h
 | e::es,b,h,k=>by
   rw [InE] at h
   rw [List.cons_append,InE]
   exact ⟨h.1,wQ es b h.2 k⟩
theorem shE_get:∀ (a:List Clo) (l:Nat),(shE a)[l]? = (a[l]?).map shC
 | [],l=>by rw [shE];simp
 | e::es,0=>by rw [shE];rfl
 | e::es,l+1=>by rw [shE,List.getElem?_cons_succ,List.getElem?_cons_succ,shE_get es l]
theorem InE_get:∀ (a:List Clo) (l:Nat) (e:Clo),InE a->a[l]? = some e->InC e
 | [],l,e,_,h=>by simp at h
 | e'::es,0,e,h,k=>by rw [InE] at h;simp at k;subst k;exact h.1
 | e'::es,l+1,e,h,k=>by rw [InE] at h;exact InE_get es l e h.2 (by simpa using k)
theorem shE_own (env:List Clo) (m:Nat) (p:Bs) (hp:p≠[]):∀ (ss:List Bd) (i:Nat),shE (zD env m p i ss)=zD (shE env) (m-1) (p.drop 1) i ss
 | [],i=>by rw [zD,zD,shE]
 | s::ss,i=>by
   rw [zD,zD,shE,shC,shE_own env m p hp ss (i+1)]
   congr 2
   cases p with
   | nil=>exact absurd rfl hp
   | cons x xs=>rfl
theorem InE_own {env:List Clo} {m:Nat} {p:Bs} (he:InE env) (hm:1<=m) (hp:∃ p',p=48::p'):∀ (ss:List Bd) (i:Nat),InE (zD env m p i ss)
 | [],i=>by rw [zD,InE];trivial
 | s::ss,i=>by
   rw [zD,InE,InC]
   obtain ⟨p',rfl⟩:=hp
   exact ⟨⟨⟨_,rfl⟩,.inr hm,he⟩,InE_own he hm ⟨p',rfl⟩ ss (i+1)⟩
theorem runM_sh:∀ (f m:Nat) (b:Bd) (env:List Clo) (bg:Nat) (p:Bs) (st:List Fr) (c:UInt8) (log:List (Bs×Nat)),1<=m->InE env->(∃ p',p=48::p')->1<=bg->(∀ fr∈st,InE fr.env/\(∃ p',fr.path=48::p')/\1<=fr.begun) ->
 qm f m b env bg p st=some (c,log)->qm f (m-1) b (shE env) (bg-1) (p.drop 1) (st.map shF)=some (c,log.map shM)/\∀ x∈log,(∃ d p',x.1=d::48::p')/\(x.1=[113,48]\/1<=x.2):=by
 intro f
 induction f with
 | zero =>
   intro m b env bg p st c log _ _ _ _ _ h
   cases b with
   | leaf d =>
     by_cases hd:d=117
     ·subst hd
      rw [jc] at h ⊢
      simp only [Option.some.injEq,Prod.mk.injEq] at h
      obtain ⟨rfl,rfl⟩:=h
      exact ⟨rfl,fun x hx=>by simp at hx⟩
     ·rw [v7 hd] at h;simp at h
   | ask l ss y n=>rw [j3] at h;simp at h
 | succ f ih =>
   intro m b env bg p st c log hm hE hp fU dI h
   cases b with
   | leaf d =>
     by_cases hd:d=117
     ·subst hd
      rw [jc] at h ⊢
      simp only [Option.some.injEq,Prod.mk.injEq] at h
      obtain ⟨rfl,rfl⟩:=h
      exact ⟨rfl,fun x hx=>by simp at hx⟩
     ·obtain ⟨p',rfl⟩:=hp
      cases st with
      | nil =>
        rw [vY hd] at h
        simp only [Option.some.injEq,Prod.mk.injEq] at h
        obtain ⟨rfl,rfl⟩:=h
        rw [List.map_nil,vY hd]
        refine ⟨rfl,fun x hx=>?_⟩
        obtain rfl:=List.mem_singleton.1 hx
        exact ⟨⟨_,_,rfl⟩,.inr fU⟩
      | cons fr st' =>
        rw [qp hd,Option.map_eq_some_iff] at h
        obtain ⟨⟨c',log'⟩,h1,h2⟩:=h
        simp only [Prod.mk.injEq] at h2
        obtain ⟨rfl,rfl⟩:=h2
        obtain ⟨g1,g2,g3⟩:=dI fr (by simp)
        obtain ⟨k1,k2⟩:=ih (m+1) _ _ _ _ _ _ _ (by omega) g1 g2 g3 (fun x hx=>dI x (by simp [hx])) h1
        rw [List.map_cons,qp hd]
        rw [show m-1+1=m+1-1 from by omega]
        refine ⟨?_,fun x hx=>?_⟩
        ·show (qm f (m+1-1) (if d=116 then fr.yes else fr.no) (shE fr.env) (fr.begun-1) (fr.path.drop 1) (st'.map shF)).map _=_
         rw [k1];rfl
        ·rcases List.mem_cons.1 hx with rfl | hx
         ·exact ⟨⟨_,_,rfl⟩,.inr fU⟩
         ·exact k2 x hx
   | ask l ss y n =>
     cases he:env[l]? with
     | none=>simp [qm,he] at h
     | some e =>
       rw [qb _ _ _ _ _ _ _ _ _ _ he,Option.map_eq_some_iff] at h
       obtain ⟨⟨c',log'⟩,h1,h2⟩:=h
       simp only [Prod.mk.injEq] at h2
       obtain ⟨rfl,rfl⟩:=h2
       have hC:=InE_get _ _ _ hE he
       obtain ⟨eb,ee,eg,ep⟩:=e
       rw [InC] at hC
       obtain ⟨q1,q2,q3⟩:=hC
       obtain ⟨k1,k2⟩:=ih (m+1) _ _ _ _ _ _ _ (by omega) (wQ _ _ q3 (InE_own hE hm q1 ss 0)) q1 hm (fun x hx=>by
        rcases List.mem_cons.1 hx with rfl | hx
        ·exact ⟨hE,hp,fU⟩
        ·exact dI x hx) h1
       have iN:(shE env)[l]? = some (shC (.mk eb ee eg ep)):=by rw [shE_get,he];rfl
       rw [qb _ _ _ _ _ _ _ _ _ _ iN]
       obtain ⟨p',rfl⟩:=q1
       rw [g_,shE_own env m _ (by simp)] at k1
       rw [show m-1+1=m+1-1 from by omega]
       refine ⟨?_,fun x hx=>?_⟩
       ·have e1:(shC (.mk eb ee eg (48::p')))=.mk eb (shE ee) (eg-1) p':=by rw [shC];rfl
        rw [e1]
        show (qm f (m+1-1) eb (shE ee++zD (shE env) (m-1) p' 0 ss) (m-1) p' (⟨y,n,shE env,bg-1,p.drop 1⟩::st.map shF)).map _=_
        have k1:qm f (m+1-1) eb (shE ee++zD (shE env) (m-1) p' 0 ss) (m-1) p' (⟨y,n,shE env,bg-1,p.drop 1⟩::st.map shF)=some (c',log'.map shM):=k1
        rw [k1];rfl
       ·rcases List.mem_cons.1 hx with rfl | hx
        ·refine ⟨⟨_,_,rfl⟩,?_⟩
         rcases q2 with k | k
         ·left;show 113::(48::p')=_;rw [k]
         ·exact .inr k
        ·exact k2 x hx
theorem runM_cut:∀ (f m:Nat) (b:Bd) (env:List Clo) (bg:Nat) (p:Bs) (st:List Fr) (fr:Fr) (c:UInt8) (log:List (Bs×Nat)),qm f m b env bg p (st++[fr])=some (c,log) ->
 ∃ c' l1 l2,log=l1++l2/\qm f m b env bg p st=some (c',l1)/\(l2=[]\/∃ f' m',qm f' m' (if c'=116 then fr.yes else fr.no) fr.env fr.begun fr.path []=some (c,l2)):=by
 intro f
 induction f with
 | zero =>
   intro m b env bg p st fr c log h
   cases b with
   | leaf d =>
     by_cases hd:d=117
     ·subst hd
      rw [jc] at h
      simp only [Option.some.injEq,Prod.mk.injEq] at h
      obtain ⟨rfl,rfl⟩:=h
      exact ⟨117,[],[],rfl,jc _ _ _ _ _ _,.inl rfl⟩
     ·rw [v7 hd] at h;simp at h
   | ask l ss y n=>rw [j3] at h;simp at h
 | succ f ih =>
   intro m b env bg p st fr c log h
   cases b with
   | leaf d =>
     by_cases hd:d=117
     ·subst hd
      rw [jc] at h
      simp only [Option.some.injEq,Prod.mk.injEq] at h
      obtain ⟨rfl,rfl⟩:=h
      exact ⟨117,[],[],rfl,jc _ _ _ _ _ _,.inl rfl⟩
     ·cases st with
      | nil =>
        rw [List.nil_append,qp hd,Option.map_eq_some_iff] at h
        obtain ⟨⟨c',log'⟩,h1,h2⟩:=h
        simp only [Prod.mk.injEq] at h2
        obtain ⟨rfl,rfl⟩:=h2
        exact ⟨d,[(d::p,bg)],log',rfl,vY hd _ _ _ _ _,.inr ⟨_,_,h1⟩⟩
      | cons fr' st' =>
        rw [List.cons_append,qp hd,Option.map_eq_some_iff] at h
        obtain ⟨⟨c',log'⟩,h1,h2⟩:=h
        simp only [Prod.mk.injEq] at h2
        obtain ⟨rfl,rfl⟩:=h2
        obtain ⟨c1,l1,l2,e,k1,k2⟩:=ih _ _ _ _ _ _ _ _ _ h1
        refine ⟨c1,(d::p,bg)::l1,l2,by rw [e];rfl,?_,k2⟩
        rw [qp hd,k1];rfl
   | ask l ss y n =>
     cases he:env[l]? with
     | none=>simp [qm,he] at h
     | some e =>
       rw [qb _ _ _ _ _ _ _ _ _ _ he,Option.map_eq_some_iff] at h
       obtain ⟨⟨c',log'⟩,h1,h2⟩:=h
       simp only [Prod.mk.injEq] at h2
       obtain ⟨rfl,rfl⟩:=h2
       obtain ⟨c1,l1,l2,e1,k1,k2⟩:=ih (m+1) _ _ _ _ (⟨y,n,env,bg,p⟩::st) _ _ _ h1
       refine ⟨c1,(113::e.path,e.begun)::l1,l2,by rw [e1];rfl,?_,k2⟩
       rw [qb _ _ _ _ _ _ _ _ _ _ he,k1];rfl
theorem run_firstD {t:Ty} {A:Bd} {E:List Clo} {hand:List Ty} {ss:List Bd} (cj:zU t<=15) (hE:z9 True t A [([113],-1)] E true 0 hand) (hf:kX t.args A) (hw:wfB A) (hs:za (zp hand t.args) ss) (oV:uY ss):xj True t A [([113],-1)] A (zD E 0 [] 0 ss) (0,[]) [] false:=by
 have co:ji t [([113],-1)] 0=true:=by
  unfold ji
  show (yG t [113] && (qZ [113] == decide (0 % 2=0)) && _)=true
  have:yG t [113]=true:=by simp [yG,qc]
  rw [this]
  rfl
 have fD:zL t [([113],-1)]=true:=by
  unfold zL
  show (decide (1<=60) && (qd t _ 0 && ji t _ 0))=true
  rw [co];rfl
 have cA:ss.length=t.args.length:=by
  have:=qB _ _ hs
  rw [qH] at this;exact this.symm
 have mQ:=jZ t
 have m7:kB [([113],-1)] false 1=[0]:=yj fD (by simp)
 refine ⟨⟨fD,rfl,fun i hi ho=>?_⟩,Nat.lt_succ_self 0,rfl,⟨t.args,?_,hf⟩,hw,⟨-1,rfl⟩,by rw [show ([([113],-1)]:Pl).length=1 from rfl,m7];simp,Nat.lt_succ_self 0,rfl,⟨t,qc t⟩,?_,fun _=>?_,by rw [qu]⟩
 ·have hi:i<1:=hi
  omega
 ·exact own_ok (o:=false) (hand:=hand) hE ⟨-1,rfl⟩ rfl (Nat.lt_succ_self 0) (by show 0∈kB _ false 1;rw [m7];simp) (qc t) ss t.args 0 (fun k=>by rw [Nat.zero_add]) (by omega) hs oV (fun e=>by simp at e)
 ·rfl
 ·show kw t A _ 1=_
  rw [vQ,xm,cA];rfl
def jy (y:Bs×Int):Bool:=decide (2<=y.1.length)
def isQ0 (y:Bs×Int):Bool:=y.1 == [113,48]
def qk (y:Bs×Int):Bs×Int:=(y.1.take 1++y.1.drop 2,y.2-1)
def uF (log:Pl):Pl:=(log.drop 1).takeWhile jy
theorem own_zero (A:Bd):zD [] 0 [] 0 [A]=[.mk A [] 0 [48]]:=by
 rw [zD,zD,jW (by omega)];rfl
theorem one_get {e' e:Clo} {l:Nat} (h:[e'][l]? = some e):l=0/\e=e':=by
 cases l with
 | zero=>simp at h;exact ⟨rfl,h.symm⟩
 | succ l=>simp at h
theorem gU (A:Bd):∀ (f m:Nat) (b:Bd) (c:UInt8) (l2:List (Bs×Nat)),qm f m b [.mk A [] 0 [48]] 0 [] []=some (c,l2)->l2=[]\/(∃ d,l2=[([d],0)])\/∃ f' m' l ss y n l3,b=.ask l ss y n/\l=0/\f=f'+1/\m'=m+1/\l2=([113,48],0)::l3/\qm f' m' A ([]++zD [.mk A [] 0 [48]] m [48] 0 ss) m [48] [⟨y,n,[.mk A [] 0 [48]],0,[]⟩]=some (c,l3)
 | f,m,.leaf d,c,l2,h=>by
   by_cases hd:d=117
   ·subst hd
    rw [jc] at h
    simp only [Option.some.injEq,Prod.mk.injEq] at h
    exact .inl h.2.symm
   ·cases f with
    | zero=>rw [v7 hd] at h;simp at h
    | succ f =>
      rw [vY hd] at h
      simp only [Option.some.injEq,Prod.mk.injEq] at h
      exact .inr (.inl ⟨d,h.2.symm⟩)
 | 0,m,.ask l ss y n,c,l2,h=>by rw [j3] at h;simp at h
 | f+1,m,.ask l ss y n,c,l2,h=>by
   cases he:[Clo.mk A [] 0 [48]][l]? with
   | none=>simp [qm,he] at h
   | some e =>
     obtain ⟨rfl,rfl⟩:=one_get he
     rw [qb _ _ _ _ _ _ _ _ _ _ he,Option.map_eq_some_iff] at h
     obtain ⟨⟨c',log'⟩,h1,h2⟩:=h
     simp only [Prod.mk.injEq] at h2
     obtain ⟨rfl,rfl⟩:=h2
     exact .inr (.inr ⟨f,m+1,0,ss,y,n,log',rfl,rfl,rfl,rfl,rfl,h1⟩)
theorem asInts_app (a b:List (Bs×Nat)):kK (a++b)=kK a++kK b:=by simp [kK]
theorem pr {s text x:Bs} {a:Ty} {c:UInt8} {log:Pl} (h:kV 60 s text [x]=some (c,log)) (ht:(zQ s).1.args=[a]) (eO:(uF log).countP isQ0=1) :
 qa (zq a) x (((uF log).map qk).map (·.1)) (((uF log).map qk).map (·.2))=true:=by
 unfold kV at h
 rw [vj] at h
 cases hq:zI s text with
 | none=>rw [hq] at h;simp at h
 | some b =>
   rw [hq] at h
   simp only [Option.map_some,Option.bind_some] at h
   obtain ⟨hg,_⟩:=kd hq
   have cj:=(gX hg.atoms).1
   rw [ht] at h cj
   rw [if_pos (show [a].length=[x].length from rfl),Option.bind_eq_some_iff] at h
   obtain ⟨bs,nj,hr⟩:=h
   simp only [zv,Option.bind_eq_some_iff,Option.map_eq_some_iff] at nj
   obtain ⟨A,hA,_,ew,rfl⟩:=nj
   obtain rfl:=Option.some.inj ew
   have ha:=cj a (by simp)
   rw [vu ha] at hA
   have CK:=(kd hA).1
   have mX:(zQ (zq a)).1=a:=by rw [jS ha]
   rw [mX] at CK
   have dP:=hg.fit
   rw [ht] at dP
   have mU:=hg.wf
   unfold v8 at hr
   rw [Option.map_eq_some_iff] at hr
   obtain ⟨⟨c0,L⟩,h1,h2⟩:=hr
   simp only [Prod.mk.injEq] at h2
   obtain ⟨rfl,rfl⟩:=h2
   rw [own_zero] at h1
   have eC:∀ L:List (Bs×Nat),uF ([([113],-1)]++kK L)=(kK L).takeWhile jy:=fun L=>rfl
   rw [eC] at eO ⊢
   rcases gU A _ _ _ _ _ h1 with rfl | ⟨d,rfl⟩ | ⟨f',m',l,ss,y,n,l3,rfl,rfl,hf',hm',rfl,h3⟩
   ·simp [kK] at eO
   ·simp [kK,jy] at eO
   ·obtain rfl:f'=58:=by omega
    obtain rfl:m'=2:=by omega
    obtain ⟨c1,l1,l2,rfl,k1,k2⟩:=runM_cut _ _ _ _ _ _ [] _ _ _ h3
    have hin0:InE [Clo.mk A [] 0 [48]]:=by rw [InE,InC,InE];exact ⟨⟨⟨[],rfl⟩,.inl rfl,trivial⟩,trivial⟩
    obtain ⟨s1,s2⟩:=runM_sh _ _ _ _ _ _ _ _ _ (by omega) (wQ _ _ (by rw [InE];trivial) (InE_own hin0 (by omega) ⟨[],rfl⟩ ss 0)) ⟨[],rfl⟩ (by omega) (fun fr h=>by simp at h) k1
    have nA:∀ z∈kK l1,jy z=true:=fun z hz=>by
     unfold kK at hz
     obtain ⟨u,hu,rfl⟩:=List.mem_map.1 hz
     obtain ⟨⟨d,p',e⟩,_⟩:=s2 u hu
     unfold jy
     rw [show (u.1,(u.2:Int)).1=u.1 from rfl,e]
     simp
    have htw:(kK (([113,48],0)::(l1++l2))).takeWhile jy=([113,48],0)::(kK l1++(kK l2).takeWhile jy):=by
     rw [show kK (([113,48],0)::(l1++l2))=([113,48],0)::(kK l1++kK l2) from by rw [<- asInts_app];rfl,List.takeWhile_cons_of_pos (by rfl),List.takeWhile_append_of_pos nA]
    rw [htw] at eO ⊢
    rw [List.countP_cons_of_pos (by rfl),List.countP_append] at eO
    have oz:(kK l2).takeWhile jy=[]:=by
     rcases k2 with rfl | ⟨f2,m2,k2⟩
     ·rfl
     ·rcases gU A _ _ _ _ _ k2 with rfl | ⟨d,rfl⟩ | ⟨_,_,_,_,_,_,l4,_,_,_,_,rfl,_⟩
      ·rfl
      ·simp [kK,jy]
      ·exfalso
       rw [show kK (([113,48],0)::l4)=([113,48],0)::kK l4 from rfl,List.takeWhile_cons_of_pos (by rfl),List.countP_cons_of_pos (by rfl)] at eO
       omega
    rw [oz] at eO ⊢
    rw [List.append_nil]
    have lV:∀ u∈l1,u.1≠[113,48]:=fun u hu e=>by
     have h0:(kK l1).countP isQ0=0:=by simp at eO;simpa using eO
     rw [List.countP_eq_zero] at h0
     refine h0 (u.1,(u.2:Int)) (List.mem_map.2 ⟨u,hu,rfl⟩) ?_
     unfold isQ0
     rw [show (u.1,(u.2:Int)).1=u.1 from rfl,e];rfl
    have BU:(([113,48],(0:Int))::kK l1).map qk=[([113],-1)]++kK (l1.map shM):=by
     rw [List.map_cons]
     show _::_=_::_
     congr 1
     unfold kK
     rw [List.map_map,List.map_map]
     apply List.map_congr_left
     intro u hu
     obtain ⟨_,hu2⟩:=s2 u hu
     have hu3:=hu2.resolve_left (lV u hu)
     show (u.1.take 1++u.1.drop 2,(u.2:Int)-1)=(u.1.take 1++u.1.drop 2,((u.2-1:Nat):Int))
     congr 1
     omega
    rw [BU]
    refine follow_in hA ?_
    rw [mX]
    rw [kX] at dP
    obtain ⟨a1,e1,iE,_,_⟩:=dP
    obtain rfl:a=a1:=by simpa using e1
    rw [wfB] at mU
    have hE0:z9 True a A [([113],-1)] (shE [Clo.mk A [] 0 [48]]) true 0 [a]:=by
     rw [shE,shE,shC,shE,z9]
     refine ⟨a,[],rfl,?_,.inl ⟨trivial,rfl⟩,by rw [z9]⟩
     rw [xp]
     exact .inl ⟨trivial,rfl⟩
    have hS:=run_firstD ha hE0 CK.fit CK.wf iE mU.1
    rw [List.nil_append,shE_own _ _ _ (by simp)] at s1
    exact (run_in (D:=True) ha _ _ _ _ _ _ _ _ _ _ _ s1 hS rfl (by omega) (fun _ z hz e=>by
     obtain ⟨u,hu,rfl⟩:=List.mem_map.1 hz
     obtain ⟨⟨d,p',e2⟩,_⟩:=s2 u hu
     unfold shM at e
     rw [e2] at e
     simp only [List.take_succ_cons,List.take_zero,List.drop_succ_cons,List.drop_zero,List.cons_append,List.nil_append,List.cons.injEq] at e
     refine lV u hu ?_
     rw [e2,e.1,e.2])).1
structure PtJ (X:World) (g:Nat) (u:Pl) (k:Nat) (a5:Option Addr) (c5:Nat) (a6:Option Addr) (c6:Nat) (wr:World):Prop where
 below:Below X.heap.size X wr
 box:wr.heap[g]? = some (.cells #[.slice a5 k c5,.slice a6 k c6] 28 (0,0))
 o5:Own wr 9 1 (.slice a5 k c5) k (qg u)
 o6:Own wr 3 1 (.slice a6 k c6) k (qD u)
 gw:X.heap.size<=g
 f5:∀ i,(Value.slice a5 k c5).ownBlock=some i->X.heap.size<=i/\i≠g
 f6:∀ i,(Value.slice a6 k c6).ownBlock=some i->X.heap.size<=i/\i≠g
 ap:∀ i,(Value.slice a5 k c5).ownBlock=some i->(Value.slice a6 k c6).ownBlock≠some i
theorem xE {m:Nat->Prop} {w w':World} {o:Obj} (h:But m (w.drew.alloc o) w'):But m (w.alloc o) w':=⟨h.os,h.tape,h.output,h.size,h.block⟩
theorem PtJ.half {X:World} {g:Nat} {u:Pl} {k:Nat} {a5:Option Addr} {c5:Nat} {a6:Option Addr} {c6:Nat} {wr:World} (h:PtJ X g u k a5 c5 a6 c6 wr) {s:Bs}
 {a7:Option Addr} {c7:Nat} {w7:World} {o:Obj} (ho:Own w7 9 1 (.slice a7 (k+1) c7) (k+1) (qg u++[str s])) (hb:But (fun b=>(Value.slice a5 k c5).ownBlock=some b) (wr.alloc o) w7)
 (hg:∀ i,(Value.slice a7 (k+1) c7).ownBlock=some i->(Value.slice a5 k c5).ownBlock=some i\/i=wr.heap.size+1) :
 ∃ W7,w7.setCell ⟨g,0,none⟩ (.slice a7 (k+1) c7)=W7/\Below X.heap.size X W7/\W7.heap[g]? = some (.cells #[.slice a7 (k+1) c7,.slice a6 k c6] 28 (0,0)) /\
   Own W7 9 1 (.slice a7 (k+1) c7) (k+1) (qg u++[str s])/\Own W7 3 1 (.slice a6 k c6) k (qD u) /\
   (∀ i,(Value.slice a7 (k+1) c7).ownBlock=some i->X.heap.size<=i/\i≠g)/\(∀ i,(Value.slice a7 (k+1) c7).ownBlock=some i->(Value.slice a6 k c6).ownBlock≠some i):=by
 have hz:=h.below.size
 have tx:=zZ h.box
 have n6:=h.gw
 have tT:∀ i,(Value.slice a6 k c6).ownBlock=some i->i<wr.heap.size:=fun i hi=>h.o6.lt hi
 have dz:∀ i,(Value.slice a7 (k+1) c7).ownBlock=some i->X.heap.size<=i/\i≠g:=fun i hi=>by
  rcases hg i hi with e | e
  ·exact h.f5 i e
  ·omega
 have t6:w7.heap[g]? = some (.cells #[.slice a5 k c5,.slice a6 k c6] 28 (0,0)) :=
  (hb.block g (by rw [zK];omega) (fun e=>(h.f5 g e).2 rfl)).trans (zY h.box)
 refine ⟨_,rfl,?_,?_,?_,?_,dz,fun i hi=>?_⟩
 ·exact ((h.below.alloc hz o).trans (hb.toBelow (by rw [zK];omega) fun i hi e=>by have:=(h.f5 i e).1;omega)).setCell (p:=⟨g,0,none⟩) n6 _
 ·rw [kH t6];rfl
 ·exact ho.keep fun i x hi hx=>by rw [cF _ _ _ _ (by show i≠g;exact (dz i hi).2)];exact hx
 ·exact h.o6.keep fun i x hi hx=>by
   rw [cF _ _ _ _ (by show i≠g;exact (h.f6 i hi).2),hb.block i (by rw [zK];have:=tT i hi;omega) (fun e=>h.ap i e hi)];exact zY hx
 ·rcases hg i hi with e | e
  ·exact h.ap i e
  ·intro e6;have:=tT i e6;omega
theorem PtJ.next {X:World} {g:Nat} {u:Pl} {k:Nat} {a7:Option Addr} {c7:Nat} {a6:Option Addr} {c6:Nat} {wr:World} {s:Bs} {z:Int} (dr:Below X.heap.size X wr) (n6:X.heap.size<=g)
 (mi:wr.heap[g]? = some (.cells #[.slice a7 (k+1) c7,.slice a6 k c6] 28 (0,0)))
 (o5:Own wr 9 1 (.slice a7 (k+1) c7) (k+1) (qg u++[str s])) (o6:Own wr 3 1 (.slice a6 k c6) k (qD u))
 (f5:∀ i,(Value.slice a7 (k+1) c7).ownBlock=some i->X.heap.size<=i/\i≠g) (f6:∀ i,(Value.slice a6 k c6).ownBlock=some i->X.heap.size<=i/\i≠g) (ap:∀ i,(Value.slice a7 (k+1) c7).ownBlock=some i->(Value.slice a6 k c6).ownBlock≠some i)
 {a8:Option Addr} {c8:Nat} {w8:World} {o:Obj} (ho:Own w8 3 1 (.slice a8 (k+1) c8) (k+1) (qD u++[.int .i64 z])) (hb:But (fun b=>(Value.slice a6 k c6).ownBlock=some b) (wr.alloc o) w8)
 (hg:∀ i,(Value.slice a8 (k+1) c8).ownBlock=some i->(Value.slice a6 k c6).ownBlock=some i\/i=wr.heap.size+1) :
 PtJ X g (u++[(s,z)]) (k+1) a7 c7 a8 c8 (w8.setCell ⟨g,1,none⟩ (.slice a8 (k+1) c8)):=by
 have hz:=dr.size
 have tx:=zZ mi
 have tS:∀ i,(Value.slice a7 (k+1) c7).ownBlock=some i->i<wr.heap.size:=fun i hi=>o5.lt hi
 have C6:∀ i,(Value.slice a8 (k+1) c8).ownBlock=some i->X.heap.size<=i/\i≠g:=fun i hi=>by
  rcases hg i hi with e | e
  ·exact f6 i e
  ·omega
 have eN:w8.heap[g]? = some (.cells #[.slice a7 (k+1) c7,.slice a6 k c6] 28 (0,0)) :=
  (hb.block g (by rw [zK];omega) (fun e=>(f6 g e).2 rfl)).trans (zY mi)
 refine ⟨?_,?_,?_,?_,n6,f5,C6,fun i hi e8=>?_⟩
 ·exact ((dr.alloc hz o).trans (hb.toBelow (by rw [zK];omega) fun i hi e=>by have:=(f6 i e).1;omega)).setCell (p:=⟨g,1,none⟩) n6 _
 ·rw [kH eN];rfl
 ·rw [xG]
  exact o5.keep fun i x hi hx=>by
   rw [cF _ _ _ _ (by show i≠g;exact (f5 i hi).2),hb.block i (by rw [zK];have:=tS i hi;omega) (fun e=>ap i hi e)];exact zY hx
 ·have e:qD (u++[(s,z)])=qD u++[.int .i64 z]:=by simp [qD]
  rw [e]
  exact ho.keep fun i x hi hx=>by rw [cF _ _ _ _ (by show i≠g;exact (C6 i hi).2)];exact hx
 ·rcases hg i e8 with e | e
  ·exact ap i hi e
  ·have:=tS i hi;omega
theorem run_ty {s text:Bs} {xs:List Bs} {c:UInt8} {log:Pl} (h:kV 60 s text xs=some (c,log)):∃ t,zQ s=(t,true)/\s=zq t/\zU t<=15/\t.args.length=xs.length:=by
 unfold kV at h
 rw [vj] at h
 cases hq:zI s text with
 | none=>rw [hq] at h;simp at h
 | some b =>
   rw [hq] at h
   simp only [Option.map_some,Option.bind_some] at h
   obtain ⟨htt,_,_⟩:=yp hq
   obtain ⟨dI,cj⟩:=vt htt
   split at h
   ·rename_i cA
    exact ⟨(zQ s).1,by rw [<- htt],dI,cj,cA⟩
   ·simp at h
theorem seen_step {log:Pl} {i:Nat} {y:Bs×Int} (hi:log[i]? = some y) (h1:1<=i) (hs:((log.drop 1).take (i-1)).all jy=true):(jy y=true->((log.drop 1).take (i+1-1)).all jy=true/\(log.drop 1).take (i+1-1)=(log.drop 1).take (i-1)++[y])/\(jy y=false->uF log=(log.drop 1).take (i-1)):=by
 obtain ⟨k,rfl⟩:∃ k,i=k+1:=⟨i-1,by omega⟩
 have hk:(log.drop 1)[k]? = some y:=by rw [List.getElem?_drop,Nat.add_comm];exact hi
 rw [Nat.add_sub_cancel] at hs ⊢
 rw [Nat.add_sub_cancel]
 have e:(log.drop 1).take (k+1)=(log.drop 1).take k++[y]:=by rw [List.take_add_one,hk];rfl
 refine ⟨fun h=>⟨by rw [e,List.all_append,hs];simp [h],e⟩,fun h=>?_⟩
 unfold uF
 have e2:log.drop 1=(log.drop 1).take k++y::(log.drop 1).drop (k+1):=by
  have aI:=(List.getElem?_eq_some_iff.1 hk).1
  have hy:=(List.getElem?_eq_some_iff.1 hk).2
  rw [<- hy,List.getElem_cons_drop,List.take_append_drop]
 rw [show (log.drop 1).takeWhile jy=((log.drop 1).take k++y::(log.drop 1).drop (k+1)).takeWhile jy from congrArg _ e2,List.takeWhile_append_of_pos (fun a ha=>List.all_eq_true.1 hs a ha),List.takeWhile_cons_of_neg (by rw [h];simp),List.append_nil]
theorem seen_all {log:Pl} (hs:((log.drop 1).take (log.length-1)).all jy=true):uF log=log.drop 1:=by
 have e:(log.drop 1).take (log.length-1)=log.drop 1:=List.take_of_length_le (by simp)
 rw [e] at hs
 unfold uF
 have:=List.takeWhile_append_of_pos (p:=jy) (l₁:=log.drop 1) (l₂:=[]) (fun a ha=>List.all_eq_true.1 hs a ha)
 simpa using this

end Go.Proofs.YtdhaafoiokkbnaaGreatDoor
namespace Go.Proofs.YtdhaafoiokkbnaaGreatDoor
open Go.RowKit Go.Shelf
attribute [local go_sem] Oper.semAt_some
def KpB (n₀:Nat) (p:Addr) (sv:Value) (W W':World):Prop:=Below n₀ W W'/\(W.cell? p=some sv->W'.cell? p=some sv)
theorem kpB_t {n₀:Nat} {p:Addr} {sv:Value} {A B C:World} (h:KpB n₀ p sv A B) (k:KpB n₀ p sv B C):KpB n₀ p sv A C:=⟨h.1.trans k.1,fun e=>k.2 (h.2 e)⟩
theorem kpB_b {n₀:Nat} {p:Addr} {sv:Value} {w:World} (hn:n₀<=w.heap.size) (W:World) (l:Nat) (o o':Obj) (hl:w.heap.size<=l) (h:W.heap[l]? = some o) (hc:o.isCells=false) (hw:o.isWalk=false):KpB n₀ p sv W (W.putObj l o') :=
 ⟨belowK_b hn W l o o' hl h hc hw,fun e=>cell_kept e (grownBy_putObj' _ l o') (fun r e=>by cases e;exact ⟨_,h,hc⟩)⟩
def BackAt {α:Type} (ix bl:α->Nat) (n₀:Nat) (w:World) (a:Option Addr) (xs:List α):Prop :=
 ∀ k x,xs[k]? = some x->ix x+k+1=xs.length/\∃ b o,a=some ⟨b,o,none⟩/\b<n₀/\w.cell? ⟨b,o+ix x,none⟩=some (.pointer (some ⟨bl x,0,none⟩))
set_option maxRecDepth 100000 in
theorem back1_in {α:Type} (ix bl:α->Nat) (F:Fence) (n:Nat) (hf:F.fn 75) (BD:F.round=none) (hn:1<=n) (l Bs n₀ cap:Nat) (a:Option Addr) (xs:List α) (cA:xs.length<=16777216) (J Jx:List α->World->Prop)
 (hY:∀ pre x W,J pre W->pre.length<xs.length->YieldAt F (n-1) Tryz.prog l #[.int .i64 (ix x:Nat),.pointer (some ⟨bl x,0,none⟩)] W fun e W' =>
  (e=.returned (.bool true)/\J (pre++[x]) W'/\KpB n₀ ⟨Bs,0,none⟩ (.slice a xs.length cap) W W')\/(e=.returned (.bool false)/\Jx (pre++[x]) W'))
 (W:World) (hBs:W.cell? ⟨Bs,0,none⟩=some (.slice a xs.length cap)) (hc:BackAt ix bl n₀ W a xs) (h0:J [] W) :
 CallsIn F n Tryz.prog 75 #[.func (.yield l) #[] #[],.pointer (some ⟨Bs,0,none⟩)] W fun e W'=>(∃ v,e=.returned v) /\
  ((∃ ys,ys=xs/\J ys W')\/(∃ pre,pre <+: xs/\Jx pre W')):=by
 refine callsIn_of_wp Tryz.func75 rfl hf ?_ BD
 simp only [Tryz.ntmps75,List.size_toArray,List.length_cons,List.length_nil,Nat.reduceAdd,Nat.reduceSub,Array.replicate_succ,Array.replicate_zero,List.push_toArray,List.append_toArray,List.nil_append,List.cons_append]
 have eP:IntKind.i64.wrap ((xs.length:Int)-1)=(xs.length:Int)-1:=IntWalk.i64_in _ (by omega)
 gi_wp2
 clear eP
 gi_loopw [3] (fun i wr=>Below n₀ W wr/\wr.cell? ⟨Bs,0,none⟩=some (.slice a xs.length cap)/\((i=.int .i64 (-1)/\J xs wr)\/(∃ j:Nat,j<xs.length/\i=.int .i64 (j:Nat)/\J (xs.take (xs.length-1-j)) wr)))
  (fun i _=>(intOf i+1).toNat)
 case atStart =>
  refine ⟨cE _ _,hBs,?_⟩
  cases hx:xs with
  | nil=>subst hx;exact .inl ⟨by simp,h0⟩
  | cons x ys=>subst hx;exact .inr ⟨ys.length,by simp,by simp,by simpa using h0⟩
 case round =>
  obtain ⟨tn,nj,⟨rfl,hJs⟩ | ⟨j,hj,rfl,hJs⟩⟩:=hrel
  ·gi_wp2
   go_end0
   exact ⟨⟨_,rfl⟩,.inl ⟨_,rfl,hJs⟩⟩
  ·have hj0:(0:Int)<=(j:Int):=by omega
   obtain ⟨x,hx⟩:∃ x,xs[xs.length-1-j]? = some x:=⟨xs[xs.length-1-j],by simp [show xs.length-1-j<xs.length from by omega]⟩
   obtain ⟨e1,b,o,rfl,hb,dA⟩:=hc _ x hx
   have e2:ix x=j:=by omega
   have oo:=(tn.cell (p:=⟨b,o+ix x,none⟩) hb).trans dA
   obtain ⟨fn,tmps,assign,body,hy,hR⟩:=hY _ x wr hJs (by rw [List.length_take];omega)
   rw [e2] at oo hy
   have rT:xs.take (xs.length-1-j)++[x]=xs.take (xs.length-1-j+1):=by rw [List.take_add_one,hx];rfl
   have HX:=cH (cB e1 (cB e2 (cB hx rT)))
   clear hx e1 e2 rT dA
   have hjl:(j:Int)<(xs.length:Int):=by omega
   have oU:IntKind.i64.wrap ((j:Int)-1)=(j:Int)-1:=IntWalk.i64_in _ (by omega)
   gi_wp2
   refine hR.mono ?_
   rintro e W3 (⟨rfl,DM,hk3⟩ | ⟨rfl,hJx3⟩)
   ·have hbs3:=hk3.2 nj
    have iT:=tn.trans hk3.1
    gi_wp2
    go_roundw
    case rel =>
     refine ⟨iT,hbs3,?_⟩
     rw [HX.out.2.2.2] at DM
     cases j with
     | zero =>
       left
       refine ⟨by simp,?_⟩
       rw [show xs.length-1-0+1=xs.length from by omega,List.take_length] at DM
       exact DM
     | succ j =>
       right
       refine ⟨j,by omega,by simp,?_⟩
       rw [show xs.length-1-(j+1)+1=xs.length-1-j from by omega] at DM
       exact DM
    case measure=>simp [intOf]
   ·gi_wp2
    refine bodyPost_ret (results_none rfl _ _ _) rfl ?_
    exact ⟨⟨_,rfl⟩,.inr ⟨_,by rw [HX.out.2.2.2];exact List.take_prefix _ _,hJx3⟩⟩
theorem back_in (F:Fence) (n:Nat) (hf:F.fn 58) (BD:F.round=none) (a:Option Addr) (len cap:Nat) (w:World) :
 CallsIn F n Tryz.prog 58 #[.slice a len cap] w fun e w'=>e=.returned (.func (.func 75) #[] #[.pointer (some ⟨w.heap.size,0,none⟩)])/\w'=w.alloc (.cells #[.slice a len cap] 52):=by
 refine callsIn_of_wp Tryz.func58 rfl hf ?_ BD
 simp only [Tryz.ntmps58,List.size_toArray,List.length_cons,List.length_nil,Nat.reduceAdd,Nat.reduceSub,Array.replicate_succ,Array.replicate_zero,List.push_toArray,List.append_toArray,List.nil_append,List.cons_append]
 gi_wp2
 go_ret
 exact ⟨rfl,rfl⟩
theorem back_stops {α:Type} (ix bl:α->Nat) (F:Fence) (n:Nat) (hf:F.fn 75) (BD:F.round=none) (hn:1<=n) (Bs n₀ cap:Nat) (a:Option Addr) (xs:List α) (cA:xs.length<=16777216) (w:World) (hBs:Bs<w.heap.size) (hn₀:n₀<=w.heap.size)
 (hc:w.cell? ⟨Bs,0,none⟩=some (.slice a xs.length cap)) (hI:BackAt ix bl n₀ w a xs) :
 SeqStopsK F n Tryz.prog 75 #[.pointer (some ⟨Bs,0,none⟩)] (fun x:α=>#[Value.int .i64 (ix x:Nat),.pointer (some ⟨bl x,0,none⟩)]) (KpB n₀ ⟨Bs,0,none⟩ (.slice a xs.length cap)) (fun ys=>ys=xs) (fun pre=>pre <+: xs) xs.length w:=fun l J Jx W hW _ _ hY h0 =>
 back1_in ix bl F n hf BD hn l Bs n₀ cap a xs cA J Jx hY W ((hW.cell (p:=⟨Bs,0,none⟩) hBs).trans hc) (fun k x hx=>by
  obtain ⟨h1,b,o,h2,h3,h4⟩:=hI k x hx
  exact ⟨h1,b,o,h2,h3,((hW.mono hn₀).cell (p:=⟨b,o+ix x,none⟩) h3).trans h4⟩) h0
def qM:List Ty->Bs:=List.foldl (fun s t=>[40,62,32]++zq t++[32]++s++[41]) [98]
theorem xT (pre:List Ty) (t:Ty):qM (pre++[t])=[40,62,32]++zq t++[32]++qM pre++[41]:=by simp [qM]
theorem wU:∀ ts:List Ty,qM ts.reverse=zq (.mk ts)
 | []=>by rw [vg];rfl
 | t::ts=>by rw [List.reverse_cons,xT,wU ts,vm];simp
structure yR (F:Nat->Prop) (w:World) (t0:Ty) where
 ix:Nat
 bl:Nat
 ty:Ty
 rep:Rep F w (qe ty) (.pointer (some ⟨bl,0,none⟩))
 low:zU ty<zU t0
def pJ (t:Ty):Prop:=∀ (F:Nat->Prop) (w:World) (v:Value),Rep F w (qe t) v ->
 Calls Tryz.prog 37 #[v] w fun en w'=>en=.returned (str (zq t))/\Below w.heap.size w w'
theorem textFrom_len (pre:List Ty) (C:Nat) (h:∀ t∈pre,(zq t).length<=C):(qM pre).length<=1+pre.length*(C+5):=by
 have key:∀ (pre:List Ty) (s:Bs),(∀ t∈pre,(zq t).length<=C)->(pre.foldl (fun s t=>[40,62,32]++zq t++[32]++s++[41]) s).length<=s.length+pre.length*(C+5):=by
  intro pre
  induction pre with
  | nil=>intro s _;simp
  | cons t pre ih =>
    intro s h
    have h1:=ih ([40,62,32]++zq t++[32]++s++[41]) fun x hx=>h x (by simp [hx])
    have h2:=h t (by simp)
    simp only [List.foldl_cons,List.length_append,List.length_cons,List.length_nil] at h1 ⊢
    rw [Nat.add_mul]
    omega
 have:=key pre [98] h
 simpa [qM] using this
theorem items_of {F:Nat->Prop} {w:World} {t:Ty} {a:Option Addr} {n₀:Nat} (hF:∀ i,F i->i<n₀) (hat:Ats F w t.args.length (qC t.args) a) :
 ∃ xs:List (yR F w t),xs.length=t.args.length/\xs.map yR.ty=t.args.reverse/\BackAt yR.ix yR.bl n₀ w a xs:=by
 have key:∀ m,m<=t.args.length->∃ xs:List (yR F w t),xs.length=m/\xs.map yR.ty=(t.args.take m).reverse/\∀ k x,xs[k]? = some x->x.ix+k+1=m/\∃ b o,a=some ⟨b,o,none⟩/\b<n₀/\w.cell? ⟨b,o+x.ix,none⟩=some (.pointer (some ⟨x.bl,0,none⟩)):=by
  intro m
  induction m with
  | zero=>intro _;exact ⟨[],rfl,by simp,by simp⟩
  | succ m ih =>
    intro hm
    obtain ⟨xs,h1,h2,h3⟩:=ih (by omega)
    obtain ⟨b,o,u,d,ea,ah,tn,hd,hc,fK⟩:=hat m (by omega)
    rw [uK,Option.map_eq_some_iff] at hd
    obtain ⟨ty,ht,rfl⟩:=hd
    obtain ⟨ub,_,rfl,_⟩:=zO fK
    have hlow:zU ty<zU t:=by
     have:=jt ht
     have:=qw t.args (m+1)
     have:=zg t
     omega
    refine ⟨⟨m,ub,ty,fK,hlow⟩::xs,by simp [h1],?_,fun k x hk=>?_⟩
    ·rw [List.map_cons,h2,List.take_add_one,ht];simp
    ·cases k with
     | zero =>
       simp at hk;subst hk
       exact ⟨rfl,b,o,ea,hF b ah,hc⟩
     | succ k =>
       obtain ⟨q1,q2⟩:=h3 k x (by simpa using hk)
       exact ⟨by omega,q2⟩
 obtain ⟨xs,h1,h2,h3⟩:=key t.args.length (cC _)
 rw [List.take_length] at h2
 exact ⟨xs,h1,h2,fun k x hk=>by obtain ⟨q1,q2⟩:=h3 k x hk;exact ⟨by omega,q2⟩⟩
theorem bL {A B:World} (h:Below A.heap.size A B):KeepsOthers A B :=
 ⟨h.size,fun k o hk _=>(h.block k (zZ hk)).trans hk⟩
theorem keeps_round {w W w':World} {sv:Value} {R O T:Bs} {n₀:Nat} (hn:n₀<=w.heap.size) (hB:Below w.heap.size w W) (hb:Below W.heap.size W.drew w') (hc:w'.cell? ⟨w.heap.size,0,none⟩=some (str R)) (hf:w'.frozen? ⟨w.heap.size,0,none⟩=false) (hT:T=O) :
 KeepsOthers W (w'.setCell ⟨w.heap.size,0,none⟩ (str O))/\KpB w.heap.size ⟨w.heap.size+1,0,none⟩ sv W (w'.setCell ⟨w.heap.size,0,none⟩ (str O)) /\
  ((w'.setCell ⟨w.heap.size,0,none⟩ (str O)).cell? ⟨w.heap.size,0,none⟩=some (str T)/\(w'.setCell ⟨w.heap.size,0,none⟩ (str O)).frozen? ⟨w.heap.size,0,none⟩=false)/\Below w.heap.size w (w'.setCell ⟨w.heap.size,0,none⟩ (str O)):=by
 have h1:Below W.heap.size W w':=⟨hb.os,hb.tape,hb.output,hb.size,hb.block⟩
 have h2:=(h1.mono hB.size).setCell (p:=⟨w.heap.size,0,none⟩) (cC _) (str O)
 subst hT
 refine ⟨(bL h1).trans (KeepsOthers.setCell _ _ _),⟨h2,fun e=>?_⟩,⟨World.cell?_setCell_same' _ _ _ (by rw [hc];rfl),by rw [World.frozen?_setCell];exact hf⟩,hB.trans h2⟩
 have h3:=(h1.cell (p:=⟨w.heap.size+1,0,none⟩) (cD W _ e)).trans e
 rw [World.cell?_of_block (w:=w') (cF _ _ _ _ (by simp))]
 exact h3
set_option maxRecDepth 100000 in
theorem textK_step (t:Ty) (hl:zU t<=1000) (ih:∀ t',zU t'<zU t->pJ t'):pJ t:=by
 intro F0 w v h0
 have h1:Rep (fun i=>F0 i/\i<w.heap.size) w (qe t) v:=(Rep.keep fun b o hf ho=>⟨⟨hf,zZ ho⟩,ho⟩).1 _ _ h0
 obtain ⟨b,s,rfl,hb,hc,hs⟩:=zO h1
 have c1:w.cell? ⟨b,0,none⟩=some s:=by simp [World.cell?,hc]
 obtain ⟨a,cap,rfl,hn,cA,hat⟩:=zC hs
 have sN:t.args.length<=1000:=by have:=zd t.args;have:=zg t;omega
 clear hc hs h0 h1 hn cA
 obtain ⟨W0,e9⟩:=zzN ((w.alloc (.cells #[str [98]] 9)).alloc (.cells #[.slice a t.args.length cap] 52))
 obtain ⟨xs,x1,x2,x3⟩:=items_of (n₀:=w.heap.size) (fun i hi=>hi.2) hat
 refine (callsIn_wide (n:=4)).1 ?_
 refine callsIn_of_wp_marks Tryz.func37 rfl trivial ?_ rfl
 simp only [Tryz.ntmps37,List.size_toArray,List.length_cons,List.length_nil,Nat.reduceAdd,Nat.reduceSub,Array.replicate_succ,Array.replicate_zero,List.push_toArray,List.append_toArray,List.nil_append,List.cons_append]
 gi_wp2_with (refine ⟨trivial,?_⟩;gi_at_call 58;refine (back_in Fence.wide _ trivial rfl _ _ _ _).mono ?_;rintro e w' ⟨rfl,rfl⟩)
 have af:W0.heap[w.heap.size]? = some (.cells #[str [98]] 9 (0,0)):=by rw [<- e9];exact zY (zT w _)
 have rW:W0.cell? ⟨w.heap.size,0,none⟩=some (str [98]):=by simp [World.cell?,af]
 have hf0:W0.frozen? ⟨w.heap.size,0,none⟩=false:=by simp [World.frozen?,af]
 have ie:W0.heap.size=w.heap.size+2:=by rw [<- e9];simp
 have eC:W0.cell? ⟨w.heap.size+1,0,none⟩=some (.slice a xs.length cap):=by
  have h:W0.heap[w.heap.size+1]? = some (.cells #[.slice a t.args.length cap] 52 (0,0)):=by
   rw [<- e9]
   have:=zT (w.alloc (.cells #[str [98]] 9)) (.cells #[.slice a t.args.length cap] 52)
   rwa [zK] at this
  simp [World.cell?,h,x1]
 have aB:Below w.heap.size w W0:=by rw [<- e9];exact ((cE _ w).alloc (cC _) _).alloc (by simp) _
 have A1:BackAt yR.ix yR.bl w.heap.size W0 a xs:=fun k x hx=>by
  obtain ⟨q1,b,o,q2,q3,q4⟩:=x3 k x hx
  exact ⟨q1,b,o,q2,q3,(aB.cell (p:=⟨b,o+x.ix,none⟩) q3).trans q4⟩
 have hx1000:xs.length<=1000:=by omega
 have rX:qM (xs.map yR.ty)=zq t:=by rw [x2,wU];cases t;rfl
 have IH:=cH ih
 clear ih
 refine wpIn_rangeFunc_ownF rfl (by omega) (gf:=75) (lb:=#[.pointer (some ⟨w.heap.size+1,0,none⟩)]) rfl trivial (enters_of Tryz.func75 (by kernel_rfl) rfl)
  (back_stops (α:=yR (fun i=>F0 i/\i<w.heap.size) w t) yR.ix yR.bl Fence.wide _ trivial rfl (by omega) (w.heap.size+1) w.heap.size cap a xs (by omega) W0 (by omega) (by omega) eC A1) kpB_t (kpB_b (by omega)) (cE _ _) (fun _=>rfl)
  (fun pre W=>(W.cell? ⟨w.heap.size,0,none⟩=some (str (qM (pre.map yR.ty)))/\W.frozen? ⟨w.heap.size,0,none⟩=false)/\Below w.heap.size w W)
  (fun _ _ _=>False)
  (OwnFrom.and (Own.from (fun s A B row hs hg hr=>⟨cell_kept hs.1 hg hr,(frozen_kept hs.1 hg hr).trans hs.2⟩) _) (ownFrom_below (cC _) (by omega)))
  (fun _ _ _ _ _ hs _ _=>hs)
  ⟨⟨rW,hf0⟩,aB⟩
  (fun x=>{ tmps:=#[.pointer (some ⟨b,0,none⟩),undef,str [],.pointer (some ⟨w.heap.size,0,none⟩),undef,.pointer (some ⟨x.bl,0,none⟩),.pointer (some ⟨b,0,none⟩),.pointer (some ⟨b,0,none⟩),.pointer (some ⟨b,0,none⟩),.slice a t.args.length cap,.func (.func 75) #[] #[.pointer (some ⟨w.heap.size+1,0,none⟩)],.int .i64 (x.ix:Nat),.pointer (some ⟨x.bl,0,none⟩),undef,undef,undef,undef,undef,undef,undef,undef],defers:=[] }) ?assign ?body ?done ?stop
 case assign =>
  intro l x W K hK
  gi_wp2
  exact hK
 case body =>
  rintro l pre x W ⟨⟨hc,hf⟩,hB⟩ c9
  have iW:Tryz.prog.follows .mixedOrders=true:=by kernel_rfl
  have oA:(zq x.ty).length<=3000:=by have:=kn 1000 x.ty (by have:=x.low;omega);have:=x.low;omega
  have eX:(qM (pre.map yR.ty)).length<=1+pre.length*(3000+5):=by
   have:=textFrom_len (pre.map yR.ty) 3000 fun t' eI=>by
    obtain ⟨y,_,rfl⟩:=List.mem_map.1 eI
    have:=kn 1000 y.ty (by have:=y.low;omega);have:=y.low;omega
   rwa [List.length_map] at this
  have hne:qM ((pre++[x]).map yR.ty)=[40,62,32]++zq x.ty++[32]++qM (pre.map yR.ty)++[41]:=by rw [List.map_append,List.map_cons,List.map_nil,xT]
  have BA:Rep (fun i=>F0 i/\i<w.heap.size) W (qe x.ty) (.pointer (some ⟨x.bl,0,none⟩)):=(Rep.keep fun b o hf ho=>⟨hf,by rw [hB.block b hf.2];exact ho⟩).1 _ _ x.rep
  have C1:Hid (∀ X,X=zq x.ty->Calls Tryz.prog 37 #[.pointer (some ⟨x.bl,0,none⟩)] W.drew fun en w'=>en=.returned (str X)/\Below W.heap.size W.drew w'):=by
   show ∀ X,_->_
   rintro X rfl
   exact IH.out x.ty x.low _ W.drew _ ((Rep.keep (w:=W) (w':=W.drew) fun _ _ hf ho=>⟨hf,ho⟩).1 _ _ BA)
  obtain ⟨X,hX⟩:=zzM (zq x.ty)
  obtain ⟨R,hR⟩:=zzM (qM (pre.map yR.ty))
  rw [<- hX] at oA hne
  rw [<- hR] at eX hne hc
  have C2:=cH (C1.out X hX)
  obtain ⟨O1,h1⟩:=zzM ([40,62,32]++X)
  obtain ⟨O2,h2⟩:=zzM (O1++[32])
  obtain ⟨O3,h3⟩:=zzM (O2++R)
  obtain ⟨O4,h4⟩:=zzM (O3++[41])
  have m1:O1.length=X.length+3:=by rw [h1];simp
  have m2:O2.length=O1.length+1:=by rw [h2];simp
  have m3:O3.length=O2.length+R.length:=by rw [h3];simp
  have eR:=fun w0=>kG (P:=Tryz.prog) [40,62,32] X (by simp;omega) w0
  have fX:=fun w0=>kG (P:=Tryz.prog) O1 [32] (by simp;omega) w0
  have nd:=fun w0=>kG (P:=Tryz.prog) O2 R (by omega) w0
  have nh:=fun w0=>kG (P:=Tryz.prog) O3 [41] (by simp;omega) w0
  have H4:Hid (qM ((pre++[x]).map yR.ty)=O4):=by show _=_;rw [hne,h4,h3,h2,h1]
  rw [<- h1] at eR;rw [<- h2] at fX;rw [<- h3] at nd;rw [<- h4] at nh
  have HB:=cH hB
  have HXX:=cH (cB x3 (cB A1 (cB eC aB)))
  clear h1 h2 h3 h4 m1 m2 m3 hX hR C1 BA hne oA eX hB x3 A1 eC aB rX x2 e9 rW hf0 hat c1
  gi_wp2
  have hcd:W.drew.cell? ⟨w.heap.size,0,none⟩=some (str R):=hc
  have hz:=cD W _ hc
  gi_region_with_o (refine ⟨trivial,?_⟩;gi_at_call 37;refine (CallsIn.inRound l (callsIn_wide.2 C2.out)).mono ?_;rintro e w' ⟨rfl,dW⟩;have si:w'.cell? ⟨w.heap.size,0,none⟩=some (str R):=(dW.cell (p:=⟨w.heap.size,0,none⟩) hz).trans hcd;have hf':w'.frozen? ⟨w.heap.size,0,none⟩=false:=(dW.frozen (p:=⟨w.heap.size,0,none⟩) hz).trans hf)
  all_goals gi_wp2
  all_goals exact keeps_round (cC _) HB.out dW si hf' (by rw [H4.out])
 case done =>
  rintro D ys W hD rfl ⟨⟨hc,hf⟩,hB⟩ hK
  rw [rX] at hc
  gi_wp2
  refine ⟨by simp,.inl ⟨_,_,rfl,run_takeDeferred hK,?_⟩⟩
  exact ⟨_,results_tmp rfl _ _ _,rfl,hB.trans (belowK_b (w:=w) (cC _) W D _ _ (by omega) hK rfl rfl)⟩
 case stop =>
  rintro D c pre W _ _ h _
  exact h.elim
theorem textK_any (n:Nat):∀ t,zU t<=n->n<=1000->pJ t:=by
 induction n with
 | zero=>intro t h _;have:=kR t;omega
 | succ n ih=>exact fun t h hn=>textK_step t (by omega) (fun t' h'=>ih t' (by omega) (by omega))
end Go.Proofs.YtdhaafoiokkbnaaGreatDoor
namespace Go.Proofs.YtdhaafoiokkbnaaGreatDoor
open Go.RowKit
set_option maxRecDepth 100000 in
theorem kindTexts_any (F:Nat->Prop) (ts:List Ty) (kv:Value) (w:World) (h:Rep F w (.sl 49 1 ts.length (qC ts)) kv) (cj:∀ t∈ts,zU t<=15) (hl:ts.length<=15) :
 Calls Tryz.prog 18 #[kv] w fun en w'=>∃ a c,en=.returned (.slice a ts.length c)/\ts.length<=c/\Below w.heap.size w w'/\je w.heap.size w' a (ts.map zq):=by
 obtain ⟨ka,kc,e,_,_,hat⟩:=zC h
 subst e
 have H:=cH (cB hat cj);clear hat h cj
 go_enter Tryz.func18,Tryz.ntmps18
 go_wp2_with fail
 go_loopw [3,8] (fun o i wr=>∃ k:Nat,k<=ts.length/\i=.int .i64 k/\∃ a c,o=.slice a k c/\Own wr 9 1 (.slice a k c) k (List.take k (List.map (str ∘ zq) ts))/\Below w.heap.size w wr/\(∀ g,(Value.slice a k c).ownBlock=some g->w.heap.size<=g)) (fun _ i _=>ts.length-(intOf i).toNat)
 case atStart=>exact ⟨0,Nat.zero_le _,rfl,none,0,rfl,World.ownsRow_nil _ _ _ _,cE _ _,fun g h=>by simp [Value.ownBlock] at h⟩
 case round =>
  obtain ⟨k,hk,rfl,a,c,rfl,ho,hb,hf⟩:=hrel
  have HO:=cH ho;have HF:=cH hf;have HB:=cH hb
  clear ho hf hb
  by_cases cL:k<ts.length
  ·have d8:(k:Int)<(ts.length:Int):=by omega
   obtain ⟨b,o,u,d,e,_,tn,hd,hc,fK⟩:=H.out.1 k cL
   subst e
   rw [uK,Option.map_eq_some_iff] at hd
   obtain ⟨t,ht,rfl⟩:=hd
   obtain ⟨ub,_,rfl,_⟩:=zO fK
   have q0:=(HB.out.cell (p:=⟨b,o+k,none⟩) tn).trans hc
   have h15t:=H.out.2 t (List.mem_of_getElem? ht)
   have C1:=cH (textK_any 15 t h15t (by omega) _ wr _ (Rep.below (F':=F) HB.out (fun _ h=>h) fK))
   have HT:=cH ht
   clear ht fK hc
   go_wp2_with fail
   (with_reducible refine C1.out.mono ?_)
   rintro en w4 ⟨rfl,dJ⟩
   have nE:=HO.out.keep (w':=w4) fun g x _ hx=>by rw [dJ.block g (zZ hx)];exact hx
   have lj:=cH (zzT HB.out dJ);have D8:=cH nE
   clear dJ nE C1
   obtain ⟨X,hX⟩:=zzM (zq t)
   rw [<- hX]
   have HX:=cH hX;clear hX
   go_wp2_with (at_builtin;refine zG rfl _ _ 23 rfl 9 (str []) 1 16 Tryz.underlying23 Tryz.infoStr rfl (by decide) (.slice a k c) k (List.take k (List.map (str ∘ zq) ts)) rfl ?c1 _ 1 [str X] rfl ?c2 ?c3 ?c4 ?_)
   case c1=>exact D8.out.alloc _
   case c2=>exact zM.lit (by simp [Value.oneCell'])
   case c3=>unfold maxLen;omega
   case c4=>omega
   intro a' c' w7 dB cq ci
   have dG:Below w.heap.size w w7:=by
    have h1:=lj.out
    refine (h1.alloc h1.size _).trans (cq.toBelow (by rw [zK];have:=h1.size;omega) fun i hi e=>?_)
    have:=HF.out i e;omega
   have dz:∀ g,(Value.slice a' (k+1) c').ownBlock=some g->w.heap.size<=g:=by
    intro g h
    rcases ci g h with h | h
    ·exact HF.out g h
    ·have h2:=lj.out.size
     omega
   have fm:Own w7 9 1 (.slice a' (k+1) c') (k+1) (List.take (k+1) (List.map (str ∘ zq) ts)):=by
    have e:List.take (k+1) (List.map (str ∘ zq) ts)=List.take k (List.map (str ∘ zq) ts)++[str X]:=by
     rw [List.take_add_one,List.getElem?_map,HT.out,HX.out];rfl
    rw [e];exact dB
   have HA:=cH (cB fm (cB dG dz));clear dB fm dG dz cq ci
   go_wp2_with fail
   go_roundw
   case rel=>exact ⟨k+1,by omega,by go_num,a',c',rfl,HA.out.1,HA.out.2.1,HA.out.2.2⟩
   case measure=>simp [intOf];omega
  ·obtain rfl:k=ts.length:=by omega
   go_wp2_with fail
   refine bodyPost_ret (v:=.slice a ts.length c) (by simp [results,Tryz.results18,go_sem]) rfl ?_
   have h0:Own wr 9 1 (.slice a ts.length c) ts.length ((ts.map zq).map str):=by
    have h:=HO.out
    rw [List.take_of_length_le (by simp)] at h
    rw [List.map_map];exact h
   exact ⟨a,c,rfl,h0.cap,HB.out,h0.strsNew HF.out⟩
set_option maxRecDepth 100000 in
theorem pH (s:Bs) (t:Ty) (hs:Lim s.length) (ht:qv s=some t) (cj:zU t<=15) (w:World) :
 Calls Tryz.prog 8 #[str s] w fun en w'=>∃ a c,en=.returned (.tuple #[.slice a t.args.length c,.bool true])/\t.args.length<=c/\Below w.heap.size w w'/\je w.heap.size w' a (t.args.map zq):=by
 have C1:=yK s w hs
 rw [ht] at C1
 have C1:=cH C1
 have sN:=x9 cj
 have HA:=cH sN;clear ht sN
 go_enter Tryz.func8,Tryz.ntmps8
 go_wp2_with fail
 (with_reducible refine C1.out.mono ?_)
 rintro en w1 ⟨v,rfl,cT,_,dH⟩
 have hr:=dH t rfl
 obtain ⟨b,sv,rfl,_,hc,dX⟩:=zO hr
 have c1:w1.cell? ⟨b,0,none⟩=some sv:=by simp [World.cell?,hc]
 obtain ⟨a,cap,rfl,_,_,_⟩:=zC dX
 have da:=cH cT
 have C2:=cH (kindTexts_any _ t.args _ w1 dX HA.out.1 HA.out.2)
 clear hr dH hc dX cT C1
 go_wp2_with fail
 (with_reducible refine C2.out.mono ?_)
 rintro en w2 ⟨a2,c2,rfl,fV,cS,fQ⟩
 have HN:=cH (cB cS fQ);clear cS fQ
 go_wp2_with fail
 refine bodyPost_ret (v:=.tuple #[.slice a2 t.args.length c2,.bool true]) (by simp [results,Tryz.results8,go_sem]) rfl ?_
 exact ⟨a2,c2,rfl,fV,zzT da.out HN.out.1,fun k x hk=>by
  obtain ⟨b,o,e,hB,h⟩:=HN.out.2 k x hk
  exact ⟨b,o,e,cR da.out.size hB,h⟩⟩
end Go.Proofs.YtdhaafoiokkbnaaGreatDoor

/- Walks. -/
import Derived.Test.YtdhaafoiokkbnabGreatDoorQ16
set_option linter.unusedVariables false
set_option linter.unusedSimpArgs false
set_option maxHeartbeats 2000000
open List renaming append_assoc->Pi,append_nil->OY,dropLast_concat_getLast->RY,eq_nil_of_length_eq_zero->OQ,getElem?_append_left->OJ,getElem?_append_right->OF,getElem?_eq_none->Su,length_append->Ov,length_nil->Pd,map_cons->OU,nil_append->OW
open List.cons renaming inj->UG,injEq->OL
open Option renaming bind_eq_some_iff->N0,bind_some->Lx,getD_none->SJ,getD_some->Ps,isSome_none->PF,isSome_some->Pk,map_eq_some_iff->OA,map_some->Py
namespace Go.Proofs.YtdhaafoiokkbnabGreatDoor
open Go.RowKit
theorem dec_inj {a b:Nat} (h:dec a=dec b):a=b:=by rw [<- dec_val a,h,dec_val]
theorem lname_inj {a b:Nat} (h:jD a=jD b):a=b:=dec_inj (UG h).2
structure xz (ns:List Nm) (H:List Ty):Prop where
 len:ns.length=H.length
 each:∀ i k,H[i]? = some k->ns[i]? = some (jD i,k)
theorem xz.nil:xz [] []:=⟨rfl,fun i k h=>by simp at h⟩
theorem xz.snoc {ns:List Nm} {H:List Ty} (h:xz ns H) (k:Ty):xz (ns++[(jD H.length,k)]) (H++[k]):=by
 refine ⟨by rw [Ov,Ov,h.len];rfl,fun i a hi=>?_⟩;rcases Nat.lt_trichotomy i H.length with rH | rfl | hgt
 ·rw [OJ rH] at hi;rw [OJ (by rw [h.len];exact rH)];exact h.each i a hi
 ·rw [OF (n9 _),Nat.sub_self] at hi;simp at hi;subst hi;rw [OF (by rw [h.len];exact n9 _),h.len,Nat.sub_self];rfl
 ·rw [Su (by rw [Ov];simp;omega)] at hi;simp at hi
theorem xz.kinds {ns:List Nm} {H:List Ty} (h:xz ns H):kinds ns=H:=by
 apply List.ext_getElem?;intro i;cases hi:H[i]? with
 | none =>
   have:H.length<=i:=List.getElem?_eq_none_iff.1 hi;exact Su (by rw [qe,h.len];exact this)
 | some k=>exact uj (h.each i k hi)
theorem fu {ns:List Nm} {H:List Ty} (h:xz ns H) {v:Nat} (hv:v<H.length):∀ n,v<n->n<=H.length->qM ns (jD v) n=some v
 | 0,h0,_=>by omega
 | n+1,hn,hl=>by
   rw [qM];obtain ⟨k,hk⟩:∃ k,H[n]? = some k:=⟨H[n],by simp [show n<H.length from by omega]⟩;rw [h.each n k hk];simp only [Py,Option.some.injEq];by_cases e:n=v
   ·subst e;rw [if_pos rfl]
   ·rw [if_neg (fun h'=>e (lname_inj h')),fu h hv n (by omega) (by omega)]
theorem xz.find {ns:List Nm} {H:List Ty} (h:xz ns H) {v:Nat} {t:Ty} (hv:H[v]? = some t):jI ns (jD v)=some v/\ns[v]? = some (jD v,t):=by
 have rH:=(List.getElem?_eq_some_iff.1 hv).1;exact ⟨by unfold jI;exact fu h rH _ (by rw [h.len];exact rH) (by rw [h.len];exact n9 _),h.each v t hv⟩
theorem atoms_tail {a:Ty} {ts:List Ty} (h:zJ (.mk (a::ts))<=15):zJ a<=15/\zJ (.mk ts)<=15:=by rw [jd] at h;omega
theorem lams_says:∀ (ts:List Ty) (ns:List Nm) (H:List Ty) (b:Tm) (x:Bd),xz ns H->zJ (.mk ts)<=15 ->
 (∀ ns',xz ns' (H++ts)->typeOf ns' b=some (.mk [])/\zT ns' b=some x)->typeOf ns (uK H.length ts b)=some (.mk ts)/\zT ns (uK H.length ts b)=some x
 | [],ns,H,b,x,hn,_,hb=>by rw [uK];exact hb ns (by rw [OY];exact hn)
 | t::ts,ns,H,b,x,hn,ha,hb=>by
   obtain ⟨h1,h2⟩:=atoms_tail ha;have key:=lams_says ts (ns++[(jD H.length,t)]) (H++[t]) b x (hn.snoc t) h2 (fun ns' h'=>hb ns' (by rw [Pi] at h';exact h'));rw [Ov] at key;rw [uK,typeOf,zT,if_neg (by omega)];have e:H.length+[t].length=H.length+1:=rfl;rw [e] at key;rw [key.1,key.2];simp only [Lx];have e2:z9 t (.mk ts)=.mk (t::ts):=rfl;rw [e2,if_neg (by omega)];refine ⟨?_,?_⟩ <;> first | rfl | trivial
def Says (N:Nat):Prop:=∀ (b:Bd) (H:List Ty) (ns:List Nm),zU b<=N->zU b<=60->qj H b->wfB b->xz ns H->(∀ t∈H,zJ t<=15)->typeOf ns (tmB H b)=some (.mk [])/\zT ns (tmB H b)=some b
theorem mC {N:Nat} (ih:Says N) {H:List Ty} {ns:List Nm} {k:Ty} {s:Bd} (hs:zU s<=N) (i7:zU s<=60) (hf:qj (H++k.args) s) (hw:wfB s) (hn:xz ns H) (hH:∀ t∈H,zJ t<=15) (hk:zJ k<=15) :
 typeOf ns (tmL H k s)=some k/\zT ns (tmL H k s)=some s:=by
 have ek:Ty.mk k.args=k:=by cases k;rfl
 have:=lams_says k.args ns H (tmB (H++k.args) s) s hn (by rw [ek];exact hk) fun ns' hn'=>ih s (H++k.args) ns' hs i7 hf hw hn' fun x hx=>by
  rcases List.mem_append.1 hx with hx | hx
  ·exact hH x hx
  ·exact qw hk x hx
 rw [ek] at this;exact this
theorem apps_says {N:Nat} (ih:Says N) {H:List Ty} {ns:List Nm} {v:Nat} {t:Ty} (hv:H[v]? = some t) (ht:zJ t<=15) (hn:xz ns H) (hH:∀ t∈H,zJ t<=15) :
 ∀ (m:Nat) (od:List Ty) (al:List Bd) (rest:List Ty),od.length=m->t.args=od++rest->qU (kD H od) al->vl al->zE al<=N->zE al<=60 ->
   typeOf ns (qi H (.nm (jD v)) od al)=some (.mk rest)/\zT ns (qi H (.nm (jD v)) od al)=some (uZ v H.length al rest)
 | 0,od,al,rest,hm,hts,hf,hw,_,_=>by
   obtain rfl:od=[]:=OQ hm;have hl:=kh _ _ hf;rw [kL] at hl;obtain rfl:al=[]:=OQ hl.symm;rw [OW] at hts;obtain ⟨h1,h2⟩:=hn.find hv;have et:Ty.mk rest=t:=by rw [<- hts];cases t;rfl
   rw [xr,typeOf,zT,h1];simp only [Lx];rw [h2];simp only [Py,Lx];refine ⟨by rw [et],?_⟩;have hz:=du t v ns.length;unfold uL;rw [if_pos (by omega),ei,hts,hn.len];unfold uZ;rw [jV,OW]
 | m+1,od,al,rest,hm,hts,hf,hw,hs,i7=>by
   obtain ⟨Kf,k,rfl⟩:∃ Kf k,od=Kf++[k]:=⟨od.dropLast,od.getLast (by intro e;rw [e] at hm;simp at hm),(RY _).symm⟩;have hl:=kh _ _ hf;rw [kL,Ov] at hl;obtain ⟨Kg,s,rfl⟩:∃ Kg s,al=Kg++[s]:=⟨al.dropLast,al.getLast (by intro e;rw [e] at hl;simp at hl),(RY _).symm⟩;have hl0:Kf.length=Kg.length:=by simpa using hl
   have EQ:=wW (kD H Kf) (kD H [k]) (Kg++[s]) (by unfold kD at *;rw [List.map_append] at hf;exact hf);rw [kL,hl0,List.take_left,List.drop_left] at EQ;obtain ⟨f0,f1⟩:=EQ;rw [qU] at f1;obtain ⟨h',lQ,e,f2,_⟩:=f1;simp only [kD,OU,List.map_nil,OL] at e;obtain ⟨rfl,_⟩:=e;obtain ⟨w0,w1⟩:=cD Kg [s] hw;rw [vl] at w1;rw [qh,zE,zE] at hs i7;have I2:t.args=Kf++k::rest:=by rw [hts,Pi];rfl
   obtain ⟨q1,q2⟩:=apps_says ih hv ht hn hH m Kf Kg (k::rest) (by simpa using hm) I2 f0 w0 (by omega) (by omega);have Cy:zJ k<=15:=qw ht k (by rw [I2];simp);obtain ⟨p1,p2⟩:=mC ih (k:=k) (s:=s) (by omega) (by omega) f2 w1.1 hn hH Cy;rw [gQ _ _ _ _ _ _ hl0,typeOf,zT,q1,q2,p1,p2];simp only [Lx,Ty.args,if_true];refine ⟨trivial,?_⟩;rw [hn.kinds,hn.len];exact app_step hv I2 ht f0 w0 f2 w1.1 (by omega)
theorem says_all:∀ N,Says N
 | 0=>fun b H ns h=>by have:=ze b;omega
 | N+1=>fun b H ns h i7 hf hw hn hH=>by
   have ih:=says_all N;cases b with
   | leaf c=>rw [tmB,typeOf,zT];exact ⟨rfl,rfl⟩
   | ask v ss y no =>
     rw [zU] at h i7;rw [qj] at hf;rw [wfB] at hw;obtain ⟨t,ht,f1,f2,f3⟩:=hf;have py:=ze y;have pn:=ze no;have rR:=hH t (List.mem_of_getElem? ht);obtain ⟨a1,a2⟩:=apps_says ih ht rR hn hH _ t.args ss [] rfl (by simp) f1 hw.1 (by omega) (by omega);obtain ⟨b1,b2⟩:=ih y H ns (by omega) (by omega) f2 hw.2.1 hn hH;obtain ⟨c1,c2⟩:=ih no H ns (by omega) (by omega) f3 hw.2.2 hn hH;have e:(H[v]?.map Ty.args).getD []=t.args:=by rw [ht];rfl
     rw [tmB,e,typeOf,zT,a1,a2,b1,b2,c1,c2];simp only [Lx,Ty.args,true_and,if_true];have hp:uZ v H.length ss []=.ask v ss (.leaf 116) (.leaf 102):=by
      unfold uZ;rw [Pd,up_zero,dX,jM,OY]
     rw [hp,Pd,bU,up_zero,dW,qV,qV,qV];simp only [if_true];rw [if_neg (by decide)];unfold uL;rw [if_pos (by rw [zU];omega)]
theorem ej:∀ (ts:List Ty) (n:Nat) (b:Tm),zS b<=zS (uK n ts b)
 | [],n,b=>n9 _
 | t::ts,n,b=>by have:=ej ts (n+1) b;rw [uK,zS];omega
mutual
theorem co:∀ (b:Bd) (H:List Ty),qj H b->zU b<=zS (tmB H b)
 | .leaf c,H,_=>by rw [tmB,zS,zU];omega
 | .ask v ss y n,H,h=>by
   rw [qj] at h;obtain ⟨t,ht,h1,h2,h3⟩:=h;have e:(H[v]?.map Ty.args).getD []=t.args:=by rw [ht];rfl
   have k1:=fN ss H t.args (.nm (jD v)) h1;have k2:=co y H h2;have k3:=co n H h3;rw [tmB,zS,zU,e];omega
theorem fN:∀ (ss:List Bd) (H ts:List Ty) (f:Tm),qU (kD H ts) ss->zE ss+zS f<=zS (qi H f ts ss)
 | [],H,ts,f,h=>by
   have:=kh _ _ h;rw [kL] at this;obtain rfl:ts=[]:=OQ this;rw [xr,zE];omega
 | s::ss,H,[],f,h=>by
   have:=kh _ _ h;rw [kL] at this;simp at this
 | s::ss,H,t::ts,f,h=>by
   rw [qU] at h;obtain ⟨h',lQ,e,f1,f2⟩:=h;simp only [kD,OU,OL] at e;obtain ⟨rfl,rfl⟩:=e;have k1:=fN ss H ts (.app f (tmL H t s)) f2;have k2:=co s (H++t.args) f1;have k3:=ej t.args H.length (tmB (H++t.args) s);rw [zS] at k1;rw [vR,zE];unfold tmL at *;omega
end
theorem term_means {t:Ty} {b:Bd} (hg:fB t b) (h:zS (vm t b)<=60):typeOf [] (vm t b)=some t/\zT [] (vm t b)=some b:=by
 have h1:=co b t.args hg.fit;have h2:=ej t.args 0 (tmB t.args b);have e:vm t b=uK 0 t.args (tmB t.args b):=by unfold vm tmL;simp
 rw [e] at h;have i7:zU b<=60:=by omega
 exact mC (says_all 60) (H:=[]) (ns:=[]) (k:=t) (s:=b) i7 i7 (by simpa using hg.fit) hg.wf xz.nil (by simp) hg.atoms
def uD:Tm->Prop
 | .nm x=>jP x=false
 | .wd w=>qL w=false
 | .lam x _ t=>jP x=false/\uD t
 | .app m n=>uD m/\uD n
 | .ite l m n=>uD l/\uD m/\uD n
theorem yq:∀ a b:Tm,xG a->uD b->kK a=kK b->a=b
 | .nm x,b,ha,hb,h=>by
   cases b with
   | nm y=>simp only [kK,Tr.am.injEq] at h;rw [h]
   | wd y =>
     simp only [kK,Tr.am.injEq] at h;subst h;have h1:qL x=true:=ha;have h2:qL x=false:=hb;rw [h1] at h2;simp at h2
   | lam y l u=>simp [kK] at h
   | app m n=>simp [kK] at h
   | ite l m n=>simp [kK] at h
 | .wd x,b,ha,hb,h=>by
   cases b with
   | wd y=>simp only [kK,Tr.am.injEq] at h;rw [h]
   | nm y =>
     simp only [kK,Tr.am.injEq] at h;subst h;have h1:jP x=true:=ha;have h2:jP x=false:=hb;rw [h1] at h2;simp at h2
   | lam y l u=>simp [kK] at h
   | app m n=>simp [kK] at h
   | ite l m n=>simp [kK] at h
 | .lam x k t,b,ha,hb,h=>by
   cases b with
   | lam y l u =>
     simp only [kK,Tr.ls.injEq,OL,Tr.am.injEq,and_true,true_and] at h;obtain ⟨rfl,hk,ht⟩:=h;obtain rfl:=eJ (show zL k=zL l from by rw [<- vJ,hk,vJ]);rw [yq t u ha.2 hb.2 ht]
   | nm y=>simp [kK] at h
   | wd y=>simp [kK] at h
   | app m n=>simp [kK] at h
   | ite l m n=>simp [kK,jo,ifW] at h
 | .app m n,b,ha,hb,h=>by
   cases b with
   | app p q =>
     simp only [kK,Tr.ls.injEq,OL,and_true,true_and] at h;rw [yq m p ha.1 hb.1 h.1,yq n q ha.2 hb.2 h.2]
   | nm y=>simp [kK] at h
   | wd y=>simp [kK] at h
   | lam y l u=>simp [kK] at h
   | ite l m n=>simp [kK] at h
 | .ite l m n,b,ha,hb,h=>by
   cases b with
   | ite o p q =>
     simp only [kK,Tr.ls.injEq,OL,and_true,true_and] at h;rw [yq l o ha.1 hb.1 h.1,yq m p ha.2.1 hb.2.1 h.2.1,yq n q ha.2.2 hb.2.2 h.2.2]
   | nm y=>simp [kK] at h
   | wd y=>simp [kK] at h
   | lam y l u=>simp [kK,jo,ifW] at h
   | app p q=>simp [kK] at h
theorem fL (v:Nat):jP (jD v)=false:=by
 unfold jP jD;simp
theorem leaf_plain {c:UInt8} (h:c=116\/c=102\/c=117):qL [c]=false:=by rcases h with rfl | rfl | rfl <;> decide
theorem cO:∀ (ts:List Ty) (n:Nat) (b:Tm),uD b->uD (uK n ts b)
 | [],n,b,h=>h
 | t::ts,n,b,h=>⟨fL n,cO ts (n+1) b h⟩
mutual
theorem bQ:∀ (b:Bd) (H:List Ty),wfB b->uD (tmB H b)
 | .leaf c,H,h=>by rw [wfB] at h;rw [tmB];exact leaf_plain h
 | .ask v ss y n,H,h=>by
   rw [wfB] at h;rw [tmB];exact ⟨dZ ss H _ _ h.1 (fL v),bQ y H h.2.1,bQ n H h.2.2⟩
theorem dZ:∀ (ss:List Bd) (H ts:List Ty) (f:Tm),vl ss->uD f->uD (qi H f ts ss)
 | ss,H,[],f,_,hf=>by rw [qi];exact hf
 | [],H,t::ts,f,_,hf=>by rw [qi];exact hf
 | s::ss,H,t::ts,f,h,hf=>by
   rw [vl] at h;rw [vR];exact dZ ss H ts _ h.2 ⟨hf,cO _ _ _ (bQ s _ h.1)⟩
end
theorem definable {s text out:Bs} (h:vZ s text=some out):∃ t b,kE s text=some b/\s=zL t/\text=kC b/\jy out=some (t,b):=by
 unfold vZ at h;rw [N0] at h;obtain ⟨b,hb,h⟩:=h;obtain ⟨hg,ht⟩:=gY hb;have hs:=(xb (gU hb).1).1;generalize (zR s).1=t at *;split at h
 ·rename_i hi;obtain rfl:=Option.some.inj h;cases hq:qC (zO (vm t b)) with
  | none=>rw [hq] at hi;simp at hi
  | some u =>
    obtain ⟨e,ho,i7⟩:=jh hq;obtain ⟨w1,_⟩:=termOf_good hg;have F1:uD (vm t b):=cO _ _ _ (bQ b _ hg.wf);obtain rfl:=yq u (vm t b) ho F1 (cE (vi u ho) (yw _ w1) e.symm);obtain ⟨m1,m2⟩:=term_means hg i7;refine ⟨t,b,hb,hs,ht,?_⟩;unfold jy;rw [hq,Lx,m1,Lx,m2];rfl
 ·simp at h

def wL (s:Bs):Option Bs:=(jy s).map fun x=>kC x.2
def termTy (s:Bs):Option Bs:=(wA s).map zL
theorem meaning_parts {s:Bs} {k:Ty} {b:Bd} (h:jy s=some (k,b)):∃ t,qC s=some t/\xG t/\s=zO t/\typeOf [] t=some k/\zT [] t=some b:=by
 unfold jy at h;simp only [N0,OA,Prod.mk.injEq] at h;obtain ⟨t,h1,k',h2,b',h3,rfl,rfl⟩:=h;obtain ⟨e,ho,_⟩:=jh h1;exact ⟨t,h1,ho,e,h2,h3⟩
theorem strat_some {s out:Bs} (h:wL s=some out):∃ k b,jy s=some (k,b)/\out=kC b/\fB k b/\termTy s=some (zL k):=by
 unfold wL at h;rw [OA] at h;obtain ⟨⟨k,b⟩,h1,rfl⟩:=h;obtain ⟨h2,h3⟩:=dF h1;exact ⟨k,b,h1,rfl,h3,by unfold termTy;rw [h2];rfl⟩
theorem meaning_law {s out:Bs} (h:wL s=some out):∃ kind,termTy s=some kind/\(∃ b,kE kind out=some b)/\∀ x,vZ kind out=some x->wL x=some out:=by
 obtain ⟨k,b,h1,rfl,hg,ht⟩:=strat_some h;refine ⟨zL k,ht,⟨b,yY hg⟩,fun x hx=>?_⟩;obtain ⟨t,c,h2,h3,h4,h5⟩:=definable hx;unfold wL;rw [h5,Py,<- h4]
theorem stratTerm_len {s text x:Bs} (h:vZ s text=some x):x.length<=1000:=by
 obtain ⟨t,b,_,_,_,h5⟩:=definable h;obtain ⟨u,h6,_⟩:=meaning_parts h5;obtain ⟨e,ho,i7⟩:=jh h6;rw [e];have:=v_ u ho;omega
theorem mE {s text:Bs} {b:Bd} (h:kE s text=some b):s.length<=100/\text.length<=2000:=by
 unfold kE at h;by_cases hq:(zR s).2=false\/2000<text.length
 ·rw [if_pos hq] at h;simp at h
 ·refine ⟨?_,by omega⟩
  have h1:(zR s).2=true:=by cases hz:(zR s).2 with
   | true=>rfl
   | false=>exact absurd (Or.inl hz) hq
  by_cases h2:s.length<=100
  ·exact h2
  ·unfold zR at h1;rw [if_pos (by omega)] at h1;simp at h1
set_option maxRecDepth 20000 in
theorem fnMeaning_any (a0:Option Addr) (len cap:Nat) (zs:List Int) (w:World) (h8:Row8 w a0 len cap zs) (hg:yF w) (he:xR w) :
 Calls Tryz.prog 3 #[.slice a0 len cap] w fun en w'=>en=.returned (.bool true)/\Below w.heap.size w w':=by
 by_cases hl:1048576<len
 ·have i5:(1048576:Int)<(len:Int):=by omega
  go_enter Tryz.func3,Tryz.ntmps3;go_wp2_with fail
  go_ret;exact ⟨rfl,rZ _ _⟩
 have i5:¬ (1048576:Int)<(len:Int):=by omega
 have CD:=n7 (gw a0 len cap zs w h8 (by omega));have HG:=n7 (n8 hg he);clear h8 hg he hl;go_enter Tryz.func3,Tryz.ntmps3;go_wp2_with fail
 (with_reducible refine CD.out.mono ?_)
 rintro en w1 ⟨s,rfl,hs,rW⟩;have sZ:=n7 rW;clear rW CD;have ls:Lim s.length:=show _<=_ by omega
 have C1:=n7 (uQ s w1 (HG.out.1.below sZ.out) (HG.out.2.below sZ.out) ls);have C2:=n7 (fun wz=>gV s wz ls);have C3:=n7 (fun wz=>eg s wz ls);have LAW:=n7 (fun out (h:gJ s=some out)=>@meaning_law s out h);have e:eX s=gJ s:=rfl;rw [e] at C2;obtain ⟨R,hR⟩:=zzN (gJ s);rw [hR] at C1 C2 LAW;clear ls hs hR e;go_wp2_with fail
 (with_reducible refine C1.out.mono ?_)
 rintro en w2 ⟨rfl,rY⟩;have rh:=n7 (zzT sZ.out rY);clear rY C1;go_wp2_with fail
 (with_reducible refine (C2.out w2).mono ?_)
 rintro en w3 ⟨rfl,rE⟩;have aZ:=n7 (zzT rh.out rE);clear rE C2;cases R with
 | none =>
   simp only [SJ,PF];go_wp2_with fail
   go_ret;exact ⟨rfl,aZ.out⟩
 | some out =>
   simp only [Ps,Pk];obtain ⟨kind,k1,⟨b,k2⟩,k3⟩:=LAW.out out rfl;obtain ⟨k4,k5⟩:=mE k2;have lk:Lim kind.length:=show _<=_ by omega
   have lo:Lim out.length:=show _<=_ by omega
   have e3:dS s=some kind:=k1;have K3:=n7 k3;have KL:=n7 (fun x (h:vZ kind out=some x)=>stratTerm_len h);rw [e3] at C3;have C4:=n7 (fun wz (hz:Below w.heap.size w wz)=>gu kind out wz (HG.out.1.below hz) lk lo);have C6:=n7 (fun wz (hz:Below w.heap.size w wz)=>implValid_any kind out lk lo wz (HG.out.1.below hz));rw [k2] at C6;simp only [Ps,Pk] at C3 C6;have e0:(out != out)=false:=by simp
   have e2:(out == out)=true:=by simp
   obtain ⟨Q,hQ⟩:=zzN (vZ kind out);rw [hQ] at C4 K3 KL;clear e3 k1 k2 k3 k4 k5 lk lo LAW hQ;go_wp2_with fail
   (with_reducible refine (C3.out w3).mono ?_);rintro en w4 ⟨rfl,rq⟩
   have lS:=n7 (zzT aZ.out rq);clear rq C3;go_wp2_with fail
   (with_reducible refine (C4.out w4 lS.out).mono ?_);rintro en w5 ⟨rfl,rx⟩
   have i8:=n7 (zzT lS.out rx);clear rx C4;cases Q with
   | none =>
     have C5:=n7 (uQ [] w5 (HG.out.1.below i8.out) (HG.out.2.below i8.out) (show _<=_ by simp));obtain ⟨R2,F_⟩:=zzN (gJ []);rw [F_] at C5;simp only [SJ,PF];clear F_ K3 KL;go_wp2_with fail
     (with_reducible refine C5.out.mono ?_);rintro en w6 ⟨rfl,rC⟩
     have sX:=n7 (zzT i8.out rC);clear rC C5;obtain ⟨X,hX⟩:=zzN (R2.getD []);obtain ⟨Y,hY⟩:=zzN (R2.isSome);rw [hX,hY];clear hX hY;go_wp2_with fail
     (with_reducible refine (C6.out w6 sX.out).mono ?_);rintro en w7 ⟨rfl,rP⟩
     have Ak:=n7 (zzT sX.out rP);clear rP C6;go_wp2_with fail
     go_ret;exact ⟨rfl,Ak.out⟩
   | some x =>
     have e5:=K3.out x rfl;have l5:=KL.out x rfl;have C5:=n7 (uQ x w5 (HG.out.1.below i8.out) (HG.out.2.below i8.out) (show _<=_ by omega));have e6:gJ x=some out:=e5;rw [e6] at C5;simp only [Ps,Pk] at C5;simp only [Ps,Pk];clear e5 e6 l5 K3 KL;go_wp2_with fail
     (with_reducible refine C5.out.mono ?_);rintro en w6 ⟨rfl,rC⟩
     have sX:=n7 (zzT i8.out rC);clear rC C5;go_wp2_with fail
     (with_reducible refine (C6.out w6 sX.out).mono ?_);rintro en w7 ⟨rfl,rP⟩
     have Ak:=n7 (zzT sX.out rP);clear rP C6;go_wp2_with fail
     go_ret;exact ⟨rfl,Ak.out⟩
end Go.Proofs.YtdhaafoiokkbnabGreatDoor
